/-
  The manager programs a page.
-/
import Derived.Test.YtkkkggeagjgbeaaBlkErase
namespace Go.Proofs.Ytkkkggeagjgbeaa
open Go.RowKit

section
variable {NB B : Nat} {S : Nat → Prop} {w : World} {g : Mg}
/-- The manager behind a page that was programmed in the open block k. -/
def prG (g : Mg) (k i : Nat) (bs : List UInt8) : Mg := { g with bl := upd g.bl k (pbNext (g.bl k) i bs), l := g.l.set k ⟨if i + 1 = 8 then 2 else (Gc.at_ g.l k).st, (Gc.at_ g.l k).live + 1, (Gc.at_ g.l k).wear, i + 1⟩, opn := if i + 1 = 8 then -1 else g.opn }
/-- What was programmed. -/
def Put (NB B : Nat) (S : Nat → Prop) (g : Mg) (w : World) (k i : Nat) (bs : List UInt8) (e : Ending) (w' : World) : Prop :=
  e = .returned (.tuple #[.int .i64 (k : Int), .int .i64 (i : Int), .int .i64 0]) ∧ MgM NB B (Up S w w') w' (prG g k i bs) ∧ Kq (Sm g S) w w'
set_option maxRecDepth 100000 in
set_option maxHeartbeats 16000000 in
/-- A block is open. -/
theorem bProgram_open (h : MgM NB B S w g) {k i : Nat} (hk : k < NB) (ho : g.opn = (k : Int)) (hi : i < 8) (hx : (Gc.at_ g.l k).nx = i) (hx2 : (Gc.at_ g.l k).live ≤ 1000) (hn : (g.bl k).nx = i) (hb1 : (g.bl k).bad = false) (hb2 : (g.bl k).broken = false)
    (a : Option Addr) (c : Nat) (bs : List UInt8) (hbs : Own byteV 5 w 0 (.slice a 96 c) bs) (hap : ∀ q, Value.ownBlock (.slice a 96 c) = some q → ¬ S q) :
    Calls Try.prog 12 #[.pointer (some ⟨g.M, 0, none⟩), .slice a 96 c] w (Put NB B S g w k i bs) := by
  have HR := Lib.hid (bready_calls h)
  have HG := Lib.hid (chGeo_calls h.hc)
  have HH := Lib.hid h
  have HX := Lib.hid hbs
  have HAp := Lib.hid hap
  have HN := Lib.hid hn
  have HB1 := Lib.hid hb1
  have HB2 := Lib.hid hb2
  have HXn := Lib.hid hx
  have HXl := Lib.hid hx2
  have HO := Lib.hid ho
  have m0 := h.m0
  have g1 : (0 : Int) ≤ (k : Int) := by omega
  have g2 : (k : Int) < (NB : Int) := by omega
  clear h hbs hap hn hb1 hb2 hx hx2 ho
  go_enter Try.func12, Try.ntmps12
  go_wp2
  go_step3
  go_wp2_with fail
  refine (HR.out).mono ?_
  rintro e w_ ⟨rfl, rfl⟩
  go_wp2_with fail
  refine HG.out.mono ?_
  rintro e w1 ⟨rfl, hb⟩
  have hf := geoF2 (.int .i64 (NB : Int)) (.int .i64 8) (.int .i64 64)
  have HH1 := Lib.hid (HH.out.on hb)
  have HK1 := Lib.hid hb
  have n2 := HH1.out.m2
  rw [HO.out] at n2
  have hno : ((k : Int) != -1) = true := by rw [bne_iff_ne]; omega
  have r3 := (HH1.out.r3 hk).1
  rw [HXn.out] at r3
  have n0 := HH1.out.m0
  have n1 := HH1.out.m1
  clear hb m0
  unfold geoV
  go_wp2_with fail
  go_step3
  go_wp2_with fail
  go_loopw [8, 9, 10, 11] (fun v8 v9 v10 _ wr => v8 = .int .i64 0 ∧ v9 = .int .i64 0 ∧ v10 = .int .i64 40 ∧ wr = w1) (fun _ _ _ _ _ => 0)
  case atStart => exact ⟨rfl, rfl, rfl, rfl⟩
  case round =>
    obtain ⟨rfl, rfl, rfl, hw⟩ := hrel
    subst hw
    have HX1 := Lib.hid (HX.out.on HK1.out)
    go_wp2_with fail
    refine (chProgram_calls HH1.out.hc hk hi HN.out HB1.out HB2.out a c bs HX1.out HAp.out).mono ?_
    rintro e w2 ⟨rfl, h2, hk2⟩
    have HG2 := Lib.hid (HH1.out.chip (ps' := g.ps) h2 hk2 (fun q hq => hq))
    have HK2 := Lib.hid ((Kq.of HK1.out).trans (hk2.mono (T' := Sm g S) fun q hq => .inr (.inr hq)))
    clear h2 hk2 n2 r3 n0 n1 hno
    have r1 := HG2.out.r1 hk
    have r3 := HG2.out.r3 hk
    simp only at r1 r3
    rw [HXn.out] at r3
    obtain ⟨r1, f1⟩ := r1
    obtain ⟨r3, f3⟩ := r3
    have hxl := HXl.out
    generalize hx : Gc.at_ g.l k = x at *
    have i1 := IntWalk.i64_in ((i : Int) + 1) ⟨by omega, by omega⟩
    have i2 := IntWalk.i64_in ((x.live : Int) + 1) ⟨by omega, by omega⟩
    go_upto_region 19 with fail
    have HXe := Lib.hid hx
    have hl2 := HG2.out.len
    simp only at hl2
    have q3 := HG2.out.setL hk (j := 3) (by omega) (.int .i64 ((i + 1 : Nat) : Int)) { x with nx := i + 1 } (by simp only [hx]; rfl)
    have q4 := q3.setL hk (j := 1) (by omega) (.int .i64 ((x.live + 1 : Nat) : Int)) ⟨x.st, x.live + 1, x.wear, i + 1⟩ (by rw [at_set _ _ (show k < g.l.length by omega)]; rfl)
    simp only [List.set_set] at q4
    have e1 : ((i + 1 : Nat) : Int) = (i : Int) + 1 := by omega
    have e2 : ((x.live + 1 : Nat) : Int) = (x.live : Int) + 1 := by omega
    rw [e1, e2] at q4
    have HG4 := Lib.hid q4
    have HK4 := Lib.hid ((HK2.out.setCell (p := ⟨g.ML, k * 4 + 3, none⟩) (.inl (.inr (.inl rfl))) (.int .i64 ((i : Int) + 1))).setCell (p := ⟨g.ML, k * 4 + 1, none⟩) (.inl (.inr (.inl rfl))) (.int .i64 ((x.live : Int) + 1)))
    clear q3 q4 e1 e2 r1 f1 r3 f3 hx
    have HSz := Lib.hid (show w2.heap.size = ((w2.setCell ⟨g.ML, k * 4 + 3, none⟩ (.int .i64 ((i : Int) + 1))).setCell ⟨g.ML, k * 4 + 1, none⟩ (.int .i64 ((x.live : Int) + 1))).heap.size by simp only [World.size_setCell])
    generalize ((w2.setCell ⟨g.ML, k * 4 + 3, none⟩ (.int .i64 ((i : Int) + 1))).setCell ⟨g.ML, k * 4 + 1, none⟩ (.int .i64 ((x.live : Int) + 1))) = w4 at *
    have HG5 := Lib.hid (HG4.out.on (below_drew w4))
    have HK5 := Lib.hid (HK4.out.on (below_drew w4))
    have n3 := (HG5.out.r3 hk).1
    rw [at_set _ _ (show k < g.l.length by omega)] at n3
    have n3 : w4.drew.cell? ⟨g.ML, k * 4 + 3, none⟩ = some (.int .i64 ((i : Int) + 1)) := n3
    refine wp_region_noPanic ?_
    refine wp_region_held_drew (S := (fun W' => W'.cell? ⟨g.ML, k * 4 + 3, none⟩ = some (.int .i64 ((i : Int) + 1)))) (by kernel_rfl) n3 (fun hS0 => ?_)
    have HSz5 := Lib.hid (show w2.heap.size = w4.drew.heap.size from HSz.out)
    generalize w4.drew = w5 at *
    refine takeV 0 (v := (.pointer (some ⟨g.ML, k * 4, none⟩))) rfl (by kernel_rfl) (by kernel_rfl) (by kernel_rfl) (fun _ _ _ h => h) (by rfl) (fun _ _ => rfl) (by assumption) ?_
    try simp only [layR]
    refine takeV 1 (v := (.pointer (some ⟨g.ML, k * 4, none⟩))) rfl (by kernel_rfl) (by kernel_rfl) (by kernel_rfl) (fun _ _ _ h => h) (by rfl) (fun W hSw => ?_) (by assumption) ?_
    · skip
      go_simp
    try simp only [layR]
    refine takeV 2 (v := (.pointer (some ⟨g.ML, k * 4 + 3, none⟩))) rfl (by kernel_rfl) (by kernel_rfl) (by kernel_rfl) (fun _ _ _ h => h) (by rfl) (fun W hSw => ?_) (by assumption) ?_
    · skip
      go_simp
    try simp only [layR]
    refine takeV 3 (v := (.int .i64 ((i : Int) + 1))) rfl (by kernel_rfl) (by kernel_rfl) (by kernel_rfl) (fun _ _ _ h => h) (by rfl) (fun W hSw => ?_) (by assumption) ?_
    · skip
      go_simp
    try simp only [layR]
    refine takeV 4 (v := (.pointer (some ⟨g.M, 0, none⟩))) rfl (by kernel_rfl) (by kernel_rfl) (by kernel_rfl) (fun _ _ _ h => h) (by rfl) (fun _ _ => rfl) (by assumption) ?_
    try simp only [layR]
    refine wpAnyH_ready (rs := [5]) (by kernel_rfl) (by simp) ?_
    refine AllReadyH.cons rfl (fun K' hK => ?_) AllReadyH.nil
    go_simp
    refine (bpages_calls HG5.out).mono ?_
    rintro e w6 ⟨rfl, hb⟩
    have HG6 := Lib.hid (HG5.out.on hb)
    have HK6 := Lib.hid (HK5.out.on hb)
    have HSz6 := Lib.hid (Nat.le_trans (Nat.le_of_eq HSz5.out) hb.size)
    have n6 := cell_on n3 hb
    clear hb
    refine hK.out _ _ n6 (fun hS1 => ?_)
    try simp only [layR]
    refine takeV 6 (v := (.bool ((i : Int) + 1 == 8))) rfl (by kernel_rfl) (by kernel_rfl) (by kernel_rfl) (fun _ _ _ h => h) (by rfl) (fun W hSw => ?_) (by assumption) ?_
    · skip
      go_simp
    try simp only [layR]
    refine wpAnyH_done (by kernel_rfl) ?_ _
    refine NoPanic.normal ?_
    clear hS0 hS1 n3 n6
    cases he : ((i : Int) + 1 == 8)
    · have hne : ¬ (i + 1 = 8) := by rw [beq_eq_false_iff_ne] at he; omega
      have HNe := Lib.hid hne
      clear hne
      go_wp2_with fail
      refine bodyPost_ret (v := .tuple #[.int .i64 (k : Int), .int .i64 (i : Int), .int .i64 0]) (by simp [results, Try.results12, go_sem]) rfl ⟨rfl, ?_, HK6.out⟩
      have hp := HG6.out.re HH.out.base HH.out.ltM HH.out.ltL HK1.out.size HSz6.out
      unfold prG
      rw [if_neg HNe.out, if_neg HNe.out, HXe.out]
      exact hp
    · have hne : i + 1 = 8 := by rw [beq_iff_eq] at he; omega
      have HNe := Lib.hid hne
      clear hne
      go_wp2_with fail
      refine (bClose_calls HG6.out hk (by rw [at_set _ _ (show k < g.l.length by omega)]; show 0 < x.live + 1; omega) HO.out).mono ?_
      rintro e w7 ⟨rfl, h7, hk7⟩
      have HG7 := Lib.hid h7
      have HK7 := Lib.hid (HK6.out.trans (hk7.mono (T' := Sm g S) fun q hq => by rcases hq with h | h; exact .inl h; exact .inr (.inl h)))
      have HSz7 := Lib.hid (Nat.le_trans HSz6.out hk7.size)
      clear h7 hk7
      go_wp2_with fail
      refine bodyPost_ret (v := .tuple #[.int .i64 (k : Int), .int .i64 (i : Int), .int .i64 0]) (by simp [results, Try.results12, go_sem]) rfl ⟨rfl, ?_, HK7.out⟩
      have hp := HG7.out.re HH.out.base HH.out.ltM HH.out.ltL HK1.out.size HSz7.out
      rw [at_set _ _ (show k < g.l.length by omega)] at hp
      simp only [List.set_set] at hp
      unfold prG
      rw [if_pos HNe.out, if_pos HNe.out, HXe.out]
      exact hp
end
end Go.Proofs.Ytkkkggeagjgbeaa
