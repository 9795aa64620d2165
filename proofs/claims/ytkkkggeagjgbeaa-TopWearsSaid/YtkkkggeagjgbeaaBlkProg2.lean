/-
  The manager programs a page: one block is opened.
-/
import Derived.Test.YtkkkggeagjgbeaaBlkProg
namespace Go.Proofs.Ytkkkggeagjgbeaa
open Go.RowKit

section
variable {NB B : Nat} {S : Nat → Prop} {w : World} {g : Mg}
def beG (g : Mg) (a : Nat) : Mg := { g with l := g.l.set a ⟨1, 0, (Gc.at_ g.l a).wear, 0⟩, opn := (a : Int) }
set_option maxRecDepth 100000 in
set_option maxHeartbeats 16000000 in
/-- None is open: one is opened. -/
theorem bProgram_begin (h : MgM NB B S w g) {k : Nat} (hbs2 : Gc.best isFree Gc.worn g.l NB = some k) (ho : g.opn = -1) (hn : (g.bl k).nx = 0) (hb1 : (g.bl k).bad = false) (hb2 : (g.bl k).broken = false)
    (a : Option Addr) (c : Nat) (bs : List UInt8) (hbs : Own byteV 5 w 0 (.slice a 96 c) bs) (hap : ∀ q, Value.ownBlock (.slice a 96 c) = some q → ¬ Sm g S q) :
    Calls Try.prog 12 #[.pointer (some ⟨g.M, 0, none⟩), .slice a 96 c] w (Put NB B S (beG g k) w k 0 bs) := by
  have hk := (Gc.best_some hbs2).1
  have HR := Lib.hid (bready_calls h)
  have HG := Lib.hid (chGeo_calls h.hc)
  have HH := Lib.hid h
  have HX := Lib.hid hbs
  have HAp := Lib.hid hap
  have HN := Lib.hid hn
  have HB1 := Lib.hid hb1
  have HB2 := Lib.hid hb2
  have HBs := Lib.hid hbs2
  have HBg := Lib.hid (show beG g k = { g with l := g.l.set k ⟨1, 0, (Gc.at_ g.l k).wear, 0⟩, opn := (k : Int) } from rfl)
  have HO := Lib.hid ho
  have m0 := h.m0
  have g1 : (0 : Int) ≤ (k : Int) := by omega
  have g2 : (k : Int) < (NB : Int) := by omega
  clear h hbs hap hn hb1 hb2 hbs2 ho
  go_enter Try.func12, Try.ntmps12
  go_wp2
  go_step3
  go_wp2_with fail
  refine (HR.out).mono ?_
  rintro e w_ ⟨rfl, rfl⟩
  go_wp2_with fail
  refine HG.out.mono ?_
  rintro e w1 ⟨rfl, hb⟩
  have hf := geoF2 (.int .i64 (NB : Int)) (.int .i64 8) (.int .i64 64)
  have HH1 := Lib.hid (HH.out.on hb)
  have HK1 := Lib.hid hb
  have n2 := HH1.out.m2
  rw [HO.out] at n2
  have n0 := HH1.out.m0
  have n1 := HH1.out.m1
  clear hb m0
  unfold geoV
  go_wp2_with fail
  go_step3
  go_wp2_with fail
  go_loopw [8, 9, 10, 11] (fun v8 v9 v10 _ wr => v8 = .int .i64 0 ∧ v9 = .int .i64 0 ∧ v10 = .int .i64 40 ∧ wr = w1) (fun _ _ _ _ _ => 0)
  case atStart => exact ⟨rfl, rfl, rfl, rfl⟩
  case round =>
    obtain ⟨rfl, rfl, rfl, hw⟩ := hrel
    subst hw
    have HX1 := Lib.hid (HX.out.on HK1.out)
    go_wp2_with fail
    refine (bBegin_calls HH1.out).mono ?_
    unfold Began
    rw [HBs.out]
    rintro e w1 ⟨rfl, h1, hk1⟩
    have HGb := Lib.hid (show MgM NB B S w1 (beG g k) from h1)
    have HKb := Lib.hid ((Kq.of HK1.out).trans (hk1.mono (T' := Sm g S) fun q hq => by rcases hq with h | h; exact .inl h; exact .inr (.inl h)))
    have HX2 := Lib.hid (HX1.out.kq hk1 fun q hq hm => HAp.out q hq (by rcases hm with h | h; exact .inl h; exact .inr (.inl h)))
    clear h1 hk1 n2 n0 n1
    have n0 := HGb.out.m0
    have n1 := HGb.out.m1
    have n2 := HGb.out.m2
    have r3 := (HGb.out.r3 hk).1
    unfold beG at n0 n1 n2 r3
    simp only at n0 n1 n2 r3
    rw [at_set _ _ (by rw [HH.out.len]; exact hk)] at r3
    have r3 : w1.cell? ⟨g.ML, k * 4 + 3, none⟩ = some (.int .i64 0) := r3
    go_wp2_with fail
    refine (chProgram_calls HGb.out.hc hk (i := 0) (by omega) HN.out HB1.out HB2.out a c bs HX2.out (fun q hq hs => HAp.out q hq (.inr (.inr hs)))).mono ?_
    rintro e w2 ⟨rfl, h2, hk2⟩
    have HG2 := Lib.hid (HGb.out.chip (ps' := g.ps) h2 hk2 (fun q hq => hq))
    have HK2 := Lib.hid (HKb.out.trans (hk2.mono (T' := Sm g S) fun q hq => .inr (.inr hq)))
    have hl2 := HH.out.len
    have hat : Gc.at_ (g.l.set k ⟨1, 0, (Gc.at_ g.l k).wear, 0⟩) k = ⟨1, 0, (Gc.at_ g.l k).wear, 0⟩ := at_set _ _ (by omega)
    have HAt := Lib.hid hat
    have r3 := HG2.out.r3 hk
    have r1 := HG2.out.r1 hk
    unfold beG at r1 r3
    simp only at r1 r3
    rw [hat] at r1 r3
    obtain ⟨r1, f1⟩ := r1
    obtain ⟨r3, f3⟩ := r3
    have r1 : w2.cell? ⟨g.ML, k * 4 + 1, none⟩ = some (.int .i64 0) := r1
    have r3 : w2.cell? ⟨g.ML, k * 4 + 3, none⟩ = some (.int .i64 0) := r3
    generalize hwr : (Gc.at_ g.l k).wear = wv at *
    have HWv := Lib.hid hwr
    have q3 := HG2.out.setL hk (j := 3) (by omega) (.int .i64 1) ⟨1, 0, wv, 1⟩ (by unfold beG; simp only [hwr]; rw [hat]; rfl)
    have q4 := q3.setL hk (j := 1) (by omega) (.int .i64 1) ⟨1, 1, wv, 1⟩ (by rw [at_set _ _ (by unfold beG; simp only [List.length_set]; omega)]; rfl)
    have HSz := Lib.hid (show w2.heap.size = ((w2.setCell ⟨g.ML, k * 4 + 3, none⟩ (.int .i64 1)).setCell ⟨g.ML, k * 4 + 1, none⟩ (.int .i64 1)).heap.size by simp only [World.size_setCell])
    have HK4 := Lib.hid ((HK2.out.setCell (p := ⟨g.ML, k * 4 + 3, none⟩) (.inl (.inr (.inl rfl))) (.int .i64 1)).setCell (p := ⟨g.ML, k * 4 + 1, none⟩) (.inl (.inr (.inl rfl))) (.int .i64 1))
    have HG4 := Lib.hid (show MgM NB B (Up S w1 w2) ((w2.setCell ⟨g.ML, k * 4 + 3, none⟩ (.int .i64 1)).setCell ⟨g.ML, k * 4 + 1, none⟩ (.int .i64 1)) { g with bl := upd g.bl k (pbNext (g.bl k) 0 bs), l := g.l.set k ⟨1, 1, wv, 1⟩, opn := (k : Int) } by unfold beG at q4; simp only [List.set_set] at q4; exact q4)
    clear q3 q4 h2 hk2 hat hwr n0 n1 n2
    go_upto_region 19 with fail
    clear r1 f1 r3 f3
    generalize ((w2.setCell ⟨g.ML, k * 4 + 3, none⟩ (.int .i64 1)).setCell ⟨g.ML, k * 4 + 1, none⟩ (.int .i64 1)) = w4 at *
    have HG5 := Lib.hid (HG4.out.on (below_drew w4))
    have HK5 := Lib.hid (HK4.out.on (below_drew w4))
    have n3 := (HG5.out.r3 hk).1
    rw [at_set _ _ (show k < g.l.length by omega)] at n3
    have n3 : w4.drew.cell? ⟨g.ML, k * 4 + 3, none⟩ = some (.int .i64 1) := n3
    refine wp_region_noPanic ?_
    refine wp_region_held_drew (S := (fun W' => W'.cell? ⟨g.ML, k * 4 + 3, none⟩ = some (.int .i64 1))) (by kernel_rfl) n3 (fun hS0 => ?_)
    have HSz5 := Lib.hid (show w2.heap.size = w4.drew.heap.size from HSz.out)
    generalize w4.drew = w5 at *
    refine takeV 0 (v := (.pointer (some ⟨g.ML, k * 4, none⟩))) rfl (by kernel_rfl) (by kernel_rfl) (by kernel_rfl) (fun _ _ _ h => h) (by rfl) (fun _ _ => rfl) (by assumption) ?_
    try simp only [layR]
    refine takeV 1 (v := (.pointer (some ⟨g.ML, k * 4, none⟩))) rfl (by kernel_rfl) (by kernel_rfl) (by kernel_rfl) (fun _ _ _ h => h) (by rfl) (fun W hSw => ?_) (by assumption) ?_
    · skip
      go_simp
    try simp only [layR]
    refine takeV 2 (v := (.pointer (some ⟨g.ML, k * 4 + 3, none⟩))) rfl (by kernel_rfl) (by kernel_rfl) (by kernel_rfl) (fun _ _ _ h => h) (by rfl) (fun W hSw => ?_) (by assumption) ?_
    · skip
      go_simp
    try simp only [layR]
    refine takeV 3 (v := (.int .i64 1)) rfl (by kernel_rfl) (by kernel_rfl) (by kernel_rfl) (fun _ _ _ h => h) (by rfl) (fun W hSw => ?_) (by assumption) ?_
    · skip
      go_simp
    try simp only [layR]
    refine takeV 4 (v := (.pointer (some ⟨g.M, 0, none⟩))) rfl (by kernel_rfl) (by kernel_rfl) (by kernel_rfl) (fun _ _ _ h => h) (by rfl) (fun _ _ => rfl) (by assumption) ?_
    try simp only [layR]
    refine wpAnyH_ready (rs := [5]) (by kernel_rfl) (by simp) ?_
    refine AllReadyH.cons rfl (fun K' hK => ?_) AllReadyH.nil
    go_simp
    refine (bpages_calls HG5.out).mono ?_
    rintro e w6 ⟨rfl, hb⟩
    have HG6 := Lib.hid (HG5.out.on hb)
    have HK6 := Lib.hid (HK5.out.on hb)
    have HSz6 := Lib.hid (Nat.le_trans (Nat.le_of_eq HSz5.out) hb.size)
    have n6 := cell_on n3 hb
    clear hb
    refine hK.out _ _ n6 (fun hS1 => ?_)
    try simp only [layR]
    refine takeV 6 (v := (.bool false)) rfl (by kernel_rfl) (by kernel_rfl) (by kernel_rfl) (fun _ _ _ h => h) (by rfl) (fun W hSw => ?_) (by assumption) ?_
    · skip
      go_simp
    try simp only [layR]
    refine wpAnyH_done (by kernel_rfl) ?_ _
    refine NoPanic.normal ?_
    clear hS0 hS1 n3 n6
    go_wp2_with fail
    refine bodyPost_ret (v := .tuple #[.int .i64 (k : Int), .int .i64 0, .int .i64 0]) (by simp [results, Try.results12, go_sem]) rfl ⟨rfl, ?_, HK6.out⟩
    have hs1 := HKb.out.size
    have hp := HG6.out.re HH.out.base HH.out.ltM HH.out.ltL hs1 HSz6.out
    unfold prG beG
    simp only [HWv.out, HAt.out, List.set_set]
    exact hp
set_option maxRecDepth 100000 in
set_option maxHeartbeats 16000000 in
/-- None is open, none is free. -/
theorem bProgram_full (h : MgM NB B S w g) (hbs2 : Gc.best isFree Gc.worn g.l NB = none) (ho : g.opn = -1) (a : Option Addr) (c : Nat) :
    Calls Try.prog 12 #[.pointer (some ⟨g.M, 0, none⟩), .slice a 96 c] w fun e w' => e = .returned (.tuple #[.int .i64 0, .int .i64 0, .int .i64 40]) ∧ Below w.heap.size w w' := by
  have HR := Lib.hid (bready_calls h)
  have HG := Lib.hid (chGeo_calls h.hc)
  have HH := Lib.hid h
  have HO := Lib.hid ho
  have HBs := Lib.hid hbs2
  have m0 := h.m0
  clear h ho hbs2
  go_enter Try.func12, Try.ntmps12
  go_wp2
  go_step3
  go_wp2_with fail
  refine (HR.out).mono ?_
  rintro e w_ ⟨rfl, rfl⟩
  go_wp2_with fail
  refine HG.out.mono ?_
  rintro e w1 ⟨rfl, hb⟩
  have hf := geoF2 (.int .i64 (NB : Int)) (.int .i64 8) (.int .i64 64)
  have HH1 := Lib.hid (HH.out.on hb)
  have HK1 := Lib.hid hb
  have n2 := HH1.out.m2
  rw [HO.out] at n2
  clear hb m0
  unfold geoV
  go_wp2_with fail
  go_step3
  go_wp2_with fail
  go_loopw [8, 9, 10, 11] (fun v8 v9 v10 _ wr => v8 = .int .i64 0 ∧ v9 = .int .i64 0 ∧ v10 = .int .i64 40 ∧ wr = w1) (fun _ _ _ _ _ => 0)
  case atStart => exact ⟨rfl, rfl, rfl, rfl⟩
  case round =>
    obtain ⟨rfl, rfl, rfl, hw⟩ := hrel
    subst hw
    go_wp2_with fail
    refine (bBegin_calls HH1.out).mono ?_
    unfold Began
    rw [HBs.out]
    rintro e w1 ⟨rfl, hb⟩
    have HK2 := Lib.hid (HK1.out.then_ hb)
    clear hb n2
    go_wp2_with fail
    rw [Exit.noGoto_ret]
    refine bodyPost_ret (v := .tuple #[.int .i64 0, .int .i64 0, .int .i64 40]) (by simp [results, Try.results12, go_sem]) rfl ⟨rfl, HK2.out⟩
end
end Go.Proofs.Ytkkkggeagjgbeaa
