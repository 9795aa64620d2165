import Derived.Test.YtcppkaphlcflgaaGreatBlkBegin
namespace Go.Proofs.YtcppkaphlcflgaaGreat
open Lib (hid)
set_option maxRecDepth 100000
set_option maxHeartbeats 16000000
section
open Go.RowKit

section
variable {NB B : Nat} {S : Nat → Prop} {w : World} {g : Mg}
theorem MgM.re {w0 wa wb : World} (h : MgM NB B (Up S wa wb) w g) (h0 : B ≤ w0.heap.size) (hM : g.M < w0.heap.size) (hL : g.ML < w0.heap.size) (h1 : w0.heap.size ≤ wa.heap.size) (hs : wb.heap.size ≤ w.heap.size) : MgM NB B (Up S w0 w) w g :=
 ⟨h.hM, h.hL, h.hc.re h0 h1 hs, h.ne, fun h2 => h.sM (.inl (up_of h2 hM)), fun h2 => h.sL (.inl (up_of h2 hL)), h.bM, h.bL, h.nb⟩
end
end
section
open Go.RowKit

section
variable {NB B : Nat} {S : Nat → Prop} {w : World} {g : Mg}
def prG (g : Mg) (k i : Nat) (bs : List UInt8) : Mg := { g with bl := upd g.bl k (pbNext (g.bl k) i bs), l := g.l.set k ⟨if i + 1 = 8 then 2 else (Gc.at_ g.l k).st, (Gc.at_ g.l k).live + 1, (Gc.at_ g.l k).wear, i + 1⟩, opn := if i + 1 = 8 then -1 else g.opn }
def Put (NB B : Nat) (S : Nat → Prop) (g : Mg) (w : World) (k i : Nat) (bs : List UInt8) (e : Ending) (w' : World) : Prop :=
 e = .returned (.tuple #[.int .i64 (k : Int), .int .i64 (i : Int), .int .i64 0]) ∧ MgM NB B (Up S w w') w' (prG g k i bs) ∧ Kq (Sm g S) w w'
theorem bProgram_open (h : MgM NB B S w g) {k i : Nat} (hk : k < NB) (ho : g.opn = (k : Int)) (hi : i < 8) (hx : (Gc.at_ g.l k).nx = i) (hx2 : (Gc.at_ g.l k).live ≤ 1000) (hn : (g.bl k).nx = i) (hb1 : (g.bl k).bad = false) (hb2 : (g.bl k).broken = false)
  (a : Option Addr) (c : Nat) (bs : List UInt8) (hbs : Own byteV 5 w 0 (.slice a 96 c) bs) (hap : ∀ q, Value.ownBlock (.slice a 96 c) = some q → ¬ S q) :
  Calls Tryz.prog 180 #[.pointer (some ⟨g.M, 0, none⟩), .slice a 96 c] w (Put NB B S g w k i bs) := by
 have HR := hid (bready_calls h)
 have HG := hid (chGeo_calls h.hc)
 have HH := hid h
 have HX := hid hbs
 have HAp := hid hap
 have HN := hid hn
 have HB1 := hid hb1
 have HB2 := hid hb2
 have HXn := hid hx
 have HXl := hid hx2
 have HO := hid ho
 have m0 := h.m0
 have g1 : (0 : Int) ≤ (k : Int) := by omega
 have g2 : (k : Int) < (NB : Int) := by omega
 clear h hbs hap hn hb1 hb2 hx hx2 ho
 go_enter Tryz.func180, Tryz.ntmps180
 go_wp2
 go_step3
 go_wp2_with fail
 refine (HR.out).mono ?_
 rintro e w_ ⟨rfl, rfl⟩
 go_wp2_with fail
 refine HG.out.mono ?_
 rintro e w1 ⟨rfl, hb⟩
 have hf := geoF2 (.int .i64 (NB : Int)) (.int .i64 8) (.int .i64 64)
 have HH1 := hid (HH.out.on hb)
 have HK1 := hid hb
 have n2 := HH1.out.m2
 rw [HO.out] at n2
 have hno : ((k : Int) != -1) = true := by rw [bne_iff_ne]; omega
 have r3 := (HH1.out.r3 hk).1
 rw [HXn.out] at r3
 have n0 := HH1.out.m0
 have n1 := HH1.out.m1
 clear hb m0
 unfold geoV
 go_wp2_with fail
 go_step3
 go_wp2_with fail
 go_loopw [8, 9, 10, 11] (fun v8 v9 v10 _ wr => v8 = .int .i64 0 ∧ v9 = .int .i64 0 ∧ v10 = .int .i64 40 ∧ wr = w1) (fun _ _ _ _ _ => 0)
 case atStart => exact ⟨rfl, rfl, rfl, rfl⟩
 case round =>
  obtain ⟨rfl, rfl, rfl, hw⟩ := hrel
  subst hw
  have HX1 := hid (HX.out.on HK1.out)
  go_wp2_with fail
  refine (chProgram_calls HH1.out.hc hk hi HN.out HB1.out HB2.out a c bs HX1.out HAp.out).mono ?_
  rintro e w2 ⟨rfl, h2, hk2⟩
  have HG2 := hid (HH1.out.chip (ps' := g.ps) h2 hk2 (fun q hq => hq))
  have HK2 := hid ((Kq.of HK1.out).trans (hk2.mono (T' := Sm g S) fun q hq => .inr (.inr hq)))
  clear h2 hk2 n2 r3 n0 n1 hno
  have r1 := HG2.out.r1 hk
  have r3 := HG2.out.r3 hk
  simp only at r1 r3
  rw [HXn.out] at r3
  obtain ⟨r1, f1⟩ := r1
  obtain ⟨r3, f3⟩ := r3
  have hxl := HXl.out
  generalize hx : Gc.at_ g.l k = x at *
  have i1 := IntWalk.i64_in ((i : Int) + 1) ⟨by omega, by omega⟩
  have i2 := IntWalk.i64_in ((x.live : Int) + 1) ⟨by omega, by omega⟩
  go_upto_region 19 with fail
  have HXe := hid hx
  have hl2 := HG2.out.len
  simp only at hl2
  have q3 := HG2.out.setL hk (j := 3) (by omega) (.int .i64 ((i + 1 : Nat) : Int)) { x with nx := i + 1 } (by simp only [hx]; rfl)
  have q4 := q3.setL hk (j := 1) (by omega) (.int .i64 ((x.live + 1 : Nat) : Int)) ⟨x.st, x.live + 1, x.wear, i + 1⟩ (by rw [at_set _ _ (show k < g.l.length by omega)]; rfl)
  simp only [List.set_set] at q4
  have e1 : ((i + 1 : Nat) : Int) = (i : Int) + 1 := by omega
  have e2 : ((x.live + 1 : Nat) : Int) = (x.live : Int) + 1 := by omega
  rw [e1, e2] at q4
  have HG4 := hid q4
  have HK4 := hid ((HK2.out.setCell (p := ⟨g.ML, k * 4 + 3, none⟩) (.inl (.inr (.inl rfl))) (.int .i64 ((i : Int) + 1))).setCell (p := ⟨g.ML, k * 4 + 1, none⟩) (.inl (.inr (.inl rfl))) (.int .i64 ((x.live : Int) + 1)))
  clear q3 q4 e1 e2 r1 f1 r3 f3 hx
  have HSz := hid (show w2.heap.size = ((w2.setCell ⟨g.ML, k * 4 + 3, none⟩ (.int .i64 ((i : Int) + 1))).setCell ⟨g.ML, k * 4 + 1, none⟩ (.int .i64 ((x.live : Int) + 1))).heap.size by simp only [World.size_setCell])
  generalize ((w2.setCell ⟨g.ML, k * 4 + 3, none⟩ (.int .i64 ((i : Int) + 1))).setCell ⟨g.ML, k * 4 + 1, none⟩ (.int .i64 ((x.live : Int) + 1))) = w4 at *
  have HG5 := hid (HG4.out.on (below_drew w4))
  have HK5 := hid (HK4.out.on (below_drew w4))
  have n3 := (HG5.out.r3 hk).1
  rw [at_set _ _ (show k < g.l.length by omega)] at n3
  have n3 : w4.drew.cell? ⟨g.ML, k * 4 + 3, none⟩ = some (.int .i64 ((i : Int) + 1)) := n3
  refine wp_region_noPanic ?_
  refine wp_region_held_drew (S := (fun W' => W'.cell? ⟨g.ML, k * 4 + 3, none⟩ = some (.int .i64 ((i : Int) + 1)))) (by kernel_rfl) n3 (fun hS0 => ?_)
  have HSz5 := hid (show w2.heap.size = w4.drew.heap.size from HSz.out)
  generalize w4.drew = w5 at *
  refine tk 0 ((.pointer (some ⟨g.ML, k * 4, none⟩))) rfl (fun _ _ => rfl) ?_
  try simp only [layR]
  refine tk 1 ((.pointer (some ⟨g.ML, k * 4, none⟩))) rfl (fun W hSw => ?_) ?_
  ·skip
   go_simp
  try simp only [layR]
  refine tk 2 ((.pointer (some ⟨g.ML, k * 4 + 3, none⟩))) rfl (fun W hSw => ?_) ?_
  ·skip
   go_simp
  try simp only [layR]
  refine tk 3 ((.int .i64 ((i : Int) + 1))) rfl (fun W hSw => ?_) ?_
  ·skip
   go_simp
  try simp only [layR]
  refine tk 4 ((.pointer (some ⟨g.M, 0, none⟩))) rfl (fun _ _ => rfl) ?_
  try simp only [layR]
  refine rd 5 rfl (fun K' hK => ?_)
  go_simp
  refine (bpages_calls HG5.out).mono ?_
  rintro e w6 ⟨rfl, hb⟩
  have HG6 := hid (HG5.out.on hb)
  have HK6 := hid (HK5.out.on hb)
  have HSz6 := hid (Nat.le_trans (Nat.le_of_eq HSz5.out) hb.size)
  have n6 := cell_on n3 hb
  clear hb
  refine hK.out _ _ n6 (fun hS1 => ?_)
  try simp only [layR]
  refine tk 6 ((.bool ((i : Int) + 1 == 8))) rfl (fun W hSw => ?_) ?_
  ·skip
   go_simp
  try simp only [layR]
  refine wpAnyH_done (by kernel_rfl) ?_ _
  refine NoPanic.normal ?_
  clear hS0 hS1 n3 n6
  cases he : ((i : Int) + 1 == 8)
  ·have hne : ¬ (i + 1 = 8) := by rw [beq_eq_false_iff_ne] at he; omega
   have HNe := hid hne
   clear hne
   go_wp2_with fail
   refine bodyPost_ret (v := .tuple #[.int .i64 (k : Int), .int .i64 (i : Int), .int .i64 0]) (by simp [results, Tryz.results180, go_sem]) rfl ⟨rfl, ?_, HK6.out⟩
   have hp := HG6.out.re HH.out.base HH.out.ltM HH.out.ltL HK1.out.size HSz6.out
   unfold prG
   rw [if_neg HNe.out, if_neg HNe.out, HXe.out]
   exact hp
  ·have hne : i + 1 = 8 := by rw [beq_iff_eq] at he; omega
   have HNe := hid hne
   clear hne
   go_wp2_with fail
   refine (bClose_calls HG6.out hk (by rw [at_set _ _ (show k < g.l.length by omega)]; show 0 < x.live + 1; omega) HO.out).mono ?_
   rintro e w7 ⟨rfl, h7, hk7⟩
   have HG7 := hid h7
   have HK7 := hid (HK6.out.trans (hk7.mono (T' := Sm g S) fun q hq => by rcases hq with h | h; exact .inl h; exact .inr (.inl h)))
   have HSz7 := hid (Nat.le_trans HSz6.out hk7.size)
   clear h7 hk7
   go_wp2_with fail
   refine bodyPost_ret (v := .tuple #[.int .i64 (k : Int), .int .i64 (i : Int), .int .i64 0]) (by simp [results, Tryz.results180, go_sem]) rfl ⟨rfl, ?_, HK7.out⟩
   have hp := HG7.out.re HH.out.base HH.out.ltM HH.out.ltL HK1.out.size HSz7.out
   rw [at_set _ _ (show k < g.l.length by omega)] at hp
   simp only [List.set_set] at hp
   unfold prG
   rw [if_pos HNe.out, if_pos HNe.out, HXe.out]
   exact hp
end
end
section
open Go.RowKit

section
variable {NB B : Nat} {S : Nat → Prop} {w : World} {g : Mg}
def beG (g : Mg) (a : Nat) : Mg := { g with l := g.l.set a ⟨1, 0, (Gc.at_ g.l a).wear, 0⟩, opn := (a : Int) }
theorem bProgram_begin (h : MgM NB B S w g) {k : Nat} (hbs2 : Gc.best isFree Gc.worn g.l NB = some k) (ho : g.opn = -1) (hn : (g.bl k).nx = 0) (hb1 : (g.bl k).bad = false) (hb2 : (g.bl k).broken = false)
  (a : Option Addr) (c : Nat) (bs : List UInt8) (hbs : Own byteV 5 w 0 (.slice a 96 c) bs) (hap : ∀ q, Value.ownBlock (.slice a 96 c) = some q → ¬ Sm g S q) :
  Calls Tryz.prog 180 #[.pointer (some ⟨g.M, 0, none⟩), .slice a 96 c] w (Put NB B S (beG g k) w k 0 bs) := by
 have hk := (Gc.best_some hbs2).1
 have HR := hid (bready_calls h)
 have HG := hid (chGeo_calls h.hc)
 have HH := hid h
 have HX := hid hbs
 have HAp := hid hap
 have HN := hid hn
 have HB1 := hid hb1
 have HB2 := hid hb2
 have HBs := hid hbs2
 have HBg := hid (show beG g k = { g with l := g.l.set k ⟨1, 0, (Gc.at_ g.l k).wear, 0⟩, opn := (k : Int) } from rfl)
 have HO := hid ho
 have m0 := h.m0
 have g1 : (0 : Int) ≤ (k : Int) := by omega
 have g2 : (k : Int) < (NB : Int) := by omega
 clear h hbs hap hn hb1 hb2 hbs2 ho
 go_enter Tryz.func180, Tryz.ntmps180
 go_wp2
 go_step3
 go_wp2_with fail
 refine (HR.out).mono ?_
 rintro e w_ ⟨rfl, rfl⟩
 go_wp2_with fail
 refine HG.out.mono ?_
 rintro e w1 ⟨rfl, hb⟩
 have hf := geoF2 (.int .i64 (NB : Int)) (.int .i64 8) (.int .i64 64)
 have HH1 := hid (HH.out.on hb)
 have HK1 := hid hb
 have n2 := HH1.out.m2
 rw [HO.out] at n2
 have n0 := HH1.out.m0
 have n1 := HH1.out.m1
 clear hb m0
 unfold geoV
 go_wp2_with fail
 go_step3
 go_wp2_with fail
 go_loopw [8, 9, 10, 11] (fun v8 v9 v10 _ wr => v8 = .int .i64 0 ∧ v9 = .int .i64 0 ∧ v10 = .int .i64 40 ∧ wr = w1) (fun _ _ _ _ _ => 0)
 case atStart => exact ⟨rfl, rfl, rfl, rfl⟩
 case round =>
  obtain ⟨rfl, rfl, rfl, hw⟩ := hrel
  subst hw
  have HX1 := hid (HX.out.on HK1.out)
  go_wp2_with fail
  refine (bBegin_calls HH1.out).mono ?_
  unfold Began
  rw [HBs.out]
  rintro e w1 ⟨rfl, h1, hk1⟩
  have HGb := hid (show MgM NB B S w1 (beG g k) from h1)
  have HKb := hid ((Kq.of HK1.out).trans (hk1.mono (T' := Sm g S) fun q hq => by rcases hq with h | h; exact .inl h; exact .inr (.inl h)))
  have HX2 := hid (HX1.out.kq hk1 fun q hq hm => HAp.out q hq (by rcases hm with h | h; exact .inl h; exact .inr (.inl h)))
  clear h1 hk1 n2 n0 n1
  have n0 := HGb.out.m0
  have n1 := HGb.out.m1
  have n2 := HGb.out.m2
  have r3 := (HGb.out.r3 hk).1
  unfold beG at n0 n1 n2 r3
  simp only at n0 n1 n2 r3
  rw [at_set _ _ (by rw [HH.out.len]; exact hk)] at r3
  have r3 : w1.cell? ⟨g.ML, k * 4 + 3, none⟩ = some (.int .i64 0) := r3
  go_wp2_with fail
  refine (chProgram_calls HGb.out.hc hk (i := 0) (by omega) HN.out HB1.out HB2.out a c bs HX2.out (fun q hq hs => HAp.out q hq (.inr (.inr hs)))).mono ?_
  rintro e w2 ⟨rfl, h2, hk2⟩
  have HG2 := hid (HGb.out.chip (ps' := g.ps) h2 hk2 (fun q hq => hq))
  have HK2 := hid (HKb.out.trans (hk2.mono (T' := Sm g S) fun q hq => .inr (.inr hq)))
  have hl2 := HH.out.len
  have hat : Gc.at_ (g.l.set k ⟨1, 0, (Gc.at_ g.l k).wear, 0⟩) k = ⟨1, 0, (Gc.at_ g.l k).wear, 0⟩ := at_set _ _ (by omega)
  have HAt := hid hat
  have r3 := HG2.out.r3 hk
  have r1 := HG2.out.r1 hk
  unfold beG at r1 r3
  simp only at r1 r3
  rw [hat] at r1 r3
  obtain ⟨r1, f1⟩ := r1
  obtain ⟨r3, f3⟩ := r3
  have r1 : w2.cell? ⟨g.ML, k * 4 + 1, none⟩ = some (.int .i64 0) := r1
  have r3 : w2.cell? ⟨g.ML, k * 4 + 3, none⟩ = some (.int .i64 0) := r3
  generalize hwr : (Gc.at_ g.l k).wear = wv at *
  have HWv := hid hwr
  have q3 := HG2.out.setL hk (j := 3) (by omega) (.int .i64 1) ⟨1, 0, wv, 1⟩ (by unfold beG; simp only [hwr]; rw [hat]; rfl)
  have q4 := q3.setL hk (j := 1) (by omega) (.int .i64 1) ⟨1, 1, wv, 1⟩ (by rw [at_set _ _ (by unfold beG; simp only [List.length_set]; omega)]; rfl)
  have HSz := hid (show w2.heap.size = ((w2.setCell ⟨g.ML, k * 4 + 3, none⟩ (.int .i64 1)).setCell ⟨g.ML, k * 4 + 1, none⟩ (.int .i64 1)).heap.size by simp only [World.size_setCell])
  have HK4 := hid ((HK2.out.setCell (p := ⟨g.ML, k * 4 + 3, none⟩) (.inl (.inr (.inl rfl))) (.int .i64 1)).setCell (p := ⟨g.ML, k * 4 + 1, none⟩) (.inl (.inr (.inl rfl))) (.int .i64 1))
  have HG4 := hid (show MgM NB B (Up S w1 w2) ((w2.setCell ⟨g.ML, k * 4 + 3, none⟩ (.int .i64 1)).setCell ⟨g.ML, k * 4 + 1, none⟩ (.int .i64 1)) { g with bl := upd g.bl k (pbNext (g.bl k) 0 bs), l := g.l.set k ⟨1, 1, wv, 1⟩, opn := (k : Int) } by unfold beG at q4; simp only [List.set_set] at q4; exact q4)
  clear q3 q4 h2 hk2 hat hwr n0 n1 n2
  go_upto_region 19 with fail
  clear r1 f1 r3 f3
  generalize ((w2.setCell ⟨g.ML, k * 4 + 3, none⟩ (.int .i64 1)).setCell ⟨g.ML, k * 4 + 1, none⟩ (.int .i64 1)) = w4 at *
  have HG5 := hid (HG4.out.on (below_drew w4))
  have HK5 := hid (HK4.out.on (below_drew w4))
  have n3 := (HG5.out.r3 hk).1
  rw [at_set _ _ (show k < g.l.length by omega)] at n3
  have n3 : w4.drew.cell? ⟨g.ML, k * 4 + 3, none⟩ = some (.int .i64 1) := n3
  refine wp_region_noPanic ?_
  refine wp_region_held_drew (S := (fun W' => W'.cell? ⟨g.ML, k * 4 + 3, none⟩ = some (.int .i64 1))) (by kernel_rfl) n3 (fun hS0 => ?_)
  have HSz5 := hid (show w2.heap.size = w4.drew.heap.size from HSz.out)
  generalize w4.drew = w5 at *
  refine tk 0 ((.pointer (some ⟨g.ML, k * 4, none⟩))) rfl (fun _ _ => rfl) ?_
  try simp only [layR]
  refine tk 1 ((.pointer (some ⟨g.ML, k * 4, none⟩))) rfl (fun W hSw => ?_) ?_
  ·skip
   go_simp
  try simp only [layR]
  refine tk 2 ((.pointer (some ⟨g.ML, k * 4 + 3, none⟩))) rfl (fun W hSw => ?_) ?_
  ·skip
   go_simp
  try simp only [layR]
  refine tk 3 ((.int .i64 1)) rfl (fun W hSw => ?_) ?_
  ·skip
   go_simp
  try simp only [layR]
  refine tk 4 ((.pointer (some ⟨g.M, 0, none⟩))) rfl (fun _ _ => rfl) ?_
  try simp only [layR]
  refine rd 5 rfl (fun K' hK => ?_)
  go_simp
  refine (bpages_calls HG5.out).mono ?_
  rintro e w6 ⟨rfl, hb⟩
  have HG6 := hid (HG5.out.on hb)
  have HK6 := hid (HK5.out.on hb)
  have HSz6 := hid (Nat.le_trans (Nat.le_of_eq HSz5.out) hb.size)
  have n6 := cell_on n3 hb
  clear hb
  refine hK.out _ _ n6 (fun hS1 => ?_)
  try simp only [layR]
  refine tk 6 ((.bool false)) rfl (fun W hSw => ?_) ?_
  ·skip
   go_simp
  try simp only [layR]
  refine wpAnyH_done (by kernel_rfl) ?_ _
  refine NoPanic.normal ?_
  clear hS0 hS1 n3 n6
  go_wp2_with fail
  refine bodyPost_ret (v := .tuple #[.int .i64 (k : Int), .int .i64 0, .int .i64 0]) (by simp [results, Tryz.results180, go_sem]) rfl ⟨rfl, ?_, HK6.out⟩
  have hs1 := HKb.out.size
  have hp := HG6.out.re HH.out.base HH.out.ltM HH.out.ltL hs1 HSz6.out
  unfold prG beG
  simp only [HWv.out, HAt.out, List.set_set]
  exact hp
end
end
end Go.Proofs.YtcppkaphlcflgaaGreat
