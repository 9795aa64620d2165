import Derived.Test.YtcppkaphlcflgaaGreatGcAct
import Derived.Lib.SliceRun
import Derived.Deep.CutBlock
import Derived.Deep.DeepCutAuto
namespace Go.Proofs.YtcppkaphlcflgaaGreat
open Lib (hid)
set_option maxRecDepth 100000
set_option maxHeartbeats 16000000
section
open Go.RowKit

section
variable {NB B : Nat} {S : Nat → Prop} {w : World} {g : Mg}
theorem bFree_calls (h : MgM NB B S w g) :
  Calls Tryz.prog 191 #[.pointer (some ⟨g.M, 0, none⟩)] w fun e w' => e = .returned (.int .i64 (Gc.count 0 g.l : Int)) ∧ Below w.heap.size w w' := by
 have m1 := h.m1
 have HC := hid (count_calls 0 _ NB g.cap g.l w h.arr h.nb)
 clear h
 go_enter Tryz.func191, Tryz.ntmps191
 go_wp2_with fail
 refine HC.out.mono ?_
 rintro e w1 ⟨rfl, hb⟩
 have HB := hid hb
 clear hb
 go_wp2
 go_ret
 exact ⟨rfl, HB.out⟩
def roomOf (g : Mg) : Int := (Gc.count 0 g.l : Int) * 8 + (if g.opn = -1 then 0 else 8 - ((Gc.at_ g.l g.opn.toNat).nx : Int))
theorem bRoom_calls (h : MgM NB B S w g) (ho : g.opn = -1 ∨ (0 ≤ g.opn ∧ g.opn < NB)) (hx : (Gc.at_ g.l g.opn.toNat).nx ≤ 8) :
  Calls Tryz.prog 188 #[.pointer (some ⟨g.M, 0, none⟩)] w fun e w' => e = .returned (.int .i64 (roomOf g)) ∧ Below w.heap.size w w' := by
 have HF := hid (bFree_calls h)
 have HH := hid h
 have hnb := h.nb
 have hcl := Nat.le_trans (Gc.count_le 0 g.l) (Nat.le_of_eq h.len)
 clear h
 go_enter Tryz.func188, Tryz.ntmps188
 go_wp2_with fail
 refine HF.out.mono ?_
 rintro e w1 ⟨rfl, hb⟩
 have HB := hid hb
 have HG1 := hid (HH.out.on hb)
 clear hb
 go_wp2_with fail
 refine (bpages_calls HG1.out).mono ?_
 rintro e w2 ⟨rfl, hb⟩
 have HB2 := hid (HB.out.then_ hb)
 have HG2 := hid (HG1.out.on hb)
 have m2 := HG2.out.m2
 have i1 := IntWalk.i64_in ((Gc.count 0 g.l : Int) * 8) ⟨by omega, by omega⟩
 have HRm := hid (show roomOf g = (Gc.count 0 g.l : Int) * 8 + (if g.opn = -1 then 0 else 8 - ((Gc.at_ g.l g.opn.toNat).nx : Int)) from rfl)
 clear hb
 generalize Gc.count 0 g.l = q at *
 rcases ho with ho | ⟨h1, h2⟩
 ·rw [ho] at m2
  rw [if_pos ho] at HRm
  clear ho
  go_wp2_with fail
  go_ret
  exact ⟨by rw [HRm.out, Int.add_zero]; rfl, HB2.out⟩
 ·obtain ⟨k, hk⟩ : ∃ k : Nat, g.opn = (k : Int) := ⟨g.opn.toNat, by omega⟩
  rw [hk] at m2 h1 h2 hx HRm
  have hkn : k < NB := by omega
  have hne : ((k : Int) != -1) = true := by rw [bne_iff_ne]; omega
  rw [if_neg (show ¬ (k : Int) = -1 by omega), Int.toNat_natCast] at HRm
  rw [Int.toNat_natCast] at hx
  generalize hxx : Gc.at_ g.l k = x at *
  have HXX := hid hxx
  have HOk := hid hk
  have i2 := IntWalk.i64_in (8 - (x.nx : Int)) ⟨by omega, by omega⟩
  have i3 := IntWalk.i64_in ((q : Int) * 8 + (8 - (x.nx : Int))) ⟨by omega, by omega⟩
  clear hk hxx
  go_upto_region 5 with fail
  have HD := hid (HG2.out.on (below_drew w2))
  have HS0 := hid (show Below w2.heap.size w2 w2.drew from below_drew w2)
  refine wp_region_noPanic ?_
  refine wp_region_held_drew (S := (fun W' => Below w2.heap.size w2 W')) (by kernel_rfl) HS0.out (fun hS0 => ?_)
  refine tk 0 ((.int .i64 ((q : Int) * 8))) rfl (fun _ _ => rfl) ?_
  try simp only [layR]
  refine tk 1 ((.pointer (some ⟨g.M, 0, none⟩))) rfl (fun _ _ => rfl) ?_
  try simp only [layR]
  refine tk 3 ((.pointer (some ⟨g.M, 0, none⟩))) rfl (fun _ _ => rfl) ?_
  try simp only [layR]
  refine tk 4 ((.pointer (some ⟨g.M, 0, none⟩))) rfl (fun W hSw => ?_) ?_
  ·skip
   go_simp
  try simp only [layR]
  refine tk 5 ((.pointer (some ⟨g.M, 1, none⟩))) rfl (fun W hSw => ?_) ?_
  ·skip
   go_simp
  try simp only [layR]
  refine tk 6 ((.slice (some ⟨g.ML, 0, none⟩) NB g.cap)) rfl (fun W hSw => ?_) ?_
  ·have y9 := (HG2.out.on hSw).m1
   go_simp
  try simp only [layR]
  refine tk 7 ((.pointer (some ⟨g.M, 0, none⟩))) rfl (fun _ _ => rfl) ?_
  try simp only [layR]
  refine tk 8 ((.pointer (some ⟨g.M, 0, none⟩))) rfl (fun W hSw => ?_) ?_
  ·skip
   go_simp
  try simp only [layR]
  refine tk 9 ((.pointer (some ⟨g.M, 2, none⟩))) rfl (fun W hSw => ?_) ?_
  ·skip
   go_simp
  try simp only [layR]
  refine tk 10 ((.int .i64 (k : Int))) rfl (fun W hSw => ?_) ?_
  ·have y9 := (HG2.out.on hSw).m2; rw [HOk.out] at y9
   go_simp
  try simp only [layR]
  refine tk 11 ((.pointer (some ⟨g.ML, k * 4, none⟩))) rfl (fun W hSw => ?_) ?_
  ·skip
   go_simp
  try simp only [layR]
  refine tk 12 ((.pointer (some ⟨g.ML, k * 4 + 3, none⟩))) rfl (fun W hSw => ?_) ?_
  ·skip
   go_simp
  try simp only [layR]
  refine tk 13 ((.int .i64 (x.nx : Int))) rfl (fun W hSw => ?_) ?_
  ·have y9 := ((HG2.out.on hSw).r3 hkn).1; rw [HXX.out] at y9
   go_simp
  try simp only [layR]
  refine rd 2 rfl (fun K' hK => ?_)
  go_simp
  refine (bpages_calls HD.out).mono ?_
  rintro e w3 ⟨rfl, hb⟩
  have hS1 : Below w2.heap.size w2 w3 := HS0.out.then_ hb
  have HB3 := hid (HB2.out.then_ hS1)
  refine hK.out _ _ hS1 (fun hS2 => ?_)
  try simp only [layR]
  refine tk 14 ((.int .i64 (8 - (x.nx : Int)))) rfl (fun W hSw => ?_) ?_
  ·skip
   go_simp
  try simp only [layR]
  refine tk 15 ((.int .i64 ((q : Int) * 8 + (8 - (x.nx : Int))))) rfl (fun W hSw => ?_) ?_
  ·skip
   go_simp
  try simp only [layR]
  refine tk 16 ((.int .i64 ((q : Int) * 8 + (8 - (x.nx : Int))))) rfl (fun W hSw => ?_) ?_
  ·skip
   go_simp
  try simp only [layR]
  refine wpAnyH_done (by kernel_rfl) ?_ _
  refine NoPanic.normal ?_
  clear hS0 hS1 hS2 hb
  go_wp2_with fail
  go_ret
  exact ⟨by rw [HRm.out]; rfl, HB3.out⟩
end
end
section
open Go.RowKit

theorem infoBk : (Tryz.prog.info? 180).map (fun i => (i.zero, i.size, i.bytes)) = some (some (.agg #[.int .i64 0, .int .i64 0, .int .i64 0, .int .i64 0]), 4, 32) := by kernel_rfl
section
variable {NB B : Nat} {S : Nat → Prop} {w : World} {g : Mg}
end
end
section
open Go.RowKit

section
variable {NB B : Nat} {S : Nat → Prop} {w : World} {g : Mg}
theorem bLeft_calls (h : MgM NB B S w g) (hc : Gc.count 4 g.l = 0) {r : Int} (hr : g.res = r) (hb : g.bad = 0) (h0 : 0 ≤ r) (h1 : r ≤ 1000) :
  Calls Tryz.prog 153 #[.pointer (some ⟨g.M, 0, none⟩)] w fun e w' => e = .returned (.int .i64 r) ∧ Below w.heap.size w w' := by
 have HH := hid h
 have HR := hid hr
 have HBd := hid hb
 have HC := hid (fun (W : World) (hW : Below w.heap.size w W) => count_calls 4 _ NB g.cap g.l W ((h.on hW).arr) h.nb)
 rw [hc] at HC
 have i1 := IntWalk.i64_in r ⟨by omega, by omega⟩
 clear h hr hb hc
 go_enter Tryz.func153, Tryz.ntmps153
 go_upto_region 3 with fail
 have HS0 := hid (show Below w.heap.size w w.drew from below_drew w)
 refine wp_region_noPanic ?_
 refine wp_region_held_drew (S := (fun W' => Below w.heap.size w W')) (by kernel_rfl) HS0.out (fun hS0 => ?_)
 generalize w.drew = w1 at *
 refine tk 0 ((.pointer (some ⟨g.M, 0, none⟩))) rfl (fun _ _ => rfl) ?_
 try simp only [layR]
 refine tk 1 ((.pointer (some ⟨g.M, 0, none⟩))) rfl (fun W hSw => ?_) ?_
 ·skip
  go_simp
 try simp only [layR]
 refine tk 2 ((.pointer (some ⟨g.M, 3, none⟩))) rfl (fun W hSw => ?_) ?_
 ·skip
  go_simp
 try simp only [layR]
 refine tk 3 ((.int .i64 r)) rfl (fun W hSw => ?_) ?_
 ·have y9 := (HH.out.on hSw).m3; rw [HR.out] at y9
  go_simp
 try simp only [layR]
 refine tk 4 ((.pointer (some ⟨g.M, 0, none⟩))) rfl (fun _ _ => rfl) ?_
 try simp only [layR]
 refine tk 5 ((.pointer (some ⟨g.M, 0, none⟩))) rfl (fun W hSw => ?_) ?_
 ·skip
  go_simp
 try simp only [layR]
 refine tk 6 ((.pointer (some ⟨g.M, 1, none⟩))) rfl (fun W hSw => ?_) ?_
 ·skip
  go_simp
 try simp only [layR]
 refine tk 7 ((.slice (some ⟨g.ML, 0, none⟩) NB g.cap)) rfl (fun W hSw => ?_) ?_
 ·have y9 := (HH.out.on hSw).m1
  go_simp
 try simp only [layR]
 refine tk 9 ((.pointer (some ⟨g.M, 0, none⟩))) rfl (fun _ _ => rfl) ?_
 try simp only [layR]
 refine tk 10 ((.pointer (some ⟨g.M, 0, none⟩))) rfl (fun W hSw => ?_) ?_
 ·skip
  go_simp
 try simp only [layR]
 refine tk 11 ((.pointer (some ⟨g.M, 4, none⟩))) rfl (fun W hSw => ?_) ?_
 ·skip
  go_simp
 try simp only [layR]
 refine tk 12 ((.int .i64 0)) rfl (fun W hSw => ?_) ?_
 ·have y9 := (HH.out.on hSw).m4; rw [HBd.out] at y9
  go_simp
 try simp only [layR]
 refine rd 8 rfl (fun K' hK => ?_)
 go_simp
 refine (HC.out w1 hS0).mono ?_
 rintro e w2 ⟨rfl, hb2⟩
 have hS9 := hS0.then_ hb2
 clear hb2
 refine hK.out _ _ hS9 (fun hS1 => ?_)
 try simp only [layR]
 refine tk 13 ((.int .i64 0)) rfl (fun W hSw => ?_) ?_
 ·have y9 : IntKind.i64.wrap 0 = 0 := by decide
  go_simp
 try simp only [layR]
 refine tk 14 ((.int .i64 r)) rfl (fun W hSw => ?_) ?_
 ·skip
  go_simp
 try simp only [layR]
 refine tk 15 ((.int .i64 r)) rfl (fun _ _ => rfl) ?_
 try simp only [layR]
 refine wpAnyH_done (by kernel_rfl) ?_ _
 refine NoPanic.normal ?_
 have HS1 := hid hS1
 clear hS0 hS1 hS9
 go_wp2_with fail
 go_ret
 exact ⟨rfl, HS1.out⟩
end
end
section
open Go.RowKit

section
variable {NB B : Nat} {S : Nat → Prop} {w : World} {g : Mg} {F : Nat}
def wantN (g : Mg) : Int := if roomOf g = (Gc.count 0 g.l : Int) * 8 then 4 else 3
theorem enough_calls (h : MgM NB B S w g) (f0 : w.cell? ⟨F, 0, none⟩ = some (.pointer (some ⟨g.C, 0, none⟩))) (f1 : w.cell? ⟨F, 1, none⟩ = some (.pointer (some ⟨g.M, 0, none⟩))) (hc : Gc.count 4 g.l = 0) (hr : g.res = 2) (hb : g.bad = 0) (ho : g.opn = -1 ∨ (0 ≤ g.opn ∧ g.opn < NB)) (hx : (Gc.at_ g.l g.opn.toNat).nx ≤ 8) :
  Calls Tryz.prog 177 #[.pointer (some ⟨F, 0, none⟩)] w fun e w' => e = .returned (.bool (decide (wantN g ≤ (Gc.count 0 g.l : Int)))) ∧ Below w.heap.size w w' := by
 have HH := hid h
 have hcl := Nat.le_trans (Gc.count_le 0 g.l) (Nat.le_of_eq h.len)
 have hnb := h.nb
 have HL := hid (bLeft_calls h hc hr hb (by omega) (by omega))
 have HF0 := hid f0
 have HF1 := hid f1
 have HRm := hid (fun (W : World) (hW : Below w.heap.size w W) => bRoom_calls (h.on hW) ho hx)
 have HFr := hid (fun (W : World) (hW : Below w.heap.size w W) => bFree_calls (h.on hW))
 have HGe := hid (fun (W : World) (hW : Below w.heap.size w W) => chGeo_calls (h.on hW).hc)
 have HWn := hid (show wantN g = if roomOf g = (Gc.count 0 g.l : Int) * 8 then 4 else 3 from rfl)
 have hg1 := geoF1 (.int .i64 (NB : Int)) (.int .i64 8) (.int .i64 64)
 clear h f0 hc hr hb ho hx
 generalize wantN g = wn at *
 generalize roomOf g = rm at *
 generalize Gc.count 0 g.l = q at *
 have i1 := IntWalk.i64_in ((q : Int) * 8) ⟨by omega, by omega⟩
 go_enter Tryz.func177, Tryz.ntmps177
 go_wp2_with fail
 refine HL.out.mono ?_
 rintro e w1 ⟨rfl, hb1⟩
 have HB1 := hid hb1
 clear hb1
 go_upto_region 2 with fail
 have HS0 := hid (show Below w.heap.size w w1.drew from HB1.out.then_ (below_drew w1))
 refine wp_region_noPanic ?_
 refine wp_region_held_drew (S := (fun W' => Below w.heap.size w W')) (by kernel_rfl) HS0.out (fun hS0 => ?_)
 generalize w1.drew = w2 at *
 refine tk 0 ((.pointer (some ⟨F, 0, none⟩))) rfl (fun _ _ => rfl) ?_
 try simp only [layR]
 refine tk 1 ((.pointer (some ⟨F, 0, none⟩))) rfl (fun W hSw => ?_) ?_
 ·skip
  go_simp
 try simp only [layR]
 refine tk 2 ((.pointer (some ⟨F, 1, none⟩))) rfl (fun W hSw => ?_) ?_
 ·skip
  go_simp
 try simp only [layR]
 refine tk 3 ((.pointer (some ⟨g.M, 0, none⟩))) rfl (fun W hSw => ?_) ?_
 ·have y9 := cell_on HF1.out hSw
  go_simp
 try simp only [layR]
 refine tk 5 ((.pointer (some ⟨F, 0, none⟩))) rfl (fun _ _ => rfl) ?_
 try simp only [layR]
 refine tk 6 ((.pointer (some ⟨F, 0, none⟩))) rfl (fun W hSw => ?_) ?_
 ·skip
  go_simp
 try simp only [layR]
 refine tk 7 ((.pointer (some ⟨F, 1, none⟩))) rfl (fun W hSw => ?_) ?_
 ·skip
  go_simp
 try simp only [layR]
 refine tk 8 ((.pointer (some ⟨g.M, 0, none⟩))) rfl (fun W hSw => ?_) ?_
 ·have y9 := cell_on HF1.out hSw
  go_simp
 try simp only [layR]
 refine tk 10 ((.pointer (some ⟨F, 0, none⟩))) rfl (fun _ _ => rfl) ?_
 try simp only [layR]
 refine tk 11 ((.pointer (some ⟨F, 0, none⟩))) rfl (fun W hSw => ?_) ?_
 ·skip
  go_simp
 try simp only [layR]
 refine tk 12 ((.pointer (some ⟨F, 0, none⟩))) rfl (fun W hSw => ?_) ?_
 ·skip
  go_simp
 try simp only [layR]
 refine tk 13 ((.pointer (some ⟨g.C, 0, none⟩))) rfl (fun W hSw => ?_) ?_
 ·have y9 := cell_on HF0.out hSw
  go_simp
 try simp only [layR]
 refine rd 4 rfl (fun K' hK => ?_)
 go_simp
 refine (HRm.out w2 hS0).mono ?_
 rintro e w3 ⟨rfl, hb3⟩
 have hS3 := hS0.then_ hb3
 clear hb3
 refine hK.out _ _ hS3 (fun hS4 => ?_)
 try simp only [layR]
 refine rd 9 rfl (fun K' hK => ?_)
 go_simp
 refine (HFr.out w3 hS4).mono ?_
 rintro e w4 ⟨rfl, hb4⟩
 have hS5 := hS4.then_ hb4
 clear hb4
 refine hK.out _ _ hS5 (fun hS6 => ?_)
 try simp only [layR]
 refine rd 14 rfl (fun K' hK => ?_)
 go_simp
 refine (HGe.out w4 hS6).mono ?_
 rintro e w5 ⟨rfl, hb5⟩
 have hS7 := hS6.then_ hb5
 clear hb5
 refine hK.out _ _ hS7 (fun hS8 => ?_)
 try simp only [layR]
 unfold geoV
 refine tk 15 ((.int .i64 8)) rfl (fun W hSw => ?_) ?_
 ·skip
  go_simp
 try simp only [layR]
 refine tk 16 ((.int .i64 ((q : Int) * 8))) rfl (fun W hSw => ?_) ?_
 ·skip
  go_simp
 try simp only [layR]
 refine tk 17 ((.bool (rm == (q : Int) * 8))) rfl (fun W hSw => ?_) ?_
 ·skip
  go_simp
 try simp only [layR]
 refine wpAnyH_done (by kernel_rfl) ?_ _
 refine NoPanic.normal ?_
 have HS8 := hid hS8
 have f5 := cell_on HF1.out hS8
 have HFr5 := hid (HFr.out w5 hS8)
 clear hS0 hS3 hS4 hS5 hS6 hS7 hS8 f1
 by_cases e : rm = (q : Int) * 8
 ·rw [show (rm == (q : Int) * 8) = true by rw [beq_iff_eq]; exact e]
  have HE := hid e
  clear e
  go_wp2_with fail
  refine HFr5.out.mono ?_
  rintro e w6 ⟨rfl, hb6⟩
  have HB6 := hid (HS8.out.then_ hb6)
  clear hb6
  go_wp2_with fail
  go_ret
  exact ⟨by rw [HWn.out, if_pos HE.out]; rfl, HB6.out⟩
 ·rw [show (rm == (q : Int) * 8) = false by rw [beq_eq_false_iff_ne]; exact e]
  have HE := hid e
  clear e
  go_wp2_with fail
  refine HFr5.out.mono ?_
  rintro e w6 ⟨rfl, hb6⟩
  have HB6 := hid (HS8.out.then_ hb6)
  clear hb6
  go_wp2_with fail
  go_ret
  exact ⟨by rw [HWn.out, if_neg HE.out]; rfl, HB6.out⟩
end
end
end Go.Proofs.YtcppkaphlcflgaaGreat
