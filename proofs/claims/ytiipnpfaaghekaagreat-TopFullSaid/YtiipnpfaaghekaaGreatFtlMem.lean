/-
  A page of a whole chip is read.
-/
/-
  How much of the reserve is left, where no block is bad.
-/
import Derived.Test.YtiipnpfaaghekaaGreatChFault
import Derived.Test.YtiipnpfaaghekaaGreatNandOnes
import Derived.Test.YtiipnpfaaghekaaGreatSlClone
import Derived.Deep.DeepCutAuto
import Derived.Lib.SliceRun
import Derived.Test.YtiipnpfaaghekaaGreatBlkNext
import Derived.Test.YtiipnpfaaghekaaGreatFtlMap
import Derived.Test.YtiipnpfaaghekaaGreatBlkOpen
import Derived.Test.YtiipnpfaaghekaaGreatWearsM2
namespace Go.Proofs.YtiipnpfaaghekaaGreat
open Go.RowKit

/-- What a page reads as. -/
def chL : Option (List UInt8) → List UInt8
  | none => List.replicate 96 255
  | some L => L
section
variable {NB B C BL : Nat} {S : Nat → Prop} {w : World} {ps : Nat → Nat} {bl : Nat → Pb}
set_option maxRecDepth 100000 in
set_option maxHeartbeats 4000000 in
theorem chRead_calls (h : ChM NB B S w C BL ps bl) {k i : Nat} (hk : k < NB) (hi : i < 8) :
    Calls Tryz.prog 33 #[.pointer (some ⟨C, 0, none⟩), .int .i64 (k : Int), .int .i64 (i : Int)] w fun e w' => (∃ a c, e = .returned (.tuple #[.slice a 96 c, .int .i64 0]) ∧ 96 ≤ c ∧ Own byteV 5 w' w.heap.size (.slice a 96 c) (chL ((bl k).pgs i))) ∧ ChM NB B S w' C BL ps bl ∧ Kq (fun q => q = C) w w' := by
  have HA := Lib.hid (chAsked_calls h hk hi)
  obtain ⟨si, sk, rd, hC⟩ := h.hC
  obtain ⟨r1, hr1⟩ : ∃ r1, IntKind.i64.wrap (rd + 1) = r1 := ⟨_, rfl⟩
  have c8 := hC.cellv (i := 8) (v := .int .i64 rd) rfl
  have f8 := hC.frozen 8
  have h1 := h.set8 r1
  have hk1 : Kq (fun q => q = C) w (w.setCell ⟨C, 8, none⟩ (.int .i64 r1)) := Kq.one ⟨_, _, none⟩ _
  obtain ⟨w1, hw1⟩ : ∃ w1, w1 = w.setCell ⟨C, 8, none⟩ (.int .i64 r1) := ⟨_, rfl⟩
  rw [← hw1] at h1 hk1
  have c3 := h1.c3
  have b0 := (h1.b0 hk).1
  obtain ⟨v, p0, _, hv⟩ := h1.page hk hi
  have g1 : (0 : Int) ≤ (k : Int) := by omega
  have g2 : (k : Int) < (NB : Int) := by omega
  have g3 : (0 : Int) ≤ (i : Int) := by omega
  have g4 : (i : Int) < 8 := by omega
  have HF := Lib.hid (chFull_calls h1)
  have H1 := Lib.hid h1
  have HK1 := Lib.hid hk1
  have HW1 := Lib.hid hw1
  cases hls : (bl k).pgs i with
  | none =>
    rw [hls] at hv
    have hv' : v = .slice none 0 0 := hv
    subst hv'
    have hnil := fun w => Lib.run_eql_slice_nil (P := Tryz.prog) w 22 5 none 0 0 0 0 Tryz.underlying22
    simp only [Option.isNone_none] at hnil
    clear h h1 hk1 hw1 hv hls hC
    go_enter Tryz.func33, Tryz.ntmps33
    go_wp2_with fail
    refine (HA.out).mono ?_
    rintro e w_ ⟨rfl, rfl⟩
    go_upto_region 5 with fail
    rw [← HW1.out]
    clear c8 f8
    go_wp2_with fail
    refine HF.out.mono ?_
    rintro e w_ ⟨rfl, rfl⟩
    go_wp2_with fail
    refine (ones_calls 96 w1 (by omega)).mono ?_
    rintro e w2 ⟨⟨v2, rfl, ho⟩, hb2⟩
    obtain ⟨a, c, rfl, hc⟩ := ho.formN (List.length_replicate ..)
    have HO := Lib.hid (ho.mono HK1.out.size)
    have HC := Lib.hid hc
    have H2 := Lib.hid (H1.out.on hb2)
    have HK2 := Lib.hid (HK1.out.on hb2)
    clear ho hb2 hc
    go_wp2_with fail
    go_ret2
    exact ⟨⟨a, c, rfl, HC.out, HO.out⟩, H2.out, HK2.out⟩
  | some L =>
    rw [hls] at hv
    obtain ⟨hlen, hown, _⟩ := hv
    obtain ⟨ga, ca, rfl, hca, _, _⟩ := hown.form_some (by omega)
    rw [hlen] at p0 hca hown
    have HO1 := Lib.hid hown
    have HLl := Lib.hid hlen
    have hnil := fun w => Lib.run_eql_slice_nil (P := Tryz.prog) w 22 5 (some ⟨ga, 0, none⟩) 96 ca 0 0 Tryz.underlying22
    simp only [Option.isNone_some] at hnil
    clear h h1 hk1 hw1 hls hown hlen hC
    go_enter Tryz.func33, Tryz.ntmps33
    go_wp2_with fail
    refine (HA.out).mono ?_
    rintro e w_ ⟨rfl, rfl⟩
    go_upto_region 5 with fail
    rw [← HW1.out]
    clear c8 f8
    go_wp2_with fail
    refine (clone_calls (some ⟨ga, 0, none⟩) 96 ca L w1 (HO1.out.arr (by rw [HLl.out]; omega))).mono ?_
    rintro e w2 ⟨⟨v2, rfl, ho⟩, hb2⟩
    obtain ⟨a, c, rfl, hc⟩ := ho.formN HLl.out
    have HO := Lib.hid (ho.mono HK1.out.size)
    have HC := Lib.hid hc
    have H2 := Lib.hid (H1.out.on hb2)
    have HK2 := Lib.hid (HK1.out.on hb2)
    clear ho hb2 hc
    go_wp2_with fail
    go_ret2
    exact ⟨⟨a, c, rfl, HC.out, HO.out⟩, H2.out, HK2.out⟩
end
end Go.Proofs.YtiipnpfaaghekaaGreat
/-
  A translation in memory: its cells, its maps, its manager and its chip.
-/
/-
  Whether enough blocks are free.
-/
namespace Go.Proofs.YtiipnpfaaghekaaGreat
open Go.RowKit

section
variable {NB B : Nat} {S : Nat → Prop} {w : World} {g : Mg}
set_option maxRecDepth 100000 in
theorem bLeft_calls (h : MgM NB B S w g) (hc : Gc.count 4 g.l = 0) {r : Int} (hr : g.res = r) (hb : g.bad = 0) (h0 : 0 ≤ r) (h1 : r ≤ 1000) :
    Calls Tryz.prog 35 #[.pointer (some ⟨g.M, 0, none⟩)] w fun e w' => e = .returned (.int .i64 r) ∧ Below w.heap.size w w' := by
  have HH := Lib.hid h
  have HR := Lib.hid hr
  have HBd := Lib.hid hb
  have HC := Lib.hid (fun (W : World) (hW : Below w.heap.size w W) => count_calls 4 _ NB g.cap g.l W ((h.on hW).arr) h.nb)
  rw [hc] at HC
  have i1 := IntWalk.i64_in r ⟨by omega, by omega⟩
  clear h hr hb hc
  go_enter Tryz.func35, Tryz.ntmps35
  go_upto_region 3 with fail
  have HS0 := Lib.hid (show Below w.heap.size w w.drew from below_drew w)
  refine wp_region_noPanic ?_
  refine wp_region_held_drew (S := (fun W' => Below w.heap.size w W')) (by kernel_rfl) HS0.out (fun hS0 => ?_)
  generalize w.drew = w1 at *
  refine takeV 0 (v := (.pointer (some ⟨g.M, 0, none⟩))) rfl (by kernel_rfl) (by kernel_rfl) (by kernel_rfl) (fun _ _ _ h => h) (by rfl) (fun _ _ => rfl) (by assumption) ?_
  try simp only [layR]
  refine takeV 1 (v := (.pointer (some ⟨g.M, 0, none⟩))) rfl (by kernel_rfl) (by kernel_rfl) (by kernel_rfl) (fun _ _ _ h => h) (by rfl) (fun W hSw => ?_) (by assumption) ?_
  · skip
    go_simp
  try simp only [layR]
  refine takeV 2 (v := (.pointer (some ⟨g.M, 3, none⟩))) rfl (by kernel_rfl) (by kernel_rfl) (by kernel_rfl) (fun _ _ _ h => h) (by rfl) (fun W hSw => ?_) (by assumption) ?_
  · skip
    go_simp
  try simp only [layR]
  refine takeV 3 (v := (.int .i64 r)) rfl (by kernel_rfl) (by kernel_rfl) (by kernel_rfl) (fun _ _ _ h => h) (by rfl) (fun W hSw => ?_) (by assumption) ?_
  · have y9 := (HH.out.on hSw).m3; rw [HR.out] at y9
    go_simp
  try simp only [layR]
  refine takeV 4 (v := (.pointer (some ⟨g.M, 0, none⟩))) rfl (by kernel_rfl) (by kernel_rfl) (by kernel_rfl) (fun _ _ _ h => h) (by rfl) (fun _ _ => rfl) (by assumption) ?_
  try simp only [layR]
  refine takeV 5 (v := (.pointer (some ⟨g.M, 0, none⟩))) rfl (by kernel_rfl) (by kernel_rfl) (by kernel_rfl) (fun _ _ _ h => h) (by rfl) (fun W hSw => ?_) (by assumption) ?_
  · skip
    go_simp
  try simp only [layR]
  refine takeV 6 (v := (.pointer (some ⟨g.M, 1, none⟩))) rfl (by kernel_rfl) (by kernel_rfl) (by kernel_rfl) (fun _ _ _ h => h) (by rfl) (fun W hSw => ?_) (by assumption) ?_
  · skip
    go_simp
  try simp only [layR]
  refine takeV 7 (v := (.slice (some ⟨g.ML, 0, none⟩) NB g.cap)) rfl (by kernel_rfl) (by kernel_rfl) (by kernel_rfl) (fun _ _ _ h => h) (by rfl) (fun W hSw => ?_) (by assumption) ?_
  · have y9 := (HH.out.on hSw).m1
    go_simp
  try simp only [layR]
  refine takeV 9 (v := (.pointer (some ⟨g.M, 0, none⟩))) rfl (by kernel_rfl) (by kernel_rfl) (by kernel_rfl) (fun _ _ _ h => h) (by rfl) (fun _ _ => rfl) (by assumption) ?_
  try simp only [layR]
  refine takeV 10 (v := (.pointer (some ⟨g.M, 0, none⟩))) rfl (by kernel_rfl) (by kernel_rfl) (by kernel_rfl) (fun _ _ _ h => h) (by rfl) (fun W hSw => ?_) (by assumption) ?_
  · skip
    go_simp
  try simp only [layR]
  refine takeV 11 (v := (.pointer (some ⟨g.M, 4, none⟩))) rfl (by kernel_rfl) (by kernel_rfl) (by kernel_rfl) (fun _ _ _ h => h) (by rfl) (fun W hSw => ?_) (by assumption) ?_
  · skip
    go_simp
  try simp only [layR]
  refine takeV 12 (v := (.int .i64 0)) rfl (by kernel_rfl) (by kernel_rfl) (by kernel_rfl) (fun _ _ _ h => h) (by rfl) (fun W hSw => ?_) (by assumption) ?_
  · have y9 := (HH.out.on hSw).m4; rw [HBd.out] at y9
    go_simp
  try simp only [layR]
  refine wpAnyH_ready (rs := [8]) (by kernel_rfl) (by simp) ?_
  refine AllReadyH.cons rfl (fun K' hK => ?_) AllReadyH.nil
  go_simp
  refine (HC.out w1 hS0).mono ?_
  rintro e w2 ⟨rfl, hb2⟩
  have hS9 := hS0.then_ hb2
  clear hb2
  refine hK.out _ _ hS9 (fun hS1 => ?_)
  try simp only [layR]
  refine takeV 13 (v := (.int .i64 0)) rfl (by kernel_rfl) (by kernel_rfl) (by kernel_rfl) (fun _ _ _ h => h) (by rfl) (fun W hSw => ?_) (by assumption) ?_
  · have y9 : IntKind.i64.wrap 0 = 0 := by decide
    go_simp
  try simp only [layR]
  refine takeV 14 (v := (.int .i64 r)) rfl (by kernel_rfl) (by kernel_rfl) (by kernel_rfl) (fun _ _ _ h => h) (by rfl) (fun W hSw => ?_) (by assumption) ?_
  · skip
    go_simp
  try simp only [layR]
  refine takeV 15 (v := (.int .i64 r)) rfl (by kernel_rfl) (by kernel_rfl) (by kernel_rfl) (fun _ _ _ h => h) (by rfl) (fun _ _ => rfl) (by assumption) ?_
  try simp only [layR]
  refine wpAnyH_done (by kernel_rfl) ?_ _
  refine NoPanic.normal ?_
  have HS1 := Lib.hid hS1
  clear hS0 hS1 hS9
  go_wp2_with fail
  go_ret
  exact ⟨rfl, HS1.out⟩
end
end Go.Proofs.YtiipnpfaaghekaaGreat
namespace Go.Proofs.YtiipnpfaaghekaaGreat
open Go.RowKit

section
variable {NB B : Nat} {S : Nat → Prop} {w : World} {g : Mg} {F : Nat}
/-- How many free blocks are wanted. -/
def wantN (g : Mg) : Int := if roomOf g = (Gc.count 0 g.l : Int) * 8 then 4 else 3
set_option maxRecDepth 100000 in
set_option maxHeartbeats 4000000 in
theorem enough_calls (h : MgM NB B S w g) (f0 : w.cell? ⟨F, 0, none⟩ = some (.pointer (some ⟨g.C, 0, none⟩))) (f1 : w.cell? ⟨F, 1, none⟩ = some (.pointer (some ⟨g.M, 0, none⟩))) (hc : Gc.count 4 g.l = 0) (hr : g.res = 2) (hb : g.bad = 0) (ho : g.opn = -1 ∨ (0 ≤ g.opn ∧ g.opn < NB)) (hx : (Gc.at_ g.l g.opn.toNat).nx ≤ 8) :
    Calls Tryz.prog 78 #[.pointer (some ⟨F, 0, none⟩)] w fun e w' => e = .returned (.bool (decide (wantN g ≤ (Gc.count 0 g.l : Int)))) ∧ Below w.heap.size w w' := by
  have HH := Lib.hid h
  have hcl := Nat.le_trans (Gc.count_le 0 g.l) (Nat.le_of_eq h.len)
  have hnb := h.nb
  have HL := Lib.hid (bLeft_calls h hc hr hb (by omega) (by omega))
  have HF0 := Lib.hid f0
  have HF1 := Lib.hid f1
  have HRm := Lib.hid (fun (W : World) (hW : Below w.heap.size w W) => bRoom_calls (h.on hW) ho hx)
  have HFr := Lib.hid (fun (W : World) (hW : Below w.heap.size w W) => bFree_calls (h.on hW))
  have HGe := Lib.hid (fun (W : World) (hW : Below w.heap.size w W) => chGeo_calls (h.on hW).hc)
  have HWn := Lib.hid (show wantN g = if roomOf g = (Gc.count 0 g.l : Int) * 8 then 4 else 3 from rfl)
  have hg1 := geoF1 (.int .i64 (NB : Int)) (.int .i64 8) (.int .i64 64)
  clear h f0 hc hr hb ho hx
  generalize wantN g = wn at *
  generalize roomOf g = rm at *
  generalize Gc.count 0 g.l = q at *
  have i1 := IntWalk.i64_in ((q : Int) * 8) ⟨by omega, by omega⟩
  go_enter Tryz.func78, Tryz.ntmps78
  go_wp2_with fail
  refine HL.out.mono ?_
  rintro e w1 ⟨rfl, hb1⟩
  have HB1 := Lib.hid hb1
  clear hb1
  go_upto_region 2 with fail
  have HS0 := Lib.hid (show Below w.heap.size w w1.drew from HB1.out.then_ (below_drew w1))
  refine wp_region_noPanic ?_
  refine wp_region_held_drew (S := (fun W' => Below w.heap.size w W')) (by kernel_rfl) HS0.out (fun hS0 => ?_)
  generalize w1.drew = w2 at *
  refine takeV 0 (v := (.pointer (some ⟨F, 0, none⟩))) rfl (by kernel_rfl) (by kernel_rfl) (by kernel_rfl) (fun _ _ _ h => h) (by rfl) (fun _ _ => rfl) (by assumption) ?_
  try simp only [layR]
  refine takeV 1 (v := (.pointer (some ⟨F, 0, none⟩))) rfl (by kernel_rfl) (by kernel_rfl) (by kernel_rfl) (fun _ _ _ h => h) (by rfl) (fun W hSw => ?_) (by assumption) ?_
  · skip
    go_simp
  try simp only [layR]
  refine takeV 2 (v := (.pointer (some ⟨F, 1, none⟩))) rfl (by kernel_rfl) (by kernel_rfl) (by kernel_rfl) (fun _ _ _ h => h) (by rfl) (fun W hSw => ?_) (by assumption) ?_
  · skip
    go_simp
  try simp only [layR]
  refine takeV 3 (v := (.pointer (some ⟨g.M, 0, none⟩))) rfl (by kernel_rfl) (by kernel_rfl) (by kernel_rfl) (fun _ _ _ h => h) (by rfl) (fun W hSw => ?_) (by assumption) ?_
  · have y9 := cell_on HF1.out hSw
    go_simp
  try simp only [layR]
  refine takeV 5 (v := (.pointer (some ⟨F, 0, none⟩))) rfl (by kernel_rfl) (by kernel_rfl) (by kernel_rfl) (fun _ _ _ h => h) (by rfl) (fun _ _ => rfl) (by assumption) ?_
  try simp only [layR]
  refine takeV 6 (v := (.pointer (some ⟨F, 0, none⟩))) rfl (by kernel_rfl) (by kernel_rfl) (by kernel_rfl) (fun _ _ _ h => h) (by rfl) (fun W hSw => ?_) (by assumption) ?_
  · skip
    go_simp
  try simp only [layR]
  refine takeV 7 (v := (.pointer (some ⟨F, 1, none⟩))) rfl (by kernel_rfl) (by kernel_rfl) (by kernel_rfl) (fun _ _ _ h => h) (by rfl) (fun W hSw => ?_) (by assumption) ?_
  · skip
    go_simp
  try simp only [layR]
  refine takeV 8 (v := (.pointer (some ⟨g.M, 0, none⟩))) rfl (by kernel_rfl) (by kernel_rfl) (by kernel_rfl) (fun _ _ _ h => h) (by rfl) (fun W hSw => ?_) (by assumption) ?_
  · have y9 := cell_on HF1.out hSw
    go_simp
  try simp only [layR]
  refine takeV 10 (v := (.pointer (some ⟨F, 0, none⟩))) rfl (by kernel_rfl) (by kernel_rfl) (by kernel_rfl) (fun _ _ _ h => h) (by rfl) (fun _ _ => rfl) (by assumption) ?_
  try simp only [layR]
  refine takeV 11 (v := (.pointer (some ⟨F, 0, none⟩))) rfl (by kernel_rfl) (by kernel_rfl) (by kernel_rfl) (fun _ _ _ h => h) (by rfl) (fun W hSw => ?_) (by assumption) ?_
  · skip
    go_simp
  try simp only [layR]
  refine takeV 12 (v := (.pointer (some ⟨F, 0, none⟩))) rfl (by kernel_rfl) (by kernel_rfl) (by kernel_rfl) (fun _ _ _ h => h) (by rfl) (fun W hSw => ?_) (by assumption) ?_
  · skip
    go_simp
  try simp only [layR]
  refine takeV 13 (v := (.pointer (some ⟨g.C, 0, none⟩))) rfl (by kernel_rfl) (by kernel_rfl) (by kernel_rfl) (fun _ _ _ h => h) (by rfl) (fun W hSw => ?_) (by assumption) ?_
  · have y9 := cell_on HF0.out hSw
    go_simp
  try simp only [layR]
  refine wpAnyH_ready (rs := [4]) (by kernel_rfl) (by simp) ?_
  refine AllReadyH.cons rfl (fun K' hK => ?_) AllReadyH.nil
  go_simp
  refine (HRm.out w2 hS0).mono ?_
  rintro e w3 ⟨rfl, hb3⟩
  have hS3 := hS0.then_ hb3
  clear hb3
  refine hK.out _ _ hS3 (fun hS4 => ?_)
  try simp only [layR]
  refine wpAnyH_ready (rs := [9]) (by kernel_rfl) (by simp) ?_
  refine AllReadyH.cons rfl (fun K' hK => ?_) AllReadyH.nil
  go_simp
  refine (HFr.out w3 hS4).mono ?_
  rintro e w4 ⟨rfl, hb4⟩
  have hS5 := hS4.then_ hb4
  clear hb4
  refine hK.out _ _ hS5 (fun hS6 => ?_)
  try simp only [layR]
  refine wpAnyH_ready (rs := [14]) (by kernel_rfl) (by simp) ?_
  refine AllReadyH.cons rfl (fun K' hK => ?_) AllReadyH.nil
  go_simp
  refine (HGe.out w4 hS6).mono ?_
  rintro e w5 ⟨rfl, hb5⟩
  have hS7 := hS6.then_ hb5
  clear hb5
  refine hK.out _ _ hS7 (fun hS8 => ?_)
  try simp only [layR]
  unfold geoV
  refine takeV 15 (v := (.int .i64 8)) rfl (by kernel_rfl) (by kernel_rfl) (by kernel_rfl) (fun _ _ _ h => h) (by rfl) (fun W hSw => ?_) (by assumption) ?_
  · skip
    go_simp
  try simp only [layR]
  refine takeV 16 (v := (.int .i64 ((q : Int) * 8))) rfl (by kernel_rfl) (by kernel_rfl) (by kernel_rfl) (fun _ _ _ h => h) (by rfl) (fun W hSw => ?_) (by assumption) ?_
  · skip
    go_simp
  try simp only [layR]
  refine takeV 17 (v := (.bool (rm == (q : Int) * 8))) rfl (by kernel_rfl) (by kernel_rfl) (by kernel_rfl) (fun _ _ _ h => h) (by rfl) (fun W hSw => ?_) (by assumption) ?_
  · skip
    go_simp
  try simp only [layR]
  refine wpAnyH_done (by kernel_rfl) ?_ _
  refine NoPanic.normal ?_
  have HS8 := Lib.hid hS8
  have f5 := cell_on HF1.out hS8
  have HFr5 := Lib.hid (HFr.out w5 hS8)
  clear hS0 hS3 hS4 hS5 hS6 hS7 hS8 f1
  by_cases e : rm = (q : Int) * 8
  · rw [show (rm == (q : Int) * 8) = true by rw [beq_iff_eq]; exact e]
    have HE := Lib.hid e
    clear e
    go_wp2_with fail
    refine HFr5.out.mono ?_
    rintro e w6 ⟨rfl, hb6⟩
    have HB6 := Lib.hid (HS8.out.then_ hb6)
    clear hb6
    go_wp2_with fail
    go_ret
    exact ⟨by rw [HWn.out, if_pos HE.out]; rfl, HB6.out⟩
  · rw [show (rm == (q : Int) * 8) = false by rw [beq_eq_false_iff_ne]; exact e]
    have HE := Lib.hid e
    clear e
    go_wp2_with fail
    refine HFr5.out.mono ?_
    rintro e w6 ⟨rfl, hb6⟩
    have HB6 := Lib.hid (HS8.out.then_ hb6)
    clear hb6
    go_wp2_with fail
    go_ret
    exact ⟨by rw [HWn.out, if_neg HE.out]; rfl, HB6.out⟩
end
end Go.Proofs.YtiipnpfaaghekaaGreat
namespace Go.Proofs.YtiipnpfaaghekaaGreat
open Go.RowKit Go.Maps Go.ChangeMaps

theorem Arr.kq {α : Type} {f : α → Value} {T : Nat → Prop} {w w' : World} {B n : Nat} {a : Option Addr} {xs : List α} (h : Arr f w B a n xs) (hB : B ≤ w.heap.size) (hk : Kq T w w') (hT : ∀ b o, a = some ⟨b, o, none⟩ → ¬ T b) : Arr f w' B a n xs := by
  obtain ⟨h1, h2, h3⟩ := h
  refine ⟨h1, h2, fun hn => ?_⟩
  obtain ⟨b, o, ha, hlt, hc⟩ := h3 hn
  exact ⟨b, o, ha, hlt, fun i hi => (World.cell?_of_block (a := ⟨b, _, none⟩) (hk.block b (by omega) (hT b o ha))).trans (hc i hi)⟩
/-- A text: a row of its own, or part of one. -/
def TxA (w : World) (tv : Value) (tx : List UInt8) : Prop := (∃ B, Own byteV 5 w B tv tx) ∨ ((∃ a n c, tv = .slice a n c ∧ Bytes w w.heap.size a n tx) ∧ ∀ q, tv.ownBlock = some q → q < w.heap.size)
theorem TxA.of {w : World} {B : Nat} {tv : Value} {tx : List UInt8} (h : Own byteV 5 w B tv tx) : TxA w tv tx := .inl ⟨B, h⟩
theorem TxA.lt {w : World} {tv : Value} {tx : List UInt8} (h : TxA w tv tx) (q : Nat) (hq : tv.ownBlock = some q) : q < w.heap.size := by
  rcases h with ⟨B, h⟩ | ⟨_, h⟩
  · exact (h.blockLt q hq).2
  · exact h q hq
theorem TxA.kq {T : Nat → Prop} {w w' : World} {tv : Value} {tx : List UInt8} (h : TxA w tv tx) (hk : Kq T w w') (hT : ∀ q, tv.ownBlock = some q → ¬ T q) : TxA w' tv tx := by
  rcases h with ⟨B, h⟩ | ⟨⟨a, n, c, h1, h2⟩, h3⟩
  · exact .inl ⟨B, h.kq hk hT⟩
  · exact .inr ⟨⟨a, n, c, h1, (h2.kq (Nat.le_refl _) hk fun b o e => hT b (by rw [h1, e]; rfl)).mono hk.size⟩, fun q hq => Nat.lt_of_lt_of_le (h3 q hq) hk.size⟩
/-- Where a translation lies, and what it holds. -/
structure Fm where
  F : Nat
  SE : Nat
  NO : Nat
  GO : Nat
  LA : Nat
  g : Mg
  se : List En
  no : List En
  go : List En
  seq : Nat
  ep : Nat
  tv : Value
  tx : List UInt8
  ov : Bool
def fmA (NB : Nat) (f : Fm) : Array Value := #[.pointer (some ⟨f.g.C, 0, none⟩), .pointer (some ⟨f.g.M, 0, none⟩), .int .i64 f.g.res, .int .i64 f.g.bad, f.tv, .map (some f.SE), .map (some f.NO), .map (some f.GO), .int .u64 (f.seq : Int), .int .u64 (f.ep : Int), .slice (some ⟨f.LA, 0, none⟩) NB NB, .bool f.ov]
/-- The memory blocks of its own, beside the manager's. -/
def Hb (f : Fm) (q : Nat) : Prop := q = f.F ∨ q = f.SE ∨ q = f.NO ∨ q = f.GO ∨ q = f.LA ∨ f.tv.ownBlock = some q
structure FtC (NB B : Nat) (S : Nat → Prop) (w : World) (f : Fm) : Prop where
  hF : Blk w f.F 59 (fmA NB f)
  hS : MapE w f.SE f.se
  hN : MapE w f.NO f.no
  hG : MapE w f.GO f.go
  hL : Own bolV 4 w 0 (.slice (some ⟨f.LA, 0, none⟩) NB NB) (List.replicate NB false)
  hT : TxA w f.tv f.tx
  hg : MgM NB B S w f.g
  nd : [f.F, f.SE, f.NO, f.GO, f.LA].Nodup
  nt : ∀ q, f.tv.ownBlock = some q → q ∉ [f.F, f.SE, f.NO, f.GO, f.LA]
  ns : ∀ q, Hb f q → ¬ Sm f.g S q
  lo : ∀ q, Hb f q → B ≤ q
section
variable {NB B : Nat} {S S' T : Nat → Prop} {w w' : World} {f : Fm}
theorem FtC.hi (h : FtC NB B S w f) {q : Nat} (hq : Hb f q) : q < w.heap.size := by
  rcases hq with rfl | rfl | rfl | rfl | rfl | hq
  · exact h.hF.lt
  · exact h.hS.lt
  · exact h.hN.lt
  · exact h.hG.lt
  · exact (h.hL.blockLt _ rfl).2
  · exact h.hT.lt _ hq
theorem FtC.kq (h : FtC NB B S w f) (hk : Kq T w w') (hT : ∀ q, Hb f q ∨ Sm f.g S q → ¬ T q) : FtC NB B S w' f := by
  have hb : ∀ {q}, Hb f q → w'.heap[q]? = w.heap[q]? := fun hq => hk.block _ (h.hi hq) (hT _ (.inl hq))
  refine ⟨h.hF.kq hk (hT _ (.inl (.inl rfl))), h.hS.same (hb (.inr (.inl rfl))), h.hN.same (hb (.inr (.inr (.inl rfl)))), h.hG.same (hb (.inr (.inr (.inr (.inl rfl))))), h.hL.kq hk fun q hq => ?_, h.hT.kq hk fun q hq => hT q (.inl (.inr (.inr (.inr (.inr (.inr hq)))))), h.hg.kq hk fun q hq => hT q (.inr hq), h.nd, h.nt, h.ns, h.lo⟩
  obtain rfl := own_of _ _ _ _ hq
  exact hT _ (.inl (.inr (.inr (.inr (.inr (.inl rfl))))))
/-- The manager has done something. -/
theorem FtC.mgr {g2 : Mg} (h : FtC NB B S w f) (hm : MgM NB B S' w' g2) (hk : Kq (Sm f.g S) w w') (hS : ∀ q, S' q → Up S w w' q) (h1 : g2.M = f.g.M) (h2 : g2.ML = f.g.ML) (h3 : g2.C = f.g.C) (h4 : g2.res = f.g.res) (h5 : g2.bad = f.g.bad) : FtC NB B S' w' { f with g := g2 } := by
  have hb : ∀ {q}, Hb f q → w'.heap[q]? = w.heap[q]? := fun hq => hk.block _ (h.hi hq) (h.ns _ hq)
  refine ⟨?_, h.hS.same (hb (.inr (.inl rfl))), h.hN.same (hb (.inr (.inr (.inl rfl)))), h.hG.same (hb (.inr (.inr (.inr (.inl rfl))))), h.hL.kq hk fun q hq => ?_, h.hT.kq hk fun q hq => h.ns q (.inr (.inr (.inr (.inr (.inr hq))))), hm, h.nd, h.nt, fun q hq hs => ?_, h.lo⟩
  · have := h.hF.kq hk (h.ns _ (.inl rfl))
    unfold fmA at this ⊢
    simp only [h1, h3, h4, h5]
    exact this
  · obtain rfl := own_of _ _ _ _ hq
    exact h.ns _ (.inr (.inr (.inr (.inr (.inl rfl)))))
  · have hlt := h.hi hq
    rcases hs with e | e | e
    · exact h.ns q hq (.inl (e.trans h1))
    · exact h.ns q hq (.inr (.inl (e.trans h2)))
    · exact h.ns q hq (.inr (.inr (up_of (hS q e) hlt)))
theorem FtC.sm_lt (h : FtC NB B S w f) {q : Nat} (hq : Sm f.g S q) : q < w.heap.size := h.hg.hi q hq
end
/-- All blocks that are the translation's, and more that nobody else has. -/
def FtM (NB B : Nat) (R : Nat → Prop) (w : World) (f : Fm) : Prop := ∃ S, FtC NB B S w f ∧ (∀ q, Hb f q ∨ Sm f.g S q → R q) ∧ ∀ q, R q → B ≤ q ∧ q < w.heap.size
/-- A translation behind a call that began in w. -/
def FtR (NB B : Nat) (R : Nat → Prop) (w w' : World) (f : Fm) : Prop := FtM NB B (Up R w w') w' f ∧ Kq R w w'
section
variable {NB B : Nat} {R T : Nat → Prop} {w w' w1 w2 : World} {f f1 f2 : Fm}
theorem FtM.kq (h : FtM NB B R w f) (hk : Kq T w w') (hT : ∀ q, R q → ¬ T q) : FtM NB B R w' f := by
  obtain ⟨S, h1, h2, h3⟩ := h
  exact ⟨S, h1.kq hk fun q hq => hT q (h2 q hq), h2, fun q hq => ⟨(h3 q hq).1, Nat.lt_of_lt_of_le (h3 q hq).2 hk.size⟩⟩
theorem FtM.on (h : FtM NB B R w f) (hb : Below w.heap.size w w') : FtM NB B R w' f := h.kq (T := fun _ => False) (Kq.of hb) fun _ _ h => h
theorem FtM.more {R' : Nat → Prop} (h : FtM NB B R w f) (h1 : ∀ q, R q → R' q) (h2 : ∀ q, R' q → B ≤ q ∧ q < w.heap.size) : FtM NB B R' w f := by
  obtain ⟨S, a1, a2, _⟩ := h
  exact ⟨S, a1, fun q hq => h1 q (a2 q hq), h2⟩
theorem FtM.bnd (h : FtM NB B R w f) : ∀ q, R q → B ≤ q ∧ q < w.heap.size := by obtain ⟨S, _, _, h3⟩ := h; exact h3
theorem FtM.ghost (h : FtM NB B R w f) (P : List UInt8 → Prop) : FtM NB B R w { f with g := { f.g with gh := P } } := by
  obtain ⟨S, a, h2, h3⟩ := h
  exact ⟨S, ⟨a.hF, a.hS, a.hN, a.hG, a.hL, a.hT, a.hg.ghost P, a.nd, a.nt, a.ns, a.lo⟩, h2, h3⟩
theorem FtM.ltF (h : FtM NB B R w f) : f.F < w.heap.size := by obtain ⟨S, h1, _⟩ := h; exact h1.hF.lt
theorem FtM.base (h : FtM NB B R w f) : B ≤ w.heap.size := by obtain ⟨S, h1, _⟩ := h; have := h1.lo _ (.inl rfl); have := h1.hF.lt; omega
theorem FtM.inF (h : FtM NB B R w f) : R f.F := by obtain ⟨S, _, h2, _⟩ := h; exact h2 _ (.inl (.inl rfl))
theorem FtM.hF (h : FtM NB B R w f) : Blk w f.F 59 (fmA NB f) := by obtain ⟨S, h1, _⟩ := h; exact h1.hF
theorem FtM.hS (h : FtM NB B R w f) : MapE w f.SE f.se := by obtain ⟨S, h1, _⟩ := h; exact h1.hS
theorem FtM.hN (h : FtM NB B R w f) : MapE w f.NO f.no := by obtain ⟨S, h1, _⟩ := h; exact h1.hN
theorem FtM.hG (h : FtM NB B R w f) : MapE w f.GO f.go := by obtain ⟨S, h1, _⟩ := h; exact h1.hG
theorem FtM.hL (h : FtM NB B R w f) : Own bolV 4 w 0 (.slice (some ⟨f.LA, 0, none⟩) NB NB) (List.replicate NB false) := by obtain ⟨S, h1, _⟩ := h; exact h1.hL
theorem FtM.mg (h : FtM NB B R w f) : ∃ S, MgM NB B S w f.g ∧ ∀ q, Sm f.g S q → R q := by obtain ⟨S, h1, h2, _⟩ := h; exact ⟨S, h1.hg, fun q hq => h2 q (.inr hq)⟩
theorem FtM.c0 (h : FtM NB B R w f) : w.cell? ⟨f.F, 0, none⟩ = some (.pointer (some ⟨f.g.C, 0, none⟩)) := h.hF.cellv rfl
theorem FtM.c1 (h : FtM NB B R w f) : w.cell? ⟨f.F, 1, none⟩ = some (.pointer (some ⟨f.g.M, 0, none⟩)) := h.hF.cellv rfl
theorem FtM.c2 (h : FtM NB B R w f) : w.cell? ⟨f.F, 2, none⟩ = some (.int .i64 f.g.res) := h.hF.cellv rfl
theorem FtM.c3 (h : FtM NB B R w f) : w.cell? ⟨f.F, 3, none⟩ = some (.int .i64 f.g.bad) := h.hF.cellv rfl
theorem FtM.c4 (h : FtM NB B R w f) : w.cell? ⟨f.F, 4, none⟩ = some f.tv := h.hF.cellv rfl
theorem FtM.c5 (h : FtM NB B R w f) : w.cell? ⟨f.F, 5, none⟩ = some (.map (some f.SE)) := h.hF.cellv rfl
theorem FtM.c6 (h : FtM NB B R w f) : w.cell? ⟨f.F, 6, none⟩ = some (.map (some f.NO)) := h.hF.cellv rfl
theorem FtM.c7 (h : FtM NB B R w f) : w.cell? ⟨f.F, 7, none⟩ = some (.map (some f.GO)) := h.hF.cellv rfl
theorem FtM.c8 (h : FtM NB B R w f) : w.cell? ⟨f.F, 8, none⟩ = some (.int .u64 (f.seq : Int)) := h.hF.cellv rfl
theorem FtM.c9 (h : FtM NB B R w f) : w.cell? ⟨f.F, 9, none⟩ = some (.int .u64 (f.ep : Int)) := h.hF.cellv rfl
theorem FtM.c10 (h : FtM NB B R w f) : w.cell? ⟨f.F, 10, none⟩ = some (.slice (some ⟨f.LA, 0, none⟩) NB NB) := h.hF.cellv rfl
theorem FtM.c11 (h : FtM NB B R w f) : w.cell? ⟨f.F, 11, none⟩ = some (.bool f.ov) := h.hF.cellv rfl
theorem FtM.frz (h : FtM NB B R w f) (i : Nat) : w.frozen? ⟨f.F, i, none⟩ = false := h.hF.frozen i
theorem up_refl {R : Nat → Prop} {w : World} {q : Nat} (h : Up R w w q) : R q := by rcases h with h | h; exact h; omega
theorem FtM.refl (h : FtM NB B R w f) : FtR NB B R w w f := ⟨h.more (fun _ hq => .inl hq) fun q hq => h.bnd q (up_refl hq), Kq.refl _ _⟩
theorem up_up {R : Nat → Prop} {w w1 w2 : World} (h1 : w.heap.size ≤ w1.heap.size) (h2 : w1.heap.size ≤ w2.heap.size) {q : Nat} (h : Up (Up R w w1) w1 w2 q) : Up R w w2 q := by
  rcases h with (h | h) | h
  · exact .inl h
  · exact .inr ⟨h.1, by omega⟩
  · exact .inr ⟨by omega, h.2⟩
theorem FtR.then_ (h : FtR NB B R w w1 f1) (k : FtR NB B (Up R w w1) w1 w2 f2) : FtR NB B R w w2 f2 := by
  have hs1 := h.2.size
  have hs2 := k.2.size
  refine ⟨k.1.more (fun q hq => up_up hs1 hs2 hq) fun q hq => ?_, h.2.then_ k.2 fun q hq => ?_⟩
  · rcases hq with hq | hq
    · exact k.1.bnd q (.inl (.inl hq))
    · rcases Nat.lt_or_ge q w1.heap.size with h1 | h1
      · exact k.1.bnd q (.inl (.inr ⟨hq.1, h1⟩))
      · exact k.1.bnd q (.inr ⟨h1, hq.2⟩)
  · rcases hq with h1 | h1
    · exact .inl h1
    · exact .inr h1.1
theorem FtR.ft (h : FtR NB B R w w1 f) : FtM NB B (Up R w w1) w1 f := h.1
theorem FtR.on (h : FtR NB B R w w1 f) (hb : Below w1.heap.size w1 w2) (hB : B ≤ w.heap.size) : FtR NB B R w w2 f := by
  have hs := hb.size
  refine ⟨(h.1.on hb).more (fun q hq => ?_) fun q hq => ?_, h.2.on hb⟩
  · rcases hq with h1 | h1
    · exact .inl h1
    · exact .inr ⟨h1.1, by omega⟩
  · rcases hq with h1 | h1
    · have := h.1.bnd q (.inl h1); omega
    · omega
theorem FtM.on_ (h : FtM NB B R w f) (hb : Below w.heap.size w w1) : FtR NB B R w w1 f := h.refl.on hb h.base
theorem FtR.step (h : FtR NB B R w w1 f) (h1 : FtM NB B (Up R w w1) w2 f2) (h2 : Kq (Up R w w1) w1 w2) : FtR NB B R w w2 f2 := by
  have hs := h2.size
  refine ⟨h1.more (fun q hq => ?_) fun q hq => ?_, h.2.then_ h2 fun q hq => ?_⟩
  · rcases hq with h3 | h3
    · exact .inl h3
    · exact .inr ⟨h3.1, by omega⟩
  · rcases hq with h3 | h3
    · exact h1.bnd q (.inl h3)
    · have := h.1.bnd
      rcases Nat.lt_or_ge q w1.heap.size with h4 | h4
      · exact h1.bnd q (.inr ⟨h3.1, h4⟩)
      · have hb : B ≤ w1.heap.size := h.1.base
        omega
  · rcases hq with h3 | h3
    · exact .inl h3
    · exact .inr h3.1
/-- What a call has laid ahead of another one's work. -/
theorem FtR.from_ (hb : Below w.heap.size w w1) (h : FtR NB B R w1 w2 f) (hB : B ≤ w.heap.size) : FtR NB B R w w2 f := by
  have hs := hb.size
  refine ⟨h.1.more (fun q hq => ?_) fun q hq => ?_, (Kq.of hb).trans h.2⟩
  · rcases hq with h1 | h1
    · exact .inl h1
    · exact .inr ⟨by omega, h1.2⟩
  · rcases hq with h1 | h1
    · exact h.1.bnd q (.inl h1)
    · omega
/-- Blocks that a call has laid for itself are written to at its end. -/
theorem FtR.tail {w3 : World} (hb : Below w.heap.size w w1) (h : FtR NB B R w1 w2 f) (hB : B ≤ w.heap.size) (hk : Kq T w2 w3) (hT : ∀ q, T q → w.heap.size ≤ q ∧ q < w1.heap.size ∧ ¬ R q) : FtR NB B R w w3 f := by
  have hs := hb.size
  have hs2 := hk.size
  have h1 := h.1.kq hk fun q hq ht => by
    obtain ⟨a1, a2, a3⟩ := hT q ht
    exact a3 (up_of hq a2)
  refine ⟨h1.more (fun q hq => ?_) fun q hq => ?_, ((Kq.of hb).trans h.2).then_ hk fun q hq => .inr (hT q hq).1⟩
  · rcases hq with h1 | h1
    · exact .inl h1
    · exact .inr ⟨by omega, by omega⟩
  · rcases hq with h2 | h2
    · exact h1.bnd q (.inl h2)
    · omega
theorem FtM.not_new (h : FtM NB B R w f) {q : Nat} (hq : w.heap.size ≤ q) : ¬ R q := fun h1 => by have := (h.bnd q h1).2; omega
/-- A block of the caller's. -/
theorem FtR.blk {q : Nat} {t : TypeId} {cs : Array Value} (h : FtR NB B R w w1 f) (hb : Blk w q t cs) (hq : ¬ R q) : Blk w1 q t cs := hb.kq h.2 hq
/-- Bytes that are nobody's but the caller's. -/
theorem FtR.own {α : Type} {v : α → Value} {e : TypeId} {b : Nat} {x : Value} {xs : List α} (h : FtR NB B R w w1 f) (ho : Own v e w b x xs) (hx : ∀ q, x.ownBlock = some q → ¬ R q) : Own v e w1 b x xs := ho.kq h.2 hx
theorem FtR.far {q : Nat} (_ : FtR NB B R w w1 f) (hq : ¬ R q) (hl : q < w.heap.size) : ¬ Up R w w1 q := fun h1 => hq (up_of h1 hl)
theorem FtR.below (h : FtR NB B R w w1 f) (h0 : FtM NB B R w f2) : Below B w w1 := h.2.below (fun q hq => (h0.bnd q hq).1) h0.base
/-- The manager has done something. -/
theorem ft_mgr {S S' : Nat → Prop} {g2 : Mg} (a1 : FtC NB B S w f) (a2 : ∀ q, Hb f q ∨ Sm f.g S q → R q) (a3 : ∀ q, R q → B ≤ q ∧ q < w.heap.size) (b1 : MgM NB B S' w' g2) (b2 : Kq (Sm f.g S) w w') (b3 : ∀ q, S' q → Up S w w' q) (h1 : g2.M = f.g.M) (h2 : g2.ML = f.g.ML) (h3 : g2.C = f.g.C) (h4 : g2.res = f.g.res) (h5 : g2.bad = f.g.bad) : FtR NB B R w w' { f with g := g2 } := by
  have hs := b2.size
  have h0 : B ≤ w.heap.size := by have := a1.lo _ (.inl rfl); have := a1.hF.lt; omega
  refine ⟨⟨S', a1.mgr b1 b2 b3 h1 h2 h3 h4 h5, fun q hq => ?_, fun q hq => ?_⟩, b2.mono fun q hq => a2 q (.inr hq)⟩
  · rcases hq with hq | hq
    · exact .inl (a2 q (.inl hq))
    · rcases hq with e | e | e
      · exact .inl (a2 q (.inr (.inl (e.trans h1))))
      · exact .inl (a2 q (.inr (.inr (.inl (e.trans h2)))))
      · rcases b3 q e with e2 | e2
        · exact .inl (a2 q (.inr (.inr (.inr e2))))
        · exact .inr e2
  · rcases hq with hq | hq
    · have := a3 q hq; omega
    · omega
/-- The same, the footprint as it was. -/
theorem ft_mgrS {S : Nat → Prop} {g2 : Mg} (a1 : FtC NB B S w f) (a2 : ∀ q, Hb f q ∨ Sm f.g S q → R q) (a3 : ∀ q, R q → B ≤ q ∧ q < w.heap.size) (b1 : MgM NB B S w' g2) (b2 : Kq (Sm f.g S) w w') (h1 : g2.M = f.g.M) (h2 : g2.ML = f.g.ML) (h3 : g2.C = f.g.C) (h4 : g2.res = f.g.res) (h5 : g2.bad = f.g.bad) : FtM NB B R w' { f with g := g2 } ∧ Kq R w w' := by
  refine ⟨⟨S, a1.mgr b1 b2 (fun _ h => .inl h) h1 h2 h3 h4 h5, fun q hq => ?_, fun q hq => ⟨(a3 q hq).1, Nat.lt_of_lt_of_le (a3 q hq).2 b2.size⟩⟩, b2.mono fun q hq => a2 q (.inr hq)⟩
  rcases hq with hq | hq
  · exact a2 q (.inl hq)
  · rcases hq with e | e | e
    · exact a2 q (.inr (.inl (e.trans h1)))
    · exact a2 q (.inr (.inr (.inl (e.trans h2))))
    · exact a2 q (.inr (.inr (.inr e)))
/-- A call that keeps the footprint. -/
theorem FtM.toR {f1 : Fm} (h0 : FtM NB B R w f1) (h : FtM NB B R w' f) (hk : Kq R w w') : FtR NB B R w w' f := by
  have hb := h0.base
  refine ⟨h.more (fun q hq => .inl hq) fun q hq => ?_, hk⟩
  rcases hq with h1 | h1
  · exact h.bnd q h1
  · omega
/-- A cell of its own is stored; maps and text stay. -/
theorem FtM.setF (h : FtM NB B R w f) (i : Nat) (u : Value) (f' : Fm) (hA : (fmA NB f).setIfInBounds i u = fmA NB f') (h1 : f'.F = f.F) (h2 : f'.SE = f.SE) (h3 : f'.NO = f.NO) (h4 : f'.GO = f.GO) (h5 : f'.LA = f.LA) (h6 : f'.g = f.g) (h7 : f'.se = f.se) (h8 : f'.no = f.no) (h9 : f'.go = f.go) (h10 : f'.tv = f.tv) (h11 : f'.tx = f.tx) : FtM NB B R (w.setCell ⟨f.F, i, none⟩ u) f' := by
  obtain ⟨S, a1, a2, a3⟩ := h
  have hq : Kq (fun q => q = f.F) w (w.setCell ⟨f.F, i, none⟩ u) := Kq.one ⟨_, _, none⟩ _
  have nd := a1.nd
  simp only [List.nodup_cons, List.mem_cons, List.not_mem_nil, or_false, not_or] at nd
  obtain ⟨⟨n1, n2, n3, n4⟩, _⟩ := nd
  have hne : ∀ q, q ≠ f.F → (w.setCell ⟨f.F, i, none⟩ u).heap[q]? = w.heap[q]? := fun q hq => heap_setCell_other _ _ _ _ (by simpa using hq)
  refine ⟨S, ⟨?_, ?_, ?_, ?_, ?_, ?_, ?_, ?_, ?_, ?_, ?_⟩, ?_, fun q hq => by simpa using a3 q hq⟩
  · rw [h1, ← hA]; exact a1.hF.set i u
  · rw [h2, h7]; exact a1.hS.same (hne _ (Ne.symm n1))
  · rw [h3, h8]; exact a1.hN.same (hne _ (Ne.symm n2))
  · rw [h4, h9]; exact a1.hG.same (hne _ (Ne.symm n3))
  · rw [h5]; exact a1.hL.kq hq fun q hq => by obtain rfl := own_of _ _ _ _ hq; exact Ne.symm n4
  · rw [h10, h11]; exact a1.hT.kq hq fun q hq e => a1.nt q hq (by rw [e]; simp)
  · rw [h6]; exact a1.hg.kq hq fun q hq e => a1.ns _ (.inl rfl) (e ▸ hq)
  · rw [h1, h2, h3, h4, h5]; exact a1.nd
  · rw [h1, h2, h3, h4, h5, h10]; exact a1.nt
  · unfold Hb; rw [h1, h2, h3, h4, h5, h6, h10]; exact a1.ns
  · unfold Hb; rw [h1, h2, h3, h4, h5, h10]; exact a1.lo
  · unfold Hb; rw [h1, h2, h3, h4, h5, h6, h10]; exact a2
/-- A map of its own is stored to. -/
theorem FtM.putM (h : FtM NB B R w f) {b : Nat} (hg : w.grownBy w' (some b)) (hs : w'.heap.size = w.heap.size) (f' : Fm) (hA : fmA NB f' = fmA NB f) (h1 : f'.F = f.F) (h2 : f'.SE = f.SE) (h3 : f'.NO = f.NO) (h4 : f'.GO = f.GO) (h5 : f'.LA = f.LA) (h6 : f'.g = f.g) (h10 : f'.tv = f.tv) (h11 : f'.tx = f.tx)
    (hb : b = f.SE ∨ b = f.NO ∨ b = f.GO) (k1 : if b = f.SE then MapE w' b f'.se else f'.se = f.se) (k2 : if b = f.NO then MapE w' b f'.no else f'.no = f.no) (k3 : if b = f.GO then MapE w' b f'.go else f'.go = f.go) : FtM NB B R w' f' ∧ Kq R w w' := by
  obtain ⟨S, a1, a2, a3⟩ := h
  have hbH : Hb f b := by
    rcases hb with e | e | e
    · exact .inr (.inl e)
    · exact .inr (.inr (.inl e))
    · exact .inr (.inr (.inr (.inl e)))
  have hq : Kq (fun q => q = b) w w' := (Kq.grown hg).mono fun q e => (Option.some.inj e).symm
  have nd := a1.nd
  simp only [List.nodup_cons, List.mem_cons, List.not_mem_nil, or_false, not_or] at nd
  obtain ⟨⟨n1, n2, n3, n4⟩, ⟨n5, n6, n7⟩, ⟨n8, n9⟩, n10, _⟩ := nd
  have hne : ∀ q, q < w.heap.size → q ≠ b → w'.heap[q]? = w.heap[q]? := fun q hl hq => hg.block q hl fun e => hq (Option.some.inj e)
  have hbm : b ∈ [f.SE, f.NO, f.GO] := by simpa using hb
  refine ⟨⟨S, ⟨?_, ?_, ?_, ?_, ?_, ?_, ?_, ?_, ?_, ?_, ?_⟩, ?_, fun q hq => by rw [hs]; exact a3 q hq⟩, hq.mono fun q e => e ▸ a2 b (.inl hbH)⟩
  · rw [h1, hA]; exact a1.hF.kq hq (by rcases hb with e | e | e <;> omega)
  · rw [h2]
    by_cases e : b = f.SE
    · rw [if_pos e] at k1; rw [← e]; exact k1
    · rw [if_neg e] at k1; rw [k1]; exact a1.hS.same (hne _ a1.hS.lt (Ne.symm e))
  · rw [h3]
    by_cases e : b = f.NO
    · rw [if_pos e] at k2; rw [← e]; exact k2
    · rw [if_neg e] at k2; rw [k2]; exact a1.hN.same (hne _ a1.hN.lt (Ne.symm e))
  · rw [h4]
    by_cases e : b = f.GO
    · rw [if_pos e] at k3; rw [← e]; exact k3
    · rw [if_neg e] at k3; rw [k3]; exact a1.hG.same (hne _ a1.hG.lt (Ne.symm e))
  · rw [h5]; exact a1.hL.kq hq fun q hq => by obtain rfl := own_of _ _ _ _ hq; rcases hb with e | e | e <;> omega
  · rw [h10, h11]; exact a1.hT.kq hq fun q hq e => a1.nt q hq (by rw [e]; simp only [List.mem_cons, List.not_mem_nil, or_false] at hbm ⊢; rcases hbm with e | e | e <;> simp [e])
  · rw [h6]; exact a1.hg.kq hq fun q hq e => a1.ns _ hbH (e ▸ hq)
  · rw [h1, h2, h3, h4, h5]; exact a1.nd
  · rw [h1, h2, h3, h4, h5, h10]; exact a1.nt
  · unfold Hb; rw [h1, h2, h3, h4, h5, h6, h10]; exact a1.ns
  · unfold Hb; rw [h1, h2, h3, h4, h5, h10]; exact a1.lo
  · unfold Hb; rw [h1, h2, h3, h4, h5, h6, h10]; exact a2
/-- No block has pages of a later epoch: said once more. -/
theorem FtM.setL (h : FtM NB B R w f) (k : Nat) : FtM NB B R (w.setCell ⟨f.LA, k, none⟩ (.bool false)) f ∧ Kq R w (w.setCell ⟨f.LA, k, none⟩ (.bool false)) := by
  obtain ⟨S, a1, a2, a3⟩ := h
  have hLH : Hb f f.LA := .inr (.inr (.inr (.inr (.inl rfl))))
  have hq : Kq (fun q => q = f.LA) w (w.setCell ⟨f.LA, k, none⟩ (.bool false)) := Kq.one ⟨_, _, none⟩ _
  have nd := a1.nd
  simp only [List.nodup_cons, List.mem_cons, List.not_mem_nil, or_false, not_or] at nd
  obtain ⟨⟨n1, n2, n3, n4⟩, ⟨n5, n6, n7⟩, ⟨n8, n9⟩, n10, _⟩ := nd
  have hne : ∀ q, q ≠ f.LA → (w.setCell ⟨f.LA, k, none⟩ (.bool false)).heap[q]? = w.heap[q]? := fun q hq => heap_setCell_other _ _ _ _ (by simpa using hq)
  have hL : Own bolV 4 (w.setCell ⟨f.LA, k, none⟩ (.bool false)) 0 (.slice (some ⟨f.LA, 0, none⟩) NB NB) (List.replicate NB false) := by
    have := a1.hL.set k false
    rw [show (List.replicate NB false).set k false = List.replicate NB false from List.ext_getElem (by simp) fun i h1 h2 => by rw [List.getElem_set, List.getElem_replicate]; simp] at this
    exact this
  refine ⟨⟨S, ⟨a1.hF.kq hq n4, a1.hS.same (hne _ n7), a1.hN.same (hne _ n9), a1.hG.same (hne _ n10), hL, a1.hT.kq hq fun q hq e => a1.nt q hq (by rw [e]; simp), a1.hg.kq hq fun q hq e => a1.ns _ hLH (e ▸ hq), a1.nd, a1.nt, a1.ns, a1.lo⟩, a2, fun q hq => by simpa using a3 q hq⟩, hq.mono fun q e => e ▸ a2 _ (.inl hLH)⟩
theorem FtM.dis (h : FtM NB B R w f) : f.SE ≠ f.NO ∧ f.SE ≠ f.GO ∧ f.NO ≠ f.GO := by
  obtain ⟨S, a1, _⟩ := h
  have nd := a1.nd
  simp only [List.nodup_cons, List.mem_cons, List.not_mem_nil, or_false, not_or] at nd
  obtain ⟨_, ⟨n5, n6, _⟩, ⟨n8, _⟩, _⟩ := nd
  exact ⟨n5, n6, n8⟩
theorem FtM.putS (h : FtM NB B R w f) (e : En) (hp : e.t.p < 4294967296) : ∃ o, (Instr.mapUpdate 55 (.map (some f.SE)) (.int .u32 (e.t.p : Int)) (plV e.b e.i)).run Tryz.prog w = .ok () (setBlock w f.SE o) ∧ FtM NB B R (setBlock w f.SE o) { f with se := putE f.se e } ∧ Kq R w (setBlock w f.SE o) := by
  obtain ⟨d1, d2, d3⟩ := h.dis
  obtain ⟨o, hrun, hm, hg⟩ := h.hS.put e hp
  obtain ⟨a, b⟩ := h.putM hg (by simp [setBlock]) { f with se := putE f.se e } rfl rfl rfl rfl rfl rfl rfl rfl rfl (.inl rfl) (by rw [if_pos rfl]; exact hm) (by rw [if_neg d1]) (by rw [if_neg d2])
  exact ⟨o, hrun, a, b⟩
theorem FtM.putN (h : FtM NB B R w f) (e : En) (hp : e.t.p < 4294967296) : ∃ o, (Instr.mapUpdate 55 (.map (some f.NO)) (.int .u32 (e.t.p : Int)) (plV e.b e.i)).run Tryz.prog w = .ok () (setBlock w f.NO o) ∧ FtM NB B R (setBlock w f.NO o) { f with no := putE f.no e } ∧ Kq R w (setBlock w f.NO o) := by
  obtain ⟨d1, d2, d3⟩ := h.dis
  obtain ⟨o, hrun, hm, hg⟩ := h.hN.put e hp
  obtain ⟨a, b⟩ := h.putM hg (by simp [setBlock]) { f with no := putE f.no e } rfl rfl rfl rfl rfl rfl rfl rfl rfl (.inr (.inl rfl)) (by rw [if_neg (Ne.symm d1)]) (by rw [if_pos rfl]; exact hm) (by rw [if_neg d3])
  exact ⟨o, hrun, a, b⟩
theorem FtM.putG (h : FtM NB B R w f) (e : En) (hp : e.t.p < 4294967296) : ∃ o, (Instr.mapUpdate 55 (.map (some f.GO)) (.int .u32 (e.t.p : Int)) (plV e.b e.i)).run Tryz.prog w = .ok () (setBlock w f.GO o) ∧ FtM NB B R (setBlock w f.GO o) { f with go := putE f.go e } ∧ Kq R w (setBlock w f.GO o) := by
  obtain ⟨d1, d2, d3⟩ := h.dis
  obtain ⟨o, hrun, hm, hg⟩ := h.hG.put e hp
  obtain ⟨a, b⟩ := h.putM hg (by simp [setBlock]) { f with go := putE f.go e } rfl rfl rfl rfl rfl rfl rfl rfl rfl (.inr (.inr rfl)) (by rw [if_neg (Ne.symm d2)]) (by rw [if_neg (Ne.symm d3)]) (by rw [if_pos rfl]; exact hm)
  exact ⟨o, hrun, a, b⟩
theorem FtM.putB (h : FtM NB B R w f) (bn : Bool) {MB : Nat} (hMB : MB = if bn then f.NO else f.SE) (e : En) (hp : e.t.p < 4294967296) : ∃ o, (Instr.mapUpdate 55 (.map (some MB)) (.int .u32 (e.t.p : Int)) (.agg #[.int .i64 (e.b : Int), .int .i64 (e.i : Int)])).run Tryz.prog w = .ok () (setBlock w MB o) ∧ FtM NB B R (setBlock w MB o) { f with se := if bn then f.se else putE f.se e, no := if bn then putE f.no e else f.no } ∧ Kq R w (setBlock w MB o) := by
  subst hMB
  cases bn
  · exact h.putS e hp
  · exact h.putN e hp
theorem FtM.delS (h : FtM NB B R w f) {p : Nat} (hp : p < 4294967296) (ty : TypeId) : ∃ o, (Builtin.delete_ #[55, 30] ty #[.map (some f.SE), .int .u32 (p : Int)]).run Tryz.prog w = .ok (.tuple #[]) (setBlock w f.SE o) ∧ FtM NB B R (setBlock w f.SE o) { f with se := delE f.se p } ∧ Kq R w (setBlock w f.SE o) := by
  obtain ⟨d1, d2, d3⟩ := h.dis
  obtain ⟨o, hrun, hm, hg⟩ := h.hS.del hp ty
  obtain ⟨a, b⟩ := h.putM hg (by simp [setBlock]) { f with se := delE f.se p } rfl rfl rfl rfl rfl rfl rfl rfl rfl (.inl rfl) (by rw [if_pos rfl]; exact hm) (by rw [if_neg d1]) (by rw [if_neg d2])
  exact ⟨o, hrun, a, b⟩
theorem FtM.delN (h : FtM NB B R w f) {p : Nat} (hp : p < 4294967296) (ty : TypeId) : ∃ o, (Builtin.delete_ #[55, 30] ty #[.map (some f.NO), .int .u32 (p : Int)]).run Tryz.prog w = .ok (.tuple #[]) (setBlock w f.NO o) ∧ FtM NB B R (setBlock w f.NO o) { f with no := delE f.no p } ∧ Kq R w (setBlock w f.NO o) := by
  obtain ⟨d1, d2, d3⟩ := h.dis
  obtain ⟨o, hrun, hm, hg⟩ := h.hN.del hp ty
  obtain ⟨a, b⟩ := h.putM hg (by simp [setBlock]) { f with no := delE f.no p } rfl rfl rfl rfl rfl rfl rfl rfl rfl (.inr (.inl rfl)) (by rw [if_neg (Ne.symm d1)]) (by rw [if_pos rfl]; exact hm) (by rw [if_neg d3])
  exact ⟨o, hrun, a, b⟩
theorem FtM.delG (h : FtM NB B R w f) {p : Nat} (hp : p < 4294967296) (ty : TypeId) : ∃ o, (Builtin.delete_ #[55, 30] ty #[.map (some f.GO), .int .u32 (p : Int)]).run Tryz.prog w = .ok (.tuple #[]) (setBlock w f.GO o) ∧ FtM NB B R (setBlock w f.GO o) { f with go := delE f.go p } ∧ Kq R w (setBlock w f.GO o) := by
  obtain ⟨d1, d2, d3⟩ := h.dis
  obtain ⟨o, hrun, hm, hg⟩ := h.hG.del hp ty
  obtain ⟨a, b⟩ := h.putM hg (by simp [setBlock]) { f with go := delE f.go p } rfl rfl rfl rfl rfl rfl rfl rfl rfl (.inr (.inr rfl)) (by rw [if_neg (Ne.symm d2)]) (by rw [if_neg (Ne.symm d3)]) (by rw [if_pos rfl]; exact hm)
  exact ⟨o, hrun, a, b⟩
end
end Go.Proofs.YtiipnpfaaghekaaGreat
