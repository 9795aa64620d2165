/-
  What the manager does next; how much is free.
-/
import Derived.Test.YtiipnpfaaghekaaGreatBlkSmall
import Derived.Test.YtiipnpfaaghekaaGreatGcAct
namespace Go.Proofs.YtiipnpfaaghekaaGreat
open Go.RowKit

section
variable {NB B : Nat} {S : Nat → Prop} {w : World} {g : Mg}
theorem bFree_calls (h : MgM NB B S w g) :
    Calls Tryz.prog 97 #[.pointer (some ⟨g.M, 0, none⟩)] w fun e w' => e = .returned (.int .i64 (Gc.count 0 g.l : Int)) ∧ Below w.heap.size w w' := by
  have m1 := h.m1
  have HC := Lib.hid (count_calls 0 _ NB g.cap g.l w h.arr h.nb)
  clear h
  go_enter Tryz.func97, Tryz.ntmps97
  go_wp2_with fail
  refine HC.out.mono ?_
  rintro e w1 ⟨rfl, hb⟩
  have HB := Lib.hid hb
  clear hb
  go_wp2
  go_ret
  exact ⟨rfl, HB.out⟩
/-- How many pages can be programmed. -/
def roomOf (g : Mg) : Int := (Gc.count 0 g.l : Int) * 8 + (if g.opn = -1 then 0 else 8 - ((Gc.at_ g.l g.opn.toNat).nx : Int))
set_option maxRecDepth 100000 in
theorem bRoom_calls (h : MgM NB B S w g) (ho : g.opn = -1 ∨ (0 ≤ g.opn ∧ g.opn < NB)) (hx : (Gc.at_ g.l g.opn.toNat).nx ≤ 8) :
    Calls Tryz.prog 94 #[.pointer (some ⟨g.M, 0, none⟩)] w fun e w' => e = .returned (.int .i64 (roomOf g)) ∧ Below w.heap.size w w' := by
  have HF := Lib.hid (bFree_calls h)
  have HH := Lib.hid h
  have hnb := h.nb
  have hcl := Nat.le_trans (Gc.count_le 0 g.l) (Nat.le_of_eq h.len)
  clear h
  go_enter Tryz.func94, Tryz.ntmps94
  go_wp2_with fail
  refine HF.out.mono ?_
  rintro e w1 ⟨rfl, hb⟩
  have HB := Lib.hid hb
  have HG1 := Lib.hid (HH.out.on hb)
  clear hb
  go_wp2_with fail
  refine (bpages_calls HG1.out).mono ?_
  rintro e w2 ⟨rfl, hb⟩
  have HB2 := Lib.hid (HB.out.then_ hb)
  have HG2 := Lib.hid (HG1.out.on hb)
  have m2 := HG2.out.m2
  have i1 := IntWalk.i64_in ((Gc.count 0 g.l : Int) * 8) ⟨by omega, by omega⟩
  have HRm := Lib.hid (show roomOf g = (Gc.count 0 g.l : Int) * 8 + (if g.opn = -1 then 0 else 8 - ((Gc.at_ g.l g.opn.toNat).nx : Int)) from rfl)
  clear hb
  generalize Gc.count 0 g.l = q at *
  rcases ho with ho | ⟨h1, h2⟩
  · rw [ho] at m2
    rw [if_pos ho] at HRm
    clear ho
    go_wp2_with fail
    go_ret
    exact ⟨by rw [HRm.out, Int.add_zero]; rfl, HB2.out⟩
  · obtain ⟨k, hk⟩ : ∃ k : Nat, g.opn = (k : Int) := ⟨g.opn.toNat, by omega⟩
    rw [hk] at m2 h1 h2 hx HRm
    have hkn : k < NB := by omega
    have hne : ((k : Int) != -1) = true := by rw [bne_iff_ne]; omega
    rw [if_neg (show ¬ (k : Int) = -1 by omega), Int.toNat_natCast] at HRm
    rw [Int.toNat_natCast] at hx
    generalize hxx : Gc.at_ g.l k = x at *
    have HXX := Lib.hid hxx
    have HOk := Lib.hid hk
    have i2 := IntWalk.i64_in (8 - (x.nx : Int)) ⟨by omega, by omega⟩
    have i3 := IntWalk.i64_in ((q : Int) * 8 + (8 - (x.nx : Int))) ⟨by omega, by omega⟩
    clear hk hxx
    go_upto_region 5 with fail
    have HD := Lib.hid (HG2.out.on (below_drew w2))
    have HS0 := Lib.hid (show Below w2.heap.size w2 w2.drew from below_drew w2)
    refine wp_region_noPanic ?_
    refine wp_region_held_drew (S := (fun W' => Below w2.heap.size w2 W')) (by kernel_rfl) HS0.out (fun hS0 => ?_)
    refine takeV 0 (v := (.int .i64 ((q : Int) * 8))) rfl (by kernel_rfl) (by kernel_rfl) (by kernel_rfl) (fun _ _ _ h => h) (by rfl) (fun _ _ => rfl) (by assumption) ?_
    try simp only [layR]
    refine takeV 1 (v := (.pointer (some ⟨g.M, 0, none⟩))) rfl (by kernel_rfl) (by kernel_rfl) (by kernel_rfl) (fun _ _ _ h => h) (by rfl) (fun _ _ => rfl) (by assumption) ?_
    try simp only [layR]
    refine takeV 3 (v := (.pointer (some ⟨g.M, 0, none⟩))) rfl (by kernel_rfl) (by kernel_rfl) (by kernel_rfl) (fun _ _ _ h => h) (by rfl) (fun _ _ => rfl) (by assumption) ?_
    try simp only [layR]
    refine takeV 4 (v := (.pointer (some ⟨g.M, 0, none⟩))) rfl (by kernel_rfl) (by kernel_rfl) (by kernel_rfl) (fun _ _ _ h => h) (by rfl) (fun W hSw => ?_) (by assumption) ?_
    · skip
      go_simp
    try simp only [layR]
    refine takeV 5 (v := (.pointer (some ⟨g.M, 1, none⟩))) rfl (by kernel_rfl) (by kernel_rfl) (by kernel_rfl) (fun _ _ _ h => h) (by rfl) (fun W hSw => ?_) (by assumption) ?_
    · skip
      go_simp
    try simp only [layR]
    refine takeV 6 (v := (.slice (some ⟨g.ML, 0, none⟩) NB g.cap)) rfl (by kernel_rfl) (by kernel_rfl) (by kernel_rfl) (fun _ _ _ h => h) (by rfl) (fun W hSw => ?_) (by assumption) ?_
    · have y9 := (HG2.out.on hSw).m1
      go_simp
    try simp only [layR]
    refine takeV 7 (v := (.pointer (some ⟨g.M, 0, none⟩))) rfl (by kernel_rfl) (by kernel_rfl) (by kernel_rfl) (fun _ _ _ h => h) (by rfl) (fun _ _ => rfl) (by assumption) ?_
    try simp only [layR]
    refine takeV 8 (v := (.pointer (some ⟨g.M, 0, none⟩))) rfl (by kernel_rfl) (by kernel_rfl) (by kernel_rfl) (fun _ _ _ h => h) (by rfl) (fun W hSw => ?_) (by assumption) ?_
    · skip
      go_simp
    try simp only [layR]
    refine takeV 9 (v := (.pointer (some ⟨g.M, 2, none⟩))) rfl (by kernel_rfl) (by kernel_rfl) (by kernel_rfl) (fun _ _ _ h => h) (by rfl) (fun W hSw => ?_) (by assumption) ?_
    · skip
      go_simp
    try simp only [layR]
    refine takeV 10 (v := (.int .i64 (k : Int))) rfl (by kernel_rfl) (by kernel_rfl) (by kernel_rfl) (fun _ _ _ h => h) (by rfl) (fun W hSw => ?_) (by assumption) ?_
    · have y9 := (HG2.out.on hSw).m2; rw [HOk.out] at y9
      go_simp
    try simp only [layR]
    refine takeV 11 (v := (.pointer (some ⟨g.ML, k * 4, none⟩))) rfl (by kernel_rfl) (by kernel_rfl) (by kernel_rfl) (fun _ _ _ h => h) (by rfl) (fun W hSw => ?_) (by assumption) ?_
    · skip
      go_simp
    try simp only [layR]
    refine takeV 12 (v := (.pointer (some ⟨g.ML, k * 4 + 3, none⟩))) rfl (by kernel_rfl) (by kernel_rfl) (by kernel_rfl) (fun _ _ _ h => h) (by rfl) (fun W hSw => ?_) (by assumption) ?_
    · skip
      go_simp
    try simp only [layR]
    refine takeV 13 (v := (.int .i64 (x.nx : Int))) rfl (by kernel_rfl) (by kernel_rfl) (by kernel_rfl) (fun _ _ _ h => h) (by rfl) (fun W hSw => ?_) (by assumption) ?_
    · have y9 := ((HG2.out.on hSw).r3 hkn).1; rw [HXX.out] at y9
      go_simp
    try simp only [layR]
    refine wpAnyH_ready (rs := [2]) (by kernel_rfl) (by simp) ?_
    refine AllReadyH.cons rfl (fun K' hK => ?_) AllReadyH.nil
    go_simp
    refine (bpages_calls HD.out).mono ?_
    rintro e w3 ⟨rfl, hb⟩
    have hS1 : Below w2.heap.size w2 w3 := HS0.out.then_ hb
    have HB3 := Lib.hid (HB2.out.then_ hS1)
    refine hK.out _ _ hS1 (fun hS2 => ?_)
    try simp only [layR]
    refine takeV 14 (v := (.int .i64 (8 - (x.nx : Int)))) rfl (by kernel_rfl) (by kernel_rfl) (by kernel_rfl) (fun _ _ _ h => h) (by rfl) (fun W hSw => ?_) (by assumption) ?_
    · skip
      go_simp
    try simp only [layR]
    refine takeV 15 (v := (.int .i64 ((q : Int) * 8 + (8 - (x.nx : Int))))) rfl (by kernel_rfl) (by kernel_rfl) (by kernel_rfl) (fun _ _ _ h => h) (by rfl) (fun W hSw => ?_) (by assumption) ?_
    · skip
      go_simp
    try simp only [layR]
    refine takeV 16 (v := (.int .i64 ((q : Int) * 8 + (8 - (x.nx : Int))))) rfl (by kernel_rfl) (by kernel_rfl) (by kernel_rfl) (fun _ _ _ h => h) (by rfl) (fun W hSw => ?_) (by assumption) ?_
    · skip
      go_simp
    try simp only [layR]
    refine wpAnyH_done (by kernel_rfl) ?_ _
    refine NoPanic.normal ?_
    clear hS0 hS1 hS2 hb
    go_wp2_with fail
    go_ret
    exact ⟨by rw [HRm.out]; rfl, HB3.out⟩
end
end Go.Proofs.YtiipnpfaaghekaaGreat
