/-
  The reference's Split.
-/
import Derived.Test.YtnfkbndakdkieaaPathSplit
namespace Go.Proofs.Ytnfkbndakdkieaa
open Go.RowKit

set_option maxHeartbeats 1000000 in
theorem refSplit_calls (l : List UInt8) (w : World) (hl : l.length ≤ 140737488351232) :
    Calls Try.prog 18 #[.string (strL l)] w (SplitR l w) := by
  have hpc := Lib.hid (refParse_calls l w hl)
  unfold ParseR at hpc
  have HS := Lib.hid (show Pth.splitP l = (if (Pth.parse l).2 = 0 then (if (Pth.parse l).1 = [] then ([], [], 72) else ((Pth.parse l).1.dropLast, (Pth.parse l).1.getLast?.getD [], 0)) else ([], [], (Pth.parse l).2)) from rfl)
  unfold SplitR
  have hlen : (Pth.parse l).1.length ≤ 16777216 := by
    unfold Pth.parse
    split
    · simp
    · split
      · have := Pth.parts_len l
        rename_i h _
        have h2 : l.length ≤ 255 := by omega
        exact Nat.le_trans this (by omega)
      · simp
  generalize Pth.splitP l = S at *
  generalize Pth.parse l = R at *
  obtain ⟨xs, E⟩ := R
  by_cases hE : E = 0
  · subst hE
    by_cases h0 : xs = []
    · subst h0
      have hs := Lib.hid (show S = ([], [], 72) by rw [HS.out]; rfl)
      clear HS
      go_enter Try.func18, Try.ntmps18
      go_wp2_with fail
      refine hpc.out.mono ?_
      rintro e w1 ⟨⟨v, rfl, ho⟩, hb⟩
      obtain ⟨a1, c1, rfl, _⟩ := ho.formN (n := 0) rfl
      have HB := Lib.hid hb
      clear ho hb
      go_wp2
      go_ret3
      rw [hs.out]
      exact ⟨⟨_, _, _, rfl, Arr.none_ _ _ _⟩, HB.out⟩
    · obtain ⟨m, hm⟩ : ∃ m, xs.length = m + 1 := ⟨xs.length - 1, by have := List.length_pos_iff.2 h0; omega⟩
      have hml : m < xs.length := by omega
      have hs := Lib.hid (show S = (xs.take m, xs[m], 0) by
        rw [HS.out, if_pos rfl, if_neg h0, List.dropLast_eq_take, hm, Nat.add_sub_cancel, last_at xs m hm hml])
      have HM := Lib.hid hm
      simp only at hlen
      have hm2 : m ≤ 16777216 := by omega
      clear HS hm h0
      go_enter Try.func18, Try.ntmps18
      go_wp2_with fail
      refine hpc.out.mono ?_
      rintro e w1 ⟨⟨v, rfl, ho⟩, hb⟩
      obtain ⟨a1, c1, rfl, hc1⟩ := ho.formN (n := m + 1) HM.out
      have HA := Lib.hid (ho.arr (by rw [HM.out]; omega))
      have HB := Lib.hid hb
      obtain ⟨b1, o1, hk1, rfl, hbl1, hcl⟩ := HA.out.atv (k := m) (by omega)
      rw [strV_eq] at hcl
      have q1 : IntKind.i64.wrap (m : Int) = (m : Int) := IntWalk.i64_in _ ⟨by omega, by omega⟩
      have q2 : (m : Int) + 1 - 1 = (m : Int) := by omega
      have q3 : (0 : Int) ≤ (m : Int) := by omega
      have q4 : (m : Int) ≤ (c1 : Int) := by omega
      have q5 : (m : Int) < (m : Int) + 1 := by omega
      clear ho hb
      go_wp2_with fail
      go_quiet (fail)
      go_wp2
      go_ret3
      rw [hs.out]
      exact ⟨⟨_, _, _, rfl, (HA.out.take (k := m) (by omega)).below (below_drewN _ _) |>.mono (by simp)⟩, HB.out.trans (below_drewN _ _)⟩
  · have hs := Lib.hid (show S = ([], [], E) by rw [HS.out]; exact if_neg hE)
    have g1 : (E == 0) = false := by simpa using hE
    have g2 : (E != 0) = true := by simpa using hE
    clear HS hE
    go_enter Try.func18, Try.ntmps18
    go_wp2_with fail
    refine hpc.out.mono ?_
    rintro e w1 ⟨⟨v, rfl, ho⟩, hb⟩
    have HB := Lib.hid hb
    clear ho hb
    go_wp2
    go_ret3
    rw [hs.out]
    exact ⟨⟨_, _, _, rfl, Arr.none_ _ _ _⟩, HB.out⟩
end Go.Proofs.Ytnfkbndakdkieaa
