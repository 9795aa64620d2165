/-
  The reference's Part, walked.
-/
import Derived.Test.YtlnjfnpoabcllaaGlbRMat
namespace Go.Proofs.Ytlnjfnpoabcllaa
open Go.RowKit

theorem dpF_all (ms : List Glb.Gm) (s : List UInt8) : Glb.dpF ms s s.length = Glb.matchesB ms s := by
  unfold Glb.dpF Glb.matchesB
  rw [List.take_length]
set_option maxRecDepth 100000 in
set_option maxHeartbeats 8000000 in
theorem refPart_calls (s nm : List UInt8) (w : World) (hs : s.length ≤ 1000) (hn : nm.length ≤ 1000) :
    Calls Try.prog 15 #[.string (strL s), .string (strL nm)] w fun e w' => e = .returned (.tuple #[.bool (Glb.part s nm).1, .int .i64 (Glb.part s nm).2]) ∧ Below w.heap.size w w' := by
  obtain ⟨p, hp⟩ : ∃ p, p = Glb.part s nm := ⟨_, rfl⟩
  rw [← hp]
  have HMk := Lib.hid (rMarks_calls s w hs)
  unfold Glb.part at hp
  cases hm : Glb.marksOf s with
  | none =>
    rw [hm] at hp HMk
    dsimp only at hp
    subst hp
    clear hm
    go_enter Try.func15, Try.ntmps15
    go_wp2_with fail
    refine HMk.out.mono ?_
    rintro e w1 ⟨v, rfl, _, hb⟩
    have HB := Lib.hid hb
    clear hb
    go_wp2_with fail
    go_ret2
    exact ⟨rfl, HB.out⟩
  | some gs =>
    rw [hm] at hp HMk
    dsimp only at hp
    have hgl : gs.length ≤ s.length := by
      unfold Glb.marksOf at hm
      split at hm
      · cases hm
      · exact Glb.mks_len s gs hm
    by_cases h42 : s = [42, 42]
    · rw [if_pos h42] at hp
      subst hp
      subst h42
      clear hm hgl
      go_enter Try.func15, Try.ntmps15
      go_wp2_with fail
      refine HMk.out.mono ?_
      rintro e w1 ⟨v, rfl, _, hb⟩
      have HB := Lib.hid hb
      clear hb
      go_wp2_with fail
      go_ret2
      exact ⟨rfl, HB.out⟩
    · rw [if_neg h42] at hp
      subst hp
      have g42 : (s == [42, 42]) = false := by simpa using h42
      clear hm h42
      go_enter Try.func15, Try.ntmps15
      go_wp2_with fail
      refine HMk.out.mono ?_
      rintro e w1 ⟨v, rfl, ho, hb⟩
      have HB := Lib.hid hb
      obtain ⟨n, hn'⟩ : ∃ n, n = gs.length := ⟨_, rfl⟩
      obtain ⟨a, c, rfl, hc⟩ := ho.formN (n := n) (by rw [hn']; simp)
      have hl : (gs.map Glb.toRm).length ≤ 140737488351232 := by rw [List.length_map]; omega
      have hx : ArrM 257 rmL w1 w1.heap.size a n (gs.map Glb.toRm) := ho.arr hl
      have HM := Lib.hid (rMatches_calls a n c gs nm w1 hx hn)
      rw [dpF_all] at HM
      clear hb ho hl hc hx hn'
      go_wp2_with fail
      refine HM.out.mono ?_
      rintro e w2 ⟨rfl, hb2⟩
      have HB2 := Lib.hid (HB.out.then_ hb2)
      clear hb2
      go_wp2_with fail
      go_ret2
      exact ⟨rfl, HB2.out⟩
end Go.Proofs.Ytlnjfnpoabcllaa
