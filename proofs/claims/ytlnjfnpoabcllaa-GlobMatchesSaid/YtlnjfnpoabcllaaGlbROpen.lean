/-
  The reference's open, walked.
-/
import Derived.Test.YtlnjfnpoabcllaaGlbRMat
import Derived.Test.YtlnjfnpoabcllaaGlbSome
namespace Go.Proofs.Ytlnjfnpoabcllaa
open Go.RowKit

namespace Glb
/-- Whether a mark stands for something, of the first bytes asked. -/
def rS (m : Gm) (j : Nat) : Bool := (m.k == 2) || (List.range j).any (stN m)
theorem rS_zero (m : Gm) : rS m 0 = (m.k == 2) := by unfold rS; simp
theorem rS_succ (m : Gm) (j : Nat) : rS m (j + 1) = (rS m j || stN m j) := by
  unfold rS
  rw [List.range_succ, List.any_append, Bool.or_assoc]
  simp
theorem rS_all (m : Gm) : rS m 256 = !(m.k == 3 && !someB m) := by
  unfold rS
  by_cases h2 : m.k = 2
  · rw [h2]; rfl
  · have e2 : (m.k == 2) = false := by simpa using h2
    rw [e2, Bool.false_or]
    by_cases h3 : m.k = 3
    · rw [h3]
      show _ = !(true && !someB m)
      rw [Bool.true_and, Bool.not_not, Bool.eq_iff_iff]
      unfold someB
      rw [List.any_eq_true, List.any_eq_true]
      constructor
      · rintro ⟨j, hj, h⟩
        have hj' := List.mem_range.1 hj
        refine ⟨j, hj, ?_⟩
        rw [← stN_eq h2]
        have : (UInt8.ofNat j).toNat = j := by simp; omega
        rw [this]; exact h
      · rintro ⟨j, hj, h⟩
        have hj' := List.mem_range.1 hj
        refine ⟨j, hj, ?_⟩
        rw [← stN_eq h2] at h
        have : (UInt8.ofNat j).toNat = j := by simp; omega
        rw [this] at h; exact h
    · have e3 : (m.k == 3) = false := by simpa using h3
      rw [e3, Bool.false_and, Bool.not_false, List.any_eq_true]
      by_cases h0 : m.k = 0
      · exact ⟨m.c.toNat, List.mem_range.2 m.c.toNat_lt, by unfold stN; rw [if_pos h0]; simp⟩
      · exact ⟨0, List.mem_range.2 (by omega), by unfold stN; rw [if_neg h0, if_neg h3, e2]; rfl⟩
end Glb
set_option maxRecDepth 100000 in
set_option maxHeartbeats 8000000 in
theorem rOpen_calls (s : List UInt8) (gs : List Glb.Gm) (hm : Glb.marksOf s = some gs) (w : World) (hs : s.length ≤ 1000) :
    Calls Try.prog 33 #[.string (strL s)] w fun e w' => e = .returned (.bool (Glb.openB gs)) ∧ Below w.heap.size w w' := by
  have hgl : gs.length ≤ s.length := by
    unfold Glb.marksOf at hm
    split at hm
    · cases hm
    · exact Glb.mks_len s gs hm
  have HMk := Lib.hid (rMarks_calls s w hs)
  rw [hm] at HMk
  clear hm
  go_enter Try.func33, Try.ntmps33
  go_wp2_with fail
  refine HMk.out.mono ?_
  rintro e w1 ⟨v, rfl, ho, hb⟩
  have HB := Lib.hid hb
  obtain ⟨n, hn⟩ : ∃ n, n = gs.length := ⟨_, rfl⟩
  obtain ⟨a, c, rfl, hc⟩ := ho.formN (n := n) (by rw [hn]; simp)
  have HX := Lib.hid (ho.arr (by rw [List.length_map]; show gs.length ≤ _; omega))
  have HL := Lib.hid hn.symm
  have hn1 : n ≤ 1000 := by omega
  clear hb ho hc hn hgl hs
  have e1 : (some gs).getD [] = gs := rfl
  rw [e1] at HX
  clear e1
  go_wp2_with fail
  go_loopw [5, 6, 7] (fun i _ _ wr => ∃ k : Nat, k ≤ n ∧ i = .int .i64 k ∧ OpenK gs k ∧ Below w1.heap.size w1 wr) (fun i _ _ _ => n - (intOf i).toNat)
  case atStart => exact ⟨0, by omega, rfl, fun j _ h => absurd h (by omega), Below.refl _ _⟩
  case round =>
    obtain ⟨k, hk, rfl, ho, hb⟩ := hrel
    have HO := Lib.hid ho
    have HBr := Lib.hid hb
    clear ho hb
    by_cases hlt : k < n
    · obtain ⟨b, o, hk', rfl, hbl, hcx⟩ := (HX.out.below HBr.out).atv hlt
      rw [List.getElem_map] at hcx
      rw [List.length_map] at hk'
      have g0 : (0 : Int) ≤ (k : Int) := by omega
      have g1 : (k : Int) < (n : Int) := by omega
      have m0 : wr.cell? ⟨b, o + k * 257, none⟩ = some (.bool (gs[k].k == 2)) := hcx 0 _ rfl
      have HC := Lib.hid (show ∀ j, j < 256 → ∀ wi, Below wr.heap.size wr wi → wi.cell? ⟨b, o + k * 257 + 1 + j, none⟩ = some (.bool (Glb.stN gs[k] j)) from fun j hj wi hbi => by
        have h5 := stA_at (Glb.stN gs[k]) j hj
        have h6 := hcx (j + 1) (.bool (Glb.stN gs[k] j)) (by
          show (Value.bool _ :: stL _)[j + 1]? = _
          rw [List.getElem?_cons_succ]
          simpa [stA, Glb.toRm] using h5)
        rw [show o + k * 257 + 1 + j = o + k * 257 + (j + 1) by omega]
        exact (hbi.cell (p := ⟨b, o + k * 257 + (j + 1), none⟩) (Nat.lt_of_lt_of_le hbl HBr.out.size)).trans h6)
      have HZ := Lib.hid (Glb.rS_zero gs[k])
      have HSS := Lib.hid (Glb.rS_succ gs[k])
      have HA := Lib.hid (Glb.rS_all gs[k])
      have HO2 := Lib.hid (show (gs[k].k == 3 && !Glb.someB gs[k]) = false → OpenK gs (k + 1) from fun hf j h hj => by
        by_cases e : j = k
        · subst e; exact hf
        · exact HO.out j h (by omega))
      have HN := Lib.hid (show (gs[k].k == 3 && !Glb.someB gs[k]) = true → Glb.openB gs = false from fun hf => by
        rw [Bool.eq_false_iff]
        intro h
        unfold Glb.openB at h
        rw [List.all_eq_true] at h
        have := h gs[k] (List.getElem_mem hk')
        rw [hf] at this
        cases this)
      rw [← HZ.out] at m0
      clear HZ hcx
      generalize (gs[k].k == 3 && !Glb.someB gs[k]) = F at *
      generalize Glb.rS gs[k] = R at *
      go_wp2_with fail
      go_loop [6, 7] (fun x i => ∃ j : Nat, j ≤ 256 ∧ i = .int .i64 j ∧ x = .bool (R j)) (fun _ i => 256 - (intOf i).toNat)
      case atStart => exact ⟨0, by omega, rfl, rfl⟩
      case round =>
        obtain ⟨j, hj, rfl, rfl⟩ := hrel
        by_cases hlj : j < 256
        · have c1 := HC.out j hlj wr (Below.refl _ _)
          have k0 : (0 : Int) ≤ (j : Int) := by omega
          have k1 : (j : Int) < 256 := by omega
          have HV := Lib.hid (show (R j || Glb.stN gs[k] j) = R (j + 1) from (HSS.out j).symm)
          generalize Glb.stN gs[k] j = S at c1 HV
          generalize hRj : R j = A at HV ⊢
          clear hRj
          cases A
          · cases S
            all_goals
              go_wp2_with fail
              go_round
              case rel => exact ⟨j + 1, by omega, by go_num, by rw [← HV.out]; rfl⟩
              case measure => simp [intOf]; omega
          · go_wp2_with fail
            go_round
            case rel => exact ⟨j + 1, by omega, by go_num, by rw [← HV.out]; rfl⟩
            case measure => simp [intOf]; omega
        · obtain rfl : j = 256 := by omega
          rw [HA.out]
          cases F with
          | true =>
            have HNN := Lib.hid (HN.out rfl)
            go_wp2_with fail
            go_ret
            exact ⟨by rw [HNN.out]; rfl, HB.out.then_ HBr.out⟩
          | false =>
            have HOO := Lib.hid (HO2.out rfl)
            go_wp2_with fail
            go_roundw
            case rel => exact ⟨k + 1, by omega, by go_num, HOO.out, HBr.out⟩
            case measure => simp [intOf]; omega
    · obtain rfl : k = n := by omega
      have HY := Lib.hid (show Glb.openB gs = true by
        unfold Glb.openB
        rw [List.all_eq_true]
        intro m hm
        obtain ⟨i, hi, rfl⟩ := List.getElem_of_mem hm
        rw [HO.out i hi (by rw [← HL.out]; exact hi)]
        rfl)
      go_wp2_with fail
      go_ret
      exact ⟨by rw [HY.out]; rfl, HB.out.then_ HBr.out⟩
end Go.Proofs.Ytlnjfnpoabcllaa
