/-
  The reference's Places: the places of a block's bits, in order.
-/
import Derived.Test.YtceoogpmcijlaaaEccPower
import Derived.Test.YtceoogpmcijlaaaEccBound
import Derived.Test.YtceoogpmcijlaaaInts
namespace Go.Proofs.Ytceoogpmcijlaaa
open Go.RowKit

def Ecc.places (m : Nat) : List Int := (List.range m).map fun k => (Ecc.place k : Int)
theorem Ecc.places_len (m : Nat) : (Ecc.places m).length = m := by simp [Ecc.places]
theorem Ecc.places_snoc (m : Nat) : Ecc.places (m + 1) = Ecc.places m ++ [(Ecc.place m : Int)] := by simp [Ecc.places, List.range_succ]
set_option maxHeartbeats 2000000 in
theorem refPlaces_calls (m : Nat) (w : World) (hm : m ≤ 4096) :
    Calls Try.prog 33 #[.int .i64 m] w fun e w' => (∃ v, e = .returned v ∧ Own intV 3 w' w.heap.size v (Ecc.places (8 * m))) ∧ Below w.heap.size w w' := by
  have HT := Lib.hid (Ecc.place_bound (8 * m) (by omega))
  obtain ⟨top, htop⟩ : ∃ top, top = Ecc.place (8 * m) := ⟨_, rfl⟩
  have HTop := Lib.hid htop
  clear htop
  go_enter Try.func33, Try.ntmps33
  go_wp2
  go_loopw [3, 4] (fun v p wr => ∃ j q : Nat, j ≤ 8 * m ∧ p = .int .i64 q ∧ 3 ≤ q ∧ (q = Ecc.place j ∨ (Ecc.pow2 q = true ∧ q + 1 = Ecc.place j)) ∧ Own intV 3 wr w.heap.size v (Ecc.places j) ∧ Below w.heap.size w wr) (fun _ p _ => top + 1 - (intOf p).toNat)
  case atStart => exact ⟨0, 3, by omega, rfl, by omega, .inl rfl, Own.nil _ _, Below.refl _ _⟩
  case round =>
    obtain ⟨j, q, hj, rfl, hq, hpl, ho, hb⟩ := hrel
    have HO := Lib.hid ho
    have HB := Lib.hid hb
    have hsz := hb.size
    obtain ⟨a1, c1, rfl, _⟩ := ho.formN (n := j) (Ecc.places_len j)
    have HPL := Lib.hid hpl
    clear ho hb hpl
    have hjb : j ≤ 32768 := by omega
    by_cases hlt : j < 8 * m
    · have hqt : q < top := by
        have h1 := Ecc.place_mono hlt
        rw [← HTop.out] at h1
        rcases HPL.out with h | ⟨_, h⟩ <;> omega
      have hq2 : q < 65536 := by
        have h1 := HT.out
        rw [← HTop.out] at h1
        omega
      have hpc := Lib.hid (refPower_calls q wr (by omega) (by omega))
      rcases HPL.out with h | ⟨hp, h⟩
      · have hp : Ecc.pow2 q = false := by rw [h]; exact Ecc.place_none j
        rw [hp] at hpc
        have HN := Lib.hid (show q + 1 = Ecc.place (j + 1) ∨ (Ecc.pow2 (q + 1) = true ∧ q + 1 + 1 = Ecc.place (j + 1)) by
          rw [Ecc.place, Ecc.next, ← h]
          cases hq9 : Ecc.pow2 (q + 1)
          · rw [if_neg (by simp)]; exact .inl rfl
          · rw [if_pos rfl]; exact .inr ⟨rfl, rfl⟩)
        have HQ := Lib.hid h
        clear h hp HPL
        go_wp2_with (first
          | (go_at_call 32; refine hpc.out.mono ?_; rintro e w' ⟨rfl, rfl⟩)
          | (at_builtin; refine wpList_litI rfl _ _ rfl w.heap.size _ (Ecc.places j) rfl HO.out 1 [(q : Int)] rfl rfl rfl (by rw [Ecc.places_len]; omega) hsz ?_; intro v2 w2 HO2 hb2))
        go_roundw
        case rel => exact ⟨j + 1, q + 1, by omega, by go_num, by omega, HN.out, by rw [Ecc.places_snoc, ← HQ.out]; exact HO2.out, HB.out.trans hb2.out⟩
        case measure => simp [intOf]; omega
      · rw [hp] at hpc
        have HQ := Lib.hid h
        clear h hp HPL
        go_wp2_with (go_at_call 32; refine hpc.out.mono ?_; rintro e w' ⟨rfl, rfl⟩)
        go_roundw
        case rel => exact ⟨j, q + 1, by omega, by go_num, by omega, .inl HQ.out, HO.out, HB.out⟩
        case measure => simp [intOf]; omega
    · obtain rfl : j = 8 * m := by omega
      go_wp2
      go_ret
      exact ⟨⟨_, rfl, HO.out⟩, HB.out⟩
end Go.Proofs.Ytceoogpmcijlaaa
