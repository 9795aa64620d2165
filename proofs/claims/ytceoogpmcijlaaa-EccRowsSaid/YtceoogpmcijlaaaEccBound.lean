/-
  How great places and sums of places are; in plain mathematics.
-/
import Derived.Test.YtceoogpmcijlaaaEccPow
namespace Go.Proofs.Ytceoogpmcijlaaa.Ecc

theorem pow2_exists (n : Nat) (hn : 0 < n) (h : pow2 n = true) : ∃ m, n = 2 ^ m := by
  induction n using Nat.strongRecOn with
  | _ n ih =>
    rcases Nat.mod_two_eq_zero_or_one n with he | he
    · obtain ⟨m, rfl⟩ : ∃ m, n = 2 * m := ⟨n / 2, by omega⟩
      rw [pow2_even m (by omega)] at h
      obtain ⟨k, hk⟩ := ih m (by omega) (by omega) h
      exact ⟨k + 1, by rw [hk, Nat.pow_succ, Nat.mul_comm]⟩
    · obtain ⟨m, rfl⟩ : ∃ m, n = 2 * m + 1 := ⟨n / 2, by omega⟩
      by_cases hm : m = 0
      · subst hm; exact ⟨0, rfl⟩
      · rw [pow2_odd m (by omega)] at h; cases h
theorem place_form (k : Nat) : ∃ c, place k = k + 3 + c ∧ 2 ^ (c + 1) < place k := by
  induction k with
  | zero => exact ⟨0, rfl, by decide⟩
  | succ k ih =>
    obtain ⟨c, h1, h2⟩ := ih
    rw [place, next]
    cases h : pow2 (place k + 1)
    · rw [if_neg (by simp)]
      exact ⟨c, by omega, by omega⟩
    · rw [if_pos rfl]
      obtain ⟨m, hm⟩ := pow2_exists _ (by omega) h
      have h3 : c + 1 < m := by
        rcases Nat.lt_or_ge (c + 1) m with h3 | h3
        · exact h3
        · have := Nat.pow_le_pow_right (n := 2) (by omega) h3
          omega
      have h4 : 2 ^ (c + 2) ≤ 2 ^ m := Nat.pow_le_pow_right (by omega) (show c + 2 ≤ m by omega)
      have h5 : 2 ^ (c + 1 + 1) ≤ place k + 1 := by rw [hm]; exact h4
      exact ⟨c + 1, by omega, Nat.lt_of_le_of_lt h5 (by omega)⟩
theorem place_bound (k : Nat) (hk : k ≤ 40000) : place k < 65536 := by
  obtain ⟨c, h1, h2⟩ := place_form k
  by_cases hc : c ≤ 15
  · omega
  · have h3 := Nat.pow_le_pow_right (n := 2) (by omega) (show 16 ≤ c by omega)
    have h4 : c < 2 ^ c := Nat.lt_two_pow_self
    have h5 : 2 ^ (c + 1) = 2 * 2 ^ c := by rw [Nat.pow_succ, Nat.mul_comm]
    have h6 : (2 : Nat) ^ 16 = 65536 := by decide
    omega
theorem sumX_lt (xs : List UInt8) (m : Nat) (hm : m ≤ 40000) : sumX xs m < 65536 := by
  induction m with
  | zero => rw [sumX]; omega
  | succ m ih =>
    rw [sumX]
    split
    · exact Nat.xor_lt_two_pow (n := 16) (ih (by omega)) (place_bound m (by omega))
    · exact ih (by omega)
theorem bit_at {xs : List UInt8} {k i : Nat} (hk : k < xs.length) (hi : i < 8) : bit xs (8 * k + i) = (xs[k]).toNat.testBit i := by
  unfold bit
  rw [show (8 * k + i) / 8 = k by omega, show (8 * k + i) % 8 = i by omega, List.getD_eq_getElem?_getD, List.getElem?_eq_getElem hk]
  rfl
end Go.Proofs.Ytceoogpmcijlaaa.Ecc
