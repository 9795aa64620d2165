/-
  Powers of two, and the places that are none; in plain mathematics.
-/
import Derived.Test.YtceoogpmcijlaaaEccMath
namespace Go.Proofs.Ytceoogpmcijlaaa.Ecc

theorem and_step (a b : Nat) : a &&& b = 2 * ((a / 2) &&& (b / 2)) + (a % 2) * (b % 2) := by
  have h := Nat.div_add_mod (a &&& b) 2
  have h1 : (a &&& b) / 2 = a / 2 &&& b / 2 := Nat.and_div_two
  have h2 : (a &&& b) % 2 = (a % 2) * (b % 2) := by
    have h3 := Nat.and_mod_two_pow (a := a) (b := b) (n := 1)
    rw [Nat.pow_one] at h3
    rw [h3]
    rcases Nat.mod_two_eq_zero_or_one a with ha | ha <;> rcases Nat.mod_two_eq_zero_or_one b with hb | hb <;> rw [ha, hb] <;> rfl
  rw [← h, h1, h2]
/-- As the reference asks: halved while even. -/
def pw : Nat → Nat → Bool
  | 0, n => n == 1
  | f + 1, n => if 1 < n ∧ n % 2 = 0 then pw f (n / 2) else n == 1
theorem pow2_even (m : Nat) (hm : 0 < m) : pow2 (2 * m) = pow2 m := by
  unfold pow2
  rw [and_step (2 * m) (2 * m - 1), show 2 * m / 2 = m by omega, show (2 * m - 1) / 2 = m - 1 by omega, show 2 * m % 2 = 0 by omega, Nat.zero_mul, Nat.add_zero]
  rw [Bool.eq_iff_iff, beq_iff_eq, beq_iff_eq]
  omega
theorem pow2_odd (m : Nat) (hm : 0 < m) : pow2 (2 * m + 1) = false := by
  unfold pow2
  rw [and_step (2 * m + 1) (2 * m + 1 - 1), show (2 * m + 1) / 2 = m by omega, show (2 * m + 1 - 1) / 2 = m by omega, Nat.and_self, beq_eq_false_iff_ne]
  omega
theorem pow2_one : pow2 1 = true := by decide
theorem pw_eq (f n : Nat) (hn : 0 < n) (hf : n ≤ f + 1) : pw f n = pow2 n := by
  induction f generalizing n with
  | zero =>
    obtain rfl : n = 1 := by omega
    rfl
  | succ f ih =>
    rw [pw]
    by_cases h : 1 < n ∧ n % 2 = 0
    · rw [if_pos h, ih (n / 2) (by omega) (by omega)]
      obtain ⟨m, rfl⟩ : ∃ m, n = 2 * m := ⟨n / 2, by omega⟩
      rw [show 2 * m / 2 = m by omega, pow2_even m (by omega)]
    · rw [if_neg h]
      by_cases h1 : n = 1
      · subst h1; rfl
      · obtain ⟨m, rfl⟩ : ∃ m, n = 2 * m + 1 := ⟨n / 2, by omega⟩
        rw [pow2_odd m (by omega), beq_eq_false_iff_ne]
        exact h1
/-- Behind a power of two (but 1) stands none. -/
theorem pow2_next (n : Nat) (h1 : 1 < n) (h : pow2 n = true) : pow2 (n + 1) = false := by
  rcases Nat.mod_two_eq_zero_or_one n with he | he
  · obtain ⟨m, rfl⟩ : ∃ m, n = 2 * m := ⟨n / 2, by omega⟩
    exact pow2_odd m (by omega)
  · obtain ⟨m, rfl⟩ : ∃ m, n = 2 * m + 1 := ⟨n / 2, by omega⟩
    rw [pow2_odd m (by omega)] at h
    cases h
theorem place_ge (k : Nat) : 3 ≤ place k := by
  induction k with
  | zero => exact Nat.le_refl _
  | succ k ih => rw [place, next]; split <;> omega
theorem place_none (k : Nat) : pow2 (place k) = false := by
  induction k with
  | zero => decide
  | succ k ih =>
    rw [place, next]
    have := place_ge k
    cases h : pow2 (place k + 1)
    · rw [if_neg (by simp)]; exact h
    · rw [if_pos rfl]; exact pow2_next _ (by omega) h
theorem place_lt (k : Nat) : place k < place (k + 1) := by
  rw [place, next]; split <;> omega
theorem place_mono {j k : Nat} (h : j < k) : place j < place k := by
  induction k with
  | zero => omega
  | succ k ih =>
    have := place_lt k
    by_cases e : j = k
    · subst e; exact this
    · have := ih (by omega); omega
theorem place_inj {j k : Nat} (h : place j = place k) : j = k := by
  rcases Nat.lt_trichotomy j k with h1 | h1 | h1
  · have := place_mono h1; omega
  · exact h1
  · have := place_mono h1; omega
end Go.Proofs.Ytceoogpmcijlaaa.Ecc
