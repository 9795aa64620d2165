/-
  Turned bits and digits: what becomes of the sums; in plain mathematics.
-/
import Derived.Test.YtceoogpmcijlaaaEccBound
import Derived.Test.YtceoogpmcijlaaaEccOnes
import Derived.Lib.BitFns
namespace Go.Proofs.Ytceoogpmcijlaaa.Ecc

theorem xor_par (a b : Nat) : (a ^^^ b) % 2 = (a + b) % 2 := by
  have h := Nat.xor_mod_two_pow (a := a) (b := b) (n := 1)
  rw [Nat.pow_one] at h
  rw [h]
  rcases Nat.mod_two_eq_zero_or_one a with ha | ha <;> rcases Nat.mod_two_eq_zero_or_one b with hb | hb <;> rw [ha, hb] <;> simp <;> omega
theorem ones_xor_aux (n : Nat) : ∀ a b : Nat, a < 2 ^ n → b < 2 ^ n → ones (a ^^^ b) % 2 = (ones a + ones b) % 2 := by
  induction n with
  | zero =>
    intro a b ha hb
    obtain rfl : a = 0 := by omega
    obtain rfl : b = 0 := by omega
    simp [ones]
  | succ n ih =>
    intro a b ha hb
    rw [Nat.pow_succ] at ha hb
    have h := ih (a / 2) (b / 2) (by omega) (by omega)
    rw [ones_step (a ^^^ b), ones_step a, ones_step b, Nat.xor_div_two, xor_par]
    omega
theorem ones_xor (a b : Nat) : ones (a ^^^ b) % 2 = (ones a + ones b) % 2 :=
  ones_xor_aux (a + b) a b (Nat.lt_of_le_of_lt (Nat.le_add_right a b) Nat.lt_two_pow_self) (Nat.lt_of_le_of_lt (Nat.le_add_left b a) Nat.lt_two_pow_self)
theorem ones_pow (d : Nat) : ones (2 ^ d) = 1 := by
  induction d with
  | zero => rw [Nat.pow_zero]; simp [ones]
  | succ d ih => rw [ones_step, show 2 ^ (d + 1) % 2 = 0 by rw [Nat.pow_succ]; omega, show 2 ^ (d + 1) / 2 = 2 ^ d by rw [Nat.pow_succ]; omega, ih]
theorem ones_code (x p : Nat) (hx : x < 65536) (hp : p < 2) : ones (x + 65536 * p) = ones x + p := by
  have h := ones_split 16 (x + 65536 * p)
  have e : (2 : Nat) ^ 16 = 65536 := by decide
  rw [e] at h
  rw [h, show (x + 65536 * p) % 65536 = x by omega, show (x + 65536 * p) / 65536 = p by omega]
  have : p = 0 ∨ p = 1 := by omega
  rcases this with rfl | rfl
  · simp [ones]
  · simp [ones]
/-- The bytes, bit k turned. -/
def turn (xs : List UInt8) (k : Nat) : List UInt8 := xs.set (k / 8) (xs.getD (k / 8) 0 ^^^ UInt8.ofNat (2 ^ (k % 8)))
theorem turn_len (xs : List UInt8) (k : Nat) : (turn xs k).length = xs.length := by simp [turn]
theorem bit_turn (xs : List UInt8) (k j : Nat) (hk : k < 8 * xs.length) : bit (turn xs k) j = (bit xs j ^^ decide (j = k)) := by
  unfold bit turn
  have hk8 : k / 8 < xs.length := by omega
  by_cases h : j / 8 = k / 8
  · rw [h, List.getD_eq_getElem?_getD, List.getElem?_set_self hk8, Option.getD_some, UInt8.toNat_xor, Nat.testBit_xor]
    congr 1
    have hi : k % 8 < 8 := Nat.mod_lt _ (by omega)
    have hp : 2 ^ (k % 8) < 256 := by
      have := Nat.pow_le_pow_right (n := 2) (by omega) (show k % 8 ≤ 7 by omega)
      omega
    rw [UInt8.toNat_ofNat', Nat.mod_eq_of_lt hp, Nat.testBit_two_pow]
    by_cases e : j = k
    · rw [decide_eq_true e, decide_eq_true (by omega)]
    · rw [decide_eq_false e, decide_eq_false (by omega)]
  · rw [List.getD_eq_getElem?_getD, List.getElem?_set_ne (by omega), decide_eq_false (by intro e; exact h (by rw [e])), Bool.xor_false, List.getD_eq_getElem?_getD]
theorem turn_turn (xs : List UInt8) (k : Nat) (hk : k < 8 * xs.length) : turn (turn xs k) k = xs := by
  unfold turn
  have hk8 : k / 8 < xs.length := by omega
  rw [List.set_set, List.getD_eq_getElem?_getD, List.getElem?_set_self hk8, Option.getD_some, UInt8.xor_assoc, UInt8.xor_self, UInt8.xor_zero, List.getD_eq_getElem?_getD, List.getElem?_eq_getElem hk8, Option.getD_some]
  exact List.set_getElem_self hk8
theorem sumX_turn (xs : List UInt8) (k : Nat) (hk : k < 8 * xs.length) (m : Nat) : sumX (turn xs k) m = if k < m then sumX xs m ^^^ place k else sumX xs m := by
  induction m with
  | zero => rw [if_neg (by omega)]; rfl
  | succ m ih =>
    rw [sumX, sumX, bit_turn xs k m hk, ih]
    by_cases h : m = k
    · subst h
      rw [decide_eq_true rfl, if_neg (Nat.lt_irrefl _), if_pos (Nat.lt_succ_self _)]
      cases bit xs m
      · rfl
      · simp [Nat.xor_assoc]
    · rw [decide_eq_false h, Bool.xor_false]
      by_cases h2 : k < m
      · rw [if_pos h2, if_pos (show k < m + 1 by omega)]
        cases bit xs m
        · rfl
        · simp only [if_true]
          rw [Nat.xor_assoc, Nat.xor_assoc, Nat.xor_comm (place k)]
      · rw [if_neg h2, if_neg (show ¬ k < m + 1 by omega)]
theorem sumN_turn (xs : List UInt8) (k : Nat) (hk : k < 8 * xs.length) (m : Nat) : sumN (turn xs k) m % 2 = (sumN xs m + if k < m then 1 else 0) % 2 := by
  induction m with
  | zero => rw [if_neg (by omega)]; rfl
  | succ m ih =>
    rw [sumN, sumN, bit_turn xs k m hk]
    by_cases h : m = k
    · subst h
      rw [if_neg (Nat.lt_irrefl _)] at ih
      rw [decide_eq_true rfl, if_pos (Nat.lt_succ_self _)]
      cases bit xs m
      · simp; omega
      · simp; omega
    · rw [decide_eq_false h, Bool.xor_false]
      by_cases h2 : k < m
      · rw [if_pos h2] at ih
        rw [if_pos (show k < m + 1 by omega)]
        cases bit xs m
        · simpa using ih
        · simp; omega
      · rw [if_neg h2] at ih
        rw [if_neg (show ¬ k < m + 1 by omega)]
        cases bit xs m
        · simpa using ih
        · simp; omega

theorem pow2_pow (m : Nat) : pow2 (2 ^ m) = true := by
  induction m with
  | zero => decide
  | succ m ih => rw [Nat.pow_succ, Nat.mul_comm, pow2_even _ (Nat.two_pow_pos m), ih]
theorem place_log (k : Nat) : ∃ c, place k = k + 3 + c ∧ 2 ^ (c + 1) < place k ∧ place k < 2 ^ (c + 2) := by
  induction k with
  | zero => exact ⟨0, rfl, by decide, by decide⟩
  | succ k ih =>
    obtain ⟨c, h1, h2, h3⟩ := ih
    rw [place, next]
    cases h : pow2 (place k + 1)
    · rw [if_neg (by simp)]
      refine ⟨c, by omega, by omega, ?_⟩
      rcases Nat.lt_or_ge (place k + 1) (2 ^ (c + 2)) with h4 | h4
      · exact h4
      · have e : place k + 1 = 2 ^ (c + 2) := by omega
        rw [e, pow2_pow] at h
        cases h
    · rw [if_pos rfl]
      obtain ⟨m, hm⟩ := pow2_exists _ (by omega) h
      have h5 : c + 1 < m := by
        rcases Nat.lt_or_ge (c + 1) m with h5 | h5
        · exact h5
        · have := Nat.pow_le_pow_right (n := 2) (by omega) h5
          omega
      have h6 : 2 ^ (c + 2) ≤ 2 ^ m := Nat.pow_le_pow_right (by omega) (show c + 2 ≤ m by omega)
      have h7 : 2 ^ (c + 1 + 2) = 2 * 2 ^ (c + 2) := by rw [Nat.pow_succ, Nat.mul_comm]
      have h8 : 2 ^ (c + 1 + 1) = 2 ^ (c + 2) := rfl
      have h9 : 0 < 2 ^ c := Nat.two_pow_pos c
      have h10 : 2 ^ (c + 2) = 4 * 2 ^ c := by rw [Nat.pow_succ, Nat.pow_succ]; omega
      refine ⟨c + 1, by omega, by omega, by omega⟩
/-- The number of the bit of a place. -/
def bitOf (s : Nat) : Nat := s - Lib.bitLen s - 1
theorem bitOf_place (k : Nat) (h4 : place k < 18446744073709551616) : bitOf (place k) = k ∧ Lib.bitLen (place k) + 1 ≤ place k := by
  obtain ⟨c, h1, h2, h3⟩ := place_log k
  have h5 := Lib.bitLen_shift (c + 1) (place k) (by omega) (by omega)
  have h6 : place k / 2 ^ (c + 1) = 1 := by
    have e : 2 ^ (c + 2) = 2 * 2 ^ (c + 1) := by rw [Nat.pow_succ, Nat.mul_comm]
    apply Nat.div_eq_of_lt_le
    · omega
    · omega
  rw [h6] at h5
  have h7 : Lib.bitLen 1 = 1 := by decide
  unfold bitOf
  omega
theorem place_all (s : Nat) (h3 : 3 ≤ s) : ∃ k, place k = s ∨ (pow2 s = true ∧ place k = s + 1) := by
  induction s with
  | zero => omega
  | succ s ih =>
    by_cases h : s = 2
    · subst h; exact ⟨0, .inl rfl⟩
    · obtain ⟨k, h1 | ⟨_, h1⟩⟩ := ih (by omega)
      · cases hp : pow2 (s + 1)
        · exact ⟨k + 1, .inl (by rw [place, next, h1, if_neg (by rw [hp]; simp)])⟩
        · exact ⟨k + 1, .inr ⟨rfl, by rw [place, next, h1, if_pos hp]⟩⟩
      · exact ⟨k, .inl h1⟩
theorem place_of (s : Nat) (h3 : 3 ≤ s) (h : pow2 s = false) : ∃ k, place k = s := by
  obtain ⟨k, h1 | ⟨h1, _⟩⟩ := place_all s h3
  · exact ⟨k, h1⟩
  · rw [h1] at h; cases h
theorem place_self (k : Nat) : k < place k := by
  obtain ⟨c, h1, _⟩ := place_log k
  omega
theorem ge3_of (s : Nat) (h0 : s ≠ 0) (h : pow2 s = false) : 3 ≤ s := by
  rcases Nat.lt_or_ge s 3 with h3 | h3
  · have : s = 1 ∨ s = 2 := by omega
    rcases this with rfl | rfl <;> exact absurd h (by decide)
  · exact h3
end Go.Proofs.Ytceoogpmcijlaaa.Ecc
