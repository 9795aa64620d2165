/-
  What Mend gives, and the laws of the code; in plain mathematics.
-/
import Derived.Test.YtceoogpmcijlaaaEccHam
namespace Go.Proofs.Ytceoogpmcijlaaa.Ecc

def syn (xs : List UInt8) (c : Nat) : Nat := sumX xs (8 * xs.length) ^^^ (c % 65536)
def par (xs : List UInt8) (c : Nat) : Nat := (sumN xs (8 * xs.length) + ones c) % 2
/-- The bytes, the bit and the error's number that Mend gives. -/
def mend (xs : List UInt8) (c : Nat) : List UInt8 × Int × Int :=
  if xs.length < 1 ∨ 4096 < xs.length ∨ 131071 < c then ([], 0, 1)
  else if par xs c = 0 ∧ syn xs c = 0 then (xs, -1, 0)
  else if par xs c = 1 ∧ (syn xs c = 0 ∨ pow2 (syn xs c) = true) then (xs, -2, 0)
  else if par xs c = 1 ∧ bitOf (syn xs c) < 8 * xs.length then (turn xs (bitOf (syn xs c)), (bitOf (syn xs c) : Nat), 0)
  else ([], 0, 21)
theorem par_01 (xs : List UInt8) (c : Nat) : par xs c = 0 ∨ par xs c = 1 := by unfold par; omega
theorem xor_zero_iff (a b : Nat) : a ^^^ b = 0 ↔ a = b := by
  constructor
  · intro h
    have h2 : (a ^^^ b) ^^^ b = 0 ^^^ b := by rw [h]
    rw [Nat.xor_assoc, Nat.xor_self, Nat.xor_zero, Nat.zero_xor] at h2
    exact h2
  · rintro rfl; exact Nat.xor_self a
theorem syn_lt (xs : List UInt8) (c : Nat) (h : xs.length ≤ 4096) : syn xs c < 65536 :=
  Nat.xor_lt_two_pow (n := 16) (sumX_lt xs _ (by omega)) (Nat.mod_lt _ (by omega))
theorem code_lt (xs : List UInt8) (h : xs.length ≤ 4096) : code xs < 131072 := by
  have := sumX_lt xs (8 * xs.length) (by omega)
  unfold code; omega
theorem syn_code (xs : List UInt8) (h : xs.length ≤ 4096) : syn xs (code xs) = 0 := by
  have := sumX_lt xs (8 * xs.length) (by omega)
  unfold syn
  rw [show code xs % 65536 = sumX xs (8 * xs.length) by unfold code; omega, Nat.xor_self]
theorem par_code (xs : List UInt8) (h : xs.length ≤ 4096) : par xs (code xs) = 0 := by
  have h1 := sumX_lt xs (8 * xs.length) (by omega)
  have h2 := ones_code (sumX xs (8 * xs.length)) ((sumN xs (8 * xs.length) + ones (sumX xs (8 * xs.length))) % 2) h1 (by omega)
  unfold par
  rw [show ones (code xs) = _ from h2]
  omega
theorem syn_turn (xs : List UInt8) (k c : Nat) (hk : k < 8 * xs.length) : syn (turn xs k) c = syn xs c ^^^ place k := by
  unfold syn
  rw [turn_len, sumX_turn xs k hk, if_pos hk, Nat.xor_assoc, Nat.xor_assoc, Nat.xor_comm (place k)]
theorem par_turn (xs : List UInt8) (k c : Nat) (hk : k < 8 * xs.length) : par (turn xs k) c = (par xs c + 1) % 2 := by
  have h := sumN_turn xs k hk (8 * xs.length)
  rw [if_pos hk] at h
  unfold par
  rw [turn_len]
  omega
theorem syn_digit (xs : List UInt8) (d c : Nat) : syn xs (c ^^^ 2 ^ d) = syn xs c ^^^ (2 ^ d % 65536) := by
  unfold syn
  have h := Nat.xor_mod_two_pow (a := c) (b := 2 ^ d) (n := 16)
  rw [show (2 : Nat) ^ 16 = 65536 by decide] at h
  rw [h, Nat.xor_assoc]
theorem par_digit (xs : List UInt8) (d c : Nat) : par xs (c ^^^ 2 ^ d) = (par xs c + 1) % 2 := by
  have h := ones_xor c (2 ^ d)
  rw [ones_pow] at h
  unfold par
  omega
theorem digit_lt (c d : Nat) (hc : c < 131072) (hd : d < 17) : c ^^^ 2 ^ d < 131072 := by
  refine Nat.xor_lt_two_pow (n := 17) hc ?_
  exact Nat.pow_lt_pow_right (by omega) hd
/-- What a turned bit or digit adds to the sum. -/
def delta (n k : Nat) : Nat := if k < 8 * n then place k else 2 ^ (k - 8 * n) % 65536
def hurt (xs : List UInt8) (c k : Nat) : List UInt8 × Nat := if k < 8 * xs.length then (turn xs k, c) else (xs, c ^^^ 2 ^ (k - 8 * xs.length))
theorem hurt_len (xs : List UInt8) (c k : Nat) : (hurt xs c k).1.length = xs.length := by
  unfold hurt; split
  · exact turn_len xs k
  · rfl
theorem hurt_lt (xs : List UInt8) (c k : Nat) (hc : c < 131072) (hk : k < 8 * xs.length + 17) : (hurt xs c k).2 < 131072 := by
  unfold hurt; split
  · exact hc
  · exact digit_lt c _ hc (by omega)
theorem syn_hurt (xs : List UInt8) (c k : Nat) : syn (hurt xs c k).1 (hurt xs c k).2 = syn xs c ^^^ delta xs.length k := by
  unfold hurt delta
  by_cases h : k < 8 * xs.length
  · rw [if_pos h, if_pos h]; exact syn_turn xs k c h
  · rw [if_neg h, if_neg h]; exact syn_digit xs _ c
theorem par_hurt (xs : List UInt8) (c k : Nat) : par (hurt xs c k).1 (hurt xs c k).2 = (par xs c + 1) % 2 := by
  unfold hurt
  by_cases h : k < 8 * xs.length
  · rw [if_pos h]; exact par_turn xs k c h
  · rw [if_neg h]; exact par_digit xs _ c
theorem pow_mod (d : Nat) (hd : d < 17) : (d < 16 ∧ 2 ^ d % 65536 = 2 ^ d) ∨ (d = 16 ∧ 2 ^ d % 65536 = 0) := by
  by_cases h : d < 16
  · refine .inl ⟨h, Nat.mod_eq_of_lt ?_⟩
    exact Nat.pow_lt_pow_right (m := d) (n := 16) (a := 2) (by omega) h
  · obtain rfl : d = 16 := by omega
    exact .inr ⟨rfl, by decide⟩
theorem delta_inj (n j k : Nat) (hj : j < 8 * n + 17) (hk : k < 8 * n + 17) (h : delta n j = delta n k) : j = k := by
  unfold delta at h
  have pp : ∀ a d : Nat, d < 17 → place a ≠ 2 ^ d % 65536 := by
    intro a d hd e
    have h1 := place_none a
    have h2 := place_ge a
    rcases pow_mod d hd with ⟨_, e2⟩ | ⟨_, e2⟩
    · rw [e, e2, pow2_pow] at h1; cases h1
    · omega
  by_cases h1 : j < 8 * n
  · by_cases h2 : k < 8 * n
    · rw [if_pos h1, if_pos h2] at h; exact place_inj h
    · rw [if_pos h1, if_neg h2] at h
      exact absurd h (pp j _ (by omega))
  · by_cases h2 : k < 8 * n
    · rw [if_neg h1, if_pos h2] at h
      exact absurd h.symm (pp k _ (by omega))
    · rw [if_neg h1, if_neg h2] at h
      have hp : ∀ d : Nat, 0 < 2 ^ d := Nat.two_pow_pos
      have := hp (j - 8 * n)
      have := hp (k - 8 * n)
      rcases pow_mod (j - 8 * n) (by omega) with ⟨a1, e1⟩ | ⟨a1, e1⟩ <;> rcases pow_mod (k - 8 * n) (by omega) with ⟨a2, e2⟩ | ⟨a2, e2⟩
      · rw [e1, e2] at h
        rcases Nat.lt_trichotomy (j - 8 * n) (k - 8 * n) with l | l | l
        · have := Nat.pow_lt_pow_right (a := 2) (by omega) l
          omega
        · omega
        · have := Nat.pow_lt_pow_right (a := 2) (by omega) l
          omega
      · omega
      · omega
      · omega
theorem mend_own (xs : List UInt8) (h1 : 1 ≤ xs.length) (h2 : xs.length ≤ 4096) : mend xs (code xs) = (xs, -1, 0) := by
  have := code_lt xs h2
  unfold mend
  rw [if_neg (by omega), if_pos ⟨par_code xs h2, syn_code xs h2⟩]
theorem mend_digit (xs : List UInt8) (d : Nat) (h1 : 1 ≤ xs.length) (h2 : xs.length ≤ 4096) (hd : d < 17) : mend xs (code xs ^^^ 2 ^ d) = (xs, -2, 0) := by
  have h3 := digit_lt (code xs) d (code_lt xs h2) hd
  have h4 : par xs (code xs ^^^ 2 ^ d) = 1 := by rw [par_digit, par_code xs h2]
  have h5 : syn xs (code xs ^^^ 2 ^ d) = 2 ^ d % 65536 := by rw [syn_digit, syn_code xs h2, Nat.zero_xor]
  unfold mend
  rw [if_neg (by omega), if_neg (by omega), if_pos]
  refine ⟨h4, ?_⟩
  rw [h5]
  rcases pow_mod d hd with ⟨_, e⟩ | ⟨_, e⟩
  · right; rw [e]; exact pow2_pow d
  · left; exact e
theorem mend_bit (xs : List UInt8) (k : Nat) (h1 : 1 ≤ xs.length) (h2 : xs.length ≤ 4096) (hk : k < 8 * xs.length) : mend (turn xs k) (code xs) = (xs, (k : Int), 0) := by
  have h3 := code_lt xs h2
  have h4 : par (turn xs k) (code xs) = 1 := by rw [par_turn xs k _ hk, par_code xs h2]
  have h5 : syn (turn xs k) (code xs) = place k := by rw [syn_turn xs k _ hk, syn_code xs h2, Nat.zero_xor]
  have h6 := place_ge k
  have h7 := place_none k
  have h8 := (bitOf_place k (by have := place_bound k (by omega); omega)).1
  unfold mend
  rw [turn_len, if_neg (by omega), if_neg (by omega), if_neg (by rw [h5, h7]; simp; omega), if_pos ⟨h4, by rw [h5, h8]; exact hk⟩, h5, h8, turn_turn xs k hk]
theorem mend_two (xs : List UInt8) (j k : Nat) (h1 : 1 ≤ xs.length) (h2 : xs.length ≤ 4096) (hj : j < 8 * xs.length + 17) (hk : k < 8 * xs.length + 17) (hne : j ≠ k) :
    mend (hurt (hurt xs (code xs) j).1 (hurt xs (code xs) j).2 k).1 (hurt (hurt xs (code xs) j).1 (hurt xs (code xs) j).2 k).2 = ([], 0, 21) := by
  have l1 := hurt_len xs (code xs) j
  have c1 := hurt_lt xs (code xs) j (code_lt xs h2) hj
  have s1 := syn_hurt xs (code xs) j
  have p1 := par_hurt xs (code xs) j
  rw [syn_code xs h2, Nat.zero_xor] at s1
  rw [par_code xs h2] at p1
  generalize hurt xs (code xs) j = H at *
  obtain ⟨ys, c⟩ := H
  simp only at *
  have l2 := hurt_len ys c k
  have c2 := hurt_lt ys c k c1 (by omega)
  have s2 := syn_hurt ys c k
  have p2 := par_hurt ys c k
  rw [s1, l1] at s2
  rw [p1] at p2
  have s3 : delta xs.length j ^^^ delta xs.length k ≠ 0 := fun e => hne (delta_inj _ j k hj hk ((xor_zero_iff _ _).1 e))
  generalize hurt ys c k = H at *
  unfold mend
  rw [if_neg (by omega), if_neg (by rw [s2]; intro h; exact s3 h.2), if_neg (by omega), if_neg (by omega)]
theorem mend_found (xs : List UInt8) (c : Nat) (h2 : xs.length ≤ 4096) (h0 : syn xs c ≠ 0) (hp : pow2 (syn xs c) = false) :
    (∀ k, k < 8 * xs.length → (place k = syn xs c ↔ k = bitOf (syn xs c))) := by
  intro k hk
  obtain ⟨j, hj⟩ := place_of _ (ge3_of _ h0 hp) hp
  have hl := syn_lt xs c h2
  have hj2 := place_self j
  constructor
  · intro e
    rw [← e, (bitOf_place k (by omega)).1]
  · rintro rfl
    rw [← hj, (bitOf_place j (by omega)).1]
end Go.Proofs.Ytceoogpmcijlaaa.Ecc
