/-
  How many digits are 1: byte by byte; in plain mathematics.
-/
import Derived.Test.YtceoogpmcijlaaaEccMath
namespace Go.Proofs.Ytceoogpmcijlaaa.Ecc

theorem ones_step (x : Nat) : ones x = x % 2 + ones (x / 2) := by
  by_cases h : x = 0
  · subst h; simp [ones]
  · exact ones_eq x (by omega)
theorem ones_le (m : Nat) : ones m ≤ m := by
  induction m using Nat.strongRecOn with
  | _ m ih =>
    cases m with
    | zero => simp [ones]
    | succ m =>
      have := ih ((m + 1) / 2) (by omega)
      rw [ones]; omega
theorem ones_split (k x : Nat) : ones x = ones (x % 2 ^ k) + ones (x / 2 ^ k) := by
  induction k generalizing x with
  | zero => rw [Nat.pow_zero, Nat.mod_one, Nat.div_one]; simp [ones]
  | succ k ih =>
    have h1 : x % 2 ^ (k + 1) / 2 = x / 2 % 2 ^ k := by rw [Nat.pow_succ, Nat.mul_comm]; exact Nat.mod_mul_right_div_self _ _ _
    have h2 : x % 2 ^ (k + 1) % 2 = x % 2 := by rw [Nat.pow_succ, Nat.mod_mul_left_mod]
    have h3 : x / 2 / 2 ^ k = x / 2 ^ (k + 1) := by rw [Nat.div_div_eq_div_mul, Nat.pow_succ, Nat.mul_comm]
    rw [ones_step x, ih (x / 2), ones_step (x % 2 ^ (k + 1)), h1, h2, h3]
    omega
theorem ones_four (x : Nat) : ones x = ones (x / 16777216) + ones (x / 65536 % 256) + ones (x / 256 % 256) + ones (x % 256) := by
  have a := ones_split 8 x
  have b := ones_split 8 (x / 2 ^ 8)
  have c := ones_split 8 (x / 2 ^ 8 / 2 ^ 8)
  have e : (2 : Nat) ^ 8 = 256 := by decide
  rw [e] at a b c
  rw [show x / 256 / 256 = x / 65536 from Nat.div_div_eq_div_mul x 256 256] at b c
  rw [show x / 65536 / 256 = x / 16777216 from Nat.div_div_eq_div_mul x 65536 256] at c
  omega
end Go.Proofs.Ytceoogpmcijlaaa.Ecc
