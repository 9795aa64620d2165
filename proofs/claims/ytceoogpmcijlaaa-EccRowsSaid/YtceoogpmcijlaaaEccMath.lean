/-
  Codes of blocks, in plain mathematics: the places of bits (the numbers from 3 on that are no power of two), what a block's bits sum to.
-/
import Derived.WalkKit
namespace Go.Proofs.Ytceoogpmcijlaaa.Ecc

/-- Is a number a power of two? (0 counts as one: so asks the program.) -/
def pow2 (n : Nat) : Bool := n &&& (n - 1) == 0
/-- The next place behind p. -/
def next (p : Nat) : Nat := if pow2 (p + 1) then p + 2 else p + 1
/-- The place of bit k. -/
def place : Nat → Nat
  | 0 => 3
  | k + 1 => next (place k)
/-- Bit k of the bytes. -/
def bit (xs : List UInt8) (k : Nat) : Bool := (xs.getD (k / 8) 0).toNat.testBit (k % 8)
/-- The exclusive-or of the places of the first m bits that are 1. -/
def sumX (xs : List UInt8) : Nat → Nat
  | 0 => 0
  | m + 1 => if bit xs m then sumX xs m ^^^ place m else sumX xs m
/-- How many of the first m bits are 1. -/
def sumN (xs : List UInt8) : Nat → Nat
  | 0 => 0
  | m + 1 => if bit xs m then sumN xs m + 1 else sumN xs m
/-- How many digits of a number are 1. -/
def ones : Nat → Nat
  | 0 => 0
  | n + 1 => (n + 1) % 2 + ones ((n + 1) / 2)
theorem ones_eq (n : Nat) (h : 0 < n) : ones n = n % 2 + ones (n / 2) := by
  obtain ⟨m, rfl⟩ : ∃ m, n = m + 1 := ⟨n - 1, by omega⟩
  rw [ones]
def code (xs : List UInt8) : Nat := sumX xs (8 * xs.length) + 65536 * ((sumN xs (8 * xs.length) + ones (sumX xs (8 * xs.length))) % 2)
theorem sumN_le (xs : List UInt8) (m : Nat) : sumN xs m ≤ m := by
  induction m with
  | zero => simp [sumN]
  | succ m ih => rw [sumN]; split <;> omega
end Go.Proofs.Ytceoogpmcijlaaa.Ecc
