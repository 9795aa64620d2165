/-
  Numbers of bytes, the least byte first, and back; in plain mathematics.
-/
import Derived.WalkKit
namespace Go.Proofs.YtiipnpfaaghekaaGreat

def bigL (X n : Nat) : List UInt8 := (List.range n).map fun i => UInt8.ofNat (X / 256 ^ i)
theorem bigL_len (X n : Nat) : (bigL X n).length = n := by simp [bigL]
theorem bigL_snoc (X k : Nat) : bigL X (k + 1) = bigL X k ++ [UInt8.ofNat (X / 256 ^ k)] := by simp [bigL, List.range_succ]
def numL : List UInt8 → Nat
  | [] => 0
  | b :: bs => b.toNat + 256 * numL bs
theorem numL_lt (xs : List UInt8) : numL xs < 256 ^ xs.length := by
  induction xs with
  | nil => simp [numL]
  | cons b bs ih =>
    have := b.toNat_lt
    simp only [numL, List.length_cons, Nat.pow_succ]
    omega
theorem bigL_cons (X n : Nat) : bigL X (n + 1) = UInt8.ofNat X :: bigL (X / 256) n := by
  simp only [bigL, List.range_succ_eq_map, List.map_cons, List.map_map, Nat.pow_zero, Nat.div_one]
  congr 1
  apply List.map_congr_left
  intro i _
  simp only [Function.comp_apply, Nat.pow_succ, Nat.div_div_eq_div_mul, Nat.mul_comm]
theorem bigL_add (X m n : Nat) : bigL X (m + n) = bigL X m ++ bigL (X / 256 ^ m) n := by
  induction n with
  | zero => simp [bigL]
  | succ n ih =>
    rw [← Nat.add_assoc, bigL_snoc, ih, bigL_snoc, List.append_assoc, Nat.div_div_eq_div_mul, ← Nat.pow_add]
theorem numL_bigL (X n : Nat) : numL (bigL X n) = X % 256 ^ n := by
  induction n generalizing X with
  | zero => simp [bigL, numL, Nat.mod_one]
  | succ n ih =>
    have h := Nat.mod_mul (x := X) (a := 256) (b := 256 ^ n)
    have e : 256 ^ (n + 1) = 256 * 256 ^ n := by rw [Nat.pow_succ, Nat.mul_comm]
    rw [bigL_cons, numL, ih, UInt8.toNat_ofNat', e, h]
theorem numL_big_lt {X n : Nat} (h : X < 256 ^ n) : numL (bigL X n) = X := by rw [numL_bigL, Nat.mod_eq_of_lt h]
theorem bigL_numL (xs : List UInt8) : bigL (numL xs) xs.length = xs := by
  induction xs with
  | nil => rfl
  | cons b bs ih =>
    have hb := b.toNat_lt
    rw [List.length_cons, bigL_cons, numL]
    have h1 : (b.toNat + 256 * numL bs) / 256 = numL bs := by omega
    have h2 : UInt8.ofNat (b.toNat + 256 * numL bs) = b := by
      apply UInt8.toNat_inj.1
      rw [UInt8.toNat_ofNat']
      omega
    rw [h1, ih, h2]
theorem numL_append (xs ys : List UInt8) : numL (xs ++ ys) = numL xs + 256 ^ xs.length * numL ys := by
  induction xs with
  | nil => simp [numL]
  | cons b bs ih =>
    simp only [List.cons_append, numL, ih, List.length_cons, Nat.pow_succ, Nat.mul_add]
    rw [Nat.add_assoc, Nat.mul_comm (256 ^ bs.length) 256, Nat.mul_assoc]
theorem bigL_inj {a b n : Nat} (ha : a < 256 ^ n) (hb : b < 256 ^ n) (h : bigL a n = bigL b n) : a = b := by
  rw [← numL_big_lt ha, ← numL_big_lt hb, h]
/-- The bytes as a text. -/
def strL (xs : List UInt8) : ByteArray := ⟨xs.toArray⟩
theorem strL_inj {xs ys : List UInt8} (h : strL xs = strL ys) : xs = ys := by
  have h2 := congrArg ByteArray.data h
  simpa [strL] using h2
end Go.Proofs.YtiipnpfaaghekaaGreat
