/-
  Rows of blocks: plain mathematics.
-/
import Derived.Test.YtceoogpmcijlaaaEccMend
import Derived.Test.YtceoogpmcijlaaaNumMath
namespace Go.Proofs.Ytceoogpmcijlaaa.Ecc

/-- Block j of n bytes each. -/
def chunk (xs : List UInt8) (n j : Nat) : List UInt8 := (xs.drop (n * j)).take n
/-- How many blocks of n bytes cover l bytes. -/
def blks (l n : Nat) : Nat := (l + n - 1) / n
theorem chunk_len (xs : List UInt8) (n j : Nat) : (chunk xs n j).length = min n (xs.length - n * j) := by unfold chunk; rw [List.length_take, List.length_drop]
theorem lt_blks {l n j : Nat} (hn : 1 ≤ n) : j < blks l n ↔ n * j < l := by
  unfold blks
  have h : j < (l + n - 1) / n ↔ (j + 1) * n ≤ l + n - 1 := Nat.le_div_iff_mul_le (by omega)
  rw [h, Nat.add_mul, Nat.one_mul, Nat.mul_comm]
  omega
theorem blks_eq {l n j : Nat} (hn : 1 ≤ n) (h1 : l ≤ n * j) (h2 : j = 0 ∨ n * (j - 1) < l) : blks l n = j := by
  have a : ¬ j < blks l n := fun h => by have := (lt_blks hn).1 h; omega
  rcases h2 with h2 | h2
  · omega
  · have b := (lt_blks (l := l) hn).2 h2
    omega
theorem blks_le {l n : Nat} (hn : 1 ≤ n) : blks l n ≤ l := by
  rcases Nat.lt_or_ge l (blks l n) with h | h
  · have := (lt_blks hn).1 h
    have h2 : l * 1 ≤ n * l := by rw [Nat.mul_comm n]; exact Nat.mul_le_mul_left l hn
    omega
  · exact h
theorem blks_mul {l n j : Nat} (hn : 1 ≤ n) (h : j ≤ blks l n) : n * j < l + n := by
  rcases Nat.eq_zero_or_pos j with rfl | h0
  · rw [Nat.mul_zero]; omega
  · have h1 := (lt_blks (l := l) hn).1 (show j - 1 < blks l n by omega)
    have h2 : n * j = n * (j - 1) + n := by
      obtain ⟨i, rfl⟩ : ∃ i, j = i + 1 := ⟨j - 1, by omega⟩
      rw [Nat.add_sub_cancel, Nat.mul_succ]
    omega
theorem blks_end {l n : Nat} (hn : 1 ≤ n) : l ≤ n * blks l n := by
  rcases Nat.lt_or_ge (n * blks l n) l with h | h
  · have := (lt_blks hn).2 h; omega
  · exact h

def codesOf (xs : List UInt8) (n : Nat) (pre : List Nat) : List UInt8 := pre.flatMap fun j => bigL (code (chunk xs n j)) 4
theorem codesOf_snoc (xs : List UInt8) (n : Nat) (pre : List Nat) (j : Nat) : codesOf xs n (pre ++ [j]) = codesOf xs n pre ++ bigL (code (chunk xs n j)) 4 := by
  unfold codesOf
  rw [List.flatMap_append, List.flatMap_singleton]
theorem codesOf_len (xs : List UInt8) (n : Nat) (pre : List Nat) : (codesOf xs n pre).length = 4 * pre.length := by
  induction pre with
  | nil => rfl
  | cons j pre ih =>
    have h : codesOf xs n (j :: pre) = bigL (code (chunk xs n j)) 4 ++ codesOf xs n pre := rfl
    rw [h, List.length_append, bigL_len, ih, List.length_cons]
    omega

/-- The code of block j. -/
def codeAt (cs : List UInt8) (j : Nat) : Nat := numL ((cs.drop (4 * j)).take 4)
theorem codeAt_lt (cs : List UInt8) (j : Nat) : codeAt cs j < 4294967296 := by
  have h := numL_lt ((cs.drop (4 * j)).take 4)
  have h1 : ((cs.drop (4 * j)).take 4).length ≤ 4 := List.length_take_le _ _
  have h2 : 256 ^ ((cs.drop (4 * j)).take 4).length ≤ 256 ^ 4 := Nat.pow_le_pow_right (by omega) h1
  have h3 : (256 : Nat) ^ 4 = 4294967296 := by decide
  unfold codeAt
  omega
/-- What is found of a block by any code: its kind, and the bit. -/
def lookE (xs : List UInt8) (c : Nat) : Int × Int := if 131071 < c then (3, 0) else look xs c
/-- What Mend gives beside. -/
def mendsTo (xs : List UInt8) (c : Nat) (k : Nat) (ys : List UInt8) : Prop :=
  (k = 0 ∧ lookE xs c = (0, 0) ∧ mend xs c = (xs, -1, 0) ∧ ys = xs) ∨ (k = 2 ∧ lookE xs c = (2, 0) ∧ mend xs c = (xs, -2, 0) ∧ ys = xs) ∨
  (∃ b : Nat, b < 8 * xs.length ∧ k = 1 ∧ lookE xs c = (1, (b : Int)) ∧ mend xs c = (turn xs b, (b : Int), 0) ∧ ys = turn xs b) ∨ (∃ e : Int, (e = 1 ∨ e = 21) ∧ k = 3 ∧ lookE xs c = (3, 0) ∧ mend xs c = ([], 0, e) ∧ ys = xs)
def kind (xs : List UInt8) (c : Nat) : Nat := (lookE xs c).1.toNat
def fixed (xs : List UInt8) (c : Nat) : List UInt8 := if kind xs c = 1 then turn xs (lookE xs c).2.toNat else xs
theorem mends (xs : List UInt8) (c : Nat) (h1 : 1 ≤ xs.length) (h2 : xs.length ≤ 4096) : mendsTo xs c (kind xs c) (fixed xs c) := by
  unfold mendsTo fixed kind
  by_cases hc : 131071 < c
  · have e : lookE xs c = (3, 0) := if_pos hc
    have m : mend xs c = ([], 0, 1) := if_pos (.inr (.inr hc))
    rw [e, m]
    exact .inr (.inr (.inr ⟨1, .inl rfl, rfl, rfl, rfl, rfl⟩))
  · have e : lookE xs c = look xs c := if_neg hc
    rw [e]
    rcases mend_look xs c h1 h2 (by omega) with ⟨a, b⟩ | ⟨a, b⟩ | ⟨k, hk, a, b⟩ | ⟨a, b⟩
    · rw [a, b]; exact .inl ⟨rfl, rfl, rfl, rfl⟩
    · rw [a, b]; exact .inr (.inl ⟨rfl, rfl, rfl, rfl⟩)
    · rw [a, b]; exact .inr (.inr (.inl ⟨k, hk, rfl, rfl, rfl, rfl⟩))
    · rw [a, b]; exact .inr (.inr (.inr ⟨21, .inr rfl, rfl, rfl, rfl, rfl⟩))
theorem fixed_len (xs : List UInt8) (c : Nat) : (fixed xs c).length = xs.length := by
  unfold fixed; split
  · exact turn_len _ _
  · rfl
/-- The first j blocks as they are mended. -/
def fixedTo (xs cs : List UInt8) (n : Nat) : Nat → List UInt8
  | 0 => []
  | j + 1 => fixedTo xs cs n j ++ fixed (chunk xs n j) (codeAt cs j)
/-- How many of the first j blocks are of kind q. -/
def cnt (xs cs : List UInt8) (n q : Nat) : Nat → Nat
  | 0 => 0
  | j + 1 => if kind (chunk xs n j) (codeAt cs j) = q then cnt xs cs n q j + 1 else cnt xs cs n q j
theorem cnt_le (xs cs : List UInt8) (n q j : Nat) : cnt xs cs n q j ≤ j := by
  induction j with
  | zero => exact Nat.le_refl _
  | succ j ih => rw [cnt]; split <;> omega
theorem fixedTo_len (xs cs : List UInt8) (n j : Nat) (h : n * j ≤ xs.length) : (fixedTo xs cs n j).length = n * j := by
  induction j with
  | zero => rfl
  | succ j ih =>
    rw [Nat.mul_succ] at h
    rw [fixedTo, List.length_append, ih (by omega), fixed_len, chunk_len, Nat.mul_succ]
    omega
theorem fixedTo_le (xs cs : List UInt8) (n j : Nat) (h : ∀ i, i < j → n * i < xs.length) : (fixedTo xs cs n j).length ≤ xs.length := by
  induction j with
  | zero => exact Nat.zero_le _
  | succ j ih =>
    have hj := h j (Nat.lt_succ_self j)
    rw [fixedTo, List.length_append, fixedTo_len _ _ _ _ (Nat.le_of_lt hj), fixed_len, chunk_len]
    omega
/-- All bytes, the first j blocks mended. -/
def outTo (xs cs : List UInt8) (n j : Nat) : List UInt8 := fixedTo xs cs n j ++ xs.drop (n * j)
theorem outTo_zero (xs cs : List UInt8) (n : Nat) : outTo xs cs n 0 = xs := by unfold outTo fixedTo; simp
theorem outTo_end (xs cs : List UInt8) (n j : Nat) (h : xs.length ≤ n * j) : outTo xs cs n j = fixedTo xs cs n j := by
  unfold outTo; rw [List.drop_of_length_le h, List.append_nil]
theorem outTo_len (xs cs : List UInt8) (n j : Nat) (h : ∀ i, i < j → n * i < xs.length) : (outTo xs cs n j).length = xs.length := by
  unfold outTo
  induction j with
  | zero => simp [fixedTo]
  | succ j ih =>
    have hj := h j (Nat.lt_succ_self j)
    rw [fixedTo, List.length_append, List.length_append, fixedTo_len _ _ _ _ (Nat.le_of_lt hj), fixed_len, chunk_len, List.length_drop, Nat.mul_succ]
    omega
theorem drop_chunk (xs : List UInt8) (n j : Nat) : xs.drop (n * j) = chunk xs n j ++ xs.drop (n * (j + 1)) := by
  unfold chunk
  rw [Nat.mul_succ, ← List.drop_drop, List.take_append_drop]
theorem outTo_same {xs cs : List UInt8} {n j : Nat} (h : fixed (chunk xs n j) (codeAt cs j) = chunk xs n j) : outTo xs cs n (j + 1) = outTo xs cs n j := by
  unfold outTo
  rw [fixedTo, h, List.append_assoc, ← drop_chunk]
theorem outTo_turn {xs cs : List UInt8} {n j b : Nat} (hj : n * j ≤ xs.length) (hb : b < 8 * (chunk xs n j).length) (h : fixed (chunk xs n j) (codeAt cs j) = turn (chunk xs n j) b) :
    outTo xs cs n (j + 1) = (outTo xs cs n j).set (n * j + b / 8) ((outTo xs cs n j).getD (n * j + b / 8) 0 ^^^ UInt8.ofNat (2 ^ (b % 8))) := by
  have h8 : b / 8 < (chunk xs n j).length := by omega
  have hl := fixedTo_len xs cs n j hj
  have e1 : (outTo xs cs n j).getD (n * j + b / 8) 0 = (chunk xs n j).getD (b / 8) 0 := by
    unfold outTo
    rw [drop_chunk, List.getD_eq_getElem?_getD, List.getD_eq_getElem?_getD, List.getElem?_append_right (by omega), hl, Nat.add_sub_cancel_left, List.getElem?_append_left h8]
  rw [e1]
  unfold outTo
  rw [drop_chunk xs n j, List.set_append_right _ _ (by omega), hl, Nat.add_sub_cancel_left, List.set_append_left _ _ h8, fixedTo, h, List.append_assoc]
  rfl
theorem chunk_outTo (xs cs : List UInt8) (n j : Nat) (hj : n * j ≤ xs.length) : ((outTo xs cs n j).drop (n * j)).take n = chunk xs n j := by
  unfold outTo chunk
  have hl := fixedTo_len xs cs n j hj
  rw [List.drop_append_of_le_length (by omega), List.drop_of_length_le (by omega), List.nil_append]
end Go.Proofs.Ytceoogpmcijlaaa.Ecc
