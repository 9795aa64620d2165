/-
  A text cut at its first slash, and a path's parts; in plain mathematics.
-/
import Derived.WalkKit
import Derived.Lib.Bytealg
namespace Go.Proofs.Ytlnjfnpoabcllaa.Pth

/-- What stands ahead of the first slash. -/
def ahead (l : List UInt8) : List UInt8 := l.takeWhile (· != 47)
/-- What stands behind it. -/
def behind (l : List UInt8) : List UInt8 := l.drop ((ahead l).length + 1)
theorem ahead_le (l : List UInt8) : (ahead l).length ≤ l.length := by
  unfold ahead; exact (List.takeWhile_prefix _).length_le
theorem ahead_cons_slash (r : List UInt8) : ahead (47 :: r) = [] := rfl
theorem ahead_cons (c : UInt8) (r : List UInt8) (h : c ≠ 47) : ahead (c :: r) = c :: ahead r := by
  unfold ahead; rw [List.takeWhile_cons, if_pos (by simpa using h)]
theorem ahead_take (l : List UInt8) : l.take (ahead l).length = ahead l := by
  induction l with
  | nil => rfl
  | cons c r ih =>
    by_cases h : c = 47
    · subst h; rfl
    · rw [ahead_cons c r h, List.length_cons, List.take_succ_cons, ih]
theorem index_ahead (l : List UInt8) : Lib.indexByte l 47 = if (ahead l).length < l.length then ((ahead l).length : Int) else -1 := by
  induction l with
  | nil => rfl
  | cons c r ih =>
    by_cases h : c = 47
    · subst h
      rw [ahead_cons_slash, if_pos (by simp)]
      rfl
    · rw [ahead_cons c r h]
      unfold Lib.indexByte
      rw [if_neg (by simpa using h), ih]
      by_cases h2 : (ahead r).length < r.length
      · rw [if_pos h2, if_neg (by simp), if_pos (by simpa using h2)]
        simp
      · rw [if_neg h2, if_pos (by simp), if_neg (by simpa using h2)]
theorem ahead_whole (l : List UInt8) (h : ¬ (ahead l).length < l.length) : ahead l = l := by
  rw [← ahead_take l, List.take_of_length_le (by omega)]
theorem behind_none (l : List UInt8) (h : ¬ (ahead l).length < l.length) : behind l = [] := by
  unfold behind; exact List.drop_of_length_le (by omega)
theorem behind_lt (l : List UInt8) (h : l ≠ []) : (behind l).length < l.length := by
  have : 0 < l.length := List.length_pos_iff.2 h
  unfold behind
  rw [List.length_drop]; omega
theorem behind_cons_slash (r : List UInt8) : behind (47 :: r) = r := rfl
theorem behind_cons (c : UInt8) (r : List UInt8) (h : c ≠ 47) : behind (c :: r) = behind r := by
  unfold behind; rw [ahead_cons c r h]; rfl
/-- A part, where it is not empty. -/
def opt (l : List UInt8) : List (List UInt8) := if l = [] then [] else [l]
/-- The parts: each stretch without a slash that is not empty; cur is what has been read of one. -/
def partsA : List UInt8 → List UInt8 → List (List UInt8)
  | cur, [] => opt cur
  | cur, c :: r => if c = 47 then opt cur ++ partsA [] r else partsA (cur ++ [c]) r
def parts (l : List UInt8) : List (List UInt8) := partsA [] l
theorem partsA_step (cur l : List UInt8) : partsA cur l = opt (cur ++ ahead l) ++ (if (ahead l).length < l.length then parts (behind l) else []) := by
  induction l generalizing cur with
  | nil => simp [partsA, ahead]
  | cons c r ih =>
    rw [partsA]
    by_cases h : c = 47
    · subst h
      rw [if_pos rfl, ahead_cons_slash, if_pos (by simp), behind_cons_slash, List.append_nil, parts]
    · rw [if_neg h, ih, ahead_cons c r h, behind_cons c r h, List.append_assoc]
      simp
theorem parts_nil : parts [] = [] := rfl
theorem parts_step (l : List UInt8) : parts l = opt (ahead l) ++ parts (behind l) := by
  have h := partsA_step [] l
  rw [List.nil_append] at h
  rw [parts, h]
  by_cases h2 : (ahead l).length < l.length
  · rw [if_pos h2]
  · rw [if_neg h2, behind_none l h2, parts_nil]
theorem opt_len (l : List UInt8) : (opt l).length ≤ 1 := by unfold opt; split <;> simp
theorem parts_len (l : List UInt8) : (parts l).length ≤ l.length := by
  have H : ∀ n (l : List UInt8), l.length ≤ n → (parts l).length ≤ l.length := by
    intro n
    induction n with
    | zero =>
      intro l hl
      have : l = [] := List.eq_nil_of_length_eq_zero (by omega)
      subst this; simp [parts_nil]
    | succ n ih =>
      intro l hl
      by_cases h : l = []
      · subst h; simp [parts_nil]
      · have h1 := behind_lt l h
        have h2 := ih (behind l) (by omega)
        have h3 := opt_len (ahead l)
        rw [parts_step, List.length_append]; omega
  exact H l.length l (Nat.le_refl _)
/-- What has been read of the part that stands at f, up to i. -/
def cur (l : List UInt8) (f i : Nat) : List UInt8 := (l.drop f).take (i - f)
theorem cur_nil (l : List UInt8) (i : Nat) : cur l i i = [] := by simp [cur]
theorem cur_snoc (l : List UInt8) (f i : Nat) (hf : f ≤ i) (hi : i < l.length) : cur l f (i + 1) = cur l f i ++ [l[i]] := by
  have h : i - f < (l.drop f).length := by rw [List.length_drop]; omega
  unfold cur
  rw [show i + 1 - f = (i - f) + 1 by omega, List.take_succ_eq_append_getElem h, List.getElem_drop]
  congr 3
  omega
theorem cur_len (l : List UInt8) (f i : Nat) (hf : f ≤ i) (hi : i ≤ l.length) : (cur l f i).length = i - f := by
  unfold cur
  rw [List.length_take, List.length_drop]; omega
theorem opt_cur (l : List UInt8) (f i : Nat) (hf : f ≤ i) (hi : i ≤ l.length) : opt (cur l f i) = if f < i then [cur l f i] else [] := by
  have h := cur_len l f i hf hi
  unfold opt
  by_cases h2 : f < i
  · rw [if_pos h2, if_neg (by intro e; rw [e] at h; simp at h; omega)]
  · obtain rfl : f = i := by omega
    rw [if_neg h2, cur_nil, if_pos rfl]
theorem partsA_at (cu l : List UInt8) (i : Nat) (hi : i < l.length) : partsA cu (l.drop i) = if l[i] = 47 then opt cu ++ partsA [] (l.drop (i + 1)) else partsA (cu ++ [l[i]]) (l.drop (i + 1)) := by
  rw [List.drop_eq_getElem_cons hi, partsA]
end Go.Proofs.Ytlnjfnpoabcllaa.Pth
