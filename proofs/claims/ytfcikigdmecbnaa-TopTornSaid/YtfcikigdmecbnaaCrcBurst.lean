/-
  Plain: a row of which a few bytes that stand together are put together with others by exclusive-or.
-/
import Derived.Test.YtfcikigdmecbnaaCrcMath2
namespace Go.Proofs.Ytfcikigdmecbnaa.Crc

/-- The bytes from place k on, j of them, put together with X. -/
def burst (l X : List UInt8) (k j : Nat) : List UInt8 := (List.range l.length).map fun t => if k ≤ t ∧ t < k + j then l.getD t 0 ^^^ X.getD (t - k) 0 else l.getD t 0
def allz (l : List UInt8) : Bool := l.all (· == 0)
theorem burst_len (l X : List UInt8) (k j : Nat) : (burst l X k j).length = l.length := by simp [burst]
theorem burst_zero (l X : List UInt8) (k : Nat) : burst l X k 0 = l := by
  apply List.ext_getElem (by simp [burst])
  intro t h1 h2
  simp only [burst, List.getElem_map, List.getElem_range]
  rw [if_neg (by omega)]
  simp [h2]
theorem burst_at (l X : List UInt8) (k j t : Nat) (h : t < (burst l X k j).length) : (burst l X k j)[t] = if k ≤ t ∧ t < k + j then l.getD t 0 ^^^ X.getD (t - k) 0 else l.getD t 0 := by
  simp [burst]
theorem burst_set (l X : List UInt8) (k j : Nat) : (burst l X k j).set (k + j) (l.getD (k + j) 0 ^^^ X.getD j 0) = burst l X k (j + 1) := by
  apply List.ext_getElem (by simp [burst])
  intro t h1 h2
  rw [List.getElem_set]
  by_cases ht : k + j = t
  · subst ht
    rw [if_pos rfl, burst_at, if_pos (by omega), Nat.add_sub_cancel_left]
  · rw [if_neg ht, burst_at, burst_at]
    by_cases hc : k ≤ t ∧ t < k + j
    · rw [if_pos hc, if_pos (by omega)]
    · rw [if_neg hc, if_neg (by omega)]
theorem burst_here (l X : List UInt8) (k j : Nat) (h : k + j < (burst l X k j).length) (h' : k + j < l.length) : (burst l X k j)[k + j] = l[k + j] := by
  rw [burst_at, if_neg (by omega)]
  simp [h']
theorem burst_all (l X : List UInt8) (k m : Nat) (hX : X.length = m) (hk : k + m ≤ l.length) : burst l X k m = l.take k ++ List.zipWith (· ^^^ ·) ((l.drop k).take m) X ++ l.drop (k + m) := by
  have hz : (List.zipWith (· ^^^ ·) ((l.drop k).take m) X).length = m := by
    rw [List.length_zipWith, List.length_take, List.length_drop]; omega
  have h1 : (l.take k).length = k := by rw [List.length_take]; omega
  apply List.ext_getElem
  · rw [burst_len, List.length_append, List.length_append, hz, h1, List.length_drop]; omega
  intro t ht1 ht2
  rw [burst_at]
  rw [burst_len] at ht1
  by_cases ha : t < k
  · rw [if_neg (by omega), List.getElem_append_left (by rw [List.length_append]; omega), List.getElem_append_left (by omega), List.getElem_take]
    simp [ht1]
  · by_cases hb : t < k + m
    · rw [if_pos (by omega), List.getElem_append_left (by rw [List.length_append]; omega), List.getElem_append_right (by omega)]
      simp only [h1, List.getElem_zipWith, List.getElem_take, List.getElem_drop]
      have e : k + (t - k) = t := by omega
      simp only [e]
      have ht3 : t - k < X.length := by omega
      simp [ht1, ht3]
    · rw [if_neg (by omega), List.getElem_append_right (by rw [List.length_append]; omega)]
      simp only [List.length_append, h1, hz, List.getElem_drop]
      have e : k + m + (t - (k + m)) = t := by omega
      simp only [e]
      simp [ht1]
theorem zip_self (l X : List UInt8) (h : l.length = X.length) : List.zipWith (· ^^^ ·) l X = l ↔ allz X = true := by
  induction l generalizing X with
  | nil => cases X with
    | nil => simp [allz]
    | cons => simp at h
  | cons a l ih => cases X with
    | nil => simp at h
    | cons b X =>
      have := ih X (by simpa using h)
      simp only [List.zipWith_cons_cons, List.cons.injEq, this, allz, List.all_cons, Bool.and_eq_true, beq_iff_eq]
      refine and_congr_left fun _ => ⟨fun e => ?_, fun e => by rw [e, UInt8.xor_zero]⟩
      have h2 := congrArg (a ^^^ ·) e
      simp only [← UInt8.xor_assoc, UInt8.xor_self, UInt8.zero_xor] at h2
      exact h2
theorem sum_burst (l X : List UInt8) (k m : Nat) (hX : X.length = m) (hm : m ≤ 4) (hk : k + m ≤ l.length) : sum (burst l X k m) = sum l ↔ allz X = true := by
  have hmid : ((l.drop k).take m).length = m := by rw [List.length_take, List.length_drop]; omega
  have e : l = l.take k ++ (l.drop k).take m ++ l.drop (k + m) := by
    rw [List.append_assoc, ← List.drop_drop, List.take_append_drop, List.take_append_drop]
  rw [burst_all l X k m hX hk]
  conv => lhs; rhs; rw [e]
  rw [sum_window (by rw [List.length_zipWith, hmid]; omega) (by rw [List.length_zipWith, hmid]; omega)]
  exact zip_self _ _ (by rw [hmid, hX])
theorem allz_snoc (l : List UInt8) (x : UInt8) : allz (l ++ [x]) = (allz l && x == 0) := by simp [allz]
theorem allz_nil : allz [] = true := rfl
end Go.Proofs.Ytfcikigdmecbnaa.Crc
