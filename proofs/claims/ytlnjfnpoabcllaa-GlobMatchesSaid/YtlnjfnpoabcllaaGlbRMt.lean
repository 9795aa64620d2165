/-
  The reference's matching: row by row: plain mathematics.
-/
import Derived.Test.YtlnjfnpoabcllaaGlbRMk
namespace Go.Proofs.Ytlnjfnpoabcllaa
namespace Glb

/-- Whether marks match the first k bytes. -/
def dpF (ms : List Gm) (s : List UInt8) (k : Nat) : Bool := mt (ms.map abG) (s.take k)
theorem dp_nil (s : List UInt8) (k : Nat) (h : k ≤ s.length) : dpF [] s k = (k == 0) := by
  unfold dpF
  rw [Bool.eq_iff_iff, List.map_nil, mt_nil, List.take_eq_nil_iff, beq_iff_eq]
  constructor
  · rintro (h1 | rfl)
    · exact h1
    · simpa using h
  · exact fun h => .inl h
theorem dp_many {m : Gm} (hm : m.k = 2) (ms : List Gm) (s : List UInt8) (k : Nat) (h : k ≤ s.length) : dpF (ms ++ [m]) s k = (dpF ms s k || (decide (0 < k) && dpF (ms ++ [m]) s (k - 1))) := by
  have h1 : (abG m).many = true := by show (m.k == 2) = true; rw [hm]; rfl
  unfold dpF
  rw [List.map_append, List.map_singleton]
  cases k with
  | zero => rw [List.take_zero, mt_snoc_nil, h1]; simp
  | succ k =>
    rw [List.take_succ_eq_append_getElem (by omega : k < s.length), mt_snoc_snoc_many h1, decide_eq_true (Nat.succ_pos k), Bool.true_and, Nat.add_sub_cancel]
theorem dp_one {m : Gm} (hm : m.k ≠ 2) (ms : List Gm) (s : List UInt8) (k : Nat) (h : k + 1 ≤ s.length) : dpF (ms ++ [m]) s (k + 1) = (dpF ms s k && standsB m (s[k]'(by omega))) := by
  have h1 : (abG m).many = false := by show (m.k == 2) = false; simpa using hm
  unfold dpF
  rw [List.map_append, List.map_singleton, List.take_succ_eq_append_getElem (by omega : k < s.length), mt_snoc_snoc_one h1]
  rfl
theorem dp_one0 {m : Gm} (hm : m.k ≠ 2) (ms : List Gm) (s : List UInt8) : dpF (ms ++ [m]) s 0 = false := by
  have h1 : (abG m).many = false := by show (m.k == 2) = false; simpa using hm
  unfold dpF
  rw [List.map_append, List.map_singleton, List.take_zero, mt_snoc_nil, h1, Bool.and_false]
theorem inB_N (l : List (UInt8 × UInt8)) (c : UInt8) : inBN l c.toNat = inB l c := by
  unfold inBN inB
  congr 1
theorem stN_eq {m : Gm} (hm : m.k ≠ 2) (c : UInt8) : stN m c.toNat = standsB m c := by
  unfold stN standsB
  split
  · rw [Bool.eq_iff_iff, decide_eq_true_iff, beq_iff_eq]
    exact ⟨fun h => UInt8.toNat_inj.1 h.symm, fun h => by rw [h]⟩
  · split
    · rw [inB_N]
      cases inB m.l c <;> cases m.neg <;> rfl
    · simpa using hm
end Glb
end Go.Proofs.Ytlnjfnpoabcllaa
