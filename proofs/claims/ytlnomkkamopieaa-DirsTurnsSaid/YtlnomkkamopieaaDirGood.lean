/-
  A right directory, slot by slot, in plain mathematics.
-/
import Derived.Test.YtlnomkkamopieaaDirRem
namespace Go.Proofs.Ytlnomkkamopieaa

namespace Dir
def used (b : List UInt8) (k : Nat) : Prop := (rd b k).2.1 = true
def nmAt (b : List UInt8) (k : Nat) : List UInt8 := (rd b k).1.nm
theorem mem_seen {b : List UInt8} {k : Nat} {nm : List UInt8} : nm ∈ seen b k ↔ ∃ j, j < k ∧ used b j ∧ nmAt b j = nm := by
  induction k with
  | zero => simp [seen]
  | succ k ih =>
    rw [seen]
    by_cases h : (rd b k).2.1 = true
    · rw [if_pos h, List.mem_append, ih, List.mem_singleton]
      constructor
      · rintro (⟨j, h1, h2, h3⟩ | h1)
        · exact ⟨j, by omega, h2, h3⟩
        · exact ⟨k, by omega, h, h1.symm⟩
      · rintro ⟨j, h1, h2, h3⟩
        by_cases hj : j = k
        · subst hj; exact .inr h3.symm
        · exact .inl ⟨j, by omega, h2, h3⟩
    · rw [if_neg h, ih]
      constructor
      · rintro ⟨j, h1, h2, h3⟩
        exact ⟨j, by omega, h2, h3⟩
      · rintro ⟨j, h1, h2, h3⟩
        by_cases hj : j = k
        · subst hj; exact absurd h2 h
        · exact ⟨j, by omega, h2, h3⟩
theorem okAt_iff {b : List UInt8} {k : Nat} : okAt b k = true ↔ (rd b k).2.2 = 0 ∧ (used b k → ∀ j, j < k → used b j → nmAt b j ≠ nmAt b k) := by
  unfold okAt
  rw [Bool.and_eq_true, decide_eq_true_iff]
  refine and_congr_right fun _ => ?_
  cases h : (rd b k).2.1
  · constructor
    · intro _ hu; unfold used at hu; rw [h] at hu; cases hu
    · intro _; rfl
  · rw [Bool.true_and, Bool.not_eq_true']
    have hm := mem_seen (b := b) (k := k) (nm := nmAt b k)
    constructor
    · intro hc _ j hj hu he
      have := hm.2 ⟨j, hj, hu, he⟩
      have h2 : (seen b k).contains (rd b k).1.nm = true := by rw [List.contains_iff_mem]; exact this
      rw [hc] at h2; cases h2
    · intro hall
      cases hc : (seen b k).contains (rd b k).1.nm
      · rfl
      · rw [List.contains_iff_mem] at hc
        obtain ⟨j, h1, h2, h3⟩ := hm.1 hc
        exact absurd h3 (hall h j h1 h2)
theorem okTo_iff {b : List UInt8} {m : Nat} : okTo b m = true ↔ ∀ k, k < m → okAt b k = true := by
  induction m with
  | zero => simp [okTo]
  | succ m ih =>
    rw [okTo, Bool.and_eq_true, ih]
    constructor
    · rintro ⟨h1, h2⟩ k hk
      by_cases h : k = m
      · subst h; exact h2
      · exact h1 k (by omega)
    · intro h
      exact ⟨fun k hk => h k (by omega), h m (by omega)⟩
structure Good (b : List UInt8) : Prop where
  len : b.length = 16 * cnt b
  err : ∀ k, k < cnt b → (rd b k).2.2 = 0
  apart : ∀ j k, j < k → k < cnt b → used b j → used b k → nmAt b j ≠ nmAt b k
  last : cnt b = 0 ∨ used b (cnt b - 1)
theorem good_iff {b : List UInt8} : goodB b = true ↔ Good b := by
  constructor
  · intro h
    have hl := good_mod h
    rw [goodB, Bool.and_eq_true, Bool.and_eq_true, okTo_iff] at h
    obtain ⟨⟨_, h2⟩, h3⟩ := h
    refine ⟨hl, fun k hk => (okAt_iff.1 (h2 k hk)).1, fun j k hj hk hu hv => (okAt_iff.1 (h2 k hk)).2 hv j hj hu, ?_⟩
    unfold lastOk at h3
    rw [Bool.or_eq_true, decide_eq_true_iff] at h3
    exact h3
  · intro h
    rw [goodB, Bool.and_eq_true, Bool.and_eq_true, okTo_iff]
    refine ⟨⟨decide_eq_true (by have := h.len; omega), fun k hk => okAt_iff.2 ⟨h.err k hk, fun hv j hj hu => h.apart j k hj hk hu hv⟩⟩, ?_⟩
    unfold lastOk
    rw [Bool.or_eq_true, decide_eq_true_iff]
    exact h.last
theorem mem_entsTo {b : List UInt8} {m : Nat} {x : Nat × Ent} : x ∈ entsTo b m ↔ x.1 < m ∧ used b x.1 ∧ x.2 = (rd b x.1).1 := by
  induction m with
  | zero => simp [entsTo]
  | succ m ih =>
    rw [entsTo]
    by_cases h : (rd b m).2.1 = true
    · rw [if_pos h, List.mem_append, ih, List.mem_singleton]
      constructor
      · rintro (⟨h1, h2, h3⟩ | h1)
        · exact ⟨by omega, h2, h3⟩
        · subst h1; exact ⟨by simp, h, rfl⟩
      · rintro ⟨h1, h2, h3⟩
        by_cases hj : x.1 = m
        · obtain ⟨k, y⟩ := x
          simp only at hj h3
          subst hj
          exact .inr (by rw [h3])
        · exact .inl ⟨by omega, h2, h3⟩
    · rw [if_neg h, ih]
      constructor
      · rintro ⟨h1, h2, h3⟩; exact ⟨by omega, h2, h3⟩
      · rintro ⟨h1, h2, h3⟩
        by_cases hj : x.1 = m
        · rw [hj] at h2; exact absurd h2 h
        · exact ⟨by omega, h2, h3⟩
/-- What is found, and what is not. -/
theorem find_at {b nm : List UInt8} (h : 0 ≤ (findR b nm).1) : ∃ k, k < cnt b ∧ used b k ∧ nmAt b k = nm ∧ findR b nm = ((k : Int), (rd b k).1.i) := by
  obtain ⟨x, hx, h1, h2⟩ := findIn_mem (l := ents b) h
  obtain ⟨q1, q2, q3⟩ := mem_entsTo.1 hx
  exact ⟨x.1, q1, q2, by unfold nmAt; rw [← q3]; exact h2, by unfold findR; rw [h1, q3]⟩
theorem find_no {b nm : List UInt8} (h : ∀ k, k < cnt b → used b k → nmAt b k ≠ nm) : findR b nm = (-1, 0) :=
  findIn_none fun y hy => by
    obtain ⟨q1, q2, q3⟩ := mem_entsTo.1 hy
    rw [q3]
    exact h y.1 q1 q2
theorem find_is {b nm : List UInt8} (hg : Good b) {k : Nat} (hk : k < cnt b) (hu : used b k) (hn : nmAt b k = nm) : findR b nm = ((k : Int), (rd b k).1.i) := by
  have h0 : 0 ≤ (findR b nm).1 := by
    by_cases h : 0 ≤ (findR b nm).1
    · exact h
    · exfalso
      have hm : (k, (rd b k).1) ∈ ents b := mem_entsTo.2 ⟨hk, hu, rfl⟩
      have hneg := findR_neg h
      have : ∀ l : List (Nat × Ent), (k, (rd b k).1) ∈ l → 0 ≤ (findIn nm l).1 := by
        intro l
        induction l with
        | nil => intro h; cases h
        | cons x t ih =>
          intro hm
          rw [findIn]
          split
          · simp
          · rename_i hne
            rcases List.mem_cons.1 hm with h | h
            · subst h; exact absurd hn hne
            · exact ih h
      exact h (this _ hm)
  obtain ⟨j, h1, h2, h3, h4⟩ := find_at h0
  have : j = k := by
    rcases Nat.lt_trichotomy j k with h | h | h
    · exact absurd (h3.trans hn.symm) (hg.apart j k h hk h2 hu)
    · exact h
    · exact absurd (hn.trans h3.symm) (hg.apart k j h h1 hu h2)
  subst this
  exact h4
theorem used_not_zero {b : List UInt8} {k : Nat} (h : used b k) : isZ (slotAt b k) = false := by
  cases hz : isZ (slotAt b k)
  · rfl
  · have hr : (readR (slotAt b k)).2.1 = false := by
      unfold readR
      by_cases hl : (slotAt b k).length ≠ 16
      · rw [if_pos hl]
      · rw [if_neg hl, if_pos hz]
    unfold used rd at h
    rw [hr] at h
    cases h
theorem slotAt_len {b : List UInt8} {k : Nat} (h : k < cnt b) : (slotAt b k).length = 16 := by
  unfold cnt at h
  unfold slotAt
  rw [List.length_take, List.length_drop]
  omega
theorem put_same {b s : List UInt8} {r : Nat} (h : r < cnt b) (hs : s.length = 16) : slotAt (putSlot b r s) r = s := by
  unfold cnt at h
  unfold slotAt putSlot
  rw [List.append_assoc, List.drop_left' (by rw [List.length_take]; omega), List.take_left' hs]
theorem put_other {b s : List UInt8} {r j : Nat} (h : r < cnt b) (hs : s.length = 16) (hj : j < cnt b) (hne : j ≠ r) : slotAt (putSlot b r s) j = slotAt b j := by
  unfold cnt at h hj
  apply List.ext_getElem?
  intro i
  unfold slotAt putSlot
  rw [List.getElem?_take, List.getElem?_take]
  split
  · rename_i hi
    rw [List.getElem?_drop, List.getElem?_drop]
    rcases Nat.lt_or_ge j r with hlt | hge
    · rw [List.append_assoc, List.getElem?_append_left (by rw [List.length_take]; omega), List.getElem?_take, if_pos (by omega)]
    · rw [List.getElem?_append_right (by simp only [List.length_append, List.length_take, hs]; omega), List.getElem?_drop]
      congr 1
      simp only [List.length_append, List.length_take, hs]
      omega
  · rfl
theorem put_put {b s t : List UInt8} {r : Nat} (h : r < cnt b) (hs : s.length = 16) : putSlot (putSlot b r s) r t = putSlot b r t := by
  unfold cnt at h
  have h1 : (putSlot b r s).take (16 * r) = b.take (16 * r) := by
    unfold putSlot
    rw [List.append_assoc, List.take_left' (by rw [List.length_take]; omega)]
  have h2 : (putSlot b r s).drop (16 * r + 16) = b.drop (16 * r + 16) := by
    unfold putSlot
    rw [List.drop_left' (by simp only [List.length_append, List.length_take, hs]; omega)]
  show (putSlot b r s).take (16 * r) ++ t ++ (putSlot b r s).drop (16 * r + 16) = _
  rw [h1, h2]
  rfl
theorem put_self (b : List UInt8) (r : Nat) : putSlot b r (slotAt b r) = b := by
  unfold putSlot slotAt
  rw [List.append_assoc, ← List.drop_drop, List.take_append_drop, List.take_append_drop]
theorem app_at {b s : List UInt8} (hb : b.length = 16 * cnt b) (hs : s.length = 16) : cnt (b ++ s) = cnt b + 1 ∧ slotAt (b ++ s) (cnt b) = s ∧ (∀ j, j < cnt b → slotAt (b ++ s) j = slotAt b j) ∧ (∀ t, putSlot (b ++ s) (cnt b) t = b ++ t) := by
  refine ⟨by unfold cnt; rw [List.length_append, hs]; omega, ?_, fun j hj => ?_, fun t => ?_⟩
  · unfold slotAt
    rw [List.drop_left' hb, List.take_of_length_le (by omega)]
  · unfold slotAt
    rw [List.drop_append_of_le_length (by omega), List.take_append_of_le_length (by rw [List.length_drop]; omega)]
  · unfold putSlot
    rw [List.take_left' hb, List.drop_of_length_le (by rw [List.length_append, hs, hb]; omega), List.append_nil]
theorem zero_slot {s : List UInt8} (hl : s.length = 16) (h : isZ s = true) : s = zeros := by
  rw [isZ_iff, hl] at h; exact h
/-- A directory that is right is trimmed already. -/
theorem trim_good {b : List UInt8} (hg : Good b) : trimTo b (cnt b) = b := by
  cases hc : cnt b with
  | zero =>
    have hl := hg.len
    rw [hc] at hl
    exact (List.eq_nil_of_length_eq_zero hl).symm
  | succ m =>
    have hu : used b m := by
      rcases hg.last with h | h
      · omega
      · rw [hc, Nat.add_sub_cancel] at h; exact h
    rw [trimTo, if_neg (by rw [used_not_zero hu]; simp), List.take_of_length_le (by rw [hg.len, hc]; omega)]
end Dir
end Go.Proofs.Ytlnomkkamopieaa
