import Derived.Test.YtcppkaphlcflgaaGreatDirRem
namespace Go.Proofs.YtcppkaphlcflgaaGreat
open Lib (hid)
set_option maxRecDepth 100000
set_option maxHeartbeats 16000000
section

namespace Dir
def used (b : List UInt8) (k : Nat) : Prop := (rd b k).2.1 = true
def nmAt (b : List UInt8) (k : Nat) : List UInt8 := (rd b k).1.nm
theorem mem_seen {b : List UInt8} {k : Nat} {nm : List UInt8} : nm ∈ seen b k ↔ ∃ j, j < k ∧ used b j ∧ nmAt b j = nm := by
 induction k with
 | zero => simp [seen]
 | succ k ih =>
  rw [seen]
  by_cases h : (rd b k).2.1 = true
  ·rw [if_pos h, List.mem_append, ih, List.mem_singleton]
   constructor
   ·rintro (⟨j, h1, h2, h3⟩ | h1)
    ·exact ⟨j, by omega, h2, h3⟩
    ·exact ⟨k, by omega, h, h1.symm⟩
   ·rintro ⟨j, h1, h2, h3⟩
    by_cases hj : j = k
    ·subst hj; exact .inr h3.symm
    ·exact .inl ⟨j, by omega, h2, h3⟩
  ·rw [if_neg h, ih]
   constructor
   ·rintro ⟨j, h1, h2, h3⟩
    exact ⟨j, by omega, h2, h3⟩
   ·rintro ⟨j, h1, h2, h3⟩
    by_cases hj : j = k
    ·subst hj; exact absurd h2 h
    ·exact ⟨j, by omega, h2, h3⟩
theorem okAt_iff {b : List UInt8} {k : Nat} : okAt b k = true ↔ (rd b k).2.2 = 0 ∧ (used b k → ∀ j, j < k → used b j → nmAt b j ≠ nmAt b k) := by
 unfold okAt
 rw [Bool.and_eq_true, decide_eq_true_iff]
 refine and_congr_right fun _ => ?_
 cases h : (rd b k).2.1
 ·constructor
  ·intro _ hu; unfold used at hu; rw [h] at hu; cases hu
  ·intro _; rfl
 ·rw [Bool.true_and, Bool.not_eq_true']
  have hm := mem_seen (b := b) (k := k) (nm := nmAt b k)
  constructor
  ·intro hc _ j hj hu he
   have := hm.2 ⟨j, hj, hu, he⟩
   have h2 : (seen b k).contains (rd b k).1.nm = true := by rw [List.contains_iff_mem]; exact this
   rw [hc] at h2; cases h2
  ·intro hall
   cases hc : (seen b k).contains (rd b k).1.nm
   ·rfl
   ·rw [List.contains_iff_mem] at hc
    obtain ⟨j, h1, h2, h3⟩ := hm.1 hc
    exact absurd h3 (hall h j h1 h2)
theorem okTo_iff {b : List UInt8} {m : Nat} : okTo b m = true ↔ ∀ k, k < m → okAt b k = true := by
 induction m with
 | zero => simp [okTo]
 | succ m ih =>
  rw [okTo, Bool.and_eq_true, ih]
  constructor
  ·rintro ⟨h1, h2⟩ k hk
   by_cases h : k = m
   ·subst h; exact h2
   ·exact h1 k (by omega)
  ·intro h
   exact ⟨fun k hk => h k (by omega), h m (by omega)⟩
structure Good (b : List UInt8) : Prop where
 len : b.length = 16 * cnt b
 err : ∀ k, k < cnt b → (rd b k).2.2 = 0
 apart : ∀ j k, j < k → k < cnt b → used b j → used b k → nmAt b j ≠ nmAt b k
 last : cnt b = 0 ∨ used b (cnt b - 1)
theorem good_iff {b : List UInt8} : goodB b = true ↔ Good b := by
 constructor
 ·intro h
  have hl := good_mod h
  rw [goodB, Bool.and_eq_true, Bool.and_eq_true, okTo_iff] at h
  obtain ⟨⟨_, h2⟩, h3⟩ := h
  refine ⟨hl, fun k hk => (okAt_iff.1 (h2 k hk)).1, fun j k hj hk hu hv => (okAt_iff.1 (h2 k hk)).2 hv j hj hu, ?_⟩
  unfold lastOk at h3
  rw [Bool.or_eq_true, decide_eq_true_iff] at h3
  exact h3
 ·intro h
  rw [goodB, Bool.and_eq_true, Bool.and_eq_true, okTo_iff]
  refine ⟨⟨decide_eq_true (by have := h.len; omega), fun k hk => okAt_iff.2 ⟨h.err k hk, fun hv j hj hu => h.apart j k hj hk hu hv⟩⟩, ?_⟩
  unfold lastOk
  rw [Bool.or_eq_true, decide_eq_true_iff]
  exact h.last
theorem mem_entsTo {b : List UInt8} {m : Nat} {x : Nat × Ent} : x ∈ entsTo b m ↔ x.1 < m ∧ used b x.1 ∧ x.2 = (rd b x.1).1 := by
 induction m with
 | zero => simp [entsTo]
 | succ m ih =>
  rw [entsTo]
  by_cases h : (rd b m).2.1 = true
  ·rw [if_pos h, List.mem_append, ih, List.mem_singleton]
   constructor
   ·rintro (⟨h1, h2, h3⟩ | h1)
    ·exact ⟨by omega, h2, h3⟩
    ·subst h1; exact ⟨by simp, h, rfl⟩
   ·rintro ⟨h1, h2, h3⟩
    by_cases hj : x.1 = m
    ·obtain ⟨k, y⟩ := x
     simp only at hj h3
     subst hj
     exact .inr (by rw [h3])
    ·exact .inl ⟨by omega, h2, h3⟩
  ·rw [if_neg h, ih]
   constructor
   ·rintro ⟨h1, h2, h3⟩; exact ⟨by omega, h2, h3⟩
   ·rintro ⟨h1, h2, h3⟩
    by_cases hj : x.1 = m
    ·rw [hj] at h2; exact absurd h2 h
    ·exact ⟨by omega, h2, h3⟩
theorem find_at {b nm : List UInt8} (h : 0 ≤ (findR b nm).1) : ∃ k, k < cnt b ∧ used b k ∧ nmAt b k = nm ∧ findR b nm = ((k : Int), (rd b k).1.i) := by
 obtain ⟨x, hx, h1, h2⟩ := findIn_mem (l := ents b) h
 obtain ⟨q1, q2, q3⟩ := mem_entsTo.1 hx
 exact ⟨x.1, q1, q2, by unfold nmAt; rw [← q3]; exact h2, by unfold findR; rw [h1, q3]⟩
theorem find_no {b nm : List UInt8} (h : ∀ k, k < cnt b → used b k → nmAt b k ≠ nm) : findR b nm = (-1, 0) :=
 findIn_none fun y hy => by
  obtain ⟨q1, q2, q3⟩ := mem_entsTo.1 hy
  rw [q3]
  exact h y.1 q1 q2
theorem find_is {b nm : List UInt8} (hg : Good b) {k : Nat} (hk : k < cnt b) (hu : used b k) (hn : nmAt b k = nm) : findR b nm = ((k : Int), (rd b k).1.i) := by
 have h0 : 0 ≤ (findR b nm).1 := by
  by_cases h : 0 ≤ (findR b nm).1
  ·exact h
  ·exfalso
   have hm : (k, (rd b k).1) ∈ ents b := mem_entsTo.2 ⟨hk, hu, rfl⟩
   have hneg := findR_neg h
   have : ∀ l : List (Nat × Ent), (k, (rd b k).1) ∈ l → 0 ≤ (findIn nm l).1 := by
    intro l
    induction l with
    | nil => intro h; cases h
    | cons x t ih =>
     intro hm
     rw [findIn]
     split
     ·simp
     ·rename_i hne
      rcases List.mem_cons.1 hm with h | h
      ·subst h; exact absurd hn hne
      ·exact ih h
   exact h (this _ hm)
 obtain ⟨j, h1, h2, h3, h4⟩ := find_at h0
 have : j = k := by
  rcases Nat.lt_trichotomy j k with h | h | h
  ·exact absurd (h3.trans hn.symm) (hg.apart j k h hk h2 hu)
  ·exact h
  ·exact absurd (hn.trans h3.symm) (hg.apart k j h h1 hu h2)
 subst this
 exact h4
theorem used_not_zero {b : List UInt8} {k : Nat} (h : used b k) : isZ (slotAt b k) = false := by
 cases hz : isZ (slotAt b k)
 ·rfl
 ·have hr : (readR (slotAt b k)).2.1 = false := by
   unfold readR
   by_cases hl : (slotAt b k).length ≠ 16
   ·rw [if_pos hl]
   ·rw [if_neg hl, if_pos hz]
  unfold used rd at h
  rw [hr] at h
  cases h
theorem slotAt_len {b : List UInt8} {k : Nat} (h : k < cnt b) : (slotAt b k).length = 16 := by
 unfold cnt at h
 unfold slotAt
 rw [List.length_take, List.length_drop]
 omega
theorem put_same {b s : List UInt8} {r : Nat} (h : r < cnt b) (hs : s.length = 16) : slotAt (putSlot b r s) r = s := by
 unfold cnt at h
 unfold slotAt putSlot
 rw [List.append_assoc, List.drop_left' (by rw [List.length_take]; omega), List.take_left' hs]
theorem put_other {b s : List UInt8} {r j : Nat} (h : r < cnt b) (hs : s.length = 16) (hj : j < cnt b) (hne : j ≠ r) : slotAt (putSlot b r s) j = slotAt b j := by
 unfold cnt at h hj
 apply List.ext_getElem?
 intro i
 unfold slotAt putSlot
 rw [List.getElem?_take, List.getElem?_take]
 split
 ·rename_i hi
  rw [List.getElem?_drop, List.getElem?_drop]
  rcases Nat.lt_or_ge j r with hlt | hge
  ·rw [List.append_assoc, List.getElem?_append_left (by rw [List.length_take]; omega), List.getElem?_take, if_pos (by omega)]
  ·rw [List.getElem?_append_right (by simp only [List.length_append, List.length_take, hs]; omega), List.getElem?_drop]
   congr 1
   simp only [List.length_append, List.length_take, hs]
   omega
 ·rfl
theorem put_put {b s t : List UInt8} {r : Nat} (h : r < cnt b) (hs : s.length = 16) : putSlot (putSlot b r s) r t = putSlot b r t := by
 unfold cnt at h
 have h1 : (putSlot b r s).take (16 * r) = b.take (16 * r) := by
  unfold putSlot
  rw [List.append_assoc, List.take_left' (by rw [List.length_take]; omega)]
 have h2 : (putSlot b r s).drop (16 * r + 16) = b.drop (16 * r + 16) := by
  unfold putSlot
  rw [List.drop_left' (by simp only [List.length_append, List.length_take, hs]; omega)]
 show (putSlot b r s).take (16 * r) ++ t ++ (putSlot b r s).drop (16 * r + 16) = _
 rw [h1, h2]
 rfl
theorem put_self (b : List UInt8) (r : Nat) : putSlot b r (slotAt b r) = b := by
 unfold putSlot slotAt
 rw [List.append_assoc, ← List.drop_drop, List.take_append_drop, List.take_append_drop]
theorem app_at {b s : List UInt8} (hb : b.length = 16 * cnt b) (hs : s.length = 16) : cnt (b ++ s) = cnt b + 1 ∧ slotAt (b ++ s) (cnt b) = s ∧ (∀ j, j < cnt b → slotAt (b ++ s) j = slotAt b j) ∧ (∀ t, putSlot (b ++ s) (cnt b) t = b ++ t) := by
 refine ⟨by unfold cnt; rw [List.length_append, hs]; omega, ?_, fun j hj => ?_, fun t => ?_⟩
 ·unfold slotAt
  rw [List.drop_left' hb, List.take_of_length_le (by omega)]
 ·unfold slotAt
  rw [List.drop_append_of_le_length (by omega), List.take_append_of_le_length (by rw [List.length_drop]; omega)]
 ·unfold putSlot
  rw [List.take_left' hb, List.drop_of_length_le (by rw [List.length_append, hs, hb]; omega), List.append_nil]
theorem zero_slot {s : List UInt8} (hl : s.length = 16) (h : isZ s = true) : s = zeros := by
 rw [isZ_iff, hl] at h; exact h
theorem trim_good {b : List UInt8} (hg : Good b) : trimTo b (cnt b) = b := by
 cases hc : cnt b with
 | zero =>
  have hl := hg.len
  rw [hc] at hl
  exact (List.eq_nil_of_length_eq_zero hl).symm
 | succ m =>
  have hu : used b m := by
   rcases hg.last with h | h
   ·omega
   ·rw [hc, Nat.add_sub_cancel] at h; exact h
  rw [trimTo, if_neg (by rw [used_not_zero hu]; simp), List.take_of_length_le (by rw [hg.len, hc]; omega)]
end Dir
end
section
open Go.RowKit

namespace Dir
structure Added (b : List UInt8) (e : Ent) (r : Nat) (x : List UInt8) : Prop where
 good : Good x
 new : rd x r = (e, true, 0)
 here : r < cnt x
 old : ∀ j, j < cnt b → j ≠ r → rd x j = rd b j
 cnt : ∀ j, j < cnt x → j < cnt b ∨ j = r
 back : trimTo (putSlot x r zeros) (Dir.cnt x) = b
 more : Dir.cnt b ≤ Dir.cnt x
theorem not_used_room {b : List UInt8} {r : Nat} (h : isZ (slotAt b r) = true) : ¬ used b r := fun hu => by rw [used_not_zero hu] at h; cases h
theorem addE_ok {b : List UInt8} {e : Ent} (h : addE b e = 0) : Good b ∧ writeE e = 0 ∧ ∀ k, k < cnt b → used b k → nmAt b k ≠ e.nm := by
 unfold addE at h
 split at h
 ·rename_i hg
  split at h
  ·rename_i hw
   split at h
   ·cases h
   ·rename_i hf
    refine ⟨good_iff.1 hg, hw, fun k hk hu hn => hf ?_⟩
    rw [find_is (good_iff.1 hg) hk hu hn]
    simp
  ·rename_i hw; exact absurd h hw
 ·cases h
theorem added {b : List UInt8} {e : Ent} {r : Nat} (h : addE b e = 0) (hr : IsRoom b r) : Added b e r (addedAt b e r) := by
 obtain ⟨hg, hw, hn⟩ := addE_ok h
 have hs := slotL_len e (nameE_len ((writeE_iff e).1 hw).2).2
 have hrd := readR_slot e hw
 by_cases hc : r = cnt b
 ·have hx : addedAt b e r = b ++ slotL e := if_pos hc
  rw [hx]
  obtain ⟨q1, q2, q3, q4⟩ := app_at hg.len hs
  have n1 : rd (b ++ slotL e) r = (e, true, 0) := by unfold rd; rw [hc, q2]; exact hrd
  have n2 : ∀ j, j < cnt b → rd (b ++ slotL e) j = rd b j := fun j hj => by unfold rd; rw [q3 j hj]
  refine ⟨⟨by rw [q1, List.length_append, hs, hg.len]; omega, fun k hk => ?_, fun j k hj hk hu hv => ?_, .inr ?_⟩, n1, by omega, fun j hj _ => n2 j hj, fun j hj => by omega, ?_, by omega⟩
  ·by_cases hkr : k = r
   ·rw [hkr, n1]
   ·rw [n2 k (by omega)]; exact hg.err k (by omega)
  ·by_cases hkr : k = r
   ·subst hkr
    unfold nmAt
    rw [n1, n2 j (by omega)]
    unfold used at hu
    rw [n2 j (by omega)] at hu
    exact hn j (by omega) hu
   ·unfold used nmAt at *
    rw [n2 j (by omega)] at hu ⊢
    rw [n2 k (by omega)] at hv ⊢
    exact hg.apart j k hj (by omega) hu hv
  ·unfold used
   rw [show cnt (b ++ slotL e) - 1 = r by omega, n1]
  ·rw [hc, q4, q1]
   have hz := app_at (s := zeros) hg.len (by simp [zeros])
   rw [trimTo, if_pos (by rw [hz.2.1]; exact isZ_rep 16)]
   have ht : ∀ m, m ≤ cnt b → trimTo (b ++ zeros) m = trimTo b m := by
    intro m
    induction m with
    | zero => intro _; rfl
    | succ m ih =>
     intro hm
     rw [trimTo, trimTo, hz.2.2.1 m (by omega), ih (by omega)]
     split
     ·rfl
     ·rw [List.take_append_of_le_length (by have := hg.len; omega)]
   rw [ht _ (Nat.le_refl _)]
   exact trim_good hg
 ·have hx : addedAt b e r = putSlot b r (slotL e) := if_neg hc
  rw [hx]
  have hrl : r < cnt b := by have := hr.2.1; omega
  have hz := hr.2.2 hrl
  have hcn : cnt (putSlot b r (slotL e)) = cnt b := by unfold cnt; rw [putSlot_len hrl hs]
  have n1 : rd (putSlot b r (slotL e)) r = (e, true, 0) := by unfold rd; rw [put_same hrl hs]; exact hrd
  have n2 : ∀ j, j < cnt b → j ≠ r → rd (putSlot b r (slotL e)) j = rd b j := fun j hj hne => by unfold rd; rw [put_other hrl hs hj hne]
  refine ⟨⟨by rw [putSlot_len hrl hs, hcn]; exact hg.len, fun k hk => ?_, fun j k hj hk hu hv => ?_, .inr ?_⟩, n1, by omega, n2, fun j hj => by omega, ?_, by omega⟩
  ·by_cases hkr : k = r
   ·rw [hkr, n1]
   ·rw [n2 k (by omega) hkr]; exact hg.err k (by omega)
  ·by_cases hkr : k = r
   ·subst hkr
    unfold nmAt
    rw [n1, n2 j (by omega) (by omega)]
    unfold used at hu
    rw [n2 j (by omega) (by omega)] at hu
    exact hn j (by omega) hu
   ·by_cases hjr : j = r
    ·subst hjr
     unfold nmAt
     rw [n1, n2 k (by omega) hkr]
     unfold used at hv
     rw [n2 k (by omega) hkr] at hv
     exact fun he => hn k (by omega) hv he.symm
    ·unfold used nmAt at *
     rw [n2 j (by omega) hjr] at hu ⊢
     rw [n2 k (by omega) hkr] at hv ⊢
     exact hg.apart j k hj (by omega) hu hv
  ·rw [hcn]
   by_cases hlr : cnt b - 1 = r
   ·unfold used; rw [hlr, n1]
   ·unfold used
    rw [n2 _ (by omega) hlr]
    rcases hg.last with h | h
    ·omega
    ·exact h
  ·rw [put_put hrl hs, hcn]
   have hsz := zero_slot (slotAt_len hrl) hz
   rw [← hsz, put_self]
   exact trim_good hg
end Dir
end
section

namespace Dir
theorem same_find {b y nm : List UInt8} (hb : Good b) (hy : Good y)
  (h1 : ∀ j, j < cnt b → used b j → nmAt b j = nm → ∃ i, i < cnt y ∧ used y i ∧ nmAt y i = nm ∧ (rd y i).1.i = (rd b j).1.i)
  (h2 : ∀ i, i < cnt y → used y i → nmAt y i = nm → ∃ j, j < cnt b ∧ used b j ∧ nmAt b j = nm) : (findR y nm).2 = (findR b nm).2 := by
 by_cases h : ∃ j, j < cnt b ∧ used b j ∧ nmAt b j = nm
 ·obtain ⟨j, q1, q2, q3⟩ := h
  obtain ⟨i, r1, r2, r3, r4⟩ := h1 j q1 q2 q3
  rw [find_is hb q1 q2 q3, find_is hy r1 r2 r3]
  exact r4
 ·rw [find_no (fun j q1 q2 q3 => h ⟨j, q1, q2, q3⟩), find_no (fun i q1 q2 q3 => h (h2 i q1 q2 q3))]
theorem zeros_len : zeros.length = 16 := by simp [zeros]
theorem read_zeros : readR zeros = (none_, false, 0) := by decide
theorem trim_spec {b : List UInt8} (m : Nat) : ∃ t, t ≤ m ∧ trimTo b m = b.take (16 * t) ∧ (∀ j, t ≤ j → j < m → isZ (slotAt b j) = true) ∧ (t = 0 ∨ isZ (slotAt b (t - 1)) = false) := by
 induction m with
 | zero => exact ⟨0, by omega, by simp [trimTo], fun j h1 h2 => by omega, .inl rfl⟩
 | succ m ih =>
  rw [trimTo]
  by_cases h : isZ (slotAt b m) = true
  ·obtain ⟨t, h1, h2, h3, h4⟩ := ih
   rw [if_pos h]
   refine ⟨t, by omega, h2, fun j q1 q2 => ?_, h4⟩
   by_cases hj : j = m
   ·subst hj; exact h
   ·exact h3 j q1 (by omega)
  ·rw [if_neg h]
   exact ⟨m + 1, by omega, rfl, fun j q1 q2 => by omega, .inr (by rw [Nat.add_sub_cancel]; simpa using h)⟩
theorem err_used {b : List UInt8} {k : Nat} (h : (rd b k).2.2 = 0) (hz : isZ (slotAt b k) = false) : used b k := by
 unfold used
 unfold rd readR at h ⊢
 by_cases h1 : (slotAt b k).length ≠ 16
 ·rw [if_pos h1] at h; cases h
 ·rw [if_neg h1] at h ⊢
  have hz' : ¬ isZ (slotAt b k) = true := by rw [hz]; simp
  rw [if_neg hz'] at h ⊢
  by_cases h2 : 13 < lenN (slotAt b k)
  ·rw [if_pos h2] at h; cases h
  ·rw [if_neg h2] at h ⊢
   by_cases h3 : writeE (entN (slotAt b k)) = 0 ∧ slotAt b k = slotL (entN (slotAt b k))
   ·rw [if_pos h3]
   ·rw [if_neg h3] at h; cases h
theorem named_at {b nm : List UInt8} (h : namedE b nm = 0) : Good b ∧ namedK b nm < cnt b ∧ used b (namedK b nm) ∧ nmAt b (namedK b nm) = nm := by
 obtain ⟨h1, h2, h3, h4⟩ := named_ok h
 obtain ⟨k, q1, q2, q3, q4⟩ := find_at h2
 have : namedK b nm = k := by rw [q4] at h3; simp only at h3; omega
 rw [this]
 exact ⟨good_iff.1 h1, q1, q2, q3⟩
theorem removed_keeps {b nm : List UInt8} (h : namedE b nm = 0) :
  goodB (removedL b nm) = true ∧ (findR (removedL b nm) nm).1 = -1 ∧ ∀ other, other ≠ nm → (findR (removedL b nm) other).2 = (findR b other).2 := by
 obtain ⟨hg, hk, hu, hn⟩ := named_at h
 unfold removedL
 generalize namedK b nm = k at *
 have hcn : cnt (putSlot b k zeros) = cnt b := by unfold cnt; rw [putSlot_len hk zeros_len]
 have n1 : rd (putSlot b k zeros) k = (none_, false, 0) := by unfold rd; rw [put_same hk zeros_len]; exact read_zeros
 have n2 : ∀ j, j < cnt b → j ≠ k → rd (putSlot b k zeros) j = rd b j := fun j hj hne => by unfold rd; rw [put_other hk zeros_len hj hne]
 have n3 : ∀ j, j < cnt b → j ≠ k → slotAt (putSlot b k zeros) j = slotAt b j := fun j hj hne => put_other hk zeros_len hj hne
 have hl1 : (putSlot b k zeros).length = b.length := putSlot_len hk zeros_len
 obtain ⟨t, t1, t2, t3, t4⟩ := trim_spec (b := putSlot b k zeros) (cnt b)
 rw [t2]
 have hly : ((putSlot b k zeros).take (16 * t)).length = 16 * t := by rw [List.length_take, hl1, hg.len]; omega
 have hcy : cnt ((putSlot b k zeros).take (16 * t)) = t := by unfold cnt; rw [hly]; omega
 have ry : ∀ j, j < t → rd ((putSlot b k zeros).take (16 * t)) j = rd (putSlot b k zeros) j := fun j hj => by unfold rd; rw [slotAt_take hj]
 have uy : ∀ j, j < t → used ((putSlot b k zeros).take (16 * t)) j → j ≠ k ∧ rd ((putSlot b k zeros).take (16 * t)) j = rd b j := fun j hj hv => by
  unfold used at hv
  rw [ry j hj] at hv
  have hjk : j ≠ k := by
   intro he
   subst he
   rw [n1] at hv; cases hv
  exact ⟨hjk, (ry j hj).trans (n2 j (by omega) hjk)⟩
 have hy : Good ((putSlot b k zeros).take (16 * t)) := by
  refine ⟨by rw [hly, hcy], fun j hj => ?_, fun i j hij hj hv hw => ?_, ?_⟩
  ·rw [hcy] at hj
   rw [ry j hj]
   by_cases hjk : j = k
   ·rw [hjk, n1]
   ·rw [n2 j (by omega) hjk]; exact hg.err j (by omega)
  ·rw [hcy] at hj
   obtain ⟨_, e1⟩ := uy i (by omega) hv
   obtain ⟨_, e2⟩ := uy j hj hw
   unfold used nmAt at *
   rw [e1] at hv ⊢
   rw [e2] at hw ⊢
   exact hg.apart i j hij (by omega) hv hw
  ·rw [hcy]
   by_cases ht : t = 0
   ·exact .inl ht
   ·right
    have hz : isZ (slotAt (putSlot b k zeros) (t - 1)) = false := by rcases t4 with h | h; exact absurd h ht; exact h
    unfold used
    rw [ry _ (by omega)]
    refine err_used ?_ hz
    by_cases hjk : t - 1 = k
    ·rw [hjk, n1]
    ·rw [n2 _ (by omega) hjk]; exact hg.err _ (by omega)
 refine ⟨good_iff.2 hy, ?_, fun other hne => same_find hg hy (fun j q1 q2 q3 => ?_) (fun i q1 q2 q3 => ?_)⟩
 ·rw [find_no]
  intro j hj hv
  rw [hcy] at hj
  obtain ⟨hjk, e1⟩ := uy j hj hv
  unfold used nmAt at *
  rw [e1] at hv ⊢
  rw [← hn]
  rcases Nat.lt_or_ge j k with hlt | hge
  ·exact hg.apart j k hlt hk hv hu
  ·exact fun he => hg.apart k j (by omega) (by omega) hu hv he.symm
 ·have hjk : j ≠ k := by
   intro he
   subst he
   exact hne (q3.symm.trans hn)
  have hjt : j < t := by
   rcases Nat.lt_or_ge j t with hlt | hge
   ·exact hlt
   ·have := t3 j hge q1
    rw [n3 j q1 hjk, used_not_zero q2] at this
    cases this
  have e1 := (ry j hjt).trans (n2 j q1 hjk)
  refine ⟨j, by rw [hcy]; exact hjt, ?_, ?_, by rw [e1]⟩
  ·unfold used; rw [e1]; exact q2
  ·unfold nmAt; rw [e1]; exact q3
 ·rw [hcy] at q1
  obtain ⟨hjk, e1⟩ := uy i q1 q2
  unfold used nmAt at *
  rw [e1] at q2 q3
  exact ⟨i, by omega, q2, q3⟩
end Dir
end
end Go.Proofs.YtcppkaphlcflgaaGreat
