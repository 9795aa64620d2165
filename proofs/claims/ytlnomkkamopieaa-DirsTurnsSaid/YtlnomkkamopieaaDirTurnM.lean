/-
  A right directory as a row of entries, and back to bytes: plain mathematics.
-/
import Derived.Test.YtlnomkkamopieaaDirKeepM
namespace Go.Proofs.Ytlnomkkamopieaa

namespace Dir
def slotsTo (b : List UInt8) (k : Nat) : List Ent := (List.range k).map fun j => (rd b j).1
def slotsL (b : List UInt8) : List Ent := slotsTo b (cnt b)
theorem slotsTo_len (b : List UInt8) (k : Nat) : (slotsTo b k).length = k := by simp [slotsTo]
theorem slotsL_len (b : List UInt8) : (slotsL b).length = cnt b := slotsTo_len _ _
theorem slotsTo_succ (b : List UInt8) (k : Nat) : slotsTo b (k + 1) = slotsTo b k ++ [(rd b k).1] := by simp [slotsTo, List.range_succ]
theorem slotsTo_at {b : List UInt8} {k j : Nat} (h : j < k) : (slotsTo b k)[j]'(by rw [slotsTo_len]; exact h) = (rd b j).1 := by simp [slotsTo]
theorem slotsL_at {b : List UInt8} {j : Nat} (h : j < (slotsL b).length) : (slotsL b)[j] = (rd b j).1 := by simp [slotsL, slotsTo]
/-- A slot's bytes. -/
def byteE (e : Ent) : List UInt8 := if e.i = 0 then zeros else writeL e
/-- Where the last entry that is one ends. -/
def TrimE (l : List Ent) (t : Nat) : Prop := t ≤ l.length ∧ (∀ j (h : j < l.length), t ≤ j → l[j].i = 0) ∧ (t = 0 ∨ ∃ h : t - 1 < l.length, l[t - 1].i ≠ 0)
theorem trimE_eq {l : List Ent} {t s : Nat} (h : TrimE l t) (k : TrimE l s) : t = s := by
  obtain ⟨h1, h2, h3⟩ := h
  obtain ⟨k1, k2, k3⟩ := k
  rcases Nat.lt_trichotomy t s with hlt | he | hlt
  · rcases k3 with k3 | ⟨q, k3⟩
    · omega
    · exact absurd (h2 (s - 1) q (by omega)) k3
  · exact he
  · rcases h3 with h3 | ⟨q, h3⟩
    · omega
    · exact absurd (k2 (t - 1) q (by omega)) h3
theorem used_pos {b : List UInt8} {k : Nat} (h : used b k) : 1 ≤ (rd b k).1.i ∧ (rd b k).1.i ≤ 65535 := ((writeE_iff _).1 (readR_used h).1).1
theorem free_zero {b : List UInt8} {k : Nat} (h : ¬ used b k) : (rd b k).1 = none_ := readR_none (by unfold used at h; unfold rd at h; simpa using h)
theorem used_iff {b : List UInt8} {k : Nat} : used b k ↔ (rd b k).1.i ≠ 0 := by
  constructor
  · intro h e; have := used_pos h; omega
  · intro h
    by_cases hu : used b k
    · exact hu
    · rw [free_zero hu] at h; exact absurd rfl h
theorem used_isZ {b : List UInt8} {k : Nat} (he : (rd b k).2.2 = 0) : isZ (slotAt b k) = true ↔ (rd b k).1.i = 0 := by
  constructor
  · intro h
    have : ¬ used b k := fun hu => by rw [used_not_zero hu] at h; cases h
    rw [free_zero this]; rfl
  · intro h
    cases hz : isZ (slotAt b k)
    · exact absurd h (used_iff.1 (err_used he hz))
    · rfl
theorem byteE_at {b : List UInt8} {k : Nat} (hk : k < cnt b) (he : (rd b k).2.2 = 0) : byteE (rd b k).1 = slotAt b k := by
  unfold byteE
  by_cases hu : used b k
  · rw [if_neg (used_iff.1 hu)]
    exact (readR_used hu).2.1
  · rw [if_pos (by rw [free_zero hu]; rfl)]
    have hz := (used_isZ he).2 (by rw [free_zero hu]; rfl)
    exact (zero_slot (slotAt_len hk) hz).symm
theorem slots_bytes {b : List UInt8} {k : Nat} (hk : k ≤ cnt b) (he : ∀ j, j < k → (rd b j).2.2 = 0) : (slotsTo b k).flatMap byteE = b.take (16 * k) := by
  induction k with
  | zero => rfl
  | succ k ih =>
    rw [slotsTo_succ, List.flatMap_append, ih (by omega) (fun j hj => he j (by omega)), List.flatMap_singleton, byteE_at (by omega) (he k (by omega)), show 16 * (k + 1) = 16 * k + 16 by omega, List.take_add]
    rfl
theorem good_trim {b : List UInt8} (hg : Good b) : TrimE (slotsL b) (slotsL b).length := by
  refine ⟨Nat.le_refl _, fun j h h2 => by omega, ?_⟩
  have hl := slotsL_len b
  rcases hg.last with h | h
  · exact .inl (by omega)
  · by_cases h0 : cnt b = 0
    · exact .inl (by omega)
    · refine .inr ⟨by omega, ?_⟩
      rw [slotsL_at, hl]
      exact used_iff.1 h
/-- The bytes of a right directory's entries. -/
theorem good_bytes {b : List UInt8} (hg : Good b) {t : Nat} (ht : TrimE (slotsL b) t) : ((slotsL b).take t).flatMap byteE = b := by
  have e := trimE_eq ht (good_trim hg)
  rw [e, List.take_of_length_le (Nat.le_refl _)]
  unfold slotsL
  rw [slots_bytes (Nat.le_refl _) hg.err, ← hg.len, List.take_of_length_le (Nat.le_refl _)]
/-! ### Find -/
def findL (l : List Ent) (nm : List UInt8) : Nat → Int
  | 0 => -1
  | f + 1 => match l[l.length - (f + 1)]? with
    | some e => if 0 < e.i ∧ e.nm = nm then ((l.length - (f + 1) : Nat) : Int) else findL l nm f
    | none => -1
theorem findL_at {l : List Ent} {nm : List UInt8} {k : Nat} (h : k < l.length) : findL l nm (l.length - k) = if 0 < l[k].i ∧ l[k].nm = nm then (k : Int) else findL l nm (l.length - (k + 1)) := by
  have e : l.length - k = (l.length - (k + 1)) + 1 := by omega
  rw [e, findL, show l.length - (l.length - (k + 1) + 1) = k by omega, List.getElem?_eq_getElem h]
theorem findL_spec {l : List Ent} {nm : List UInt8} (k : Nat) (hk : k ≤ l.length) (h0 : ∀ j (h : j < l.length), j < k → ¬ (0 < l[j].i ∧ l[j].nm = nm)) :
    (findL l nm (l.length - k) = -1 ∧ ∀ j (h : j < l.length), ¬ (0 < l[j].i ∧ l[j].nm = nm)) ∨ ∃ i, ∃ h : i < l.length, findL l nm (l.length - k) = (i : Int) ∧ 0 < l[i].i ∧ l[i].nm = nm ∧ ∀ j (h : j < l.length), j < i → ¬ (0 < l[j].i ∧ l[j].nm = nm) := by
  induction hn : l.length - k generalizing k with
  | zero => exact .inl ⟨rfl, fun j h => h0 j h (by omega)⟩
  | succ n ih =>
    have hlt : k < l.length := by omega
    have e2 : l.length - (k + 1) = n := by omega
    rw [← hn, findL_at hlt]
    by_cases hc : 0 < l[k].i ∧ l[k].nm = nm
    · rw [if_pos hc]
      exact .inr ⟨k, hlt, rfl, hc.1, hc.2, h0⟩
    · rw [if_neg hc]
      have := ih (k + 1) (by omega) (fun j h hj => by
        by_cases e : j = k
        · subst e; exact hc
        · exact h0 j h (by omega)) e2
      rw [e2]
      exact this
def findA (l : List Ent) (nm : List UInt8) : Int := findL l nm l.length
theorem findA_good {b nm : List UInt8} (hg : Good b) : findA (slotsL b) nm = (findR b nm).1 := by
  unfold findA
  have h := findL_spec (l := slotsL b) (nm := nm) 0 (by omega) (fun j h hj => by omega)
  rw [Nat.sub_zero] at h
  rcases h with ⟨h1, h2⟩ | ⟨i, hi, h1, h2, h3, _⟩
  · rw [h1, find_no]
    intro k hk hu hn
    refine h2 k (by rw [slotsL_len]; exact hk) ?_
    rw [slotsL_at]
    exact ⟨by have := used_pos hu; omega, hn⟩
  · rw [slotsL_at] at h2 h3
    rw [slotsL_len] at hi
    rw [h1, find_is hg hi (used_iff.2 (by omega)) h3]
/-! ### what the reference's Slots tells of bytes that are right -/
/-- Good, as the reference reckons it: slot by slot. -/
def goodTo (b : List UInt8) : Nat → Bool
  | 0 => decide (b.length % 16 = 0)
  | k + 1 => goodTo b k && decide ((rd b k).2.2 = 0) && (decide (¬ (rd b k).2.1 = true) || (slotsTo b k).all fun e => decide (e.nm ≠ (rd b k).1.nm))
theorem goodTo_iff {b : List UInt8} {k : Nat} : goodTo b k = true ↔ b.length % 16 = 0 ∧ okTo b k = true := by
  induction k with
  | zero => simp [goodTo, okTo]
  | succ k ih =>
    rw [goodTo, Bool.and_eq_true, Bool.and_eq_true, ih, okTo, Bool.and_eq_true, okAt_iff, decide_eq_true_iff, Bool.or_eq_true, decide_eq_true_iff, List.all_eq_true]
    have key : (¬ (rd b k).2.1 = true ∨ ∀ e ∈ slotsTo b k, decide (e.nm ≠ (rd b k).1.nm) = true) ↔ (used b k → ∀ j, j < k → used b j → nmAt b j ≠ nmAt b k) := by
      constructor
      · rintro (h | h) hu j hj hv
        · exact absurd hu h
        · have := h ((rd b j).1) (List.mem_map.2 ⟨j, List.mem_range.2 hj, rfl⟩)
          rw [decide_eq_true_iff] at this
          exact this
      · intro h
        by_cases hu : used b k
        · right
          intro e he
          obtain ⟨j, hj, rfl⟩ := List.mem_map.1 he
          rw [decide_eq_true_iff]
          by_cases hv : used b j
          · exact h hu j (List.mem_range.1 hj) hv
          · rw [free_zero hv]
            intro e
            have := nameE_len ((writeE_iff _).1 (readR_used hu).1).2
            unfold rd at e
            rw [← e] at this
            simp [none_] at this
        · exact .inl hu
    rw [key]
    constructor
    · rintro ⟨⟨⟨h1, h2⟩, h3⟩, h4⟩; exact ⟨h1, h2, h3, h4⟩
    · rintro ⟨h1, h2, h3, h4⟩; exact ⟨⟨⟨h1, h2⟩, h3⟩, h4⟩
theorem goodB_ref (b : List UInt8) : goodB b = (goodTo b (cnt b) && (decide (cnt b = 0) || decide (0 < (rd b (cnt b - 1)).1.i))) := by
  have hl : lastOk b = (decide (cnt b = 0) || decide (0 < (rd b (cnt b - 1)).1.i)) := by
    unfold lastOk
    congr 1
    rw [Bool.eq_iff_iff, decide_eq_true_iff]
    constructor
    · intro h; have := used_pos (b := b) h; omega
    · intro h; exact used_iff.2 (by omega)
  rw [← hl, Bool.eq_iff_iff, goodB, Bool.and_eq_true, Bool.and_eq_true, Bool.and_eq_true, goodTo_iff, decide_eq_true_iff]
/-! ### Add, Remove, Turn -/
theorem ext_slots {l : List Ent} {b : List UInt8} (h1 : l.length = cnt b) (h2 : ∀ j (h : j < l.length), l[j] = (rd b j).1) : l = slotsL b := by
  apply List.ext_getElem (by rw [h1, slotsL_len])
  intro j h3 h4
  rw [h2 j h3, slotsL_at]
def RoomL (l : List Ent) (r : Nat) : Prop := r ≤ l.length ∧ (∀ j (h : j < l.length), j < r → l[j].i ≠ 0) ∧ (∀ h : r < l.length, l[r].i = 0)
theorem roomL_is {b : List UInt8} (hg : Good b) {r s : Nat} (h : IsRoom b r) (k : RoomL (slotsL b) s) : s = r := by
  obtain ⟨h1, h2, h3⟩ := h
  obtain ⟨k1, k2, k3⟩ := k
  rw [slotsL_len] at k1
  rcases Nat.lt_trichotomy r s with hlt | he | hlt
  · have := k2 r (by rw [slotsL_len]; omega) hlt
    rw [slotsL_at] at this
    exact absurd ((used_isZ (hg.err r (by omega))).1 (h3 (by omega))) this
  · exact he.symm
  · have hz := k3 (by rw [slotsL_len]; omega)
    rw [slotsL_at] at hz
    have := h1 s hlt
    rw [(used_isZ (hg.err s (by omega))).2 hz] at this
    cases this
def addL (l : List Ent) (e : Ent) (r : Nat) : List Ent := if r = l.length then l ++ [e] else l.set r e
theorem addL_is {b : List UInt8} {e : Ent} {r : Nat} (h : addE b e = 0) (hr : IsRoom b r) : addL (slotsL b) e r = slotsL (addedAt b e r) := by
  have ha := added h hr
  obtain ⟨hg, _, _⟩ := addE_ok h
  have hrb := hr.2.1
  have hcn : cnt (addedAt b e r) = if r = cnt b then cnt b + 1 else cnt b := by
    unfold addedAt
    have hsl : (slotL e).length = 16 := slotL_len e (nameE_len ((writeE_iff e).1 (addE_ok h).2.1).2).2
    split
    · exact (app_at hg.len hsl).1
    · rename_i hne
      unfold cnt
      rw [putSlot_len (by omega) hsl]
  unfold addL
  rw [slotsL_len]
  by_cases he : r = cnt b
  · rw [if_pos he]
    rw [if_pos he] at hcn
    refine ext_slots (by rw [List.length_append, slotsL_len, hcn]; rfl) (fun j hj => ?_)
    rw [List.length_append, slotsL_len, List.length_singleton] at hj
    by_cases hjl : j < cnt b
    · rw [List.getElem_append_left (by rw [slotsL_len]; exact hjl), slotsL_at, ha.old j hjl (by omega)]
    · obtain rfl : j = cnt b := by omega
      rw [List.getElem_append_right (by rw [slotsL_len]; omega)]
      subst he
      rw [ha.new]
      simp [slotsL_len]
  · rw [if_neg he]
    rw [if_neg he] at hcn
    refine ext_slots (by rw [List.length_set, slotsL_len, hcn]) (fun j hj => ?_)
    rw [List.length_set, slotsL_len] at hj
    rw [List.getElem_set]
    split
    · rename_i hjr; subst hjr; rw [ha.new]
    · rename_i hjr; rw [slotsL_at, ha.old j hj (fun e => hjr e.symm)]
theorem removeL_is {b nm : List UInt8} (h : namedE b nm = 0) {t : Nat} (ht : TrimE ((slotsL b).set (namedK b nm) none_) t) : ((slotsL b).set (namedK b nm) none_).take t = slotsL (removedL b nm) := by
  obtain ⟨hg, hk, hu, hn⟩ := named_at h
  unfold removedL
  generalize namedK b nm = k at *
  have hcn : cnt (putSlot b k zeros) = cnt b := by unfold cnt; rw [putSlot_len hk zeros_len]
  have n1 : rd (putSlot b k zeros) k = (none_, false, 0) := by unfold rd; rw [put_same hk zeros_len]; exact read_zeros
  have n2 : ∀ j, j < cnt b → j ≠ k → rd (putSlot b k zeros) j = rd b j := fun j hj hne => by unfold rd; rw [put_other hk zeros_len hj hne]
  have hl1 : (putSlot b k zeros).length = b.length := putSlot_len hk zeros_len
  have er : ∀ j, j < cnt b → (rd (putSlot b k zeros) j).2.2 = 0 := fun j hj => by
    by_cases hjk : j = k
    · rw [hjk, n1]
    · rw [n2 j hj hjk]; exact hg.err j hj
  have hset : (slotsL b).set k none_ = slotsL (putSlot b k zeros) := by
    refine ext_slots (by rw [List.length_set, slotsL_len, hcn]) (fun j hj => ?_)
    rw [List.length_set, slotsL_len] at hj
    rw [List.getElem_set]
    split
    · rename_i hjr; subst hjr; rw [n1]
    · rename_i hjr; rw [slotsL_at, n2 j hj (fun e => hjr e.symm)]
  rw [hset] at ht ⊢
  obtain ⟨s, t1, t2, t3, t4⟩ := trim_spec (b := putSlot b k zeros) (cnt b)
  have hs : TrimE (slotsL (putSlot b k zeros)) s := by
    refine ⟨by rw [slotsL_len, hcn]; exact t1, fun j hj hsj => ?_, ?_⟩
    · rw [slotsL_len, hcn] at hj
      rw [slotsL_at]
      exact (used_isZ (er j hj)).1 (t3 j hsj hj)
    · rcases t4 with h | h
      · exact .inl h
      · by_cases h0 : s = 0
        · exact .inl h0
        · refine .inr ⟨by rw [slotsL_len, hcn]; omega, ?_⟩
          rw [slotsL_at]
          intro e
          rw [(used_isZ (er (s - 1) (by omega))).2 e] at h
          cases h
  obtain rfl := trimE_eq ht hs
  rw [t2]
  have hly : ((putSlot b k zeros).take (16 * t)).length = 16 * t := by rw [List.length_take, hl1, hg.len]; omega
  have hcy : cnt ((putSlot b k zeros).take (16 * t)) = t := by unfold cnt; rw [hly]; omega
  refine ext_slots (by rw [List.length_take, slotsL_len, hcn, hcy]; omega) (fun j hj => ?_)
  rw [List.length_take, slotsL_len, hcn] at hj
  rw [List.getElem_take, slotsL_at]
  unfold rd
  rw [slotAt_take (by omega)]
theorem turnL_is {b nm : List UInt8} {to_ : Int} (h : turnE b nm to_ = 0) {e : Ent} (he : e = ⟨to_, nm⟩) : (slotsL b).set (namedK b nm) e = slotsL (turnedL b nm to_) := by
  subst he
  have hE : namedE b nm = 0 := by
    unfold turnE at h
    split at h
    · assumption
    · exact h
  have hi : okI to_ = true := by
    unfold turnE at h
    rw [if_pos hE] at h
    split at h
    · assumption
    · cases h
  obtain ⟨hg, hk, hu, hn⟩ := named_at hE
  unfold turnedL
  generalize namedK b nm = k at *
  obtain ⟨w1, w2, w3, _⟩ := readR_used hu
  have hw : writeE ⟨to_, nm⟩ = 0 := by
    rw [writeE_iff]
    refine ⟨(okI_iff _).1 hi, ?_⟩
    have := ((writeE_iff _).1 w1).2
    unfold nmAt rd at hn
    rw [hn] at this
    exact this
  have hsl : slotAt b k = slotL ⟨(rd b k).1.i, nm⟩ := by
    have e : writeL (readR (slotAt b k)).1 = slotL (readR (slotAt b k)).1 := if_pos w1
    rw [e] at w2
    rw [← w2, ← hn]
    unfold nmAt rd
    rw [w2]
  have hput : (b.set (16 * k) (UInt8.ofNat to_.toNat)).set (16 * k + 1) (UInt8.ofNat (to_.toNat / 256)) = putSlot b k (slotL ⟨to_, nm⟩) := by
    have hs0 : ((slotAt b k).set 0 (UInt8.ofNat to_.toNat)).length = 16 := by rw [List.length_set]; exact slotAt_len hk
    have h0 := set_put b k 0 (UInt8.ofNat to_.toNat) hk (by omega)
    rw [Nat.add_zero] at h0
    have hk' : k < cnt (putSlot b k ((slotAt b k).set 0 (UInt8.ofNat to_.toNat))) := by unfold cnt; rw [putSlot_len hk hs0]; exact hk
    rw [h0, set_put _ k 1 _ hk' (by omega), put_same hk hs0, put_put hk hs0, hsl]
    rfl
  rw [hput]
  have hss := slotL_len ⟨to_, nm⟩ (nameE_len ((writeE_iff _).1 hw).2).2
  have hcn : cnt (putSlot b k (slotL ⟨to_, nm⟩)) = cnt b := by unfold cnt; rw [putSlot_len hk hss]
  refine ext_slots (by rw [List.length_set, slotsL_len, hcn]) (fun j hj => ?_)
  rw [List.length_set, slotsL_len] at hj
  rw [List.getElem_set]
  split
  · rename_i hjr
    subst hjr
    unfold rd
    rw [put_same hk hss, readR_slot _ hw]
  · rename_i hjr
    rw [slotsL_at]
    unfold rd
    rw [put_other hk hss hj (fun e => hjr e.symm)]
end Dir
end Go.Proofs.Ytlnomkkamopieaa
