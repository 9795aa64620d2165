/-
  What is added, removed and turned is right, and all else is as it was: plain mathematics.
-/
import Derived.Test.YtlnomkkamopieaaDirUndo
namespace Go.Proofs.Ytlnomkkamopieaa

namespace Dir
/-- A name that is found in the one just where it is found in the other, with the same number. -/
theorem same_find {b y nm : List UInt8} (hb : Good b) (hy : Good y)
    (h1 : ∀ j, j < cnt b → used b j → nmAt b j = nm → ∃ i, i < cnt y ∧ used y i ∧ nmAt y i = nm ∧ (rd y i).1.i = (rd b j).1.i)
    (h2 : ∀ i, i < cnt y → used y i → nmAt y i = nm → ∃ j, j < cnt b ∧ used b j ∧ nmAt b j = nm) : (findR y nm).2 = (findR b nm).2 := by
  by_cases h : ∃ j, j < cnt b ∧ used b j ∧ nmAt b j = nm
  · obtain ⟨j, q1, q2, q3⟩ := h
    obtain ⟨i, r1, r2, r3, r4⟩ := h1 j q1 q2 q3
    rw [find_is hb q1 q2 q3, find_is hy r1 r2 r3]
    exact r4
  · rw [find_no (fun j q1 q2 q3 => h ⟨j, q1, q2, q3⟩), find_no (fun i q1 q2 q3 => h (h2 i q1 q2 q3))]
theorem added_keeps {b : List UInt8} {e : Ent} {r : Nat} (h : addE b e = 0) (hr : IsRoom b r) :
    goodB (addedAt b e r) = true ∧ (findR (addedAt b e r) e.nm).2 = e.i ∧ ∀ nm, nm ≠ e.nm → (findR (addedAt b e r) nm).2 = (findR b nm).2 := by
  have ha := added h hr
  obtain ⟨hg, _, _⟩ := addE_ok h
  have hur : ∀ j, j < cnt b → used b j → j ≠ r := fun j hj hu he => by
    subst he
    exact not_used_room (hr.2.2 hj) hu
  refine ⟨good_iff.2 ha.good, ?_, fun nm hne => same_find hg ha.good (fun j q1 q2 q3 => ?_) (fun i q1 q2 q3 => ?_)⟩
  · rw [find_is ha.good ha.here (nm := e.nm) (by unfold used; rw [ha.new]) (by unfold nmAt; rw [ha.new]), ha.new]
  · have hj := hur j q1 q2
    refine ⟨j, by have := ha.more; omega, ?_, ?_, by rw [ha.old j q1 hj]⟩
    · unfold used; rw [ha.old j q1 hj]; exact q2
    · unfold nmAt; rw [ha.old j q1 hj]; exact q3
  · have hi : i ≠ r := by
      intro he
      subst he
      unfold nmAt at q3
      rw [ha.new] at q3
      exact hne q3.symm
    have hlt : i < cnt b := by rcases ha.cnt i q1 with h | h; exact h; exact absurd h hi
    unfold used nmAt at *
    rw [ha.old i hlt hi] at q2 q3
    exact ⟨i, hlt, q2, q3⟩
theorem zeros_len : zeros.length = 16 := by simp [zeros]
theorem read_zeros : readR zeros = (none_, false, 0) := by decide
theorem trim_spec {b : List UInt8} (m : Nat) : ∃ t, t ≤ m ∧ trimTo b m = b.take (16 * t) ∧ (∀ j, t ≤ j → j < m → isZ (slotAt b j) = true) ∧ (t = 0 ∨ isZ (slotAt b (t - 1)) = false) := by
  induction m with
  | zero => exact ⟨0, by omega, by simp [trimTo], fun j h1 h2 => by omega, .inl rfl⟩
  | succ m ih =>
    rw [trimTo]
    by_cases h : isZ (slotAt b m) = true
    · obtain ⟨t, h1, h2, h3, h4⟩ := ih
      rw [if_pos h]
      refine ⟨t, by omega, h2, fun j q1 q2 => ?_, h4⟩
      by_cases hj : j = m
      · subst hj; exact h
      · exact h3 j q1 (by omega)
    · rw [if_neg h]
      exact ⟨m + 1, by omega, rfl, fun j q1 q2 => by omega, .inr (by rw [Nat.add_sub_cancel]; simpa using h)⟩
theorem err_used {b : List UInt8} {k : Nat} (h : (rd b k).2.2 = 0) (hz : isZ (slotAt b k) = false) : used b k := by
  unfold used
  unfold rd readR at h ⊢
  by_cases h1 : (slotAt b k).length ≠ 16
  · rw [if_pos h1] at h; cases h
  · rw [if_neg h1] at h ⊢
    have hz' : ¬ isZ (slotAt b k) = true := by rw [hz]; simp
    rw [if_neg hz'] at h ⊢
    by_cases h2 : 13 < lenN (slotAt b k)
    · rw [if_pos h2] at h; cases h
    · rw [if_neg h2] at h ⊢
      by_cases h3 : writeE (entN (slotAt b k)) = 0 ∧ slotAt b k = slotL (entN (slotAt b k))
      · rw [if_pos h3]
      · rw [if_neg h3] at h; cases h
theorem named_at {b nm : List UInt8} (h : namedE b nm = 0) : Good b ∧ namedK b nm < cnt b ∧ used b (namedK b nm) ∧ nmAt b (namedK b nm) = nm := by
  obtain ⟨h1, h2, h3, h4⟩ := named_ok h
  obtain ⟨k, q1, q2, q3, q4⟩ := find_at h2
  have : namedK b nm = k := by rw [q4] at h3; simp only at h3; omega
  rw [this]
  exact ⟨good_iff.1 h1, q1, q2, q3⟩
theorem removed_keeps {b nm : List UInt8} (h : namedE b nm = 0) :
    goodB (removedL b nm) = true ∧ (findR (removedL b nm) nm).1 = -1 ∧ ∀ other, other ≠ nm → (findR (removedL b nm) other).2 = (findR b other).2 := by
  obtain ⟨hg, hk, hu, hn⟩ := named_at h
  unfold removedL
  generalize namedK b nm = k at *
  have hcn : cnt (putSlot b k zeros) = cnt b := by unfold cnt; rw [putSlot_len hk zeros_len]
  have n1 : rd (putSlot b k zeros) k = (none_, false, 0) := by unfold rd; rw [put_same hk zeros_len]; exact read_zeros
  have n2 : ∀ j, j < cnt b → j ≠ k → rd (putSlot b k zeros) j = rd b j := fun j hj hne => by unfold rd; rw [put_other hk zeros_len hj hne]
  have n3 : ∀ j, j < cnt b → j ≠ k → slotAt (putSlot b k zeros) j = slotAt b j := fun j hj hne => put_other hk zeros_len hj hne
  have hl1 : (putSlot b k zeros).length = b.length := putSlot_len hk zeros_len
  obtain ⟨t, t1, t2, t3, t4⟩ := trim_spec (b := putSlot b k zeros) (cnt b)
  rw [t2]
  have hly : ((putSlot b k zeros).take (16 * t)).length = 16 * t := by rw [List.length_take, hl1, hg.len]; omega
  have hcy : cnt ((putSlot b k zeros).take (16 * t)) = t := by unfold cnt; rw [hly]; omega
  have ry : ∀ j, j < t → rd ((putSlot b k zeros).take (16 * t)) j = rd (putSlot b k zeros) j := fun j hj => by unfold rd; rw [slotAt_take hj]
  have uy : ∀ j, j < t → used ((putSlot b k zeros).take (16 * t)) j → j ≠ k ∧ rd ((putSlot b k zeros).take (16 * t)) j = rd b j := fun j hj hv => by
    unfold used at hv
    rw [ry j hj] at hv
    have hjk : j ≠ k := by
      intro he
      subst he
      rw [n1] at hv; cases hv
    exact ⟨hjk, (ry j hj).trans (n2 j (by omega) hjk)⟩
  have hy : Good ((putSlot b k zeros).take (16 * t)) := by
    refine ⟨by rw [hly, hcy], fun j hj => ?_, fun i j hij hj hv hw => ?_, ?_⟩
    · rw [hcy] at hj
      rw [ry j hj]
      by_cases hjk : j = k
      · rw [hjk, n1]
      · rw [n2 j (by omega) hjk]; exact hg.err j (by omega)
    · rw [hcy] at hj
      obtain ⟨_, e1⟩ := uy i (by omega) hv
      obtain ⟨_, e2⟩ := uy j hj hw
      unfold used nmAt at *
      rw [e1] at hv ⊢
      rw [e2] at hw ⊢
      exact hg.apart i j hij (by omega) hv hw
    · rw [hcy]
      by_cases ht : t = 0
      · exact .inl ht
      · right
        have hz : isZ (slotAt (putSlot b k zeros) (t - 1)) = false := by rcases t4 with h | h; exact absurd h ht; exact h
        unfold used
        rw [ry _ (by omega)]
        refine err_used ?_ hz
        by_cases hjk : t - 1 = k
        · rw [hjk, n1]
        · rw [n2 _ (by omega) hjk]; exact hg.err _ (by omega)
  refine ⟨good_iff.2 hy, ?_, fun other hne => same_find hg hy (fun j q1 q2 q3 => ?_) (fun i q1 q2 q3 => ?_)⟩
  · rw [find_no]
    intro j hj hv
    rw [hcy] at hj
    obtain ⟨hjk, e1⟩ := uy j hj hv
    unfold used nmAt at *
    rw [e1] at hv ⊢
    rw [← hn]
    rcases Nat.lt_or_ge j k with hlt | hge
    · exact hg.apart j k hlt hk hv hu
    · exact fun he => hg.apart k j (by omega) (by omega) hu hv he.symm
  · have hjk : j ≠ k := by
      intro he
      subst he
      exact hne (q3.symm.trans hn)
    have hjt : j < t := by
      rcases Nat.lt_or_ge j t with hlt | hge
      · exact hlt
      · have := t3 j hge q1
        rw [n3 j q1 hjk, used_not_zero q2] at this
        cases this
    have e1 := (ry j hjt).trans (n2 j q1 hjk)
    refine ⟨j, by rw [hcy]; exact hjt, ?_, ?_, by rw [e1]⟩
    · unfold used; rw [e1]; exact q2
    · unfold nmAt; rw [e1]; exact q3
  · rw [hcy] at q1
    obtain ⟨hjk, e1⟩ := uy i q1 q2
    unfold used nmAt at *
    rw [e1] at q2 q3
    exact ⟨i, by omega, q2, q3⟩
theorem set_put (b : List UInt8) (k i : Nat) (v : UInt8) (hk : k < cnt b) (hi : i < 16) : b.set (16 * k + i) v = putSlot b k ((slotAt b k).set i v) := by
  unfold cnt at hk
  have h1 : b = b.take (16 * k) ++ (slotAt b k ++ b.drop (16 * k + 16)) := by
    conv => lhs; rw [← put_self b k]
    unfold putSlot
    rw [List.append_assoc]
  have hl : (b.take (16 * k)).length = 16 * k := by rw [List.length_take]; omega
  have hs : (slotAt b k).length = 16 := slotAt_len (by unfold cnt; exact hk)
  conv => lhs; rw [h1]
  rw [List.set_append_right _ _ (by omega), hl, Nat.add_sub_cancel_left, List.set_append_left _ _ (by omega)]
  unfold putSlot
  rw [List.append_assoc]
theorem turned_keeps {b nm : List UInt8} {to_ : Int} (h : turnE b nm to_ = 0) :
    goodB (turnedL b nm to_) = true ∧ (findR (turnedL b nm to_) nm).2 = to_ ∧ (turnedL b nm to_).length = b.length ∧ ∀ other, other ≠ nm → (findR (turnedL b nm to_) other).2 = (findR b other).2 := by
  have hE : namedE b nm = 0 := by
    unfold turnE at h
    split at h
    · assumption
    · exact h
  have hi : okI to_ = true := by
    unfold turnE at h
    rw [if_pos hE] at h
    split at h
    · assumption
    · cases h
  obtain ⟨hg, hk, hu, hn⟩ := named_at hE
  unfold turnedL
  generalize namedK b nm = k at *
  have hlen : ((b.set (16 * k) (UInt8.ofNat to_.toNat)).set (16 * k + 1) (UInt8.ofNat (to_.toNat / 256))).length = b.length := by rw [List.length_set, List.length_set]
  obtain ⟨w1, w2, w3, _⟩ := readR_used hu
  have hw : writeE ⟨to_, nm⟩ = 0 := by
    rw [writeE_iff]
    refine ⟨(okI_iff _).1 hi, ?_⟩
    have := ((writeE_iff _).1 w1).2
    unfold nmAt rd at hn
    rw [hn] at this
    exact this
  have hsl : slotAt b k = slotL ⟨(rd b k).1.i, nm⟩ := by
    have e : writeL (readR (slotAt b k)).1 = slotL (readR (slotAt b k)).1 := if_pos w1
    rw [e] at w2
    rw [← w2, ← hn]
    unfold nmAt rd
    rw [w2]
  have hput : (b.set (16 * k) (UInt8.ofNat to_.toNat)).set (16 * k + 1) (UInt8.ofNat (to_.toNat / 256)) = putSlot b k (slotL ⟨to_, nm⟩) := by
    have hs0 : ((slotAt b k).set 0 (UInt8.ofNat to_.toNat)).length = 16 := by rw [List.length_set]; exact slotAt_len hk
    have h0 := set_put b k 0 (UInt8.ofNat to_.toNat) hk (by omega)
    rw [Nat.add_zero] at h0
    have hk' : k < cnt (putSlot b k ((slotAt b k).set 0 (UInt8.ofNat to_.toNat))) := by unfold cnt; rw [putSlot_len hk hs0]; exact hk
    rw [h0, set_put _ k 1 _ hk' (by omega), put_same hk hs0, put_put hk hs0, hsl]
    rfl
  rw [hput] at hlen ⊢
  have hss := slotL_len ⟨to_, nm⟩ (nameE_len ((writeE_iff _).1 hw).2).2
  have hcn : cnt (putSlot b k (slotL ⟨to_, nm⟩)) = cnt b := by unfold cnt; rw [hlen]
  have n1 : rd (putSlot b k (slotL ⟨to_, nm⟩)) k = (⟨to_, nm⟩, true, 0) := by unfold rd; rw [put_same hk hss]; exact readR_slot _ hw
  have n2 : ∀ j, j < cnt b → j ≠ k → rd (putSlot b k (slotL ⟨to_, nm⟩)) j = rd b j := fun j hj hne => by unfold rd; rw [put_other hk hss hj hne]
  generalize putSlot b k (slotL ⟨to_, nm⟩) = z at *
  have hus : ∀ j, j < cnt b → (used z j ↔ used b j) ∧ nmAt z j = nmAt b j := fun j hj => by
    unfold used nmAt at *
    by_cases hjk : j = k
    · subst hjk; rw [n1, hu, hn]; exact ⟨Iff.rfl, rfl⟩
    · rw [n2 j hj hjk]; exact ⟨Iff.rfl, rfl⟩
  have hz : Good z := by
    refine ⟨by rw [hlen, hcn]; exact hg.len, fun j hj => ?_, fun i j hij hj hv hw => ?_, ?_⟩
    · rw [hcn] at hj
      by_cases hjk : j = k
      · rw [hjk, n1]
      · rw [n2 j hj hjk]; exact hg.err j hj
    · rw [hcn] at hj
      rw [(hus i (by omega)).2, (hus j hj).2]
      exact hg.apart i j hij hj ((hus i (by omega)).1.1 hv) ((hus j hj).1.1 hw)
    · rw [hcn]
      rcases hg.last with h | h
      · exact .inl h
      · exact .inr ((hus _ (by omega)).1.2 h)
  refine ⟨good_iff.2 hz, ?_, hlen, fun other hne => same_find hg hz (fun j q1 q2 q3 => ?_) (fun i q1 q2 q3 => ?_)⟩
  · rw [find_is hz (by rw [hcn]; exact hk) (nm := nm) (by unfold used; rw [n1]) (by unfold nmAt; rw [n1]), n1]
  · have hjk : j ≠ k := by
      intro he
      subst he
      exact hne (q3.symm.trans hn)
    exact ⟨j, by rw [hcn]; exact q1, (hus j q1).1.2 q2, (hus j q1).2.trans q3, by rw [n2 j q1 hjk]⟩
  · rw [hcn] at q1
    exact ⟨i, q1, (hus i q1).1.1 q2, (hus i q1).2.symm.trans q3⟩
end Dir
end Go.Proofs.Ytlnomkkamopieaa
