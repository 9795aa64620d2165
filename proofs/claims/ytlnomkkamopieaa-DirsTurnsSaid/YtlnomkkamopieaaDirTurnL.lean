/-
  The reference's answers over a right directory's entries against the package's over its bytes: plain mathematics.
-/
import Derived.Test.YtlnomkkamopieaaDirRBytes
import Derived.Test.YtlnomkkamopieaaDirRAdd
import Derived.Test.YtlnomkkamopieaaDirRSlots
namespace Go.Proofs.Ytlnomkkamopieaa
namespace Dir
def Match (b : List UInt8) (xs : List Ent) (ys : List UInt8) : Prop :=
  (∀ t, TrimE xs t → (xs.take t).flatMap byteE = ys) ∧ (∀ k (h : k < xs.length), xs[k].nm.length ≤ 140737488351232) ∧ xs.length ≤ cnt b + 1
theorem match_nil (b : List UInt8) : Match b [] [] := ⟨fun t _ => by simp, fun k h => absurd h (by simp), by simp⟩
theorem match_of {b ys : List UInt8} {xs : List Ent} (hg : goodB ys = true) (hx : xs = slotsL ys) (hl : xs.length ≤ cnt b + 1) : Match b xs ys := by
  subst hx
  refine ⟨fun t ht => good_bytes (good_iff.1 hg) ht, fun k h => ?_, hl⟩
  rw [slotsL_at]
  exact Nat.le_trans (rd_len _) (by decide)
theorem addE_ref {b : List UInt8} {e : Ent} (hg : goodB b = true) : refAddE (slotsL b) e = addE b e := by
  unfold refAddE addE
  rw [if_pos hg, findA_good (good_iff.1 hg)]
theorem removeE_ref {b nm : List UInt8} (hg : goodB b = true) : refRemoveE (slotsL b) nm = namedE b nm := by
  unfold refRemoveE namedE
  rw [if_pos hg, findA_good (good_iff.1 hg)]
  by_cases h : 0 ≤ (findR b nm).1
  · rw [if_pos h, if_neg (by omega)]
  · rw [if_neg h, if_pos (by omega)]
theorem turnE_ref {b nm : List UInt8} {to : Int} (hg : goodB b = true) : refTurnE (slotsL b) nm to = turnE b nm to := by
  unfold refTurnE turnE namedE
  rw [if_pos hg, findA_good (good_iff.1 hg)]
  by_cases h : 0 ≤ (findR b nm).1
  · rw [if_pos h, if_neg (by omega)]; simp
  · rw [if_neg h, if_pos (by omega)]; simp
theorem add_match {b ys : List UInt8} {e : Ent} {xs : List Ent} (hx : addE b e = 0 → ∃ r, RoomL (slotsL b) r ∧ xs = addL (slotsL b) e r) (hx0 : addE b e ≠ 0 → xs = [])
    (hy : addE b e = 0 → ∃ r, IsRoom b r ∧ ys = addedAt b e r) (hy0 : addE b e ≠ 0 → ys = []) : Match b xs ys := by
  by_cases h : addE b e = 0
  · obtain ⟨s, hs, rfl⟩ := hx h
    obtain ⟨r, hr, rfl⟩ := hy h
    have hg := (addE_ok h).1
    have : s = r := roomL_is hg hr hs
    subst this
    refine match_of (added_keeps h hr).1 (addL_is h hr) ?_
    unfold addL
    split
    · simp [slotsL_len]
    · simp [slotsL_len]
  · rw [hx0 h, hy0 h]; exact match_nil b
theorem named_find {b nm : List UInt8} (h : namedE b nm = 0) : (findA (slotsL b) nm).toNat = namedK b nm := by
  obtain ⟨h1, h2, h3, h4⟩ := named_ok h
  rw [findA_good (good_iff.1 h1), h3]
  rfl
theorem remove_match {b nm ys : List UInt8} {xs : List Ent} (hx : namedE b nm = 0 → ∃ t, TrimE ((slotsL b).set (findA (slotsL b) nm).toNat none_) t ∧ xs = ((slotsL b).set (findA (slotsL b) nm).toNat none_).take t) (hx0 : namedE b nm ≠ 0 → xs = [])
    (hy : namedE b nm = 0 → ys = removedL b nm) (hy0 : namedE b nm ≠ 0 → ys = []) : Match b xs ys := by
  by_cases h : namedE b nm = 0
  · obtain ⟨t, ht, rfl⟩ := hx h
    rw [hy h]
    rw [named_find h] at ht ⊢
    exact match_of (removed_keeps h).1 (removeL_is h ht) (by simp only [List.length_take, List.length_set, slotsL_len]; omega)
  · rw [hx0 h, hy0 h]; exact match_nil b
theorem turn_match {b nm ys : List UInt8} {to : Int} {xs : List Ent} (hx : turnE b nm to = 0 → xs = (slotsL b).set (findA (slotsL b) nm).toNat ⟨to, nm⟩) (hx0 : turnE b nm to ≠ 0 → xs = [])
    (hy : turnE b nm to = 0 → ys = turnedL b nm to) (hy0 : turnE b nm to ≠ 0 → ys = []) : Match b xs ys := by
  by_cases h : turnE b nm to = 0
  · have hE : namedE b nm = 0 := by
      unfold turnE at h
      split at h
      · assumption
      · exact h
    rw [hx h, hy h, named_find hE]
    exact match_of (turned_keeps h).1 (turnL_is h rfl) (by rw [List.length_set, slotsL_len]; omega)
  · rw [hx0 h, hy0 h]; exact match_nil b
end Dir
end Go.Proofs.Ytlnomkkamopieaa
