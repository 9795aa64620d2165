/-
  The finder's places and the best copy: plain mathematics.
-/
import Derived.Test.YtpjjfehocibljaaSqzFnd
namespace Go.Proofs.Ytpjjfehocibljaa.Sqz

theorem placesTo_sorted (b : List UInt8) (k : Nat) (x : Key3) : (placesTo b k x).Pairwise (· < ·) := List.Pairwise.filter _ List.pairwise_lt_range
theorem sorted_at {l : List Nat} (h : l.Pairwise (· < ·)) {i j : Nat} (hi : i < l.length) (hj : j < l.length) (hij : i < j) : l[i] < l[j] := List.pairwise_iff_getElem.1 h i j hi hj hij
/-- How far back the first j places from the last one down go. -/
def dist (l : List Nat) (k j : Nat) : Nat := if j = 0 then 0 else k - l.getD (l.length - j) 0
theorem dist_succ {l : List Nat} {k j : Nat} (h : j < l.length) : dist l k (j + 1) = k - l[l.length - 1 - j] := by
  unfold dist
  rw [if_neg (by omega), List.getD_eq_getElem?_getD, List.getElem?_eq_getElem (by omega), Option.getD_some]
  congr 2
  omega
theorem no_between {l : List Nat} {k j y : Nat} (hs : l.Pairwise (· < ·)) (hm : k - y ∈ l) (hj : j ≤ l.length) (h2 : y ≤ k) (h1 : dist l k j < y) (h3 : ∀ (h : j < l.length), y < k - l[l.length - 1 - j]) : False := by
  obtain ⟨t, ht, hte⟩ := List.getElem_of_mem hm
  have htj : t < l.length - j := by
    rcases Nat.lt_or_ge t (l.length - j) with h4 | h4
    · exact h4
    · exfalso
      have h0 : j ≠ 0 := by omega
      unfold dist at h1
      rw [if_neg h0, List.getD_eq_getElem?_getD, List.getElem?_eq_getElem (by omega), Option.getD_some] at h1
      by_cases e : t = l.length - j
      · subst e; omega
      · have := sorted_at hs (i := l.length - j) (j := t) (by omega) ht (by omega)
        omega
  have h5 := h3 (by omega)
  by_cases e : t = l.length - 1 - j
  · subst e; omega
  · have := sorted_at hs (i := t) (j := l.length - 1 - j) ht (by omega) (by omega)
    omega
section
variable {b : List UInt8} {k j : Nat}
theorem between (hk : k + 2 < b.length) (hj : j ≤ (placesTo b k (keyAt b k)).length) {y : Nat} (h1 : dist (placesTo b k (keyAt b k)) k j < y) (h2 : y ≤ k)
    (h3 : ∀ (h : j < (placesTo b k (keyAt b k)).length), y < k - (placesTo b k (keyAt b k))[(placesTo b k (keyAt b k)).length - 1 - j]) : same b (k - y) k < 3 := by
  rcases Nat.lt_or_ge (same b (k - y) k) 3 with h | h
  · exact h
  · exfalso
    have hf := (fits_same hk (p := k - y) (by omega)).2 h
    have hm : k - y ∈ placesTo b k (keyAt b k) := mem_placesTo.2 ⟨by omega, hf⟩
    have hs := placesTo_sorted b k (keyAt b k)
    exact no_between hs hm hj h2 h1 h3
theorem place_lt (i : Nat) (hi : i < (placesTo b k (keyAt b k)).length) : (placesTo b k (keyAt b k))[i] < k ∧ fits b (keyAt b k) ((placesTo b k (keyAt b k))[i]) = true := by
  have := mem_placesTo.1 (List.getElem_mem hi)
  exact this
/-- The round's step. -/
theorem best_round (hk : k + 2 < b.length) (hj : j < (placesTo b k (keyAt b k)).length) {p : Nat} (hp : p = (placesTo b k (keyAt b k))[(placesTo b k (keyAt b k)).length - 1 - j]) :
    bestTo b k (dist (placesTo b k (keyAt b k)) k (j + 1)) = if (bestTo b k (dist (placesTo b k (keyAt b k)) k j)).1 < same b p k then (same b p k, k - p) else bestTo b k (dist (placesTo b k (keyAt b k)) k j) := by
  obtain ⟨h1, h2⟩ := place_lt (b := b) (k := k) ((placesTo b k (keyAt b k)).length - 1 - j) (by omega)
  rw [← hp] at h1 h2
  have h3 := (fits_same hk h1).1 h2
  have hlt : dist (placesTo b k (keyAt b k)) k j < k - p := by
    unfold dist
    split
    · omega
    · rename_i h0
      rw [List.getD_eq_getElem?_getD, List.getElem?_eq_getElem (by omega), Option.getD_some]
      have := sorted_at (placesTo_sorted b k (keyAt b k)) (i := (placesTo b k (keyAt b k)).length - 1 - j) (j := (placesTo b k (keyAt b k)).length - j) (by omega) (by omega) (by omega)
      rw [← hp] at this
      omega
  rw [dist_succ hj, ← hp]
  have hsk : bestTo b k (k - p - 1) = bestTo b k (dist (placesTo b k (keyAt b k)) k j) := bestTo_skip b k (by omega) (fun x h4 h5 => between hk (by omega) h4 (by omega) (fun h => by rw [← hp]; omega))
  have he : k - p = (k - p - 1) + 1 := by omega
  rw [he, bestTo, best1, hsk, show k - (k - p - 1 + 1) = p by omega, ← he]
  by_cases hc : (bestTo b k (dist (placesTo b k (keyAt b k)) k j)).1 < same b p k
  · rw [if_pos hc, if_pos ⟨by omega, hc⟩]
  · rw [if_neg hc, if_neg (fun h => hc h.2)]
theorem best_far (hk : k + 2 < b.length) (hj : j < (placesTo b k (keyAt b k)).length) {p : Nat} (hp : p = (placesTo b k (keyAt b k))[(placesTo b k (keyAt b k)).length - 1 - j]) (hd : dist (placesTo b k (keyAt b k)) k j ≤ 4096) (h4 : 4096 < k - p) :
    bestTo b k (dist (placesTo b k (keyAt b k)) k j) = best b k := by
  unfold best
  rw [Nat.min_eq_left (by omega)]
  exact (bestTo_skip b k hd (fun x h5 h6 => between hk (by omega) h5 (by omega) (fun h => by rw [← hp]; omega))).symm
theorem best_full (hd : dist (placesTo b k (keyAt b k)) k j ≤ 4096) (hn : (bestTo b k (dist (placesTo b k (keyAt b k)) k j)).1 = 130) :
    bestTo b k (dist (placesTo b k (keyAt b k)) k j) = best b k := by
  unfold best
  have : dist (placesTo b k (keyAt b k)) k j ≤ k := by unfold dist; split <;> omega
  exact (bestTo_full b k (by omega) hn).symm
theorem best_end (hk : k + 2 < b.length) (hd : dist (placesTo b k (keyAt b k)) k (placesTo b k (keyAt b k)).length ≤ 4096) :
    bestTo b k (dist (placesTo b k (keyAt b k)) k (placesTo b k (keyAt b k)).length) = best b k := by
  unfold best
  have : dist (placesTo b k (keyAt b k)) k (placesTo b k (keyAt b k)).length ≤ k := by unfold dist; split <;> omega
  exact (bestTo_skip b k (by omega) (fun x h5 h6 => between hk (Nat.le_refl _) h5 (by omega) (fun h => absurd h (by omega)))).symm
end
/-- What a walk down the places of a key wants to know. -/
structure PlacesOk (b : List UInt8) (k : Nat) (l : List Nat) : Prop where
  len : l.length ≤ k
  lt : ∀ j, j < l.length → l.getD (l.length - 1 - j) 0 < k
  dist : ∀ j, j < l.length → dist l k (j + 1) = k - l.getD (l.length - 1 - j) 0
  round : ∀ j, j < l.length → bestTo b k (Sqz.dist l k (j + 1)) = if (bestTo b k (Sqz.dist l k j)).1 < same b (l.getD (l.length - 1 - j) 0) k then (same b (l.getD (l.length - 1 - j) 0) k, k - l.getD (l.length - 1 - j) 0) else bestTo b k (Sqz.dist l k j)
  far : ∀ j, j < l.length → Sqz.dist l k j ≤ 4096 → 4096 < k - l.getD (l.length - 1 - j) 0 → bestTo b k (Sqz.dist l k j) = best b k
  full : ∀ j, Sqz.dist l k j ≤ 4096 → (bestTo b k (Sqz.dist l k j)).1 = 130 → bestTo b k (Sqz.dist l k j) = best b k
  fin : Sqz.dist l k l.length ≤ 4096 → bestTo b k (Sqz.dist l k l.length) = best b k
theorem places_ok {b : List UInt8} {k : Nat} (hk : k + 2 < b.length) : PlacesOk b k (placesTo b k (keyAt b k)) := by
  have hg : ∀ j, j < (placesTo b k (keyAt b k)).length → ∃ h : (placesTo b k (keyAt b k)).length - 1 - j < (placesTo b k (keyAt b k)).length, (placesTo b k (keyAt b k)).getD ((placesTo b k (keyAt b k)).length - 1 - j) 0 = (placesTo b k (keyAt b k))[(placesTo b k (keyAt b k)).length - 1 - j] := fun j hj =>
    ⟨by omega, by rw [List.getD_eq_getElem?_getD, List.getElem?_eq_getElem (by omega), Option.getD_some]⟩
  refine ⟨placesTo_len _ _ _, fun j hj => ?_, fun j hj => ?_, fun j hj => ?_, fun j hj h1 h2 => ?_, fun j => best_full, best_end hk⟩
  · obtain ⟨h, e⟩ := hg j hj
    rw [e]; exact (place_lt _ h).1
  · obtain ⟨h, e⟩ := hg j hj
    rw [e]; exact dist_succ hj
  · obtain ⟨h, e⟩ := hg j hj
    rw [e]; exact best_round hk hj rfl
  · obtain ⟨h, e⟩ := hg j hj
    rw [e] at h2
    exact best_far hk hj rfl h1 h2
end Go.Proofs.Ytpjjfehocibljaa.Sqz
