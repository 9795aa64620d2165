/-
  How many more pages a file takes: plain mathematics.
-/
import Derived.Test.YtfiphpdagnlbbaaRoomFileM
import Derived.Test.YtfiphpdagnlbbaaRoomRefW
namespace Go.Proofs.Ytfiphpdagnlbbaa
namespace Room

/-- The difference, and the error. -/
def moreR (s : Int) (xs : List Int) (f t : Int) : Int × Int :=
  if (file s xs).2 ≠ 0 then (0, (file s xs).2) else if (file s (row (all xs f t))).2 ≠ 0 then (0, (file s (row (all xs f t))).2) else ((file s (row (all xs f t))).1 - (file s xs).1, 0)
theorem nd_le' (L : List (Int × Int)) : nd L ≤ L.length := by
  induction L with
  | nil => exact Nat.le_refl _
  | cons x t ih => unfold nd; split <;> simp <;> omega
theorem kl_le (s : Int) (l : List Int) : (kl s l).length ≤ 2 * l.length := by
  induction l with
  | nil => simp [kl]
  | cons x t ih =>
    have h3 := keys_len s x
    have h4 : kl s (x :: t) = keys s x ++ kl s t := by simp [kl]
    rw [h4, List.length_append, List.length_cons]
    omega
theorem file_b (s : Int) (l : List Int) : 0 ≤ (file s l).1 ∧ (file s l).1 ≤ 3 * (l.length : Int) := by
  unfold file
  have h1 := nd_le' (kl s l)
  have h2 := kl_le s l
  split
  · simp only; omega
  · split
    · unfold fileN; simp only; omega
    · simp only; omega
theorem file_ok' {s : Int} {l : List Int} (h : (file s l).2 = 0) : (file s l).1 = (fileN s l : Nat) ∧ Inc l := by
  unfold file at h ⊢
  split at h
  · exact absurd h (by decide)
  · rename_i hn
    rw [if_neg hn]
    split at h
    · rename_i hk
      rw [if_pos hk]
      exact ⟨rfl, Classical.byContradiction fun h => hn (.inr h)⟩
    · exact absurd h (by decide)
theorem nd_nodup {L : List (Int × Int)} (h : L.Nodup) : nd L = L.length := by
  induction L with
  | nil => rfl
  | cons x t ih =>
    rw [List.nodup_cons] at h
    rw [nd, if_neg h.1, ih h.2]; rfl
theorem inc_pairs {l : List Int} (h : Inc l) : nd (l.map fun x => (x, (0 : Int))) = l.length := by
  rw [nd_nodup, List.length_map]
  rw [List.nodup_iff_pairwise_ne, List.pairwise_map]
  refine List.Pairwise.imp ?_ h
  intro a b hab e
  injection e with e
  omega
theorem inc_len {l m : List Int} (hl : Inc l) (hm : Inc m) (h : ∀ x ∈ l, x ∈ m) : l.length ≤ m.length := by
  rw [← inc_pairs hl, ← inc_pairs hm]
  refine nd_mono fun p hp => ?_
  obtain ⟨x, hx, rfl⟩ := List.mem_map.1 hp
  exact List.mem_map.2 ⟨x, h x hx, rfl⟩
theorem kl_sub' {s : Int} {l m : List Int} (h : ∀ x ∈ l, x ∈ m) : ∀ x ∈ kl s l, x ∈ kl s m := fun x hx => by
  rw [mem_kl] at hx ⊢
  obtain ⟨n, hn, hk⟩ := hx
  exact ⟨n, h n hn, hk⟩
theorem fileN_mono {s : Int} {l m : List Int} (hl : Inc l) (hm : Inc m) (h : ∀ x ∈ l, x ∈ m) : fileN s l ≤ fileN s m := by
  have h1 := inc_len hl hm h
  have h2 := nd_mono (kl_sub' (s := s) h)
  unfold fileN
  omega
theorem more_pos {s : Int} {xs : List Int} {f t : Int} : 0 ≤ (moreR s xs f t).1 := by
  unfold moreR
  by_cases h1 : (file s xs).2 = 0
  · rw [if_neg (by simpa using h1)]
    by_cases h2 : (file s (row (all xs f t))).2 = 0
    · rw [if_neg (by simpa using h2)]
      obtain ⟨a1, a2⟩ := file_ok' h1
      obtain ⟨b1, b2⟩ := file_ok' h2
      have := fileN_mono (s := s) a2 b2 (fun x hx => ((row_spec _).2 x).2 (by unfold all; exact List.mem_append_left _ hx))
      simp only [a1, b1]
      omega
    · rw [if_pos (by simpa using h2)]
      exact Int.le_refl _
  · rw [if_pos (by simpa using h1)]
    exact Int.le_refl _
theorem nd_app (L K : List (Int × Int)) : nd (L ++ K) ≤ nd L + K.length := by
  induction K generalizing L with
  | nil => simp
  | cons x t ih =>
    have h := ih (L ++ [x])
    rw [List.append_assoc, List.singleton_append] at h
    have h2 : nd (L ++ [x]) ≤ nd L + 1 := by rw [nd_snoc]; split <;> omega
    rw [List.length_cons]
    omega
theorem more_one {s : Int} {xs : List Int} {f : Int} (h0 : 0 ≤ f) (h6 : f ≤ 65536) : (moreR s xs f (f + 1)).1 ≤ 4 := by
  unfold moreR
  by_cases h1 : (file s xs).2 = 0
  · rw [if_neg (by simpa using h1)]
    by_cases h2 : (file s (row (all xs f (f + 1)))).2 = 0
    · rw [if_neg (by simpa using h2)]
      obtain ⟨a1, a2⟩ := file_ok' h1
      obtain ⟨b1, b2⟩ := file_ok' h2
      have e : all xs f (f + 1) = xs ++ [f] := by
        unfold all more span
        rw [if_pos ⟨h0, by omega⟩, show (f + 1 - f).toNat = 1 by omega]
        simp [List.range_succ]
      simp only [a1, b1]
      rw [e, row_ins, row_self a2]
      have hin : ∀ y, y ∈ ins xs f ↔ y = f ∨ y ∈ xs := fun y => ins_mem xs f y
      have hlen : (ins xs f).length ≤ xs.length + 1 := by
        unfold ins
        split
        · omega
        · have := congrArg List.length (List.takeWhile_append_dropWhile (p := (· < f)) (l := xs))
          simp only [List.length_append, List.length_cons] at this ⊢
          omega
      have hnd : nd (kl s (ins xs f)) ≤ nd (kl s xs) + 2 := by
        have k1 : nd (kl s (ins xs f)) ≤ nd (kl s xs ++ keys s f) := nd_mono fun p hp => by
          rw [mem_kl] at hp
          obtain ⟨n, hn, hk⟩ := hp
          rcases (hin n).1 hn with rfl | hn
          · exact List.mem_append_right _ hk
          · exact List.mem_append_left _ (mem_kl.2 ⟨n, hn, hk⟩)
        have k2 := nd_app (kl s xs) (keys s f)
        have k3 := keys_len s f
        omega
      unfold fileN
      omega
    · rw [if_pos (by simpa using h2)]
      show (0 : Int) ≤ 4
      decide
  · rw [if_pos (by simpa using h1)]
    show (0 : Int) ≤ 4
    decide
theorem span_mem {f : Int} {k : Nat} {x : Int} (h : x ∈ span f k) : f ≤ x ∧ x < f + k := by
  unfold span at h
  obtain ⟨i, hi, rfl⟩ := List.mem_map.1 h
  have := List.mem_range.1 hi
  omega
theorem all_bd {xs : List Int} {f t : Int} (hb : ∀ x ∈ xs, -9223372036854775808 ≤ x ∧ x ≤ 9223372036854775807) : ∀ x ∈ row (all xs f t), -9223372036854775808 ≤ x ∧ x ≤ 9223372036854775807 := fun x hx => by
  have h := ((row_spec _).2 x).1 hx
  unfold all at h
  rcases List.mem_append.1 h with h | h
  · exact hb x h
  · unfold more at h
    split at h
    · have := span_mem h; omega
    · simp [span] at h
theorem all_len {xs : List Int} {f t : Int} : (row (all xs f t)).length ≤ xs.length + more f t := by
  have h := row_len (all xs f t)
  have h2 : (all xs f t).length = xs.length + more f t := by unfold all span; simp
  omega
end Room
end Go.Proofs.Ytfiphpdagnlbbaa
