/-
  Joined and parsed again; in plain mathematics.
-/
import Derived.Test.YtnfkbndakdkieaaPathJoin
namespace Go.Proofs.Ytnfkbndakdkieaa.Pth

theorem name_parts {x : List UInt8} (h : nameB x = true) : x ≠ [] ∧ ∀ c ∈ x, c ≠ 47 := by
  simp only [nameB, Bool.and_eq_true, Bool.not_eq_true', decide_eq_true_eq] at h
  obtain ⟨⟨⟨⟨h1, _⟩, _⟩, _⟩, h2⟩ := h
  refine ⟨by simpa using h1, fun c hc => ?_⟩
  have := List.all_eq_true.1 h2 c hc
  unfold byteOk at this
  simp only [Bool.and_eq_true, Bool.not_eq_true', beq_eq_false_iff_ne] at this
  exact this.2
theorem partsA_plain (x t cu : List UInt8) (h : ∀ c ∈ x, c ≠ 47) : partsA cu (x ++ t) = partsA (cu ++ x) t := by
  induction x generalizing cu with
  | nil => simp
  | cons c r ih =>
    rw [List.cons_append, partsA, if_neg (h c (by simp)), ih _ (fun d hd => h d (by simp [hd])), List.append_assoc]; rfl
theorem parts_slashed (xs : List (List UInt8)) (cu : List UInt8) (h : ∀ x ∈ xs, nameB x = true) : partsA cu (slashed xs) = opt cu ++ xs := by
  induction xs generalizing cu with
  | nil => simp [slashed, partsA]
  | cons x r ih =>
    obtain ⟨h1, h2⟩ := name_parts (h x (by simp))
    have e : slashed (x :: r) = 47 :: (x ++ slashed r) := by simp [slashed]
    rw [e, partsA, if_pos rfl, partsA_plain x _ _ h2, List.nil_append, ih x (fun y hy => h y (by simp [hy]))]
    unfold opt
    rw [if_neg h1]; rfl
theorem chk_zero (xs : List (List UInt8)) (i : Nat) (hi : i ≤ 16) (h : chk i xs = 0) : (∀ x ∈ xs, nameB x = true) ∧ i + xs.length ≤ 16 := by
  induction xs generalizing i with
  | nil => exact ⟨by simp, by simp; omega⟩
  | cons s t ih =>
    rw [chk] at h
    cases hs : nameB s
    · rw [hs] at h; cases h
    · rw [hs, if_pos rfl] at h
      by_cases h16 : i = 16
      · rw [if_pos h16] at h; cases h
      · rw [if_neg h16] at h
        obtain ⟨h1, h2⟩ := ih (i + 1) (by omega) h
        refine ⟨fun x hx => ?_, by rw [List.length_cons]; omega⟩
        rcases List.mem_cons.1 hx with e | e
        · rw [e]; exact hs
        · exact h1 x e
theorem total_append (a b : List (List UInt8)) : total (a ++ b) = total a + total b := by
  induction a with
  | nil => simp [total]
  | cons x t ih => rw [List.cons_append, total, total, ih]; omega
theorem total_opt (c : List UInt8) : total (opt c) ≤ c.length + 1 := by
  unfold opt; split
  · simp [total]
  · simp [total]; omega
theorem total_partsA (l cu : List UInt8) : total (partsA cu l) ≤ l.length + cu.length + 1 := by
  induction l generalizing cu with
  | nil => have := total_opt cu; rw [partsA]; simp; omega
  | cons c r ih =>
    rw [partsA]
    by_cases h : c = 47
    · rw [if_pos h, total_append]
      have h1 := ih []
      have h2 := total_opt cu
      simp only [List.length_nil, List.length_cons] at *
      omega
    · rw [if_neg h]
      have h1 := ih (cu ++ [c])
      simp only [List.length_append, List.length_cons, List.length_nil] at *
      omega
theorem parse_zero {p : List UInt8} {xs : List (List UInt8)} (h : parse p = (xs, 0)) : p ≠ [] ∧ p.length ≤ 255 ∧ p.head? = some 47 ∧ xs = parts p ∧ (∀ x ∈ xs, nameB x = true) ∧ xs.length ≤ 16 := by
  unfold parse at h
  by_cases h1 : p = [] ∨ 255 < p.length ∨ p.head? ≠ some 47
  · rw [if_pos h1] at h; cases h
  · rw [if_neg h1] at h
    by_cases h2 : chk 0 (parts p) = 0
    · rw [if_pos h2] at h
      obtain ⟨h3, h4⟩ := chk_zero _ 0 (by omega) h2
      have e : parts p = xs := (Prod.mk.inj h).1
      subst e
      refine ⟨fun e => h1 (.inl e), ?_, ?_, rfl, h3, by omega⟩
      · rcases Nat.lt_or_ge 255 p.length with h5 | h5
        · exact absurd (.inr (.inl h5)) h1
        · exact h5
      · by_cases h5 : p.head? = some 47
        · exact h5
        · exact absurd (.inr (.inr h5)) h1
    · rw [if_neg h2] at h
      exact absurd (Prod.mk.inj h).2 h2
theorem joinP_good {xs : List (List UInt8)} (h : ∀ x ∈ xs, nameB x = true) (h2 : xs.length ≤ 16) : joinP xs = (47 :: Lib.join xs [47], 0) := by
  unfold joinP
  rw [if_pos (List.all_eq_true.2 h), if_neg (by omega)]
theorem joinP_zero {xs : List (List UInt8)} {s : List UInt8} (h : joinP xs = (s, 0)) : (∀ x ∈ xs, nameB x = true) ∧ xs.length ≤ 16 ∧ s = 47 :: Lib.join xs [47] := by
  unfold joinP at h
  by_cases h1 : xs.all nameB = true
  · rw [if_pos h1] at h
    by_cases h2 : 16 < xs.length
    · rw [if_pos h2] at h; cases h
    · rw [if_neg h2] at h
      exact ⟨List.all_eq_true.1 h1, by omega, ((Prod.mk.inj h).1).symm⟩
  · rw [if_neg h1] at h; cases h
/-- What is joined is read as the same names. -/
theorem join_parse {xs : List (List UInt8)} {s : List UInt8} (h : joinP xs = (s, 0)) (hl : s.length ≤ 255) : parse s = (xs, 0) := by
  obtain ⟨h1, h2, rfl⟩ := joinP_zero h
  have hp : parts (47 :: Lib.join xs [47]) = xs := by
    by_cases e : xs = []
    · subst e; rfl
    · rw [join_slashed xs e]
      exact parts_slashed xs [] h1
  unfold parse
  rw [hp, chk_whole xs h1 h2, if_neg (by
    rintro (h | h | h)
    · cases h
    · omega
    · exact h rfl), if_pos rfl]
/-- What is read, joined anew, is no longer than it was. -/
theorem parse_join {p : List UInt8} {xs : List (List UInt8)} (h : parse p = (xs, 0)) : ∃ s, joinP xs = (s, 0) ∧ s.length ≤ p.length ∧ parse s = (xs, 0) := by
  obtain ⟨h1, h2, h3, h4, h5, h6⟩ := parse_zero h
  have hj := joinP_good h5 h6
  have hs : (47 :: Lib.join xs [47]).length ≤ p.length := by
    by_cases e : xs = []
    · subst e
      have := List.length_pos_iff.2 h1
      show ((47 : UInt8) :: Lib.join [] [47]).length ≤ _
      rw [Lib.join_nil]
      simp
      omega
    · rw [join_slashed xs e, slashed_len, h4]
      cases p with
      | nil => exact absurd rfl h1
      | cons c r =>
        rw [List.head?_cons] at h3
        have hc : c = 47 := Option.some.inj h3
        subst hc
        have := total_partsA r []
        unfold parts
        rw [partsA, if_pos rfl, show opt [] = [] from rfl, List.nil_append]
        simp only [List.length_nil, List.length_cons] at *
        omega
  exact ⟨_, hj, hs, join_parse hj (by omega)⟩
theorem total_parse (p : List UInt8) : total (parse p).1 ≤ 256 := by
  unfold parse
  split
  · simp [total]
  · rename_i h
    split
    · have := total_partsA p []
      have h2 : p.length ≤ 255 := by omega
      show total (partsA [] p) ≤ 256
      simp only [List.length_nil] at this
      omega
    · simp [total]
theorem joinP_len (xs : List (List UInt8)) : (joinP xs).1.length ≤ total xs + 1 := by
  unfold joinP
  split
  · split
    · simp
    · by_cases e : xs = []
      · subst e; simp [Lib.join_nil]
      · show (47 :: Lib.join xs [47]).length ≤ _
        rw [join_slashed xs e, slashed_len]; omega
  · simp
end Go.Proofs.Ytnfkbndakdkieaa.Pth
