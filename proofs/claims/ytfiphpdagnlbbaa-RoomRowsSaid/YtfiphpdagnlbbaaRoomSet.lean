/-
  Rows that rise, as sets of numbers; in plain mathematics.
-/
import Derived.Lib.SlicesCompact
namespace Go.Proofs.Ytfiphpdagnlbbaa
namespace Room

def Inc (l : List Int) : Prop := l.Pairwise (· < ·)
theorem inc_unique {l m : List Int} (hl : Inc l) (hm : Inc m) (h : ∀ x, x ∈ l ↔ x ∈ m) : l = m := by
  induction l generalizing m with
  | nil =>
    cases m with
    | nil => rfl
    | cons y m => exact absurd ((h y).2 (by simp)) (by simp)
  | cons x l ih =>
    cases m with
    | nil => exact absurd ((h x).1 (by simp)) (by simp)
    | cons y m =>
      unfold Inc at hl hm
      rw [List.pairwise_cons] at hl hm
      have hxy : x = y := by
        have h1 := (h x).1 (by simp)
        have h2 := (h y).2 (by simp)
        rcases List.mem_cons.1 h1 with h1 | h1
        · exact h1
        · rcases List.mem_cons.1 h2 with h2 | h2
          · exact h2.symm
          · have a := hl.1 y h2
            have b := hm.1 x h1
            omega
      subst hxy
      congr 1
      refine ih hl.2 hm.2 fun z => ?_
      constructor
      · intro hz
        have h1 := (h z).1 (by simp [hz])
        rcases List.mem_cons.1 h1 with rfl | h1
        · have := hl.1 z hz; omega
        · exact h1
      · intro hz
        have h1 := (h z).2 (by simp [hz])
        rcases List.mem_cons.1 h1 with rfl | h1
        · have := hm.1 z hz; omega
        · exact h1
theorem compact_inc {d : Array Int} (hs : ∀ i j, i < j → j < d.size → d[i]! ≤ d[j]!) (m : Nat) (hm : m ≤ d.size) :
    Inc (Lib.compactUpTo d m) ∧ (∀ x, x ∈ Lib.compactUpTo d m ↔ ∃ j, j < m ∧ d[j]! = x) := by
  induction m with
  | zero => exact ⟨List.Pairwise.nil, fun x => by simp [Lib.compactUpTo]⟩
  | succ m ih =>
    obtain ⟨h1, h2⟩ := ih (by omega)
    rw [Lib.compactUpTo_succ]
    by_cases hk : Lib.keeps d m = true
    · rw [if_pos hk]
      have hlt : ∀ x ∈ Lib.compactUpTo d m, x < d[m]! := fun x hx => by
        obtain ⟨j, hj, rfl⟩ := (h2 x).1 hx
        have hne : d[m]! ≠ d[m - 1]! := by
          unfold Lib.keeps at hk
          have := of_decide_eq_true hk
          rcases this with h | h
          · omega
          · exact h
        have a := hs (m - 1) m (by omega) (by omega)
        by_cases e : j = m - 1
        · subst e; omega
        · have b := hs j (m - 1) (by omega) (by omega)
          omega
      refine ⟨?_, fun x => ?_⟩
      · unfold Inc
        rw [List.pairwise_append]
        exact ⟨h1, by simp, fun a ha b hb => by rw [List.mem_singleton.1 hb]; exact hlt a ha⟩
      · rw [List.mem_append, h2, List.mem_singleton]
        constructor
        · rintro (⟨j, hj, e⟩ | rfl)
          · exact ⟨j, by omega, e⟩
          · exact ⟨m, by omega, rfl⟩
        · rintro ⟨j, hj, e⟩
          by_cases ej : j = m
          · subst ej; exact .inr e.symm
          · exact .inl ⟨j, by omega, e⟩
    · rw [if_neg hk, List.append_nil]
      refine ⟨h1, fun x => ?_⟩
      rw [h2]
      constructor
      · rintro ⟨j, hj, e⟩; exact ⟨j, by omega, e⟩
      · rintro ⟨j, hj, e⟩
        by_cases ej : j = m
        · subst ej
          have hd : j ≠ 0 ∧ d[j]! = d[j - 1]! := by
            unfold Lib.keeps at hk
            simp only [decide_eq_true_eq] at hk
            exact ⟨fun h => hk (.inl h), Classical.byContradiction fun h => hk (.inr h)⟩
          exact ⟨j - 1, by omega, by rw [← hd.2]; exact e⟩
        · exact ⟨j, by omega, e⟩
/-- The row of a list's numbers: rising, each once. -/
def row (l : List Int) : List Int := Lib.compact (l.mergeSort fun x y => decide (x ≤ y))
theorem row_spec (l : List Int) : Inc (row l) ∧ ∀ x, x ∈ row l ↔ x ∈ l := by
  have hp := List.pairwise_mergeSort (le := fun x y : Int => decide (x ≤ y)) (fun a b c h1 h2 => by simp only [decide_eq_true_eq] at *; omega) (fun a b => by simp only [Bool.or_eq_true, decide_eq_true_eq]; omega) l
  have hm : ∀ x, x ∈ l.mergeSort (fun x y => decide (x ≤ y)) ↔ x ∈ l := fun x => List.mem_mergeSort ..
  unfold row
  generalize (l.mergeSort fun x y => decide (x ≤ y)) = s at *
  have h := compact_inc (d := s.toArray) (fun i j hij hj => by
    have hj' : j < s.length := by simpa using hj
    have := List.pairwise_iff_getElem.1 hp i j (by omega) hj' hij
    rw [getElem!_pos _ i (by simp; omega), getElem!_pos _ j hj]
    simpa using this) s.length (by simp)
  refine ⟨h.1, fun x => ?_⟩
  rw [← hm x]
  refine (h.2 x).trans ?_
  constructor
  · rintro ⟨j, hj, rfl⟩
    rw [getElem!_pos _ j (by simpa using hj)]
    simp
  · intro hx
    obtain ⟨j, hj, e⟩ := List.getElem_of_mem hx
    exact ⟨j, hj, by rw [getElem!_pos _ j (by simpa using hj)]; simpa using e⟩
theorem row_unique {l m : List Int} (hm : Inc m) (h : ∀ x, x ∈ m ↔ x ∈ l) : row l = m :=
  inc_unique (row_spec l).1 hm fun x => ((row_spec l).2 x).trans (h x).symm
theorem row_len (l : List Int) : (row l).length ≤ l.length := by
  unfold row Lib.compact Lib.compactUpTo
  rw [List.length_map]
  refine Nat.le_trans (List.length_filter_le ..) ?_
  rw [List.length_range, List.length_mergeSort]
  exact Nat.le_refl _
/-- A number put into a row. -/
def ins (l : List Int) (x : Int) : List Int := if x ∈ l then l else l.takeWhile (· < x) ++ x :: l.dropWhile (· < x)
theorem ins_mem (l : List Int) (x y : Int) : y ∈ ins l x ↔ y = x ∨ y ∈ l := by
  unfold ins
  split
  · rename_i h
    constructor
    · exact .inr
    · rintro (rfl | h2)
      · exact h
      · exact h2
  · have : y ∈ l ↔ y ∈ l.takeWhile (· < x) ∨ y ∈ l.dropWhile (· < x) := by rw [← List.mem_append, List.takeWhile_append_dropWhile]
    rw [this, List.mem_append, List.mem_cons]
    constructor
    · rintro (h | h | h)
      · exact .inr (.inl h)
      · exact .inl h
      · exact .inr (.inr h)
    · rintro (h | h | h)
      · exact .inr (.inl h)
      · exact .inl h
      · exact .inr (.inr h)
theorem ins_inc {l : List Int} (h : Inc l) (x : Int) : Inc (ins l x) := by
  unfold ins
  split
  · exact h
  · rename_i hx
    induction l with
    | nil => exact List.pairwise_singleton _ _
    | cons y t ih =>
      unfold Inc at h
      rw [List.pairwise_cons] at h
      by_cases hy : y < x
      · rw [List.takeWhile_cons_of_pos (by simpa using hy), List.dropWhile_cons_of_pos (by simpa using hy)]
        have hi := ih h.2 (fun hm => hx (List.mem_cons_of_mem _ hm))
        show List.Pairwise _ (y :: _)
        rw [List.pairwise_cons]
        refine ⟨fun z hz => ?_, hi⟩
        rcases List.mem_append.1 hz with hz | hz
        · exact h.1 z ((List.takeWhile_sublist _).subset hz)
        · rcases List.mem_cons.1 hz with rfl | hz
          · exact hy
          · exact h.1 z ((List.dropWhile_sublist _).subset hz)
      · rw [List.takeWhile_cons_of_neg (by simpa using hy), List.dropWhile_cons_of_neg (by simpa using hy)]
        show List.Pairwise _ (x :: y :: t)
        rw [List.pairwise_cons]
        have hxy : x < y := by
          have : x ≠ y := fun e => hx (by rw [e]; simp)
          omega
        refine ⟨fun z hz => ?_, List.pairwise_cons.2 h⟩
        rcases List.mem_cons.1 hz with rfl | hz
        · exact hxy
        · have := h.1 z hz; omega
theorem row_ins (l : List Int) (x : Int) : row (l ++ [x]) = ins (row l) x := by
  refine row_unique (ins_inc (row_spec l).1 x) fun y => ?_
  rw [ins_mem, (row_spec l).2, List.mem_append, List.mem_singleton, or_comm]
theorem row_self {l : List Int} (h : Inc l) : row l = l := row_unique h fun _ => Iff.rfl
end Room
end Go.Proofs.Ytfiphpdagnlbbaa
