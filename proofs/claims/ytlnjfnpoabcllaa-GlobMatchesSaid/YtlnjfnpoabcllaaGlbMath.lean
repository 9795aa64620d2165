/-
  Marks and parts that stand for one, or for any many: plain mathematics.
-/
import Derived.Test.YtlnjfnpoabcllaaRows
namespace Go.Proofs.Ytlnjfnpoabcllaa
namespace Glb

/-- A mark: it stands for any row, or for one of some. -/
structure Ab (α : Type) where
  many : Bool
  st : α → Bool
  op : Bool := false
variable {α : Type}
def sufs (f : List α → Bool) : List α → Bool
  | [] => f []
  | c :: t => f (c :: t) || sufs f t
theorem sufs_iff (f : List α → Bool) (s : List α) : sufs f s = true ↔ ∃ u v, s = u ++ v ∧ f v = true := by
  induction s with
  | nil =>
    constructor
    · intro h; exact ⟨[], [], rfl, h⟩
    · rintro ⟨u, v, h, hv⟩
      obtain ⟨rfl, rfl⟩ := List.append_eq_nil_iff.1 h.symm
      exact hv
  | cons c t ih =>
    rw [sufs, Bool.or_eq_true, ih]
    constructor
    · rintro (h | ⟨u, v, rfl, hv⟩)
      · exact ⟨[], _, rfl, h⟩
      · exact ⟨c :: u, v, rfl, hv⟩
    · rintro ⟨u, v, h, hv⟩
      cases u with
      | nil => left; rw [List.nil_append] at h; rw [h]; exact hv
      | cons d u =>
        rw [List.cons_append] at h
        injection h with h1 h2
        exact .inr ⟨u, v, h2, hv⟩
def one (f : Bool) (g : α → Bool) (k : List α → Bool) : List α → Bool := fun s => if f then sufs k s else match s with
  | [] => false
  | c :: t => g c && k t
/-- Marks match a row. -/
def mt : List (Ab α) → List α → Bool
  | [], s => s.isEmpty
  | m :: ms, s => one m.many m.st (mt ms) s
theorem mt_cons (m : Ab α) (ms : List (Ab α)) (s : List α) : mt (m :: ms) s = true ↔ ∃ u v, s = u ++ v ∧ (m.many = true ∨ ∃ c, u = [c] ∧ m.st c = true) ∧ mt ms v = true := by
  show one m.many m.st (mt ms) s = true ↔ _
  unfold one
  cases hm : m.many
  · rw [if_neg (by decide)]
    cases s with
    | nil =>
      constructor
      · intro h; cases h
      · rintro ⟨u, v, h, h2 | ⟨c, rfl, _⟩, _⟩
        · cases h2
        · simp at h
    | cons c t =>
      show (m.st c && mt ms t) = true ↔ _
      rw [Bool.and_eq_true]
      constructor
      · rintro ⟨h1, h2⟩
        exact ⟨[c], t, rfl, .inr ⟨c, rfl, h1⟩, h2⟩
      · rintro ⟨u, v, h, h2 | ⟨d, rfl, h1⟩, h3⟩
        · cases h2
        · injection h with e1 e2
          subst e1
          have e3 : t = v := e2
          subst e3
          exact ⟨h1, h3⟩
  · rw [if_pos rfl, sufs_iff]
    constructor
    · rintro ⟨u, v, h, hv⟩; exact ⟨u, v, h, .inl rfl, hv⟩
    · rintro ⟨u, v, h, _, hv⟩; exact ⟨u, v, h, hv⟩
theorem mt_nil (s : List α) : mt ([] : List (Ab α)) s = true ↔ s = [] := by
  show s.isEmpty = true ↔ _
  exact List.isEmpty_iff
theorem mt_append (a b : List (Ab α)) (s : List α) : mt (a ++ b) s = true ↔ ∃ u v, s = u ++ v ∧ mt a u = true ∧ mt b v = true := by
  induction a generalizing s with
  | nil =>
    rw [List.nil_append]
    constructor
    · intro h; exact ⟨[], s, rfl, rfl, h⟩
    · rintro ⟨u, v, rfl, hu, hv⟩
      rw [(mt_nil u).1 hu, List.nil_append]; exact hv
  | cons m a ih =>
    rw [List.cons_append, mt_cons]
    constructor
    · rintro ⟨u, v, rfl, h1, h2⟩
      obtain ⟨x, y, rfl, hx, hy⟩ := (ih v).1 h2
      exact ⟨u ++ x, y, by rw [List.append_assoc], (mt_cons _ _ _).2 ⟨u, x, rfl, h1, hx⟩, hy⟩
    · rintro ⟨u, v, rfl, h1, h2⟩
      obtain ⟨x, y, rfl, hx, hy⟩ := (mt_cons _ _ _).1 h1
      exact ⟨x, y ++ v, by rw [List.append_assoc], hx, (ih _).2 ⟨y, v, rfl, hy, h2⟩⟩
theorem mt_snoc_many {l : List (Ab α)} {m : Ab α} (hm : m.many = true) (s : List α) : mt (l ++ [m]) s = true ↔ ∃ u v, s = u ++ v ∧ mt l u = true := by
  rw [mt_append]
  constructor
  · rintro ⟨u, v, h, hu, _⟩; exact ⟨u, v, h, hu⟩
  · rintro ⟨u, v, h, hu⟩
    exact ⟨u, v, h, hu, (mt_cons _ _ _).2 ⟨v, [], by simp, .inl hm, rfl⟩⟩
theorem mt_snoc_one {l : List (Ab α)} {m : Ab α} (hm : m.many = false) (s : List α) : mt (l ++ [m]) s = true ↔ ∃ u c, s = u ++ [c] ∧ m.st c = true ∧ mt l u = true := by
  rw [mt_append]
  constructor
  · rintro ⟨u, v, h, hu, hv⟩
    obtain ⟨x, y, rfl, h2 | ⟨c, rfl, hc⟩, hy⟩ := (mt_cons _ _ _).1 hv
    · rw [hm] at h2; cases h2
    · rw [(mt_nil y).1 hy] at h
      exact ⟨u, c, by simpa using h, hc, hu⟩
  · rintro ⟨u, c, h, hc, hu⟩
    exact ⟨u, [c], h, hu, (mt_cons _ _ _).2 ⟨[c], [], rfl, .inr ⟨c, rfl, hc⟩, rfl⟩⟩
theorem mt_snoc_nil {l : List (Ab α)} {m : Ab α} : mt (l ++ [m]) [] = (mt l [] && m.many) := by
  rw [Bool.eq_iff_iff, Bool.and_eq_true]
  cases hm : m.many
  · rw [mt_snoc_one hm]
    constructor
    · rintro ⟨u, c, h, _⟩; simp at h
    · rintro ⟨_, h⟩; cases h
  · rw [mt_snoc_many hm]
    constructor
    · rintro ⟨u, v, h, hu⟩
      obtain ⟨rfl, rfl⟩ := List.append_eq_nil_iff.1 h.symm
      exact ⟨hu, rfl⟩
    · rintro ⟨h, _⟩; exact ⟨[], [], rfl, h⟩
theorem mt_snoc_snoc_many {l : List (Ab α)} {m : Ab α} (hm : m.many = true) (s : List α) (c : α) : mt (l ++ [m]) (s ++ [c]) = (mt l (s ++ [c]) || mt (l ++ [m]) s) := by
  rw [Bool.eq_iff_iff, Bool.or_eq_true, mt_snoc_many hm, mt_snoc_many hm]
  constructor
  · rintro ⟨u, v, h, hu⟩
    rcases List.eq_nil_or_concat v with rfl | ⟨v', d, rfl⟩
    · rw [List.append_nil] at h
      left; rw [h]; exact hu
    · right
      rw [List.concat_eq_append, ← List.append_assoc] at h
      exact ⟨u, v', (List.append_inj' h rfl).1, hu⟩
  · rintro (h | ⟨u, v, rfl, hu⟩)
    · exact ⟨s ++ [c], [], by simp, h⟩
    · exact ⟨u, v ++ [c], by rw [List.append_assoc], hu⟩
theorem mt_snoc_snoc_one {l : List (Ab α)} {m : Ab α} (hm : m.many = false) (s : List α) (c : α) : mt (l ++ [m]) (s ++ [c]) = (mt l s && m.st c) := by
  rw [Bool.eq_iff_iff, Bool.and_eq_true, mt_snoc_one hm]
  constructor
  · rintro ⟨u, d, h, hd, hu⟩
    obtain ⟨h1, h2⟩ := List.append_inj' h rfl
    injection h2 with h2
    subst h1 h2
    exact ⟨hu, hd⟩
  · rintro ⟨h1, h2⟩; exact ⟨s, c, rfl, h2, h1⟩
/-- From the left: as the program looks. -/
theorem mt_many_cons {m : Ab α} (hm : m.many = true) (ms : List (Ab α)) (c : α) (t : List α) : mt (m :: ms) (c :: t) = (mt ms (c :: t) || mt (m :: ms) t) := by
  show one m.many m.st (mt ms) (c :: t) = (_ || one m.many m.st (mt ms) t)
  unfold one
  rw [hm]; rfl
theorem mt_many_nil {m : Ab α} (hm : m.many = true) (ms : List (Ab α)) : mt (m :: ms) [] = mt ms [] := by
  show one m.many m.st (mt ms) [] = _
  unfold one
  rw [hm]; rfl
theorem mt_one_cons {m : Ab α} (hm : m.many = false) (ms : List (Ab α)) (c : α) (t : List α) : mt (m :: ms) (c :: t) = (m.st c && mt ms t) := by
  show one m.many m.st (mt ms) (c :: t) = _
  unfold one
  rw [hm]; rfl
theorem mt_one_nil {m : Ab α} (hm : m.many = false) (ms : List (Ab α)) : mt (m :: ms) [] = false := by
  show one m.many m.st (mt ms) [] = _
  unfold one
  rw [hm]; rfl
/-- Marks that stand for the same match the same. -/
theorem mt_congr {β : Type} (f g : β → Ab α) (l : List β) (h : ∀ x ∈ l, (f x).many = (g x).many ∧ ((f x).many = false → (f x).st = (g x).st)) : mt (l.map f) = mt (l.map g) := by
  induction l with
  | nil => rfl
  | cons x t ih =>
    have h1 := ih fun y hy => h y (List.mem_cons_of_mem _ hy)
    obtain ⟨h2, h3⟩ := h x List.mem_cons_self
    funext s
    show one (f x).many (f x).st (mt (t.map f)) s = one (g x).many (g x).st (mt (t.map g)) s
    rw [h1]
    unfold one
    rw [← h2]
    cases hm : (f x).many
    · rw [h3 hm]
    · rfl
/-! Places in a pattern. -/
variable (ps : List (Ab α))
/-- Whether place i may be come to behind ns: a part that stands for any many is stayed at. -/
def pl (i : Nat) (ns : List α) : Bool := if (ps[i]?.map (·.many)).getD false then mt (ps.take (i + 1)) ns else mt (ps.take i) ns
theorem pl_end (ns : List α) : pl ps ps.length ns = mt ps ns := by
  unfold pl
  rw [List.getElem?_eq_none (Nat.le_refl _), List.take_of_length_le (Nat.le_refl _)]
  rfl
theorem take_snoc {i : Nat} (hi : i < ps.length) : ps.take (i + 1) = ps.take i ++ [ps[i]] := List.take_succ_eq_append_getElem hi
theorem pl_many {i : Nat} (hi : i < ps.length) (hm : ps[i].many = true) (ns : List α) : pl ps i ns = mt (ps.take i ++ [ps[i]]) ns := by
  unfold pl
  rw [List.getElem?_eq_getElem hi, Option.map_some, Option.getD_some, hm, if_pos rfl, take_snoc ps hi]
theorem pl_one {i : Nat} (hi : i < ps.length) (hm : ps[i].many = false) (ns : List α) : pl ps i ns = mt (ps.take i) ns := by
  unfold pl
  rw [List.getElem?_eq_getElem hi, Option.map_some, Option.getD_some, hm, if_neg (by decide)]
theorem pl_out {i : Nat} (hi : ps.length ≤ i) (ns : List α) : pl ps i ns = mt (ps.take i) ns := by
  unfold pl
  rw [List.getElem?_eq_none hi]; rfl
theorem pl_zero_nil : pl ps 0 [] = true := by
  cases ps with
  | nil => rfl
  | cons m t =>
    cases hm : m.many
    · rw [pl_one (m :: t) (i := 0) (Nat.zero_lt_succ _) hm]; rfl
    · rw [pl_many (m :: t) (i := 0) (Nat.zero_lt_succ _) hm]
      show mt [m] [] = true
      exact (mt_cons _ _ _).2 ⟨[], [], rfl, .inl hm, rfl⟩
/-- What a place is, by the one before. -/
theorem pl_take (i : Nat) (hi : i < ps.length) (ns : List α) : (mt (ps.take (i + 1)) ns = true) = (pl ps (i + 1) ns = true ∧ mt (ps.take (i + 1)) ns = true) := by
  apply propext
  constructor
  · intro h
    refine ⟨?_, h⟩
    by_cases hj : i + 1 < ps.length
    · cases hm : ps[i + 1].many
      · rw [pl_one ps hj hm]; exact h
      · rw [pl_many ps hj hm, mt_snoc_many hm]
        exact ⟨ns, [], by simp, h⟩
    · rw [pl_out ps (by omega)]; exact h
  · exact fun h => h.2
theorem pl_succ_nil (i : Nat) (hi : i < ps.length) : pl ps (i + 1) [] = (pl ps i [] && ps[i].many) := by
  have e : mt (ps.take (i + 1)) [] = (mt (ps.take i) [] && ps[i].many) := by rw [take_snoc ps hi, mt_snoc_nil]
  have h0 : pl ps i [] = mt (ps.take i) [] := by
    cases hm : ps[i].many
    · rw [pl_one ps hi hm]
    · rw [pl_many ps hi hm, mt_snoc_nil, hm, Bool.and_true]
  rw [h0, ← e]
  by_cases hj : i + 1 < ps.length
  · cases hm : ps[i + 1].many
    · rw [pl_one ps hj hm]
    · rw [pl_many ps hj hm, mt_snoc_nil, hm, Bool.and_true]
  · rw [pl_out ps (by omega)]
/-- What comes to place i with one name more, ahead of skip. -/
def nx (ns : List α) (s : α) : Nat → Bool
  | 0 => (ps[0]?.map (·.many)).getD false && pl ps 0 ns
  | i + 1 => ((ps[i + 1]?.map (·.many)).getD false && pl ps (i + 1) ns) || (pl ps i ns && !(ps[i]?.map (·.many)).getD true && (ps[i]?.map (·.st s)).getD false)
theorem pl_snoc_zero (ns : List α) (s : α) : pl ps 0 (ns ++ [s]) = nx ps ns s 0 := by
  cases ps with
  | nil =>
    show mt [] (ns ++ [s]) = false
    cases ns <;> rfl
  | cons m t =>
    show pl (m :: t) 0 (ns ++ [s]) = (m.many && pl (m :: t) 0 ns)
    cases hm : m.many
    · rw [pl_one (m :: t) (i := 0) (Nat.zero_lt_succ _) hm]
      show mt [] (ns ++ [s]) = false
      cases ns <;> rfl
    · rw [pl_many (m :: t) (i := 0) (Nat.zero_lt_succ _) hm, pl_many (m :: t) (i := 0) (Nat.zero_lt_succ _) hm]
      show mt ([] ++ [m]) (ns ++ [s]) = (true && mt ([] ++ [m]) ns)
      rw [mt_snoc_snoc_many hm]
      have : mt ([] : List (Ab α)) (ns ++ [s]) = false := by cases ns <;> rfl
      rw [this]; rfl
theorem mt_take_snoc (i : Nat) (hi : i < ps.length) (ns : List α) (s : α) : mt (ps.take (i + 1)) (ns ++ [s]) = ((pl ps i (ns ++ [s]) && ps[i].many) || (pl ps i ns && !ps[i].many && ps[i].st s)) := by
  rw [take_snoc ps hi]
  cases hm : ps[i].many
  · rw [mt_snoc_snoc_one hm, pl_one ps hi hm, pl_one ps hi hm]
    cases mt (ps.take i) (ns ++ [s]) <;> cases mt (ps.take i) ns <;> rfl
  · rw [pl_many ps hi hm, pl_many ps hi hm]
    simp
theorem pl_snoc_succ (i : Nat) (hi : i < ps.length) (ns : List α) (s : α) : pl ps (i + 1) (ns ++ [s]) = (nx ps ns s (i + 1) || (pl ps i (ns ++ [s]) && ps[i].many)) := by
  have e := mt_take_snoc ps i hi ns s
  have en : nx ps ns s (i + 1) = (((ps[i + 1]?.map (·.many)).getD false && pl ps (i + 1) ns) || (pl ps i ns && !ps[i].many && ps[i].st s)) := by
    rw [nx, List.getElem?_eq_getElem hi]; rfl
  by_cases hj : i + 1 < ps.length
  · rw [en, List.getElem?_eq_getElem hj, Option.map_some, Option.getD_some]
    cases hm : ps[i + 1].many
    · rw [pl_one ps hj hm, e]
      cases (pl ps i (ns ++ [s]) && ps[i].many) <;> simp
    · rw [pl_many ps hj hm, mt_snoc_snoc_many hm, e, pl_many ps hj hm]
      cases (pl ps i (ns ++ [s]) && ps[i].many) <;> cases (pl ps i ns && !ps[i].many && ps[i].st s) <;> simp
  · rw [en, List.getElem?_eq_none (by omega), pl_out ps (by omega), e]
    cases (pl ps i (ns ++ [s]) && ps[i].many) <;> simp
/-- All parts from i on stand for some name. -/
def okFrom (op : Ab α → Bool) (i : Nat) : Bool := (ps.drop i).all fun m => m.many || op m
theorem okFrom_end (op : Ab α → Bool) : okFrom ps op ps.length = true := by unfold okFrom; rw [List.drop_length]; rfl
theorem okFrom_step (op : Ab α → Bool) {i : Nat} (hi : i < ps.length) : okFrom ps op i = ((ps[i].many || op ps[i]) && okFrom ps op (i + 1)) := by
  unfold okFrom
  rw [List.drop_eq_getElem_cons hi, List.all_cons]
/-- Names may be the beginning of some that are matched. -/
def may (op : Ab α → Bool) (ns : List α) : Bool := (List.range (ps.length + 1)).any fun i => pl ps i ns && okFrom ps op i
theorem may_iff (op : Ab α → Bool) (ns : List α) : may ps op ns = true ↔ ∃ i, i ≤ ps.length ∧ pl ps i ns = true ∧ okFrom ps op i = true := by
  unfold may
  rw [List.any_eq_true]
  constructor
  · rintro ⟨i, hi, h⟩
    have := List.mem_range.1 hi
    exact ⟨i, by omega, (Bool.and_eq_true _ _ |>.mp h).1, (Bool.and_eq_true _ _ |>.mp h).2⟩
  · rintro ⟨i, hi, h1, h2⟩
    exact ⟨i, List.mem_range.2 (by omega), by rw [h1, h2]; rfl⟩
/-- What matches may begin as it does. -/
theorem mt_begins (op : Ab α → Bool) (hop : ∀ m ∈ ps, ∀ c, m.many = false → m.st c = true → op m = true) (u v : List α) (h : mt ps (u ++ v) = true) : may ps op u = true := by
  have H : ∀ (l : List (Ab α)) (a : List (Ab α)) (x v : List α), (∀ m ∈ l, ∀ c, m.many = false → m.st c = true → op m = true) → mt l (x ++ v) = true → ∃ i, i ≤ l.length ∧ (∃ y, y = x ∧ (mt (l.take i) y = true ∨ ((l[i]?.map (·.many)).getD false = true ∧ mt (l.take (i + 1)) y = true))) ∧ okFrom l op i = true := by
    intro l _
    induction l with
    | nil =>
      intro x v _ h
      have := (mt_nil _).1 h
      obtain ⟨rfl, rfl⟩ := List.append_eq_nil_iff.1 this
      exact ⟨0, Nat.le_refl _, ⟨[], rfl, .inl rfl⟩, rfl⟩
    | cons m t ih =>
      intro x v hop h
      have hop' : ∀ m ∈ t, ∀ c, m.many = false → m.st c = true → op m = true := fun y hy => hop y (List.mem_cons_of_mem _ hy)
      have hall : ∀ (t : List (Ab α)) (s : List α), (∀ m ∈ t, ∀ c, m.many = false → m.st c = true → op m = true) → mt t s = true → okFrom t op 0 = true := by
        intro t
        induction t with
        | nil => intro _ _ _; rfl
        | cons m t iht =>
          intro s hop h
          obtain ⟨p, q, rfl, h1, h2⟩ := (mt_cons _ _ _).1 h
          have h3 := iht q (fun y hy => hop y (List.mem_cons_of_mem _ hy)) h2
          rw [okFrom_step _ _ (by simp)]
          rw [Bool.and_eq_true, Bool.or_eq_true]
          refine ⟨?_, h3⟩
          rcases h1 with h1 | ⟨c, rfl, hc⟩
          · exact .inl h1
          · cases hm : m.many
            · exact .inr (hop m List.mem_cons_self c hm hc)
            · exact .inl hm
      obtain ⟨p, q, hpq, h1, h2⟩ := (mt_cons _ _ _).1 h
      rcases List.append_eq_append_iff.1 hpq with ⟨z, rfl, rfl⟩ | ⟨z, rfl, rfl⟩
      · -- p reaches behind x
        rcases h1 with h1 | ⟨c, hc1, hc2⟩
        · exact ⟨0, Nat.zero_le _, ⟨x, rfl, .inr ⟨h1, (mt_cons _ _ _).2 ⟨x, [], by simp, .inl h1, rfl⟩⟩⟩, hall _ _ hop ((mt_cons _ _ _).2 ⟨z, q, rfl, .inl h1, h2⟩)⟩
        · cases x with
          | nil =>
            rw [List.nil_append] at hc1
            exact ⟨0, Nat.zero_le _, ⟨[], rfl, .inl rfl⟩, hall _ _ hop ((mt_cons _ _ _).2 ⟨z, q, rfl, .inr ⟨c, hc1, hc2⟩, h2⟩)⟩
          | cons d x =>
            rw [List.cons_append] at hc1
            injection hc1 with e1 e2
            obtain ⟨rfl, rfl⟩ := List.append_eq_nil_iff.1 e2
            subst e1
            obtain ⟨i, hi, ⟨y, rfl, hy⟩, hk⟩ := ih [] q hop' h2
            refine ⟨i + 1, by simpa using hi, ⟨_, rfl, ?_⟩, by rw [show okFrom (m :: t) op (i + 1) = okFrom t op i from rfl]; exact hk⟩
            rcases hy with hy | ⟨hy1, hy2⟩
            · exact .inl ((mt_cons _ _ _).2 ⟨[d], [], rfl, .inr ⟨d, rfl, hc2⟩, hy⟩)
            · exact .inr ⟨hy1, (mt_cons _ _ _).2 ⟨[d], [], rfl, .inr ⟨d, rfl, hc2⟩, hy2⟩⟩
      · obtain ⟨i, hi, ⟨y, rfl, hy⟩, hk⟩ := ih z v hop' h2
        refine ⟨i + 1, by simpa using hi, ⟨_, rfl, ?_⟩, by rw [show okFrom (m :: t) op (i + 1) = okFrom t op i from rfl]; exact hk⟩
        rcases hy with hy | ⟨hy1, hy2⟩
        · exact .inl ((mt_cons _ _ _).2 ⟨p, y, rfl, h1, hy⟩)
        · exact .inr ⟨hy1, (mt_cons _ _ _).2 ⟨p, y, rfl, h1, hy2⟩⟩
  obtain ⟨i, hi, ⟨y, rfl, hy⟩, hk⟩ := H ps [] u v hop h
  rw [may_iff]
  refine ⟨i, hi, ?_, hk⟩
  unfold pl
  rcases hy with hy | ⟨hy1, hy2⟩
  · split
    · rename_i hm
      by_cases hl : i < ps.length
      · rw [List.getElem?_eq_getElem hl, Option.map_some, Option.getD_some] at hm
        rw [take_snoc ps hl, mt_snoc_many hm]
        exact ⟨y, [], by simp, hy⟩
      · rw [List.getElem?_eq_none (by omega)] at hm; cases hm
    · exact hy
  · rw [if_pos hy1]; exact hy2
end Glb
end Go.Proofs.Ytlnjfnpoabcllaa
