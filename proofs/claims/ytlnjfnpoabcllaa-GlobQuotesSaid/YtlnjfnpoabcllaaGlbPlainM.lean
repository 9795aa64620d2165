/-
  Patterns without marks: plain mathematics.
-/
import Derived.Test.YtlnjfnpoabcllaaGlbNew
namespace Go.Proofs.Ytlnjfnpoabcllaa
namespace Glb

def plainC (c : UInt8) : Prop := c ≠ 63 ∧ c ≠ 42 ∧ c ≠ 91 ∧ c ≠ 47
def plainS (x : List UInt8) : Prop := x ≠ [] ∧ x.length ≤ 64 ∧ ∀ c ∈ x, plainC c
def pathL (l : List (List UInt8)) : List UInt8 := 47 :: l.flatMap fun x => x ++ [47]
theorem pathL_snoc (l : List (List UInt8)) (x : List UInt8) : pathL (l ++ [x]) = pathL l ++ x ++ [47] := by
  unfold pathL
  rw [List.flatMap_append]
  simp
theorem mt_eq {α β : Type} [DecidableEq α] (f : α → β) (g : β → Ab α) (l : List α) (h : ∀ x ∈ l, (g (f x)).many = false ∧ ∀ y, (g (f x)).st y = decide (x = y)) (s : List α) : mt ((l.map f).map g) s = decide (l = s) := by
  induction l generalizing s with
  | nil =>
    rw [Bool.eq_iff_iff, decide_eq_true_iff]
    show mt [] s = true ↔ _
    rw [mt_nil]
    exact ⟨fun h => h.symm, fun h => h.symm⟩
  | cons x t ih =>
    have h1 := ih fun y hy => h y (List.mem_cons_of_mem _ hy)
    obtain ⟨h2, h3⟩ := h x List.mem_cons_self
    rw [List.map_cons, List.map_cons]
    cases s with
    | nil =>
      rw [mt_one_nil h2]
      simp
    | cons c r =>
      rw [mt_one_cons h2, h3, h1, Bool.eq_iff_iff, Bool.and_eq_true, decide_eq_true_iff, decide_eq_true_iff, decide_eq_true_iff]
      constructor
      · rintro ⟨rfl, rfl⟩; rfl
      · intro h; injection h with h1 h2; exact ⟨h1, h2⟩
theorem mks_plains (x : List UInt8) (h : ∀ c ∈ x, plainC c) : mks x = some (x.map plainM) := by
  induction x with
  | nil => rfl
  | cons c t ih =>
    rw [mks_plain c t (h c List.mem_cons_self).2.2.1, ih fun d hd => h d (List.mem_cons_of_mem _ hd)]
    rfl
theorem marksOf_plain {x : List UInt8} (h : plainS x) : marksOf x = some (x.map plainM) := by
  unfold marksOf
  rw [if_neg (by rintro (a | a); exact h.1 a; have := h.2.1; omega), mks_plains x h.2.2]
theorem matches_plain {x : List UInt8} (h : plainS x) (s : List UInt8) : matchesB (x.map plainM) s = decide (x = s) := by
  unfold matchesB
  refine mt_eq plainM abG x (fun c hc => ?_) s
  obtain ⟨h1, h2, _, _⟩ := h.2.2 c hc
  have e : plainM c = ⟨0, c, false, []⟩ := by unfold plainM; rw [if_neg h1, if_neg h2]
  rw [e]
  refine ⟨rfl, fun y => ?_⟩
  show standsB ⟨0, c, false, []⟩ y = _
  unfold standsB
  rw [if_pos rfl]
  rfl
def plainP (x : List UInt8) : Prt := ⟨false, x.map plainM⟩
theorem prts_plain {l : List (List UInt8)} (h : ∀ x ∈ l, plainS x) : prts l = some (l.map plainP) := by
  induction l with
  | nil => rfl
  | cons x t ih =>
    have hx := h x List.mem_cons_self
    have h1 : prt1 x = some (plainP x) := by
      unfold prt1
      rw [if_neg (fun e => by subst e; exact (hx.2.2 42 (by simp)).2.1 rfl), marksOf_plain hx]
      rfl
    unfold prts
    rw [h1, ih fun y hy => h y (List.mem_cons_of_mem _ hy)]
    rfl
theorem mt_plain {l : List (List UInt8)} (h : ∀ x ∈ l, plainS x) (s : List (List UInt8)) : mt ((l.map plainP).map abP) s = decide (l = s) :=
  mt_eq plainP abP l (fun x hx => ⟨rfl, fun y => matches_plain (h x hx) y⟩) s
theorem ahead_cut (x r : List UInt8) (h : ∀ c ∈ x, c ≠ 47) : Pth.ahead (x ++ 47 :: r) = x ∧ Pth.behind (x ++ 47 :: r) = r := by
  induction x with
  | nil => exact ⟨rfl, rfl⟩
  | cons c t ih =>
    obtain ⟨h1, h2⟩ := ih fun d hd => h d (List.mem_cons_of_mem _ hd)
    have hc := h c List.mem_cons_self
    rw [List.cons_append, Pth.ahead_cons _ _ hc, Pth.behind_cons _ _ hc, h1, h2]
    exact ⟨rfl, rfl⟩
theorem parts_pathL {l : List (List UInt8)} (h : ∀ x ∈ l, plainS x) : Pth.parts (pathL l) = l := by
  have H : Pth.parts (l.flatMap fun x => x ++ [47]) = l := by
    induction l with
    | nil => rfl
    | cons x t ih =>
      have hx := h x List.mem_cons_self
      have e : ((x :: t).flatMap fun x => x ++ [47]) = x ++ 47 :: (t.flatMap fun x => x ++ [47]) := by simp
      obtain ⟨h1, h2⟩ := ahead_cut x (t.flatMap fun x => x ++ [47]) (fun c hc => (hx.2.2 c hc).2.2.2)
      rw [e, Pth.parts_step, h1, h2, ih fun y hy => h y (List.mem_cons_of_mem _ hy)]
      unfold Pth.opt
      rw [if_neg hx.1]
      rfl
  unfold pathL
  obtain ⟨h1, h2⟩ := ahead_cut [] (l.flatMap fun x => x ++ [47]) (fun c hc => by cases hc)
  rw [List.nil_append] at h1 h2
  rw [Pth.parts_step, h1, h2, H]
  rfl
theorem new_plain {l : List (List UInt8)} (h : ∀ x ∈ l, plainS x) (hl : l.length ≤ 16) (h5 : (pathL l).length ≤ 255) : new (pathL l) = (some (l.map plainP), 0) :=
  new_some (by unfold pathL; simp) h5 (by unfold pathL; rfl) (by rw [parts_pathL h]; omega) (by rw [parts_pathL h]; exact prts_plain h)
theorem new_long {l : List (List UInt8)} (h5 : 255 < (pathL l).length) : new (pathL l) = (none, 30) := if_pos (.inr (.inl h5))
end Glb
end Go.Proofs.Ytlnjfnpoabcllaa
