/-
  The program's marks: plain mathematics.
-/
import Derived.Test.YtlnjfnpoabcllaaGlbMath
namespace Go.Proofs.Ytlnjfnpoabcllaa
namespace Glb

/-- A mark: 0 a byte, 1 any byte, 2 any many, 3 a set. -/
structure Gm where
  k : Int
  c : UInt8
  neg : Bool
  l : List (UInt8 × UInt8)
  deriving DecidableEq
/-- Whether a byte lies in one of the spans. -/
def inB (l : List (UInt8 × UInt8)) (c : UInt8) : Bool := l.any fun x => decide (x.1 ≤ c) && decide (c ≤ x.2)
def standsB (m : Gm) (c : UInt8) : Bool := if m.k = 0 then m.c == c else if m.k = 3 then (if inB m.l c then !m.neg else m.neg) else true
/-- A set's members, what is read ahead of them being handed in, and what stands behind the set. -/
def mem : List (UInt8 × UInt8) → List UInt8 → Option (List (UInt8 × UInt8) × List UInt8)
  | _, [] => none
  | acc, c :: t => if c = 93 then (if acc = [] then none else some (acc, t)) else
    match t with
    | d :: e :: r => if d = 45 ∧ e ≠ 93 then mem (acc ++ [(c, e)]) r else mem (acc ++ [(c, c)]) (d :: e :: r)
    | t => mem (acc ++ [(c, c)]) t
/-- Whether a range stands here. -/
def isR : List UInt8 → Bool
  | _ :: d :: e :: _ => decide (d = 45 ∧ e ≠ 93)
  | _ => false
theorem mem_nil (acc : List (UInt8 × UInt8)) : mem acc [] = none := by unfold mem; rfl
theorem mem_end (acc : List (UInt8 × UInt8)) (t : List UInt8) : mem acc (93 :: t) = if acc = [] then none else some (acc, t) := by unfold mem; rw [if_pos rfl]
theorem mem_range (acc : List (UInt8 × UInt8)) (c : UInt8) (t : List UInt8) (hc : c ≠ 93) (h : isR (c :: t) = true) : ∃ d e r, t = d :: e :: r ∧ d = 45 ∧ e ≠ 93 ∧ mem acc (c :: t) = mem (acc ++ [(c, e)]) r := by
  match t with
  | [] => cases h
  | [_] => cases h
  | d :: e :: r =>
    have h := of_decide_eq_true h
    refine ⟨d, e, r, rfl, h.1, h.2, ?_⟩
    conv => lhs; unfold mem
    rw [if_neg hc]
    show (if d = 45 ∧ e ≠ 93 then _ else _) = _
    rw [if_pos h]
theorem mem_one (acc : List (UInt8 × UInt8)) (c : UInt8) (t : List UInt8) (hc : c ≠ 93) (h : isR (c :: t) = false) : mem acc (c :: t) = mem (acc ++ [(c, c)]) t := by
  match t with
  | [] => conv => lhs; unfold mem
          rw [if_neg hc]
  | [_] => conv => lhs; unfold mem
           rw [if_neg hc]
  | d :: e :: r =>
    have h := of_decide_eq_false h
    conv => lhs; unfold mem
    rw [if_neg hc]
    show (if d = 45 ∧ e ≠ 93 then _ else _) = _
    rw [if_neg h]
theorem mem_len (s : List UInt8) : ∀ (acc l : List (UInt8 × UInt8)) (r : List UInt8), mem acc s = some (l, r) → r.length < s.length ∧ l.length ≤ acc.length + s.length := by
  have H : ∀ n (s : List UInt8), s.length ≤ n → ∀ (acc l : List (UInt8 × UInt8)) (r : List UInt8), mem acc s = some (l, r) → r.length < s.length ∧ l.length ≤ acc.length + s.length := by
    intro n
    induction n with
    | zero =>
      intro s hs acc l r h
      have : s = [] := List.eq_nil_of_length_eq_zero (by omega)
      subst this
      rw [mem_nil] at h; cases h
    | succ n ih =>
      intro s hs acc l r h
      cases s with
      | nil => rw [mem_nil] at h; cases h
      | cons c t =>
        rw [List.length_cons] at hs ⊢
        by_cases hc : c = 93
        · subst hc
          rw [mem_end] at h
          split at h
          · cases h
          · injection h with h; injection h with h1 h2; subst h1 h2; omega
        · cases hr : isR (c :: t)
          · rw [mem_one acc c t hc hr] at h
            have := ih t (by omega) _ _ _ h
            rw [List.length_append, List.length_singleton] at this
            omega
          · obtain ⟨d, e, q, rfl, _, _, h2⟩ := mem_range acc c t hc hr
            rw [h2] at h
            simp only [List.length_cons] at hs ⊢
            have := ih q (by omega) _ _ _ h
            rw [List.length_append, List.length_singleton] at this
            omega
  exact H s.length s (Nat.le_refl _)
/-- What stands behind a set's !. -/
def behindNot (t : List UInt8) : List UInt8 := if t.head? = some 33 then t.tail else t
def isNot (t : List UInt8) : Bool := decide (t.head? = some 33)
def mksF : Nat → List UInt8 → Option (List Gm)
  | _, [] => some []
  | 0, _ :: _ => none
  | n + 1, c :: t =>
    if c = 63 then (mksF n t).map (⟨1, c, false, []⟩ :: ·) else if c = 42 then (mksF n t).map (⟨2, c, false, []⟩ :: ·) else if c = 91 then
      match mem [] (behindNot t) with
      | none => none
      | some (l, r) => (mksF n r).map (⟨3, c, isNot t, l⟩ :: ·)
    else (mksF n t).map (⟨0, c, false, []⟩ :: ·)
theorem behindNot_len (t : List UInt8) : (behindNot t).length ≤ t.length := by
  unfold behindNot
  split
  · rw [List.length_tail]; omega
  · exact Nat.le_refl _
theorem mksF_fuel : ∀ (n : Nat) (s : List UInt8) (m : Nat), s.length ≤ n → s.length ≤ m → mksF n s = mksF m s := by
  intro n
  induction n with
  | zero =>
    intro s m hn _
    have : s = [] := List.eq_nil_of_length_eq_zero (by omega)
    subst this
    cases m <;> rfl
  | succ n ih =>
    intro s m hn hm
    cases s with
    | nil => cases m <;> rfl
    | cons c t =>
      cases m with
      | zero => simp at hm
      | succ m =>
        rw [List.length_cons] at hn hm
        unfold mksF
        rw [ih t m (by omega) (by omega)]
        split
        · rfl
        · split
          · rfl
          · split
            · cases hmem : mem [] (behindNot t) with
              | none => rfl
              | some p =>
                obtain ⟨l, r⟩ := p
                have := (mem_len _ _ _ _ hmem).1
                have := behindNot_len t
                show (mksF n r).map _ = (mksF m r).map _
                rw [ih r m (by omega) (by omega)]
            · rfl
/-- A part's marks, ahead of the test of its length. -/
def mks (s : List UInt8) : Option (List Gm) := mksF s.length s
theorem mks_nil : mks [] = some [] := rfl
def plainM (c : UInt8) : Gm := ⟨if c = 63 then 1 else if c = 42 then 2 else 0, c, false, []⟩
theorem mks_plain (c : UInt8) (t : List UInt8) (h : c ≠ 91) : mks (c :: t) = (mks t).map (plainM c :: ·) := by
  show mksF (t.length + 1) (c :: t) = (mksF t.length t).map _
  unfold plainM
  rw [mksF]
  split
  · rfl
  · split
    · rfl
    · rfl
theorem mks_set (t : List UInt8) : mks (91 :: t) = match mem [] (behindNot t) with
    | none => none
    | some (l, r) => (mks r).map (⟨3, 91, isNot t, l⟩ :: ·) := by
  show mksF (t.length + 1) (91 :: t) = _
  rw [mksF, if_neg (by decide), if_neg (by decide), if_pos rfl]
  cases hmem : mem [] (behindNot t) with
  | none => rfl
  | some p =>
    obtain ⟨l, r⟩ := p
    have := (mem_len _ _ _ _ hmem).1
    have := behindNot_len t
    show (mksF t.length r).map _ = (mksF r.length r).map _
    rw [mksF_fuel t.length r r.length (by omega) (Nat.le_refl _)]
def marksOf (s : List UInt8) : Option (List Gm) := if s = [] ∨ 64 < s.length then none else mks s
theorem mks_len (s : List UInt8) : ∀ l, mks s = some l → l.length ≤ s.length := by
  have H : ∀ n (s : List UInt8), s.length ≤ n → ∀ l, mks s = some l → l.length ≤ s.length := by
    intro n
    induction n with
    | zero =>
      intro s hs l h
      have : s = [] := List.eq_nil_of_length_eq_zero (by omega)
      subst this
      injection h with h; subst h; simp
    | succ n ih =>
      intro s hs l h
      cases s with
      | nil => injection h with h; subst h; simp
      | cons c t =>
        rw [List.length_cons] at hs ⊢
        by_cases hc : c = 91
        · subst hc
          rw [mks_set] at h
          cases hmem : mem [] (behindNot t) with
          | none => rw [hmem] at h; cases h
          | some p =>
            obtain ⟨x, r⟩ := p
            rw [hmem] at h
            have h1 := (mem_len _ _ _ _ hmem).1
            have h2 := behindNot_len t
            cases hr : mks r with
            | none => simp [hr] at h
            | some q =>
              simp only [hr, Option.map_some] at h
              injection h with h
              subst h
              have := ih r (by omega) q hr
              rw [List.length_cons]; omega
        · rw [mks_plain c t hc] at h
          cases hr : mks t with
          | none => simp [hr] at h
          | some q =>
            rw [hr] at h
            injection h with h
            subst h
            have := ih t (by omega) q hr
            rw [List.length_cons]; omega
  exact H s.length s (Nat.le_refl _)
/-- A mark as what it stands for. -/
def abG (m : Gm) : Ab UInt8 := { many := m.k == 2, st := standsB m }
def matchesB (l : List Gm) (s : List UInt8) : Bool := mt (l.map abG) s
/-- Part: the answer, and the error. -/
def part (s name : List UInt8) : Bool × Int := match marksOf s with
  | none => (false, 31)
  | some l => if s = [42, 42] then (false, 31) else (matchesB l name, 0)
end Glb
end Go.Proofs.Ytlnjfnpoabcllaa
