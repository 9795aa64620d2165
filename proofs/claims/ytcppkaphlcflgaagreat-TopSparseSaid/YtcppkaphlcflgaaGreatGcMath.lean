import Derived.Test.YtcppkaphlcflgaaGreatMany
namespace Go.Proofs.YtcppkaphlcflgaaGreat
open Go.RowKit

structure Bk where
 st : Nat
 live : Nat
 wear : Nat
 nx : Nat
def bkA (x : Bk) : Array Value := #[.int .i64 (x.st : Int), .int .i64 (x.live : Int), .int .i64 (x.wear : Int), .int .i64 (x.nx : Int)]
def bkV (x : Bk) : Value := .agg #[.int .i64 (x.st : Int), .int .i64 (x.live : Int), .int .i64 (x.wear : Int), .int .i64 (x.nx : Int)]
theorem bkV_eq (x : Bk) : bkV x = .agg #[.int .i64 (x.st : Int), .int .i64 (x.live : Int), .int .i64 (x.wear : Int), .int .i64 (x.nx : Int)] := rfl
attribute [go_sem] bkV_eq
def bkL (x : Bk) : List Value := [.int .i64 (x.st : Int), .int .i64 (x.live : Int), .int .i64 (x.wear : Int), .int .i64 (x.nx : Int)]
theorem bk_len (x : Bk) : (bkL x).length = 4 := rfl
theorem bk_one : ∀ (x : Bk), ∀ u ∈ bkL x, u.oneCell' = true := fun x u hu => by
 simp only [bkL, List.mem_cons, List.not_mem_nil, or_false] at hu
 rcases hu with rfl | rfl | rfl | rfl <;> rfl
namespace Gc
def z : Bk := ⟨0, 0, 0, 0⟩
def at_ (l : List Bk) (k : Nat) : Bk := l.getD k z
structure Ok (pages : Nat) (x : Bk) : Prop where
 st : x.st ≤ 4
 live : x.live ≤ pages
 nx : x.nx ≤ pages
 wear : x.wear ≤ 1099511627776
 empty : x.st = 0 ∨ x.st = 3 ∨ x.st = 4 → x.live = 0
def good (x : Bk) : Bool := (x.st : Int) != 4
def stale (x : Bk) : Bool := (x.st : Int) == 3
def worn (a b : Bk) : Bool := decide (a.wear < b.wear)
def more (a b : Bk) : Bool := decide (b.wear < a.wear)
def emptier (a b : Bk) : Bool := decide (a.live < b.live) || decide (a.live = b.live) && worn a b
def may (least : Nat) (x : Bk) : Bool := good x && decide ((x.wear : Int) - least < 4)
theorem good_iff {x : Bk} : good x = true ↔ x.st ≠ 4 := by unfold good; rw [bne_iff_ne]; omega
theorem stale_iff {x : Bk} : stale x = true ↔ x.st = 3 := by unfold stale; rw [beq_iff_eq]; omega
theorem may_iff {l : Nat} {x : Bk} : may l x = true ↔ x.st ≠ 4 ∧ x.wear < l + 4 := by
 unfold may; rw [Bool.and_eq_true, good_iff, decide_eq_true_eq]; omega
def best (p : Bk → Bool) (lt : Bk → Bk → Bool) (l : List Bk) : Nat → Option Nat
 | 0 => none
 | n + 1 => match best p lt l n with
  | none => if p (at_ l n) then some n else none
  | some a => if p (at_ l n) && lt (at_ l n) (at_ l a) then some n else some a
def oI : Option Nat → Int
 | none => -1
 | some n => n
theorem best_some {p : Bk → Bool} {lt : Bk → Bk → Bool} {l : List Bk} : ∀ {n a : Nat}, best p lt l n = some a → a < n ∧ p (at_ l a) = true := by
 intro n
 induction n with
 | zero => intro a h; cases h
 | succ n ih =>
  intro a h
  unfold best at h
  cases hb : best p lt l n with
  | none =>
   rw [hb] at h
   simp only at h
   split at h
   ·cases h; exact ⟨by omega, by assumption⟩
   ·cases h
  | some b =>
   rw [hb] at h
   simp only at h
   split at h
   ·rename_i hc
    cases h
    rw [Bool.and_eq_true] at hc
    exact ⟨by omega, hc.1⟩
   ·cases h
    obtain ⟨h1, h2⟩ := ih hb
    exact ⟨by omega, h2⟩
theorem best_none {p : Bk → Bool} {lt : Bk → Bk → Bool} {l : List Bk} : ∀ {n : Nat}, best p lt l n = none → ∀ i, i < n → p (at_ l i) = false := by
 intro n
 induction n with
 | zero => intro _ i hi; omega
 | succ n ih =>
  intro h i hi
  unfold best at h
  cases hb : best p lt l n with
  | none =>
   rw [hb] at h
   simp only at h
   split at h
   ·cases h
   ·rename_i hc
    by_cases e : i = n
    ·subst e; simpa using hc
    ·exact ih hb i (by omega)
  | some b =>
   rw [hb] at h
   simp only at h
   split at h <;> cases h
theorem best_best {p : Bk → Bool} {lt : Bk → Bk → Bool} {l : List Bk} (tr : ∀ a b c, lt a b = false → lt b c = false → lt a c = false) (as : ∀ a b, lt a b = true → lt b a = false) (ir : ∀ a, lt a a = false) :
  ∀ {n a : Nat}, best p lt l n = some a → ∀ i, i < n → p (at_ l i) = true → lt (at_ l i) (at_ l a) = false := by
 intro n
 induction n with
 | zero => intro a h; cases h
 | succ n ih =>
  intro a h i hi hp
  unfold best at h
  cases hb : best p lt l n with
  | none =>
   rw [hb] at h
   simp only at h
   split at h
   ·cases h
    by_cases e : i = n
    ·subst e; exact ir _
    ·rw [best_none hb i (by omega)] at hp; cases hp
   ·cases h
  | some b =>
   rw [hb] at h
   simp only at h
   split at h
   ·rename_i hc
    cases h
    rw [Bool.and_eq_true] at hc
    by_cases e : i = n
    ·subst e; exact ir _
    ·exact tr _ _ _ (ih hb i (by omega) hp) (as _ _ hc.2)
   ·rename_i hc
    cases h
    by_cases e : i = n
    ·subst e
     rw [hp, Bool.true_and] at hc
     simpa using hc
    ·exact ih hb i (by omega) hp
def wearOf (l : List Bk) : Option Nat → Nat
 | none => 0
 | some k => (at_ l k).wear
def least (l : List Bk) : Nat := wearOf l (best good worn l l.length)
def greatest (l : List Bk) : Nat := wearOf l (best good more l l.length)
theorem worn_tr (a b c : Bk) (h1 : worn a b = false) (h2 : worn b c = false) : worn a c = false := by
 unfold worn at *; simp only [decide_eq_false_iff_not] at *; omega
theorem worn_as (a b : Bk) (h : worn a b = true) : worn b a = false := by
 unfold worn at *; simp only [decide_eq_false_iff_not, decide_eq_true_eq] at *; omega
theorem worn_ir (a : Bk) : worn a a = false := by simp [worn]
theorem least_le {l : List Bk} {i : Nat} (hi : i < l.length) (hg : good (at_ l i) = true) : least l ≤ (at_ l i).wear := by
 unfold least
 cases h : best good worn l l.length with
 | none => exact Nat.zero_le _
 | some a =>
  have := best_best worn_tr worn_as worn_ir h i hi hg
  unfold worn at this
  simp only [decide_eq_false_iff_not] at this
  show (at_ l a).wear ≤ _
  omega
theorem least_is {l : List Bk} {i : Nat} (hi : i < l.length) (hg : good (at_ l i) = true) : ∃ k, k < l.length ∧ good (at_ l k) = true ∧ least l = (at_ l k).wear := by
 unfold least
 cases h : best good worn l l.length with
 | none => rw [best_none h i hi] at hg; cases hg
 | some a =>
  obtain ⟨h1, h2⟩ := best_some h
  exact ⟨a, h1, h2, rfl⟩
end Gc
end Go.Proofs.YtcppkaphlcflgaaGreat
