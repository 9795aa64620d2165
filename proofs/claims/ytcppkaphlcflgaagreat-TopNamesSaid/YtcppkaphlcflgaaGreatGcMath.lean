import Derived.Test.YtcppkaphlcflgaaGreatNandBlank
namespace Go.Proofs.YtcppkaphlcflgaaGreat
open Lib (hid)
set_option maxRecDepth 100000
set_option maxHeartbeats 16000000
open Go.RowKit

structure Bk where
 st : Nat
 live : Nat
 wear : Nat
 nx : Nat
def bkA (x : Bk) : Array Value := #[.int .i64 (x.st : Int), .int .i64 (x.live : Int), .int .i64 (x.wear : Int), .int .i64 (x.nx : Int)]
def bkV (x : Bk) : Value := .agg #[.int .i64 (x.st : Int), .int .i64 (x.live : Int), .int .i64 (x.wear : Int), .int .i64 (x.nx : Int)]
theorem bkV_eq (x : Bk) : bkV x = .agg #[.int .i64 (x.st : Int), .int .i64 (x.live : Int), .int .i64 (x.wear : Int), .int .i64 (x.nx : Int)] := rfl
attribute [go_sem] bkV_eq
def bkL (x : Bk) : List Value := [.int .i64 (x.st : Int), .int .i64 (x.live : Int), .int .i64 (x.wear : Int), .int .i64 (x.nx : Int)]
theorem bk_len (x : Bk) : (bkL x).length = 4 := rfl
theorem bk_one : ∀ (x : Bk), ∀ u ∈ bkL x, u.oneCell' = true := fun x u hu => by
 simp only [bkL, List.mem_cons, List.not_mem_nil, or_false] at hu
 rcases hu with rfl | rfl | rfl | rfl <;> rfl
namespace Gc
def z : Bk := ⟨0, 0, 0, 0⟩
def at_ (l : List Bk) (k : Nat) : Bk := l.getD k z
structure Ok (pages : Nat) (x : Bk) : Prop where
 st : x.st ≤ 4
 live : x.live ≤ pages
 nx : x.nx ≤ pages
 wear : x.wear ≤ 1099511627776
 empty : x.st = 0 ∨ x.st = 3 ∨ x.st = 4 → x.live = 0
def good (x : Bk) : Bool := (x.st : Int) != 4
def worn (a b : Bk) : Bool := decide (a.wear < b.wear)
def more (a b : Bk) : Bool := decide (b.wear < a.wear)
theorem good_iff {x : Bk} : good x = true ↔ x.st ≠ 4 := by unfold good; rw [bne_iff_ne]; omega
def best (p : Bk → Bool) (lt : Bk → Bk → Bool) (l : List Bk) : Nat → Option Nat
 | 0 => none
 | n + 1 => match best p lt l n with
  | none => if p (at_ l n) then some n else none
  | some a => if p (at_ l n) && lt (at_ l n) (at_ l a) then some n else some a
def oI : Option Nat → Int
 | none => -1
 | some n => n
theorem best_some {p : Bk → Bool} {lt : Bk → Bk → Bool} {l : List Bk} : ∀ {n a : Nat}, best p lt l n = some a → a < n ∧ p (at_ l a) = true := by
 intro n
 induction n with
 | zero => intro a h; cases h
 | succ n ih =>
  intro a h
  unfold best at h
  cases hb : best p lt l n with
  | none =>
   rw [hb] at h
   simp only at h
   split at h
   ·cases h; exact ⟨by omega, by assumption⟩
   ·cases h
  | some b =>
   rw [hb] at h
   simp only at h
   split at h
   ·rename_i hc
    cases h
    rw [Bool.and_eq_true] at hc
    exact ⟨by omega, hc.1⟩
   ·cases h
    obtain ⟨h1, h2⟩ := ih hb
    exact ⟨by omega, h2⟩
theorem best_none {p : Bk → Bool} {lt : Bk → Bk → Bool} {l : List Bk} : ∀ {n : Nat}, best p lt l n = none → ∀ i, i < n → p (at_ l i) = false := by
 intro n
 induction n with
 | zero => intro _ i hi; omega
 | succ n ih =>
  intro h i hi
  unfold best at h
  cases hb : best p lt l n with
  | none =>
   rw [hb] at h
   simp only at h
   split at h
   ·cases h
   ·rename_i hc
    by_cases e : i = n
    ·subst e; simpa using hc
    ·exact ih hb i (by omega)
  | some b =>
   rw [hb] at h
   simp only at h
   split at h <;> cases h
def wearOf (l : List Bk) : Option Nat → Nat
 | none => 0
 | some k => (at_ l k).wear
def least (l : List Bk) : Nat := wearOf l (best good worn l l.length)
def greatest (l : List Bk) : Nat := wearOf l (best good more l l.length)
end Gc
end Go.Proofs.YtcppkaphlcflgaaGreat
