/-
  Inodes, in plain mathematics: the eleven numbers, when they are right, their bytes.
-/
import Derived.WalkKit
import Derived.Test.YtjnjemhnceejeaaNumMath
namespace Go.Proofs.Ytjnjemhnceejeaa

structure Nod where
  k : Int
  l : Int
  s : Int
  d0 : Int
  d1 : Int
  d2 : Int
  d3 : Int
  d4 : Int
  d5 : Int
  a : Int
  b : Int
namespace Nod
def cells (i : Nod) : Array Value := #[.int .i64 i.k, .int .i64 i.l, .int .i64 i.s, .int .i64 i.d0, .int .i64 i.d1, .int .i64 i.d2, .int .i64 i.d3, .int .i64 i.d4, .int .i64 i.d5, .int .i64 i.a, .int .i64 i.b]
/-- A pointer. -/
def Pg (p : Int) : Prop := 0 ≤ p ∧ p < 8192
instance (p : Int) : Decidable (Pg p) := by unfold Pg; exact inferInstance
def zero : Nod := ⟨0, 0, 0, 0, 0, 0, 0, 0, 0, 0, 0⟩
def Free (i : Nod) : Prop := i.k = 0 ∧ i.l = 0 ∧ i.s = 0 ∧ i.d0 = 0 ∧ i.d1 = 0 ∧ i.d2 = 0 ∧ i.d3 = 0 ∧ i.d4 = 0 ∧ i.d5 = 0 ∧ i.a = 0 ∧ i.b = 0
instance (i : Nod) : Decidable (Free i) := by unfold Free; exact inferInstance
def Dirs (i : Nod) : Prop := Pg i.d0 ∧ Pg i.d1 ∧ Pg i.d2 ∧ Pg i.d3 ∧ Pg i.d4 ∧ Pg i.d5
instance (i : Nod) : Decidable (Dirs i) := by unfold Dirs; exact inferInstance
def Used (i : Nod) : Prop := (i.k = 1 ∨ i.k = 2) ∧ 0 ≤ i.l ∧ i.l ≤ 1000 ∧ 0 ≤ i.s ∧ i.s ≤ 2147483647 ∧ Dirs i ∧ Pg i.a ∧ Pg i.b
instance (i : Nod) : Decidable (Used i) := by unfold Used; exact inferInstance
def Right (i : Nod) : Prop := if i.k = 0 then Free i else Used i
instance (i : Nod) : Decidable (Right i) := by unfold Right; exact inferInstance
def rightB (i : Nod) : Bool := decide (Right i)
theorem rightB_yes {i : Nod} (h : Right i) : rightB i = true := decide_eq_true h
theorem rightB_no {i : Nod} (h : ¬ Right i) : rightB i = false := decide_eq_false h
theorem right_zero {i : Nod} (h : i.k = 0) : Right i ↔ Free i := by unfold Right; rw [if_pos h]
theorem right_used {i : Nod} (h : i.k ≠ 0) : Right i ↔ Used i := by unfold Right; rw [if_neg h]
/-- The inode's bytes. -/
def bytes (i : Nod) : List UInt8 :=
  [UInt8.ofNat i.k.toNat, 0] ++ bigL i.l.toNat 2 ++ bigL i.s.toNat 4 ++ bigL i.d0.toNat 2 ++ bigL i.d1.toNat 2 ++ bigL i.d2.toNat 2 ++ bigL i.d3.toNat 2 ++ bigL i.d4.toNat 2 ++ bigL i.d5.toNat 2 ++ bigL i.a.toNat 2 ++ bigL i.b.toNat 2
/-- The inode that bytes say, not looked at. -/
def raw (xs : List UInt8) : Nod :=
  ⟨numL (xs.take 1), numL ((xs.drop 2).take 2), numL ((xs.drop 4).take 4), numL ((xs.drop 8).take 2), numL ((xs.drop 10).take 2), numL ((xs.drop 12).take 2), numL ((xs.drop 14).take 2), numL ((xs.drop 16).take 2), numL ((xs.drop 18).take 2), numL ((xs.drop 20).take 2), numL ((xs.drop 22).take 2)⟩
theorem right_bounds {i : Nod} (h : Right i) : (0 ≤ i.k ∧ i.k ≤ 2) ∧ (0 ≤ i.l ∧ i.l ≤ 1000) ∧ (0 ≤ i.s ∧ i.s ≤ 2147483647) ∧ Dirs i ∧ Pg i.a ∧ Pg i.b := by
  by_cases hk : i.k = 0
  · obtain ⟨e0, e1, e2, e3, e4, e5, e6, e7, e8, e9, e10⟩ := (right_zero hk).1 h
    simp only [Dirs, Pg, e0, e1, e2, e3, e4, e5, e6, e7, e8, e9, e10]
    decide
  · obtain ⟨e0, e1, e2, e3, e4, e5, e6, e7⟩ := (right_used hk).1 h
    exact ⟨by omega, ⟨e1, e2⟩, ⟨e3, e4⟩, e5, e6, e7⟩
theorem bytes_len (i : Nod) : (bytes i).length = 24 := by simp [bytes, bigL_len]
/-- What reading bytes gives: the inode and the error. -/
def readN (xs : List UInt8) : Nod := if xs.length = 24 ∧ numL ((xs.drop 1).take 1) = 0 ∧ Right (raw xs) then raw xs else zero
def readE (xs : List UInt8) : Int := if xs.length = 24 then (if numL ((xs.drop 1).take 1) = 0 ∧ Right (raw xs) then 0 else 51) else 1
theorem read_short {xs : List UInt8} (h : xs.length ≠ 24) : readN xs = zero ∧ readE xs = 1 := by
  constructor
  · unfold readN; rw [if_neg (fun k => h k.1)]
  · unfold readE; rw [if_neg h]
theorem read_bad {xs : List UInt8} (h : xs.length = 24) (h2 : ¬ (numL ((xs.drop 1).take 1) = 0 ∧ Right (raw xs))) : readN xs = zero ∧ readE xs = 51 := by
  constructor
  · unfold readN; rw [if_neg (fun k => h2 k.2)]
  · unfold readE; rw [if_pos h, if_neg h2]
theorem read_good {xs : List UInt8} (h : xs.length = 24) (h1 : numL ((xs.drop 1).take 1) = 0) (h2 : Right (raw xs)) : readN xs = raw xs ∧ readE xs = 0 := by
  constructor
  · unfold readN; rw [if_pos ⟨h, h1, h2⟩]
  · unfold readE; rw [if_pos h, if_pos ⟨h1, h2⟩]
end Nod
end Go.Proofs.Ytjnjemhnceejeaa
