import Derived.WalkKit
import Derived.Test.YtcppkaphlcflgaaGreatBytes
import Derived.Test.YtcppkaphlcflgaaGreatRows
import Derived.StillTailTactics
import Derived.Test.YtcppkaphlcflgaaGreatInoTake
import Derived.ChangeKeysEq
namespace Go.Proofs.YtcppkaphlcflgaaGreat
open Lib (hid)
set_option maxRecDepth 100000
set_option maxHeartbeats 16000000
section
namespace Ino

def Sized (n : Int) : Prop := n = 64 ∨ n = 128 ∨ n = 256 ∨ n = 512
instance (n : Int) : Decidable (Sized n) := by unfold Sized; exact inferInstance
def pages (s : Int) : Int := 6 + s / 2 + s / 2 * (s / 2)
def most (s : Int) : Int := if Sized s then (if pages s * s > 2147483647 then 2147483647 else pages s * s) else 0
def perPage (s : Int) : Int := if Sized s then s / 24 else 0
def wayE (s n : Int) : Int := if Sized s then (if n < 0 ∨ pages s ≤ n then 52 else 0) else 1
def wayA (s n : Int) : Int := if wayE s n ≠ 0 then 0 else if n < 6 then 0 else if n < 6 + s / 2 then 1 else 2
def wayB (s n : Int) : Int := if wayE s n ≠ 0 then 0 else if n < 6 then n else if n < 6 + s / 2 then n - 6 else (n - 6 - s / 2) / (s / 2)
def wayC (s n : Int) : Int := if wayE s n ≠ 0 then 0 else if n < 6 then 0 else if n < 6 + s / 2 then 0 else (n - 6 - s / 2) % (s / 2)
theorem pages_64 : pages 64 = 1062 := rfl
theorem wayE_ok {s n : Int} (h : wayE s n = 0) : Sized s ∧ 0 ≤ n ∧ n < pages s := by
 unfold wayE at h
 by_cases hs : Sized s
 ·rw [if_pos hs] at h
  by_cases hn : n < 0 ∨ pages s ≤ n
  ·rw [if_pos hn] at h; cases h
  ·exact ⟨hs, by omega, by omega⟩
 ·rw [if_neg hs] at h; cases h
theorem wayE_of {s n : Int} (hs : Sized s) (h0 : 0 ≤ n) (h1 : n < pages s) : wayE s n = 0 := by
 unfold wayE; rw [if_pos hs, if_neg (by omega)]
theorem way_forms {s n : Int} (h : wayE s n = 0) :
  (wayA s n = 0 ∧ wayB s n = n ∧ wayC s n = 0 ∧ n < 6) ∨ (wayA s n = 1 ∧ wayB s n = n - 6 ∧ wayC s n = 0 ∧ 6 ≤ n ∧ n < 6 + s / 2) ∨
  (wayA s n = 2 ∧ wayB s n = (n - 6 - s / 2) / (s / 2) ∧ wayC s n = (n - 6 - s / 2) % (s / 2) ∧ 6 + s / 2 ≤ n) := by
 obtain ⟨hs, h0, h1⟩ := wayE_ok h
 by_cases h6 : n < 6
 ·exact .inl ⟨by simp [wayA, h, h6], by simp [wayB, h, h6], by simp [wayC, h, h6], h6⟩
 by_cases hk : n < 6 + s / 2
 ·exact .inr (.inl ⟨by simp [wayA, h, h6, hk], by simp [wayB, h, h6, hk], by simp [wayC, h, h6, hk], by omega, hk⟩)
 ·exact .inr (.inr ⟨by simp [wayA, h, h6, hk], by simp [wayB, h, h6, hk], by simp [wayC, h, h6, hk], by omega⟩)
theorem half {s : Int} (h : Sized s) : 32 ≤ s / 2 ∧ s / 2 ≤ 256 ∧ 0 ≤ s / 2 * (s / 2) ∧ s / 2 * (s / 2) ≤ 65536 ∧ pages s = 6 + s / 2 + s / 2 * (s / 2) := by
 rcases h with rfl | rfl | rfl | rfl <;> decide
theorem way_bound {s n : Int} (h : wayE s n = 0) : 0 ≤ wayB s n ∧ wayB s n ≤ 70000 ∧ 0 ≤ wayC s n ∧ wayC s n ≤ 70000 := by
 obtain ⟨hs, h0, h1⟩ := wayE_ok h
 have hk := half hs
 rcases way_forms h with c | c | c
 ·omega
 ·omega
 ·obtain ⟨_, b, e, _⟩ := c
  have e1 := Int.ediv_nonneg (a := n - 6 - s / 2) (b := s / 2) (by omega) (by omega)
  have e2 : (n - 6 - s / 2) / (s / 2) ≤ (n - 6 - s / 2) := Int.ediv_le_self _ (by omega)
  have e3 := Int.emod_nonneg (n - 6 - s / 2) (show s / 2 ≠ 0 by omega)
  have e4 := Int.emod_lt_of_pos (n - 6 - s / 2) (show 0 < s / 2 by omega)
  omega
end Ino
end
section
open Go.RowKit

theorem sized_no {n : Int} (h : ¬ Ino.Sized n) : (n == 64) = false ∧ (n == 128) = false ∧ (n == 256) = false ∧ (n == 512) = false := by
 unfold Ino.Sized at h
 refine ⟨?_, ?_, ?_, ?_⟩ <;> rw [beq_eq_false_iff_ne] <;> omega
theorem sized_calls (n : Int) (w : World) :
  Calls Tryz.prog 71 #[.int .i64 n] w fun e w' => e = .returned (.bool (decide (Ino.Sized n))) ∧ w = w' := by
 by_cases h : Ino.Sized n
 ·rw [decide_eq_true h]
  rcases h with rfl | rfl | rfl | rfl
  all_goals
   go_enter Tryz.func71, Tryz.ntmps71
   go_wp2
   go_ret
   exact ⟨rfl, rfl⟩
 ·rw [decide_eq_false h]
  obtain ⟨h1, h2, h3, h4⟩ := sized_no h
  go_enter Tryz.func71, Tryz.ntmps71
  go_wp2
  go_ret
  exact ⟨rfl, rfl⟩
theorem pages_calls (s : Int) (h : Ino.Sized s) (w : World) :
  Calls Tryz.prog 72 #[.int .i64 s] w fun e w' => e = .returned (.int .i64 (Ino.pages s)) ∧ w = w' := by
 rcases h with rfl | rfl | rfl | rfl
 all_goals
  go_enter Tryz.func72, Tryz.ntmps72
  go_wp2
  go_ret
  exact ⟨rfl, rfl⟩
def wayV (s n : Int) : Value := .tuple #[.agg #[.int .i64 (Ino.wayA s n), .int .i64 (Ino.wayB s n), .int .i64 (Ino.wayC s n)], .int .i64 (Ino.wayE s n)]
theorem wayV_arg (s n : Int) (h : ¬ Ino.Sized s) : wayV s n = .tuple #[.agg #[.int .i64 0, .int .i64 0, .int .i64 0], .int .i64 1] := by
 have he : Ino.wayE s n = 1 := by unfold Ino.wayE; rw [if_neg h]
 simp [wayV, Ino.wayA, Ino.wayB, Ino.wayC, he]
theorem wayV_idx (s n : Int) (h : Ino.Sized s) (hn : n < 0 ∨ Ino.pages s ≤ n) : wayV s n = .tuple #[.agg #[.int .i64 0, .int .i64 0, .int .i64 0], .int .i64 52] := by
 have he : Ino.wayE s n = 52 := by unfold Ino.wayE; rw [if_pos h, if_pos hn]
 simp [wayV, Ino.wayA, Ino.wayB, Ino.wayC, he]
theorem wayV_0 (s n : Int) (h : Ino.Sized s) (h0 : 0 ≤ n) (hp : n < Ino.pages s) (h6 : n < 6) : wayV s n = .tuple #[.agg #[.int .i64 0, .int .i64 n, .int .i64 0], .int .i64 0] := by
 have he := Ino.wayE_of h h0 hp
 simp [wayV, Ino.wayA, Ino.wayB, Ino.wayC, he, h6]
theorem wayV_1 (s n : Int) (h : Ino.Sized s) (h0 : 0 ≤ n) (hp : n < Ino.pages s) (h6 : ¬ n < 6) (hk : n < 6 + s / 2) : wayV s n = .tuple #[.agg #[.int .i64 1, .int .i64 (n - 6), .int .i64 0], .int .i64 0] := by
 have he := Ino.wayE_of h h0 hp
 simp [wayV, Ino.wayA, Ino.wayB, Ino.wayC, he, h6, hk]
theorem wayV_2 (s n : Int) (h : Ino.Sized s) (h0 : 0 ≤ n) (hp : n < Ino.pages s) (h6 : ¬ n < 6) (hk : ¬ n < 6 + s / 2) : wayV s n = .tuple #[.agg #[.int .i64 2, .int .i64 ((n - 6 - s / 2) / (s / 2)), .int .i64 ((n - 6 - s / 2) % (s / 2))], .int .i64 0] := by
 have he := Ino.wayE_of h h0 hp
 simp [wayV, Ino.wayA, Ino.wayB, Ino.wayC, he, h6, hk]

theorem to_calls (s n : Int) (w : World) (h1 : -9223372036854775808 ≤ n) (h2 : n ≤ 9223372036854775807) :
  Calls Tryz.prog 43 #[.int .i64 s, .int .i64 n] w fun e w' => e = .returned (wayV s n) ∧ Below w.heap.size w w' := by
 by_cases h : Ino.Sized s
 case neg =>
  have hd : decide (Ino.Sized s) = false := decide_eq_false h
  rw [wayV_arg s n h]
  clear h
  go_enter Tryz.func43, Tryz.ntmps43
  go_wp2_with fail
  refine (sized_calls s _).mono ?_
  rintro e w_ ⟨rfl, rfl⟩
  rw [hd]
  go_wp2
  refine bodyPost_ret (v := .tuple #[.agg #[.int .i64 0, .int .i64 0, .int .i64 0], .int .i64 1]) (by simp [results, Tryz.results43, go_sem]) rfl ⟨rfl, ?_⟩
  exact (Below.refl _ _).alloc (Nat.le_refl _) _
 have hd : decide (Ino.Sized s) = true := decide_eq_true h
 by_cases hn : n < 0
 ·rw [wayV_idx s n h (.inl hn)]
  clear h
  go_enter Tryz.func43, Tryz.ntmps43
  go_wp2_with fail
  refine (sized_calls s _).mono ?_
  rintro e w_ ⟨rfl, rfl⟩
  rw [hd]
  go_wp2
  refine bodyPost_ret (v := .tuple #[.agg #[.int .i64 0, .int .i64 0, .int .i64 0], .int .i64 52]) (by simp [results, Tryz.results43, go_sem]) rfl ⟨rfl, ?_⟩
  exact (Below.refl _ _).alloc (Nat.le_refl _) _
 have hs1 : 64 ≤ s ∧ s ≤ 512 := by unfold Ino.Sized at h; omega
 obtain ⟨hs1, hs2⟩ := hs1
 have hP : Ino.pages s ≤ 65798 := by rcases h with rfl | rfl | rfl | rfl <;> decide
 have H := hid h
 by_cases hp : Ino.pages s ≤ n
 ·rw [wayV_idx s n h (.inr hp)]
  clear h
  go_enter Tryz.func43, Tryz.ntmps43
  go_wp2_with fail
  refine (sized_calls s _).mono ?_
  rintro e w_ ⟨rfl, rfl⟩
  rw [hd]
  go_wp2_with fail
  refine (pages_calls s H.out _).mono ?_
  rintro e w_ ⟨rfl, rfl⟩
  go_wp2
  refine bodyPost_ret (v := .tuple #[.agg #[.int .i64 0, .int .i64 0, .int .i64 0], .int .i64 52]) (by simp [results, Tryz.results43, go_sem]) rfl ⟨rfl, ?_⟩
  exact (Below.refl _ _).alloc (Nat.le_refl _) _
 have hp0 : n < Ino.pages s := by omega
 by_cases h6 : n < 6
 ·rw [wayV_0 s n h (by omega) hp0 h6]
  clear h
  go_enter Tryz.func43, Tryz.ntmps43
  go_wp2_with fail
  refine (sized_calls s _).mono ?_
  rintro e w_ ⟨rfl, rfl⟩
  rw [hd]
  go_wp2_with fail
  refine (pages_calls s H.out _).mono ?_
  rintro e w_ ⟨rfl, rfl⟩
  go_wp2
  refine bodyPost_ret (v := .tuple #[.agg #[.int .i64 0, .int .i64 n, .int .i64 0], .int .i64 0]) (by simp [results, Tryz.results43, go_sem]) rfl ⟨rfl, ?_⟩
  exact (Below.refl _ _).alloc (Nat.le_refl _) _
 have h60 : 6 ≤ n := by omega
 by_cases hk : n < 6 + s / 2
 ·rw [wayV_1 s n h (by omega) hp0 h6 hk]
  clear h
  have hk2 : n - 6 < s / 2 := by omega
  go_enter Tryz.func43, Tryz.ntmps43
  go_wp2_with fail
  refine (sized_calls s _).mono ?_
  rintro e w_ ⟨rfl, rfl⟩
  rw [hd]
  go_wp2_with fail
  refine (pages_calls s H.out _).mono ?_
  rintro e w_ ⟨rfl, rfl⟩
  go_wp2
  refine bodyPost_ret (v := .tuple #[.agg #[.int .i64 1, .int .i64 (n - 6), .int .i64 0], .int .i64 0]) (by simp [results, Tryz.results43, go_sem]) rfl ⟨rfl, ?_⟩
  exact (Below.refl _ _).alloc (Nat.le_refl _) _
 ·rw [wayV_2 s n h (by omega) hp0 h6 hk]
  clear h
  have hk0 : 6 + s / 2 ≤ n := by omega
  have hk2 : s / 2 ≤ n - 6 := by omega
  have hk3 : 1 ≤ s / 2 := by omega
  have hk4 : 0 ≤ n - 6 - s / 2 := by omega
  go_enter Tryz.func43, Tryz.ntmps43
  go_wp2_with fail
  refine (sized_calls s _).mono ?_
  rintro e w_ ⟨rfl, rfl⟩
  rw [hd]
  go_wp2_with fail
  refine (pages_calls s H.out _).mono ?_
  rintro e w_ ⟨rfl, rfl⟩
  go_wp2
  obtain ⟨m, hm⟩ : ∃ m, m = n - 6 - s / 2 := ⟨_, rfl⟩
  obtain ⟨k, hkk⟩ : ∃ k, k = s / 2 := ⟨_, rfl⟩
  have d1 := Int.ediv_nonneg (a := m) (b := k) (by omega) (by omega)
  have d2 : m / k ≤ m := Int.ediv_le_self _ (by omega)
  have d3 := Int.emod_nonneg m (show k ≠ 0 by omega)
  have d4 := Int.emod_lt_of_pos m (show 0 < k by omega)
  have d5 : k * (m / k) + m % k = m := Int.mul_ediv_add_emod m k
  have q2 : m.tdiv k = m / k := Int.tdiv_eq_ediv_of_nonneg (by omega)
  have q3 := IntWalk.i64_in (m / k) ⟨by omega, by omega⟩
  have q0 : (k == 0) = false := by rw [beq_eq_false_iff_ne]; omega
  have q6 : k ≠ 0 := by omega
  have q1 := IntWalk.i64_in (n - 6 - k) ⟨by omega, by omega⟩
  have q4 : m.tmod k = m % k := Int.tmod_eq_emod_of_nonneg (by omega)
  have q7 : n - 6 - k = m := by omega
  rw [q7] at q1
  rw [← hkk]
  have HM := hid hm
  have HKK := hid hkk
  clear hm hkk d5
  go_still_tail 11, (by kernel_rfl)
  clear q2 q3 q4 q7 q0 q6 q1
  change wpList _ _ _ _ _ ((w.alloc (.cells #[.int .i64 0, .int .i64 0, .int .i64 0] 93)).drew)
  go_wp2
  refine bodyPost_ret (v := .tuple #[.agg #[.int .i64 2, .int .i64 (m / k), .int .i64 (m % k)], .int .i64 0]) (by simp [results, Tryz.results43, go_sem]) rfl ⟨by rw [HM.out, HKK.out], ?_⟩
  exact ((Below.refl _ _).alloc (Nat.le_refl _) _).drew
end
section

structure Nod where
 k : Int
 l : Int
 s : Int
 d0 : Int
 d1 : Int
 d2 : Int
 d3 : Int
 d4 : Int
 d5 : Int
 a : Int
 b : Int
namespace Nod
def Pg (p : Int) : Prop := 0 ≤ p ∧ p < 8192
instance (p : Int) : Decidable (Pg p) := by unfold Pg; exact inferInstance
def zero : Nod := ⟨0, 0, 0, 0, 0, 0, 0, 0, 0, 0, 0⟩
def Free (i : Nod) : Prop := i.k = 0 ∧ i.l = 0 ∧ i.s = 0 ∧ i.d0 = 0 ∧ i.d1 = 0 ∧ i.d2 = 0 ∧ i.d3 = 0 ∧ i.d4 = 0 ∧ i.d5 = 0 ∧ i.a = 0 ∧ i.b = 0
instance (i : Nod) : Decidable (Free i) := by unfold Free; exact inferInstance
def Dirs (i : Nod) : Prop := Pg i.d0 ∧ Pg i.d1 ∧ Pg i.d2 ∧ Pg i.d3 ∧ Pg i.d4 ∧ Pg i.d5
instance (i : Nod) : Decidable (Dirs i) := by unfold Dirs; exact inferInstance
def Used (i : Nod) : Prop := (i.k = 1 ∨ i.k = 2) ∧ 0 ≤ i.l ∧ i.l ≤ 1000 ∧ 0 ≤ i.s ∧ i.s ≤ 2147483647 ∧ Dirs i ∧ Pg i.a ∧ Pg i.b
instance (i : Nod) : Decidable (Used i) := by unfold Used; exact inferInstance
def Right (i : Nod) : Prop := if i.k = 0 then Free i else Used i
instance (i : Nod) : Decidable (Right i) := by unfold Right; exact inferInstance
def rightB (i : Nod) : Bool := decide (Right i)
theorem rightB_yes {i : Nod} (h : Right i) : rightB i = true := decide_eq_true h
theorem rightB_no {i : Nod} (h : ¬ Right i) : rightB i = false := decide_eq_false h
theorem right_zero {i : Nod} (h : i.k = 0) : Right i ↔ Free i := by unfold Right; rw [if_pos h]
theorem right_used {i : Nod} (h : i.k ≠ 0) : Right i ↔ Used i := by unfold Right; rw [if_neg h]
def bytes (i : Nod) : List UInt8 :=
 [UInt8.ofNat i.k.toNat, 0] ++ bigL i.l.toNat 2 ++ bigL i.s.toNat 4 ++ bigL i.d0.toNat 2 ++ bigL i.d1.toNat 2 ++ bigL i.d2.toNat 2 ++ bigL i.d3.toNat 2 ++ bigL i.d4.toNat 2 ++ bigL i.d5.toNat 2 ++ bigL i.a.toNat 2 ++ bigL i.b.toNat 2
def raw (xs : List UInt8) : Nod :=
 ⟨numL (xs.take 1), numL ((xs.drop 2).take 2), numL ((xs.drop 4).take 4), numL ((xs.drop 8).take 2), numL ((xs.drop 10).take 2), numL ((xs.drop 12).take 2), numL ((xs.drop 14).take 2), numL ((xs.drop 16).take 2), numL ((xs.drop 18).take 2), numL ((xs.drop 20).take 2), numL ((xs.drop 22).take 2)⟩
theorem right_bounds {i : Nod} (h : Right i) : (0 ≤ i.k ∧ i.k ≤ 2) ∧ (0 ≤ i.l ∧ i.l ≤ 1000) ∧ (0 ≤ i.s ∧ i.s ≤ 2147483647) ∧ Dirs i ∧ Pg i.a ∧ Pg i.b := by
 by_cases hk : i.k = 0
 ·obtain ⟨e0, e1, e2, e3, e4, e5, e6, e7, e8, e9, e10⟩ := (right_zero hk).1 h
  simp only [Dirs, Pg, e0, e1, e2, e3, e4, e5, e6, e7, e8, e9, e10]
  decide
 ·obtain ⟨e0, e1, e2, e3, e4, e5, e6, e7⟩ := (right_used hk).1 h
  exact ⟨by omega, ⟨e1, e2⟩, ⟨e3, e4⟩, e5, e6, e7⟩
theorem bytes_len (i : Nod) : (bytes i).length = 24 := by simp [bytes, bigL_len]
def readN (xs : List UInt8) : Nod := if xs.length = 24 ∧ numL ((xs.drop 1).take 1) = 0 ∧ Right (raw xs) then raw xs else zero
def readE (xs : List UInt8) : Int := if xs.length = 24 then (if numL ((xs.drop 1).take 1) = 0 ∧ Right (raw xs) then 0 else 51) else 1
theorem read_short {xs : List UInt8} (h : xs.length ≠ 24) : readN xs = zero ∧ readE xs = 1 := by
 constructor
 ·unfold readN; rw [if_neg (fun k => h k.1)]
 ·unfold readE; rw [if_neg h]
theorem read_bad {xs : List UInt8} (h : xs.length = 24) (h2 : ¬ (numL ((xs.drop 1).take 1) = 0 ∧ Right (raw xs))) : readN xs = zero ∧ readE xs = 51 := by
 constructor
 ·unfold readN; rw [if_neg (fun k => h2 k.2)]
 ·unfold readE; rw [if_pos h, if_neg h2]
theorem read_good {xs : List UInt8} (h : xs.length = 24) (h1 : numL ((xs.drop 1).take 1) = 0) (h2 : Right (raw xs)) : readN xs = raw xs ∧ readE xs = 0 := by
 constructor
 ·unfold readN; rw [if_pos ⟨h, h1, h2⟩]
 ·unfold readE; rw [if_pos h, if_pos ⟨h1, h2⟩]
end Nod
end
section
namespace Pt

def Has (n : Nat) (k : Int) : Prop := Ino.Sized n ∧ 0 ≤ k ∧ k < n / 2
instance (n : Nat) (k : Int) : Decidable (Has n k) := by unfold Has; exact inferInstance
def two (xs : List UInt8) (j : Nat) : Nat := numL ((xs.drop (2 * j)).take 2)
def ptrE (xs : List UInt8) (k : Int) : Int := if Has xs.length k then (if two xs k.toNat < 8192 then 0 else 52) else 1
def ptrV (xs : List UInt8) (k : Int) : Int := if Has xs.length k then (if two xs k.toNat < 8192 then (two xs k.toNat : Nat) else 0) else 0
def put (xs : List UInt8) (j tt : Nat) : List UInt8 := xs.take (2 * j) ++ bigL tt 2 ++ xs.drop (2 * j + 2)
def pointE (xs : List UInt8) (k tt : Int) : Int := if Has xs.length k ∧ Nod.Pg tt then 0 else 1
def pointL (xs : List UInt8) (k tt : Int) : List UInt8 := if Has xs.length k ∧ Nod.Pg tt then put xs k.toNat tt.toNat else []
theorem ptr_no {xs : List UInt8} {k : Int} (h : ¬ Has xs.length k) : ptrV xs k = 0 ∧ ptrE xs k = 1 := by unfold ptrV ptrE; rw [if_neg h, if_neg h]; exact ⟨rfl, rfl⟩
theorem ptr_yes {xs : List UInt8} {k : Int} (h : Has xs.length k) (h2 : two xs k.toNat < 8192) : ptrV xs k = (two xs k.toNat : Nat) ∧ ptrE xs k = 0 := by
 unfold ptrV ptrE; rw [if_pos h, if_pos h, if_pos h2, if_pos h2]; exact ⟨rfl, rfl⟩
theorem ptr_big {xs : List UInt8} {k : Int} (h : Has xs.length k) (h2 : ¬ two xs k.toNat < 8192) : ptrV xs k = 0 ∧ ptrE xs k = 52 := by
 unfold ptrV ptrE; rw [if_pos h, if_pos h, if_neg h2, if_neg h2]; exact ⟨rfl, rfl⟩
theorem two_eq {xs : List UInt8} {j : Nat} (h : 2 * j + 1 < xs.length) : two xs j = (xs[2 * j]).toNat + 256 * (xs[2 * j + 1]).toNat := by
 unfold two
 rw [List.drop_eq_getElem_cons (show 2 * j < xs.length by omega), List.take_succ_cons, List.drop_eq_getElem_cons h, List.take_succ_cons, List.take_zero]
 simp only [numL]; omega
theorem put_len {xs : List UInt8} {j tt : Nat} (h : 2 * j + 1 < xs.length) : (put xs j tt).length = xs.length := by
 simp only [put, List.length_append, List.length_take, List.length_drop, bigL_len]; omega
theorem put_sets {xs : List UInt8} {j tt : Nat} (h : 2 * j + 1 < xs.length) : (xs.set (2 * j) (UInt8.ofNat tt)).set (2 * j + 1) (UInt8.ofNat (tt / 256)) = put xs j tt := by
 have hb : bigL tt 2 = [UInt8.ofNat tt, UInt8.ofNat (tt / 256)] := by
  show [UInt8.ofNat (tt / 256 ^ 0), UInt8.ofNat (tt / 256 ^ 1)] = _
  rw [Nat.pow_zero, Nat.pow_one, Nat.div_one]
 apply List.ext_getElem?
 intro i
 unfold put
 rw [hb]
 by_cases h1 : i < 2 * j
 ·rw [List.getElem?_set_ne (by omega), List.getElem?_set_ne (by omega), List.append_assoc, List.getElem?_append_left (by rw [List.length_take]; omega), List.getElem?_take, if_pos h1]
 ·by_cases h2 : i = 2 * j
  ·subst h2
   rw [List.getElem?_set_ne (by omega), List.getElem?_set_self (by omega), List.append_assoc, List.getElem?_append_right (by rw [List.length_take]; omega), List.length_take, show 2 * j - min (2 * j) xs.length = 0 by omega]
   rfl
  ·by_cases h3 : i = 2 * j + 1
   ·subst h3
    rw [List.getElem?_set_self (by rw [List.length_set]; omega), List.append_assoc, List.getElem?_append_right (by rw [List.length_take]; omega), List.length_take, show 2 * j + 1 - min (2 * j) xs.length = 1 by omega]
    rfl
   ·rw [List.getElem?_set_ne (by omega), List.getElem?_set_ne (by omega), List.getElem?_append_right (by simp only [List.length_append, List.length_take, List.length_cons, List.length_nil]; omega)]
    simp only [List.length_append, List.length_take, List.length_cons, List.length_nil]
    rw [List.getElem?_drop, show 2 * j + 2 + (i - (min (2 * j) xs.length + (0 + 1 + 1))) = i by omega]
theorem two_put {xs : List UInt8} {j tt : Nat} (h : 2 * j + 1 < xs.length) (ht : tt < 65536) : two (put xs j tt) j = tt := by
 have h2 : tt < 256 ^ 2 := by
  have e : (256 : Nat) ^ 2 = 65536 := by decide
  omega
 unfold two put
 rw [List.append_assoc, List.drop_append, List.drop_of_length_le (by rw [List.length_take]; omega), List.nil_append, List.length_take, show 2 * j - min (2 * j) xs.length = 0 by omega, List.drop_zero,
  List.take_append_of_le_length (by rw [bigL_len]; omega), List.take_of_length_le (by rw [bigL_len]; omega), numL_big_lt h2]
theorem put_get {xs : List UInt8} {j tt i : Nat} (h : 2 * j + 1 < xs.length) (h1 : i ≠ 2 * j) (h2 : i ≠ 2 * j + 1) : (put xs j tt)[i]? = xs[i]? := by
 rw [← put_sets h, List.getElem?_set_ne (by omega), List.getElem?_set_ne (by omega)]
theorem two_other {xs : List UInt8} {j i tt : Nat} (h : 2 * j + 1 < xs.length) (hi : 2 * i + 1 < xs.length) (hne : i ≠ j) : two (put xs j tt) i = two xs i := by
 have hl := put_len (tt := tt) h
 rw [two_eq (by omega), two_eq hi]
 have e1 := put_get (tt := tt) (i := 2 * i) h (by omega) (by omega)
 have e2 := put_get (tt := tt) (i := 2 * i + 1) h (by omega) (by omega)
 rw [List.getElem?_eq_getElem (by omega), List.getElem?_eq_getElem (by omega)] at e1
 rw [List.getElem?_eq_getElem (by omega), List.getElem?_eq_getElem hi] at e2
 rw [Option.some.inj e1, Option.some.inj e2]
theorem has_bound {n : Nat} {k : Int} (h : Has n k) : 2 * k.toNat + 1 < n ∧ n ≤ 512 ∧ (k.toNat : Int) = k ∧ k.toNat < n / 2 := by
 obtain ⟨h1, h2, h3⟩ := h
 unfold Ino.Sized at h1
 omega
theorem pointed {xs : List UInt8} {k tt : Int} (h : Has xs.length k ∧ Nod.Pg tt) : pointL xs k tt = put xs k.toNat tt.toNat ∧ pointE xs k tt = 0 := by
 unfold pointL pointE; rw [if_pos h, if_pos h]; exact ⟨rfl, rfl⟩
theorem pointed_no {xs : List UInt8} {k tt : Int} (h : ¬ (Has xs.length k ∧ Nod.Pg tt)) : pointL xs k tt = [] ∧ pointE xs k tt = 1 := by
 unfold pointL pointE; rw [if_neg h, if_neg h]; exact ⟨rfl, rfl⟩
end Pt
end
section
namespace Pt
def ptsTo (xs : List UInt8) : Nat → List (Nat × Nat)
 | 0 => []
 | k + 1 => if two xs k = 0 then ptsTo xs k else ptsTo xs k ++ [(k, two xs k)]
def pts (xs : List UInt8) : List (Nat × Nat) := if Ino.Sized xs.length then ptsTo xs (xs.length / 2) else []
theorem ptsTo_pre {xs : List UInt8} {k m : Nat} (h : k ≤ m) : ptsTo xs k <+: ptsTo xs m := by
 induction m with
 | zero =>
  obtain rfl : k = 0 := by omega
  exact List.prefix_refl _
 | succ m ih =>
  rcases Nat.lt_or_ge k (m + 1) with h2 | h2
  ·refine (ih (by omega)).trans ?_
   rw [ptsTo]
   split
   ·exact List.prefix_refl _
   ·exact List.prefix_append _ _
  ·obtain rfl : k = m + 1 := by omega
   exact List.prefix_refl _
theorem mem_ptsTo {xs : List UInt8} {k : Nat} {x : Nat × Nat} : x ∈ ptsTo xs k ↔ x.1 < k ∧ two xs x.1 ≠ 0 ∧ x.2 = two xs x.1 := by
 induction k with
 | zero => simp [ptsTo]
 | succ k ih =>
  rw [ptsTo]
  split
  ·rename_i h
   rw [ih]
   constructor
   ·rintro ⟨h1, h2, h3⟩; exact ⟨by omega, h2, h3⟩
   ·rintro ⟨h1, h2, h3⟩
    by_cases e : x.1 = k
    ·rw [e] at h2; exact absurd h h2
    ·exact ⟨by omega, h2, h3⟩
  ·rename_i h
   rw [List.mem_append, ih, List.mem_singleton]
   constructor
   ·rintro (⟨h1, h2, h3⟩ | h1)
    ·exact ⟨by omega, h2, h3⟩
    ·subst h1; exact ⟨by simp, h, rfl⟩
   ·rintro ⟨h1, h2, h3⟩
    by_cases e : x.1 = k
    ·refine .inr ?_
     obtain ⟨p, q⟩ := x
     simp only at e h3
     subst e
     rw [h3]
    ·exact .inl ⟨by omega, h2, h3⟩
end Pt
end
section
open Go.RowKit

theorem most_calls (s : Int) (w : World) :
  Calls Tryz.prog 29 #[.int .i64 s] w fun e w' => e = .returned (.int .i64 (Ino.most s)) ∧ w = w' := by
 by_cases h : Ino.Sized s
 ·have hd : decide (Ino.Sized s) = true := decide_eq_true h
  have HS := hid h
  rcases h with rfl | rfl | rfl | rfl
  ·
   go_enter Tryz.func29, Tryz.ntmps29
   go_wp2_with fail
   refine (sized_calls _ _).mono ?_
   rintro e w_ ⟨rfl, rfl⟩
   rw [hd]
   go_wp2_with fail
   refine (pages_calls _ HS.out _).mono ?_
   rintro e w_ ⟨rfl, rfl⟩
   rw [show Ino.pages 64 = 1062 from rfl]
   go_wp2
   go_ret
   exact ⟨rfl, rfl⟩
  ·
   go_enter Tryz.func29, Tryz.ntmps29
   go_wp2_with fail
   refine (sized_calls _ _).mono ?_
   rintro e w_ ⟨rfl, rfl⟩
   rw [hd]
   go_wp2_with fail
   refine (pages_calls _ HS.out _).mono ?_
   rintro e w_ ⟨rfl, rfl⟩
   rw [show Ino.pages 128 = 4166 from rfl]
   go_wp2
   go_ret
   exact ⟨rfl, rfl⟩
  ·
   go_enter Tryz.func29, Tryz.ntmps29
   go_wp2_with fail
   refine (sized_calls _ _).mono ?_
   rintro e w_ ⟨rfl, rfl⟩
   rw [hd]
   go_wp2_with fail
   refine (pages_calls _ HS.out _).mono ?_
   rintro e w_ ⟨rfl, rfl⟩
   rw [show Ino.pages 256 = 16518 from rfl]
   go_wp2
   go_ret
   exact ⟨rfl, rfl⟩
  ·
   go_enter Tryz.func29, Tryz.ntmps29
   go_wp2_with fail
   refine (sized_calls _ _).mono ?_
   rintro e w_ ⟨rfl, rfl⟩
   rw [hd]
   go_wp2_with fail
   refine (pages_calls _ HS.out _).mono ?_
   rintro e w_ ⟨rfl, rfl⟩
   rw [show Ino.pages 512 = 65798 from rfl]
   go_wp2
   go_ret
   exact ⟨rfl, rfl⟩
 ·have hd : decide (Ino.Sized s) = false := decide_eq_false h
  have hv : Ino.most s = 0 := by unfold Ino.most; rw [if_neg h]
  rw [hv]
  clear hv h
  go_enter Tryz.func29, Tryz.ntmps29
  go_wp2_with fail
  refine (sized_calls _ _).mono ?_
  rintro e w_ ⟨rfl, rfl⟩
  rw [hd]
  go_wp2
  go_ret
  exact ⟨rfl, rfl⟩
theorem perPage_calls (s : Int) (w : World) :
  Calls Tryz.prog 41 #[.int .i64 s] w fun e w' => e = .returned (.int .i64 (Ino.perPage s)) ∧ w = w' := by
 by_cases h : Ino.Sized s
 ·have hd : decide (Ino.Sized s) = true := decide_eq_true h
  rcases h with rfl | rfl | rfl | rfl
  all_goals
   go_enter Tryz.func41, Tryz.ntmps41
   go_wp2_with fail
   refine (sized_calls _ _).mono ?_
   rintro e w_ ⟨rfl, rfl⟩
   rw [hd]
   go_wp2
   go_ret
   exact ⟨rfl, rfl⟩
 ·have hd : decide (Ino.Sized s) = false := decide_eq_false h
  have hv : Ino.perPage s = 0 := by unfold Ino.perPage; rw [if_neg h]
  rw [hv]
  clear hv h
  go_enter Tryz.func41, Tryz.ntmps41
  go_wp2_with fail
  refine (sized_calls _ _).mono ?_
  rintro e w_ ⟨rfl, rfl⟩
  rw [hd]
  go_wp2
  go_ret
  exact ⟨rfl, rfl⟩
theorem page_calls (p : Int) (w : World) :
  Calls Tryz.prog 159 #[.int .i64 p] w fun e w' => e = .returned (.bool (decide (0 ≤ p ∧ p < 8192))) ∧ w = w' := by
 by_cases h0 : 0 ≤ p
 ·by_cases h1 : p < 8192
  ·rw [decide_eq_true ⟨h0, h1⟩]
   go_enter Tryz.func159, Tryz.ntmps159
   go_wp2
   go_ret
   exact ⟨rfl, rfl⟩
  ·rw [decide_eq_false (fun h => h1 h.2)]
   go_enter Tryz.func159, Tryz.ntmps159
   go_wp2
   go_ret
   exact ⟨rfl, rfl⟩
 ·rw [decide_eq_false (fun h => h0 h.1)]
  go_enter Tryz.func159, Tryz.ntmps159
  go_wp2
  go_ret
  exact ⟨rfl, rfl⟩
end
section
open Go.RowKit

theorem page_yes (p : Int) (h : Nod.Pg p) (w : World) : Calls Tryz.prog 159 #[.int .i64 p] w fun e w' => e = .returned (.bool true) ∧ w = w' := by
 refine (page_calls p w).mono ?_
 rw [decide_eq_true (show 0 ≤ p ∧ p < 8192 from h)]
 exact fun _ _ h => h
theorem page_no (p : Int) (h : ¬ Nod.Pg p) (w : World) : Calls Tryz.prog 159 #[.int .i64 p] w fun e w' => e = .returned (.bool false) ∧ w = w' := by
 refine (page_calls p w).mono ?_
 rw [decide_eq_false (show ¬ (0 ≤ p ∧ p < 8192) from h)]
 exact fun _ _ h => h
end
section
open Go.RowKit Go

abbrev nodV (i : Nod) : Value := .agg #[.int .i64 i.k, .int .i64 i.l, .int .i64 i.s, .int .i64 i.d0, .int .i64 i.d1, .int .i64 i.d2, .int .i64 i.d3, .int .i64 i.d4, .int .i64 i.d5, .int .i64 i.a, .int .i64 i.b]
abbrev nodO (i : Nod) : Obj := .cells #[.int .i64 i.k, .int .i64 i.l, .int .i64 i.s, .int .i64 i.d0, .int .i64 i.d1, .int .i64 i.d2, .int .i64 i.d3, .int .i64 i.d4, .int .i64 i.d5, .int .i64 i.a, .int .i64 i.b] 35
def nodEq (i j : Nod) : Bool := i.k == j.k && (i.l == j.l && (i.s == j.s && ((i.d0 == j.d0 && (i.d1 == j.d1 && (i.d2 == j.d2 && (i.d3 == j.d3 && (i.d4 == j.d4 && i.d5 == j.d5))))) && (i.a == j.a && i.b == j.b))))
theorem nodEq_iff (i j : Nod) : nodEq i j = true ↔ i = j := by
 obtain ⟨k, l, s, d0, d1, d2, d3, d4, d5, a, b⟩ := i
 obtain ⟨k', l', s', d0', d1', d2', d3', d4', d5', a', b'⟩ := j
 simp [nodEq]
 intro _ _ _
 constructor <;> (intro h; simp [h])
theorem eqItems_int (d i : Nat) (is : List Nat) (xs ys : Array Value) (a b : Int) (w : World) (hx : xs[i]? = some (.int .i64 a)) (hy : ys[i]? = some (.int .i64 b)) :
  (Op.eqItems (d + 1) 3 1 xs ys (i :: is)).run Tryz.prog w = if (a == b) = true then (Op.eqItems (d + 1) 3 1 xs ys is).run Tryz.prog w else .ok false w := by
 have hp : Tryz.prog.plainKey 3 = true := by kernel_rfl
 have p1 := run_part_plain (P := Tryz.prog) w hp (xs := xs) (off := i * 1) (by rw [Nat.mul_one]; exact hx)
 have p2 := run_part_plain (P := Tryz.prog) w hp (xs := ys) (off := i * 1) (by rw [Nat.mul_one]; exact hy)
 have p3 := run_equalIn_int (P := Tryz.prog) w d 3 .i64 .i64 a b Tryz.underlying3
 simp only [Op.eqItems, Sem.run_bind, p1, p2, p3, Result.andThen_ok]
 cases hab : (a == b) <;> simp
theorem eqSix (d : Nat) (a0 a1 a2 a3 a4 a5 b0 b1 b2 b3 b4 b5 : Int) (w : World) :
  (Op.equalIn (d + 2) 33 (.agg #[.int .i64 a0, .int .i64 a1, .int .i64 a2, .int .i64 a3, .int .i64 a4, .int .i64 a5]) (.agg #[.int .i64 b0, .int .i64 b1, .int .i64 b2, .int .i64 b3, .int .i64 b4, .int .i64 b5])).run Tryz.prog w
   = .ok (a0 == b0 && (a1 == b1 && (a2 == b2 && (a3 == b3 && (a4 == b4 && a5 == b5))))) w := by
 have u3 := Tryz.underlying3
 obtain ⟨i, hi⟩ := info_of_underlying u3
 have hc : Tryz.prog.cellsOf 3 = 1 := by kernel_rfl
 rw [run_equalIn_array w (d + 1) _ _ Tryz.underlying33 hi, hc]
 rw [show List.range 6 = [0, 1, 2, 3, 4, 5] from rfl]
 rw [eqItems_int _ _ _ _ _ a0 b0 w rfl rfl, eqItems_int _ _ _ _ _ a1 b1 w rfl rfl, eqItems_int _ _ _ _ _ a2 b2 w rfl rfl, eqItems_int _ _ _ _ _ a3 b3 w rfl rfl, eqItems_int _ _ _ _ _ a4 b4 w rfl rfl, eqItems_int _ _ _ _ _ a5 b5 w rfl rfl]
 rw [show (Op.eqItems (d + 1) 3 1 _ _ []).run Tryz.prog w = .ok true w from rfl]
 cases (a0 == b0) <;> cases (a1 == b1) <;> cases (a2 == b2) <;> cases (a3 == b3) <;> cases (a4 == b4) <;> cases (a5 == b5) <;> rfl
theorem eqNod (i j : Nod) (w : World) : (Op.equalIn 10000 35 (nodV i) (nodV j)).run Tryz.prog w = .ok (nodEq i j) w := by
 have u3 := Tryz.underlying3
 have a3 := Tryz.isAgg3
 have z3 := Tryz.sizeOf3
 have hS : Tryz.prog.underlying 35 = some (.struct (Tryz.prog.fieldsOf 35)) := by kernel_rfl
 have hp : Tryz.prog.stoodInHeld 35 = false := by kernel_rfl
 have h6 := fun a0 a1 a2 a3 a4 a5 b0 b1 b2 b3 b4 b5 => eqSix 9997 a0 a1 a2 a3 a4 a5 b0 b1 b2 b3 b4 b5
 rw [show (10000 : Nat) = 9999 + 1 from rfl, run_equalIn_agg w 9999 35 _ _ hS hp]
 simp only [Program.fieldsOf, Tryz.underlying35]
 go_simp
 have hd : (i.d0 = j.d0 → i.d1 = j.d1 → i.d2 = j.d2 → i.d3 = j.d3 → i.d4 = j.d4 → ¬i.d5 = j.d5) ↔ ¬ ((i.d0 == j.d0 && (i.d1 == j.d1 && (i.d2 == j.d2 && (i.d3 == j.d3 && (i.d4 == j.d4 && i.d5 == j.d5))))) = true) := by
  simp
 simp only [hd, nodEq]
 by_cases h1 : i.k = j.k
 ·by_cases h2 : i.l = j.l
  ·by_cases h3 : i.s = j.s
   ·by_cases h4 : (i.d0 == j.d0 && (i.d1 == j.d1 && (i.d2 == j.d2 && (i.d3 == j.d3 && (i.d4 == j.d4 && i.d5 == j.d5))))) = true
    ·by_cases h5 : i.a = j.a
     ·by_cases h6 : i.b = j.b
      ·simp only [h1, h2, h3, h4, h5, h6]; simp
      ·simp only [h1, h2, h3, h4, h5]; simp [h6]
     ·simp only [h1, h2, h3, h4]; simp [h5]
    ·rw [Bool.not_eq_true] at h4
     simp only [h1, h2, h3, h4]; simp
   ·simp only [h1, h2]; simp [h3]
  ·simp only [h1]; simp [h2]
 ·simp [h1]
@[go_sem high] theorem eqNod_ (k l s d0 d1 d2 d3 d4 d5 a b k' l' s' d0' d1' d2' d3' d4' d5' a' b' : Int) (w : World) : (Op.equalIn 10000 35 (.agg #[.int .i64 k, .int .i64 l, .int .i64 s, .int .i64 d0, .int .i64 d1, .int .i64 d2, .int .i64 d3, .int .i64 d4, .int .i64 d5, .int .i64 a, .int .i64 b]) (.agg #[.int .i64 k', .int .i64 l', .int .i64 s', .int .i64 d0', .int .i64 d1', .int .i64 d2', .int .i64 d3', .int .i64 d4', .int .i64 d5', .int .i64 a', .int .i64 b'])).run Tryz.prog w = .ok (nodEq ⟨k, l, s, d0, d1, d2, d3, d4, d5, a, b⟩ ⟨k', l', s', d0', d1', d2', d3', d4', d5', a', b'⟩) w := eqNod ⟨k, l, s, d0, d1, d2, d3, d4, d5, a, b⟩ ⟨k', l', s', d0', d1', d2', d3', d4', d5', a', b'⟩ w
@[go_sem] theorem idxSix0 (a0 a1 a2 a3 a4 a5 : Int) (w : World) : (Instr.index 33 (.agg #[.int .i64 a0, .int .i64 a1, .int .i64 a2, .int .i64 a3, .int .i64 a4, .int .i64 a5]) (.int .i64 0)).run Tryz.prog w = .ok (.int .i64 a0) w := by kernel_rfl
@[go_sem] theorem idxSix1 (a0 a1 a2 a3 a4 a5 : Int) (w : World) : (Instr.index 33 (.agg #[.int .i64 a0, .int .i64 a1, .int .i64 a2, .int .i64 a3, .int .i64 a4, .int .i64 a5]) (.int .i64 1)).run Tryz.prog w = .ok (.int .i64 a1) w := by kernel_rfl
@[go_sem] theorem idxSix2 (a0 a1 a2 a3 a4 a5 : Int) (w : World) : (Instr.index 33 (.agg #[.int .i64 a0, .int .i64 a1, .int .i64 a2, .int .i64 a3, .int .i64 a4, .int .i64 a5]) (.int .i64 2)).run Tryz.prog w = .ok (.int .i64 a2) w := by kernel_rfl
@[go_sem] theorem idxSix3 (a0 a1 a2 a3 a4 a5 : Int) (w : World) : (Instr.index 33 (.agg #[.int .i64 a0, .int .i64 a1, .int .i64 a2, .int .i64 a3, .int .i64 a4, .int .i64 a5]) (.int .i64 3)).run Tryz.prog w = .ok (.int .i64 a3) w := by kernel_rfl
@[go_sem] theorem idxSix4 (a0 a1 a2 a3 a4 a5 : Int) (w : World) : (Instr.index 33 (.agg #[.int .i64 a0, .int .i64 a1, .int .i64 a2, .int .i64 a3, .int .i64 a4, .int .i64 a5]) (.int .i64 4)).run Tryz.prog w = .ok (.int .i64 a4) w := by kernel_rfl
@[go_sem] theorem idxSix5 (a0 a1 a2 a3 a4 a5 : Int) (w : World) : (Instr.index 33 (.agg #[.int .i64 a0, .int .i64 a1, .int .i64 a2, .int .i64 a3, .int .i64 a4, .int .i64 a5]) (.int .i64 5)).run Tryz.prog w = .ok (.int .i64 a5) w := by kernel_rfl
end
section
open Go.RowKit

theorem iright_calls (i : Nod) (w : World) :
  Calls Tryz.prog 146 #[nodV i] w fun e w' => e = .returned (.bool (Nod.rightB i)) ∧ Below w.heap.size w w' := by
 have hbl := hid ((Below.refl w.heap.size w).alloc (Nat.le_refl _) (nodO i))
 obtain ⟨k, l, s, d0, d1, d2, d3, d4, d5, a, b⟩ := i
 by_cases hk : k = 0
 ·subst hk
  have hv : Nod.rightB ⟨0, l, s, d0, d1, d2, d3, d4, d5, a, b⟩ = nodEq ⟨0, l, s, d0, d1, d2, d3, d4, d5, a, b⟩ ⟨0, 0, 0, 0, 0, 0, 0, 0, 0, 0, 0⟩ := by
   rw [Bool.eq_iff_iff, nodEq_iff, Nod.rightB, decide_eq_true_iff, Nod.right_zero rfl]
   simp [Nod.Free]
  rw [hv]
  clear hv
  go_enter Tryz.func146, Tryz.ntmps146
  go_wp2
  go_ret
  exact ⟨rfl, hbl.out⟩
 ·have hu := Nod.right_used (i := ⟨k, l, s, d0, d1, d2, d3, d4, d5, a, b⟩) hk
  have HU := hid hu
  clear hu
  have hkb : (k == 0) = false := by rw [beq_eq_false_iff_ne]; exact hk
  have HK := hid hk
  clear hk
  go_enter Tryz.func146, Tryz.ntmps146
  go_wp2
  have BK := hid (Blk.new w 35 #[.int .i64 k, .int .i64 l, .int .i64 s, .int .i64 d0, .int .i64 d1, .int .i64 d2, .int .i64 d3, .int .i64 d4, .int .i64 d5, .int .i64 a, .int .i64 b])
  generalize w.alloc (nodO ⟨k, l, s, d0, d1, d2, d3, d4, d5, a, b⟩) = w1 at *
  go_loop [2, 4, 13] (fun r _x i => ∃ m : Nat, m ≤ 6 ∧ r = .bool false ∧ i = .int .i64 m ∧ (0 < m → Nod.Pg d0) ∧ (1 < m → Nod.Pg d1) ∧ (2 < m → Nod.Pg d2) ∧ (3 < m → Nod.Pg d3) ∧ (4 < m → Nod.Pg d4) ∧ (5 < m → Nod.Pg d5)) (fun _ _ i => 6 - (intOf i).toNat)
  case atStart => exact ⟨0, by omega, rfl, rfl, by omega, by omega, by omega, by omega, by omega, by omega⟩
  case round =>
   obtain ⟨m, hm, rfl, rfl, g0, g1, g2, g3, g4, g5⟩ := hrel
   have hc : m = 0 ∨ m = 1 ∨ m = 2 ∨ m = 3 ∨ m = 4 ∨ m = 5 ∨ m = 6 := by omega
   rcases hc with rfl | rfl | rfl | rfl | rfl | rfl | rfl
   ·by_cases hp : Nod.Pg d0
    ·go_wp2_with (go_at_call 159; refine (page_yes d0 hp _).mono ?_; rintro e w' ⟨rfl, rfl⟩)
     go_round
     case rel => exact ⟨1, by omega, rfl, rfl, fun _ => hp, by omega, by omega, by omega, by omega, by omega⟩
     case measure => simp [intOf]
    ·go_wp2_with (go_at_call 159; refine (page_no d0 hp _).mono ?_; rintro e w' ⟨rfl, rfl⟩)
     go_ret
     exact ⟨by rw [Nod.rightB_no (fun h => hp (by have := HU.out.1 h; exact this.2.2.2.2.2.1.1))]; rfl, hbl.out⟩
   ·by_cases hp : Nod.Pg d1
    ·go_wp2_with (go_at_call 159; refine (page_yes d1 hp _).mono ?_; rintro e w' ⟨rfl, rfl⟩)
     go_round
     case rel => exact ⟨2, by omega, rfl, rfl, fun _ => g0 (by omega), fun _ => hp, by omega, by omega, by omega, by omega⟩
     case measure => simp [intOf]
    ·go_wp2_with (go_at_call 159; refine (page_no d1 hp _).mono ?_; rintro e w' ⟨rfl, rfl⟩)
     go_ret
     exact ⟨by rw [Nod.rightB_no (fun h => hp (by have := HU.out.1 h; exact this.2.2.2.2.2.1.2.1))]; rfl, hbl.out⟩
   ·by_cases hp : Nod.Pg d2
    ·go_wp2_with (go_at_call 159; refine (page_yes d2 hp _).mono ?_; rintro e w' ⟨rfl, rfl⟩)
     go_round
     case rel => exact ⟨3, by omega, rfl, rfl, fun _ => g0 (by omega), fun _ => g1 (by omega), fun _ => hp, by omega, by omega, by omega⟩
     case measure => simp [intOf]
    ·go_wp2_with (go_at_call 159; refine (page_no d2 hp _).mono ?_; rintro e w' ⟨rfl, rfl⟩)
     go_ret
     exact ⟨by rw [Nod.rightB_no (fun h => hp (by have := HU.out.1 h; exact this.2.2.2.2.2.1.2.2.1))]; rfl, hbl.out⟩
   ·by_cases hp : Nod.Pg d3
    ·go_wp2_with (go_at_call 159; refine (page_yes d3 hp _).mono ?_; rintro e w' ⟨rfl, rfl⟩)
     go_round
     case rel => exact ⟨4, by omega, rfl, rfl, fun _ => g0 (by omega), fun _ => g1 (by omega), fun _ => g2 (by omega), fun _ => hp, by omega, by omega⟩
     case measure => simp [intOf]
    ·go_wp2_with (go_at_call 159; refine (page_no d3 hp _).mono ?_; rintro e w' ⟨rfl, rfl⟩)
     go_ret
     exact ⟨by rw [Nod.rightB_no (fun h => hp (by have := HU.out.1 h; exact this.2.2.2.2.2.1.2.2.2.1))]; rfl, hbl.out⟩
   ·by_cases hp : Nod.Pg d4
    ·go_wp2_with (go_at_call 159; refine (page_yes d4 hp _).mono ?_; rintro e w' ⟨rfl, rfl⟩)
     go_round
     case rel => exact ⟨5, by omega, rfl, rfl, fun _ => g0 (by omega), fun _ => g1 (by omega), fun _ => g2 (by omega), fun _ => g3 (by omega), fun _ => hp, by omega⟩
     case measure => simp [intOf]
    ·go_wp2_with (go_at_call 159; refine (page_no d4 hp _).mono ?_; rintro e w' ⟨rfl, rfl⟩)
     go_ret
     exact ⟨by rw [Nod.rightB_no (fun h => hp (by have := HU.out.1 h; exact this.2.2.2.2.2.1.2.2.2.2.1))]; rfl, hbl.out⟩
   ·by_cases hp : Nod.Pg d5
    ·go_wp2_with (go_at_call 159; refine (page_yes d5 hp _).mono ?_; rintro e w' ⟨rfl, rfl⟩)
     go_round
     case rel => exact ⟨6, by omega, rfl, rfl, fun _ => g0 (by omega), fun _ => g1 (by omega), fun _ => g2 (by omega), fun _ => g3 (by omega), fun _ => g4 (by omega), fun _ => hp⟩
     case measure => simp [intOf]
    ·go_wp2_with (go_at_call 159; refine (page_no d5 hp _).mono ?_; rintro e w' ⟨rfl, rfl⟩)
     go_ret
     exact ⟨by rw [Nod.rightB_no (fun h => hp (by have := HU.out.1 h; exact this.2.2.2.2.2.1.2.2.2.2.2))]; rfl, hbl.out⟩
   ·obtain ⟨g0, g1, g2, g3, g4, g5⟩ : Nod.Pg d0 ∧ Nod.Pg d1 ∧ Nod.Pg d2 ∧ Nod.Pg d3 ∧ Nod.Pg d4 ∧ Nod.Pg d5 := ⟨g0 (by omega), g1 (by omega), g2 (by omega), g3 (by omega), g4 (by omega), g5 (by omega)⟩
    have c0 := BK.out.cellv (i := 0) rfl
    have c1 := BK.out.cellv (i := 1) rfl
    have c2 := BK.out.cellv (i := 2) rfl
    have c3 := BK.out.cellv (i := 9) rfl
    have c4 := BK.out.cellv (i := 10) rfl
    by_cases hk2 : k = 1 ∨ k = 2
    case neg =>
     have h1 : (k == 1) = false := by rw [beq_eq_false_iff_ne]; omega
     have h2 : (k == 2) = false := by rw [beq_eq_false_iff_ne]; omega
     have hk2 := hid hk2
     go_wp2
     go_ret
     exact ⟨by rw [Nod.rightB_no (fun h => hk2.out (HU.out.1 h).1)]; rfl, hbl.out⟩
    by_cases hl1 : 0 ≤ l
    case neg =>
     have hn := hid (Nod.rightB_no (fun h => hl1 (HU.out.1 h).2.1))
     rcases hk2 with rfl | rfl
     all_goals
      go_wp2
      go_ret
      exact ⟨by rw [hn.out]; rfl, hbl.out⟩
    by_cases hl2 : l ≤ 1000
    case neg =>
     have hn := hid (Nod.rightB_no (fun h => hl2 (HU.out.1 h).2.2.1))
     rcases hk2 with rfl | rfl
     all_goals
      go_wp2
      go_ret
      exact ⟨by rw [hn.out]; rfl, hbl.out⟩
    by_cases hs1 : 0 ≤ s
    case neg =>
     have hn := hid (Nod.rightB_no (fun h => hs1 (HU.out.1 h).2.2.2.1))
     rcases hk2 with rfl | rfl
     all_goals
      go_wp2
      go_ret
      exact ⟨by rw [hn.out]; rfl, hbl.out⟩
    by_cases hs2 : s ≤ 2147483647
    case neg =>
     have hn := hid (Nod.rightB_no (fun h => hs2 (HU.out.1 h).2.2.2.2.1))
     rcases hk2 with rfl | rfl
     all_goals
      go_wp2
      go_ret
      exact ⟨by rw [hn.out]; rfl, hbl.out⟩
    by_cases ha : Nod.Pg a
    case neg =>
     have hn := hid (Nod.rightB_no (fun h => ha (HU.out.1 h).2.2.2.2.2.2.1))
     rcases hk2 with rfl | rfl
     all_goals
      go_wp2_with (go_at_call 159; refine (page_no a ha _).mono ?_; rintro e w' ⟨rfl, rfl⟩)
      go_ret
      exact ⟨by rw [hn.out]; rfl, hbl.out⟩
    by_cases hb : Nod.Pg b
    case neg =>
     have hn := hid (Nod.rightB_no (fun h => hb (HU.out.1 h).2.2.2.2.2.2.2))
     rcases hk2 with rfl | rfl
     all_goals
      go_wp2_with (go_at_call 159; first | (refine (page_yes a ha _).mono ?_; rintro e w' ⟨rfl, rfl⟩) | (refine (page_no b hb _).mono ?_; rintro e w' ⟨rfl, rfl⟩))
      go_ret
      exact ⟨by rw [hn.out]; rfl, hbl.out⟩
    have hy := hid (Nod.rightB_yes (HU.out.2 ⟨hk2, hl1, hl2, hs1, hs2, ⟨g0, g1, g2, g3, g4, g5⟩, ha, hb⟩))
    rcases hk2 with rfl | rfl
    all_goals
     go_wp2_with (go_at_call 159; first | (refine (page_yes a ha _).mono ?_; rintro e w' ⟨rfl, rfl⟩) | (refine (page_yes b hb _).mono ?_; rintro e w' ⟨rfl, rfl⟩))
     go_ret
     exact ⟨by rw [hy.out]; rfl, hbl.out⟩
end
end Go.Proofs.YtcppkaphlcflgaaGreat
