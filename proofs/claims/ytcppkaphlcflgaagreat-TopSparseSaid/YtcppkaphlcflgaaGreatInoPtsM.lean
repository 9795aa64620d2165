import Derived.WalkKit
namespace Go.Proofs.YtcppkaphlcflgaaGreat

def bigL (X n : Nat) : List UInt8 := (List.range n).map fun i => UInt8.ofNat (X / 256 ^ i)
theorem bigL_len (X n : Nat) : (bigL X n).length = n := by simp [bigL]
theorem bigL_snoc (X k : Nat) : bigL X (k + 1) = bigL X k ++ [UInt8.ofNat (X / 256 ^ k)] := by simp [bigL, List.range_succ]
def numL : List UInt8 → Nat
 | [] => 0
 | b :: bs => b.toNat + 256 * numL bs
theorem numL_lt (xs : List UInt8) : numL xs < 256 ^ xs.length := by
 induction xs with
 | nil => simp [numL]
 | cons b bs ih =>
  have := b.toNat_lt
  simp only [numL, List.length_cons, Nat.pow_succ]
  omega
theorem bigL_cons (X n : Nat) : bigL X (n + 1) = UInt8.ofNat X :: bigL (X / 256) n := by
 simp only [bigL, List.range_succ_eq_map, List.map_cons, List.map_map, Nat.pow_zero, Nat.div_one]
 congr 1
 apply List.map_congr_left
 intro i _
 simp only [Function.comp_apply, Nat.pow_succ, Nat.div_div_eq_div_mul, Nat.mul_comm]
theorem numL_bigL (X n : Nat) : numL (bigL X n) = X % 256 ^ n := by
 induction n generalizing X with
 | zero => simp [bigL, numL, Nat.mod_one]
 | succ n ih =>
  have h := Nat.mod_mul (x := X) (a := 256) (b := 256 ^ n)
  have e : 256 ^ (n + 1) = 256 * 256 ^ n := by rw [Nat.pow_succ, Nat.mul_comm]
  rw [bigL_cons, numL, ih, UInt8.toNat_ofNat', e, h]
theorem numL_big_lt {X n : Nat} (h : X < 256 ^ n) : numL (bigL X n) = X := by rw [numL_bigL, Nat.mod_eq_of_lt h]
theorem bigL_numL (xs : List UInt8) : bigL (numL xs) xs.length = xs := by
 induction xs with
 | nil => rfl
 | cons b bs ih =>
  have hb := b.toNat_lt
  rw [List.length_cons, bigL_cons, numL]
  have h1 : (b.toNat + 256 * numL bs) / 256 = numL bs := by omega
  have h2 : UInt8.ofNat (b.toNat + 256 * numL bs) = b := by
   apply UInt8.toNat_inj.1
   rw [UInt8.toNat_ofNat']
   omega
  rw [h1, ih, h2]
def strL (xs : List UInt8) : ByteArray := ⟨xs.toArray⟩
theorem strL_inj {xs ys : List UInt8} (h : strL xs = strL ys) : xs = ys := by
 have h2 := congrArg ByteArray.data h
 simpa [strL] using h2
end Go.Proofs.YtcppkaphlcflgaaGreat
namespace Go.Proofs.YtcppkaphlcflgaaGreat.Ino

def Sized (n : Int) : Prop := n = 64 ∨ n = 128 ∨ n = 256 ∨ n = 512
instance (n : Int) : Decidable (Sized n) := by unfold Sized; exact inferInstance
def pages (s : Int) : Int := 6 + s / 2 + s / 2 * (s / 2)
def most (s : Int) : Int := if Sized s then (if pages s * s > 2147483647 then 2147483647 else pages s * s) else 0
def perPage (s : Int) : Int := if Sized s then s / 24 else 0
def wayE (s n : Int) : Int := if Sized s then (if n < 0 ∨ pages s ≤ n then 52 else 0) else 1
def wayA (s n : Int) : Int := if wayE s n ≠ 0 then 0 else if n < 6 then 0 else if n < 6 + s / 2 then 1 else 2
def wayB (s n : Int) : Int := if wayE s n ≠ 0 then 0 else if n < 6 then n else if n < 6 + s / 2 then n - 6 else (n - 6 - s / 2) / (s / 2)
def wayC (s n : Int) : Int := if wayE s n ≠ 0 then 0 else if n < 6 then 0 else if n < 6 + s / 2 then 0 else (n - 6 - s / 2) % (s / 2)
theorem pages_64 : pages 64 = 1062 := rfl
theorem wayE_ok {s n : Int} (h : wayE s n = 0) : Sized s ∧ 0 ≤ n ∧ n < pages s := by
 unfold wayE at h
 by_cases hs : Sized s
 ·rw [if_pos hs] at h
  by_cases hn : n < 0 ∨ pages s ≤ n
  ·rw [if_pos hn] at h; cases h
  ·exact ⟨hs, by omega, by omega⟩
 ·rw [if_neg hs] at h; cases h
theorem wayE_of {s n : Int} (hs : Sized s) (h0 : 0 ≤ n) (h1 : n < pages s) : wayE s n = 0 := by
 unfold wayE; rw [if_pos hs, if_neg (by omega)]
theorem way_forms {s n : Int} (h : wayE s n = 0) :
  (wayA s n = 0 ∧ wayB s n = n ∧ wayC s n = 0 ∧ n < 6) ∨ (wayA s n = 1 ∧ wayB s n = n - 6 ∧ wayC s n = 0 ∧ 6 ≤ n ∧ n < 6 + s / 2) ∨
  (wayA s n = 2 ∧ wayB s n = (n - 6 - s / 2) / (s / 2) ∧ wayC s n = (n - 6 - s / 2) % (s / 2) ∧ 6 + s / 2 ≤ n) := by
 obtain ⟨hs, h0, h1⟩ := wayE_ok h
 by_cases h6 : n < 6
 ·exact .inl ⟨by simp [wayA, h, h6], by simp [wayB, h, h6], by simp [wayC, h, h6], h6⟩
 by_cases hk : n < 6 + s / 2
 ·exact .inr (.inl ⟨by simp [wayA, h, h6, hk], by simp [wayB, h, h6, hk], by simp [wayC, h, h6, hk], by omega, hk⟩)
 ·exact .inr (.inr ⟨by simp [wayA, h, h6, hk], by simp [wayB, h, h6, hk], by simp [wayC, h, h6, hk], by omega⟩)
theorem half {s : Int} (h : Sized s) : 32 ≤ s / 2 ∧ s / 2 ≤ 256 ∧ 0 ≤ s / 2 * (s / 2) ∧ s / 2 * (s / 2) ≤ 65536 ∧ pages s = 6 + s / 2 + s / 2 * (s / 2) := by
 rcases h with rfl | rfl | rfl | rfl <;> decide
theorem way_bound {s n : Int} (h : wayE s n = 0) : 0 ≤ wayB s n ∧ wayB s n ≤ 70000 ∧ 0 ≤ wayC s n ∧ wayC s n ≤ 70000 := by
 obtain ⟨hs, h0, h1⟩ := wayE_ok h
 have hk := half hs
 rcases way_forms h with c | c | c
 ·omega
 ·omega
 ·obtain ⟨_, b, e, _⟩ := c
  have e1 := Int.ediv_nonneg (a := n - 6 - s / 2) (b := s / 2) (by omega) (by omega)
  have e2 : (n - 6 - s / 2) / (s / 2) ≤ (n - 6 - s / 2) := Int.ediv_le_self _ (by omega)
  have e3 := Int.emod_nonneg (n - 6 - s / 2) (show s / 2 ≠ 0 by omega)
  have e4 := Int.emod_lt_of_pos (n - 6 - s / 2) (show 0 < s / 2 by omega)
  omega
end Go.Proofs.YtcppkaphlcflgaaGreat.Ino
namespace Go.Proofs.YtcppkaphlcflgaaGreat

structure Nod where
 k : Int
 l : Int
 s : Int
 d0 : Int
 d1 : Int
 d2 : Int
 d3 : Int
 d4 : Int
 d5 : Int
 a : Int
 b : Int
namespace Nod
def Pg (p : Int) : Prop := 0 ≤ p ∧ p < 8192
instance (p : Int) : Decidable (Pg p) := by unfold Pg; exact inferInstance
def zero : Nod := ⟨0, 0, 0, 0, 0, 0, 0, 0, 0, 0, 0⟩
def Free (i : Nod) : Prop := i.k = 0 ∧ i.l = 0 ∧ i.s = 0 ∧ i.d0 = 0 ∧ i.d1 = 0 ∧ i.d2 = 0 ∧ i.d3 = 0 ∧ i.d4 = 0 ∧ i.d5 = 0 ∧ i.a = 0 ∧ i.b = 0
instance (i : Nod) : Decidable (Free i) := by unfold Free; exact inferInstance
def Dirs (i : Nod) : Prop := Pg i.d0 ∧ Pg i.d1 ∧ Pg i.d2 ∧ Pg i.d3 ∧ Pg i.d4 ∧ Pg i.d5
instance (i : Nod) : Decidable (Dirs i) := by unfold Dirs; exact inferInstance
def Used (i : Nod) : Prop := (i.k = 1 ∨ i.k = 2) ∧ 0 ≤ i.l ∧ i.l ≤ 1000 ∧ 0 ≤ i.s ∧ i.s ≤ 2147483647 ∧ Dirs i ∧ Pg i.a ∧ Pg i.b
instance (i : Nod) : Decidable (Used i) := by unfold Used; exact inferInstance
def Right (i : Nod) : Prop := if i.k = 0 then Free i else Used i
instance (i : Nod) : Decidable (Right i) := by unfold Right; exact inferInstance
end Nod
end Go.Proofs.YtcppkaphlcflgaaGreat
namespace Go.Proofs.YtcppkaphlcflgaaGreat.Pt

def Has (n : Nat) (k : Int) : Prop := Ino.Sized n ∧ 0 ≤ k ∧ k < n / 2
instance (n : Nat) (k : Int) : Decidable (Has n k) := by unfold Has; exact inferInstance
def two (xs : List UInt8) (j : Nat) : Nat := numL ((xs.drop (2 * j)).take 2)
def ptrE (xs : List UInt8) (k : Int) : Int := if Has xs.length k then (if two xs k.toNat < 8192 then 0 else 52) else 1
def ptrV (xs : List UInt8) (k : Int) : Int := if Has xs.length k then (if two xs k.toNat < 8192 then (two xs k.toNat : Nat) else 0) else 0
def put (xs : List UInt8) (j tt : Nat) : List UInt8 := xs.take (2 * j) ++ bigL tt 2 ++ xs.drop (2 * j + 2)
def pointE (xs : List UInt8) (k tt : Int) : Int := if Has xs.length k ∧ Nod.Pg tt then 0 else 1
def pointL (xs : List UInt8) (k tt : Int) : List UInt8 := if Has xs.length k ∧ Nod.Pg tt then put xs k.toNat tt.toNat else []
theorem ptr_no {xs : List UInt8} {k : Int} (h : ¬ Has xs.length k) : ptrV xs k = 0 ∧ ptrE xs k = 1 := by unfold ptrV ptrE; rw [if_neg h, if_neg h]; exact ⟨rfl, rfl⟩
theorem ptr_yes {xs : List UInt8} {k : Int} (h : Has xs.length k) (h2 : two xs k.toNat < 8192) : ptrV xs k = (two xs k.toNat : Nat) ∧ ptrE xs k = 0 := by
 unfold ptrV ptrE; rw [if_pos h, if_pos h, if_pos h2, if_pos h2]; exact ⟨rfl, rfl⟩
theorem ptr_big {xs : List UInt8} {k : Int} (h : Has xs.length k) (h2 : ¬ two xs k.toNat < 8192) : ptrV xs k = 0 ∧ ptrE xs k = 52 := by
 unfold ptrV ptrE; rw [if_pos h, if_pos h, if_neg h2, if_neg h2]; exact ⟨rfl, rfl⟩
theorem two_eq {xs : List UInt8} {j : Nat} (h : 2 * j + 1 < xs.length) : two xs j = (xs[2 * j]).toNat + 256 * (xs[2 * j + 1]).toNat := by
 unfold two
 rw [List.drop_eq_getElem_cons (show 2 * j < xs.length by omega), List.take_succ_cons, List.drop_eq_getElem_cons h, List.take_succ_cons, List.take_zero]
 simp only [numL]; omega
theorem put_len {xs : List UInt8} {j tt : Nat} (h : 2 * j + 1 < xs.length) : (put xs j tt).length = xs.length := by
 simp only [put, List.length_append, List.length_take, List.length_drop, bigL_len]; omega
theorem put_sets {xs : List UInt8} {j tt : Nat} (h : 2 * j + 1 < xs.length) : (xs.set (2 * j) (UInt8.ofNat tt)).set (2 * j + 1) (UInt8.ofNat (tt / 256)) = put xs j tt := by
 have hb : bigL tt 2 = [UInt8.ofNat tt, UInt8.ofNat (tt / 256)] := by
  show [UInt8.ofNat (tt / 256 ^ 0), UInt8.ofNat (tt / 256 ^ 1)] = _
  rw [Nat.pow_zero, Nat.pow_one, Nat.div_one]
 apply List.ext_getElem?
 intro i
 unfold put
 rw [hb]
 by_cases h1 : i < 2 * j
 ·rw [List.getElem?_set_ne (by omega), List.getElem?_set_ne (by omega), List.append_assoc, List.getElem?_append_left (by rw [List.length_take]; omega), List.getElem?_take, if_pos h1]
 ·by_cases h2 : i = 2 * j
  ·subst h2
   rw [List.getElem?_set_ne (by omega), List.getElem?_set_self (by omega), List.append_assoc, List.getElem?_append_right (by rw [List.length_take]; omega), List.length_take, show 2 * j - min (2 * j) xs.length = 0 by omega]
   rfl
  ·by_cases h3 : i = 2 * j + 1
   ·subst h3
    rw [List.getElem?_set_self (by rw [List.length_set]; omega), List.append_assoc, List.getElem?_append_right (by rw [List.length_take]; omega), List.length_take, show 2 * j + 1 - min (2 * j) xs.length = 1 by omega]
    rfl
   ·rw [List.getElem?_set_ne (by omega), List.getElem?_set_ne (by omega), List.getElem?_append_right (by simp only [List.length_append, List.length_take, List.length_cons, List.length_nil]; omega)]
    simp only [List.length_append, List.length_take, List.length_cons, List.length_nil]
    rw [List.getElem?_drop, show 2 * j + 2 + (i - (min (2 * j) xs.length + (0 + 1 + 1))) = i by omega]
theorem two_put {xs : List UInt8} {j tt : Nat} (h : 2 * j + 1 < xs.length) (ht : tt < 65536) : two (put xs j tt) j = tt := by
 have h2 : tt < 256 ^ 2 := by
  have e : (256 : Nat) ^ 2 = 65536 := by decide
  omega
 unfold two put
 rw [List.append_assoc, List.drop_append, List.drop_of_length_le (by rw [List.length_take]; omega), List.nil_append, List.length_take, show 2 * j - min (2 * j) xs.length = 0 by omega, List.drop_zero,
  List.take_append_of_le_length (by rw [bigL_len]; omega), List.take_of_length_le (by rw [bigL_len]; omega), numL_big_lt h2]
theorem put_get {xs : List UInt8} {j tt i : Nat} (h : 2 * j + 1 < xs.length) (h1 : i ≠ 2 * j) (h2 : i ≠ 2 * j + 1) : (put xs j tt)[i]? = xs[i]? := by
 rw [← put_sets h, List.getElem?_set_ne (by omega), List.getElem?_set_ne (by omega)]
theorem two_other {xs : List UInt8} {j i tt : Nat} (h : 2 * j + 1 < xs.length) (hi : 2 * i + 1 < xs.length) (hne : i ≠ j) : two (put xs j tt) i = two xs i := by
 have hl := put_len (tt := tt) h
 rw [two_eq (by omega), two_eq hi]
 have e1 := put_get (tt := tt) (i := 2 * i) h (by omega) (by omega)
 have e2 := put_get (tt := tt) (i := 2 * i + 1) h (by omega) (by omega)
 rw [List.getElem?_eq_getElem (by omega), List.getElem?_eq_getElem (by omega)] at e1
 rw [List.getElem?_eq_getElem (by omega), List.getElem?_eq_getElem hi] at e2
 rw [Option.some.inj e1, Option.some.inj e2]
theorem has_bound {n : Nat} {k : Int} (h : Has n k) : 2 * k.toNat + 1 < n ∧ n ≤ 512 ∧ (k.toNat : Int) = k ∧ k.toNat < n / 2 := by
 obtain ⟨h1, h2, h3⟩ := h
 unfold Ino.Sized at h1
 omega
theorem pointed {xs : List UInt8} {k tt : Int} (h : Has xs.length k ∧ Nod.Pg tt) : pointL xs k tt = put xs k.toNat tt.toNat ∧ pointE xs k tt = 0 := by
 unfold pointL pointE; rw [if_pos h, if_pos h]; exact ⟨rfl, rfl⟩
theorem pointed_no {xs : List UInt8} {k tt : Int} (h : ¬ (Has xs.length k ∧ Nod.Pg tt)) : pointL xs k tt = [] ∧ pointE xs k tt = 1 := by
 unfold pointL pointE; rw [if_neg h, if_neg h]; exact ⟨rfl, rfl⟩
end Go.Proofs.YtcppkaphlcflgaaGreat.Pt
namespace Go.Proofs.YtcppkaphlcflgaaGreat
namespace Pt
def ptsTo (xs : List UInt8) : Nat → List (Nat × Nat)
 | 0 => []
 | k + 1 => if two xs k = 0 then ptsTo xs k else ptsTo xs k ++ [(k, two xs k)]
def pts (xs : List UInt8) : List (Nat × Nat) := if Ino.Sized xs.length then ptsTo xs (xs.length / 2) else []
theorem ptsTo_pre {xs : List UInt8} {k m : Nat} (h : k ≤ m) : ptsTo xs k <+: ptsTo xs m := by
 induction m with
 | zero =>
  obtain rfl : k = 0 := by omega
  exact List.prefix_refl _
 | succ m ih =>
  rcases Nat.lt_or_ge k (m + 1) with h2 | h2
  ·refine (ih (by omega)).trans ?_
   rw [ptsTo]
   split
   ·exact List.prefix_refl _
   ·exact List.prefix_append _ _
  ·obtain rfl : k = m + 1 := by omega
   exact List.prefix_refl _
theorem mem_ptsTo {xs : List UInt8} {k : Nat} {x : Nat × Nat} : x ∈ ptsTo xs k ↔ x.1 < k ∧ two xs x.1 ≠ 0 ∧ x.2 = two xs x.1 := by
 induction k with
 | zero => simp [ptsTo]
 | succ k ih =>
  rw [ptsTo]
  split
  ·rename_i h
   rw [ih]
   constructor
   ·rintro ⟨h1, h2, h3⟩; exact ⟨by omega, h2, h3⟩
   ·rintro ⟨h1, h2, h3⟩
    by_cases e : x.1 = k
    ·rw [e] at h2; exact absurd h h2
    ·exact ⟨by omega, h2, h3⟩
  ·rename_i h
   rw [List.mem_append, ih, List.mem_singleton]
   constructor
   ·rintro (⟨h1, h2, h3⟩ | h1)
    ·exact ⟨by omega, h2, h3⟩
    ·subst h1; exact ⟨by simp, h, rfl⟩
   ·rintro ⟨h1, h2, h3⟩
    by_cases e : x.1 = k
    ·refine .inr ?_
     obtain ⟨p, q⟩ := x
     simp only at e h3
     subst e
     rw [h3]
    ·exact .inl ⟨by omega, h2, h3⟩
end Pt
end Go.Proofs.YtcppkaphlcflgaaGreat
