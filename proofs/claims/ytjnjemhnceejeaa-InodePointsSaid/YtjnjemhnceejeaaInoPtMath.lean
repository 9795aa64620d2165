/-
  Pointers of a page, in plain mathematics.
-/
import Derived.Test.YtjnjemhnceejeaaInoMath
import Derived.Test.YtjnjemhnceejeaaInoRec
namespace Go.Proofs.Ytjnjemhnceejeaa.Pt

/-- A page of n bytes has a pointer number k. -/
def Has (n : Nat) (k : Int) : Prop := Ino.Sized n ∧ 0 ≤ k ∧ k < n / 2
instance (n : Nat) (k : Int) : Decidable (Has n k) := by unfold Has; exact inferInstance
def two (xs : List UInt8) (j : Nat) : Nat := numL ((xs.drop (2 * j)).take 2)
def ptrE (xs : List UInt8) (k : Int) : Int := if Has xs.length k then (if two xs k.toNat < 8192 then 0 else 52) else 1
def ptrV (xs : List UInt8) (k : Int) : Int := if Has xs.length k then (if two xs k.toNat < 8192 then (two xs k.toNat : Nat) else 0) else 0
def put (xs : List UInt8) (j tt : Nat) : List UInt8 := xs.take (2 * j) ++ bigL tt 2 ++ xs.drop (2 * j + 2)
def pointE (xs : List UInt8) (k tt : Int) : Int := if Has xs.length k ∧ Nod.Pg tt then 0 else 1
def pointL (xs : List UInt8) (k tt : Int) : List UInt8 := if Has xs.length k ∧ Nod.Pg tt then put xs k.toNat tt.toNat else []
theorem ptr_no {xs : List UInt8} {k : Int} (h : ¬ Has xs.length k) : ptrV xs k = 0 ∧ ptrE xs k = 1 := by unfold ptrV ptrE; rw [if_neg h, if_neg h]; exact ⟨rfl, rfl⟩
theorem ptr_yes {xs : List UInt8} {k : Int} (h : Has xs.length k) (h2 : two xs k.toNat < 8192) : ptrV xs k = (two xs k.toNat : Nat) ∧ ptrE xs k = 0 := by
  unfold ptrV ptrE; rw [if_pos h, if_pos h, if_pos h2, if_pos h2]; exact ⟨rfl, rfl⟩
theorem ptr_big {xs : List UInt8} {k : Int} (h : Has xs.length k) (h2 : ¬ two xs k.toNat < 8192) : ptrV xs k = 0 ∧ ptrE xs k = 52 := by
  unfold ptrV ptrE; rw [if_pos h, if_pos h, if_neg h2, if_neg h2]; exact ⟨rfl, rfl⟩
theorem two_eq {xs : List UInt8} {j : Nat} (h : 2 * j + 1 < xs.length) : two xs j = (xs[2 * j]).toNat + 256 * (xs[2 * j + 1]).toNat := by
  unfold two
  rw [List.drop_eq_getElem_cons (show 2 * j < xs.length by omega), List.take_succ_cons, List.drop_eq_getElem_cons h, List.take_succ_cons, List.take_zero]
  simp only [numL]; omega
theorem put_len {xs : List UInt8} {j tt : Nat} (h : 2 * j + 1 < xs.length) : (put xs j tt).length = xs.length := by
  simp only [put, List.length_append, List.length_take, List.length_drop, bigL_len]; omega
theorem put_sets {xs : List UInt8} {j tt : Nat} (h : 2 * j + 1 < xs.length) : (xs.set (2 * j) (UInt8.ofNat tt)).set (2 * j + 1) (UInt8.ofNat (tt / 256)) = put xs j tt := by
  have hb : bigL tt 2 = [UInt8.ofNat tt, UInt8.ofNat (tt / 256)] := by
    show [UInt8.ofNat (tt / 256 ^ 0), UInt8.ofNat (tt / 256 ^ 1)] = _
    rw [Nat.pow_zero, Nat.pow_one, Nat.div_one]
  apply List.ext_getElem?
  intro i
  unfold put
  rw [hb]
  by_cases h1 : i < 2 * j
  · rw [List.getElem?_set_ne (by omega), List.getElem?_set_ne (by omega), List.append_assoc, List.getElem?_append_left (by rw [List.length_take]; omega), List.getElem?_take, if_pos h1]
  · by_cases h2 : i = 2 * j
    · subst h2
      rw [List.getElem?_set_ne (by omega), List.getElem?_set_self (by omega), List.append_assoc, List.getElem?_append_right (by rw [List.length_take]; omega), List.length_take, show 2 * j - min (2 * j) xs.length = 0 by omega]
      rfl
    · by_cases h3 : i = 2 * j + 1
      · subst h3
        rw [List.getElem?_set_self (by rw [List.length_set]; omega), List.append_assoc, List.getElem?_append_right (by rw [List.length_take]; omega), List.length_take, show 2 * j + 1 - min (2 * j) xs.length = 1 by omega]
        rfl
      · rw [List.getElem?_set_ne (by omega), List.getElem?_set_ne (by omega), List.getElem?_append_right (by simp only [List.length_append, List.length_take, List.length_cons, List.length_nil]; omega)]
        simp only [List.length_append, List.length_take, List.length_cons, List.length_nil]
        rw [List.getElem?_drop, show 2 * j + 2 + (i - (min (2 * j) xs.length + (0 + 1 + 1))) = i by omega]
theorem two_put {xs : List UInt8} {j tt : Nat} (h : 2 * j + 1 < xs.length) (ht : tt < 65536) : two (put xs j tt) j = tt := by
  have h2 : tt < 256 ^ 2 := by
    have e : (256 : Nat) ^ 2 = 65536 := by decide
    omega
  unfold two put
  rw [List.append_assoc, List.drop_append, List.drop_of_length_le (by rw [List.length_take]; omega), List.nil_append, List.length_take, show 2 * j - min (2 * j) xs.length = 0 by omega, List.drop_zero,
    List.take_append_of_le_length (by rw [bigL_len]; omega), List.take_of_length_le (by rw [bigL_len]; omega), numL_big_lt h2]
theorem put_get {xs : List UInt8} {j tt i : Nat} (h : 2 * j + 1 < xs.length) (h1 : i ≠ 2 * j) (h2 : i ≠ 2 * j + 1) : (put xs j tt)[i]? = xs[i]? := by
  rw [← put_sets h, List.getElem?_set_ne (by omega), List.getElem?_set_ne (by omega)]
theorem two_other {xs : List UInt8} {j i tt : Nat} (h : 2 * j + 1 < xs.length) (hi : 2 * i + 1 < xs.length) (hne : i ≠ j) : two (put xs j tt) i = two xs i := by
  have hl := put_len (tt := tt) h
  rw [two_eq (by omega), two_eq hi]
  have e1 := put_get (tt := tt) (i := 2 * i) h (by omega) (by omega)
  have e2 := put_get (tt := tt) (i := 2 * i + 1) h (by omega) (by omega)
  rw [List.getElem?_eq_getElem (by omega), List.getElem?_eq_getElem (by omega)] at e1
  rw [List.getElem?_eq_getElem (by omega), List.getElem?_eq_getElem hi] at e2
  rw [Option.some.inj e1, Option.some.inj e2]
theorem has_bound {n : Nat} {k : Int} (h : Has n k) : 2 * k.toNat + 1 < n ∧ n ≤ 512 ∧ (k.toNat : Int) = k ∧ k.toNat < n / 2 := by
  obtain ⟨h1, h2, h3⟩ := h
  unfold Ino.Sized at h1
  omega
theorem pointed {xs : List UInt8} {k tt : Int} (h : Has xs.length k ∧ Nod.Pg tt) : pointL xs k tt = put xs k.toNat tt.toNat ∧ pointE xs k tt = 0 := by
  unfold pointL pointE; rw [if_pos h, if_pos h]; exact ⟨rfl, rfl⟩
theorem pointed_no {xs : List UInt8} {k tt : Int} (h : ¬ (Has xs.length k ∧ Nod.Pg tt)) : pointL xs k tt = [] ∧ pointE xs k tt = 1 := by
  unfold pointL pointE; rw [if_neg h, if_neg h]; exact ⟨rfl, rfl⟩
theorem point_here {xs : List UInt8} {k tt : Int} (h : Has xs.length k ∧ Nod.Pg tt) : ptrV (put xs k.toNat tt.toNat) k = tt ∧ ptrE (put xs k.toNat tt.toNat) k = 0 := by
  obtain ⟨b1, b2, b3, b4⟩ := has_bound h.1
  have hp := h.2
  unfold Nod.Pg at hp
  have hl := put_len (tt := tt.toNat) b1
  have e := two_put (tt := tt.toNat) b1 (by omega)
  obtain ⟨r1, r2⟩ := ptr_yes (xs := put xs k.toNat tt.toNat) (k := k) (by rw [hl]; exact h.1) (by rw [e]; omega)
  rw [r1, r2, e]
  exact ⟨by omega, rfl⟩
theorem point_other {xs : List UInt8} {k tt i : Int} (h : Has xs.length k ∧ Nod.Pg tt) (hne : i ≠ k) : ptrV (put xs k.toNat tt.toNat) i = ptrV xs i ∧ ptrE (put xs k.toNat tt.toNat) i = ptrE xs i := by
  obtain ⟨b1, b2, b3, b4⟩ := has_bound h.1
  have hl := put_len (tt := tt.toNat) b1
  unfold ptrV ptrE
  rw [hl]
  by_cases hi : Has xs.length i
  · obtain ⟨c1, c2, c3, c4⟩ := has_bound hi
    rw [two_other b1 c1 (by omega)]
    exact ⟨rfl, rfl⟩
  · rw [if_neg hi, if_neg hi, if_neg hi, if_neg hi]
    exact ⟨rfl, rfl⟩
end Go.Proofs.Ytjnjemhnceejeaa.Pt
