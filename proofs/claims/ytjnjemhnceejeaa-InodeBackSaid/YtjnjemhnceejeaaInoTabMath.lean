/-
  Table pages, in plain mathematics: an inode got, an inode put.
-/
import Derived.Test.YtjnjemhnceejeaaInoMath
import Derived.Test.YtjnjemhnceejeaaInoRec
namespace Go.Proofs.Ytjnjemhnceejeaa
namespace Nod
theorem dropB (X n : Nat) (R : List UInt8) : (bigL X n ++ R).drop n = R := by
  rw [List.drop_append_of_le_length (by rw [bigL_len]; omega), List.drop_of_length_le (by rw [bigL_len]; omega), List.nil_append]
theorem takeB (X n : Nat) (R : List UInt8) (h : X < 256 ^ n) : numL ((bigL X n ++ R).take n) = X := by
  rw [List.take_append_of_le_length (by rw [bigL_len]; omega), List.take_of_length_le (by rw [bigL_len]; omega), numL_big_lt h]
set_option maxHeartbeats 1000000 in
theorem raw_chain (K Z : UInt8) (l s d0 d1 d2 d3 d4 d5 a b : Nat) (hl : l < 256 ^ 2) (hs : s < 256 ^ 4) (hd0 : d0 < 256 ^ 2) (hd1 : d1 < 256 ^ 2) (hd2 : d2 < 256 ^ 2) (hd3 : d3 < 256 ^ 2) (hd4 : d4 < 256 ^ 2) (hd5 : d5 < 256 ^ 2) (ha : a < 256 ^ 2) (hb : b < 256 ^ 2) :
    raw (K :: Z :: (bigL l 2 ++ (bigL s 4 ++ (bigL d0 2 ++ (bigL d1 2 ++ (bigL d2 2 ++ (bigL d3 2 ++ (bigL d4 2 ++ (bigL d5 2 ++ (bigL a 2 ++ (bigL b 2 ++ []))))))))))) = ⟨(K.toNat : Nat), l, s, d0, d1, d2, d3, d4, d5, a, b⟩ ∧ numL (((K :: Z :: (bigL l 2 ++ (bigL s 4 ++ (bigL d0 2 ++ (bigL d1 2 ++ (bigL d2 2 ++ (bigL d3 2 ++ (bigL d4 2 ++ (bigL d5 2 ++ (bigL a 2 ++ (bigL b 2 ++ []))))))))))).drop 1).take 1) = Z.toNat := by
  have z0 : numL ((K :: Z :: (bigL l 2 ++ (bigL s 4 ++ (bigL d0 2 ++ (bigL d1 2 ++ (bigL d2 2 ++ (bigL d3 2 ++ (bigL d4 2 ++ (bigL d5 2 ++ (bigL a 2 ++ (bigL b 2 ++ []))))))))))).take 1) = K.toNat := by
    rw [List.take_succ_cons, List.take_zero]; simp only [numL]; omega
  have z1 : numL (((K :: Z :: (bigL l 2 ++ (bigL s 4 ++ (bigL d0 2 ++ (bigL d1 2 ++ (bigL d2 2 ++ (bigL d3 2 ++ (bigL d4 2 ++ (bigL d5 2 ++ (bigL a 2 ++ (bigL b 2 ++ []))))))))))).drop 1).take 1) = Z.toNat := by
    rw [List.drop_succ_cons, List.drop_zero, List.take_succ_cons, List.take_zero]; simp only [numL]; omega
  have e2 : (K :: Z :: (bigL l 2 ++ (bigL s 4 ++ (bigL d0 2 ++ (bigL d1 2 ++ (bigL d2 2 ++ (bigL d3 2 ++ (bigL d4 2 ++ (bigL d5 2 ++ (bigL a 2 ++ (bigL b 2 ++ []))))))))))).drop 2 = (bigL l 2 ++ (bigL s 4 ++ (bigL d0 2 ++ (bigL d1 2 ++ (bigL d2 2 ++ (bigL d3 2 ++ (bigL d4 2 ++ (bigL d5 2 ++ (bigL a 2 ++ (bigL b 2 ++ [])))))))))) := rfl
  refine ⟨?_, z1⟩
  generalize hx : K :: Z :: (bigL l 2 ++ (bigL s 4 ++ (bigL d0 2 ++ (bigL d1 2 ++ (bigL d2 2 ++ (bigL d3 2 ++ (bigL d4 2 ++ (bigL d5 2 ++ (bigL a 2 ++ (bigL b 2 ++ [])))))))))) = xs at *
  clear hx z1
  have e4 : xs.drop 4 = (bigL s 4 ++ (bigL d0 2 ++ (bigL d1 2 ++ (bigL d2 2 ++ (bigL d3 2 ++ (bigL d4 2 ++ (bigL d5 2 ++ (bigL a 2 ++ (bigL b 2 ++ []))))))))) := by
    rw [show 4 = 2 + 2 from rfl, ← List.drop_drop, e2]; exact dropB _ _ _
  have e8 : xs.drop 8 = (bigL d0 2 ++ (bigL d1 2 ++ (bigL d2 2 ++ (bigL d3 2 ++ (bigL d4 2 ++ (bigL d5 2 ++ (bigL a 2 ++ (bigL b 2 ++ [])))))))) := by
    rw [show 8 = 4 + 4 from rfl, ← List.drop_drop, e4]; exact dropB _ _ _
  have e10 : xs.drop 10 = (bigL d1 2 ++ (bigL d2 2 ++ (bigL d3 2 ++ (bigL d4 2 ++ (bigL d5 2 ++ (bigL a 2 ++ (bigL b 2 ++ []))))))) := by
    rw [show 10 = 8 + 2 from rfl, ← List.drop_drop, e8]; exact dropB _ _ _
  have e12 : xs.drop 12 = (bigL d2 2 ++ (bigL d3 2 ++ (bigL d4 2 ++ (bigL d5 2 ++ (bigL a 2 ++ (bigL b 2 ++ [])))))) := by
    rw [show 12 = 10 + 2 from rfl, ← List.drop_drop, e10]; exact dropB _ _ _
  have e14 : xs.drop 14 = (bigL d3 2 ++ (bigL d4 2 ++ (bigL d5 2 ++ (bigL a 2 ++ (bigL b 2 ++ []))))) := by
    rw [show 14 = 12 + 2 from rfl, ← List.drop_drop, e12]; exact dropB _ _ _
  have e16 : xs.drop 16 = (bigL d4 2 ++ (bigL d5 2 ++ (bigL a 2 ++ (bigL b 2 ++ [])))) := by
    rw [show 16 = 14 + 2 from rfl, ← List.drop_drop, e14]; exact dropB _ _ _
  have e18 : xs.drop 18 = (bigL d5 2 ++ (bigL a 2 ++ (bigL b 2 ++ []))) := by
    rw [show 18 = 16 + 2 from rfl, ← List.drop_drop, e16]; exact dropB _ _ _
  have e20 : xs.drop 20 = (bigL a 2 ++ (bigL b 2 ++ [])) := by
    rw [show 20 = 18 + 2 from rfl, ← List.drop_drop, e18]; exact dropB _ _ _
  have e22 : xs.drop 22 = (bigL b 2 ++ []) := by
    rw [show 22 = 20 + 2 from rfl, ← List.drop_drop, e20]; exact dropB _ _ _
  unfold raw
  rw [z0, e2, e4, e8, e10, e12, e14, e16, e18, e20, e22]
  rw [takeB l 2 _ hl, takeB s 4 _ hs, takeB d0 2 _ hd0, takeB d1 2 _ hd1, takeB d2 2 _ hd2, takeB d3 2 _ hd3, takeB d4 2 _ hd4, takeB d5 2 _ hd5, takeB a 2 _ ha, takeB b 2 _ hb]
theorem raw_bytes {i : Nod} (h : Right i) : raw (bytes i) = i ∧ numL (((bytes i).drop 1).take 1) = 0 := by
  obtain ⟨⟨k1, k2⟩, ⟨l1, l2⟩, ⟨s1, s2⟩, hd, ha, hb⟩ := right_bounds h
  obtain ⟨k, l, s, d0, d1, d2, d3, d4, d5, a, b⟩ := i
  simp only [Dirs, Pg] at hd ha hb
  simp only at k1 k2 l1 l2 s1 s2
  obtain ⟨⟨x0, y0⟩, ⟨x1, y1⟩, ⟨x2, y2⟩, ⟨x3, y3⟩, ⟨x4, y4⟩, ⟨x5, y5⟩⟩ := hd
  have e2 : (256 : Nat) ^ 2 = 65536 := by decide
  have e4 : (256 : Nat) ^ 4 = 4294967296 := by decide
  have hc := raw_chain (UInt8.ofNat k.toNat) 0 l.toNat s.toNat d0.toNat d1.toNat d2.toNat d3.toNat d4.toNat d5.toNat a.toNat b.toNat (by rw [e2]; omega) (by rw [e4]; omega) (by rw [e2]; omega) (by rw [e2]; omega) (by rw [e2]; omega) (by rw [e2]; omega) (by rw [e2]; omega) (by rw [e2]; omega) (by rw [e2]; omega) (by rw [e2]; omega)
  have eb : bytes ⟨k, l, s, d0, d1, d2, d3, d4, d5, a, b⟩ = UInt8.ofNat k.toNat :: 0 :: (bigL l.toNat 2 ++ (bigL s.toNat 4 ++ (bigL d0.toNat 2 ++ (bigL d1.toNat 2 ++ (bigL d2.toNat 2 ++ (bigL d3.toNat 2 ++ (bigL d4.toNat 2 ++ (bigL d5.toNat 2 ++ (bigL a.toNat 2 ++ (bigL b.toNat 2 ++ [])))))))))) := by
    simp only [bytes, List.append_assoc, List.cons_append, List.nil_append, List.append_nil]
  rw [eb]
  refine ⟨hc.1.trans ?_, hc.2⟩
  have hk : (UInt8.ofNat k.toNat).toNat = k.toNat := by rw [UInt8.toNat_ofNat']; omega
  rw [hk]
  simp only [Nod.mk.injEq]
  omega
theorem read_bytes {i : Nod} (h : Right i) : readN (bytes i) = i ∧ readE (bytes i) = 0 := by
  obtain ⟨r1, r2⟩ := raw_bytes h
  obtain ⟨g1, g2⟩ := read_good (bytes_len i) r2 (by rw [r1]; exact h)
  exact ⟨g1.trans r1, g2⟩
/-- A table page of n bytes has an inode number k. -/
def In (n : Nat) (k : Int) : Prop := 0 ≤ k ∧ k < Ino.perPage n
instance (n : Nat) (k : Int) : Decidable (In n k) := by unfold In; exact inferInstance
def cut (xs : List UInt8) (j : Nat) : List UInt8 := (xs.drop (j * 24)).take 24
def getN (xs : List UInt8) (k : Int) : Nod := if In xs.length k then readN (cut xs k.toNat) else zero
def getE (xs : List UInt8) (k : Int) : Int := if In xs.length k then readE (cut xs k.toNat) else 1
def putAt (xs : List UInt8) (j : Nat) (i : Nod) : List UInt8 := xs.take (j * 24) ++ bytes i ++ xs.drop (j * 24 + 24)
def putL (xs : List UInt8) (k : Int) (i : Nod) : List UInt8 := if In xs.length k ∧ Right i then putAt xs k.toNat i else []
def putE (xs : List UInt8) (k : Int) (i : Nod) : Int := if In xs.length k then (if Right i then 0 else 51) else 1
theorem in_bound {n : Nat} {k : Int} (h : In n k) : (k.toNat : Int) = k ∧ k.toNat * 24 + 24 ≤ n ∧ n ≤ 512 ∧ Ino.Sized n := by
  obtain ⟨h1, h2⟩ := h
  unfold Ino.perPage at h2
  by_cases hs : Ino.Sized n
  · rw [if_pos hs] at h2
    refine ⟨by omega, by omega, ?_, hs⟩
    unfold Ino.Sized at hs; omega
  · rw [if_neg hs] at h2; omega
theorem putAt_len {xs : List UInt8} {j : Nat} {i : Nod} (h : j * 24 + 24 ≤ xs.length) : (putAt xs j i).length = xs.length := by
  simp only [putAt, List.length_append, List.length_take, List.length_drop, bytes_len]; omega
theorem cut_put {xs : List UInt8} {j : Nat} {i : Nod} (h : j * 24 + 24 ≤ xs.length) : cut (putAt xs j i) j = bytes i := by
  unfold cut putAt
  rw [List.append_assoc, List.drop_append, List.drop_of_length_le (by rw [List.length_take]; omega), List.nil_append, List.length_take, show j * 24 - min (j * 24) xs.length = 0 by omega, List.drop_zero,
    List.take_append_of_le_length (by rw [bytes_len]; omega), List.take_of_length_le (by rw [bytes_len]; omega)]
theorem put_get {xs : List UInt8} {j t : Nat} {i : Nod} (h : j * 24 + 24 ≤ xs.length) (ht : t < j * 24 ∨ j * 24 + 24 ≤ t) : (putAt xs j i)[t]? = xs[t]? := by
  unfold putAt
  rcases ht with ht | ht
  · rw [List.append_assoc, List.getElem?_append_left (by rw [List.length_take]; omega), List.getElem?_take, if_pos ht]
  · rw [List.getElem?_append_right (by simp only [List.length_append, List.length_take, bytes_len]; omega), List.getElem?_drop]
    simp only [List.length_append, List.length_take, bytes_len]
    congr 1; omega
theorem cut_other {xs : List UInt8} {j t : Nat} {i : Nod} (h : j * 24 + 24 ≤ xs.length) (hne : t ≠ j) : cut (putAt xs j i) t = cut xs t := by
  apply List.ext_getElem?
  intro m
  unfold cut
  rw [List.getElem?_take, List.getElem?_take, List.getElem?_drop, List.getElem?_drop]
  by_cases hm : m < 24
  · rw [if_pos hm, if_pos hm, put_get h (by omega)]
  · rw [if_neg hm, if_neg hm]
theorem get_here {xs : List UInt8} {k : Int} {i : Nod} (h : In xs.length k) (hr : Right i) : getN (putAt xs k.toNat i) k = i ∧ getE (putAt xs k.toNat i) k = 0 := by
  obtain ⟨b1, b2, _, _⟩ := in_bound h
  unfold getN getE
  rw [putAt_len b2, if_pos h, if_pos h, cut_put b2]
  exact read_bytes hr
theorem get_other {xs : List UInt8} {k t : Int} {i : Nod} (h : In xs.length k) (hne : t ≠ k) : getN (putAt xs k.toNat i) t = getN xs t ∧ getE (putAt xs k.toNat i) t = getE xs t := by
  obtain ⟨b1, b2, _, _⟩ := in_bound h
  unfold getN getE
  rw [putAt_len b2]
  by_cases ht : In xs.length t
  · obtain ⟨c1, _, _, _⟩ := in_bound ht
    rw [cut_other b2 (by omega)]
    exact ⟨rfl, rfl⟩
  · rw [if_neg ht, if_neg ht, if_neg ht, if_neg ht]
    exact ⟨rfl, rfl⟩
end Nod
end Go.Proofs.Ytjnjemhnceejeaa
