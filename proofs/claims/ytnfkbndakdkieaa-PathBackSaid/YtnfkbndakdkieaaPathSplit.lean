/-
  Both Splits, and the law file's known.
-/
import Derived.Test.YtnfkbndakdkieaaPathRefP
namespace Go.Proofs.Ytnfkbndakdkieaa
open Go.RowKit

namespace Pth
def splitP (l : List UInt8) : List (List UInt8) × List UInt8 × Int :=
  if (parse l).2 = 0 then (if (parse l).1 = [] then ([], [], 72) else ((parse l).1.dropLast, (parse l).1.getLast?.getD [], 0)) else ([], [], (parse l).2)
end Pth
def SplitR (l : List UInt8) (w : World) (e : Ending) (w' : World) : Prop :=
  (∃ a n c, e = .returned (.tuple #[.slice a n c, .string (strL (Pth.splitP l).2.1), .int .i64 (Pth.splitP l).2.2]) ∧ Arr strV w' w'.heap.size a n (Pth.splitP l).1) ∧ Below w.heap.size w w'
theorem last_at (xs : List (List UInt8)) (m : Nat) (h : xs.length = m + 1) (hm : m < xs.length) : xs.getLast?.getD [] = xs[m] := by
  rw [List.getLast?_eq_getElem?, h, Nat.add_sub_cancel, List.getElem?_eq_getElem hm, Option.getD_some]
set_option maxHeartbeats 1000000 in
theorem split_calls (l : List UInt8) (w : World) (hl : l.length ≤ 140737488351232) :
    Calls Try.prog 17 #[.string (strL l)] w (SplitR l w) := by
  have hpc := Lib.hid (parse_calls l w hl)
  unfold ParseR at hpc
  have HS := Lib.hid (show Pth.splitP l = (if (Pth.parse l).2 = 0 then (if (Pth.parse l).1 = [] then ([], [], 72) else ((Pth.parse l).1.dropLast, (Pth.parse l).1.getLast?.getD [], 0)) else ([], [], (Pth.parse l).2)) from rfl)
  unfold SplitR
  have hlen : (Pth.parse l).1.length ≤ 16777216 := by
    unfold Pth.parse
    split
    · simp
    · split
      · have := Pth.parts_len l
        rename_i h _
        have h2 : l.length ≤ 255 := by omega
        exact Nat.le_trans this (by omega)
      · simp
  generalize Pth.splitP l = S at *
  generalize Pth.parse l = R at *
  obtain ⟨xs, E⟩ := R
  by_cases hE : E = 0
  · subst hE
    by_cases h0 : xs = []
    · subst h0
      have hs := Lib.hid (show S = ([], [], 72) by rw [HS.out]; rfl)
      clear HS
      go_enter Try.func17, Try.ntmps17
      go_wp2_with fail
      refine hpc.out.mono ?_
      rintro e w1 ⟨⟨v, rfl, ho⟩, hb⟩
      obtain ⟨a1, c1, rfl, _⟩ := ho.formN (n := 0) rfl
      have HB := Lib.hid hb
      clear ho hb
      go_wp2
      go_ret3
      rw [hs.out]
      exact ⟨⟨_, _, _, rfl, Arr.none_ _ _ _⟩, HB.out⟩
    · obtain ⟨m, hm⟩ : ∃ m, xs.length = m + 1 := ⟨xs.length - 1, by have := List.length_pos_iff.2 h0; omega⟩
      have hml : m < xs.length := by omega
      have hs := Lib.hid (show S = (xs.take m, xs[m], 0) by
        rw [HS.out, if_pos rfl, if_neg h0, List.dropLast_eq_take, hm, Nat.add_sub_cancel, last_at xs m hm hml])
      have HM := Lib.hid hm
      simp only at hlen
      have hm2 : m ≤ 16777216 := by omega
      clear HS hm h0
      go_enter Try.func17, Try.ntmps17
      go_wp2_with fail
      refine hpc.out.mono ?_
      rintro e w1 ⟨⟨v, rfl, ho⟩, hb⟩
      obtain ⟨a1, c1, rfl, hc1⟩ := ho.formN (n := m + 1) HM.out
      have HA := Lib.hid (ho.arr (by rw [HM.out]; omega))
      have HB := Lib.hid hb
      obtain ⟨b1, o1, hk1, rfl, hbl1, hcl⟩ := HA.out.atv (k := m) (by omega)
      rw [strV_eq] at hcl
      have q1 : IntKind.i64.wrap (m : Int) = (m : Int) := IntWalk.i64_in _ ⟨by omega, by omega⟩
      have q2 : (m : Int) + 1 - 1 = (m : Int) := by omega
      have q3 : (0 : Int) ≤ (m : Int) := by omega
      have q4 : (m : Int) ≤ (c1 : Int) := by omega
      have q5 : (m : Int) < (m : Int) + 1 := by omega
      clear ho hb
      go_wp2_with fail
      go_quiet (fail)
      go_wp2
      go_ret3
      rw [hs.out]
      exact ⟨⟨_, _, _, rfl, (HA.out.take (k := m) (by omega)).below (below_drewN _ _) |>.mono (by simp)⟩, HB.out.trans (below_drewN _ _)⟩
  · have hs := Lib.hid (show S = ([], [], E) by rw [HS.out]; exact if_neg hE)
    have g1 : (E == 0) = false := by simpa using hE
    have g2 : (E != 0) = true := by simpa using hE
    clear HS hE
    go_enter Try.func17, Try.ntmps17
    go_wp2_with fail
    refine hpc.out.mono ?_
    rintro e w1 ⟨⟨v, rfl, ho⟩, hb⟩
    have HB := Lib.hid hb
    clear ho hb
    go_wp2
    go_ret3
    rw [hs.out]
    exact ⟨⟨_, _, _, rfl, Arr.none_ _ _ _⟩, HB.out⟩
theorem pk1 : Pth.parse [47, 97, 47, 47, 98, 47] = ([[97], [98]], 0) := by decide
theorem pk2 : (Pth.parse [97]).2 = 30 := by decide
theorem pk3 : (Pth.parse [47, 46, 47, 97]).2 = 31 := by decide
theorem pk4 : (Pth.splitP [47]).2 = ([], 72) := by decide
set_option maxHeartbeats 1000000 in
theorem known_calls (w : World) :
    Calls Try.prog 9 #[] w fun e w' => e = .returned (.bool true) ∧ Below w.heap.size w w' := by
  have c1 := Lib.hid (parse_calls [47, 97, 47, 47, 98, 47] w (by decide))
  have c2 := Lib.hid (fun w => parse_calls [97] w (by decide))
  have c3 := Lib.hid (fun w => parse_calls [47, 46, 47, 97] w (by decide))
  have c4 := Lib.hid (fun w => split_calls [47] w (by decide))
  unfold ParseR strL at c1 c2 c3
  unfold SplitR at c4
  rw [pk1] at c1
  simp only [pk2] at c2
  simp only [pk3] at c3
  simp only [pk4] at c4
  unfold strL at c4
  go_enter Try.func9, Try.ntmps9
  go_wp2_with fail
  refine c1.out.mono ?_
  rintro e w1 ⟨⟨v1, rfl, ho⟩, hb⟩
  obtain ⟨a1, d1, rfl, _⟩ := ho.formN (n := 2) rfl
  have HX1 := Lib.hid (ho.arr (by simp))
  have HB1 := Lib.hid hb
  clear ho hb
  go_wp2_with fail
  refine (c2.out _).mono ?_
  rintro e w2 ⟨⟨v2, rfl, _⟩, hb⟩
  have HX2 := Lib.hid (HX1.out.on hb)
  have HB2 := Lib.hid (HB1.out.then_ hb)
  clear hb
  go_wp2_with fail
  refine (c3.out _).mono ?_
  rintro e w3 ⟨⟨v3, rfl, _⟩, hb⟩
  have HX3 := Lib.hid (HX2.out.on hb)
  have HB3 := Lib.hid (HB2.out.then_ hb)
  clear hb
  go_wp2_with fail
  refine (c4.out _).mono ?_
  rintro e w4 ⟨⟨a4, n4, d4, rfl, _⟩, hb⟩
  have HX4 := Lib.hid (HX3.out.on hb)
  have HB4 := Lib.hid (HB3.out.then_ hb)
  clear hb
  have hy := Lib.hid (Arr.lit w4 9 [[97], [98]] 2 rfl (by omega) (f := strV) (cs := #[.string ⟨#[97]⟩, .string ⟨#[98]⟩]) rfl)
  have hb5 := Lib.hid ((Below.refl w4.heap.size w4).alloc (Nat.le_refl _) (.cells #[.string ⟨#[97]⟩, .string ⟨#[98]⟩] 9))
  have HX5 := Lib.hid (HX4.out.on hb5.out)
  go_wp2_with fail
  refine (same_texts _ _ _ _ _ _ _ _ _ HX5.out hy.out).mono ?_
  rintro e w6 ⟨rfl, hb⟩
  have HB6 := Lib.hid ((HB4.out.then_ hb5.out).then_ hb)
  clear hb
  go_wp2
  go_ret
  exact ⟨rfl, HB6.out⟩
set_option maxHeartbeats 1000000 in
theorem pathParses_walk (s : ByteArray) (w : World) (hs : s.size ≤ 140737488351232) :
    Calls Try.prog 3 #[.string s] w fun e w' => e = .returned (.bool true) ∧ Below w.heap.size w w' := by
  obtain ⟨l, rfl⟩ := strL_of s
  rw [strL_size] at hs
  by_cases hl : 2000 < l.length
  · have hd : decide (2000 < l.length) = true := decide_eq_true hl
    clear hl
    go_enter Try.func3, Try.ntmps3
    go_wp2_with fail
    refine (plong_calls l _).mono ?_
    rintro e w_ ⟨rfl, rfl⟩
    rw [hd]
    go_wp2_with fail
    refine (known_calls _).mono ?_
    rintro e wk_ ⟨rfl, h_⟩
    have HBk_ := Lib.hid h_
    clear h_
    go_wp2
    go_ret
    exact ⟨rfl, HBk_.out⟩
  have hd : decide (2000 < l.length) = false := decide_eq_false hl
  have c1 := Lib.hid (fun w => parse_calls l w hs)
  have c2 := Lib.hid (fun w => refParse_calls l w hs)
  have hlen : (Pth.parse l).1.length ≤ 16777216 := by
    unfold Pth.parse
    split
    · simp
    · split
      · exact Nat.le_trans (Pth.parts_len l) (by omega)
      · simp
  unfold ParseR at c1 c2
  generalize Pth.parse l = R at *
  obtain ⟨xs, E⟩ := R
  clear hl
  go_enter Try.func3, Try.ntmps3
  go_wp2_with fail
  refine (plong_calls l _).mono ?_
  rintro e w_ ⟨rfl, rfl⟩
  rw [hd]
  clear hd
  go_wp2_with fail
  refine (c1.out _).mono ?_
  rintro e w1 ⟨⟨v1, rfl, ho⟩, hb⟩
  obtain ⟨a1, d1, rfl, _⟩ := ho.form
  have HX1 := Lib.hid (ho.arr (by omega))
  have HB1 := Lib.hid hb
  clear ho hb
  go_wp2_with fail
  refine (c2.out _).mono ?_
  rintro e w2 ⟨⟨v2, rfl, ho⟩, hb⟩
  obtain ⟨a2, d2, rfl, _⟩ := ho.form
  have HX2 := Lib.hid (HX1.out.on hb)
  have HY2 := Lib.hid (ho.arr (by omega))
  have HB2 := Lib.hid (HB1.out.then_ hb)
  clear ho hb
  go_wp2_with fail
  refine (same_texts _ _ _ _ _ _ _ _ _ HX2.out HY2.out).mono ?_
  rintro e w3 ⟨rfl, hb⟩
  have HB3 := Lib.hid (HB2.out.then_ hb)
  clear hb
  rw [decide_eq_true (rfl : xs = xs)]
  go_wp2_with fail
  refine (known_calls _).mono ?_
  rintro e wk_ ⟨rfl, h_⟩
  have HBk_ := Lib.hid h_
  clear h_
  go_wp2
  go_ret
  exact ⟨rfl, Below.then_ (HB3.out) HBk_.out⟩
end Go.Proofs.Ytnfkbndakdkieaa
