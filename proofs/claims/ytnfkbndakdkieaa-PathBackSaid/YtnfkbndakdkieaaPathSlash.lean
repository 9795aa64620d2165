/-
  The walk of the law PathSlashes.
-/
import Derived.Test.YtnfkbndakdkieaaPathSplit
import Derived.Test.YtnfkbndakdkieaaNumAmong
namespace Go.Proofs.Ytnfkbndakdkieaa
open Go.RowKit

namespace Pth
theorem opt_nil : opt [] = [] := rfl
theorem partsA_slashes (j : Nat) (cu : List UInt8) : partsA cu (List.replicate j 47) = opt cu := by
  induction j generalizing cu with
  | zero => rfl
  | succ j ih => rw [List.replicate_succ, partsA, if_pos rfl, ih, opt_nil, List.append_nil]
theorem partsA_behind (l : List UInt8) (j : Nat) (cu : List UInt8) : partsA cu (l ++ List.replicate j 47) = partsA cu l := by
  induction l generalizing cu with
  | nil => rw [List.nil_append, partsA_slashes]; rfl
  | cons c r ih =>
    rw [List.cons_append, partsA, partsA]
    by_cases h : c = 47
    · rw [if_pos h, if_pos h, ih]
    · rw [if_neg h, if_neg h, ih]
theorem partsA_more (j : Nat) (b cu : List UInt8) : partsA cu (List.replicate j 47 ++ 47 :: b) = partsA cu (47 :: b) := by
  induction j generalizing cu with
  | zero => rfl
  | succ j ih =>
    rw [List.replicate_succ, List.cons_append, partsA, if_pos rfl, ih, partsA, if_pos rfl, opt_nil, List.nil_append, partsA, if_pos rfl]
theorem partsA_amid (a : List UInt8) (j : Nat) (b cu : List UInt8) : partsA cu (a ++ (List.replicate j 47 ++ 47 :: b)) = partsA cu (a ++ 47 :: b) := by
  induction a generalizing cu with
  | nil => exact partsA_more j b cu
  | cons c r ih =>
    rw [List.cons_append, List.cons_append, partsA, partsA]
    by_cases h : c = 47
    · rw [if_pos h, if_pos h, ih]
    · rw [if_neg h, if_neg h, ih]
theorem parse_same (p q : List UInt8) (hp : parts q = parts p) (h0 : p ≠ []) (h1 : p.length ≤ 255) (h2 : q.length ≤ 255) (h3 : q.head? = p.head?) : parse q = parse p := by
  have hq : q ≠ [] := by
    intro e
    subst e
    cases p with
    | nil => exact h0 rfl
    | cons c r => cases h3
  unfold parse
  rw [hp, h3]
  have e1 : (q = [] ∨ 255 < q.length ∨ p.head? ≠ some 47) ↔ (p = [] ∨ 255 < p.length ∨ p.head? ≠ some 47) := by
    constructor
    · rintro (h | h | h)
      · exact absurd h hq
      · omega
      · exact .inr (.inr h)
    · rintro (h | h | h)
      · exact absurd h h0
      · omega
      · exact .inr (.inr h)
  by_cases h : p = [] ∨ 255 < p.length ∨ p.head? ≠ some 47
  · rw [if_pos h, if_pos (e1.2 h)]
  · rw [if_neg h, if_neg (fun h' => h (e1.1 h'))]
theorem parse_behind (p : List UInt8) (j : Nat) (h0 : p ≠ []) (h1 : p.length ≤ 200) (hj : j < 20) : parse (p ++ List.replicate j 47) = parse p := by
  refine parse_same p _ (partsA_behind p j []) h0 (by omega) (by rw [List.length_append, List.length_replicate]; omega) ?_
  cases p with
  | nil => exact absurd rfl h0
  | cons c r => rfl
theorem parse_amid (p : List UInt8) (k j : Nat) (hk : k < p.length) (hc : p[k] = 47) (h1 : p.length ≤ 200) (hj : j < 20) : parse (p.take k ++ List.replicate j 47 ++ p.drop k) = parse p := by
  have hd : p.drop k = 47 :: p.drop (k + 1) := by rw [List.drop_eq_getElem_cons hk, hc]
  have hp : p = p.take k ++ 47 :: p.drop (k + 1) := by rw [← hd, List.take_append_drop]
  refine parse_same p _ ?_ (by intro e; subst e; simp at hk) (by omega) (by simp only [List.length_append, List.length_replicate, List.length_take, List.length_drop]; omega) ?_
  · rw [hd, List.append_assoc]
    conv => rhs; rw [hp]
    exact partsA_amid _ j _ []
  · rw [hd]
    conv => rhs; rw [hp]
    cases k with
    | zero =>
      cases j with
      | zero => rfl
      | succ j => rfl
    | succ k =>
      cases p with
      | nil => simp at hk
      | cons c r => rfl
end Pth
theorem parse_fst_len (l : List UInt8) : (Pth.parse l).1.length ≤ 255 := by
  unfold Pth.parse
  split
  · simp
  · rename_i h
    split
    · exact Nat.le_trans (Pth.parts_len l) (by omega)
    · simp
section
attribute [local go_sem] strL_cut
set_option maxHeartbeats 2000000 in
theorem pathSlashes_walk (s : ByteArray) (at_ : Int) (n : UInt8) (w : World) (hs : s.size ≤ 140737488351232) (lo : -9223372036854775808 ≤ at_) (hi : at_ ≤ 9223372036854775807) :
    Calls Try.prog 4 #[.string s, .int .i64 at_, .int .u8 n.toNat] w fun e w' => e = .returned (.bool true) ∧ Below w.heap.size w w' := by
  obtain ⟨p, rfl⟩ := strL_of s
  rw [strL_size] at hs
  by_cases h1 : 200 < p.length
  · have g1 : decide (200 < (p.length : Int)) = true := decide_eq_true (by omega)
    clear h1
    go_enter Try.func4, Try.ntmps4
    go_wp2_with fail
    refine (known_calls _).mono ?_
    rintro e wk_ ⟨rfl, h_⟩
    have HBk_ := Lib.hid h_
    clear h_
    go_wp2
    go_ret
    exact ⟨rfl, HBk_.out⟩
  have g1 : decide (200 < (p.length : Int)) = false := decide_eq_false (by omega)
  by_cases h0 : p = []
  · subst h0
    clear h1
    go_enter Try.func4, Try.ntmps4
    go_wp2_with fail
    refine (known_calls _).mono ?_
    rintro e wk_ ⟨rfl, h_⟩
    have HBk_ := Lib.hid h_
    clear h_
    go_wp2
    go_ret
    exact ⟨rfl, HBk_.out⟩
  have hpos := List.length_pos_iff.2 h0
  have g2 : ((p.length : Int) == 0) = false := by rw [beq_eq_false_iff_ne]; omega
  have g2' : p.length ≠ 0 := by omega
  obtain ⟨k, hk, hkp⟩ := among_nat at_ p.length (by omega)
  have hac := Lib.hid (among_calls at_ (p.length : Int) w lo hi (by omega))
  rw [hk] at hac
  have hnn := n.toNat_lt
  generalize n.toNat = N at *
  obtain ⟨j, hj⟩ : ∃ j, j = N % 20 := ⟨_, rfl⟩
  have hj20 : j < 20 := by omega
  have g3 : (N : Int) % 20 = (j : Int) := by omega
  have hp200 : p.length ≤ 200 := by omega
  have H0 := Lib.hid h0
  clear hk hj h1 h0
  go_enter Try.func4, Try.ntmps4
  go_wp2_with fail
  refine (hac.out).mono ?_
  rintro e w_ ⟨rfl, rfl⟩
  go_wp2
  go_loop [8, 9] (fun m i => ∃ t : Nat, t ≤ j ∧ i = .int .i64 t ∧ m = .string (strL (List.replicate t 47))) (fun _ i => j - (intOf i).toNat)
  case atStart => exact ⟨0, by omega, rfl, rfl⟩
  case round =>
    obtain ⟨t, ht, rfl, rfl⟩ := hrel
    by_cases hlt : t < j
    · have hr := Lib.hid (show List.replicate (t + 1) (47 : UInt8) = List.replicate t 47 ++ [47] from List.replicate_succ')
      have hl : (List.replicate t (47 : UInt8)).length ≤ 20 := by rw [List.length_replicate]; omega
      generalize List.replicate t (47 : UInt8) = m at *
      go_wp2
      go_round
      case rel => exact ⟨t + 1, by omega, by go_num, by rw [hr.out, ← strL_append]; rfl⟩
      case measure => simp [intOf]; omega
    · obtain rfl : t = j := by omega
      have hm20 : (List.replicate t (47 : UInt8)).length ≤ 20 := by rw [List.length_replicate]; omega
      have HB := Lib.hid (Pth.parse_behind p t H0.out hp200 hj20)
      have HAm := Lib.hid (fun h => Pth.parse_amid p k t hkp h hp200 hj20)
      have HL := Lib.hid (List.length_replicate (n := t) (a := (47 : UInt8)))
      generalize List.replicate t (47 : UInt8) = m at *
      clear ht
      by_cases hk47 : p[k] = 47
      · have g5 : ((p[k].toNat : Int) == 47) = true := by rw [hk47]; rfl
        have HQ := Lib.hid (HAm.out hk47)
        clear HAm HB hk47
        by_cases h47 : p[0] = 47
        · have g6 : ((p[0].toNat : Int) != 47) = false := by rw [h47]; rfl
          clear h47
          have q1 : (k : Int) ≤ (p.length : Int) := by omega
          go_wp2_with fail
          go_quiet (fail)
          go_wp2_with fail
          generalize hq : List.take k p ++ (m ++ List.take (p.length - k) (List.drop k p)) = q at *
          have HQP := Lib.hid (show Pth.parse q = Pth.parse p by rw [← hq, List.take_of_length_le (show (p.drop k).length ≤ p.length - k by simp), ← List.append_assoc]; exact HQ.out)
          have HQE := Lib.hid hq
          clear hq HQ
          refine (parse_calls p _ hs).mono ?_
          rintro e w1 ⟨⟨v1, rfl, ho⟩, hb⟩
          obtain ⟨a1, d1, rfl, _⟩ := ho.form
          have HX1 := Lib.hid (ho.arr (by have := parse_fst_len p; omega))
          have HB1 := Lib.hid (((Below.refl w.heap.size w).trans (below_drewN w nq)).trans (hb.mono (by simp)))
          clear ho hb
          go_wp2_with fail
          refine (parse_calls q _ (by rw [← HQE.out]; simp only [List.length_append, List.length_take, List.length_drop]; omega)).mono ?_
          rintro e w2 ⟨⟨v2, rfl, ho⟩, hb⟩
          rw [HQP.out] at ho ⊢
          obtain ⟨a2, d2, rfl, _⟩ := ho.form
          have HX2 := Lib.hid (HX1.out.on hb)
          have HY2 := Lib.hid (ho.arr (by have := parse_fst_len p; omega))
          have HB2 := Lib.hid (HB1.out.then_ hb)
          clear ho hb
          generalize Pth.parse p = R at *
          obtain ⟨xs, E⟩ := R
          go_wp2_with fail
          refine (same_texts _ _ _ _ _ _ _ _ _ HX2.out HY2.out).mono ?_
          rintro e w3 ⟨rfl, hb⟩
          have HB3 := Lib.hid (HB2.out.then_ hb)
          clear hb
          rw [decide_eq_true (rfl : xs = xs)]
          go_wp2_with fail
          refine (known_calls _).mono ?_
          rintro e wk_ ⟨rfl, h_⟩
          have HBk_ := Lib.hid h_
          clear h_
          go_wp2
          go_ret
          exact ⟨rfl, Below.then_ (HB3.out) HBk_.out⟩
        · have g6 : ((p[0].toNat : Int) != 47) = true := by
            rw [bne_iff_ne]
            intro e
            apply h47
            apply UInt8.toNat_inj.1
            show p[0].toNat = 47
            omega
          clear h47
          go_wp2_with fail
          go_quiet (fail)
          go_wp2_with fail
          refine (known_calls _).mono ?_
          rintro e w1 ⟨rfl, hb⟩
          have HB1 := Lib.hid (((Below.refl w.heap.size w).trans (below_drewN w nq)).trans (hb.mono (by simp)))
          clear hb
          go_wp2
          go_ret
          exact ⟨rfl, HB1.out⟩
      · have g5 : ((p[k].toNat : Int) == 47) = false := by
          rw [beq_eq_false_iff_ne]
          intro e
          apply hk47
          apply UInt8.toNat_inj.1
          show p[k].toNat = 47
          omega
        clear HAm hk47
        by_cases h47 : p[0] = 47
        · have g6 : ((p[0].toNat : Int) != 47) = false := by rw [h47]; rfl
          clear h47
          go_wp2_with fail
          generalize hq : p ++ m = q at *
          have HQP := Lib.hid (show Pth.parse q = Pth.parse p from HB.out)
          have HQE := Lib.hid hq
          clear hq HB
          refine (parse_calls p _ hs).mono ?_
          rintro e w1 ⟨⟨v1, rfl, ho⟩, hb⟩
          obtain ⟨a1, d1, rfl, _⟩ := ho.form
          have HX1 := Lib.hid (ho.arr (by have := parse_fst_len p; omega))
          have HB1 := Lib.hid (hb)
          clear ho hb
          go_wp2_with fail
          refine (parse_calls q _ (by rw [← HQE.out]; simp only [List.length_append]; omega)).mono ?_
          rintro e w2 ⟨⟨v2, rfl, ho⟩, hb⟩
          rw [HQP.out] at ho ⊢
          obtain ⟨a2, d2, rfl, _⟩ := ho.form
          have HX2 := Lib.hid (HX1.out.on hb)
          have HY2 := Lib.hid (ho.arr (by have := parse_fst_len p; omega))
          have HB2 := Lib.hid (HB1.out.then_ hb)
          clear ho hb
          generalize Pth.parse p = R at *
          obtain ⟨xs, E⟩ := R
          go_wp2_with fail
          refine (same_texts _ _ _ _ _ _ _ _ _ HX2.out HY2.out).mono ?_
          rintro e w3 ⟨rfl, hb⟩
          have HB3 := Lib.hid (HB2.out.then_ hb)
          clear hb
          rw [decide_eq_true (rfl : xs = xs)]
          go_wp2_with fail
          refine (known_calls _).mono ?_
          rintro e wk_ ⟨rfl, h_⟩
          have HBk_ := Lib.hid h_
          clear h_
          go_wp2
          go_ret
          exact ⟨rfl, Below.then_ (HB3.out) HBk_.out⟩
        · have g6 : ((p[0].toNat : Int) != 47) = true := by
            rw [bne_iff_ne]
            intro e
            apply h47
            apply UInt8.toNat_inj.1
            show p[0].toNat = 47
            omega
          clear h47
          go_wp2_with fail
          refine (known_calls _).mono ?_
          rintro e wk_ ⟨rfl, h_⟩
          have HBk_ := Lib.hid h_
          clear h_
          go_wp2
          go_ret
          exact ⟨rfl, HBk_.out⟩
end
end Go.Proofs.Ytnfkbndakdkieaa
