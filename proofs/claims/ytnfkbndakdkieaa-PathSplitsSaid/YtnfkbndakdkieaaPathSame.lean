/-
  The reference's Parse and Same.
-/
import Derived.Test.YtnfkbndakdkieaaPathRef
namespace Go.Proofs.Ytnfkbndakdkieaa
open Go.RowKit

set_option maxHeartbeats 1000000 in
theorem same_texts (a b : Option Addr) (n m c d : Nat) (xs ys : List (List UInt8)) (w : World) (hx : Arr strV w w.heap.size a n xs) (hy : Arr strV w w.heap.size b m ys) :
    Calls Try.prog 12 #[.slice a n c, .slice b m d] w fun e w' => e = .returned (.bool (decide (xs = ys))) ∧ Below w.heap.size w w' := by
  have HX := Lib.hid hx
  have HY := Lib.hid hy
  have hn := hx.room
  have lx := hx.len
  have ly := hy.len
  by_cases hl : n = m
  · subst hl
    have HD := Lib.hid (fun (h : ¬ xs = ys) => (decide_eq_false h : decide (xs = ys) = false))
    have HE := Lib.hid (fun (h : xs = ys) => (decide_eq_true h : decide (xs = ys) = true))
    have LX := Lib.hid lx
    have LY := Lib.hid ly
    generalize decide (xs = ys) = D at *
    clear hx hy lx ly
    go_enter Try.func12, Try.ntmps12
    go_wp2
    go_loopw [5] (fun i wr => ∃ k : Nat, k ≤ n ∧ i = .int .i64 k ∧ xs.take k = ys.take k ∧ Below w.heap.size w wr) (fun i _ => n - (intOf i).toNat)
    case atStart => exact ⟨0, by omega, rfl, rfl, Below.refl _ _⟩
    case round =>
      obtain ⟨k, hk, rfl, ht, hb⟩ := hrel
      have HT := Lib.hid ht
      have HB := Lib.hid hb
      clear ht hb
      by_cases hlt : k < n
      · obtain ⟨b1, o1, hk1, rfl, hbl1, hc1⟩ := (HX.out.below HB.out).atv hlt
        obtain ⟨b2, o2, hk2, rfl, hbl2, hc2⟩ := (HY.out.below HB.out).atv hlt
        rw [strV_eq] at hc1 hc2
        have t1 := Lib.hid (List.take_succ_eq_append_getElem hk1)
        have t2 := Lib.hid (List.take_succ_eq_append_getElem hk2)
        have HG := Lib.hid (fun (h : xs = ys) => (by subst h; rfl : xs[k] = ys[k]))
        have g1 : (0 : Int) ≤ (k : Int) := by omega
        have g2 : (k : Int) < (n : Int) := by omega
        generalize xs[k] = x at *
        generalize ys[k] = y at *
        by_cases he : x = y
        · subst he
          have g3 : (x == x) = true := by simp
          go_wp2_with fail
          go_quiet (fail)
          go_wp2
          go_roundw
          case rel => exact ⟨k + 1, by omega, by go_num, by rw [t1.out, t2.out, HT.out], HB.out.trans (below_drewN _ _)⟩
          case measure => simp [intOf]; omega
        · have g3 : (x == y) = false := by simpa using he
          have hd := Lib.hid (HD.out (fun h => he (HG.out h)))
          clear he
          go_wp2_with fail
          go_quiet (fail)
          go_wp2
          go_ret
          exact ⟨by rw [hd.out]; rfl, HB.out.trans (below_drewN _ _)⟩
      · obtain rfl : k = n := by omega
        have hd := Lib.hid (HE.out (by
          have h := HT.out
          rw [List.take_of_length_le (by rw [LX.out]; omega), List.take_of_length_le (by rw [LY.out]; omega)] at h
          exact h))
        go_wp2
        go_ret
        exact ⟨by rw [hd.out]; rfl, HB.out⟩
  · have g1 : ((n : Int) == (m : Int)) = false := by rw [beq_eq_false_iff_ne]; omega
    have g2 : ((n : Int) != (m : Int)) = true := by rw [bne_iff_ne]; omega
    rw [decide_eq_false (show ¬ xs = ys from fun e => hl (by rw [← lx, ← ly, e]))]
    clear hx hy lx ly hl
    go_enter Try.func12, Try.ntmps12
    go_wp2
    go_ret
    exact ⟨rfl, Below.refl _ _⟩
end Go.Proofs.Ytnfkbndakdkieaa
