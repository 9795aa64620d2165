/-
  The law file's known and wide.
-/
import Derived.Test.YtfiphpdagnlbbaaRoomDir
import Derived.Test.YtfiphpdagnlbbaaRoomPlanP
namespace Go.Proofs.Ytfiphpdagnlbbaa
open Go.RowKit

theorem kn1 : Room.file 64 [38, 70] = (5, 0) := by decide
theorem kn2 : Room.dir 64 5 = (2, 0) := by decide
theorem kn3 : Room.plan 64 102 = ((2, 3, 36, 4), 0) := by decide
theorem kn4 : Room.file 64 [3, 3] = (0, 1) := by decide
set_option maxHeartbeats 4000000 in
theorem known_calls (w : World) :
    Calls Try.prog 11 #[] w fun e w' => e = .returned (.bool true) ∧ Below w.heap.size w w' := by
  have bb : ∀ (l : List Int), (∀ x ∈ l, 0 ≤ x ∧ x ≤ 100) → ∀ x ∈ l, -9223372036854775808 ≤ x ∧ x ≤ 9223372036854775807 := fun l h x hx => by have := h x hx; omega
  have BB := Lib.hid bb
  clear bb
  go_enter Try.func11, Try.ntmps11
  go_wp2_with fail
  have hy1 := Arr.lit (f := intV) w 3 [38, 70] 2 rfl (by decide) (cs := #[.int .i64 38, .int .i64 70]) rfl
  have HB1 := Lib.hid (Below.heap_allocB w (.cells #[.int .i64 38, .int .i64 70] 3))
  have hc1 := file_calls 64 _ _ 2 _ _ hy1 (BB.out _ (by decide)) (by decide)
  rw [kn1] at hc1
  refine hc1.mono ?_
  clear hc1 hy1
  rintro e w1 ⟨rfl, hb⟩
  have HB2 := Lib.hid (HB1.out.then_ hb)
  clear hb
  go_wp2_with fail
  have hc2 := dir_calls 64 5 w1 (by omega) (by omega)
  rw [kn2] at hc2
  refine hc2.mono ?_
  clear hc2
  rintro e w2 ⟨rfl, hb⟩
  have HB3 := Lib.hid (HB2.out.then_ hb)
  clear hb
  go_wp2_with fail
  have hc3 := plan_calls 64 102 w2 (by omega)
  rw [kn3] at hc3
  have hc4 : Calls Try.prog 9 #[.int .i64 64, .int .i64 102] w2 (fun e w' => e = .returned (.tuple #[.agg #[.int .i64 2, .int .i64 3, .int .i64 36, .int .i64 4], .int .i64 0]) ∧ Below w2.heap.size w2 w') := hc3
  clear hc3
  refine hc4.mono ?_
  clear hc4
  rintro e w3 ⟨rfl, hb⟩
  have HB4 := Lib.hid (HB3.out.then_ (hb.alloc hb.size (.cells #[.int .i64 2, .int .i64 3, .int .i64 36, .int .i64 4] 23)))
  have bk := Lib.hid (Blk.new w3 23 #[.int .i64 2, .int .i64 3, .int .i64 36, .int .i64 4])
  clear hb
  go_upto_region 4 with fail
  obtain ⟨w4, hw4⟩ : ∃ w4, w4 = w3.alloc (.cells #[.int .i64 2, .int .i64 3, .int .i64 36, .int .i64 4] 23) := ⟨_, rfl⟩
  rw [← hw4] at bk HB4 ⊢
  generalize w3.heap.size = NB at *
  clear hw4
  have hlt := bk.out.lt
  go_wp2_with fail
  have hy1 := Arr.lit (f := intV) w4 3 [3, 3] 2 rfl (by decide) (cs := #[.int .i64 3, .int .i64 3]) rfl
  have hbb := Below.heap_allocB w4 (.cells #[.int .i64 3, .int .i64 3] 3)
  have bk2 := Lib.hid (bk.out.belowHere hbb)
  have HB5 := Lib.hid (HB4.out.then_ hbb)
  have hc1 := file_calls 64 _ _ 2 _ _ hy1 (BB.out _ (by decide)) (by decide)
  rw [kn4] at hc1
  refine hc1.mono ?_
  clear hc1 hy1 hbb
  rintro e w5 ⟨rfl, hb⟩
  have bk3 := bk2.out.belowHere hb
  have HB6 := Lib.hid (HB5.out.then_ hb)
  clear hb
  have c0 := bk3.cellv (i := 0) rfl
  have c1 := bk3.cellv (i := 1) rfl
  have c2 := bk3.cellv (i := 2) rfl
  have c3 := bk3.cellv (i := 3) rfl
  clear bk3
  go_wp2
  go_ret
  exact ⟨rfl, HB6.out⟩
def wideB (n : Nat) (f t : Int) : Bool := decide (200 < n ∨ (0 ≤ f ∧ t ≤ 131072 ∧ f < t ∧ 300 < t - f))
theorem wideB_no {n : Nat} {f t : Int} (h : wideB n f t = false) : n ≤ 200 ∧ Room.more f t ≤ 300 := by
  have h := of_decide_eq_false h
  unfold Room.more
  constructor
  · omega
  · split <;> omega
theorem wide_calls (a : Option Addr) (n c : Nat) (f t : Int) (w : World) (hf : -9223372036854775808 ≤ f ∧ f ≤ 9223372036854775807) (ht : -9223372036854775808 ≤ t ∧ t ≤ 9223372036854775807) :
    Calls Try.prog 17 #[.slice a n c, .int .i64 f, .int .i64 t] w fun e w' => e = .returned (.bool (wideB n f t)) ∧ w = w' := by
  obtain ⟨r, hr⟩ : ∃ r, r = wideB n f t := ⟨_, rfl⟩
  rw [← hr]
  unfold wideB at hr
  obtain ⟨f0, f1⟩ := hf
  obtain ⟨t0, t1⟩ := ht
  by_cases h1 : 200 < n
  · rw [decide_eq_true (.inl h1)] at hr
    subst hr
    have g1 : decide (200 < (n : Int)) = true := decide_eq_true (by omega)
    go_enter Try.func17, Try.ntmps17
    go_wp2
    go_ret
    exact ⟨rfl, rfl⟩
  have g1 : decide (200 < (n : Int)) = false := decide_eq_false (by omega)
  by_cases h2 : 0 ≤ f
  case neg =>
    rw [decide_eq_false (by omega)] at hr
    subst hr
    have g2 : decide (0 ≤ f) = false := decide_eq_false h2
    go_enter Try.func17, Try.ntmps17
    go_wp2
    go_ret
    exact ⟨rfl, rfl⟩
  have g2 : decide (0 ≤ f) = true := decide_eq_true h2
  by_cases h3 : t ≤ 131072
  case neg =>
    rw [decide_eq_false (by omega)] at hr
    subst hr
    have g3 : decide (t ≤ 131072) = false := decide_eq_false h3
    go_enter Try.func17, Try.ntmps17
    go_wp2
    go_ret
    exact ⟨rfl, rfl⟩
  have g3 : decide (t ≤ 131072) = true := decide_eq_true h3
  by_cases h4 : f < t
  case neg =>
    rw [decide_eq_false (by omega)] at hr
    subst hr
    have g4 : decide (f < t) = false := decide_eq_false h4
    go_enter Try.func17, Try.ntmps17
    go_wp2
    go_ret
    exact ⟨rfl, rfl⟩
  have g4 : decide (f < t) = true := decide_eq_true h4
  by_cases h5 : 300 < t - f
  · rw [decide_eq_true (by omega)] at hr
    subst hr
    have g5 : decide (300 < t - f) = true := decide_eq_true h5
    go_enter Try.func17, Try.ntmps17
    go_wp2
    go_ret
    exact ⟨rfl, rfl⟩
  · rw [decide_eq_false (by omega)] at hr
    subst hr
    have g5 : decide (300 < t - f) = false := decide_eq_false h5
    go_enter Try.func17, Try.ntmps17
    go_wp2
    go_ret
    exact ⟨rfl, rfl⟩
end Go.Proofs.Ytfiphpdagnlbbaa
