/-
  The laws RoomGrows and RoomRows, walked.
-/
import Derived.Test.YtfiphpdagnlbbaaRoomMore
import Derived.Test.YtfiphpdagnlbbaaRoomTop
import Derived.Test.YtfiphpdagnlbbaaRoomCut
namespace Go.Proofs.Ytfiphpdagnlbbaa
open Go.RowKit

set_option maxHeartbeats 4000000 in
theorem roomGrows_walk (s : Int) (a : Option Addr) (n c : Nat) (xs : List Int) (f t o : Int) (w : World) (_h1 : -9223372036854775808 ≤ s) (_h2 : s ≤ 9223372036854775807) (hx : Arr intV w w.heap.size a n xs) (_nc : n ≤ c) (_cm : c ≤ 17592186043904) (hbd : ∀ x ∈ xs, -9223372036854775808 ≤ x ∧ x ≤ 9223372036854775807)
    (h3 : -9223372036854775808 ≤ f) (h4 : f ≤ 9223372036854775807) (h5 : -9223372036854775808 ≤ t) (h6 : t ≤ 9223372036854775807) (_h7 : -9223372036854775808 ≤ o) (_h8 : o ≤ 9223372036854775807) :
    Calls Try.prog 7 #[.int .i64 s, .slice a n c, .int .i64 f, .int .i64 t, .int .i64 o] w fun e w' => e = .returned (.bool true) ∧ Below w.heap.size w w' := by
  have HX := Lib.hid hx
  have HBd := Lib.hid hbd
  have HWd := Lib.hid (fun (u : World) => wide_calls a n c f t u ⟨h3, h4⟩ ⟨h5, h6⟩)
  clear hx hbd
  cases hw : wideB n f t
  case true =>
    rw [hw] at HWd
    go_enter Try.func7, Try.ntmps7
    go_wp2_with fail
    refine (HWd.out _).mono ?_
    rintro e w_ ⟨rfl, rfl⟩
    go_wp2_with fail
    refine (known_calls _).mono ?_
    rintro e wk_ ⟨rfl, h_⟩
    have HBk_ := Lib.hid h_
    clear h_
    go_wp2
    go_ret
    exact ⟨rfl, HBk_.out⟩
  rw [hw] at HWd
  obtain ⟨hn, hm⟩ := wideB_no hw
  clear hw
  have HM := Lib.hid (more_calls s a n c xs f t w HX.out HBd.out (by omega) (by omega))
  have hp := Room.more_pos (s := s) (xs := xs) (f := f) (t := t)
  obtain ⟨⟨x0, x1⟩, hr⟩ : ∃ r, r = Room.moreR s xs f t := ⟨_, rfl⟩
  rw [← hr] at HM hp
  simp only at hp
  clear hr
  have g0 : decide (x0 < 0) = false := decide_eq_false (by omega)
  by_cases ho : o < 0
  · have g1 : decide (o < 0) = true := decide_eq_true ho
    cases hx1 : (x1 == 0)
    all_goals
      go_enter Try.func7, Try.ntmps7
      go_wp2_with fail
      refine (HWd.out _).mono ?_
      rintro e w_ ⟨rfl, rfl⟩
      go_wp2_with fail
      refine (HM.out).mono ?_
      rintro e w1 ⟨rfl, h_⟩
      have HB1 := Lib.hid h_
      clear h_
      go_wp2_with fail
      refine (known_calls _).mono ?_
      rintro e wk_ ⟨rfl, h_⟩
      have HBk_ := Lib.hid h_
      clear h_
      go_wp2
      go_ret
      exact ⟨rfl, Below.then_ (HB1.out) HBk_.out⟩
  have g1 : decide (o < 0) = false := decide_eq_false ho
  by_cases ho2 : 65536 < o
  · have g2 : decide (65536 < o) = true := decide_eq_true ho2
    cases hx1 : (x1 == 0)
    all_goals
      go_enter Try.func7, Try.ntmps7
      go_wp2_with fail
      refine (HWd.out _).mono ?_
      rintro e w_ ⟨rfl, rfl⟩
      go_wp2_with fail
      refine (HM.out).mono ?_
      rintro e w1 ⟨rfl, h_⟩
      have HB1 := Lib.hid h_
      clear h_
      go_wp2_with fail
      refine (known_calls _).mono ?_
      rintro e wk_ ⟨rfl, h_⟩
      have HBk_ := Lib.hid h_
      clear h_
      go_wp2
      go_ret
      exact ⟨rfl, Below.then_ (HB1.out) HBk_.out⟩
  have g2 : decide (65536 < o) = false := decide_eq_false ho2
  have HM2 := Lib.hid (fun (u : World) (hu : Arr intV u u.heap.size a n xs) => more_calls s a n c xs o (o + 1) u hu HBd.out (by omega) (by unfold Room.more; split <;> omega))
  have hp2 := Room.more_pos (s := s) (xs := xs) (f := o) (t := o + 1)
  have hp4 := Room.more_one (s := s) (xs := xs) (f := o) (by omega) (by omega)
  obtain ⟨⟨y0, y1⟩, hr⟩ : ∃ r, r = Room.moreR s xs o (o + 1) := ⟨_, rfl⟩
  rw [← hr] at HM2 hp2 hp4
  simp only at hp2 hp4
  clear hr
  have g3 : decide (0 ≤ y0) = true := decide_eq_true hp2
  have g4 : decide (y0 ≤ 4) = true := decide_eq_true hp4
  cases hx1 : (x1 == 0)
  all_goals
    cases hy1 : (y1 != 0)
    all_goals
      go_enter Try.func7, Try.ntmps7
      go_wp2_with fail
      refine (HWd.out _).mono ?_
      rintro e w_ ⟨rfl, rfl⟩
      go_wp2_with fail
      refine (HM.out).mono ?_
      rintro e w1 ⟨rfl, h_⟩
      have HB1 := Lib.hid h_
      clear h_
      go_wp2_with fail
      refine (HM2.out _ (HX.out.on HB1.out)).mono ?_
      rintro e w2 ⟨rfl, h_⟩
      have HC2 := Lib.hid h_
      clear h_
      have HB2 := Lib.hid (HB1.out.then_ HC2.out)
      go_wp2_with fail
      refine (known_calls _).mono ?_
      rintro e wk_ ⟨rfl, h_⟩
      have HBk_ := Lib.hid h_
      clear h_
      go_wp2
      go_ret
      exact ⟨rfl, Below.then_ (HB2.out) HBk_.out⟩
set_option maxHeartbeats 4000000 in
theorem roomRows_walk (s : Int) (a : Option Addr) (n c : Nat) (xs : List Int) (f t o : Int) (w : World) (_h1 : -9223372036854775808 ≤ s) (_h2 : s ≤ 9223372036854775807) (hx : Arr intV w w.heap.size a n xs) (_nc : n ≤ c) (_cm : c ≤ 17592186043904) (hbd : ∀ x ∈ xs, -9223372036854775808 ≤ x ∧ x ≤ 9223372036854775807)
    (h3 : -9223372036854775808 ≤ f) (h4 : f ≤ 9223372036854775807) (h5 : -9223372036854775808 ≤ t) (h6 : t ≤ 9223372036854775807) (_h7 : -9223372036854775808 ≤ o) (_h8 : o ≤ 9223372036854775807) :
    Calls Try.prog 8 #[.int .i64 s, .slice a n c, .int .i64 f, .int .i64 t, .int .i64 o] w fun e w' => e = .returned (.bool true) ∧ Below w.heap.size w w' := by
  have hxl := hx.len
  have HX := Lib.hid hx
  have HBd := Lib.hid hbd
  have HWd := Lib.hid (fun (u : World) => wide_calls a n c f t u ⟨h3, h4⟩ ⟨h5, h6⟩)
  clear hx hbd
  cases hw : wideB n f t
  case true =>
    rw [hw] at HWd
    clear hxl
    go_enter Try.func8, Try.ntmps8
    go_wp2_with fail
    refine (HWd.out _).mono ?_
    rintro e w_ ⟨rfl, rfl⟩
    go_wp2_with fail
    refine (known_calls _).mono ?_
    rintro e wk_ ⟨rfl, h_⟩
    have HBk_ := Lib.hid h_
    clear h_
    go_wp2
    go_ret
    exact ⟨rfl, HBk_.out⟩
  rw [hw] at HWd
  obtain ⟨hn, hm⟩ := wideB_no hw
  clear hw
  have HM := Lib.hid (more_calls s a n c xs f t w HX.out HBd.out (by omega) (by omega))
  have HM2 := Lib.hid (fun (u : World) (hu : Arr intV u u.heap.size a n xs) => refMore_calls s a n c xs f t u hu HBd.out (by omega) (by omega))
  obtain ⟨⟨x0, x1⟩, hr⟩ : ∃ r, r = Room.moreR s xs f t := ⟨_, rfl⟩
  rw [← hr] at HM HM2
  clear hr
  have hal := Room.all_len (xs := xs) (f := f) (t := t)
  have hcl : (Room.cutL xs o).length ≤ xs.length := List.length_filter_le _ _
  have HW1 := Lib.hid (fun (u : World) (hu : Arr intV u u.heap.size a n xs) => with_calls a n c xs f t u hu (by omega) (by omega))
  have HW2 := Lib.hid (fun (u : World) (hu : Arr intV u u.heap.size a n xs) => refWith_calls a n c xs f t u hu (by omega) (by omega))
  have HC1 := Lib.hid (fun (u : World) (hu : Arr intV u u.heap.size a n xs) => cut_calls a n c xs o u hu (by omega))
  have HC2 := Lib.hid (fun (u : World) (hu : Arr intV u u.heap.size a n xs) => refCut_calls a n c xs o u hu (by omega))
  generalize Room.row (Room.all xs f t) = ys at *
  generalize Room.cutL xs o = zs at *
  have hyl : ys.length ≤ 4000 := by omega
  have hzl : zs.length ≤ 4000 := by omega
  clear hxl hal hcl
  go_enter Try.func8, Try.ntmps8
  go_wp2_with fail
  refine (HWd.out _).mono ?_
  rintro e w_ ⟨rfl, rfl⟩
  go_wp2_with fail
  refine (HM.out).mono ?_
  rintro e w1 ⟨rfl, h_⟩
  have HB1 := Lib.hid h_
  clear h_
  go_wp2_with fail
  refine (HM2.out _ (HX.out.on HB1.out)).mono ?_
  rintro e w2 ⟨rfl, h_⟩
  have HD2 := Lib.hid h_
  clear h_
  have HB2 := Lib.hid (HB1.out.then_ HD2.out)
  go_wp2_with fail
  refine (HW1.out _ (HX.out.on HB2.out)).mono ?_
  rintro e w3 ⟨v3, rfl, ho3, hb3⟩
  obtain ⟨a3, c3, rfl, _⟩ := ho3.formN (n := ys.length) rfl
  have HY3 := Lib.hid (ho3.arr (by omega))
  have HB3 := Lib.hid (HB2.out.then_ hb3)
  clear ho3 hb3
  go_wp2_with fail
  refine (HW2.out _ (HX.out.on HB3.out)).mono ?_
  rintro e w4 ⟨v4, rfl, ho4, hb4⟩
  obtain ⟨a4, c4, rfl, _⟩ := ho4.formN (n := ys.length) rfl
  have HS4 := Lib.hid (sameI_yes a3 a4 ys.length c3 c4 ys w4 (HY3.out.on hb4) (ho4.arr (by omega)))
  have HB4 := Lib.hid (HB3.out.then_ hb4)
  clear ho4 hb4
  go_wp2_with fail
  refine HS4.out.mono ?_
  rintro e w5 ⟨rfl, hb5⟩
  have HB5 := Lib.hid (HB4.out.then_ hb5)
  clear hb5
  go_wp2_with fail
  refine (HC1.out _ (HX.out.on HB5.out)).mono ?_
  rintro e w6 ⟨v6, rfl, ho6, hb6⟩
  obtain ⟨a6, c6, rfl, _⟩ := ho6.formN (n := zs.length) rfl
  have HY6 := Lib.hid (ho6.arr (by omega))
  have HB6 := Lib.hid (HB5.out.then_ hb6)
  clear ho6 hb6
  go_wp2_with fail
  refine (HC2.out _ (HX.out.on HB6.out)).mono ?_
  rintro e w7 ⟨v7, rfl, ho7, hb7⟩
  obtain ⟨a7, c7, rfl, _⟩ := ho7.formN (n := zs.length) rfl
  have HS7 := Lib.hid (sameI_yes a6 a7 zs.length c6 c7 zs w7 (HY6.out.on hb7) (ho7.arr (by omega)))
  have HB7 := Lib.hid (HB6.out.then_ hb7)
  clear ho7 hb7
  go_wp2_with fail
  refine HS7.out.mono ?_
  rintro e w8 ⟨rfl, hb8⟩
  have HB8 := Lib.hid (HB7.out.then_ hb8)
  clear hb8
  go_wp2_with fail
  refine (known_calls _).mono ?_
  rintro e wk_ ⟨rfl, h_⟩
  have HBk_ := Lib.hid h_
  clear h_
  go_wp2
  go_ret
  exact ⟨rfl, Below.then_ (HB8.out) HBk_.out⟩
end Go.Proofs.Ytfiphpdagnlbbaa
