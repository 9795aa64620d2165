/-
  The laws RoomPlans, RoomFiles, RoomDirs and RoomShares, walked.
-/
import Derived.Test.YtfiphpdagnlbbaaRoomTop
import Derived.Test.YtfiphpdagnlbbaaRoomRefD
import Derived.Test.YtfiphpdagnlbbaaNumAmong
namespace Go.Proofs.Ytfiphpdagnlbbaa
open Go.RowKit

set_option maxHeartbeats 2000000 in
theorem roomPlans_walk (s c : Int) (w : World) (_h1 : -9223372036854775808 ≤ s) (_h2 : s ≤ 9223372036854775807) (h3 : -9223372036854775808 ≤ c) (h4 : c ≤ 9223372036854775807) :
    Calls Try.prog 3 #[.int .i64 s, .int .i64 c] w fun e w' => e = .returned (.bool true) ∧ Below w.heap.size w w' := by
  have P1 := Lib.hid (fun u => plan_calls s c u ⟨h3, h4⟩)
  have P2 := Lib.hid (fun u => refPlan_calls s c u ⟨h3, h4⟩)
  obtain ⟨⟨⟨x0, x1, x2, x3⟩, er⟩, hr⟩ : ∃ r, r = Room.plan s c := ⟨_, rfl⟩
  rw [← hr] at P1 P2
  clear hr
  have Q1 := Lib.hid (show ∀ u, Calls Try.prog 9 #[.int .i64 s, .int .i64 c] u (fun e w' => e = .returned (.tuple #[.agg #[.int .i64 x0, .int .i64 x1, .int .i64 x2, .int .i64 x3], .int .i64 er]) ∧ Below u.heap.size u w') from P1.out)
  have Q2 := Lib.hid (show ∀ u, Calls Try.prog 10 #[.int .i64 s, .int .i64 c] u (fun e w' => e = .returned (.tuple #[.agg #[.int .i64 x0, .int .i64 x1, .int .i64 x2, .int .i64 x3], .int .i64 er]) ∧ Below u.heap.size u w') from P2.out)
  clear P1 P2
  go_enter Try.func3, Try.ntmps3
  go_wp2_with fail
  refine (Q1.out w).mono ?_
  rintro e w1 ⟨rfl, h_⟩
  have HB1 := Lib.hid h_
  clear h_
  have bk0 := Lib.hid (Blk.new w1 23 #[.int .i64 x0, .int .i64 x1, .int .i64 x2, .int .i64 x3])
  have hs1 := HB1.out.size
  go_wp2_with fail
  refine (Q2.out _).mono ?_
  rintro e1 w2 ⟨rfl, hb⟩
  have bk1 := Lib.hid ((bk0.out.belowHere hb).alloc (.cells #[.int .i64 x0, .int .i64 x1, .int .i64 x2, .int .i64 x3] 27))
  have hb1 := Below.then_ ((Below.refl w1.heap.size w1).alloc (Nat.le_refl _) _) hb
  have hb1' := hb1.alloc hb1.size (.cells #[.int .i64 x0, .int .i64 x1, .int .i64 x2, .int .i64 x3] 27)
  have HB2 := Lib.hid (Below.then_ HB1.out hb1')
  have bk2 := Lib.hid (Blk.new w2 27 #[.int .i64 x0, .int .i64 x1, .int .i64 x2, .int .i64 x3])
  clear hb hb1 hb1' bk0 HB1
  have c0 := bk1.out.cellv (i := 0) rfl
  have c1 := bk1.out.cellv (i := 1) rfl
  have c2 := bk1.out.cellv (i := 2) rfl
  have c3 := bk1.out.cellv (i := 3) rfl
  go_wp2_with fail
  refine (known_calls _).mono ?_
  rintro e wk_ ⟨rfl, h_⟩
  have HBk_ := Lib.hid h_
  clear h_
  go_wp2
  go_ret
  exact ⟨rfl, Below.then_ (HB2.out) HBk_.out⟩
set_option maxHeartbeats 2000000 in
theorem roomFiles_walk (s : Int) (a : Option Addr) (n c : Nat) (xs : List Int) (m : Int) (w : World) (_h1 : -9223372036854775808 ≤ s) (_h2 : s ≤ 9223372036854775807) (hx : Arr intV w w.heap.size a n xs) (_nc : n ≤ c) (_cm : c ≤ 17592186043904) (hbd : ∀ x ∈ xs, -9223372036854775808 ≤ x ∧ x ≤ 9223372036854775807) (h3 : -9223372036854775808 ≤ m) (h4 : m ≤ 9223372036854775807) :
    Calls Try.prog 4 #[.int .i64 s, .slice a n c, .int .i64 m] w fun e w' => e = .returned (.bool true) ∧ Below w.heap.size w w' := by
  have HX := Lib.hid hx
  have HBd := Lib.hid hbd
  clear hx hbd
  by_cases hn : 300 < n
  · have g1 : decide (300 < (n : Int)) = true := decide_eq_true (by omega)
    go_enter Try.func4, Try.ntmps4
    go_wp2_with fail
    refine (known_calls _).mono ?_
    rintro e wk_ ⟨rfl, h_⟩
    have HBk_ := Lib.hid h_
    clear h_
    go_wp2
    go_ret
    exact ⟨rfl, HBk_.out⟩
  have g1 : decide (300 < (n : Int)) = false := decide_eq_false (by omega)
  by_cases hm : 5000 < m ∧ m < 1099511627776
  · have g2 : decide (5000 < m) = true := decide_eq_true hm.1
    have g3 : decide (m < 1099511627776) = true := decide_eq_true hm.2
    clear hm
    go_enter Try.func4, Try.ntmps4
    go_wp2_with fail
    refine (known_calls _).mono ?_
    rintro e wk_ ⟨rfl, h_⟩
    have HBk_ := Lib.hid h_
    clear h_
    go_wp2
    go_ret
    exact ⟨rfl, HBk_.out⟩
  have hm5 : m ≤ 6000 ∨ 1099511627776 ≤ m := by omega
  have F1 := Lib.hid (fun (u : World) (hu : Arr intV u u.heap.size a n xs) => file_calls s a n c xs u hu HBd.out (by omega))
  have F2 := Lib.hid (fun (u : World) (hu : Arr intV u u.heap.size a n xs) => refFile_calls s a n c xs u hu HBd.out (by omega))
  have D1 := Lib.hid (fun (u : World) => dir_calls s m u ⟨h3, h4⟩ hm5)
  have D2 := Lib.hid (fun (u : World) => refDir_calls s m u ⟨h3, h4⟩ hm5)
  obtain ⟨⟨x0, x1⟩, hr⟩ : ∃ r, r = Room.file s xs := ⟨_, rfl⟩
  obtain ⟨⟨y0, y1⟩, hr'⟩ : ∃ r, r = Room.dir s m := ⟨_, rfl⟩
  rw [← hr] at F1 F2
  rw [← hr'] at D1 D2
  clear hr hr'
  by_cases hm1 : 5000 < m
  · have g2 : decide (5000 < m) = true := decide_eq_true hm1
    have g3 : decide (m < 1099511627776) = false := decide_eq_false (by omega)
    clear hm hm5
    go_enter Try.func4, Try.ntmps4
    go_wp2_with fail
    refine (F1.out w HX.out).mono ?_
    rintro e w1 ⟨rfl, h_⟩
    have HB1 := Lib.hid h_
    clear h_
    have HX1 := Lib.hid (HX.out.on HB1.out)
    go_wp2_with fail
    refine (F2.out w1 HX1.out).mono ?_
    rintro e w2 ⟨rfl, h_⟩
    have HC2 := Lib.hid h_
    clear h_
    have HB2 := Lib.hid (HB1.out.then_ HC2.out)
    go_wp2_with fail
    refine (D1.out w2).mono ?_
    rintro e w3 ⟨rfl, h_⟩
    have HC3 := Lib.hid h_
    clear h_
    have HB3 := Lib.hid (HB2.out.then_ HC3.out)
    go_wp2_with fail
    refine (D2.out w3).mono ?_
    rintro e w4 ⟨rfl, h_⟩
    have HC4 := Lib.hid h_
    clear h_
    have HB4 := Lib.hid (HB3.out.then_ HC4.out)
    go_wp2_with fail
    refine (known_calls _).mono ?_
    rintro e wk_ ⟨rfl, h_⟩
    have HBk_ := Lib.hid h_
    clear h_
    go_wp2
    go_ret
    exact ⟨rfl, Below.then_ (HB4.out) HBk_.out⟩
  · have g2 : decide (5000 < m) = false := decide_eq_false hm1
    clear hm hm5
    go_enter Try.func4, Try.ntmps4
    go_wp2_with fail
    refine (F1.out w HX.out).mono ?_
    rintro e w1 ⟨rfl, h_⟩
    have HB1 := Lib.hid h_
    clear h_
    have HX1 := Lib.hid (HX.out.on HB1.out)
    go_wp2_with fail
    refine (F2.out w1 HX1.out).mono ?_
    rintro e w2 ⟨rfl, h_⟩
    have HC2 := Lib.hid h_
    clear h_
    have HB2 := Lib.hid (HB1.out.then_ HC2.out)
    go_wp2_with fail
    refine (D1.out w2).mono ?_
    rintro e w3 ⟨rfl, h_⟩
    have HC3 := Lib.hid h_
    clear h_
    have HB3 := Lib.hid (HB2.out.then_ HC3.out)
    go_wp2_with fail
    refine (D2.out w3).mono ?_
    rintro e w4 ⟨rfl, h_⟩
    have HC4 := Lib.hid h_
    clear h_
    have HB4 := Lib.hid (HB3.out.then_ HC4.out)
    go_wp2_with fail
    refine (known_calls _).mono ?_
    rintro e wk_ ⟨rfl, h_⟩
    have HBk_ := Lib.hid h_
    clear h_
    go_wp2
    go_ret
    exact ⟨rfl, Below.then_ (HB4.out) HBk_.out⟩
end Go.Proofs.Ytfiphpdagnlbbaa
