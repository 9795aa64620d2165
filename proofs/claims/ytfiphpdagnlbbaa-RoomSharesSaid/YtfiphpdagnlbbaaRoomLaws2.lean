/-
  The laws RoomDirs and RoomShares, walked.
-/
import Derived.Test.YtfiphpdagnlbbaaRoomLaws1
import Derived.Test.YtfiphpdagnlbbaaRoomLawM
namespace Go.Proofs.Ytfiphpdagnlbbaa
open Go.RowKit

set_option maxHeartbeats 2000000 in
theorem roomDirs_walk (s n m : Int) (w : World) (_h1 : -9223372036854775808 ≤ s) (_h2 : s ≤ 9223372036854775807) (_h3 : -9223372036854775808 ≤ n) (_h4 : n ≤ 9223372036854775807) (_h5 : -9223372036854775808 ≤ m) (_h6 : m ≤ 9223372036854775807) :
    Calls Try.prog 5 #[.int .i64 s, .int .i64 n, .int .i64 m] w fun e w' => e = .returned (.bool true) ∧ Below w.heap.size w w' := by
  by_cases a1 : n < 0
  · have g1 : decide (n < 0) = true := decide_eq_true a1
    go_enter Try.func5, Try.ntmps5
    go_wp2_with fail
    refine (known_calls _).mono ?_
    rintro e wk_ ⟨rfl, h_⟩
    have HBk_ := Lib.hid h_
    clear h_
    go_wp2
    go_ret
    exact ⟨rfl, HBk_.out⟩
  have g1 : decide (n < 0) = false := decide_eq_false a1
  by_cases a2 : 3000 < n
  · have g2 : decide (3000 < n) = true := decide_eq_true a2
    go_enter Try.func5, Try.ntmps5
    go_wp2_with fail
    refine (known_calls _).mono ?_
    rintro e wk_ ⟨rfl, h_⟩
    have HBk_ := Lib.hid h_
    clear h_
    go_wp2
    go_ret
    exact ⟨rfl, HBk_.out⟩
  have g2 : decide (3000 < n) = false := decide_eq_false a2
  by_cases a3 : m < 0
  · have g3 : decide (m < 0) = true := decide_eq_true a3
    go_enter Try.func5, Try.ntmps5
    go_wp2_with fail
    refine (known_calls _).mono ?_
    rintro e wk_ ⟨rfl, h_⟩
    have HBk_ := Lib.hid h_
    clear h_
    go_wp2
    go_ret
    exact ⟨rfl, HBk_.out⟩
  have g3 : decide (m < 0) = false := decide_eq_false a3
  by_cases a4 : 3000 < m
  · have g4 : decide (3000 < m) = true := decide_eq_true a4
    go_enter Try.func5, Try.ntmps5
    go_wp2_with fail
    refine (known_calls _).mono ?_
    rintro e wk_ ⟨rfl, h_⟩
    have HBk_ := Lib.hid h_
    clear h_
    go_wp2
    go_ret
    exact ⟨rfl, HBk_.out⟩
  have g4 : decide (3000 < m) = false := decide_eq_false a4
  have D1 := Lib.hid (fun (u : World) => dir_calls s n u (by omega) (by omega))
  have D2 := Lib.hid (fun (u : World) => dir_calls s (n + m) u (by omega) (by omega))
  obtain ⟨hl1, hl2⟩ := Room.dirs_law (s := s) (n := n) (m := m) (by omega) (by omega) (by omega) (by omega)
  obtain ⟨⟨x0, x1⟩, hr⟩ : ∃ r, r = Room.dir s n := ⟨_, rfl⟩
  obtain ⟨⟨y0, y1⟩, hr'⟩ : ∃ r, r = Room.dir s (n + m) := ⟨_, rfl⟩
  rw [← hr] at D1
  rw [← hr'] at D2
  rw [← hr, ← hr'] at hl1 hl2
  clear hr hr'
  simp only at hl1 hl2
  by_cases hx : x1 = 0
  · subst hx
    by_cases hy : y1 = 0
    · subst hy
      obtain ⟨k1, k2, k3, k4⟩ := hl2 rfl rfl
      have q1 : decide (x0 ≤ y0) = true := decide_eq_true k1
      have q2 : IntKind.i64.wrap (x0 * s) = x0 * s := IntWalk.i64_in _ ⟨by omega, by omega⟩
      have q3 : decide (16 * n ≤ x0 * s) = true := decide_eq_true k2
      clear hl1 hl2
      go_enter Try.func5, Try.ntmps5
      go_wp2_with fail
      refine (D1.out w).mono ?_
      rintro e w1 ⟨rfl, h_⟩
      have HB1 := Lib.hid h_
      clear h_
      go_wp2_with fail
      refine (D2.out w1).mono ?_
      rintro e w2 ⟨rfl, h_⟩
      have HC2 := Lib.hid h_
      clear h_
      have HB2 := Lib.hid (HB1.out.then_ HC2.out)
      go_wp2_with fail
      refine (known_calls _).mono ?_
      rintro e wk_ ⟨rfl, h_⟩
      have HBk_ := Lib.hid h_
      clear h_
      go_wp2
      go_ret
      exact ⟨rfl, Below.then_ (HB2.out) HBk_.out⟩
    · have q1 : (y1 != 0) = true := by simpa using hy
      have q2 : (y1 == 0) = false := by simpa using hy
      clear hl1 hl2
      go_enter Try.func5, Try.ntmps5
      go_wp2_with fail
      refine (D1.out w).mono ?_
      rintro e w1 ⟨rfl, h_⟩
      have HB1 := Lib.hid h_
      clear h_
      go_wp2_with fail
      refine (D2.out w1).mono ?_
      rintro e w2 ⟨rfl, h_⟩
      have HC2 := Lib.hid h_
      clear h_
      have HB2 := Lib.hid (HB1.out.then_ HC2.out)
      go_wp2_with fail
      refine (known_calls _).mono ?_
      rintro e wk_ ⟨rfl, h_⟩
      have HBk_ := Lib.hid h_
      clear h_
      go_wp2
      go_ret
      exact ⟨rfl, Below.then_ (HB2.out) HBk_.out⟩
  · have hy := hl1 hx
    have q0 : (x1 != 0) = true := by simpa using hx
    have q3 : (x1 == 0) = false := by simpa using hx
    have q1 : (y1 != 0) = true := by simpa using hy
    have q2 : (y1 == 0) = false := by simpa using hy
    clear hl1 hl2
    go_enter Try.func5, Try.ntmps5
    go_wp2_with fail
    refine (D1.out w).mono ?_
    rintro e w1 ⟨rfl, h_⟩
    have HB1 := Lib.hid h_
    clear h_
    go_wp2_with fail
    refine (D2.out w1).mono ?_
    rintro e w2 ⟨rfl, h_⟩
    have HC2 := Lib.hid h_
    clear h_
    have HB2 := Lib.hid (HB1.out.then_ HC2.out)
    go_wp2_with fail
    refine (known_calls _).mono ?_
    rintro e wk_ ⟨rfl, h_⟩
    have HBk_ := Lib.hid h_
    clear h_
    go_wp2
    go_ret
    exact ⟨rfl, Below.then_ (HB2.out) HBk_.out⟩
set_option maxHeartbeats 2000000 in
theorem roomShares_walk (s c m : Int) (w : World) (_h1 : -9223372036854775808 ≤ s) (_h2 : s ≤ 9223372036854775807) (_h3 : -9223372036854775808 ≤ c) (_h4 : c ≤ 9223372036854775807) (h5 : -9223372036854775808 ≤ m) (h6 : m ≤ 9223372036854775807) :
    Calls Try.prog 6 #[.int .i64 s, .int .i64 c, .int .i64 m] w fun e w' => e = .returned (.bool true) ∧ Below w.heap.size w w' := by
  obtain ⟨k, hk, hk5⟩ := among_nat m 500 (by omega)
  have HA := Lib.hid (fun u => among_calls m 500 u h5 h6 (by omega))
  rw [show ((500 : Nat) : Int) = 500 from rfl] at hk
  rw [hk] at HA
  clear hk
  by_cases a1 : c < 0
  · have g1 : decide (c < 0) = true := decide_eq_true a1
    go_enter Try.func6, Try.ntmps6
    go_wp2_with fail
    refine (HA.out _).mono ?_
    rintro e w_ ⟨rfl, rfl⟩
    go_wp2_with fail
    refine (known_calls _).mono ?_
    rintro e wk_ ⟨rfl, h_⟩
    have HBk_ := Lib.hid h_
    clear h_
    go_wp2
    go_ret
    exact ⟨rfl, HBk_.out⟩
  have g1 : decide (c < 0) = false := decide_eq_false a1
  by_cases a2 : 7000 < c
  · have g2 : decide (7000 < c) = true := decide_eq_true a2
    go_enter Try.func6, Try.ntmps6
    go_wp2_with fail
    refine (HA.out _).mono ?_
    rintro e w_ ⟨rfl, rfl⟩
    go_wp2_with fail
    refine (known_calls _).mono ?_
    rintro e wk_ ⟨rfl, h_⟩
    have HBk_ := Lib.hid h_
    clear h_
    go_wp2
    go_ret
    exact ⟨rfl, HBk_.out⟩
  have g2 : decide (7000 < c) = false := decide_eq_false a2
  have P1 := Lib.hid (fun u => plan_calls s c u (by omega))
  rcases Room.plan_err (s := s) (c := c) with ⟨_, ⟨hs, b0, b1, b2⟩, hp⟩ | ⟨hx, hz⟩
  case inr =>
    obtain ⟨⟨x, x1⟩, hr⟩ : ∃ r, r = Room.plan s c := ⟨_, rfl⟩
    rw [← hr] at P1 hx hz
    clear hr
    simp only at hx hz
    subst hz
    have Q1 := Lib.hid (show ∀ u, Calls Try.prog 9 #[.int .i64 s, .int .i64 c] u (fun e w' => e = .returned (.tuple #[.agg #[.int .i64 0, .int .i64 0, .int .i64 0, .int .i64 0], .int .i64 x1]) ∧ Below u.heap.size u w') from P1.out)
    have q1 : (x1 != 0) = true := by simpa using hx
    have q2 : (x1 == 0) = false := by simpa using hx
    clear P1 hx
    go_enter Try.func6, Try.ntmps6
    go_wp2_with fail
    refine (HA.out _).mono ?_
    rintro e w_ ⟨rfl, rfl⟩
    go_wp2_with fail
    refine (Q1.out _).mono ?_
    rintro e w1 ⟨rfl, h_⟩
    have HB1 := Lib.hid h_
    clear h_
    have bk0 := Blk.new w1 23 #[.int .i64 0, .int .i64 0, .int .i64 0, .int .i64 0]
    have hs1 := HB1.out.size
    have HB2 := Lib.hid (HB1.out.alloc HB1.out.size (.cells #[.int .i64 0, .int .i64 0, .int .i64 0, .int .i64 0] 23))
    have c0 := bk0.cellv (i := 0) rfl
    have c1 := bk0.cellv (i := 1) rfl
    have c2 := bk0.cellv (i := 2) rfl
    have c3 := bk0.cellv (i := 3) rfl
    clear bk0
    go_wp2_with fail
    refine (known_calls _).mono ?_
    rintro e wk_ ⟨rfl, h_⟩
    have HBk_ := Lib.hid h_
    clear h_
    go_wp2
    go_ret
    exact ⟨rfl, Below.then_ (HB2.out) HBk_.out⟩
  obtain ⟨p2, p21, _⟩ := per_b hs
  obtain ⟨t2, t5⟩ := Room.table_b (c := c) (by omega) (by omega)
  obtain ⟨u2, u5⟩ := Room.table_b (c := c + k) (by omega) (by omega)
  obtain ⟨l1, l2⟩ := Room.table_mono (c := c) (d := c + k) (by omega) (by omega)
  have P2 := Lib.hid (fun u => plan_calls s (c + k) u (by omega))
  rw [hp] at P1
  rw [Room.plan_ok hs (by omega) (by omega) (by omega)] at P2
  clear hp hs b2
  have hmul : Room.table c * Ino.perPage s ≤ Room.table (c + k) * Ino.perPage s := Int.mul_le_mul_of_nonneg_right l1 (by omega)
  generalize Ino.perPage s = p at *
  generalize Room.table c = T at *
  generalize Room.table (c + k) = U at *
  generalize T * p = X at *
  generalize U * p = Y at *
  have Q1 := Lib.hid (show ∀ u, Calls Try.prog 9 #[.int .i64 s, .int .i64 c] u (fun e w' => e = .returned (.tuple #[.agg #[.int .i64 T, .int .i64 (T + 1), .int .i64 (c - 64 - T), .int .i64 X], .int .i64 0]) ∧ Below u.heap.size u w') from P1.out)
  have Q2 := Lib.hid (show ∀ u, Calls Try.prog 9 #[.int .i64 s, .int .i64 (c + k)] u (fun e w' => e = .returned (.tuple #[.agg #[.int .i64 U, .int .i64 (U + 1), .int .i64 (c + k - 64 - U), .int .i64 Y], .int .i64 0]) ∧ Below u.heap.size u w') from P2.out)
  clear P1 P2
  have r1 : (T + (c - 64 - T) == c - 64) = true := by simp; omega
  have r2 : decide (T ≤ U) = true := decide_eq_true l1
  have r3 : decide (c - 64 - T ≤ c + k - 64 - U) = true := decide_eq_true (by omega)
  have r4 : decide (X ≤ Y) = true := decide_eq_true hmul
  go_enter Try.func6, Try.ntmps6
  go_wp2_with fail
  refine (HA.out _).mono ?_
  rintro e w_ ⟨rfl, rfl⟩
  go_wp2_with fail
  refine (Q1.out _).mono ?_
  rintro e w1 ⟨rfl, h_⟩
  have HB1 := Lib.hid h_
  clear h_
  have bk0 := Lib.hid (Blk.new w1 23 #[.int .i64 T, .int .i64 (T + 1), .int .i64 (c - 64 - T), .int .i64 X])
  have hs1 := HB1.out.size
  go_wp2_with fail
  refine (Q2.out _).mono ?_
  rintro e1 w2 ⟨rfl, hb⟩
  have bk1 := (bk0.out.belowHere hb).alloc (.cells #[.int .i64 U, .int .i64 (U + 1), .int .i64 (c + k - 64 - U), .int .i64 Y] 23)
  have hb1 := Below.then_ ((Below.refl w1.heap.size w1).alloc (Nat.le_refl _) _) hb
  have hb1' := hb1.alloc hb1.size (.cells #[.int .i64 U, .int .i64 (U + 1), .int .i64 (c + k - 64 - U), .int .i64 Y] 23)
  have HB2 := Lib.hid (Below.then_ HB1.out hb1')
  have bk2 := Blk.new w2 23 #[.int .i64 U, .int .i64 (U + 1), .int .i64 (c + k - 64 - U), .int .i64 Y]
  clear hb hb1 hb1' bk0 HB1
  have c0 := bk1.cellv (i := 0) rfl
  have c1 := bk1.cellv (i := 1) rfl
  have c2 := bk1.cellv (i := 2) rfl
  have c3 := bk1.cellv (i := 3) rfl
  have d0 := bk2.cellv (i := 0) rfl
  have d2 := bk2.cellv (i := 2) rfl
  have d3 := bk2.cellv (i := 3) rfl
  clear bk1 bk2
  go_wp2_with fail
  refine (known_calls _).mono ?_
  rintro e wk_ ⟨rfl, h_⟩
  have HBk_ := Lib.hid h_
  clear h_
  go_wp2
  go_ret
  exact ⟨rfl, Below.then_ (HB2.out) HBk_.out⟩
end Go.Proofs.Ytfiphpdagnlbbaa
