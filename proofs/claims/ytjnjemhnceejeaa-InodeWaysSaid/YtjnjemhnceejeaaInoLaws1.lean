/-
  The laws InodeWays and InodeGaps, walked.
-/
import Derived.Test.YtjnjemhnceejeaaInoSmall
namespace Go.Proofs.Ytjnjemhnceejeaa
open Go.RowKit

theorem inodeWays_walk (s n : Int) (w : World) (_h1 : -9223372036854775808 ≤ s) (_h2 : s ≤ 9223372036854775807) (h3 : -9223372036854775808 ≤ n) (h4 : n ≤ 9223372036854775807) :
    Calls Try.prog 3 #[.int .i64 s, .int .i64 n] w fun e w' => e = .returned (.bool true) ∧ Below w.heap.size w w' := by
  go_enter Try.func3, Try.ntmps3
  go_wp2_with fail
  refine (to_calls s n _ h3 h4).mono ?_
  rintro e w1 ⟨rfl, h_⟩
  have HB1 := Lib.hid h_
  clear h_
  have hw : ∃ a b c e, wayV s n = .tuple #[.agg #[.int .i64 a, .int .i64 b, .int .i64 c], .int .i64 e] := ⟨_, _, _, _, rfl⟩
  obtain ⟨a, b, c, e, hw⟩ := hw
  have HW := Lib.hid hw
  rw [hw]
  clear hw
  have hs1 := HB1.out.size
  have bk0 := Lib.hid (Blk.new w1 23 #[.int .i64 a, .int .i64 b, .int .i64 c])
  go_wp2_with fail
  refine (refTo_calls s n _ h3 h4).mono ?_
  rw [HW.out]
  rintro e1 w2 ⟨rfl, hb⟩
  have bk1 := Lib.hid ((bk0.out.belowHere hb).alloc (.cells #[.int .i64 a, .int .i64 b, .int .i64 c] 27))
  have hb1 := Below.then_ ((Below.refl w1.heap.size w1).alloc (Nat.le_refl _) _) hb
  have hb1' := hb1.alloc hb1.size (.cells #[.int .i64 a, .int .i64 b, .int .i64 c] 27)
  have HB2 := Lib.hid (Below.then_ HB1.out hb1')
  have bk2 := Lib.hid (Blk.new w2 27 #[.int .i64 a, .int .i64 b, .int .i64 c])
  clear hb hb1 hb1' bk0 HB1
  have c0 := bk1.out.cellv (i := 0) rfl
  have c1 := bk1.out.cellv (i := 1) rfl
  have c2 := bk1.out.cellv (i := 2) rfl
  go_wp2_with fail
  refine (most_calls s _).mono ?_
  rintro e w_ ⟨rfl, rfl⟩
  go_wp2_with fail
  refine (refMost_calls s _).mono ?_
  rintro e w_ ⟨rfl, rfl⟩
  go_wp2_with fail
  refine (known_calls _).mono ?_
  rintro e wk_ ⟨rfl, h_⟩
  have HBk_ := Lib.hid h_
  clear h_
  go_wp2
  go_ret
  exact ⟨rfl, Below.then_ (HB2.out) HBk_.out⟩
theorem wayV_is (s n : Int) : wayV s n = .tuple #[.agg #[.int .i64 (Ino.wayA s n), .int .i64 (Ino.wayB s n), .int .i64 (Ino.wayC s n)], .int .i64 (Ino.wayE s n)] := rfl
set_option maxHeartbeats 2000000 in
theorem inodeGaps_walk (s n m : Int) (w : World) (_h1 : -9223372036854775808 ≤ s) (_h2 : s ≤ 9223372036854775807) (h3 : -9223372036854775808 ≤ n) (h4 : n ≤ 9223372036854775807) (h5 : -9223372036854775808 ≤ m) (h6 : m ≤ 9223372036854775807) :
    Calls Try.prog 4 #[.int .i64 s, .int .i64 n, .int .i64 m] w fun e w' => e = .returned (.bool true) ∧ Below w.heap.size w w' := by
  go_enter Try.func4, Try.ntmps4
  go_wp2_with fail
  refine (to_calls s n _ h3 h4).mono ?_
  rintro e w1 ⟨rfl, h_⟩
  have HB1 := Lib.hid h_
  clear h_
  rw [wayV_is s n]
  generalize ha : Ino.wayA s n = a
  generalize hb : Ino.wayB s n = b
  generalize hc : Ino.wayC s n = c
  generalize he : Ino.wayE s n = e
  have Hha := Lib.hid ha
  have Hhb := Lib.hid hb
  have Hhc := Lib.hid hc
  have Hhe := Lib.hid he
  clear ha hb hc he
  have hs1 := HB1.out.size
  have bk0 := Lib.hid (Blk.new w1 23 #[.int .i64 a, .int .i64 b, .int .i64 c])
  go_wp2_with fail
  refine (to_calls s m _ h5 h6).mono ?_
  rw [wayV_is s m]
  generalize ha' : Ino.wayA s m = a'
  generalize hb' : Ino.wayB s m = b'
  generalize hc' : Ino.wayC s m = c'
  generalize he' : Ino.wayE s m = e'
  have Hha' := Lib.hid ha'
  have Hhb' := Lib.hid hb'
  have Hhc' := Lib.hid hc'
  have Hhe' := Lib.hid he'
  clear ha' hb' hc' he'
  rintro e1 w2 ⟨rfl, hb⟩
  have bk1 := Lib.hid ((bk0.out.belowHere hb).alloc (.cells #[.int .i64 a', .int .i64 b', .int .i64 c'] 23))
  have hb1 := Below.then_ ((Below.refl w1.heap.size w1).alloc (Nat.le_refl _) _) hb
  have hb1' := hb1.alloc hb1.size (.cells #[.int .i64 a', .int .i64 b', .int .i64 c'] 23)
  have HB2 := Lib.hid (Below.then_ HB1.out hb1')
  have bk2 := Lib.hid (Blk.new w2 23 #[.int .i64 a', .int .i64 b', .int .i64 c'])
  clear hb hb1 hb1' bk0 HB1
  by_cases hee : e = 0 ∧ e' = 0
  case neg =>
    by_cases h0 : e = 0
    · have h1 : ¬ e' = 0 := fun h => hee ⟨h0, h⟩
      subst h0
      clear hee
      go_wp2_with fail
      refine (known_calls _).mono ?_
      rintro e wk_ ⟨rfl, h_⟩
      have HBk_ := Lib.hid h_
      clear h_
      go_wp2
      go_ret
      exact ⟨rfl, Below.then_ (HB2.out) HBk_.out⟩
    · clear hee
      go_wp2_with fail
      refine (known_calls _).mono ?_
      rintro e wk_ ⟨rfl, h_⟩
      have HBk_ := Lib.hid h_
      clear h_
      go_wp2
      go_ret
      exact ⟨rfl, Below.then_ (HB2.out) HBk_.out⟩
  obtain ⟨rfl, rfl⟩ := hee
  have c0 := bk1.out.cellv (i := 0) rfl
  have c1 := bk1.out.cellv (i := 1) rfl
  have c2 := bk1.out.cellv (i := 2) rfl
  obtain ⟨hs, hn0, hn1⟩ := Ino.wayE_ok Hhe.out
  obtain ⟨k1, k2, k3, k4, k5⟩ := Ino.half hs
  have hn2 : n + 1 ≤ 9223372036854775807 := by omega
  clear hs k5
  have hv : (n = m ∧ a = a' ∧ b = b' ∧ c = c') ∨ (¬ n = m ∧ ¬ a = a') ∨ (¬ n = m ∧ a = a' ∧ ¬ b = b') ∨ (¬ n = m ∧ a = a' ∧ b = b' ∧ ¬ c = c') := by
    by_cases hnm : n = m
    · subst hnm
      exact .inl ⟨rfl, by rw [← Hha.out, Hha'.out], by rw [← Hhb.out, Hhb'.out], by rw [← Hhc.out, Hhc'.out]⟩
    · have := Ino.way_unlike Hhe.out Hhe'.out hnm
      rw [Hha.out, Hhb.out, Hhc.out, Hha'.out, Hhb'.out, Hhc'.out] at this
      rcases this with h | ⟨h, h'⟩ | ⟨h, h', h''⟩
      · exact .inr (.inl ⟨hnm, h⟩)
      · exact .inr (.inr (.inl ⟨hnm, h, h'⟩))
      · exact .inr (.inr (.inr ⟨hnm, h, h', h''⟩))
  rcases hv with ⟨rfl, rfl, rfl, rfl⟩ | ⟨hnm, ha⟩ | ⟨hnm, rfl, hb⟩ | ⟨hnm, rfl, rfl, hc⟩
  all_goals
    go_wp2_with fail
    refine (to_calls s (n + 1) _ (by omega) hn2).mono ?_
    rw [wayV_is s (n + 1)]
    rintro e1 w4 ⟨rfl, hb⟩
    have HB3 := Lib.hid (Below.then_ HB2.out hb)
    have bk3 := Lib.hid (bk1.out.belowHere hb)
    have hs2 := HB3.out.size
    clear hb bk1 HB2 bk2 c0 c1 c2
    by_cases he : Ino.wayE s (n + 1) = 0
    case neg =>
      have hl := Ino.way_last Hhe.out he
      generalize Ino.wayA s (n + 1) = a4
      generalize Ino.wayB s (n + 1) = b4
      generalize Ino.wayC s (n + 1) = c4
      generalize Ino.wayE s (n + 1) = e4 at *
      have q1 := IntWalk.i64_in (s / 2 * (s / 2)) ⟨by omega, by omega⟩
      have q2 := IntWalk.i64_in (6 + s / 2 + s / 2 * (s / 2)) ⟨by omega, by omega⟩
      have HB4 := Lib.hid (HB3.out.alloc HB3.out.size (.cells #[.int .i64 a4, .int .i64 b4, .int .i64 c4] 23))
      go_wp2_with fail
      refine (known_calls _).mono ?_
      rintro e wk_ ⟨rfl, h_⟩
      have HBk_ := Lib.hid h_
      clear h_
      go_wp2
      go_ret
      exact ⟨rfl, Below.then_ (HB4.out) HBk_.out⟩
    have hx := Ino.way_next Hhe.out he
    have hy := Ino.way_bound Hhe.out
    rw [he]
    rw [Hha.out, Hhb.out, Hhc.out] at hx
    rw [Hhb.out, Hhc.out] at hy
    clear he
    generalize Ino.wayA s (n + 1) = a4 at *
    generalize Ino.wayB s (n + 1) = b4 at *
    generalize Ino.wayC s (n + 1) = c4 at *
    obtain ⟨y1, y2, y3, y4⟩ := hy
    have HB4 := Lib.hid (HB3.out.alloc HB3.out.size (.cells #[.int .i64 a4, .int .i64 b4, .int .i64 c4] 23))
    have bk4 := Lib.hid (bk3.out.alloc (.cells #[.int .i64 a4, .int .i64 b4, .int .i64 c4] 23))
    have c0 := bk4.out.cellv (i := 0) rfl
    have c1 := bk4.out.cellv (i := 1) rfl
    have c2 := bk4.out.cellv (i := 2) rfl
    have z1 : ¬ b + 1 = b := by omega
    rcases hx with ⟨rfl, rfl, rfl, rfl⟩ | ⟨rfl, rfl, rfl, rfl, rfl⟩ | ⟨rfl, rfl, rfl, rfl⟩ | ⟨rfl, rfl, rfl, rfl, rfl⟩ | ⟨rfl, rfl, rfl, rfl⟩ | ⟨rfl, rfl, rfl, rfl, rfl⟩
    all_goals
      go_wp2_with fail
      refine (known_calls _).mono ?_
      rintro e wk_ ⟨rfl, h_⟩
      have HBk_ := Lib.hid h_
      clear h_
      go_wp2
      go_ret
      exact ⟨rfl, Below.then_ (HB4.out) HBk_.out⟩
end Go.Proofs.Ytjnjemhnceejeaa
