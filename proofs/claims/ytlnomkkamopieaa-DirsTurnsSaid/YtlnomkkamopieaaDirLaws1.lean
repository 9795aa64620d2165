/-
  The walks of the laws DirsSlots and DirsBack.
-/
import Derived.Test.YtlnomkkamopieaaDirTop
namespace Go.Proofs.Ytlnomkkamopieaa
open Go.RowKit Go.Maps Go.WideMaps

set_option maxHeartbeats 4000000 in
theorem dirsSlots_walk (e : Ent) (a : Option Addr) (n c : Nat) (b : List UInt8) (w : World) (hx : Bytes w w.heap.size a n b) (hnc : n ≤ c) (_ : c ≤ 140737488351232) :
    Calls Try.prog 3 #[entV e, .slice a n c] w fun x w' => x = .returned (.bool true) ∧ Below w.heap.size w w' := by
  have hb0 := (Below.refl w.heap.size w).alloc (Nat.le_refl _) (entO e)
  have HB0 := Lib.hid hb0
  have HX0 := Lib.hid (hx.on hb0)
  have HE0 := Lib.hid (Blk.new w 23 #[.int .i64 e.i, .string (strL e.nm)])
  unfold entO at HB0 HX0
  obtain ⟨i, nm⟩ := e
  simp only at HB0 HX0 HE0
  clear hb0 hx
  by_cases h1 : 500 < nm.length
  · have g1 : decide (500 < (nm.length : Int)) = true := decide_eq_true (by omega)
    clear h1
    go_enter Try.func3, Try.ntmps3
    go_wp2_with fail
    refine (known_calls _).mono ?_
    rintro e wk_ ⟨rfl, h_⟩
    have HBk_ := Lib.hid h_
    clear h_
    go_wp2
    go_ret
    exact ⟨rfl, Below.then_ (HB0.out) HBk_.out⟩
  have g1 : decide (500 < (nm.length : Int)) = false := decide_eq_false (by omega)
  by_cases h2 : 1500 < n
  · have g2 : decide (1500 < n) = true := decide_eq_true h2
    clear h2 h1
    go_enter Try.func3, Try.ntmps3
    go_wp2_with fail
    refine (long_calls _ _ _ _).mono ?_
    rintro e w_ ⟨rfl, rfl⟩
    rw [g2]
    go_wp2_with fail
    refine (known_calls _).mono ?_
    rintro e wk_ ⟨rfl, h_⟩
    have HBk_ := Lib.hid h_
    clear h_
    go_wp2
    go_ret
    exact ⟨rfl, Below.then_ (HB0.out) HBk_.out⟩
  have g2 : decide (1500 < n) = false := decide_eq_false h2
  have hnm : nm.length ≤ 140737488351232 := by omega
  have HW := Lib.hid (fun W => write_calls ⟨i, nm⟩ W hnm)
  have HV := Lib.hid (fun W => refWrite_calls ⟨i, nm⟩ W hnm)
  have hwl := Lib.hid (show ∀ v W B, Own byteV 5 W B v (Dir.writeL ⟨i, nm⟩) → ∃ a n c, v = .slice a n c ∧ Bytes W W.heap.size a n (Dir.writeL ⟨i, nm⟩) from fun v W B ho => by
    obtain ⟨a1, c1, rfl, _⟩ := ho.form
    refine ⟨_, _, _, rfl, ho.arr ?_⟩
    by_cases hE : Dir.writeE ⟨i, nm⟩ = 0
    · rw [Dir.writeL_len _ hE]; decide
    · rw [Dir.writeL, if_neg hE]; decide)
  unfold WriteR at HW HV
  have HR := Lib.hid (fun a c W (hx : Bytes W W.heap.size a n b) (h : n ≤ c) => read_calls a n c b W hx h)
  have HS := Lib.hid (fun a c W (hx : Bytes W W.heap.size a n b) (h : n ≤ c) => refRead_calls a n c b W hx h)
  unfold ReadR at HR HS
  generalize Dir.writeL ⟨i, nm⟩ = L at *
  generalize Dir.writeE ⟨i, nm⟩ = E at *
  generalize Dir.readR b = R at *
  obtain ⟨⟨j, nn⟩, u, er⟩ := R
  clear h1 h2
  go_enter Try.func3, Try.ntmps3
  go_wp2_with fail
  refine (long_calls _ _ _ _).mono ?_
  rintro e w_ ⟨rfl, rfl⟩
  rw [g2]
  go_wp2_with fail
  refine (HW.out _).mono ?_
  rintro e w1 ⟨⟨v1, rfl, ho⟩, hb⟩
  obtain ⟨a1, n1, c1, rfl, hy⟩ := hwl.out _ _ _ ho
  have e1 := HE0.out.belowHere hb
  have e10 := e1.cellv (i := 0) rfl
  have e11 := e1.cellv (i := 1) rfl
  have HE1 := Lib.hid e1
  have HX1 := Lib.hid (HX0.out.on hb)
  have HY1 := Lib.hid hy
  have HB1 := Lib.hid (HB0.out.then_ hb)
  clear ho hb hy e1
  go_wp2_with fail
  refine (HV.out _).mono ?_
  rintro e w2 ⟨⟨v2, rfl, ho⟩, hb⟩
  obtain ⟨a2, n2, c2, rfl, hy⟩ := hwl.out _ _ _ ho
  have HX2 := Lib.hid (HX1.out.on hb)
  have HY2 := Lib.hid (HY1.out.on hb)
  have HZ2 := Lib.hid hy
  have HB2 := Lib.hid (HB1.out.then_ hb)
  clear ho hb hy
  go_wp2_with fail
  refine (HR.out _ _ _ HX2.out hnc).mono ?_
  rintro e w3 ⟨rfl, hb⟩
  have hb4 := hb.trans (((Below.refl w3.heap.size w3).alloc (Nat.le_refl _) (.cells #[.int .i64 j, .string (strL nn)] 23)).mono hb.size)
  have x4 := Blk.new w3 23 #[.int .i64 j, .string (strL nn)]
  have HX4 := Lib.hid (HX2.out.on hb4)
  have HY4 := Lib.hid (HY2.out.on hb4)
  have HZ4 := Lib.hid (HZ2.out.on hb4)
  have HB4 := Lib.hid (HB2.out.then_ hb4)
  have XX4 := Lib.hid x4
  clear hb hb4 x4
  go_wp2_with fail
  refine (HS.out _ _ _ HX4.out hnc).mono ?_
  rintro e w5 ⟨rfl, hb⟩
  have hb6 := hb.trans (((Below.refl w5.heap.size w5).alloc (Nat.le_refl _) (.cells #[.int .i64 j, .string (strL nn)] 23)).mono hb.size)
  have x6 := XX4.out.belowHere hb6
  have z0 := x6.cellv (i := 0) rfl
  have z1 := x6.cellv (i := 1) rfl
  have HSA := Lib.hid (same_yes a1 a2 n1 c1 n2 c2 L _ (HY4.out.on hb6) (HZ4.out.on hb6))
  have HB6 := Lib.hid (HB4.out.then_ hb6)
  clear hb hb6 x6
  go_wp2_with fail
  refine HSA.out.mono ?_
  rintro e w_ ⟨rfl, rfl⟩
  go_wp2_with fail
  refine (known_calls _).mono ?_
  rintro e wk_ ⟨rfl, h_⟩
  have HBk_ := Lib.hid h_
  clear h_
  go_wp2
  go_ret
  exact ⟨rfl, Below.then_ (HB6.out) HBk_.out⟩
set_option maxHeartbeats 4000000 in
theorem dirsBack_walk (e : Ent) (a : Option Addr) (n c : Nat) (b : List UInt8) (w : World) (hx : Bytes w w.heap.size a n b) (hnc : n ≤ c) (_ : c ≤ 140737488351232) :
    Calls Try.prog 4 #[entV e, .slice a n c] w fun x w' => x = .returned (.bool true) ∧ Below w.heap.size w w' := by
  have hb0 := (Below.refl w.heap.size w).alloc (Nat.le_refl _) (entO e)
  have HB0 := Lib.hid hb0
  have HX0 := Lib.hid (hx.on hb0)
  have HE0 := Lib.hid (Blk.new w 23 #[.int .i64 e.i, .string (strL e.nm)])
  unfold entO at HB0 HX0
  obtain ⟨i, nm⟩ := e
  simp only at HB0 HX0 HE0
  clear hb0 hx
  by_cases h1 : 500 < nm.length
  · have g1 : decide (500 < (nm.length : Int)) = true := decide_eq_true (by omega)
    clear h1
    go_enter Try.func4, Try.ntmps4
    go_wp2_with fail
    refine (known_calls _).mono ?_
    rintro e wk_ ⟨rfl, h_⟩
    have HBk_ := Lib.hid h_
    clear h_
    go_wp2
    go_ret
    exact ⟨rfl, Below.then_ (HB0.out) HBk_.out⟩
  have g1 : decide (500 < (nm.length : Int)) = false := decide_eq_false (by omega)
  by_cases h2 : 1500 < n
  · have g2 : decide (1500 < n) = true := decide_eq_true h2
    clear h2 h1
    go_enter Try.func4, Try.ntmps4
    go_wp2_with fail
    refine (long_calls _ _ _ _).mono ?_
    rintro e w_ ⟨rfl, rfl⟩
    rw [g2]
    go_wp2_with fail
    refine (known_calls _).mono ?_
    rintro e wk_ ⟨rfl, h_⟩
    have HBk_ := Lib.hid h_
    clear h_
    go_wp2
    go_ret
    exact ⟨rfl, Below.then_ (HB0.out) HBk_.out⟩
  have g2 : decide (1500 < n) = false := decide_eq_false h2
  have hnm : nm.length ≤ 140737488351232 := by omega
  have HW := Lib.hid (fun W => write_calls ⟨i, nm⟩ W hnm)
  have hwl := Lib.hid (show ∀ v W B, Own byteV 5 W B v (Dir.writeL ⟨i, nm⟩) → ∃ a n c, v = .slice a n c ∧ n ≤ c ∧ Bytes W W.heap.size a n (Dir.writeL ⟨i, nm⟩) from fun v W B ho => by
    obtain ⟨a1, c1, rfl, hc⟩ := ho.form
    refine ⟨_, _, _, rfl, hc, ho.arr ?_⟩
    by_cases hE : Dir.writeE ⟨i, nm⟩ = 0
    · rw [Dir.writeL_len _ hE]; decide
    · rw [Dir.writeL, if_neg hE]; decide)
  have hback := Lib.hid (show (Dir.writeE ⟨i, nm⟩ = 0 ∧ Dir.readR (Dir.writeL ⟨i, nm⟩) = (⟨i, nm⟩, true, 0)) ∨ ((Dir.writeE ⟨i, nm⟩ == 0) = false ∧ (Dir.writeE ⟨i, nm⟩ != 0) = true) from by
    by_cases hE : Dir.writeE ⟨i, nm⟩ = 0
    · refine .inl ⟨hE, ?_⟩
      rw [Dir.writeL, if_pos hE]
      exact Dir.readR_slot _ hE
    · exact .inr ⟨by simpa using hE, by simpa using hE⟩)
  have HR := Lib.hid (fun a c W (hx : Bytes W W.heap.size a n b) (h : n ≤ c) => read_calls a n c b W hx h)
  have HU := Lib.hid (show ((Dir.readR b).2.1 = true ∧ Dir.writeE (Dir.readR b).1 = 0 ∧ Dir.writeL (Dir.readR b).1 = b ∧ (Dir.readR b).2.2 = 0) ∨ (Dir.readR b).2.1 = false from by
    cases h : (Dir.readR b).2.1
    · exact .inr rfl
    · obtain ⟨q1, q2, q3, _⟩ := Dir.readR_used h
      exact .inl ⟨rfl, q1, q2, q3⟩)
  have hlen := hnc
  unfold WriteR at HW
  unfold ReadR at HR
  have hnn := Dir.rd_len b
  generalize Dir.readR b = R at *
  generalize Dir.writeL ⟨i, nm⟩ = L at *
  generalize Dir.writeE ⟨i, nm⟩ = E at *
  obtain ⟨⟨j, nn⟩, u, er⟩ := R
  simp only at hnn
  have HW2 := Lib.hid (fun W => write_calls ⟨j, nn⟩ W (by simp only; omega))
  unfold WriteR at HW2
  have hw2f := Lib.hid (show ∀ v W B, Own byteV 5 W B v (Dir.writeL ⟨j, nn⟩) → ∃ a n c, v = .slice a n c ∧ Bytes W W.heap.size a n (Dir.writeL ⟨j, nn⟩) from fun v W B ho => by
    obtain ⟨a1, c1, rfl, hc⟩ := ho.form
    refine ⟨_, _, _, rfl, ho.arr ?_⟩
    by_cases hE : Dir.writeE ⟨j, nn⟩ = 0
    · rw [Dir.writeL_len _ hE]; decide
    · rw [Dir.writeL, if_neg hE]; decide)
  clear h1 h2
  go_enter Try.func4, Try.ntmps4
  go_wp2_with fail
  refine (long_calls _ _ _ _).mono ?_
  rintro e w_ ⟨rfl, rfl⟩
  rw [g2]
  go_wp2_with fail
  refine (HW.out _).mono ?_
  rintro e w1 ⟨⟨v1, rfl, ho⟩, hb⟩
  obtain ⟨a1, n1, c1, rfl, hnc1, hy⟩ := hwl.out _ _ _ ho
  have HE1 := Lib.hid (HE0.out.belowHere hb)
  have HX1 := Lib.hid (HX0.out.on hb)
  have HB1 := Lib.hid (HB0.out.then_ hb)
  have HRL := Lib.hid (read_calls a1 n1 c1 L w1 hy hnc1)
  unfold ReadR at HRL
  generalize Dir.readR L = R1 at *
  obtain ⟨⟨k, mm⟩, u1, er1⟩ := R1
  clear ho hb hy
  go_wp2_with fail
  refine HRL.out.mono ?_
  rintro e w2 ⟨rfl, hb⟩
  have hb3 := hb.trans (((Below.refl w2.heap.size w2).alloc (Nat.le_refl _) (.cells #[.int .i64 k, .string (strL mm)] 23)).mono hb.size)
  have e3 := HE1.out.belowHere hb3
  have e30 := e3.cellv (i := 0) rfl
  have e31 := e3.cellv (i := 1) rfl
  have HX3 := Lib.hid (HX1.out.on hb3)
  have HB3 := Lib.hid (HB1.out.then_ hb3)
  clear hb hb3 e3
  rcases hback.out with ⟨rfl, hre⟩ | ⟨ge1, ge2⟩
  · injection hre with q1 q2
    injection q1 with q3 q4
    injection q2 with q5 q6
    subst q3 q4 q5 q6
    rcases HU.out with ⟨hu, hw0, hwb, h0⟩ | hu
    · subst hu h0
      rw [hw0, hwb] at HW2
      rw [hwb] at hw2f
      clear hw0 hwb
      go_wp2_with fail
      refine (HR.out _ _ _ HX3.out hnc).mono ?_
      rintro e w4 ⟨rfl, hb⟩
      have hb5 := hb.trans (((Below.refl w4.heap.size w4).alloc (Nat.le_refl _) (.cells #[.int .i64 j, .string (strL nn)] 23)).mono hb.size)
      have HX5 := Lib.hid (HX3.out.on hb5)
      have HB5 := Lib.hid (HB3.out.then_ hb5)
      clear hb hb5
      go_wp2_with fail
      refine (HW2.out _).mono ?_
      rintro e w6 ⟨⟨v6, rfl, ho⟩, hb⟩
      obtain ⟨a6, n6, c6, rfl, hy⟩ := hw2f.out _ _ _ ho
      have HSA := Lib.hid (same_yes a6 a n6 c6 n c b _ hy (HX5.out.on hb))
      have HB6 := Lib.hid (HB5.out.then_ hb)
      clear ho hb hy
      go_wp2_with fail
      refine HSA.out.mono ?_
      rintro e w_ ⟨rfl, rfl⟩
      go_wp2_with fail
      refine (known_calls _).mono ?_
      rintro e wk_ ⟨rfl, h_⟩
      have HBk_ := Lib.hid h_
      clear h_
      go_wp2
      go_ret
      exact ⟨rfl, Below.then_ (HB6.out) HBk_.out⟩
    · subst hu
      have her : ((er == 0) = true ∧ (er != 0) = false) ∨ ((er == 0) = false ∧ (er != 0) = true) := by
        by_cases h : er = 0
        · exact .inl ⟨by simpa using h, by simpa using h⟩
        · exact .inr ⟨by simpa using h, by simpa using h⟩
      generalize Dir.writeE ⟨j, nn⟩ = E2 at *
      rcases her with ⟨ge3, ge4⟩ | ⟨ge3, ge4⟩
      all_goals
        go_wp2_with fail
        refine (HR.out _ _ _ HX3.out hnc).mono ?_
        rintro e w4 ⟨rfl, hb⟩
        have hb5 := hb.trans (((Below.refl w4.heap.size w4).alloc (Nat.le_refl _) (.cells #[.int .i64 j, .string (strL nn)] 23)).mono hb.size)
        have HB5 := Lib.hid (HB3.out.then_ hb5)
        clear hb hb5
        go_wp2_with fail
        refine (HW2.out _).mono ?_
        rintro e w6 ⟨⟨v6, rfl, ho⟩, hb⟩
        have HB6 := Lib.hid (HB5.out.then_ hb)
        clear ho hb
        go_wp2_with fail
        refine (known_calls _).mono ?_
        rintro e wk_ ⟨rfl, h_⟩
        have HBk_ := Lib.hid h_
        clear h_
        go_wp2
        go_ret
        exact ⟨rfl, Below.then_ (HB6.out) HBk_.out⟩
  · rcases HU.out with ⟨hu, hw0, hwb, h0⟩ | hu
    · subst hu h0
      rw [hw0, hwb] at HW2
      rw [hwb] at hw2f
      clear hw0 hwb
      go_wp2_with fail
      refine (HR.out _ _ _ HX3.out hnc).mono ?_
      rintro e w4 ⟨rfl, hb⟩
      have hb5 := hb.trans (((Below.refl w4.heap.size w4).alloc (Nat.le_refl _) (.cells #[.int .i64 j, .string (strL nn)] 23)).mono hb.size)
      have HX5 := Lib.hid (HX3.out.on hb5)
      have HB5 := Lib.hid (HB3.out.then_ hb5)
      clear hb hb5
      go_wp2_with fail
      refine (HW2.out _).mono ?_
      rintro e w6 ⟨⟨v6, rfl, ho⟩, hb⟩
      obtain ⟨a6, n6, c6, rfl, hy⟩ := hw2f.out _ _ _ ho
      have HSA := Lib.hid (same_yes a6 a n6 c6 n c b _ hy (HX5.out.on hb))
      have HB6 := Lib.hid (HB5.out.then_ hb)
      clear ho hb hy
      go_wp2_with fail
      refine HSA.out.mono ?_
      rintro e w_ ⟨rfl, rfl⟩
      go_wp2_with fail
      refine (known_calls _).mono ?_
      rintro e wk_ ⟨rfl, h_⟩
      have HBk_ := Lib.hid h_
      clear h_
      go_wp2
      go_ret
      exact ⟨rfl, Below.then_ (HB6.out) HBk_.out⟩
    · subst hu
      have her : ((er == 0) = true ∧ (er != 0) = false) ∨ ((er == 0) = false ∧ (er != 0) = true) := by
        by_cases h : er = 0
        · exact .inl ⟨by simpa using h, by simpa using h⟩
        · exact .inr ⟨by simpa using h, by simpa using h⟩
      generalize Dir.writeE ⟨j, nn⟩ = E2 at *
      rcases her with ⟨ge3, ge4⟩ | ⟨ge3, ge4⟩
      all_goals
        go_wp2_with fail
        refine (HR.out _ _ _ HX3.out hnc).mono ?_
        rintro e w4 ⟨rfl, hb⟩
        have hb5 := hb.trans (((Below.refl w4.heap.size w4).alloc (Nat.le_refl _) (.cells #[.int .i64 j, .string (strL nn)] 23)).mono hb.size)
        have HB5 := Lib.hid (HB3.out.then_ hb5)
        clear hb hb5
        go_wp2_with fail
        refine (HW2.out _).mono ?_
        rintro e w6 ⟨⟨v6, rfl, ho⟩, hb⟩
        have HB6 := Lib.hid (HB5.out.then_ hb)
        clear ho hb
        go_wp2_with fail
        refine (known_calls _).mono ?_
        rintro e wk_ ⟨rfl, h_⟩
        have HBk_ := Lib.hid h_
        clear h_
        go_wp2
        go_ret
        exact ⟨rfl, Below.then_ (HB6.out) HBk_.out⟩
end Go.Proofs.Ytlnomkkamopieaa
