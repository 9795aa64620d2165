/-
  The walk of the law InodeBack.
-/
import Derived.Test.YtjnjemhnceejeaaInoTab2
namespace Go.Proofs.Ytjnjemhnceejeaa
open Go.RowKit

set_option maxHeartbeats 8000000 in
theorem inodeBack_walk (i : Nod) (a : Option Addr) (n c : Nat) (xs : List UInt8) (k other : Int) (w : World) (hx : Bytes w w.heap.size a n xs) (hnc : n ≤ c) (_ : c ≤ 140737488351232) (_ : -9223372036854775808 ≤ k) (_ : k ≤ 9223372036854775807) (_ : -9223372036854775808 ≤ other) (_ : other ≤ 9223372036854775807) :
    Calls Try.prog 9 #[nodV i, .slice a n c, .int .i64 k, .int .i64 other] w fun e w' => e = .returned (.bool true) ∧ Below w.heap.size w w' := by
  have hbl := Lib.hid ((Below.refl w.heap.size w).alloc (Nat.le_refl _) (nodO i))
  by_cases hl : 1500 < n
  · have hd : decide (1500 < n) = true := decide_eq_true hl
    go_enter Try.func9, Try.ntmps9
    go_wp2_with fail
    refine (ilong_calls _ _ _ _).mono ?_
    rintro e w_ ⟨rfl, rfl⟩
    rw [hd]
    go_wp2_with fail
    refine (known_calls _).mono ?_
    rintro e wk ⟨rfl, hbk⟩
    go_wp2
    go_ret
    exact ⟨rfl, Below.then_ hbl.out hbk⟩
  have hd : decide (1500 < n) = false := decide_eq_false hl
  have HX := Lib.hid hx
  have hlen := Lib.hid hx.len
  clear hx hl
  have BT := Lib.hid (Blk.new w 36 #[.int .i64 i.k, .int .i64 i.l, .int .i64 i.s, .int .i64 i.d0, .int .i64 i.d1, .int .i64 i.d2, .int .i64 i.d3, .int .i64 i.d4, .int .i64 i.d5, .int .i64 i.a, .int .i64 i.b])
  have HX1 := Lib.hid (HX.out.alloc (nodO i))
  go_enter Try.func9, Try.ntmps9
  go_wp2_with fail
  refine (ilong_calls _ _ _ _).mono ?_
  rintro e w_ ⟨rfl, rfl⟩
  rw [hd]
  clear hd
  go_wp2_with fail
  by_cases hr : Nod.Right i
  case neg =>
    refine (write_calls i _).mono ?_
    rintro e w1 ⟨v1, rfl, ho, hb⟩
    rw [(Nod.write_no hr).2]
    rw [(Nod.write_no hr).1] at ho
    obtain ⟨a1, c1, rfl, hc1⟩ := ho.formN (n := 0) rfl
    have HO1 := Lib.hid (ho.arr (by simp))
    have HB1 := Lib.hid (Below.then_ hbl.out hb)
    have BT1 := Lib.hid (BT.out.belowHere hb)
    have HX2 := Lib.hid (HX1.out.on hb)
    clear ho hb hbl BT HX1
    go_wp2_with fail
    refine (read_calls a1 _ c1 _ _ HO1.out hc1).mono ?_
    rintro e w2 ⟨rfl, hb⟩
    obtain ⟨u, hu⟩ : ∃ u, u = Nod.readN ([] : List UInt8) := ⟨_, rfl⟩
    rw [← hu]
    clear hu
    generalize Nod.readE ([] : List UInt8) = eu at *
    have hb3 := (Below.refl w2.heap.size w2).alloc (Nat.le_refl _) (nodO u)
    have BT2 := Lib.hid (BT1.out.belowHere hb)
    have HB3 := Lib.hid (Below.then_ (HB1.out.trans (hb.mono HB1.out.size)) hb3)
    have BT3 := Lib.hid ((BT1.out.belowHere hb).belowHere hb3)
    have HX4 := Lib.hid ((HX2.out.on hb).on hb3)
    have hlt := BT2.out.lt
    clear hb hb3 HB1 BT1 HX2 HO1
    have y0 := BT2.out.cellv (i := 0) rfl
    have y1 := BT2.out.cellv (i := 1) rfl
    have y2 := BT2.out.cellv (i := 2) rfl
    have y3 := BT2.out.cellv (i := 3) rfl
    have y4 := BT2.out.cellv (i := 4) rfl
    have y5 := BT2.out.cellv (i := 5) rfl
    have y6 := BT2.out.cellv (i := 6) rfl
    have y7 := BT2.out.cellv (i := 7) rfl
    have y8 := BT2.out.cellv (i := 8) rfl
    have y9 := BT2.out.cellv (i := 9) rfl
    have y10 := BT2.out.cellv (i := 10) rfl
    go_wp2_with fail
    clear y0 y1 y2 y3 y4 y5 y6 y7 y8 y9 y10
    refine (put_calls2 a n c xs k i _ HX4.out).mono ?_
    rintro _ w4 ⟨v4, rfl, ho, hb⟩
    have HB4 := Lib.hid (HB3.out.trans (hb.mono HB3.out.size))
    have BT4 := Lib.hid (BT3.out.belowHere hb)
    have HX5 := Lib.hid (HX4.out.on hb)
    clear hb HB3 BT3 BT2 HX4
    have hL : Nod.putL xs k i = [] := by unfold Nod.putL; rw [if_neg (fun h => hr h.2)]
    have hE : (Nod.putE xs k i != 0) = true := by
      unfold Nod.putE
      rw [if_neg hr, bne_iff_ne]
      split <;> decide
    rw [hL] at ho
    clear hL hr
    generalize Nod.putE xs k i = e4 at *
    obtain ⟨a4, c4, rfl, _⟩ := ho.formN (n := 0) rfl
    clear ho
    go_wp2_with fail
    refine (known_calls _).mono ?_
    rintro _ wk ⟨rfl, hbk⟩
    have HBk := Lib.hid hbk
    clear hbk
    go_wp2
    go_ret
    exact ⟨rfl, HB4.out.trans (HBk.out.mono HB4.out.size)⟩
  refine (write_calls i _).mono ?_
  rintro e w1 ⟨v1, rfl, ho, hb⟩
  rw [(Nod.write_yes hr).2]
  rw [(Nod.write_yes hr).1] at ho
  obtain ⟨a1, c1, rfl, hc1⟩ := ho.formN (n := 24) (Nod.bytes_len i)
  have HO1 := Lib.hid (ho.arr (by rw [Nod.bytes_len]; omega))
  have HB1 := Lib.hid (Below.then_ hbl.out hb)
  have BT1 := Lib.hid (BT.out.belowHere hb)
  have HX2 := Lib.hid (HX1.out.on hb)
  clear ho hb hbl BT HX1
  go_wp2_with fail
  refine (read_calls a1 _ c1 _ _ HO1.out hc1).mono ?_
  rintro e w2 ⟨rfl, hb⟩
  rw [(Nod.read_bytes hr).1, (Nod.read_bytes hr).2]
  have hb3 := (Below.refl w2.heap.size w2).alloc (Nat.le_refl _) (nodO i)
  have BT2 := Lib.hid (BT1.out.belowHere hb)
  have HB3 := Lib.hid (Below.then_ (HB1.out.trans (hb.mono HB1.out.size)) hb3)
  have BT3 := Lib.hid ((BT1.out.belowHere hb).belowHere hb3)
  have HX4 := Lib.hid ((HX2.out.on hb).on hb3)
  have hlt := BT2.out.lt
  clear hb hb3 HB1 BT1 HX2 HO1
  have y0 := BT2.out.cellv (i := 0) rfl
  have y1 := BT2.out.cellv (i := 1) rfl
  have y2 := BT2.out.cellv (i := 2) rfl
  have y3 := BT2.out.cellv (i := 3) rfl
  have y4 := BT2.out.cellv (i := 4) rfl
  have y5 := BT2.out.cellv (i := 5) rfl
  have y6 := BT2.out.cellv (i := 6) rfl
  have y7 := BT2.out.cellv (i := 7) rfl
  have y8 := BT2.out.cellv (i := 8) rfl
  have y9 := BT2.out.cellv (i := 9) rfl
  have y10 := BT2.out.cellv (i := 10) rfl
  have hrefl := nodEq_self i
  go_wp2_with fail
  clear y0 y1 y2 y3 y4 y5 y6 y7 y8 y9 y10
  clear hrefl
  refine (put_calls2 a n c xs k i _ HX4.out).mono ?_
  rintro _ w4 ⟨v4, rfl, ho, hb⟩
  have HB4 := Lib.hid (HB3.out.trans (hb.mono HB3.out.size))
  have BT4 := Lib.hid (BT3.out.belowHere hb)
  have HX5 := Lib.hid (HX4.out.on hb)
  clear hb HB3 BT3 BT2 HX4
  by_cases hin : Nod.In xs.length k
  case neg =>
    have hL : Nod.putL xs k i = [] := by unfold Nod.putL; rw [if_neg (fun h => hin h.1)]
    have hE : Nod.putE xs k i = 1 := by unfold Nod.putE; rw [if_neg hin]
    rw [hL] at ho
    rw [hE]
    clear hL hE hr hin
    obtain ⟨a4, c4, rfl, _⟩ := ho.formN (n := 0) rfl
    clear ho
    go_wp2_with fail
    refine (known_calls _).mono ?_
    rintro _ wk ⟨rfl, hbk⟩
    have HBk := Lib.hid hbk
    clear hbk
    go_wp2
    go_ret
    exact ⟨rfl, HB4.out.trans (HBk.out.mono HB4.out.size)⟩
  obtain ⟨b1, b2, _, _⟩ := Nod.in_bound hin
  rw [hlen.out] at b2
  have hL : Nod.putL xs k i = Nod.putAt xs k.toNat i := by unfold Nod.putL; rw [if_pos ⟨hin, hr⟩]
  have hE : Nod.putE xs k i = 0 := by unfold Nod.putE; rw [if_pos hin, if_pos hr]
  rw [hL] at ho
  rw [hE]
  clear hL hE
  obtain ⟨a4, c4, rfl, hc4⟩ := ho.formN (n := n) (by rw [Nod.putAt_len (by rw [hlen.out]; exact b2)]; exact hlen.out)
  have HP4 := Lib.hid (ho.arr (by rw [Nod.putAt_len (by rw [hlen.out]; exact b2), hlen.out]; omega))
  have hg := Lib.hid (Nod.get_here (i := i) hin hr)
  have hgo := Lib.hid (fun (hne : other ≠ k) => Nod.get_other (i := i) hin hne)
  clear ho hin hr b1 b2
  generalize Nod.putAt xs k.toNat i = ps at *
  go_wp2_with fail
  refine (get_calls a4 n c4 ps k _ HP4.out hc4).mono ?_
  rintro _ w5 ⟨rfl, hb⟩
  rw [hg.out.1, hg.out.2]
  have hb5 := (Below.refl w5.heap.size w5).alloc (Nat.le_refl _) (nodO i)
  have BJ5 := Lib.hid (Blk.new w5 36 #[.int .i64 i.k, .int .i64 i.l, .int .i64 i.s, .int .i64 i.d0, .int .i64 i.d1, .int .i64 i.d2, .int .i64 i.d3, .int .i64 i.d4, .int .i64 i.d5, .int .i64 i.a, .int .i64 i.b])
  have HB5 := Lib.hid (Below.then_ (HB4.out.trans (hb.mono HB4.out.size)) hb5)
  have BT5 := Lib.hid ((BT4.out.belowHere hb).belowHere hb5)
  have HX6 := Lib.hid ((HX5.out.on hb).on hb5)
  have HP5 := Lib.hid ((HP4.out.on hb).on hb5)
  clear hb hb5 hg HB4 BT4 HX5 HP4
  go_wp2_with fail
  refine (get_calls a n c xs other _ HX6.out hnc).mono ?_
  rintro _ w6 ⟨rfl, hb⟩
  obtain ⟨r, hrr⟩ : ∃ r, r = Nod.getN xs other := ⟨_, rfl⟩
  rw [← hrr]
  have HRR := Lib.hid hrr
  clear hrr
  have hb6 := (Below.refl w6.heap.size w6).alloc (Nat.le_refl _) (nodO r)
  have BR6 := Lib.hid (Blk.new w6 36 #[.int .i64 r.k, .int .i64 r.l, .int .i64 r.s, .int .i64 r.d0, .int .i64 r.d1, .int .i64 r.d2, .int .i64 r.d3, .int .i64 r.d4, .int .i64 r.d5, .int .i64 r.a, .int .i64 r.b])
  have HB6 := Lib.hid (Below.then_ (HB5.out.trans (hb.mono HB5.out.size)) hb6)
  have BT6 := Lib.hid ((BT5.out.belowHere hb).belowHere hb6)
  have BJ6 := Lib.hid ((BJ5.out.belowHere hb).belowHere hb6)
  have HP6 := Lib.hid ((HP5.out.on hb).on hb6)
  clear hb hb6 HB5 BT5 BJ5 HX6 HP5
  go_wp2_with fail
  refine (get_calls a4 n c4 ps other _ HP6.out hc4).mono ?_
  rintro _ w7 ⟨rfl, hb⟩
  have HB7 := Lib.hid (HB6.out.trans (hb.mono HB6.out.size))
  have BT7 := Lib.hid (BT6.out.belowHere hb)
  have BJ7 := Lib.hid (BJ6.out.belowHere hb)
  have BR7 := Lib.hid (BR6.out.belowHere hb)
  have lt1 := BT7.out.lt
  have lt2 := BJ7.out.lt
  have lt3 := BR7.out.lt
  clear hb HB6 BT6 BJ6 BR6 HP6
  have x0 := BT7.out.cellv (i := 0) rfl
  have x1 := BT7.out.cellv (i := 1) rfl
  have x2 := BT7.out.cellv (i := 2) rfl
  have x3 := BT7.out.cellv (i := 3) rfl
  have x4 := BT7.out.cellv (i := 4) rfl
  have x5 := BT7.out.cellv (i := 5) rfl
  have x6 := BT7.out.cellv (i := 6) rfl
  have x7 := BT7.out.cellv (i := 7) rfl
  have x8 := BT7.out.cellv (i := 8) rfl
  have x9 := BT7.out.cellv (i := 9) rfl
  have x10 := BT7.out.cellv (i := 10) rfl
  have y0 := BJ7.out.cellv (i := 0) rfl
  have y1 := BJ7.out.cellv (i := 1) rfl
  have y2 := BJ7.out.cellv (i := 2) rfl
  have y3 := BJ7.out.cellv (i := 3) rfl
  have y4 := BJ7.out.cellv (i := 4) rfl
  have y5 := BJ7.out.cellv (i := 5) rfl
  have y6 := BJ7.out.cellv (i := 6) rfl
  have y7 := BJ7.out.cellv (i := 7) rfl
  have y8 := BJ7.out.cellv (i := 8) rfl
  have y9 := BJ7.out.cellv (i := 9) rfl
  have y10 := BJ7.out.cellv (i := 10) rfl
  have hrefl := nodEq_self i
  by_cases hne : other = k
  · subst hne
    generalize Nod.getN ps other = r2 at *
    generalize Nod.getE ps other = e2 at *
    generalize Nod.getE xs other = e1 at *
    have HBz := Lib.hid (HB7.out.alloc HB7.out.size (nodO r2))
    go_wp2_with fail
    refine (known_calls _).mono ?_
    rintro _ wk ⟨rfl, hbk⟩
    have HBk := Lib.hid hbk
    clear hbk
    go_wp2
    go_ret
    exact ⟨rfl, Below.then_ HBz.out HBk.out⟩
  · have h5 := hgo.out hne
    rw [h5.1, h5.2, ← HRR.out]
    have hkb : (other == k) = false := by rw [beq_eq_false_iff_ne]; exact hne
    clear h5 hne hgo
    generalize Nod.getE xs other = e1 at *
    have z0 := BR7.out.cellv (i := 0) rfl
    have z1 := BR7.out.cellv (i := 1) rfl
    have z2 := BR7.out.cellv (i := 2) rfl
    have z3 := BR7.out.cellv (i := 3) rfl
    have z4 := BR7.out.cellv (i := 4) rfl
    have z5 := BR7.out.cellv (i := 5) rfl
    have z6 := BR7.out.cellv (i := 6) rfl
    have z7 := BR7.out.cellv (i := 7) rfl
    have z8 := BR7.out.cellv (i := 8) rfl
    have z9 := BR7.out.cellv (i := 9) rfl
    have z10 := BR7.out.cellv (i := 10) rfl
    have hrefl2 := nodEq_self r
    have HBz := Lib.hid (HB7.out.alloc HB7.out.size (nodO r))
    go_wp2_with fail
    refine (known_calls _).mono ?_
    rintro _ wk ⟨rfl, hbk⟩
    have HBk := Lib.hid hbk
    clear hbk
    go_wp2
    go_ret
    exact ⟨rfl, Below.then_ HBz.out HBk.out⟩
end Go.Proofs.Ytjnjemhnceejeaa
