/-
  The walk of the law InodeTables.
-/
import Derived.Test.YtjnjemhnceejeaaInoTab2
namespace Go.Proofs.Ytjnjemhnceejeaa
open Go.RowKit

theorem putL_len (xs : List UInt8) (k : Int) (i : Nod) : (Nod.putL xs k i).length ≤ 512 := by
  unfold Nod.putL
  split
  · rename_i h
    obtain ⟨_, b2, b3, _⟩ := Nod.in_bound h.1
    rw [Nod.putAt_len b2]; exact b3
  · simp
set_option maxHeartbeats 8000000 in
theorem inodeTables_walk (a : Option Addr) (n c : Nat) (xs : List UInt8) (k : Int) (i : Nod) (w : World) (hx : Bytes w w.heap.size a n xs) (hnc : n ≤ c) (_ : c ≤ 140737488351232) (_ : -9223372036854775808 ≤ k) (_ : k ≤ 9223372036854775807) :
    Calls Try.prog 8 #[.slice a n c, .int .i64 k, nodV i] w fun e w' => e = .returned (.bool true) ∧ Below w.heap.size w w' := by
  have hbl := Lib.hid ((Below.refl w.heap.size w).alloc (Nat.le_refl _) (nodO i))
  by_cases hl : 1500 < n
  · have hd : decide (1500 < n) = true := decide_eq_true hl
    go_enter Try.func8, Try.ntmps8
    go_wp2_with fail
    refine (ilong_calls _ _ _ _).mono ?_
    rintro e w_ ⟨rfl, rfl⟩
    rw [hd]
    go_wp2_with fail
    refine (known_calls _).mono ?_
    rintro e wk ⟨rfl, hbk⟩
    go_wp2
    go_ret
    exact ⟨rfl, Below.then_ hbl.out hbk⟩
  have hd : decide (1500 < n) = false := decide_eq_false hl
  have HX := Lib.hid hx
  have hlen := Lib.hid hx.len
  clear hx hl
  have BT := Lib.hid (Blk.new w 36 #[.int .i64 i.k, .int .i64 i.l, .int .i64 i.s, .int .i64 i.d0, .int .i64 i.d1, .int .i64 i.d2, .int .i64 i.d3, .int .i64 i.d4, .int .i64 i.d5, .int .i64 i.a, .int .i64 i.b])
  have HX1 := Lib.hid (HX.out.alloc (nodO i))
  go_enter Try.func8, Try.ntmps8
  go_wp2_with fail
  refine (ilong_calls _ _ _ _).mono ?_
  rintro e w_ ⟨rfl, rfl⟩
  rw [hd]
  clear hd
  go_wp2_with fail
  refine (get_calls a n c xs k _ HX1.out hnc).mono ?_
  rintro e w1 ⟨rfl, hb⟩
  have HB1 := Lib.hid (Below.then_ hbl.out hb)
  have BT1 := Lib.hid (BT.out.belowHere hb)
  have HX2 := Lib.hid (HX1.out.on hb)
  clear hb hbl BT HX1
  obtain ⟨r, hr⟩ : ∃ r, r = Nod.getN xs k := ⟨_, rfl⟩
  rw [← hr]
  have HR := Lib.hid hr
  clear hr
  have hb2 := (Below.refl w1.heap.size w1).alloc (Nat.le_refl _) (nodO r)
  have BR2 := Lib.hid (Blk.new w1 36 #[.int .i64 r.k, .int .i64 r.l, .int .i64 r.s, .int .i64 r.d0, .int .i64 r.d1, .int .i64 r.d2, .int .i64 r.d3, .int .i64 r.d4, .int .i64 r.d5, .int .i64 r.a, .int .i64 r.b])
  have HB2 := Lib.hid (Below.then_ HB1.out hb2)
  have BT2 := Lib.hid (BT1.out.belowHere hb2)
  have HX3 := Lib.hid (HX2.out.on hb2)
  clear hb2 HB1 BT1 HX2
  go_wp2_with fail
  refine (refGet_calls a n c xs k _ HX3.out hnc).mono ?_
  rintro e w2 ⟨rfl, hb⟩
  rw [← HR.out]
  have hb3 := (Below.refl w2.heap.size w2).alloc (Nat.le_refl _) (nodO r)
  have BQ3 := Lib.hid (Blk.new w2 36 #[.int .i64 r.k, .int .i64 r.l, .int .i64 r.s, .int .i64 r.d0, .int .i64 r.d1, .int .i64 r.d2, .int .i64 r.d3, .int .i64 r.d4, .int .i64 r.d5, .int .i64 r.a, .int .i64 r.b])
  have HB3 := Lib.hid (Below.then_ (HB2.out.trans (hb.mono HB2.out.size)) hb3)
  have BT3 := Lib.hid ((BT2.out.belowHere hb).belowHere hb3)
  have BR3 := Lib.hid ((BR2.out.belowHere hb).belowHere hb3)
  have HX4 := Lib.hid ((HX3.out.on hb).on hb3)
  clear hb hb3 HB2 BT2 BR2 HX3
  generalize Nod.getE xs k = er at *
  have y0 := BT3.out.cellv (i := 0) rfl
  have y1 := BT3.out.cellv (i := 1) rfl
  have y2 := BT3.out.cellv (i := 2) rfl
  have y3 := BT3.out.cellv (i := 3) rfl
  have y4 := BT3.out.cellv (i := 4) rfl
  have y5 := BT3.out.cellv (i := 5) rfl
  have y6 := BT3.out.cellv (i := 6) rfl
  have y7 := BT3.out.cellv (i := 7) rfl
  have y8 := BT3.out.cellv (i := 8) rfl
  have y9 := BT3.out.cellv (i := 9) rfl
  have y10 := BT3.out.cellv (i := 10) rfl
  go_wp2_with fail
  clear y0 y1 y2 y3 y4 y5 y6 y7 y8 y9 y10
  refine (put_calls2 a n c xs k i _ HX4.out).mono ?_
  rintro _ w4 ⟨v4, rfl, ho, hb⟩
  have hpl := putL_len xs k i
  obtain ⟨a4, c4, rfl, _⟩ := ho.form
  have HP4 := Lib.hid (ho.arr (by omega))
  have HB4 := Lib.hid (HB3.out.trans (hb.mono HB3.out.size))
  have BT4 := Lib.hid (BT3.out.belowHere hb)
  have BR4 := Lib.hid (BR3.out.belowHere hb)
  have BQ4 := Lib.hid (BQ3.out.belowHere hb)
  have HX5 := Lib.hid (HX4.out.on hb)
  clear ho hb HB3 BT3 BR3 BQ3 HX4
  have y0 := BT4.out.cellv (i := 0) rfl
  have y1 := BT4.out.cellv (i := 1) rfl
  have y2 := BT4.out.cellv (i := 2) rfl
  have y3 := BT4.out.cellv (i := 3) rfl
  have y4 := BT4.out.cellv (i := 4) rfl
  have y5 := BT4.out.cellv (i := 5) rfl
  have y6 := BT4.out.cellv (i := 6) rfl
  have y7 := BT4.out.cellv (i := 7) rfl
  have y8 := BT4.out.cellv (i := 8) rfl
  have y9 := BT4.out.cellv (i := 9) rfl
  have y10 := BT4.out.cellv (i := 10) rfl
  go_wp2_with fail
  clear y0 y1 y2 y3 y4 y5 y6 y7 y8 y9 y10
  refine (refPut_calls a n c xs k i _ HX5.out hnc).mono ?_
  rintro _ w5 ⟨v5, rfl, ho, hb⟩
  obtain ⟨a5, c5, rfl, _⟩ := ho.form
  have HQ5 := Lib.hid (ho.arr (by omega))
  have HP5 := Lib.hid (HP4.out.on hb)
  have HB5 := Lib.hid (HB4.out.trans (hb.mono HB4.out.size))
  have BR5 := Lib.hid (BR4.out.belowHere hb)
  have BQ5 := Lib.hid (BQ4.out.belowHere hb)
  clear ho hb HB4 BT4 BR4 BQ4 HX5 HP4 hpl
  generalize Nod.putE xs k i = e4 at *
  generalize (Nod.putL xs k i).length = L at *
  generalize Nod.putL xs k i = pg at *
  have x0 := BR5.out.cellv (i := 0) rfl
  have x1 := BR5.out.cellv (i := 1) rfl
  have x2 := BR5.out.cellv (i := 2) rfl
  have x3 := BR5.out.cellv (i := 3) rfl
  have x4 := BR5.out.cellv (i := 4) rfl
  have x5 := BR5.out.cellv (i := 5) rfl
  have x6 := BR5.out.cellv (i := 6) rfl
  have x7 := BR5.out.cellv (i := 7) rfl
  have x8 := BR5.out.cellv (i := 8) rfl
  have x9 := BR5.out.cellv (i := 9) rfl
  have x10 := BR5.out.cellv (i := 10) rfl
  have y0 := BQ5.out.cellv (i := 0) rfl
  have y1 := BQ5.out.cellv (i := 1) rfl
  have y2 := BQ5.out.cellv (i := 2) rfl
  have y3 := BQ5.out.cellv (i := 3) rfl
  have y4 := BQ5.out.cellv (i := 4) rfl
  have y5 := BQ5.out.cellv (i := 5) rfl
  have y6 := BQ5.out.cellv (i := 6) rfl
  have y7 := BQ5.out.cellv (i := 7) rfl
  have y8 := BQ5.out.cellv (i := 8) rfl
  have y9 := BQ5.out.cellv (i := 9) rfl
  have y10 := BQ5.out.cellv (i := 10) rfl
  have hrefl := nodEq_self r
  go_wp2_with fail
  refine (same_yes _ _ _ _ _ _ _ _ HP5.out HQ5.out).mono ?_
  rintro _ w_ ⟨rfl, rfl⟩
  go_wp2_with fail
  refine (known_calls _).mono ?_
  rintro _ wk ⟨rfl, hbk⟩
  have HBk := Lib.hid hbk
  clear hbk
  go_wp2
  go_ret
  exact ⟨rfl, HB5.out.trans (HBk.out.mono HB5.out.size)⟩
end Go.Proofs.Ytjnjemhnceejeaa
