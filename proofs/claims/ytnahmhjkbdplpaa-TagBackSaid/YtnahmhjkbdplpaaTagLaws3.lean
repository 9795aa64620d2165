/-
  The walk of the law TagBack.
-/
import Derived.Test.YtnahmhjkbdplpaaTagTop
namespace Go.Proofs.Ytnahmhjkbdplpaa
open Go.RowKit

namespace Tg
theorem zero_ok : Ok zero := ⟨by decide, by decide, by decide⟩
theorem readT_ok (xs : List UInt8) : Ok (readT xs) := by
  unfold readT
  split
  · have h := raw_bounds (xs.drop (xs.length - 32)); exact ⟨h.2.2.1, h.2.2.2.1, h.2.2.2.2⟩
  · exact zero_ok
theorem writeL_len (t : Tg) (xs : List UInt8) : (writeL t xs).length ≤ 1000 := by
  unfold writeL
  split
  · rename_i h; rw [page_len]; have := h.2; unfold Fits at this; omega
  · simp
theorem write_good {t : Tg} {xs : List UInt8} (h : Right t ∧ Fits xs.length) : writeE t xs = 0 ∧ writeL t xs = page t xs := by
  unfold writeE writeL; rw [if_pos h, if_pos h]; exact ⟨rfl, rfl⟩
theorem write_bad {t : Tg} {xs : List UInt8} (h : ¬ (Right t ∧ Fits xs.length)) : writeE t xs = 1 ∧ writeL t xs = [] := by
  unfold writeE writeL; rw [if_neg h, if_neg h]; exact ⟨rfl, rfl⟩
end Tg
set_option maxHeartbeats 8000000 in
theorem tagBack_walk (t : Tg) (a : Option Addr) (n c : Nat) (xs : List UInt8) (b : Option Addr) (m d : Nat) (ys : List UInt8) (w : World) (ht : Tg.Ok t) (hx : Bytes w w.heap.size a n xs) (hnc : n ≤ c) (_ : c ≤ 140737488351232) (hy : Bytes w w.heap.size b m ys) (hmd : m ≤ d) (_ : d ≤ 140737488351232) :
    Calls Try.prog 5 #[tagV t, .slice a n c, .slice b m d] w fun e w' => e = .returned (.bool true) ∧ Below w.heap.size w w' := by
  have hbl := Lib.hid ((Below.refl w.heap.size w).alloc (Nat.le_refl _) (tagO t))
  by_cases hl : 2000 < n
  · have hd : decide (2000 < n) = true := decide_eq_true hl
    go_enter Try.func5, Try.ntmps5
    go_wp2_with fail
    refine (tlong_calls _ _ _ _).mono ?_
    rintro e w_ ⟨rfl, rfl⟩
    rw [hd]
    go_wp2_with fail
    refine (tknown_calls _).mono ?_
    rintro e wk ⟨rfl, hbk⟩
    go_wp2
    go_ret
    exact ⟨rfl, Below.then_ hbl.out hbk⟩
  have hd : decide (2000 < n) = false := decide_eq_false hl
  by_cases hl2 : 2000 < m
  · have hd2 : decide (2000 < m) = true := decide_eq_true hl2
    go_enter Try.func5, Try.ntmps5
    go_wp2_with fail
    refine (tlong_calls _ _ _ _).mono ?_
    rintro e w_ ⟨rfl, rfl⟩
    rw [hd]
    go_wp2_with fail
    refine (tlong_calls _ _ _ _).mono ?_
    rintro e w_ ⟨rfl, rfl⟩
    rw [hd2]
    go_wp2_with fail
    refine (tknown_calls _).mono ?_
    rintro e wk ⟨rfl, hbk⟩
    go_wp2
    go_ret
    exact ⟨rfl, Below.then_ hbl.out hbk⟩
  have hd2 : decide (2000 < m) = false := decide_eq_false hl2
  have HX := Lib.hid hx
  have HY := Lib.hid hy
  have HT := Lib.hid ht
  have hlen := Lib.hid hx.len
  clear hx hl ht hy hl2
  have BT := Lib.hid (Blk.new w 25 #[.int .i64 t.k, .int .u32 t.p, .int .u64 t.s, .int .u64 t.e])
  have HX1 := Lib.hid (HX.out.alloc (tagO t))
  have HY1 := Lib.hid (HY.out.alloc (tagO t))
  go_enter Try.func5, Try.ntmps5
  go_wp2_with fail
  refine (tlong_calls _ _ _ _).mono ?_
  rintro e w_ ⟨rfl, rfl⟩
  rw [hd]
  clear hd
  go_wp2_with fail
  refine (tlong_calls _ _ _ _).mono ?_
  rintro e w_ ⟨rfl, rfl⟩
  rw [hd2]
  clear hd2
  go_wp2_with fail
  refine (twrite_calls t a n c xs _ HT.out HX1.out).mono ?_
  rintro e w1 ⟨v1, rfl, ho, hb⟩
  have HB1 := Lib.hid (Below.then_ hbl.out hb)
  have BT1 := Lib.hid (BT.out.belowHere hb)
  have HX2 := Lib.hid (HX1.out.on hb)
  have HY2 := Lib.hid (HY1.out.on hb)
  obtain ⟨a1, c1, rfl, hc1⟩ := ho.form
  have hw1 := Tg.writeL_len t xs
  have HO1 := Lib.hid (ho.arr (by omega))
  clear ho hb hbl HX1 BT HY1 hw1
  by_cases h : Tg.Right t ∧ Tg.Fits xs.length
  case pos =>
    have HR := Lib.hid (show Tg.readT (Tg.writeL t xs) = t by rw [(Tg.write_good h).2]; exact (Tg.read_page h.1 h.2).1)
    have HP := Lib.hid (show Tg.readP (Tg.writeL t xs) = xs by rw [(Tg.write_good h).2]; exact (Tg.read_page h.1 h.2).2.1)
    have HF := Lib.hid (show Tg.readE (Tg.writeL t xs) = 0 by rw [(Tg.write_good h).2]; exact (Tg.read_page h.1 h.2).2.2)
    rw [(Tg.write_good h).1]
    clear h
    go_wp2_with fail
    refine (tread_calls a1 _ c1 _ _ HO1.out hc1).mono ?_
    rintro e w2 ⟨a2, n2, c2, rfl, hx3, hc2, hb⟩
    rw [HR.out, HF.out]
    rw [HP.out] at hx3
    have HB2 := Lib.hid (Below.then_ HB1.out hb)
    have BT2 := Lib.hid (BT1.out.belowHere hb)
    have HX3 := Lib.hid (HX2.out.on hb)
    have HY3 := Lib.hid (HY2.out.on hb)
    have HP3 := Lib.hid hx3
    clear hx3 hb BT1 HX2 HY2 HB1 HO1
    have hb3 := (Below.refl w2.heap.size w2).alloc (Nat.le_refl _) (tagO t)
    have HB3 := Lib.hid (Below.then_ HB2.out hb3)
    have BT3 := Lib.hid (BT2.out.belowHere hb3)
    have HX4 := Lib.hid (HX3.out.on hb3)
    have HY4 := Lib.hid (HY3.out.on hb3)
    have HP4 := Lib.hid (HP3.out.on hb3)
    clear hb3
    have c0 := BT2.out.cellv (i := 0) rfl
    have c1' := BT2.out.cellv (i := 1) rfl
    have c2' := BT2.out.cellv (i := 2) rfl
    have c3' := BT2.out.cellv (i := 3) rfl
    have hlt := BT2.out.lt
    go_wp2_with fail
    clear c0 c1' c2' c3'
    refine (same_yes _ _ _ _ _ _ _ _ HP4.out HX4.out).mono ?_
    rintro _ w4 ⟨rfl, rfl⟩
    go_wp2_with fail
    refine (tread_calls b m d ys _ HY4.out hmd).mono ?_
    rintro _ w5 ⟨a5, n5, c5, rfl, hx5, hc5, hb⟩
    have HB5 := Lib.hid (HB3.out.trans (hb.mono HB3.out.size))
    have HY5 := Lib.hid (HY4.out.on hb)
    have HP5 := Lib.hid hx5
    have hok := Lib.hid (Tg.readT_ok ys)
    have hwr := Lib.hid (fun h => Tg.write_read (xs := ys) h)
    clear hx5 hb HB3 HY4 HX4 HP4
    generalize Tg.readT ys = v at *
    have hb6 := (Below.refl w5.heap.size w5).alloc (Nat.le_refl _) (tagO v)
    have HB6 := Lib.hid (HB5.out.trans (hb6.mono HB5.out.size))
    have HY6 := Lib.hid (HY5.out.on hb6)
    have HP6 := Lib.hid (HP5.out.on hb6)
    clear hb6
    go_wp2_with fail
    refine (twrite_calls v a5 n5 c5 (Tg.readP ys) _ hok.out HP6.out).mono ?_
    rintro _ w7 ⟨v7, rfl, ho, hb⟩
    have HB7 := Lib.hid (HB6.out.trans (hb.mono HB6.out.size))
    have HY7 := Lib.hid (HY6.out.on hb)
    obtain ⟨a7, c7, rfl, hc7⟩ := ho.form
    have hw7 := Tg.writeL_len v (Tg.readP ys)
    have HO7 := Lib.hid (ho.arr (by omega))
    clear ho hb hw7
    by_cases hg : Tg.readE ys = 0
    · have h1 := (hwr.out hg).1
      have h2 := (hwr.out hg).2
      rw [h1, h2]
      rw [h2] at HO7
      rw [hg]
      clear hg h1 h2 hwr
      go_wp2_with fail
      refine (same_yes _ _ _ _ _ _ _ _ HY7.out HO7.out).mono ?_
      rintro _ w8 ⟨rfl, rfl⟩
      go_wp2_with fail
      refine (tknown_calls _).mono ?_
      rintro _ wk ⟨rfl, hbk⟩
      have HBk := Lib.hid hbk
      clear hbk
      go_wp2
      go_ret
      exact ⟨rfl, Below.then_ HB7.out HBk.out⟩
    · have hg2 : (Tg.readE ys != 0) = true := by rw [bne_iff_ne]; exact hg
      clear hg hwr
      generalize Tg.readE ys = er at *
      go_wp2_with fail
      refine (tknown_calls _).mono ?_
      rintro _ wk ⟨rfl, hbk⟩
      have HBk := Lib.hid hbk
      clear hbk
      go_wp2
      go_ret
      exact ⟨rfl, Below.then_ HB7.out HBk.out⟩
  rw [(Tg.write_bad h).1]
  clear h
  go_wp2_with fail
  refine (tread_calls a1 _ c1 _ _ HO1.out hc1).mono ?_
  rintro e w2 ⟨a2, n2, c2, rfl, hx3, hc2, hb⟩
  obtain ⟨u, hu⟩ : ∃ u, u = Tg.readT (Tg.writeL t xs) := ⟨_, rfl⟩
  rw [← hu]
  clear hu
  have HB2 := Lib.hid (Below.then_ HB1.out hb)
  have BT2 := Lib.hid (BT1.out.belowHere hb)
  have HX3 := Lib.hid (HX2.out.on hb)
  have HY3 := Lib.hid (HY2.out.on hb)
  have HP3 := Lib.hid hx3
  clear hx3 hb BT1 HX2 HY2 HB1 HO1
  have hb3 := (Below.refl w2.heap.size w2).alloc (Nat.le_refl _) (tagO u)
  have HB3 := Lib.hid (Below.then_ HB2.out hb3)
  have BT3 := Lib.hid (BT2.out.belowHere hb3)
  have HX4 := Lib.hid (HX3.out.on hb3)
  have HY4 := Lib.hid (HY3.out.on hb3)
  have HP4 := Lib.hid (HP3.out.on hb3)
  clear hb3
  have c0 := BT2.out.cellv (i := 0) rfl
  have c1' := BT2.out.cellv (i := 1) rfl
  have c2' := BT2.out.cellv (i := 2) rfl
  have c3' := BT2.out.cellv (i := 3) rfl
  have hlt := BT2.out.lt
  go_wp2_with fail
  clear c0 c1' c2' c3'
  refine (tread_calls b m d ys _ HY4.out hmd).mono ?_
  rintro _ w5 ⟨a5, n5, c5, rfl, hx5, hc5, hb⟩
  have HB5 := Lib.hid (HB3.out.trans (hb.mono HB3.out.size))
  have HY5 := Lib.hid (HY4.out.on hb)
  have HP5 := Lib.hid hx5
  have hok := Lib.hid (Tg.readT_ok ys)
  have hwr := Lib.hid (fun h => Tg.write_read (xs := ys) h)
  clear hx5 hb HB3 HY4 HX4 HP4
  generalize Tg.readT ys = v at *
  have hb6 := (Below.refl w5.heap.size w5).alloc (Nat.le_refl _) (tagO v)
  have HB6 := Lib.hid (HB5.out.trans (hb6.mono HB5.out.size))
  have HY6 := Lib.hid (HY5.out.on hb6)
  have HP6 := Lib.hid (HP5.out.on hb6)
  clear hb6
  go_wp2_with fail
  refine (twrite_calls v a5 n5 c5 (Tg.readP ys) _ hok.out HP6.out).mono ?_
  rintro _ w7 ⟨v7, rfl, ho, hb⟩
  have HB7 := Lib.hid (HB6.out.trans (hb.mono HB6.out.size))
  have HY7 := Lib.hid (HY6.out.on hb)
  obtain ⟨a7, c7, rfl, hc7⟩ := ho.form
  have hw7 := Tg.writeL_len v (Tg.readP ys)
  have HO7 := Lib.hid (ho.arr (by omega))
  clear ho hb hw7
  by_cases hg : Tg.readE ys = 0
  · have h1 := (hwr.out hg).1
    have h2 := (hwr.out hg).2
    rw [h1, h2]
    rw [h2] at HO7
    rw [hg]
    clear hg h1 h2 hwr
    go_wp2_with fail
    refine (same_yes _ _ _ _ _ _ _ _ HY7.out HO7.out).mono ?_
    rintro _ w8 ⟨rfl, rfl⟩
    go_wp2_with fail
    refine (tknown_calls _).mono ?_
    rintro _ wk ⟨rfl, hbk⟩
    have HBk := Lib.hid hbk
    clear hbk
    go_wp2
    go_ret
    exact ⟨rfl, Below.then_ HB7.out HBk.out⟩
  · have hg2 : (Tg.readE ys != 0) = true := by rw [bne_iff_ne]; exact hg
    clear hg hwr
    generalize Tg.readE ys = er at *
    go_wp2_with fail
    refine (tknown_calls _).mono ?_
    rintro _ wk ⟨rfl, hbk⟩
    have HBk := Lib.hid hbk
    clear hbk
    go_wp2
    go_ret
    exact ⟨rfl, Below.then_ HB7.out HBk.out⟩
end Go.Proofs.Ytnahmhjkbdplpaa
