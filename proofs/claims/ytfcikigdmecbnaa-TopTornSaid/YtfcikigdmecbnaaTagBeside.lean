/-
  The reference's beside and Write.
-/
import Derived.Test.YtfcikigdmecbnaaTagRight
namespace Go.Proofs.Ytfcikigdmecbnaa
open Go.RowKit

theorem Crc.more_sum (l m : List UInt8) : Crc.more (Crc.sum l) m = Crc.sum (l ++ m) := by
  simp only [Crc.sum, Crc.more, Crc.puts_append, BitVec.not_not]
set_option maxHeartbeats 4000000 in
theorem refBeside_calls (t : Tg) (a : Option Addr) (n c : Nat) (pay : List UInt8) (w : World) (ht : Tg.Right t) (hx : Bytes w w.heap.size a n pay) :
    Calls Try.prog 39 #[tagV t, .slice a n c] w (Fresh (Tg.beside t pay) w) := by
  have hbl := Lib.hid ((Below.refl w.heap.size w).alloc (Nat.le_refl _) (tagO t))
  have HP := Lib.hid hx.len
  have HX := Lib.hid hx
  obtain ⟨k, p, s, e⟩ := t
  obtain ⟨hk, hp, hs0, hs, he0, he⟩ := id ht
  simp only at hk hp hs0 hs he0 he
  have HHS := Lib.hid (show s < 18446744073709551616 by omega)
  have HHE := Lib.hid (show e < 18446744073709551616 by omega)
  have hk1 : 1 ≤ k ∧ k ≤ 2 := by omega
  obtain ⟨hk1, hk2⟩ := hk1
  clear hk ht hx hs0 he0 hs he
  have bk0 := Lib.hid (Blk.new w 40 #[.int .i64 k, .int .u32 (p : Int), .int .u64 (s : Int), .int .u64 (e : Int)])
  have hlit := Lib.hid (show #[Value.int .u8 67, Value.int .u8 85, Value.int .u8 k, Value.int .u8 0] = ([67, 85, UInt8.ofNat k.toNat, 0].map byteV).toArray by
    simp only [List.map_cons, List.map_nil, byteV, UInt8.toNat_ofNat']
    rw [show ((k.toNat % 2 ^ 8 : Nat) : Int) = k by omega]
    rfl)
  have ho2 : Own byteV 5 ((w.alloc (tagO ⟨k, p, s, e⟩)).alloc (.cells #[.int .u8 67, .int .u8 85, .int .u8 k, .int .u8 0] 5)) (w.heap.size + 1) (.slice (some ⟨w.heap.size + 1, 0, none⟩) 4 4) [67, 85, UInt8.ofNat k.toNat, 0] := by
    rw [hlit.out]
    have h := Own.made (w := w.alloc (tagO ⟨k, p, s, e⟩)) (f := byteV) (e := 5) (xs := [67, 85, UInt8.ofNat k.toNat, 0]) (Nat.le_refl _) (by simp [maxLen])
    rw [show (w.alloc (tagO ⟨k, p, s, e⟩)).heap.size = w.heap.size + 1 by simp] at h
    exact h
  have HO2 := Lib.hid ho2
  have HB2 := Lib.hid ((hbl.out).alloc hbl.out.size (.cells #[.int .u8 67, .int .u8 85, .int .u8 k, .int .u8 0] 5))
  have bk2 := Lib.hid (bk0.out.alloc (.cells #[.int .u8 67, .int .u8 85, .int .u8 k, .int .u8 0] 5))
  have hx2 := Lib.hid (HX.out.below HB2.out)
  have hz2 := Lib.hid (show ((w.alloc (tagO ⟨k, p, s, e⟩)).alloc (.cells #[.int .u8 67, .int .u8 85, .int .u8 k, .int .u8 0] 5)).heap.size = w.heap.size + 2 by simp)
  clear ho2
  go_enter Try.func39, Try.ntmps39
  go_wp2_with fail
  -- chain
  have l2 : [67, 85, UInt8.ofNat k.toNat, 0].length = 4 := rfl
  generalize hL2 : [67, 85, UInt8.ofNat k.toNat, 0] = L2 at HO2 l2 hlit
  have HL2 := Lib.hid hL2
  clear hL2 hlit
  have HZ2 : w.heap.size + 2 ≤ ((w.alloc (tagO ⟨k, p, s, e⟩)).alloc (.cells #[.int .u8 67, .int .u8 85, .int .u8 k, .int .u8 0] 5)).heap.size := Nat.le_of_eq hz2.out.symm
  generalize (w.alloc (tagO ⟨k, p, s, e⟩)).alloc (.cells #[.int .u8 67, .int .u8 85, .int .u8 k, .int .u8 0] 5) = w2 at *
  refine (refBig_calls p 4 _ (by omega) (by omega)).mono ?_
  rintro _ w3 ⟨v3, rfl, hy, hb⟩
  obtain ⟨a3, c3, rfl, _⟩ := hy.formN (n := 4) (by simp [bigL_len])
  have hy3 := Lib.hid (hy.arr (by simp [bigL_len]))
  have HO3 := Lib.hid (HO2.out.on hb)
  have bk3 := Lib.hid (bk2.out.belowHere hb)
  have HB3 := Lib.hid (HB2.out.trans (hb.mono (by omega)))
  have hs3 := hb.size
  clear hy hb HO2 bk2 HB2
  go_wp2_with (at_builtin; refine wpList_ontoB rfl _ _ rfl (w.heap.size + 1) _ L2 rfl HO3.out _ _ 4 _ (bigL p 4) rfl hy3.out (by omega) (by omega) ?_; intro v4 w4 HO4 hb4; have bk4 := Lib.hid (bk3.out.below hb4.out (by omega)); have HB4 := Lib.hid (HB3.out.trans (hb4.out.mono (by omega))); have hs4 := hb4.out.size; have q2 := bk4.out.cellv (i := 2) rfl)
  clear q2
  generalize hL4 : L2 ++ bigL p 4 = L4 at HO4
  have l4 : L4.length = 8 := by rw [← hL4]; simp [bigL_len]; omega
  have HL4 := Lib.hid hL4
  clear hL4 hy3 HO3 bk3 HB3 hb4
  refine (refBig_calls s 8 _ HHS.out (by omega)).mono ?_
  rintro _ w5 ⟨v5, rfl, hy, hb⟩
  obtain ⟨a5, c5, rfl, _⟩ := hy.formN (n := 8) (by simp [bigL_len])
  have hy5 := Lib.hid (hy.arr (by simp [bigL_len]))
  have HO5 := Lib.hid (HO4.out.on hb)
  have bk5 := Lib.hid (bk4.out.belowHere hb)
  have HB5 := Lib.hid (HB4.out.trans (hb.mono (by omega)))
  have hs5 := hb.size
  clear hy hb HO4 bk4 HB4
  go_wp2_with (at_builtin; refine wpList_ontoB rfl _ _ rfl (w.heap.size + 1) _ L4 rfl HO5.out _ _ 8 _ (bigL s 8) rfl hy5.out (by omega) (by omega) ?_; intro v6 w6 HO6 hb6; have bk6 := Lib.hid (bk5.out.below hb6.out (by omega)); have HB6 := Lib.hid (HB5.out.trans (hb6.out.mono (by omega))); have hs6 := hb6.out.size; have q3 := bk6.out.cellv (i := 3) rfl)
  clear q3
  generalize hL6 : L4 ++ bigL s 8 = L6 at HO6
  have l6 : L6.length = 16 := by rw [← hL6]; simp [bigL_len]; omega
  have HL6 := Lib.hid hL6
  clear hL6 hy5 HO5 bk5 HB5 hb6
  refine (refBig_calls e 8 _ HHE.out (by omega)).mono ?_
  rintro _ w7 ⟨v7, rfl, hy, hb⟩
  obtain ⟨a7, c7, rfl, _⟩ := hy.formN (n := 8) (by simp [bigL_len])
  have hy7 := Lib.hid (hy.arr (by simp [bigL_len]))
  have HO7 := Lib.hid (HO6.out.on hb)
  have bk7 := Lib.hid (bk6.out.belowHere hb)
  have HB7 := Lib.hid (HB6.out.trans (hb.mono (by omega)))
  have hs7 := hb.size
  clear hy hb HO6 bk6 HB6
  go_wp2_with (at_builtin; refine wpList_ontoB rfl _ _ rfl (w.heap.size + 1) _ L6 rfl HO7.out _ _ 8 _ (bigL e 8) rfl hy7.out (by omega) (by omega) ?_; intro v8 w8 HO8 hb8; have bk8 := Lib.hid (bk7.out.below hb8.out (by omega)); have HB8 := Lib.hid (HB7.out.trans (hb8.out.mono (by omega))); have hs8 := hb8.out.size)
  generalize hL8 : L6 ++ bigL e 8 = L8 at HO8
  have l8 : L8.length = 24 := by rw [← hL8]; simp [bigL_len]; omega
  have HL8 := Lib.hid hL8
  clear hL8 hy7 HO7 bk7 HB7 hb8
  have hL8 : L8 = Tg.head ⟨k, p, s, e⟩ := by rw [← HL8.out, ← HL6.out, ← HL4.out, ← HL2.out]; rfl
  have HL := Lib.hid hL8
  clear hL8
  have hx8 := Lib.hid ((HX.out.below HB8.out).mono (show w.heap.size ≤ w8.heap.size by omega))
  refine (refSum_calls a n c pay _ hx8.out).mono ?_
  rintro _ w9 ⟨rfl, rfl⟩
  obtain ⟨a8, c8, rfl, hc8⟩ := HO8.out.formN l8
  have hb8' := Lib.hid (HO8.out.arr (by omega))
  go_wp2_with fail
  refine (refMore_calls (Crc.sum pay) _ _ _ L8 _ hb8'.out).mono ?_
  rintro _ w9 ⟨rfl, rfl⟩
  rw [Crc.more_sum]
  have hsum := (Crc.sum (pay ++ L8)).isLt
  have HSM := Lib.hid (show (Crc.sum (pay ++ L8)).toNat = Tg.sumOf ⟨k, p, s, e⟩ pay by rw [HL.out]; rfl)
  generalize (Crc.sum (pay ++ L8)).toNat = S at *
  go_wp2_with fail
  refine (refBig_calls S 4 _ (by omega) (by omega)).mono ?_
  rintro _ w10 ⟨v10, rfl, hy, hb⟩
  obtain ⟨a10, c10, rfl, _⟩ := hy.formN (n := 4) (by simp [bigL_len])
  have hy10 := Lib.hid (hy.arr (by simp [bigL_len]))
  have HO10 := Lib.hid (HO8.out.on hb)
  have bk10 := Lib.hid (bk8.out.belowHere hb)
  have HB10 := Lib.hid (HB8.out.trans (hb.mono (by omega)))
  have hs10 := hb.size
  clear hy hb HO8 bk8 HB8
  have lit0 := Lib.hid (show #[Value.int .u8 0, Value.int .u8 0, Value.int .u8 0, Value.int .u8 0] = (([0, 0, 0, 0] : List UInt8).map byteV).toArray from rfl)
  go_wp2_with (first
    | (at_builtin; refine wpList_ontoB rfl _ _ rfl (w.heap.size + 1) _ L8 rfl HO10.out _ _ 4 _ (bigL S 4) rfl hy10.out (by omega) (by omega) ?_; intro v11 w11 HO11 hb11; have HB11 := Lib.hid (HB10.out.trans (hb11.out.mono (by omega))); have hs11 := hb11.out.size; have l11 : (L8 ++ bigL S 4).length = 28 := (by simp [bigL_len]; omega))
    | (at_builtin; refine wpList_litB rfl _ _ rfl (w.heap.size + 1) _ (L8 ++ bigL S 4) rfl HO11.out 4 [0, 0, 0, 0] rfl rfl lit0.out (by omega) (by omega) ?_; intro v12 w12 HO12 hb12; have HB12 := Lib.hid (HB11.out.trans (hb12.out.mono (by omega)))))
  go_ret
  refine ⟨_, rfl, ?_, HB12.out⟩
  have h := HO12.out.mono (base' := w.heap.size) (by omega)
  rw [HL.out, HSM.out] at h
  exact h
end Go.Proofs.Ytfcikigdmecbnaa
