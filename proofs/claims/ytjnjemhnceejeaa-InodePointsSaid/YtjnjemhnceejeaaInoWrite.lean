/-
  inode.Write.
-/
import Derived.Test.YtjnjemhnceejeaaInoRight2
import Derived.Test.YtjnjemhnceejeaaInoPut
namespace Go.Proofs.Ytjnjemhnceejeaa
open Go.RowKit

theorem write_bad (i : Nod) (w : World) (h : ¬ Nod.Right i) :
    Calls Try.prog 16 #[nodV i] w fun e w' => e = .returned (.tuple #[.slice none 0 0, .int .i64 51]) ∧ Below w.heap.size w w' := by
  have hbl := Lib.hid ((Below.refl w.heap.size w).alloc (Nat.le_refl _) (nodO i))
  have hr := Nod.rightB_no h
  go_enter Try.func16, Try.ntmps16
  go_wp2_with fail
  refine (right_calls i _).mono ?_
  rintro e w1 ⟨rfl, h_⟩
  have HB := Lib.hid h_
  clear h_
  rw [hr]
  go_wp2
  go_ret2
  exact ⟨rfl, Below.then_ hbl.out HB.out⟩
set_option maxHeartbeats 4000000 in
theorem write_good (i : Nod) (w : World) (h : Nod.Right i) :
    Calls Try.prog 16 #[nodV i] w fun e w' => (∃ v, e = .returned (.tuple #[v, .int .i64 0]) ∧ Own byteV 5 w' w.heap.size v i.bytes) ∧ Below w.heap.size w w' := by
  have hbl := Lib.hid ((Below.refl w.heap.size w).alloc (Nat.le_refl _) (nodO i))
  have hr := Nod.rightB_yes h
  have hbd := Nod.right_bounds h
  obtain ⟨k, l, s, d0, d1, d2, d3, d4, d5, a, b⟩ := i
  simp only [Nod.Dirs, Nod.Pg] at hbd
  obtain ⟨⟨k1, k2⟩, ⟨l1, l2⟩, ⟨s1, s2⟩, ⟨⟨x0, y0⟩, ⟨x1, y1⟩, ⟨x2, y2⟩, ⟨x3, y3⟩, ⟨x4, y4⟩, ⟨x5, y5⟩⟩, ⟨x6, y6⟩, ⟨x7, y7⟩⟩ := hbd
  clear h
  have bk0 := Lib.hid (Blk.new w 36 #[.int .i64 k, .int .i64 l, .int .i64 s, .int .i64 d0, .int .i64 d1, .int .i64 d2, .int .i64 d3, .int .i64 d4, .int .i64 d5, .int .i64 a, .int .i64 b])
  go_enter Try.func16, Try.ntmps16
  go_wp2_with fail
  refine (right_calls ⟨k, l, s, d0, d1, d2, d3, d4, d5, a, b⟩ _).mono ?_
  rw [hr]
  rintro e w1 ⟨rfl, hb⟩
  have bk1 := Lib.hid (bk0.out.belowHere hb)
  have HB1 := Lib.hid (Below.then_ hbl.out hb)
  have hlt := bk1.out.lt
  clear hb bk0 hbl hr
  have q0 := bk1.out.cellv (i := 0) rfl
  have q1 := bk1.out.cellv (i := 1) rfl
  have hlit : #[Value.int .u8 k, Value.int .u8 0] = ([UInt8.ofNat k.toNat, 0].map byteV).toArray := by
    simp only [List.map_cons, List.map_nil, byteV, UInt8.toNat_ofNat']
    rw [show ((k.toNat % 2 ^ 8 : Nat) : Int) = k by omega]
    rfl
  have ho1 : Own byteV 5 (w1.alloc (.cells #[.int .u8 k, .int .u8 0] 5)) w1.heap.size (.slice (some ⟨w1.heap.size, 0, none⟩) 2 2) [UInt8.ofNat k.toNat, 0] := by
    rw [hlit]
    exact Own.made_at rfl rfl (Nat.le_refl _) (by decide)
  have HO1 := Lib.hid ho1
  clear hlit ho1
  have hb2 := Lib.hid (HB1.out.alloc HB1.out.size (.cells #[.int .u8 k, .int .u8 0] 5))
  have bk2 := Lib.hid (bk1.out.alloc (.cells #[.int .u8 k, .int .u8 0] 5))
  go_wp2_with fail
  refine (putI_calls _ [UInt8.ofNat k.toNat, 0] l 2 w1.heap.size _ (by omega) (by omega) (by omega) (by simp) HO1.out (by simp)).mono ?_
  rintro e w3 ⟨⟨v_w3, rfl, ho⟩, hb⟩
  have hs_w3 : w1.heap.size < w3.heap.size := by have := hb.size; simp at this; omega
  have bk3 := Lib.hid (bk2.out.below hb (by omega))
  have HB3 := Lib.hid (hb2.out.trans (hb.mono (by omega)))
  generalize hL1 : [UInt8.ofNat k.toNat, 0] ++ bigL l.toNat 2 = L1 at ho
  have lL1 : L1.length = 4 := by rw [← hL1]; simp [bigL_len]
  have HO3 := Lib.hid ho
  have HL1 := Lib.hid hL1
  clear ho hb hL1 bk2 hb2 HO1 bk1 HB1 q0 q1
  have q2 := bk3.out.cellv (i := 2) rfl
  go_wp2_with fail
  refine (putI_calls _ L1 s 4 w1.heap.size _ (by omega) (by omega) (by omega) (by omega) HO3.out (by omega)).mono ?_
  rintro e w4 ⟨⟨v_w4, rfl, ho⟩, hb⟩
  have hs_w4 := hb.size
  have bk4 := Lib.hid (bk3.out.below hb (by omega))
  have HB4 := Lib.hid (HB3.out.trans (hb.mono (by omega)))
  generalize hL2 : L1 ++ bigL s.toNat 4 = L2 at ho
  have lL2 : L2.length = 8 := by rw [← hL2]; simp [bigL_len, lL1]
  have HO4 := Lib.hid ho
  have HL2 := Lib.hid hL2
  clear ho hb hL2 bk3 HB3 HO3 q2
  have q3 := bk4.out.cellv (i := 3) rfl
  have q4 := bk4.out.cellv (i := 4) rfl
  have q5 := bk4.out.cellv (i := 5) rfl
  have q6 := bk4.out.cellv (i := 6) rfl
  have q7 := bk4.out.cellv (i := 7) rfl
  have q8 := bk4.out.cellv (i := 8) rfl
  go_wp2_with fail
  clear q3 q4 q5 q6 q7 q8
  go_loopw [4, 6, 24] (fun v _x i wr => ∃ m : Nat, m ≤ 6 ∧ i = .int .i64 m ∧ Own byteV 5 wr w1.heap.size v (L2 ++ ([d0, d1, d2, d3, d4, d5].take m).flatMap fun d => bigL d.toNat 2) ∧ Below w1.heap.size w4 wr) (fun _ _ i _ => 6 - (intOf i).toNat)
  case atStart => exact ⟨0, by omega, rfl, by simpa using HO4.out, Below.refl _ _⟩
  case round =>
    obtain ⟨m, hm, rfl, ho, hb⟩ := hrel
    have hsr := hb.size
    have HO := Lib.hid ho
    have HB := Lib.hid hb
    clear ho hb
    have hc : m = 0 ∨ m = 1 ∨ m = 2 ∨ m = 3 ∨ m = 4 ∨ m = 5 ∨ m = 6 := by omega
    rcases hc with rfl | rfl | rfl | rfl | rfl | rfl | rfl
    · go_wp2_with fail
      refine (putI_calls _ _ d0 2 w1.heap.size _ (by omega) (by omega) (by omega) (by simp [lL2]) HO.out (by omega)).mono ?_
      rintro e wn ⟨⟨vn, rfl, ho⟩, hb⟩
      have HOn := Lib.hid ho
      have HBn := Lib.hid (HB.out.trans hb)
      clear ho hb
      go_wp2
      go_roundw
      case rel => exact ⟨1, by omega, rfl, by simpa using HOn.out, HBn.out⟩
      case measure => simp [intOf]
    · go_wp2_with fail
      refine (putI_calls _ _ d1 2 w1.heap.size _ (by omega) (by omega) (by omega) (by simp [bigL_len, lL2]) HO.out (by omega)).mono ?_
      rintro e wn ⟨⟨vn, rfl, ho⟩, hb⟩
      have HOn := Lib.hid ho
      have HBn := Lib.hid (HB.out.trans hb)
      clear ho hb
      go_wp2
      go_roundw
      case rel => exact ⟨2, by omega, rfl, by simpa using HOn.out, HBn.out⟩
      case measure => simp [intOf]
    · go_wp2_with fail
      refine (putI_calls _ _ d2 2 w1.heap.size _ (by omega) (by omega) (by omega) (by simp [bigL_len, lL2]) HO.out (by omega)).mono ?_
      rintro e wn ⟨⟨vn, rfl, ho⟩, hb⟩
      have HOn := Lib.hid ho
      have HBn := Lib.hid (HB.out.trans hb)
      clear ho hb
      go_wp2
      go_roundw
      case rel => exact ⟨3, by omega, rfl, by simpa using HOn.out, HBn.out⟩
      case measure => simp [intOf]
    · go_wp2_with fail
      refine (putI_calls _ _ d3 2 w1.heap.size _ (by omega) (by omega) (by omega) (by simp [bigL_len, lL2]) HO.out (by omega)).mono ?_
      rintro e wn ⟨⟨vn, rfl, ho⟩, hb⟩
      have HOn := Lib.hid ho
      have HBn := Lib.hid (HB.out.trans hb)
      clear ho hb
      go_wp2
      go_roundw
      case rel => exact ⟨4, by omega, rfl, by simpa using HOn.out, HBn.out⟩
      case measure => simp [intOf]
    · go_wp2_with fail
      refine (putI_calls _ _ d4 2 w1.heap.size _ (by omega) (by omega) (by omega) (by simp [bigL_len, lL2]) HO.out (by omega)).mono ?_
      rintro e wn ⟨⟨vn, rfl, ho⟩, hb⟩
      have HOn := Lib.hid ho
      have HBn := Lib.hid (HB.out.trans hb)
      clear ho hb
      go_wp2
      go_roundw
      case rel => exact ⟨5, by omega, rfl, by simpa using HOn.out, HBn.out⟩
      case measure => simp [intOf]
    · go_wp2_with fail
      refine (putI_calls _ _ d5 2 w1.heap.size _ (by omega) (by omega) (by omega) (by simp [bigL_len, lL2]) HO.out (by omega)).mono ?_
      rintro e wn ⟨⟨vn, rfl, ho⟩, hb⟩
      have HOn := Lib.hid ho
      have HBn := Lib.hid (HB.out.trans hb)
      clear ho hb
      go_wp2
      go_roundw
      case rel => exact ⟨6, by omega, rfl, by simpa using HOn.out, HBn.out⟩
      case measure => simp [intOf]
    · have hs5 : w1.heap.size < wr.heap.size := by omega
      generalize hL3 : (L2 ++ ([d0, d1, d2, d3, d4, d5].take 6).flatMap fun d => bigL d.toNat 2) = L3 at HO
      have lL3 : L3.length = 20 := by rw [← hL3]; simp [bigL_len, lL2]
      have HL3 := Lib.hid hL3
      have bk5 := Lib.hid (bk4.out.below HB.out (by omega))
      have HB5 := Lib.hid (HB4.out.trans (HB.out.mono (by omega)))
      clear hL3 bk4 HB4 HB HO4
      have q9 := bk5.out.cellv (i := 9) rfl
      go_wp2_with fail
      refine (putI_calls _ L3 a 2 w1.heap.size _ (by omega) (by omega) (by omega) (by omega) HO.out (by omega)).mono ?_
      rintro e w6 ⟨⟨v6, rfl, ho⟩, hb⟩
      have hs6 := hb.size
      have bk6 := Lib.hid (bk5.out.below hb (by omega))
      have HB6 := Lib.hid (HB5.out.trans (hb.mono (by omega)))
      have HO6 := Lib.hid ho
      clear ho hb bk5 HB5 HO q9
      have q10 := bk6.out.cellv (i := 10) rfl
      go_wp2_with fail
      refine (putI_calls _ _ b 2 w1.heap.size _ (by omega) (by omega) (by omega) (by simp [bigL_len, lL3]) HO6.out (by omega)).mono ?_
      rintro e w7 ⟨⟨v7, rfl, ho⟩, hb⟩
      have HB7 := Lib.hid (HB6.out.trans (hb.mono (by omega)))
      have hfin : L3 ++ bigL a.toNat 2 ++ bigL b.toNat 2 = Nod.bytes ⟨k, l, s, d0, d1, d2, d3, d4, d5, a, b⟩ := by
        rw [← HL3.out, ← HL2.out, ← HL1.out]
        simp [Nod.bytes]
      rw [hfin] at ho
      have HO7 := Lib.hid (ho.mono (Nat.le_of_lt hlt))
      clear ho hb hfin
      go_wp2
      go_ret2
      exact ⟨⟨_, rfl, HO7.out⟩, HB7.out⟩
end Go.Proofs.Ytjnjemhnceejeaa
