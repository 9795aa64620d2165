/-
  The reference's Write.
-/
import Derived.Test.YtjnjemhnceejeaaInoRight2
import Derived.Test.YtjnjemhnceejeaaNumBig
namespace Go.Proofs.Ytjnjemhnceejeaa
open Go.RowKit

theorem refWrite_bad (i : Nod) (w : World) (h : ¬ Nod.Right i) :
    Calls Try.prog 17 #[nodV i] w fun e w' => e = .returned (.tuple #[.slice none 0 0, .int .i64 51]) ∧ Below w.heap.size w w' := by
  have hbl := Lib.hid ((Below.refl w.heap.size w).alloc (Nat.le_refl _) (nodO i))
  have hr := Nod.rightB_no h
  go_enter Try.func17, Try.ntmps17
  go_wp2_with fail
  refine (refRight_calls i _).mono ?_
  rintro e w1 ⟨rfl, h_⟩
  have HB := Lib.hid h_
  clear h_
  rw [hr]
  go_wp2
  go_ret2
  exact ⟨rfl, Below.then_ hbl.out HB.out⟩
set_option maxHeartbeats 4000000 in
theorem refWrite_good (i : Nod) (w : World) (h : Nod.Right i) :
    Calls Try.prog 17 #[nodV i] w fun e w' => (∃ v, e = .returned (.tuple #[v, .int .i64 0]) ∧ Own byteV 5 w' w.heap.size v i.bytes) ∧ Below w.heap.size w w' := by
  have hbl := Lib.hid ((Below.refl w.heap.size w).alloc (Nat.le_refl _) (nodO i))
  have hr := Nod.rightB_yes h
  have hbd := Nod.right_bounds h
  obtain ⟨k, l, s, d0, d1, d2, d3, d4, d5, a, b⟩ := i
  simp only [Nod.Dirs, Nod.Pg] at hbd
  obtain ⟨⟨k1, k2⟩, ⟨l1, l2⟩, ⟨s1, s2⟩, ⟨⟨x0, y0⟩, ⟨x1, y1⟩, ⟨x2, y2⟩, ⟨x3, y3⟩, ⟨x4, y4⟩, ⟨x5, y5⟩⟩, ⟨x6, y6⟩, ⟨x7, y7⟩⟩ := hbd
  clear h
  have bk0 := Lib.hid (Blk.new w 36 #[.int .i64 k, .int .i64 l, .int .i64 s, .int .i64 d0, .int .i64 d1, .int .i64 d2, .int .i64 d3, .int .i64 d4, .int .i64 d5, .int .i64 a, .int .i64 b])
  go_enter Try.func17, Try.ntmps17
  go_wp2_with fail
  refine (refRight_calls ⟨k, l, s, d0, d1, d2, d3, d4, d5, a, b⟩ _).mono ?_
  rw [hr]
  rintro e w1 ⟨rfl, hb⟩
  have bk1 := Lib.hid (bk0.out.belowHere hb)
  have HB1 := Lib.hid (Below.then_ hbl.out hb)
  have hlt := bk1.out.lt
  clear hb bk0 hbl hr
  have q0 := bk1.out.cellv (i := 0) rfl
  have q1 := bk1.out.cellv (i := 1) rfl
  have hlit : #[Value.int .u8 k, Value.int .u8 0] = ([UInt8.ofNat k.toNat, 0].map byteV).toArray := by
    simp only [List.map_cons, List.map_nil, byteV, UInt8.toNat_ofNat']
    rw [show ((k.toNat % 2 ^ 8 : Nat) : Int) = k by omega]
    rfl
  have ho1 : Own byteV 5 (w1.alloc (.cells #[.int .u8 k, .int .u8 0] 5)) w1.heap.size (.slice (some ⟨w1.heap.size, 0, none⟩) 2 2) [UInt8.ofNat k.toNat, 0] := by
    rw [hlit]
    exact Own.made_at rfl rfl (Nat.le_refl _) (by decide)
  have HO1 := Lib.hid ho1
  clear hlit ho1
  have hb2 := Lib.hid (HB1.out.alloc HB1.out.size (.cells #[.int .u8 k, .int .u8 0] 5))
  have bk2 := Lib.hid (bk1.out.alloc (.cells #[.int .u8 k, .int .u8 0] 5))
  obtain ⟨w2, hw2⟩ : ∃ w2, w2 = w1.alloc (.cells #[.int .u8 k, .int .u8 0] 5) := ⟨_, rfl⟩
  go_wp2_with fail
  refine (refBigI_calls l 2 _ (by omega) (by omega) (by omega)).mono ?_
  rintro e w3 ⟨v3, rfl, hy, hb⟩
  obtain ⟨a3, c3, rfl, _⟩ := hy.formN (n := 2) (by simp [bigL_len])
  have HY3 := Lib.hid (hy.arr (by simp [bigL_len]))
  have HO3 := Lib.hid (HO1.out.on hb)
  have bk3 := Lib.hid (bk2.out.belowHere hb)
  have hs3 : w1.heap.size < w3.heap.size := by have := hb.size; simp at this; omega
  have HB3 := Lib.hid (Below.then_ hb2.out hb)
  clear hy hb bk2 hb2 HO1 bk1 HB1 q0 q1
  go_wp2_with (at_builtin; refine wpList_appB rfl _ _ rfl w1.heap.size _ [UInt8.ofNat k.toNat, 0] rfl HO3.out _ a3 _ c3 (bigL l.toNat 2) rfl HY3.out (by simp) (by omega) ?_; intro v4 w4 hown4 hg4 hat4; have hb4 := below_own (Below.refl w1.heap.size w3) HO3.out hg4 (by omega); clear hg4 hat4; have HB4 := Lib.hid hb4; have HO4 := Lib.hid hown4; have bk4 := Lib.hid (bk3.out.below hb4 (by omega)); have hs4 := hb4.size; clear hb4 hown4; have q2 := bk4.out.cellv (i := 2) rfl)
  have HB4' := Lib.hid (HB3.out.trans (HB4.out.mono (by omega)))
  clear HB4 HB3 HO3 HY3 bk3
  generalize hL1 : [UInt8.ofNat k.toNat, 0] ++ bigL l.toNat 2 = L1 at HO4
  have lL1 : L1.length = 4 := by rw [← hL1]; simp [bigL_len]
  have HL1 := Lib.hid hL1
  clear hL1
  refine (refBigI_calls s 4 _ (by omega) (by omega) (by omega)).mono ?_
  rintro e w5 ⟨v5, rfl, hy, hb⟩
  obtain ⟨a5, c5, rfl, _⟩ := hy.formN (n := 4) (by simp [bigL_len])
  have HY5 := Lib.hid (hy.arr (by simp [bigL_len]))
  have HO5 := Lib.hid (HO4.out.on hb)
  have bk5 := Lib.hid (bk4.out.belowHere hb)
  have hs5 := hb.size
  have HB5 := Lib.hid (Below.then_ HB4'.out hb)
  clear hy hb bk4 HB4' HO4 q2
  go_wp2_with (at_builtin; refine wpList_appB rfl _ _ rfl w1.heap.size _ L1 rfl HO5.out _ a5 _ c5 (bigL s.toNat 4) rfl HY5.out (by omega) (by omega) ?_; intro v6 w6 hown6 hg6 hat6; have hb6 := below_own (Below.refl w1.heap.size w5) HO5.out hg6 (by omega); clear hg6 hat6; have HB6 := Lib.hid hb6; have HO6 := Lib.hid hown6; have bk6 := Lib.hid (bk5.out.below hb6 (by omega)); have hs6 := hb6.size; clear hb6 hown6; have q0 := bk6.out.cellv (i := 0) rfl; have q1 := bk6.out.cellv (i := 1) rfl; have q2 := bk6.out.cellv (i := 2) rfl; have q3 := bk6.out.cellv (i := 3) rfl; have q4 := bk6.out.cellv (i := 4) rfl; have q5 := bk6.out.cellv (i := 5) rfl; have q6 := bk6.out.cellv (i := 6) rfl; have q7 := bk6.out.cellv (i := 7) rfl; have q8 := bk6.out.cellv (i := 8) rfl; have q9 := bk6.out.cellv (i := 9) rfl; have q10 := bk6.out.cellv (i := 10) rfl)
  have HB6' := Lib.hid (HB5.out.trans (HB6.out.mono (by omega)))
  clear HB6 HB5 HO5 HY5 bk5 q0 q1 q2 q3 q4 q5 q6 q7 q8 q9 q10 bk6
  generalize hL2 : L1 ++ bigL s.toNat 4 = L2 at HO6
  have lL2 : L2.length = 8 := by rw [← hL2]; simp [bigL_len, lL1]
  have HL2 := Lib.hid hL2
  clear hL2
  refine (pointers_calls ⟨k, l, s, d0, d1, d2, d3, d4, d5, a, b⟩ _).mono ?_
  rintro e w7 ⟨⟨v7, rfl, hp⟩, hb⟩
  rw [show Nod.ptrs ⟨k, l, s, d0, d1, d2, d3, d4, d5, a, b⟩ = [d0, d1, d2, d3, d4, d5, a, b] from rfl] at hp
  have hps : ∀ x ∈ [d0, d1, d2, d3, d4, d5, a, b], 0 ≤ x ∧ x ≤ 8191 := by
    intro x hx
    simp only [List.mem_cons, List.not_mem_nil, or_false] at hx
    omega
  have hlp : [d0, d1, d2, d3, d4, d5, a, b].length = 8 := rfl
  have hfin : L2 ++ [d0, d1, d2, d3, d4, d5, a, b].flatMap (fun x => bigL x.toNat 2) = Nod.bytes ⟨k, l, s, d0, d1, d2, d3, d4, d5, a, b⟩ := by
    rw [← HL2.out, ← HL1.out]
    simp [Nod.bytes]
  have HF := Lib.hid hfin
  clear hfin HL1 HL2
  generalize [d0, d1, d2, d3, d4, d5, a, b] = ps at hp hps hlp HF
  obtain ⟨ag, cp, rfl, hcp⟩ := hp.formN hlp
  obtain ⟨g, rfl, hg1, hg2⟩ := hp.addr (by omega)
  have HP := Lib.hid hp
  have HO7 := Lib.hid (HO6.out.on hb)
  have hs7 := hb.size
  have HB7 := Lib.hid (Below.then_ HB6'.out hb)
  have hne : v6.ownBlock ≠ some g := fun h => by have := HO6.out.blockLt g h; omega
  clear hp hb HO6 HB6'
  go_wp2
  go_loopw [4, 6] (fun v i wr => ∃ m : Nat, m ≤ 8 ∧ i = .int .i64 m ∧ Own byteV 5 wr w1.heap.size v (L2 ++ (ps.take m).flatMap fun x => bigL x.toNat 2) ∧ Own intV 3 wr w6.heap.size (.slice (some ⟨g, 0, none⟩) 8 cp) ps ∧ v.ownBlock ≠ some g ∧ Below w1.heap.size w7 wr) (fun _ i _ => 8 - (intOf i).toNat)
  case atStart => exact ⟨0, by omega, rfl, by simpa using HO7.out, HP.out, hne, Below.refl _ _⟩
  case round =>
    obtain ⟨m, hm, rfl, ho, hp, hn, hb⟩ := hrel
    have hsr := hb.size
    have HOr := Lib.hid ho
    have HPr := Lib.hid hp
    have HNr := Lib.hid hn
    have HBr := Lib.hid hb
    clear ho hb hp hn
    by_cases hlt8 : m < 8
    · have hc := HPr.out.cellg (k := m) (by omega)
      have HT := Lib.hid (List.take_succ_eq_append_getElem (l := ps) (i := m) (by omega))
      obtain ⟨b1, b2⟩ := hps ps[m] (List.getElem_mem (by omega))
      have lfm : (L2 ++ (ps.take m).flatMap fun x => bigL x.toNat 2).length ≤ 24 := by
        rw [List.length_append, lL2, List.length_flatMap]
        simp only [bigL_len, List.map_const', List.sum_replicate_nat, List.length_take]
        omega
      generalize hx : ps[m] = x at *
      clear hx
      generalize hLm : (L2 ++ (ps.take m).flatMap fun x => bigL x.toNat 2) = Lm at *
      have HLm := Lib.hid hLm
      clear hLm
      go_wp2_with fail
      refine (refBigI_calls x 2 _ (by omega) (by omega) (by omega)).mono ?_
      rintro e w8 ⟨v8, rfl, hy, hb⟩
      obtain ⟨a8, c8, rfl, _⟩ := hy.formN (n := 2) (by simp [bigL_len])
      have HY8 := Lib.hid (hy.arr (by simp [bigL_len]))
      have HO8 := Lib.hid (HOr.out.on hb)
      have HP8 := Lib.hid (HPr.out.on hb)
      have hs8 := hb.size
      have HB8 := Lib.hid (HBr.out.trans (hb.mono (by omega)))
      have hg8 : g < w8.heap.size := by omega
      clear hy hb HOr HPr HBr
      go_wp2_with (at_builtin; refine wpList_appB rfl _ _ rfl w1.heap.size _ Lm rfl HO8.out _ a8 _ c8 (bigL x.toNat 2) rfl HY8.out (by omega) (by omega) ?_; intro v9 w9 hown9 hgr9 hat9; have hb9 := below_own HB8.out HO8.out hgr9 (by omega); have HB9 := Lib.hid hb9; have HO9 := Lib.hid hown9; have HP9 := Lib.hid (HP8.out.grown hgr9 (.inr (Ne.symm HNr.out))); have HN9 := Lib.hid (show v9.ownBlock ≠ some g by (intro h; rcases hat9 with h' | h'; (exact HNr.out (h'.symm.trans h)); (rw [h] at h'; injection h' with h'; omega))); clear hgr9 hat9 hb9 hown9)
      go_roundw
      case rel =>
        refine ⟨m + 1, by omega, by go_num, ?_, HP9.out, HN9.out, HB9.out⟩
        rw [HT.out, List.flatMap_append, ← List.append_assoc, HLm.out]
        simpa using HO9.out
      case measure => simp [intOf]; omega
    · obtain rfl : m = 8 := by omega
      have hown := HOr.out
      rw [List.take_of_length_le (by omega), HF.out] at hown
      have HO9 := Lib.hid (hown.mono (Nat.le_of_lt hlt))
      clear hown
      have HBf := Lib.hid (HB7.out.trans (HBr.out.mono (Nat.le_of_lt hlt)))
      go_wp2
      go_ret2
      exact ⟨⟨_, rfl, HO9.out⟩, HBf.out⟩
end Go.Proofs.Ytjnjemhnceejeaa
