/-
  The walks of the laws TagBurst and TagCut.
-/
import Derived.Test.YtnahmhjkbdplpaaTagTop
import Derived.Test.YtnahmhjkbdplpaaTagLaws3
import Derived.Test.YtnahmhjkbdplpaaNumAmong
import Derived.StillTailTactics
namespace Go.Proofs.Ytnahmhjkbdplpaa
open Go.RowKit

theorem tbyte_beq0 (x : UInt8) : ((x.toNat : Int) == 0) = (x == 0) := by
  rw [Bool.eq_iff_iff, beq_iff_eq, beq_iff_eq]
  exact ⟨fun h => UInt8.toNat_inj.1 (by have : (0 : UInt8).toNat = 0 := rfl; omega), fun h => by rw [h]; rfl⟩
theorem tbits_xor (x y : UInt8) : bits .xor .u8 (x.toNat : Int) (y.toNat : Int) = ((x ^^^ y).toNat : Int) := by
  rw [u8_xor_nat _ _ x.toNat_lt y.toNat_lt]; rfl
set_option maxHeartbeats 8000000 in
theorem tagBurst_walk (t : Tg) (a : Option Addr) (n c : Nat) (xs : List UInt8) (at_ : Int) (b : Option Addr) (m d : Nat) (ys : List UInt8) (w : World)
    (ht : Tg.Ok t) (hx : Bytes w w.heap.size a n xs) (hnc : n ≤ c) (_ : c ≤ 140737488351232) (h1 : -9223372036854775808 ≤ at_) (h2 : at_ ≤ 9223372036854775807) (hy : Bytes w w.heap.size b m ys) (hmd : m ≤ d) (_ : d ≤ 140737488351232) :
    Calls Try.prog 6 #[tagV t, .slice a n c, .int .i64 at_, .slice b m d] w fun e w' => e = .returned (.bool true) ∧ Below w.heap.size w w' := by
  have hbl := Lib.hid ((Below.refl w.heap.size w).alloc (Nat.le_refl _) (tagO t))
  by_cases hl : 2000 < n
  · have hd : decide (2000 < n) = true := decide_eq_true hl
    go_enter Try.func6, Try.ntmps6
    go_wp2_with fail
    refine (tlong_calls _ _ _ _).mono ?_
    rintro e w_ ⟨rfl, rfl⟩
    rw [hd]
    go_wp2_with fail
    refine (tknown_calls _).mono ?_
    rintro e wk ⟨rfl, hbk⟩
    go_wp2
    go_ret
    exact ⟨rfl, Below.then_ hbl.out hbk⟩
  have hd : decide (2000 < n) = false := decide_eq_false hl
  by_cases hl2 : 4 < m
  · go_enter Try.func6, Try.ntmps6
    go_wp2_with fail
    refine (tlong_calls _ _ _ _).mono ?_
    rintro e w_ ⟨rfl, rfl⟩
    rw [hd]
    go_wp2_with fail
    refine (tknown_calls _).mono ?_
    rintro e wk ⟨rfl, hbk⟩
    go_wp2
    go_ret
    exact ⟨rfl, Below.then_ hbl.out hbk⟩
  have HX := Lib.hid hx
  have HT := Lib.hid ht
  have hlen := Lib.hid hx.len
  have hny := Lib.hid hy.len
  have HY := Lib.hid hy
  have HX1 := Lib.hid (HX.out.alloc (tagO t))
  clear hx hl ht hy
  by_cases hg : Tg.Right t ∧ Tg.Fits xs.length
  case neg =>
    have hE := Lib.hid (Tg.write_bad hg).1
    clear hg
    go_enter Try.func6, Try.ntmps6
    go_wp2_with fail
    refine (tlong_calls _ _ _ _).mono ?_
    rintro e w_ ⟨rfl, rfl⟩
    rw [hd]
    clear hd
    go_wp2_with fail
    refine (twrite_calls t a n c xs _ HT.out HX1.out).mono ?_
    rintro e w1 ⟨v1, rfl, ho, hb⟩
    rw [hE.out]
    have HB1 := Lib.hid (Below.then_ hbl.out hb)
    clear hb ho
    go_wp2_with fail
    refine (tknown_calls _).mono ?_
    rintro e wk ⟨rfl, hbk⟩
    have HBk := Lib.hid hbk
    clear hbk
    go_wp2
    go_ret
    exact ⟨rfl, Below.then_ HB1.out HBk.out⟩
  have hE := Lib.hid (Tg.write_good hg).1
  have hL := Lib.hid (Tg.write_good hg).2
  have hf := hg.2
  unfold Tg.Fits at hf
  rw [hlen.out] at hf
  have hpl := Tg.page_len t xs
  rw [hlen.out] at hpl
  have HPL := Lib.hid hpl
  have hN : 96 ≤ n + 32 ∧ n + 32 ≤ 544 := by omega
  obtain ⟨hN1, hN2⟩ := hN
  have HG := Lib.hid hg
  clear hg hf hpl
  obtain ⟨k, hk, hkn⟩ := among_nat at_ (n + 32 - m + 1) (by omega)
  have hK := Lib.hid hk
  clear hk
  go_enter Try.func6, Try.ntmps6
  go_wp2_with fail
  refine (tlong_calls _ _ _ _).mono ?_
  rintro e w_ ⟨rfl, rfl⟩
  rw [hd]
  clear hd
  go_wp2_with fail
  refine (twrite_calls t a n c xs _ HT.out HX1.out).mono ?_
  rintro e w1 ⟨v1, rfl, ho, hb⟩
  rw [hE.out]
  rw [hL.out] at ho
  obtain ⟨a1, c1, rfl, hc1⟩ := ho.formN (n := n + 32) HPL.out
  have HO1 := Lib.hid (ho.mono (base' := w.heap.size) (by simp))
  have HB1 := Lib.hid (Below.then_ hbl.out hb)
  clear ho hb hbl hL
  have hdl : decide ((n : Int) + 32 < (m : Int)) = false := decide_eq_false (by omega)
  go_wp2_with fail
  refine (among_calls at_ ((n : Int) + 32 - (m : Int) + 1) _ h1 h2 (by omega)).mono ?_
  rintro e w_ ⟨rfl, rfl⟩
  rw [show ((n : Int) + 32 - (m : Int) + 1) = ((n + 32 - m + 1 : Nat) : Int) from by omega, hK.out]
  clear hK hdl
  have hE0 := Crc.burst_zero (Tg.page t xs) ys k
  have HE0 := Lib.hid hE0
  clear hE0
  go_wp2_with fail
  generalize hpg : Tg.page t xs = PG at HO1 HE0 HPL
  have HPG := Lib.hid hpg
  clear hpg
  go_loopw [12, 13] (fun s i wr => ∃ j : Nat, j ≤ m ∧ i = .int .i64 j ∧ s = .bool (Crc.allz (ys.take j)) ∧ Own byteV 5 wr w.heap.size (.slice a1 (n + 32 : Nat) c1) (Crc.burst PG ys k j) ∧ Below w.heap.size w wr) (fun _ i _ => m - (intOf i).toNat)
  case atStart =>
    exact ⟨0, by omega, rfl, rfl, by rw [HE0.out]; exact HO1.out, HB1.out⟩
  case round =>
    clear HO1 HB1 HE0
    obtain ⟨j, hj, rfl, rfl, ho, hb⟩ := hrel
    have HO := Lib.hid ho
    have HB := Lib.hid hb
    have hsz := hb.size
    clear ho hb
    by_cases hlt : j < m
    · obtain ⟨b2, o2, hj2, rfl, hbl2, hc2⟩ := (Arr.below HY.out HB.out).at_ hlt
      have hlen2 := Crc.burst_len PG ys k j
      have hkj : k + j < (Crc.burst PG ys k j).length := by rw [hlen2, HPL.out]; omega
      obtain ⟨g, rfl, hgb, _⟩ := HO.out.addr (by omega)
      obtain ⟨hcell, hfr⟩ := HO.out.cellg hkj
      have hkx : k + j < PG.length := by rw [HPL.out]; omega
      rw [Crc.burst_here PG ys k j hkj hkx] at hcell
      have hset := Crc.burst_set PG ys k j
      rw [List.getD_eq_getElem?_getD, List.getElem?_eq_getElem hkx, List.getD_eq_getElem?_getD, List.getElem?_eq_getElem hj2] at hset
      simp only [Option.getD_some] at hset
      have Hset := Lib.hid hset
      have hsnoc := Crc.allz_snoc (ys.take j) ys[j]
      rw [← take_snoc _ _ hj2] at hsnoc
      have Hsnoc := Lib.hid hsnoc
      have hj0 : (0 : Int) ≤ (j : Int) := by omega
      have hj1 : (j : Int) < (m : Int) := by omega
      have hkj0 : (0 : Int) ≤ (k : Int) + (j : Int) := by omega
      have hkj1 : (k : Int) + (j : Int) < (n : Int) + 32 := by omega
      have hkj2 : ((k : Int) + (j : Int)).toNat = k + j := by omega
      have HTT := Lib.hid hkj2
      clear hset hsnoc hlen2 hkj2
      have hb0 := tbyte_beq0 ys[j]
      have Hb0 := Lib.hid hb0
      clear hb0
      have hcase : Crc.allz (ys.take j) = true ∨ Crc.allz (ys.take j) = false := by cases Crc.allz (ys.take j) <;> simp
      rcases hcase with hs | hs
      all_goals
        rw [hs]
        have Hs := Lib.hid hs
        clear hs
        go_wp2_with fail
        have hwr := IntWalk.i64_in ((k : Int) + (j : Int)) ⟨by omega, by omega⟩
        have hto := HTT.out
        go_still_tail 16, (by kernel_rfl)
        clear hwr hto
        have hcell2 : wr.drew.cell? ⟨g, k + j, none⟩ = some (byteV PG[k + j]) := hcell
        have hfr2 : wr.drew.frozen? ⟨g, k + j, none⟩ = false := hfr
        have HO2 : Hid (Own byteV 5 wr.drew w.heap.size (.slice (some ⟨g, 0, none⟩) (n + 32 : Nat) c1) (Crc.burst PG ys k j)) := Lib.hid HO.out.drew
        have HB2 := Lib.hid HB.out.drew
        change wpList _ _ _ _ _ wr.drew
        generalize wr.drew = W2 at *
        clear hcell hfr HO HB hc2
        have Hval := Lib.hid (tbits_xor PG[k + j] ys[j])
        go_wp2_with fail
        go_roundw
        case rel =>
          refine ⟨j + 1, by omega, by go_num, ?_, ?_, HB2.out.setCell hgb _⟩
          · rw [Hsnoc.out, Hs.out]; first | rfl | exact congrArg Value.bool Hb0.out
          · rw [Hval.out, ← Hset.out]
            exact HO2.out.set (k + j) (PG[k + j] ^^^ ys[j])
        case measure => simp [intOf]; omega
    · obtain rfl : j = m := by omega
      have hrb := Tg.read_burst HG.out.1 HG.out.2 (X := ys) (k := k) hny.out (by omega) (by rw [HPG.out, HPL.out]; omega)
      rw [HPG.out] at hrb
      have HRB := Lib.hid hrb
      have hta : ys.take j = ys := List.take_of_length_le (by rw [hny.out]; omega)
      rw [hta]
      have HaD := Lib.hid (Own.arr HO.out (by rw [Crc.burst_len, HPL.out]; omega))
      clear hrb hta HO
      go_wp2_with fail
      refine (tread_calls a1 (n + 32) c1 (Crc.burst PG ys k j) _ HaD.out hc1).mono ?_
      rintro _ w3 ⟨a3, n3, c3, rfl, _, _, hb⟩
      rw [HRB.out]
      have HB3 := Lib.hid (HB.out.trans (hb.mono hsz))
      have hs3 := hb.size
      clear hb HRB
      generalize Tg.readT (Crc.burst PG ys k j) = u at *
      cases hz : Crc.allz ys
      all_goals
        simp only [if_true, Bool.false_eq_true, if_false]
        have HBu := Lib.hid (HB3.out.alloc HB3.out.size (tagO u))
        clear hz
        go_wp2_with fail
        refine (tknown_calls _).mono ?_
        rintro e wk ⟨rfl, hbk⟩
        have HBk := Lib.hid hbk
        clear hbk
        go_wp2
        go_ret
        exact ⟨rfl, Below.then_ HBu.out HBk.out⟩
end Go.Proofs.Ytnahmhjkbdplpaa
