/-
  The walk of the law DirsKeeps.
-/
import Derived.Test.YtlnomkkamopieaaDirKeepM
import Derived.Deep.DeepCutAuto
namespace Go.Proofs.Ytlnomkkamopieaa
open Go.RowKit

set_option maxRecDepth 100000 in
set_option maxHeartbeats 16000000 in
theorem dirsKeeps_walk (a : Option Addr) (n c : Nat) (b : List UInt8) (e : Ent) (s2 s3 : ByteArray) (w : World) (hx : Bytes w w.heap.size a n b) (hnc : n ≤ c) (_ : c ≤ 140737488351232) (_ : s2.size ≤ 140737488351232) (_ : s3.size ≤ 140737488351232) :
    Calls Try.prog 7 #[.slice a n c, entV e, .string s2, .string s3] w fun x w' => x = .returned (.bool true) ∧ Below w.heap.size w w' := by
  obtain ⟨nm, rfl⟩ := strL_of s2
  obtain ⟨ot, rfl⟩ := strL_of s3
  have hb0 := (Below.refl w.heap.size w).alloc (Nat.le_refl _) (entO e)
  have HB0 := Lib.hid hb0
  have HX0 := Lib.hid (hx.on hb0)
  have HE0 := Lib.hid (Blk.new w 23 #[.int .i64 e.i, .string (strL e.nm)])
  unfold entO at HB0 HX0
  have HL := Lib.hid hx.len
  clear hb0 hx
  by_cases h2 : 1500 < n
  · have g2 : decide (1500 < n) = true := decide_eq_true h2
    obtain ⟨i, en⟩ := e
    clear h2
    go_enter Try.func7, Try.ntmps7
    go_wp2_with fail
    refine (long_calls _ _ _ _).mono ?_
    rintro e w_ ⟨rfl, rfl⟩
    rw [g2]
    go_wp2_with fail
    refine (known_calls _).mono ?_
    rintro e wk_ ⟨rfl, h_⟩
    have HBk_ := Lib.hid h_
    clear h_
    go_wp2
    go_ret
    exact ⟨rfl, Below.then_ (HB0.out) HBk_.out⟩
  have g2 : decide (1500 < n) = false := decide_eq_false h2
  by_cases h1 : 500 < e.nm.length
  · have g1 : decide (500 < (e.nm.length : Int)) = true := decide_eq_true (by omega)
    obtain ⟨i, en⟩ := e
    clear h1 h2
    go_enter Try.func7, Try.ntmps7
    go_wp2_with fail
    refine (long_calls _ _ _ _).mono ?_
    rintro e w_ ⟨rfl, rfl⟩
    rw [g2]
    go_wp2_with fail
    refine (known_calls _).mono ?_
    rintro e wk_ ⟨rfl, h_⟩
    have HBk_ := Lib.hid h_
    clear h_
    go_wp2
    go_ret
    exact ⟨rfl, Below.then_ (HB0.out) HBk_.out⟩
  have g1 : decide (500 < (e.nm.length : Int)) = false := decide_eq_false (by omega)
  by_cases h3 : 500 < nm.length
  · have g3 : decide (500 < (nm.length : Int)) = true := decide_eq_true (by omega)
    obtain ⟨i, en⟩ := e
    clear h1 h2 h3
    go_enter Try.func7, Try.ntmps7
    go_wp2_with fail
    refine (long_calls _ _ _ _).mono ?_
    rintro e w_ ⟨rfl, rfl⟩
    rw [g2]
    go_wp2_with fail
    refine (known_calls _).mono ?_
    rintro e wk_ ⟨rfl, h_⟩
    have HBk_ := Lib.hid h_
    clear h_
    go_wp2
    go_ret
    exact ⟨rfl, Below.then_ (HB0.out) HBk_.out⟩
  have g3 : decide (500 < (nm.length : Int)) = false := decide_eq_false (by omega)
  by_cases h4 : 500 < ot.length
  · have g4 : decide (500 < (ot.length : Int)) = true := decide_eq_true (by omega)
    obtain ⟨i, en⟩ := e
    clear h1 h2 h3 h4
    go_enter Try.func7, Try.ntmps7
    go_wp2_with fail
    refine (long_calls _ _ _ _).mono ?_
    rintro e w_ ⟨rfl, rfl⟩
    rw [g2]
    go_wp2_with fail
    refine (known_calls _).mono ?_
    rintro e wk_ ⟨rfl, h_⟩
    have HBk_ := Lib.hid h_
    clear h_
    go_wp2
    go_ret
    exact ⟨rfl, Below.then_ (HB0.out) HBk_.out⟩
  have g4 : decide (500 < (ot.length : Int)) = false := decide_eq_false (by omega)
  have HF := Lib.hid (fun W (hx : Bytes W W.heap.size a n b) => find_calls a n c b ot W hx hnc)
  have HA := Lib.hid (fun W (hx : Bytes W W.heap.size a n b) => add_calls a n c b e W hx hnc (by omega) (by omega))
  have HR := Lib.hid (fun W (hx : Bytes W W.heap.size a n b) => remove_calls a n c b nm W hx hnc (by omega))
  have HT := Lib.hid (fun W (hx : Bytes W W.heap.size a n b) => turn_calls a n c b nm e.i W hx hnc)
  unfold AddR at HA
  unfold RemoveR at HR
  unfold TurnR at HT
  have KA := Lib.hid (fun h r hr => Dir.added_keeps (b := b) (e := e) (r := r) h hr)
  have KAL := Lib.hid (fun h r hr => Dir.added_len (b := b) (e := e) (r := r) h hr)
  have KR := Lib.hid (fun h => Dir.removed_keeps (b := b) (nm := nm) h)
  have KT := Lib.hid (fun h => Dir.turned_keeps (b := b) (nm := nm) (to_ := e.i) h)
  have KAO := Lib.hid (fun h r hr (hne : ot ≠ e.nm) => (Dir.added_keeps (b := b) (e := e) (r := r) h hr).2.2 ot hne)
  have KRO := Lib.hid (fun h (hne : ot ≠ nm) => (Dir.removed_keeps (b := b) (nm := nm) h).2.2 ot hne)
  have KTO := Lib.hid (fun h (hne : ot ≠ nm) => (Dir.turned_keeps (b := b) (nm := nm) (to_ := e.i) h).2.2.2 ot hne)
  have KRL := Lib.hid (show Dir.namedE b nm = 0 → (Dir.removedL b nm).length ≤ b.length + 16 from fun h => by
    obtain ⟨t, h1, h2, _⟩ := Dir.trim_spec (b := Dir.putSlot b (Dir.namedK b nm) Dir.zeros) (Dir.cnt b)
    unfold Dir.removedL
    rw [h2, List.length_take, Dir.putSlot_len (Dir.named_ok h).2.2.2 Dir.zeros_len]
    omega)
  have hn1500 : n ≤ 1500 := by omega
  obtain ⟨i, en⟩ := e
  clear h1 h2 h3 h4
  generalize Dir.addE b ⟨i, en⟩ = EA at *
  generalize Dir.namedE b nm = ER at *
  generalize Dir.turnE b nm i = ET at *
  generalize (Dir.findR b ot).1 = wk at *
  generalize (Dir.findR b ot).2 = was at *
  go_enter Try.func7, Try.ntmps7
  go_wp2_with fail
  refine (long_calls _ _ _ _).mono ?_
  rintro e w_ ⟨rfl, rfl⟩
  rw [g2]
  go_wp2_with fail
  refine (HF.out _ HX0.out).mono ?_
  rintro e w1 ⟨rfl, hb⟩
  have HB1 := Lib.hid (HB0.out.then_ hb)
  have HX1 := Lib.hid (HX0.out.on hb)
  have e1 := HE0.out.belowHere hb
  have HE1 := Lib.hid e1
  have e10 := e1.cellv (i := 0) rfl
  have e11 := e1.cellv (i := 1) rfl
  clear hb e1
  go_wp2_with fail
  refine (HA.out _ HX1.out).mono ?_
  rintro e w2 ⟨⟨v2, xs, rfl, ho, hay, han⟩, hb⟩
  obtain ⟨a2, c2, rfl, hc2⟩ := ho.form
  have HO2 := Lib.hid ho
  have HB2 := Lib.hid (HB1.out.then_ hb)
  have HX2 := Lib.hid (HX1.out.on hb)
  have HE2 := Lib.hid (HE1.out.belowHere hb)
  have HAY := Lib.hid hay
  clear hb ho hay han
  go_wp2_with fail
  refine (HR.out _ HX2.out).mono ?_
  rintro e w3 ⟨⟨v3, ys, rfl, ho, hry, hrn⟩, hb⟩
  obtain ⟨a3, c3, rfl, hc3⟩ := ho.form
  have HP3 := Lib.hid ho
  have HO3 := Lib.hid (HO2.out.on hb)
  have HB3 := Lib.hid (HB2.out.then_ hb)
  have HX3 := Lib.hid (HX2.out.on hb)
  have e3 := HE2.out.belowHere hb
  have HE3 := Lib.hid e3
  have HRY := Lib.hid hry
  have e30 := e3.cellv (i := 0) rfl
  have e31 := e3.cellv (i := 1) rfl
  clear hb ho hry hrn e3
  go_wp2_with fail
  refine (HT.out _ HX3.out).mono ?_
  rintro e w4 ⟨⟨v4, zs, rfl, ho, hty, htn⟩, hb⟩
  obtain ⟨a4, c4, rfl, hc4⟩ := ho.form
  have HQ4 := Lib.hid ho
  have HP4 := Lib.hid (HP3.out.on hb)
  have HO4 := Lib.hid (HO3.out.on hb)
  have HB4 := Lib.hid (HB3.out.then_ hb)
  have e4 := HE3.out.belowHere hb
  have HE4 := Lib.hid e4
  have HTY := Lib.hid hty
  clear hb ho hty htn e4
  go_upto_if 75 with (fail)
  go_cut [17] (fun _ wx => Below w4.heap.size w4 wx)
  case first =>
    by_cases hE : EA = 0
    · subst hE
      obtain ⟨r, hr, rfl⟩ := HAY.out (by trivial)
      obtain ⟨q1, q2, _⟩ := KA.out (by trivial) r hr
      have q4 := KAL.out (by trivial) r hr
      have q5 := Lib.hid (fun hne => KAO.out (by trivial) r hr hne)
      have hxx := HO4.out.arr (by rw [HL.out] at q4; omega)
      have HC := Lib.hid (fun W hb => check_calls a2 _ c2 _ W (hxx.on hb) hc2)
      have HF1 := Lib.hid (find_calls a2 _ c2 _ en w4 hxx hc2)
      have HF2 := Lib.hid (fun W hb => find_calls a2 _ c2 _ ot W (hxx.on hb) hc2)
      rw [Dir.checkE_yes q1] at HC
      rw [q2] at HF1
      have e40 := HE4.out.cellv (i := 0) rfl
      have e41 := HE4.out.cellv (i := 1) rfl
      clear hxx q1 q2 q4 hr
      generalize Dir.addedAt b ⟨i, en⟩ r = xx at *
      generalize (Dir.findR xx en).1 = k1 at *
      generalize (Dir.findR xx ot).1 = k2 at *
      by_cases hq : ot = en
      · have g6 : (ot == en) = true := by simpa using hq
        generalize (Dir.findR xx ot).2 = m2 at *
        clear q5 hq
        go_wp2_with fail
        refine HF1.out.mono ?_
        rintro e w5 ⟨rfl, hb⟩
        have HBX := Lib.hid hb
        have e5 := HE4.out.belowHere hb
        have e50 := e5.cellv (i := 0) rfl
        have e51 := e5.cellv (i := 1) rfl
        have HE5 := Lib.hid e5
        clear hb e5
        go_wp2_with fail
        refine (HF2.out _ HBX.out).mono ?_
        rintro e w6 ⟨rfl, hb⟩
        have HBY := Lib.hid (HBX.out.then_ hb)
        have HE6 := Lib.hid (HE5.out.belowHere hb)
        clear hb
        go_wp2_with fail
        refine (HC.out _ HBY.out).mono ?_
        rintro e w7 ⟨rfl, hb⟩
        have HBZ := Lib.hid (HBY.out.then_ hb)
        have e7 := HE6.out.belowHere hb
        have e70 := e7.cellv (i := 0) rfl
        have e71 := e7.cellv (i := 1) rfl
        clear hb e7
        go_wp2
        go_meet
        exact HBZ.out
      · have g6 : (ot == en) = false := by simpa using hq
        have q6 := q5.out hq
        rw [q6] at HF2
        clear q5 q6 hq
        go_wp2_with fail
        refine HF1.out.mono ?_
        rintro e w5 ⟨rfl, hb⟩
        have HBX := Lib.hid hb
        have e5 := HE4.out.belowHere hb
        have e50 := e5.cellv (i := 0) rfl
        have e51 := e5.cellv (i := 1) rfl
        have HE5 := Lib.hid e5
        clear hb e5
        go_wp2_with fail
        refine (HF2.out _ HBX.out).mono ?_
        rintro e w6 ⟨rfl, hb⟩
        have HBY := Lib.hid (HBX.out.then_ hb)
        have HE6 := Lib.hid (HE5.out.belowHere hb)
        clear hb
        go_wp2_with fail
        refine (HC.out _ HBY.out).mono ?_
        rintro e w7 ⟨rfl, hb⟩
        have HBZ := Lib.hid (HBY.out.then_ hb)
        have e7 := HE6.out.belowHere hb
        have e70 := e7.cellv (i := 0) rfl
        have e71 := e7.cellv (i := 1) rfl
        clear hb e7
        go_wp2
        go_meet
        exact HBZ.out
    · have g5 : (EA == 0) = false := by simpa using hE
      go_wp2
      go_meet
      exact Below.refl _ _
  case rest =>
    have HBW := Lib.hid (HB4.out.then_ hcut)
    have HPW := Lib.hid (HP4.out.on hcut)
    have HQW := Lib.hid (HQ4.out.on hcut)
    have HEW := Lib.hid (HE4.out.belowHere hcut)
    clear hcut
    go_upto_if 110 with (fail)
    go_cut [21] (fun _ wx => Below wc.heap.size wc wx)
    case first =>
      by_cases hE : ER = 0
      · subst hE
        obtain rfl := HRY.out (by trivial)
        obtain ⟨q1, q2, _⟩ := KR.out (by trivial)
        have q5 := Lib.hid (fun hne => KRO.out (by trivial) hne)
        have q4 := KRL.out (by trivial)
        have hxx := HPW.out.arr (by rw [HL.out] at q4; omega)
        have HC := Lib.hid (fun W hb => check_calls a3 _ c3 _ W (hxx.on hb) hc3)
        have HF1 := Lib.hid (find_calls a3 _ c3 _ nm wc hxx hc3)
        have HF2 := Lib.hid (fun W hb => find_calls a3 _ c3 _ ot W (hxx.on hb) hc3)
        rw [Dir.checkE_yes q1] at HC
        rw [q2] at HF1
        have eW0 := HEW.out.cellv (i := 0) rfl
        have eW1 := HEW.out.cellv (i := 1) rfl
        clear hxx q1 q2 q4
        generalize Dir.removedL b nm = xx at *
        generalize (Dir.findR xx nm).2 = k1 at *
        generalize (Dir.findR xx ot).1 = k2 at *
        by_cases hq : ot = nm
        · have g6 : (ot == nm) = true := by simpa using hq
          generalize (Dir.findR xx ot).2 = m2 at *
          clear q5 hq
          go_wp2_with fail
          refine HF1.out.mono ?_
          rintro e w5 ⟨rfl, hb⟩
          have HBX := Lib.hid hb
          have e5 := HEW.out.belowHere hb
          have e50 := e5.cellv (i := 0) rfl
          have e51 := e5.cellv (i := 1) rfl
          have HE5 := Lib.hid e5
          clear hb e5
          go_wp2_with fail
          refine (HF2.out _ HBX.out).mono ?_
          rintro e w6 ⟨rfl, hb⟩
          have HBY := Lib.hid (HBX.out.then_ hb)
          have HE6 := Lib.hid (HE5.out.belowHere hb)
          clear hb
          go_wp2_with fail
          refine (HC.out _ HBY.out).mono ?_
          rintro e w7 ⟨rfl, hb⟩
          have HBZ := Lib.hid (HBY.out.then_ hb)
          have e7 := HE6.out.belowHere hb
          have e70 := e7.cellv (i := 0) rfl
          have e71 := e7.cellv (i := 1) rfl
          clear hb e7
          go_wp2
          go_meet
          exact HBZ.out
        · have g6 : (ot == nm) = false := by simpa using hq
          have q6 := q5.out hq
          rw [q6] at HF2
          clear q5 q6 hq
          go_wp2_with fail
          refine HF1.out.mono ?_
          rintro e w5 ⟨rfl, hb⟩
          have HBX := Lib.hid hb
          have e5 := HEW.out.belowHere hb
          have e50 := e5.cellv (i := 0) rfl
          have e51 := e5.cellv (i := 1) rfl
          have HE5 := Lib.hid e5
          clear hb e5
          go_wp2_with fail
          refine (HF2.out _ HBX.out).mono ?_
          rintro e w6 ⟨rfl, hb⟩
          have HBY := Lib.hid (HBX.out.then_ hb)
          have HE6 := Lib.hid (HE5.out.belowHere hb)
          clear hb
          go_wp2_with fail
          refine (HC.out _ HBY.out).mono ?_
          rintro e w7 ⟨rfl, hb⟩
          have HBZ := Lib.hid (HBY.out.then_ hb)
          have e7 := HE6.out.belowHere hb
          have e70 := e7.cellv (i := 0) rfl
          have e71 := e7.cellv (i := 1) rfl
          clear hb e7
          go_wp2
          go_meet
          exact HBZ.out
      · have g5 : (ER == 0) = false := by simpa using hE
        go_wp2
        go_meet
        exact Below.refl _ _
    case rest =>
      have HBX := Lib.hid (HBW.out.then_ hcut)
      have HQX := Lib.hid (HQW.out.on hcut)
      have HEX := Lib.hid (HEW.out.belowHere hcut)
      clear hcut HEW
      have HEW := HEX
      go_upto_if 141 with (fail)
      go_cut [25] (fun _ wx => Below wc.heap.size wc wx)
      case first =>
        by_cases hE : ET = 0
        · subst hE
          obtain rfl := HTY.out (by trivial)
          obtain ⟨q1, q2, q4, _⟩ := KT.out (by trivial)
          have q5 := Lib.hid (fun hne => KTO.out (by trivial) hne)
          have q4' := q4
          have hxx := HQX.out.arr (by rw [HL.out] at q4; omega)
          have HC := Lib.hid (fun W hb => check_calls a4 _ c4 _ W (hxx.on hb) hc4)
          have HF1 := Lib.hid (find_calls a4 _ c4 _ nm wc hxx hc4)
          have HF2 := Lib.hid (fun W hb => find_calls a4 _ c4 _ ot W (hxx.on hb) hc4)
          rw [Dir.checkE_yes q1] at HC
          rw [q2] at HF1
          have eW0 := HEW.out.cellv (i := 0) rfl
          have eW1 := HEW.out.cellv (i := 1) rfl
          clear hxx q1 q2 q4
          have g9 : (((Dir.turnedL b nm i).length : Int) != (n : Int)) = false := by
            have := HL.out
            rw [bne_eq_false_iff_eq]
            omega
          clear q4'
          generalize Dir.turnedL b nm i = xx at *
          generalize (Dir.findR xx nm).1 = k1 at *
          generalize (Dir.findR xx ot).1 = k2 at *
          by_cases hq : ot = nm
          · have g6 : (ot == nm) = true := by simpa using hq
            generalize (Dir.findR xx ot).2 = m2 at *
            clear q5 hq
            go_wp2_with fail
            refine HF1.out.mono ?_
            rintro e w5 ⟨rfl, hb⟩
            have HBX := Lib.hid hb
            have e5 := HEW.out.belowHere hb
            have e50 := e5.cellv (i := 0) rfl
            have e51 := e5.cellv (i := 1) rfl
            have HE5 := Lib.hid e5
            clear hb e5
            go_wp2_with fail
            refine (HF2.out _ HBX.out).mono ?_
            rintro e w6 ⟨rfl, hb⟩
            have HBY := Lib.hid (HBX.out.then_ hb)
            have HE6 := Lib.hid (HE5.out.belowHere hb)
            clear hb
            go_wp2_with fail
            refine (HC.out _ HBY.out).mono ?_
            rintro e w7 ⟨rfl, hb⟩
            have HBZ := Lib.hid (HBY.out.then_ hb)
            have e7 := HE6.out.belowHere hb
            have e70 := e7.cellv (i := 0) rfl
            have e71 := e7.cellv (i := 1) rfl
            clear hb e7
            go_wp2
            go_meet
            exact HBZ.out
          · have g6 : (ot == nm) = false := by simpa using hq
            have q6 := q5.out hq
            rw [q6] at HF2
            clear q5 q6 hq
            go_wp2_with fail
            refine HF1.out.mono ?_
            rintro e w5 ⟨rfl, hb⟩
            have HBX := Lib.hid hb
            have e5 := HEW.out.belowHere hb
            have e50 := e5.cellv (i := 0) rfl
            have e51 := e5.cellv (i := 1) rfl
            have HE5 := Lib.hid e5
            clear hb e5
            go_wp2_with fail
            refine (HF2.out _ HBX.out).mono ?_
            rintro e w6 ⟨rfl, hb⟩
            have HBY := Lib.hid (HBX.out.then_ hb)
            have HE6 := Lib.hid (HE5.out.belowHere hb)
            clear hb
            go_wp2_with fail
            refine (HC.out _ HBY.out).mono ?_
            rintro e w7 ⟨rfl, hb⟩
            have HBZ := Lib.hid (HBY.out.then_ hb)
            have e7 := HE6.out.belowHere hb
            have e70 := e7.cellv (i := 0) rfl
            have e71 := e7.cellv (i := 1) rfl
            clear hb e7
            go_wp2
            go_meet
            exact HBZ.out
        · have g5 : (ET == 0) = false := by simpa using hE
          go_wp2
          go_meet
          exact Below.refl _ _
      case rest =>
        have HBV := Lib.hid (HBX.out.then_ hcut)
        clear hcut
        go_wp2_with fail
        refine (known_calls _).mono ?_
        rintro e wk_ ⟨rfl, h_⟩
        have HBk_ := Lib.hid h_
        clear h_
        go_wp2
        go_ret
        exact ⟨rfl, Below.then_ (HBV.out) HBk_.out⟩
end Go.Proofs.Ytlnomkkamopieaa
