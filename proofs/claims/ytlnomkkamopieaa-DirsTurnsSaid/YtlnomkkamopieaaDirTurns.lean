/-
  The walk of the law DirsTurns.
-/
import Derived.Test.YtlnomkkamopieaaDirTurnL
import Derived.Test.YtlnomkkamopieaaDirRRem
import Derived.Test.YtlnomkkamopieaaDirTop
import Derived.Test.YtlnomkkamopieaaNumSame
namespace Go.Proofs.Ytlnomkkamopieaa
open Go.RowKit

set_option maxRecDepth 100000 in
set_option maxHeartbeats 16000000 in
theorem dirsTurns_walk (a : Option Addr) (n c : Nat) (b : List UInt8) (e : Ent) (s2 : ByteArray) (to : Int) (w : World) (hx : Bytes w w.heap.size a n b) (hnc : n ≤ c) (_ : c ≤ 140737488351232) (_ : s2.size ≤ 140737488351232) (_ : -9223372036854775808 ≤ to) (_ : to ≤ 9223372036854775807) :
    Calls Try.prog 6 #[.slice a n c, entV e, .string s2, .int .i64 to] w fun x w' => x = .returned (.bool true) ∧ Below w.heap.size w w' := by
  obtain ⟨nm, rfl⟩ := strL_of s2
  have hb0 := (Below.refl w.heap.size w).alloc (Nat.le_refl _) (entO e)
  have HB0 := Lib.hid hb0
  have HX0 := Lib.hid (hx.on hb0)
  have HE0 := Lib.hid (Blk.new w 23 #[.int .i64 e.i, .string (strL e.nm)])
  unfold entO at HB0 HX0
  have HL := Lib.hid hx.len
  clear hb0 hx
  by_cases h2 : 1500 < n
  · have g2 : decide (1500 < n) = true := decide_eq_true h2
    obtain ⟨i, en⟩ := e
    clear h2
    go_enter Try.func6, Try.ntmps6
    go_wp2_with fail
    refine (long_calls _ _ _ _).mono ?_
    rintro e w_ ⟨rfl, rfl⟩
    rw [g2]
    go_wp2_with fail
    refine (known_calls _).mono ?_
    rintro e wk_ ⟨rfl, h_⟩
    have HBk_ := Lib.hid h_
    clear h_
    go_wp2
    go_ret
    exact ⟨rfl, Below.then_ (HB0.out) HBk_.out⟩
  have g2 : decide (1500 < n) = false := decide_eq_false h2
  by_cases h1 : 500 < e.nm.length
  · have g1 : decide (500 < (e.nm.length : Int)) = true := decide_eq_true (by omega)
    obtain ⟨i, en⟩ := e
    clear h1 h2
    go_enter Try.func6, Try.ntmps6
    go_wp2_with fail
    refine (long_calls _ _ _ _).mono ?_
    rintro e w_ ⟨rfl, rfl⟩
    rw [g2]
    go_wp2_with fail
    refine (known_calls _).mono ?_
    rintro e wk_ ⟨rfl, h_⟩
    have HBk_ := Lib.hid h_
    clear h_
    go_wp2
    go_ret
    exact ⟨rfl, Below.then_ (HB0.out) HBk_.out⟩
  have g1 : decide (500 < (e.nm.length : Int)) = false := decide_eq_false (by omega)
  by_cases h3 : 500 < nm.length
  · have g3 : decide (500 < (nm.length : Int)) = true := decide_eq_true (by omega)
    obtain ⟨i, en⟩ := e
    clear h1 h2 h3
    go_enter Try.func6, Try.ntmps6
    go_wp2_with fail
    refine (long_calls _ _ _ _).mono ?_
    rintro e w_ ⟨rfl, rfl⟩
    rw [g2]
    go_wp2_with fail
    refine (known_calls _).mono ?_
    rintro e wk_ ⟨rfl, h_⟩
    have HBk_ := Lib.hid h_
    clear h_
    go_wp2
    go_ret
    exact ⟨rfl, Below.then_ (HB0.out) HBk_.out⟩
  have g3 : decide (500 < (nm.length : Int)) = false := decide_eq_false (by omega)
  have HS := Lib.hid (fun W (hx : Bytes W W.heap.size a n b) => refSlots_calls a n c b W hx hnc (by omega))
  have HA := Lib.hid (fun W (hx : Bytes W W.heap.size a n b) => add_calls a n c b e W hx hnc (by omega) (by omega))
  have HR := Lib.hid (fun W (hx : Bytes W W.heap.size a n b) => remove_calls a n c b nm W hx hnc (by omega))
  have HT := Lib.hid (fun W (hx : Bytes W W.heap.size a n b) => turn_calls a n c b nm to W hx hnc)
  unfold AddR at HA
  unfold RemoveR at HR
  unfold TurnR at HT
  have HSN := Lib.hid (Dir.slotsL_len b)
  have HCN := Lib.hid (show Dir.cnt b ≤ 1500 by unfold Dir.cnt; rw [HL.out]; omega)
  have hen : e.nm.length ≤ 140737488351232 := by omega
  cases hG : Dir.goodB b
  · rw [hG] at HS
    have n1 : Dir.addE b e = 50 := by unfold Dir.addE; rw [hG]; rfl
    have n2 : Dir.namedE b nm = 50 := by unfold Dir.namedE; rw [hG]; rfl
    have n3 : Dir.turnE b nm to = 50 := by unfold Dir.turnE; rw [n2]; rfl
    rw [n1] at HA
    rw [n2] at HR
    rw [n3] at HT
    obtain ⟨i, en⟩ := e
    clear h1 h2 h3 hG n1 n2 n3
    go_enter Try.func6, Try.ntmps6
    go_wp2_with fail
    refine (long_calls _ _ _ _).mono ?_
    rintro e w_ ⟨rfl, rfl⟩
    rw [g2]
    go_wp2_with fail
    refine (HS.out _ HX0.out).mono ?_
    rintro e w1 ⟨⟨v1, rfl, ho1⟩, hb⟩
    obtain ⟨al, cl, rfl, _⟩ := ho1.form
    have HM1 := Lib.hid (ho1.arr (by have := HSN.out; have := HCN.out; omega))
    have HB1 := Lib.hid (HB0.out.then_ hb)
    have HX1 := Lib.hid (HX0.out.on hb)
    have e1 := HE0.out.belowHere hb
    have HE1 := Lib.hid e1
    have e10 := e1.cellv (i := 0) rfl
    have e11 := e1.cellv (i := 1) rfl
    clear hb e1 ho1
    go_wp2_with fail
    refine (HA.out _ HX1.out).mono ?_
    rintro e w2 ⟨⟨v2, ya, rfl, ho, hay, han⟩, hb⟩
    obtain rfl := han (by decide)
    obtain ⟨a2, c2, rfl, hc2⟩ := ho.form
    have HO2 := Lib.hid ho
    have HM2 := Lib.hid (HM1.out.on hb)
    have HB2 := Lib.hid (HB1.out.then_ hb)
    have HX2 := Lib.hid (HX1.out.on hb)
    have HE2 := Lib.hid (HE1.out.belowHere hb)
    have HAY := Lib.hid hay
    have HAN := Lib.hid han
    clear hb ho hay han
    go_wp2_with fail
    refine (HR.out _ HX2.out).mono ?_
    rintro e w3 ⟨⟨v3, yr, rfl, ho, hry, hrn⟩, hb⟩
    obtain rfl := hrn (by decide)
    obtain ⟨a3, c3, rfl, hc3⟩ := ho.form
    have HP3 := Lib.hid ho
    have HO3 := Lib.hid (HO2.out.on hb)
    have HM3 := Lib.hid (HM2.out.on hb)
    have HB3 := Lib.hid (HB2.out.then_ hb)
    have HX3 := Lib.hid (HX2.out.on hb)
    have HE3 := Lib.hid (HE2.out.belowHere hb)
    have HRY := Lib.hid hry
    have HRN := Lib.hid hrn
    clear hb ho hry hrn
    go_wp2_with fail
    refine (HT.out _ HX3.out).mono ?_
    rintro e w4 ⟨⟨v4, yt, rfl, ho, hty, htn⟩, hb⟩
    obtain rfl := htn (by decide)
    obtain ⟨a4, c4, rfl, hc4⟩ := ho.form
    have HQ4 := Lib.hid ho
    have HP4 := Lib.hid (HP3.out.on hb)
    have HO4 := Lib.hid (HO3.out.on hb)
    have HM4 := Lib.hid (HM3.out.on hb)
    have HB4 := Lib.hid (HB3.out.then_ hb)
    have e4 := HE3.out.belowHere hb
    have HE4 := Lib.hid e4
    have e40 := e4.cellv (i := 0) rfl
    have e41 := e4.cellv (i := 1) rfl
    have HTY := Lib.hid hty
    have HTN := Lib.hid htn
    clear hb ho hty htn e4 e10 e11
    simp only [List.length_nil]
    go_wp2_with fail
    refine (known_calls _).mono ?_
    rintro e wk ⟨rfl, hbk⟩
    go_wp2
    go_ret
    exact ⟨rfl, HB4.out.then_ hbk⟩
  · have KA := Lib.hid (fun xs ys => Dir.add_match (b := b) (e := e) (xs := xs) (ys := ys))
    have KR := Lib.hid (fun xs ys => Dir.remove_match (b := b) (nm := nm) (xs := xs) (ys := ys))
    have KT := Lib.hid (fun xs ys => Dir.turn_match (b := b) (nm := nm) (to := to) (xs := xs) (ys := ys))
    have RA := Lib.hid (fun W al cl (hx : EntsA W W.heap.size al (Dir.slotsL b).length (Dir.slotsL b)) => refAdd_calls al (Dir.slotsL b).length cl (Dir.slotsL b) e W hx (by have := HSN.out; have := HCN.out; omega) hen)
    have RR := Lib.hid (fun W al cl (hx : EntsA W W.heap.size al (Dir.slotsL b).length (Dir.slotsL b)) => refRemove_calls al (Dir.slotsL b).length cl (Dir.slotsL b) nm W hx (by have := HSN.out; have := HCN.out; omega))
    have RT := Lib.hid (fun W al cl (hx : EntsA W W.heap.size al (Dir.slotsL b).length (Dir.slotsL b)) => refTurn_calls al (Dir.slotsL b).length cl (Dir.slotsL b) nm to W hx (by have := HSN.out; have := HCN.out; omega))
    unfold RefL at RA RR RT
    rw [Dir.addE_ref hG] at RA
    rw [Dir.removeE_ref hG] at RR
    rw [Dir.turnE_ref hG] at RT
    rw [hG] at HS
    obtain ⟨i, en⟩ := e
    clear h1 h2 h3 hG
    generalize Dir.addE b ⟨i, en⟩ = EA at *
    generalize Dir.namedE b nm = ER at *
    generalize Dir.turnE b nm to = ET at *
    go_enter Try.func6, Try.ntmps6
    go_wp2_with fail
    refine (long_calls _ _ _ _).mono ?_
    rintro e w_ ⟨rfl, rfl⟩
    rw [g2]
    go_wp2_with fail
    refine (HS.out _ HX0.out).mono ?_
    rintro e w1 ⟨⟨v1, rfl, ho1⟩, hb⟩
    obtain ⟨al, cl, rfl, _⟩ := ho1.form
    have HM1 := Lib.hid (ho1.arr (by have := HSN.out; have := HCN.out; omega))
    have HB1 := Lib.hid (HB0.out.then_ hb)
    have HX1 := Lib.hid (HX0.out.on hb)
    have e1 := HE0.out.belowHere hb
    have HE1 := Lib.hid e1
    have e10 := e1.cellv (i := 0) rfl
    have e11 := e1.cellv (i := 1) rfl
    clear hb e1 ho1
    go_wp2_with fail
    refine (HA.out _ HX1.out).mono ?_
    rintro e w2 ⟨⟨v2, ya, rfl, ho, hay, han⟩, hb⟩
    obtain ⟨a2, c2, rfl, hc2⟩ := ho.form
    have HO2 := Lib.hid ho
    have HM2 := Lib.hid (HM1.out.on hb)
    have HB2 := Lib.hid (HB1.out.then_ hb)
    have HX2 := Lib.hid (HX1.out.on hb)
    have HE2 := Lib.hid (HE1.out.belowHere hb)
    have HAY := Lib.hid hay
    have HAN := Lib.hid han
    clear hb ho hay han
    go_wp2_with fail
    refine (HR.out _ HX2.out).mono ?_
    rintro e w3 ⟨⟨v3, yr, rfl, ho, hry, hrn⟩, hb⟩
    obtain ⟨a3, c3, rfl, hc3⟩ := ho.form
    have HP3 := Lib.hid ho
    have HO3 := Lib.hid (HO2.out.on hb)
    have HM3 := Lib.hid (HM2.out.on hb)
    have HB3 := Lib.hid (HB2.out.then_ hb)
    have HX3 := Lib.hid (HX2.out.on hb)
    have HE3 := Lib.hid (HE2.out.belowHere hb)
    have HRY := Lib.hid hry
    have HRN := Lib.hid hrn
    clear hb ho hry hrn
    go_wp2_with fail
    refine (HT.out _ HX3.out).mono ?_
    rintro e w4 ⟨⟨v4, yt, rfl, ho, hty, htn⟩, hb⟩
    obtain ⟨a4, c4, rfl, hc4⟩ := ho.form
    have HQ4 := Lib.hid ho
    have HP4 := Lib.hid (HP3.out.on hb)
    have HO4 := Lib.hid (HO3.out.on hb)
    have HM4 := Lib.hid (HM3.out.on hb)
    have HB4 := Lib.hid (HB3.out.then_ hb)
    have e4 := HE3.out.belowHere hb
    have HE4 := Lib.hid e4
    have e40 := e4.cellv (i := 0) rfl
    have e41 := e4.cellv (i := 1) rfl
    have HTY := Lib.hid hty
    have HTN := Lib.hid htn
    clear hb ho hty htn e4 e10 e11
    go_wp2_with fail
    refine (RA.out _ _ _ HM4.out).mono ?_
    rintro e w5 ⟨⟨v5, xa, rfl, ho, hxy, hxn⟩, hb⟩
    obtain ⟨a5, c5, rfl, hc5⟩ := ho.form
    have MA := Lib.hid (KA.out xa ya hxy hxn HAY.out HAN.out)
    have HU5 := Lib.hid ho
    have HQ5 := Lib.hid (HQ4.out.on hb)
    have HP5 := Lib.hid (HP4.out.on hb)
    have HO5 := Lib.hid (HO4.out.on hb)
    have HM5 := Lib.hid (HM4.out.on hb)
    have HB5 := Lib.hid (HB4.out.then_ hb)
    clear hb ho hxy hxn e40 e41
    go_wp2_with fail
    refine (RR.out _ _ _ HM5.out).mono ?_
    rintro e w6 ⟨⟨v6, xr, rfl, ho, hxy, hxn⟩, hb⟩
    obtain ⟨a6, c6, rfl, hc6⟩ := ho.form
    have MR := Lib.hid (KR.out xr yr hxy hxn HRY.out HRN.out)
    have HV6 := Lib.hid ho
    have HU6 := Lib.hid (HU5.out.on hb)
    have HQ6 := Lib.hid (HQ5.out.on hb)
    have HP6 := Lib.hid (HP5.out.on hb)
    have HO6 := Lib.hid (HO5.out.on hb)
    have HM6 := Lib.hid (HM5.out.on hb)
    have HB6 := Lib.hid (HB5.out.then_ hb)
    clear hb ho hxy hxn
    go_wp2_with fail
    refine (RT.out _ _ _ HM6.out).mono ?_
    rintro e w7 ⟨⟨v7, xt, rfl, ho, hxy, hxn⟩, hb⟩
    obtain ⟨a7, c7, rfl, hc7⟩ := ho.form
    have MT := Lib.hid (KT.out xt yt hxy hxn HTY.out HTN.out)
    have HW7 := Lib.hid ho
    have HV7 := Lib.hid (HV6.out.on hb)
    have HU7 := Lib.hid (HU6.out.on hb)
    have HQ7 := Lib.hid (HQ6.out.on hb)
    have HP7 := Lib.hid (HP6.out.on hb)
    have HO7 := Lib.hid (HO6.out.on hb)
    have HB7 := Lib.hid (HB6.out.then_ hb)
    clear hb ho hxy hxn
    have g6 : (EA == EA) = true := by simp
    have g7 : (ER == ER) = true := by simp
    have g8 : (ET == ET) = true := by simp
    go_wp2_with fail
    refine (refBytes_calls a5 xa.length c5 xa w7 (HU7.out.arr (by have := MA.out.2.2; have := HCN.out; omega)) hc5 (by have := MA.out.2.2; have := HCN.out; omega) MA.out.2.1).mono ?_
    rintro e w8 ⟨⟨v8, t8, rfl, ht8, ho⟩, hb⟩
    have hfl8 := Dir.flatE_len (xa.take t8)
    have hbl8 : (xa.take t8).length ≤ 2000 := by rw [List.length_take]; have := MA.out.2.2; have := HCN.out; omega
    rw [MA.out.1 t8 ht8] at ho hfl8
    obtain ⟨a8, c8, rfl, _⟩ := ho.form
    have HSM8 := Lib.hid (same_yes a2 a8 ya.length c2 ya.length c8 ya w8 ((HO7.out.on hb).arr (by omega)) (ho.arr (by omega)))
    have HB8 := Lib.hid (HB7.out.then_ hb)
    have HW8 := Lib.hid (HW7.out.on hb)
    have HV8 := Lib.hid (HV7.out.on hb)
    have HQ8 := Lib.hid (HQ7.out.on hb)
    have HP8 := Lib.hid (HP7.out.on hb)
    clear hb ho ht8 hfl8 hbl8
    go_wp2_with fail
    refine HSM8.out.mono ?_
    rintro e w_ ⟨rfl, rfl⟩
    go_wp2_with fail
    refine (refBytes_calls a6 xr.length c6 xr w8 (HV8.out.arr (by have := MR.out.2.2; have := HCN.out; omega)) hc6 (by have := MR.out.2.2; have := HCN.out; omega) MR.out.2.1).mono ?_
    rintro e w9 ⟨⟨v9, t9, rfl, ht9, ho⟩, hb⟩
    have hfl9 := Dir.flatE_len (xr.take t9)
    have hbl9 : (xr.take t9).length ≤ 2000 := by rw [List.length_take]; have := MR.out.2.2; have := HCN.out; omega
    rw [MR.out.1 t9 ht9] at ho hfl9
    obtain ⟨a9, c9, rfl, _⟩ := ho.form
    have HSM9 := Lib.hid (same_yes a3 a9 yr.length c3 yr.length c9 yr w9 ((HP8.out.on hb).arr (by omega)) (ho.arr (by omega)))
    have HB9 := Lib.hid (HB8.out.then_ hb)
    have HW9 := Lib.hid (HW8.out.on hb)
    have HQ9 := Lib.hid (HQ8.out.on hb)
    clear hb ho ht9 hfl9 hbl9
    go_wp2_with fail
    refine HSM9.out.mono ?_
    rintro e w_ ⟨rfl, rfl⟩
    go_wp2_with fail
    refine (refBytes_calls a7 xt.length c7 xt w9 (HW9.out.arr (by have := MT.out.2.2; have := HCN.out; omega)) hc7 (by have := MT.out.2.2; have := HCN.out; omega) MT.out.2.1).mono ?_
    rintro e w10 ⟨⟨v10, t10, rfl, ht10, ho⟩, hb⟩
    have hfl10 := Dir.flatE_len (xt.take t10)
    have hbl10 : (xt.take t10).length ≤ 2000 := by rw [List.length_take]; have := MT.out.2.2; have := HCN.out; omega
    rw [MT.out.1 t10 ht10] at ho hfl10
    obtain ⟨a10, c10, rfl, _⟩ := ho.form
    have HSM10 := Lib.hid (same_yes a4 a10 yt.length c4 yt.length c10 yt w10 ((HQ9.out.on hb).arr (by omega)) (ho.arr (by omega)))
    have HB10 := Lib.hid (HB9.out.then_ hb)
    clear hb ho ht10 hfl10 hbl10
    go_wp2_with fail
    refine HSM10.out.mono ?_
    rintro e w_ ⟨rfl, rfl⟩
    go_wp2_with fail
    refine (known_calls _).mono ?_
    rintro e wk ⟨rfl, hbk⟩
    go_wp2
    go_ret
    exact ⟨rfl, HB10.out.then_ hbk⟩
end Go.Proofs.Ytlnomkkamopieaa
