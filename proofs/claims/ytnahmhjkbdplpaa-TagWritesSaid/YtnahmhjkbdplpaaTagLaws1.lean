/-
  The walks of the laws TagReads and TagWrites.
-/
import Derived.Test.YtnahmhjkbdplpaaTagTop
import Derived.Test.YtnahmhjkbdplpaaTagRead2
namespace Go.Proofs.Ytnahmhjkbdplpaa
open Go.RowKit

set_option maxHeartbeats 4000000 in
theorem tagReads_walk (a : Option Addr) (n c : Nat) (xs : List UInt8) (w : World) (hx : Bytes w w.heap.size a n xs) (hnc : n ≤ c) (_ : c ≤ 140737488351232) :
    Calls Try.prog 4 #[.slice a n c] w fun e w' => e = .returned (.bool true) ∧ Below w.heap.size w w' := by
  by_cases hl : 2000 < n
  · have hd : decide (2000 < n) = true := decide_eq_true hl
    go_enter Try.func4, Try.ntmps4
    go_wp2_with fail
    refine (tlong_calls _ _ _ _).mono ?_
    rintro e w_ ⟨rfl, rfl⟩
    rw [hd]
    go_wp2_with fail
    refine (tknown_calls _).mono ?_
    rintro e wk ⟨rfl, hbk⟩
    go_wp2
    go_ret
    exact ⟨rfl, hbk⟩
  have hd : decide (2000 < n) = false := decide_eq_false hl
  have HX := Lib.hid hx
  clear hx hl
  go_enter Try.func4, Try.ntmps4
  go_wp2_with fail
  refine (tlong_calls _ _ _ _).mono ?_
  rintro e w_ ⟨rfl, rfl⟩
  rw [hd]
  clear hd
  go_wp2_with fail
  refine (tread_calls a n c xs _ HX.out hnc).mono ?_
  rintro e w1 ⟨a1, n1, c1, rfl, hx1, hc1, hb⟩
  have HX1 := Lib.hid hx1
  have HB1 := Lib.hid hb
  have hs1 := hb.size
  clear hx1 hb
  generalize ht : Tg.readT xs = t at *
  have HT := Lib.hid ht
  clear ht
  obtain ⟨k, p, s, e⟩ := t
  have bt := Lib.hid (Blk.new w1 25 #[.int .i64 k, .int .u32 p, .int .u64 s, .int .u64 e])
  have hb2 := (Below.refl w1.heap.size w1).alloc (Nat.le_refl _) (.cells #[.int .i64 k, .int .u32 p, .int .u64 s, .int .u64 e] 25)
  have HB2 := Lib.hid (Below.then_ HB1.out hb2)
  have HX2 := Lib.hid (HX1.out.on hb2)
  have HXx := Lib.hid (HX.out.on HB2.out)
  clear hb2
  go_wp2_with fail
  refine (refTRead_calls a n c xs _ HXx.out hnc).mono ?_
  rintro _ w3 ⟨a3, n3, c3, rfl, hx3, hc3, hb⟩
  rw [HT.out]
  have BT3 := Lib.hid (bt.out.belowHere hb)
  have HB3 := Lib.hid (HB2.out.trans (hb.mono HB2.out.size))
  have HX3 := Lib.hid (HX2.out.on hb)
  have HY3 := Lib.hid hx3
  clear hx3 hb bt
  have c0 := BT3.out.cellv (i := 0) rfl
  have c1' := BT3.out.cellv (i := 1) rfl
  have c2 := BT3.out.cellv (i := 2) rfl
  have c3' := BT3.out.cellv (i := 3) rfl
  have hlt := BT3.out.lt
  go_wp2_with fail
  refine (same_yes _ _ _ _ _ _ _ _ (HX3.out.alloc _) (HY3.out.alloc _)).mono ?_
  rintro _ w4 ⟨rfl, rfl⟩
  go_wp2_with fail
  refine (tknown_calls _).mono ?_
  rintro _ wk ⟨rfl, hbk⟩
  have HBk := Lib.hid hbk
  have HB4 := Lib.hid (HB3.out.alloc HB3.out.size (.cells #[.int .i64 k, .int .u32 p, .int .u64 s, .int .u64 e] 25))
  clear hbk
  go_wp2
  go_ret
  exact ⟨rfl, Below.then_ HB4.out HBk.out⟩

set_option maxHeartbeats 8000000 in
theorem tagWrites_walk (t : Tg) (a : Option Addr) (n c : Nat) (xs : List UInt8) (w : World) (ht : Tg.Ok t) (hx : Bytes w w.heap.size a n xs) (hnc : n ≤ c) (_ : c ≤ 140737488351232) :
    Calls Try.prog 3 #[tagV t, .slice a n c] w fun e w' => e = .returned (.bool true) ∧ Below w.heap.size w w' := by
  have hbl := Lib.hid ((Below.refl w.heap.size w).alloc (Nat.le_refl _) (tagO t))
  by_cases hl : 2000 < n
  · have hd : decide (2000 < n) = true := decide_eq_true hl
    go_enter Try.func3, Try.ntmps3
    go_wp2_with fail
    refine (tlong_calls _ _ _ _).mono ?_
    rintro e w_ ⟨rfl, rfl⟩
    rw [hd]
    go_wp2_with fail
    refine (tknown_calls _).mono ?_
    rintro e wk ⟨rfl, hbk⟩
    go_wp2
    go_ret
    exact ⟨rfl, Below.then_ hbl.out hbk⟩
  have hd : decide (2000 < n) = false := decide_eq_false hl
  have HX := Lib.hid hx
  have HT := Lib.hid ht
  have HTp := Lib.hid ht.1
  have HTs := Lib.hid ht.2.1
  have HTe := Lib.hid ht.2.2
  clear hx hl ht
  have bt := Blk.new w 25 #[.int .i64 t.k, .int .u32 t.p, .int .u64 t.s, .int .u64 t.e]
  have BT := Lib.hid bt
  clear bt
  have HX1 := Lib.hid (HX.out.alloc (tagO t))
  go_enter Try.func3, Try.ntmps3
  go_wp2_with fail
  refine (tlong_calls _ _ _ _).mono ?_
  rintro e w_ ⟨rfl, rfl⟩
  rw [hd]
  clear hd
  go_wp2_with fail
  refine (twrite_calls t a n c xs _ HT.out HX1.out).mono ?_
  rintro e w1 ⟨v1, rfl, ho, hb⟩
  have HB1 := Lib.hid (Below.then_ hbl.out hb)
  have BT1 := Lib.hid (BT.out.belowHere hb)
  have HX2 := Lib.hid (HX1.out.on hb)
  obtain ⟨a1, c1, rfl, hc1⟩ := ho.form
  have hw1 : (Tg.writeL t xs).length ≤ 1000 := by
    unfold Tg.writeL
    split
    · rename_i h; rw [Tg.page_len]; have := h.2; unfold Tg.Fits at this; omega
    · simp
  have HO1 := Lib.hid (ho.arr (by omega))
  clear ho hb hbl HX1 BT
  have c0 := BT1.out.cellv (i := 0) rfl
  have d1 := BT1.out.cellv (i := 1) rfl
  have d2 := BT1.out.cellv (i := 2) rfl
  have d3 := BT1.out.cellv (i := 3) rfl
  go_wp2_with fail
  refine (refTWrite_calls t a n c xs _ HT.out HX2.out).mono ?_
  rintro e w2 ⟨v2, rfl, ho, hb⟩
  have HB2 := Lib.hid (Below.then_ HB1.out hb)
  have BT2 := Lib.hid (BT1.out.belowHere hb)
  obtain ⟨a2, c2, rfl, hc2⟩ := ho.form
  have HP2 := Lib.hid (HO1.out.on hb)
  have HO2 := Lib.hid (ho.arr (by omega))
  clear ho hb c0 d1 d2 d3 HX2
  generalize (Tg.writeL t xs).length = L at *
  generalize Tg.writeL t xs = page at *
  generalize Tg.writeE t xs = er at *
  have c0 := BT2.out.cellv (i := 0) rfl
  have d1 := BT2.out.cellv (i := 1) rfl
  have d2 := BT2.out.cellv (i := 2) rfl
  have d3 := BT2.out.cellv (i := 3) rfl
  go_wp2_with fail
  have hlt := BT2.out.lt
  refine wp_region_noPanic ?_
  refine wp_region_held_drew (S := (fun W' => Below w2.heap.size w2 W')) (by kernel_rfl) (Below.refl _ _).drew (fun hS0 => ?_)
  refine takeV 0 (v := (tagV t)) rfl (by kernel_rfl) (by kernel_rfl) (by kernel_rfl) (fun _ _ _ h => h) (by rfl) (fun W hSw => ?_) (by assumption) ?_
  · have e0 := (hSw.cell (p := ⟨w.heap.size, 0, none⟩) hlt).trans c0; have e1 := (hSw.cell (p := ⟨w.heap.size, 1, none⟩) hlt).trans d1; have e2 := (hSw.cell (p := ⟨w.heap.size, 2, none⟩) hlt).trans d2; have e3 := (hSw.cell (p := ⟨w.heap.size, 3, none⟩) hlt).trans d3
    go_simp
  try simp only [layR]
  refine takeV 2 (v := (tagV t)) rfl (by kernel_rfl) (by kernel_rfl) (by kernel_rfl) (fun _ _ _ h => h) (by rfl) (fun W hSw => ?_) (by assumption) ?_
  · have e0 := (hSw.cell (p := ⟨w.heap.size, 0, none⟩) hlt).trans c0; have e1 := (hSw.cell (p := ⟨w.heap.size, 1, none⟩) hlt).trans d1; have e2 := (hSw.cell (p := ⟨w.heap.size, 2, none⟩) hlt).trans d2; have e3 := (hSw.cell (p := ⟨w.heap.size, 3, none⟩) hlt).trans d3
    go_simp
  try simp only [layR]
  clear c0 d1 d2 d3
  refine wpAnyH_ready (rs := [1]) (by kernel_rfl) (by simp) ?_
  refine AllReadyH.cons rfl (fun K' hK => ?_) AllReadyH.nil
  go_simp
  refine (tagRight_calls t HTp.out HTs.out HTe.out _).mono ?_
  rintro _ w3 ⟨rfl, hb⟩
  have hS1 := Below.then_ hS0 hb
  clear hb hS0
  refine hK.out _ _ hS1 (fun hS0 => ?_)
  try simp only [layR]
  clear hS1
  refine wpAnyH_ready (rs := [3]) (by kernel_rfl) (by simp) ?_
  refine AllReadyH.cons rfl (fun K' hK => ?_) AllReadyH.nil
  go_simp
  refine (refTagRight_calls t HTp.out HTs.out HTe.out _).mono ?_
  rintro _ w4 ⟨rfl, hb⟩
  have hS1 := Below.then_ hS0 hb
  clear hb hS0
  refine hK.out _ _ hS1 (fun hS0 => ?_)
  try simp only [layR]
  clear hS1
  refine takeV 4 (v := .bool true) rfl (by kernel_rfl) (by kernel_rfl) (by kernel_rfl) (fun _ _ _ h => h) (by rfl) (fun W hSw => ?_) (by assumption) ?_
  · go_simp
  try simp only [layR]
  refine takeV 5 (v := .bool true) rfl (by kernel_rfl) (by kernel_rfl) (by kernel_rfl) (fun _ _ _ h => h) (by rfl) (fun _ _ => rfl) (by assumption) ?_
  try simp only [layR]
  refine takeV 6 (v := .slice a1 L c1) rfl (by kernel_rfl) (by kernel_rfl) (by kernel_rfl) (fun _ _ _ h => h) (by rfl) (fun _ _ => rfl) (by assumption) ?_
  try simp only [layR]
  refine takeV 7 (v := .slice a2 L c2) rfl (by kernel_rfl) (by kernel_rfl) (by kernel_rfl) (fun _ _ _ h => h) (by rfl) (fun _ _ => rfl) (by assumption) ?_
  try simp only [layR]
  refine wpAnyH_ready (rs := [8]) (by kernel_rfl) (by simp) ?_
  refine AllReadyH.cons rfl (fun K' hK => ?_) AllReadyH.nil
  go_simp
  refine (same_yes _ _ _ _ _ _ _ _ (HP2.out.on hS0) (HO2.out.on hS0)).mono ?_
  rintro _ w5 ⟨rfl, rfl⟩
  refine hK.out _ _ hS0 (fun hS1 => ?_)
  try simp only [layR]
  clear hS1
  refine takeV 9 (v := .bool true) rfl (by kernel_rfl) (by kernel_rfl) (by kernel_rfl) (fun _ _ _ h => h) (by rfl) (fun _ _ => rfl) (by assumption) ?_
  try simp only [layR]
  refine takeV 10 (v := .bool true) rfl (by kernel_rfl) (by kernel_rfl) (by kernel_rfl) (fun _ _ _ h => h) (by rfl) (fun _ _ => rfl) (by assumption) ?_
  try simp only [layR]
  refine takeV 11 (v := .int .i64 er) rfl (by kernel_rfl) (by kernel_rfl) (by kernel_rfl) (fun _ _ _ h => h) (by rfl) (fun _ _ => rfl) (by assumption) ?_
  try simp only [layR]
  refine takeV 12 (v := .int .i64 er) rfl (by kernel_rfl) (by kernel_rfl) (by kernel_rfl) (fun _ _ _ h => h) (by rfl) (fun _ _ => rfl) (by assumption) ?_
  try simp only [layR]
  refine takeV 13 (v := .bool true) rfl (by kernel_rfl) (by kernel_rfl) (by kernel_rfl) (fun _ _ _ h => h) (by rfl) (fun W hSw => ?_) (by assumption) ?_
  · go_simp
  try simp only [layR]
  refine takeV 14 (v := .bool true) rfl (by kernel_rfl) (by kernel_rfl) (by kernel_rfl) (fun _ _ _ h => h) (by rfl) (fun _ _ => rfl) (by assumption) ?_
  try simp only [layR]
  refine takeV 15 (v := .bool true) rfl (by kernel_rfl) (by kernel_rfl) (by kernel_rfl) (fun _ _ _ h => h) (by rfl) (fun _ _ => rfl) (by assumption) ?_
  try simp only [layR]
  refine wpAnyH_ready (rs := [16]) (by kernel_rfl) (by simp) ?_
  refine AllReadyH.cons rfl (fun K' hK => ?_) AllReadyH.nil
  go_simp
  refine (tknown_calls _).mono ?_
  rintro _ w6 ⟨rfl, hb⟩
  have hS1 := Below.then_ hS0 hb
  clear hb hS0
  refine hK.out _ _ hS1 (fun hS0 => ?_)
  try simp only [layR]
  clear hS1
  refine takeV 17 (v := .bool true) rfl (by kernel_rfl) (by kernel_rfl) (by kernel_rfl) (fun _ _ _ h => h) (by rfl) (fun _ _ => rfl) (by assumption) ?_
  try simp only [layR]
  refine takeV 18 (v := .bool true) rfl (by kernel_rfl) (by kernel_rfl) (by kernel_rfl) (fun _ _ _ h => h) (by rfl) (fun _ _ => rfl) (by assumption) ?_
  try simp only [layR]
  refine wpAnyH_done (by kernel_rfl) ?_ _
  refine NoPanic.normal ?_
  go_wp2
  go_ret
  exact ⟨rfl, Below.then_ HB2.out hS0⟩
end Go.Proofs.Ytnahmhjkbdplpaa
