import Derived.WalkMore
import Derived.Deep.DeepCutAuto
import Derived.Test.YtcppkaphlcflgaaGreatDirCopy2
import Derived.Test.YtcppkaphlcflgaaGreatChFault
import Derived.Test.YtcppkaphlcflgaaGreatInoPoint2
import Derived.Lib.SliceRun
namespace Go.Proofs.YtcppkaphlcflgaaGreat
open Lib (hid)
set_option maxRecDepth 100000
set_option maxHeartbeats 16000000
section
open Go.RowKit

theorem there_calls (base N0 C BL P K nx : Nat) (x : Cn) (ls : Nat → Option (List UInt8)) (fs : List Fl) (w : World) (h : Chp base N0 w C BL P K x nx ls fs) :
  Calls Tryz.prog 107 #[.pointer (some ⟨C, 0, none⟩), .int .i64 (K : Int)] w fun e w' => e = .returned (.bool true) ∧ w = w' := by
 have c3 := h.c3
 have g1 : (0 : Int) ≤ (K : Int) := by omega
 have g2 : decide ((K : Int) < 16) = true := decide_eq_true (by have := h.hK; omega)
 have g3 : (K : Int) < 16 := by have := h.hK; omega
 clear h
 go_enter Tryz.func107, Tryz.ntmps107
 go_wp2
 go_ret
 exact ⟨rfl, rfl⟩
theorem full_calls (base N0 C BL P K nx : Nat) (x : Cn) (ls : Nat → Option (List UInt8)) (fs : List Fl) (w : World) (h : Chp base N0 w C BL P K x nx ls fs) :
  Calls Tryz.prog 89 #[.pointer (some ⟨C, 0, none⟩)] w fun e w' => e = .returned (.int .i64 96) ∧ w = w' := by
 have c2 := h.c2
 clear h
 go_enter Tryz.func89, Tryz.ntmps89
 go_wp2
 go_ret
 exact ⟨rfl, rfl⟩
theorem asked_calls (base N0 C BL P K nx i : Nat) (x : Cn) (ls : Nat → Option (List UInt8)) (fs : List Fl) (w : World) (h : Chp base N0 w C BL P K x nx ls fs) (hd : x.dn = false) (hi : i < 8) :
  Calls Tryz.prog 88 #[.pointer (some ⟨C, 0, none⟩), .int .i64 (K : Int), .int .i64 (i : Int)] w fun e w' => e = .returned (.int .i64 0) ∧ w = w' := by
 have c1 := h.c1
 have c6 := h.c6
 rw [hd] at c6
 have HT := hid (there_calls base N0 C BL P K nx x ls fs w h)
 have g1 : decide ((i : Int) < 0) = false := decide_eq_false (by omega)
 have g2 : (i : Int) < 8 := by omega
 clear h hd
 go_enter Tryz.func88, Tryz.ntmps88
 go_wp2_with fail
 refine (HT.out).mono ?_
 rintro e w_ ⟨rfl, rfl⟩
 go_wp2
 go_ret
 exact ⟨rfl, rfl⟩
end
section
open Go.RowKit

def fnd (fs : List Fl) (k : Nat) : Fl := (fs.find? fun f => f.no == (k : Int)).getD ⟨0, 0, []⟩
theorem fnd_no {fs : List Fl} {k : Nat} {rows : List Fv} (hl : rows.length = fs.length) (h3 : ∀ i (h1 : i < rows.length) (h2 : i < fs.length), rows[i].no = fs[i].no) (h : ∀ j (h : j < rows.length), rows[j].no ≠ (k : Int)) : fnd fs k = ⟨0, 0, []⟩ := by
 unfold fnd
 rw [List.find?_eq_none.2]
 ·rfl
 ·intro f hf
  obtain ⟨i, hi, rfl⟩ := List.getElem_of_mem hf
  rw [← h3 i (by omega) hi]
  simpa using h i (by omega)
theorem fnd_yes {fs : List Fl} {k q : Nat} {rows : List Fv} (hq : q < rows.length) (hl : rows.length = fs.length) (h3 : ∀ i (h1 : i < rows.length) (h2 : i < fs.length), rows[i].no = fs[i].no) (h : ∀ j (h : j < rows.length), j < q → rows[j].no ≠ (k : Int)) (he : rows[q].no = (k : Int)) : fnd fs k = fs[q]'(by omega) := by
 unfold fnd
 rw [List.find?_eq_some_iff_getElem.2 ⟨by rw [← h3 q hq (by omega), he]; simp, q, by omega, rfl, fun j hj => by rw [← h3 j (by omega) (by omega)]; simpa using h j (by omega) hj⟩]
 rfl
theorem fault_calls (base N0 C BL P K nx : Nat) (x : Cn) (ls : Nat → Option (List UInt8)) (fs : List Fl) (w : World) (h : Chp base N0 w C BL P K x nx ls fs) (hsi : x.si ≤ 1000000) (hsk : x.sk ≤ 1000000) (hfl : fs.length ≤ 1000) :
  Calls Tryz.prog 90 #[.pointer (some ⟨C, 0, none⟩)] w fun e w' => (∃ no dv, e = .returned (.agg #[.int .i64 no, .int .i64 (fnd fs x.si).kind, dv]) ∧ Own byteV 5 w' N0 dv (fnd fs x.si).data) ∧ Chp base N0 w' C BL P K { x with si := x.si + 1, sk := x.sk + 1 } nx ls fs ∧ Kp C BL P w w' := by
 have hCl : C < w.heap.size := h.hC.lt
 have h1 := h.on ((Below.refl w.heap.size w).alloc (Nat.le_refl _) (.cells #[.int .i64 0, .int .i64 0, .slice none 0 0] 159))
 have hA := ((h.setC (x' := { x with si := x.si + 1 }) 5 (.int .i64 ((x.si : Int) + 1)) rfl rfl).setC (x' := { x with si := x.si + 1, sk := x.sk + 1 }) 7 (.int .i64 ((x.sk : Int) + 1)) rfl rfl)
 have hBA := ((Kp.refl C BL P w).setCell (p := ⟨C, 5, none⟩) (.inl rfl) (.int .i64 ((x.si : Int) + 1))).setCell (p := ⟨C, 7, none⟩) (.inl rfl) (.int .i64 ((x.sk : Int) + 1))
 have hsA : ((w.setCell ⟨C, 5, none⟩ (.int .i64 ((x.si : Int) + 1))).setCell ⟨C, 7, none⟩ (.int .i64 ((x.sk : Int) + 1))).heap.size = w.heap.size := by simp
 have hw := fun z : Obj => World.setCell_alloc_past (w := w) z C 5 (.int .i64 ((x.si : Int) + 1)) hCl
 have hw' := fun z : Obj => World.setCell_alloc_past (w := w.setCell ⟨C, 5, none⟩ (.int .i64 ((x.si : Int) + 1))) z C 7 (.int .i64 ((x.sk : Int) + 1)) (by simpa using hCl)
 obtain ⟨wA, hwA⟩ : ∃ wA, wA = ((w.setCell ⟨C, 5, none⟩ (.int .i64 ((x.si : Int) + 1))).setCell ⟨C, 7, none⟩ (.int .i64 ((x.sk : Int) + 1))) := ⟨_, rfl⟩
 have hWZ : ((w.alloc (.cells #[.int .i64 0, .int .i64 0, .slice none 0 0] 159)).setCell ⟨C, 5, none⟩ (.int .i64 ((x.si : Int) + 1))).setCell ⟨C, 7, none⟩ (.int .i64 ((x.sk : Int) + 1)) = wA.alloc (.cells #[.int .i64 0, .int .i64 0, .slice none 0 0] 159) := by rw [hw, hw', hwA]
 rw [← hwA] at hA hBA hsA
 obtain ⟨w1, hw1⟩ : ∃ w1, w1 = w.alloc (.cells #[.int .i64 0, .int .i64 0, .slice none 0 0] 159) := ⟨_, rfl⟩
 obtain ⟨g, hg⟩ : ∃ g, g = w.heap.size := ⟨_, rfl⟩
 have hsz1 : w1.heap.size = g + 1 := by rw [hw1, hg]; simp
 rw [← hw1] at h1 hWZ
 have HWZ := hid hWZ
 have HA := hid hA
 have HBA := hid hBA
 have c5 := h1.c5
 have c7 := h1.c7
 have f5 := h1.frzC 5
 have f7 := h1.frzC 7
 have HgA := hid (hg.trans hsA.symm)
 clear h h1 hA hBA hw hw' hwA hWZ hsA
 go_enter Tryz.func90, Tryz.ntmps90
 go_wp2
 rw [← hw1, ← hg]
 clear hw1 hg
 go_step3
 go_wp2_with fail
 rw [HWZ.out]
 clear hsz1 c5 c7 f5 f7
 have H2'' := HA.out.on (((Below.refl wA.heap.size wA).alloc (Nat.le_refl _) (.cells #[.int .i64 0, .int .i64 0, .slice none 0 0] 159)).alloc (by simp) (.cells #[.int .i64 0, .int .i64 0, .slice none 0 0] 159))
 have hBB := ((Below.refl wA.heap.size wA).alloc (Nat.le_refl _) (.cells #[.int .i64 0, .int .i64 0, .slice none 0 0] 159)).alloc (by simp) (.cells #[.int .i64 0, .int .i64 0, .slice none 0 0] 159)
 have RA' := (Blk.new wA 159 #[.int .i64 0, .int .i64 0, .slice none 0 0]).alloc (.cells #[.int .i64 0, .int .i64 0, .slice none 0 0] 159)
 have RB' := Blk.new (wA.alloc (.cells #[.int .i64 0, .int .i64 0, .slice none 0 0] 159)) 159 #[.int .i64 0, .int .i64 0, .slice none 0 0]
 rw [World.size_alloc] at RB'
 rw [← HgA.out] at RA' RB'
 generalize (wA.alloc (.cells #[.int .i64 0, .int .i64 0, .slice none 0 0] 159)).alloc (.cells #[.int .i64 0, .int .i64 0, .slice none 0 0] 159) = w2 at *
 obtain ⟨rows, r1, r2, r3⟩ := HA.out.hF
 obtain ⟨n, hn⟩ : ∃ n, n = rows.length := ⟨_, rfl⟩
 obtain ⟨a, c, hfv, hnc⟩ := r1.formN hn.symm
 have c4 : w2.cell? ⟨C, 4, none⟩ = some (.slice a n c) := by rw [← hfv]; exact H2''.c4
 have hn1 : n ≤ 1000 := by omega
 have HBB := hid hBB
 have HRw := hid r1
 have HRn := hid hn
 have HFe := hid r3
 have HFl := hid r2
 have HFv := hid hfv
 have RA := hid RA'
 have RB := hid RB'
 obtain ⟨g2, hg2⟩ : ∃ g2, g2 = g + 1 := ⟨_, rfl⟩
 rw [← hg2] at RB ⊢
 have hne : g ≠ g2 := by omega
 have hgC : g ≠ C := by have := HgA.out; have := HA.out.hC.lt; omega
 have HG2 := hid hg2
 clear H2'' RA' RB' hBB r1 r2 r3 hn hfv hg2 HWZ
 go_step3
 go_wp2
 go_loopw [6, 31] (fun _ i wr => ∃ q : Nat, q ≤ n ∧ i = .int .i64 q ∧ (∀ j (h : j < rows.length), j < q → rows[j].no ≠ (x.si : Int)) ∧ Below w2.heap.size w2 wr) (fun _ i _ => n - (intOf i).toNat)
 case atStart => exact ⟨0, by omega, rfl, fun j _ h => absurd h (by omega), Below.refl _ _⟩
 case round =>
  obtain ⟨q, hq, rfl, hg0, hb⟩ := hrel
  have HNo := hid hg0
  have HBr := hid hb
  clear hg0 hb
  by_cases hlt : q < n
  ·have hqr : q < rows.length := by rw [← HRn.out]; exact hlt
   have k0 : (0 : Int) ≤ (q : Int) := by omega
   have k1 : (q : Int) < (n : Int) := by omega
   obtain ⟨g3, c3, hv3, _, hN3, hg3⟩ := HRw.out.form_some (by omega)
   rw [HFv.out] at hv3
   injection hv3 with e1 e2 e3
   subst e1
   clear e2 e3
   have hrw := HRw.out.on (HBB.out.then_ HBr.out)
   rw [HFv.out] at hrw
   have d0 : wr.cell? ⟨g3, q * 3, none⟩ = some (.int .i64 rows[q].no) := (hrw.cellg (i := q) (j := 0) hqr (by omega)).1
   have d1 : wr.cell? ⟨g3, q * 3 + 1, none⟩ = some (.int .i64 rows[q].kind) := (hrw.cellg (i := q) (j := 1) hqr (by omega)).1
   have d2 : wr.cell? ⟨g3, q * 3 + 2, none⟩ = some rows[q].data := (hrw.cellg (i := q) (j := 2) hqr (by omega)).1
   clear hrw
   have hqf : q < fs.length := by rw [← HFl.out]; exact hqr
   obtain ⟨ad, nd, hdv, _⟩ := (HFe.out q hqr hqf).2.2.form
   have HDa := hid (HFe.out q hqr hqf)
   have HDv := hid hdv
   rw [hdv] at d2
   clear hdv
   by_cases he : rows[q].no = (x.si : Int)
   ·have g9 : (rows[q].no == (x.si : Int)) = true := by simpa using he
    have HY := hid (fnd_yes hqr HFl.out (fun i a b => (HFe.out i a b).1) HNo.out he)
    rw [he] at d0
    have HKd := hid (show rows[q].kind = (fs[q]).kind from HDa.out.2.1)
    generalize rows[q].kind = kd at *
    generalize (fs[q]).data.length = nl at *
    have hba := (Below.refl wr.heap.size wr).alloc (Nat.le_refl _) (.cells #[.int .i64 (x.si : Int), .int .i64 kd, .slice ad nl nd] 159)
    have hbb := HBr.out.then_ hba
    have RFa := Blk.new wr 159 #[.int .i64 (x.si : Int), .int .i64 kd, .slice ad nl nd]
    obtain ⟨wf, hwf⟩ : ∃ wf, wf = wr.alloc (.cells #[.int .i64 (x.si : Int), .int .i64 kd, .slice ad nl nd] 159) := ⟨_, rfl⟩
    go_upto_region 9 with fail
    rw [← hwf] at hbb RFa ⊢
    obtain ⟨gf, hgf⟩ : ∃ gf, gf = wr.heap.size := ⟨_, rfl⟩
    rw [← hgf] at RFa ⊢
    have RBa := RB.out.belowHere hbb
    have RAa := RA.out.belowHere hbb
    have v0 := RFa.cellv (i := 0) rfl
    have v1 := RFa.cellv (i := 1) rfl
    have v2 := RFa.cellv (i := 2) rfl
    have e0 := RBa.cellv (i := 0) rfl
    have e1 := RBa.cellv (i := 1) rfl
    have e2 := RBa.cellv (i := 2) rfl
    have l0 := RBa.frozen 0
    have l1 := RBa.frozen 1
    have l2 := RBa.frozen 2
    have i0 := RAa.cellv (i := 0) rfl
    have i1 := RAa.cellv (i := 1) rfl
    have i2 := RAa.cellv (i := 2) rfl
    have j0 := RAa.frozen 0
    have j1 := RAa.frozen 1
    have j2 := RAa.frozen 2
    have HBa := hid (HBB.out.then_ hbb)
    clear hba hbb RFa RBa RAa hwf hgf d0 d1 d2 he
    go_wp2
    have hB1 := ((HBa.out.setCell (p := ⟨g2, 0, none⟩) (show wA.heap.size ≤ g2 by have := HgA.out; have := HG2.out; omega) (.int .i64 (x.si : Int))).setCell (p := ⟨g2, 1, none⟩) (show wA.heap.size ≤ g2 by have := HgA.out; have := HG2.out; omega) (.int .i64 kd)).setCell (p := ⟨g2, 2, none⟩) (show wA.heap.size ≤ g2 by have := HgA.out; have := HG2.out; omega) (.slice ad nl nd)
    have hB2 := ((hB1.setCell (p := ⟨g, 0, none⟩) (show wA.heap.size ≤ g by have := HgA.out; omega) (.int .i64 (x.si : Int))).setCell (p := ⟨g, 1, none⟩) (show wA.heap.size ≤ g by have := HgA.out; omega) (.int .i64 kd)).setCell (p := ⟨g, 2, none⟩) (show wA.heap.size ≤ g by have := HgA.out; omega) (.slice ad nl nd)
    rw [Exit.noGoto_ret]
    refine bodyPost_ret (v := .agg #[.int .i64 (x.si : Int), .int .i64 kd, .slice ad nl nd]) (by simp [results, Tryz.results90, go_sem, *]) rfl ⟨⟨_, _, by rw [HY.out, HKd.out], ?_⟩, HA.out.on hB2, HBA.out.on hB2⟩
    rw [HY.out]
    have hd := HDa.out.2.2.on hB2
    rw [HDv.out] at hd
    exact hd
   ·have g9 : (rows[q].no == (x.si : Int)) = false := by simpa using he
    have HNo2 := hid (show ∀ j (h : j < rows.length), j < q + 1 → rows[j].no ≠ (x.si : Int) from fun j h hj => by
     by_cases e : j = q
     ·subst e; exact he
     ·exact HNo.out j h (by omega))
    have HQ := hid hlt
    clear he
    go_wp2
    go_roundw
    case rel => exact ⟨q + 1, HQ.out, by go_num, HNo2.out, HBr.out.alloc HBr.out.size _⟩
    case measure => have := HQ.out; simp [intOf]; omega
  ·obtain rfl : q = n := by omega
   have HNF := hid (fnd_no HFl.out (fun i a b => (HFe.out i a b).1) (fun j h => HNo.out j h (by rw [HRn.out]; exact h)))
   have RBa := RB.out.belowHere HBr.out
   have RAa := RA.out.belowHere HBr.out
   have e0 := RBa.cellv (i := 0) rfl
   have e1 := RBa.cellv (i := 1) rfl
   have e2 := RBa.cellv (i := 2) rfl
   have i0 := RAa.cellv (i := 0) rfl
   have i1 := RAa.cellv (i := 1) rfl
   have i2 := RAa.cellv (i := 2) rfl
   have j0 := RAa.frozen 0
   have j1 := RAa.frozen 1
   have j2 := RAa.frozen 2
   clear RBa RAa
   have HBa := hid (HBB.out.then_ HBr.out)
   go_wp2
   have hB2 := ((HBa.out.setCell (p := ⟨g, 0, none⟩) (show wA.heap.size ≤ g by have := HgA.out; omega) (.int .i64 0)).setCell (p := ⟨g, 1, none⟩) (show wA.heap.size ≤ g by have := HgA.out; omega) (.int .i64 0)).setCell (p := ⟨g, 2, none⟩) (show wA.heap.size ≤ g by have := HgA.out; omega) (.slice none 0 0)
   rw [Exit.noGoto_ret]
   refine bodyPost_ret (v := .agg #[.int .i64 0, .int .i64 0, .slice none 0 0]) (by simp [results, Tryz.results90, go_sem, *]) rfl ⟨⟨_, _, by rw [HNF.out], ?_⟩, HA.out.on hB2, HBA.out.on hB2⟩
   rw [HNF.out]
   exact Own.nil _ _
end
section
open Go.RowKit

end
section
open Go.RowKit

def onesK (n k : Nat) : List UInt8 := List.replicate k 255 ++ List.replicate (n - k) 0
theorem onesK_len {n k : Nat} (h : k ≤ n) : (onesK n k).length = n := by simp [onesK]; omega
theorem onesK_zero (n : Nat) : onesK n 0 = List.replicate n 0 := by simp [onesK]
theorem onesK_all (n : Nat) : onesK n n = List.replicate n 255 := by simp [onesK]
theorem onesK_step {n k : Nat} (h : k < n) : (onesK n k).set k 255 = onesK n (k + 1) := by
 unfold onesK
 rw [List.set_append_right _ _ (by simp), List.length_replicate, Nat.sub_self, show n - k = (n - (k + 1)) + 1 by omega, List.replicate_succ, List.set_cons_zero, List.replicate_succ', List.append_assoc]
 rfl
theorem ones_calls (n : Nat) (w : World) (hn : n ≤ 1000000) :
  Calls Tryz.prog 138 #[.int .i64 (n : Int)] w fun e w' => (∃ v, e = .returned v ∧ Own byteV 5 w' w.heap.size v (List.replicate n 255)) ∧ Below w.heap.size w w' := by
 have hmk := makeZ n (by omega)
 have HO0 := hid (ownMadeZ w w.heap.size n (Nat.le_refl _) (by omega))
 have HB0 := hid ((Below.refl w.heap.size w).alloc (Nat.le_refl _) (.cells (Array.replicate n (.int .u8 0)) 5))
 go_enter Tryz.func138, Tryz.ntmps138
 go_wp2
 clear hmk
 go_loopw [4, 9] (fun _ i wr => ∃ k : Nat, k ≤ n ∧ i = .int .i64 k ∧ Own byteV 5 wr w.heap.size (.slice (some ⟨w.heap.size, 0, none⟩) n n) (onesK n k) ∧ Below w.heap.size w wr) (fun _ i _ => n - (intOf i).toNat)
 case atStart => exact ⟨0, by omega, rfl, by rw [onesK_zero]; exact HO0.out, HB0.out⟩
 case round =>
  obtain ⟨k, hk, rfl, ho, hb⟩ := hrel
  have HO := hid ho
  have HB := hid hb
  clear ho hb HO0 HB0
  by_cases hlt : k < n
  ·obtain ⟨c0, f0⟩ := HO.out.cellg (k := k) (by rw [onesK_len hk]; exact hlt)
   have g1 : (0 : Int) ≤ (k : Int) := by omega
   have g2 : (k : Int) < (n : Int) := by omega
   have HS := hid (HO.out.set k 255)
   rw [onesK_step hlt] at HS
   go_wp2
   go_roundw
   case rel => exact ⟨k + 1, by omega, by go_num, HS.out, HB.out.setCell (p := ⟨w.heap.size, k, none⟩) (Nat.le_refl _) _⟩
   case measure => simp [intOf]; omega
  ·obtain rfl : k = n := by omega
   go_wp2
   go_ret
   exact ⟨⟨_, rfl, by have := HO.out; rw [onesK_all] at this; exact this⟩, HB.out⟩
end
section
open Go.RowKit

def chL : Option (List UInt8) → List UInt8
 | none => List.replicate 96 255
 | some L => L
section
variable {NB B C BL : Nat} {S : Nat → Prop} {w : World} {ps : Nat → Nat} {bl : Nat → Pb}
theorem chRead_calls (h : ChM NB B S w C BL ps bl) {k i : Nat} (hk : k < NB) (hi : i < 8) :
  Calls Tryz.prog 124 #[.pointer (some ⟨C, 0, none⟩), .int .i64 (k : Int), .int .i64 (i : Int)] w fun e w' => (∃ a c, e = .returned (.tuple #[.slice a 96 c, .int .i64 0]) ∧ 96 ≤ c ∧ Own byteV 5 w' w.heap.size (.slice a 96 c) (chL ((bl k).pgs i))) ∧ ChM NB B S w' C BL ps bl ∧ Kq (fun q => q = C) w w' := by
 have HA := hid (chAsked_calls h hk hi)
 obtain ⟨si, sk, rd, hC⟩ := h.hC
 obtain ⟨r1, hr1⟩ : ∃ r1, IntKind.i64.wrap (rd + 1) = r1 := ⟨_, rfl⟩
 have c8 := hC.cellv (i := 8) (v := .int .i64 rd) rfl
 have f8 := hC.frozen 8
 have h1 := h.set8 r1
 have hk1 : Kq (fun q => q = C) w (w.setCell ⟨C, 8, none⟩ (.int .i64 r1)) := Kq.one ⟨_, _, none⟩ _
 obtain ⟨w1, hw1⟩ : ∃ w1, w1 = w.setCell ⟨C, 8, none⟩ (.int .i64 r1) := ⟨_, rfl⟩
 rw [← hw1] at h1 hk1
 have c3 := h1.c3
 have b0 := (h1.b0 hk).1
 obtain ⟨v, p0, _, hv⟩ := h1.page hk hi
 have g1 : (0 : Int) ≤ (k : Int) := by omega
 have g2 : (k : Int) < (NB : Int) := by omega
 have g3 : (0 : Int) ≤ (i : Int) := by omega
 have g4 : (i : Int) < 8 := by omega
 have HF := hid (chFull_calls h1)
 have H1 := hid h1
 have HK1 := hid hk1
 have HW1 := hid hw1
 cases hls : (bl k).pgs i with
 | none =>
  rw [hls] at hv
  have hv' : v = .slice none 0 0 := hv
  subst hv'
  have hnil := fun w => Lib.run_eql_slice_nil (P := Tryz.prog) w 40 5 none 0 0 0 0 Tryz.underlying40
  simp only [Option.isNone_none] at hnil
  clear h h1 hk1 hw1 hv hls hC
  go_enter Tryz.func124, Tryz.ntmps124
  go_wp2_with fail
  refine (HA.out).mono ?_
  rintro e w_ ⟨rfl, rfl⟩
  go_upto_region 5 with fail
  rw [← HW1.out]
  clear c8 f8
  go_wp2_with fail
  refine HF.out.mono ?_
  rintro e w_ ⟨rfl, rfl⟩
  go_wp2_with fail
  refine (ones_calls 96 w1 (by omega)).mono ?_
  rintro e w2 ⟨⟨v2, rfl, ho⟩, hb2⟩
  obtain ⟨a, c, rfl, hc⟩ := ho.formN (List.length_replicate ..)
  have HO := hid (ho.mono HK1.out.size)
  have HC := hid hc
  have H2 := hid (H1.out.on hb2)
  have HK2 := hid (HK1.out.on hb2)
  clear ho hb2 hc
  go_wp2_with fail
  go_ret2
  exact ⟨⟨a, c, rfl, HC.out, HO.out⟩, H2.out, HK2.out⟩
 | some L =>
  rw [hls] at hv
  obtain ⟨hlen, hown, _⟩ := hv
  obtain ⟨ga, ca, rfl, hca, _, _⟩ := hown.form_some (by omega)
  rw [hlen] at p0 hca hown
  have HO1 := hid hown
  have HLl := hid hlen
  have hnil := fun w => Lib.run_eql_slice_nil (P := Tryz.prog) w 40 5 (some ⟨ga, 0, none⟩) 96 ca 0 0 Tryz.underlying40
  simp only [Option.isNone_some] at hnil
  clear h h1 hk1 hw1 hls hown hlen hC
  go_enter Tryz.func124, Tryz.ntmps124
  go_wp2_with fail
  refine (HA.out).mono ?_
  rintro e w_ ⟨rfl, rfl⟩
  go_upto_region 5 with fail
  rw [← HW1.out]
  clear c8 f8
  go_wp2_with fail
  refine (clone_calls (some ⟨ga, 0, none⟩) 96 ca L w1 (HO1.out.arr (by rw [HLl.out]; omega))).mono ?_
  rintro e w2 ⟨⟨v2, rfl, ho⟩, hb2⟩
  obtain ⟨a, c, rfl, hc⟩ := ho.formN HLl.out
  have HO := hid (ho.mono HK1.out.size)
  have HC := hid hc
  have H2 := hid (H1.out.on hb2)
  have HK2 := hid (HK1.out.on hb2)
  clear ho hb2 hc
  go_wp2_with fail
  go_ret2
  exact ⟨⟨a, c, rfl, HC.out, HO.out⟩, H2.out, HK2.out⟩
end
end
end Go.Proofs.YtcppkaphlcflgaaGreat
