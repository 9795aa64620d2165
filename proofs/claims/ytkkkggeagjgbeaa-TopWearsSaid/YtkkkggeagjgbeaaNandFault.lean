/-
  A stroke's fault.
-/
import Derived.Test.YtkkkggeagjgbeaaNandAsk
import Derived.WalkMore
import Derived.Deep.DeepCutAuto
namespace Go.Proofs.Ytkkkggeagjgbeaa
open Go.RowKit

/-- What belongs to stroke k: nothing, or the first fault of its number. -/
def fnd (fs : List Fl) (k : Nat) : Fl := (fs.find? fun f => f.no == (k : Int)).getD ⟨0, 0, []⟩
theorem fnd_no {fs : List Fl} {k : Nat} {rows : List Fv} (hl : rows.length = fs.length) (h3 : ∀ i (h1 : i < rows.length) (h2 : i < fs.length), rows[i].no = fs[i].no) (h : ∀ j (h : j < rows.length), rows[j].no ≠ (k : Int)) : fnd fs k = ⟨0, 0, []⟩ := by
  unfold fnd
  rw [List.find?_eq_none.2]
  · rfl
  · intro f hf
    obtain ⟨i, hi, rfl⟩ := List.getElem_of_mem hf
    rw [← h3 i (by omega) hi]
    simpa using h i (by omega)
theorem fnd_yes {fs : List Fl} {k q : Nat} {rows : List Fv} (hq : q < rows.length) (hl : rows.length = fs.length) (h3 : ∀ i (h1 : i < rows.length) (h2 : i < fs.length), rows[i].no = fs[i].no) (h : ∀ j (h : j < rows.length), j < q → rows[j].no ≠ (k : Int)) (he : rows[q].no = (k : Int)) : fnd fs k = fs[q]'(by omega) := by
  unfold fnd
  rw [List.find?_eq_some_iff_getElem.2 ⟨by rw [← h3 q hq (by omega), he]; simp, q, by omega, rfl, fun j hj => by rw [← h3 j (by omega) (by omega)]; simpa using h j (by omega) hj⟩]
  rfl
set_option maxRecDepth 100000 in
set_option maxHeartbeats 4000000 in
theorem fault_calls (base N0 C BL P K nx : Nat) (x : Cn) (ls : Nat → Option (List UInt8)) (fs : List Fl) (w : World) (h : Chp base N0 w C BL P K x nx ls fs) (hsi : x.si ≤ 1000000) (hsk : x.sk ≤ 1000000) (hfl : fs.length ≤ 1000) :
    Calls Try.prog 59 #[.pointer (some ⟨C, 0, none⟩)] w fun e w' => (∃ no dv, e = .returned (.agg #[.int .i64 no, .int .i64 (fnd fs x.si).kind, dv]) ∧ Own byteV 5 w' N0 dv (fnd fs x.si).data) ∧ Chp base N0 w' C BL P K { x with si := x.si + 1, sk := x.sk + 1 } nx ls fs ∧ Kp C BL P w w' := by
  have hCl : C < w.heap.size := h.hC.lt
  have h1 := h.on ((Below.refl w.heap.size w).alloc (Nat.le_refl _) (.cells #[.int .i64 0, .int .i64 0, .slice none 0 0] 92))
  have hA := ((h.setC (x' := { x with si := x.si + 1 }) 5 (.int .i64 ((x.si : Int) + 1)) rfl rfl).setC (x' := { x with si := x.si + 1, sk := x.sk + 1 }) 7 (.int .i64 ((x.sk : Int) + 1)) rfl rfl)
  have hBA := ((Kp.refl C BL P w).setCell (p := ⟨C, 5, none⟩) (.inl rfl) (.int .i64 ((x.si : Int) + 1))).setCell (p := ⟨C, 7, none⟩) (.inl rfl) (.int .i64 ((x.sk : Int) + 1))
  have hsA : ((w.setCell ⟨C, 5, none⟩ (.int .i64 ((x.si : Int) + 1))).setCell ⟨C, 7, none⟩ (.int .i64 ((x.sk : Int) + 1))).heap.size = w.heap.size := by simp
  have hw := fun z : Obj => World.setCell_alloc_past (w := w) z C 5 (.int .i64 ((x.si : Int) + 1)) hCl
  have hw' := fun z : Obj => World.setCell_alloc_past (w := w.setCell ⟨C, 5, none⟩ (.int .i64 ((x.si : Int) + 1))) z C 7 (.int .i64 ((x.sk : Int) + 1)) (by simpa using hCl)
  obtain ⟨wA, hwA⟩ : ∃ wA, wA = ((w.setCell ⟨C, 5, none⟩ (.int .i64 ((x.si : Int) + 1))).setCell ⟨C, 7, none⟩ (.int .i64 ((x.sk : Int) + 1))) := ⟨_, rfl⟩
  have hWZ : ((w.alloc (.cells #[.int .i64 0, .int .i64 0, .slice none 0 0] 92)).setCell ⟨C, 5, none⟩ (.int .i64 ((x.si : Int) + 1))).setCell ⟨C, 7, none⟩ (.int .i64 ((x.sk : Int) + 1)) = wA.alloc (.cells #[.int .i64 0, .int .i64 0, .slice none 0 0] 92) := by rw [hw, hw', hwA]
  rw [← hwA] at hA hBA hsA
  obtain ⟨w1, hw1⟩ : ∃ w1, w1 = w.alloc (.cells #[.int .i64 0, .int .i64 0, .slice none 0 0] 92) := ⟨_, rfl⟩
  obtain ⟨g, hg⟩ : ∃ g, g = w.heap.size := ⟨_, rfl⟩
  have hsz1 : w1.heap.size = g + 1 := by rw [hw1, hg]; simp
  rw [← hw1] at h1 hWZ
  have HWZ := Lib.hid hWZ
  have HA := Lib.hid hA
  have HBA := Lib.hid hBA
  have c5 := h1.c5
  have c7 := h1.c7
  have f5 := h1.frzC 5
  have f7 := h1.frzC 7
  have HgA := Lib.hid (hg.trans hsA.symm)
  clear h h1 hA hBA hw hw' hwA hWZ hsA
  go_enter Try.func59, Try.ntmps59
  go_wp2
  rw [← hw1, ← hg]
  clear hw1 hg
  go_step3
  go_wp2_with fail
  rw [HWZ.out]
  clear hsz1 c5 c7 f5 f7
  have H2'' := HA.out.on (((Below.refl wA.heap.size wA).alloc (Nat.le_refl _) (.cells #[.int .i64 0, .int .i64 0, .slice none 0 0] 92)).alloc (by simp) (.cells #[.int .i64 0, .int .i64 0, .slice none 0 0] 92))
  have hBB := ((Below.refl wA.heap.size wA).alloc (Nat.le_refl _) (.cells #[.int .i64 0, .int .i64 0, .slice none 0 0] 92)).alloc (by simp) (.cells #[.int .i64 0, .int .i64 0, .slice none 0 0] 92)
  have RA' := (Blk.new wA 92 #[.int .i64 0, .int .i64 0, .slice none 0 0]).alloc (.cells #[.int .i64 0, .int .i64 0, .slice none 0 0] 92)
  have RB' := Blk.new (wA.alloc (.cells #[.int .i64 0, .int .i64 0, .slice none 0 0] 92)) 92 #[.int .i64 0, .int .i64 0, .slice none 0 0]
  rw [World.size_alloc] at RB'
  rw [← HgA.out] at RA' RB'
  generalize (wA.alloc (.cells #[.int .i64 0, .int .i64 0, .slice none 0 0] 92)).alloc (.cells #[.int .i64 0, .int .i64 0, .slice none 0 0] 92) = w2 at *
  obtain ⟨rows, r1, r2, r3⟩ := HA.out.hF
  obtain ⟨n, hn⟩ : ∃ n, n = rows.length := ⟨_, rfl⟩
  obtain ⟨a, c, hfv, hnc⟩ := r1.formN hn.symm
  have c4 : w2.cell? ⟨C, 4, none⟩ = some (.slice a n c) := by rw [← hfv]; exact H2''.c4
  have hn1 : n ≤ 1000 := by omega
  have HBB := Lib.hid hBB
  have HRw := Lib.hid r1
  have HRn := Lib.hid hn
  have HFe := Lib.hid r3
  have HFl := Lib.hid r2
  have HFv := Lib.hid hfv
  have RA := Lib.hid RA'
  have RB := Lib.hid RB'
  obtain ⟨g2, hg2⟩ : ∃ g2, g2 = g + 1 := ⟨_, rfl⟩
  rw [← hg2] at RB ⊢
  have hne : g ≠ g2 := by omega
  have hgC : g ≠ C := by have := HgA.out; have := HA.out.hC.lt; omega
  have HG2 := Lib.hid hg2
  clear H2'' RA' RB' hBB r1 r2 r3 hn hfv hg2 HWZ
  go_step3
  go_wp2
  go_loopw [6, 31] (fun _ i wr => ∃ q : Nat, q ≤ n ∧ i = .int .i64 q ∧ (∀ j (h : j < rows.length), j < q → rows[j].no ≠ (x.si : Int)) ∧ Below w2.heap.size w2 wr) (fun _ i _ => n - (intOf i).toNat)
  case atStart => exact ⟨0, by omega, rfl, fun j _ h => absurd h (by omega), Below.refl _ _⟩
  case round =>
    obtain ⟨q, hq, rfl, hg0, hb⟩ := hrel
    have HNo := Lib.hid hg0
    have HBr := Lib.hid hb
    clear hg0 hb
    by_cases hlt : q < n
    · have hqr : q < rows.length := by rw [← HRn.out]; exact hlt
      have k0 : (0 : Int) ≤ (q : Int) := by omega
      have k1 : (q : Int) < (n : Int) := by omega
      obtain ⟨g3, c3, hv3, _, hN3, hg3⟩ := HRw.out.form_some (by omega)
      rw [HFv.out] at hv3
      injection hv3 with e1 e2 e3
      subst e1
      clear e2 e3
      have hrw := HRw.out.on (HBB.out.then_ HBr.out)
      rw [HFv.out] at hrw
      have d0 : wr.cell? ⟨g3, q * 3, none⟩ = some (.int .i64 rows[q].no) := (hrw.cellg (i := q) (j := 0) hqr (by omega)).1
      have d1 : wr.cell? ⟨g3, q * 3 + 1, none⟩ = some (.int .i64 rows[q].kind) := (hrw.cellg (i := q) (j := 1) hqr (by omega)).1
      have d2 : wr.cell? ⟨g3, q * 3 + 2, none⟩ = some rows[q].data := (hrw.cellg (i := q) (j := 2) hqr (by omega)).1
      clear hrw
      have hqf : q < fs.length := by rw [← HFl.out]; exact hqr
      obtain ⟨ad, nd, hdv, _⟩ := (HFe.out q hqr hqf).2.2.form
      have HDa := Lib.hid (HFe.out q hqr hqf)
      have HDv := Lib.hid hdv
      rw [hdv] at d2
      clear hdv
      by_cases he : rows[q].no = (x.si : Int)
      · have g9 : (rows[q].no == (x.si : Int)) = true := by simpa using he
        have HY := Lib.hid (fnd_yes hqr HFl.out (fun i a b => (HFe.out i a b).1) HNo.out he)
        rw [he] at d0
        have HKd := Lib.hid (show rows[q].kind = (fs[q]).kind from HDa.out.2.1)
        generalize rows[q].kind = kd at *
        generalize (fs[q]).data.length = nl at *
        have hba := (Below.refl wr.heap.size wr).alloc (Nat.le_refl _) (.cells #[.int .i64 (x.si : Int), .int .i64 kd, .slice ad nl nd] 92)
        have hbb := HBr.out.then_ hba
        have RFa := Blk.new wr 92 #[.int .i64 (x.si : Int), .int .i64 kd, .slice ad nl nd]
        obtain ⟨wf, hwf⟩ : ∃ wf, wf = wr.alloc (.cells #[.int .i64 (x.si : Int), .int .i64 kd, .slice ad nl nd] 92) := ⟨_, rfl⟩
        go_upto_region 9 with fail
        rw [← hwf] at hbb RFa ⊢
        obtain ⟨gf, hgf⟩ : ∃ gf, gf = wr.heap.size := ⟨_, rfl⟩
        rw [← hgf] at RFa ⊢
        have RBa := RB.out.belowHere hbb
        have RAa := RA.out.belowHere hbb
        have v0 := RFa.cellv (i := 0) rfl
        have v1 := RFa.cellv (i := 1) rfl
        have v2 := RFa.cellv (i := 2) rfl
        have e0 := RBa.cellv (i := 0) rfl
        have e1 := RBa.cellv (i := 1) rfl
        have e2 := RBa.cellv (i := 2) rfl
        have l0 := RBa.frozen 0
        have l1 := RBa.frozen 1
        have l2 := RBa.frozen 2
        have i0 := RAa.cellv (i := 0) rfl
        have i1 := RAa.cellv (i := 1) rfl
        have i2 := RAa.cellv (i := 2) rfl
        have j0 := RAa.frozen 0
        have j1 := RAa.frozen 1
        have j2 := RAa.frozen 2
        have HBa := Lib.hid (HBB.out.then_ hbb)
        clear hba hbb RFa RBa RAa hwf hgf d0 d1 d2 he
        go_wp2
        have hB1 := ((HBa.out.setCell (p := ⟨g2, 0, none⟩) (show wA.heap.size ≤ g2 by have := HgA.out; have := HG2.out; omega) (.int .i64 (x.si : Int))).setCell (p := ⟨g2, 1, none⟩) (show wA.heap.size ≤ g2 by have := HgA.out; have := HG2.out; omega) (.int .i64 kd)).setCell (p := ⟨g2, 2, none⟩) (show wA.heap.size ≤ g2 by have := HgA.out; have := HG2.out; omega) (.slice ad nl nd)
        have hB2 := ((hB1.setCell (p := ⟨g, 0, none⟩) (show wA.heap.size ≤ g by have := HgA.out; omega) (.int .i64 (x.si : Int))).setCell (p := ⟨g, 1, none⟩) (show wA.heap.size ≤ g by have := HgA.out; omega) (.int .i64 kd)).setCell (p := ⟨g, 2, none⟩) (show wA.heap.size ≤ g by have := HgA.out; omega) (.slice ad nl nd)
        rw [Exit.noGoto_ret]
        refine bodyPost_ret (v := .agg #[.int .i64 (x.si : Int), .int .i64 kd, .slice ad nl nd]) (by simp [results, Try.results59, go_sem, *]) rfl ⟨⟨_, _, by rw [HY.out, HKd.out], ?_⟩, HA.out.on hB2, HBA.out.on hB2⟩
        rw [HY.out]
        have hd := HDa.out.2.2.on hB2
        rw [HDv.out] at hd
        exact hd
      · have g9 : (rows[q].no == (x.si : Int)) = false := by simpa using he
        have HNo2 := Lib.hid (show ∀ j (h : j < rows.length), j < q + 1 → rows[j].no ≠ (x.si : Int) from fun j h hj => by
          by_cases e : j = q
          · subst e; exact he
          · exact HNo.out j h (by omega))
        have HQ := Lib.hid hlt
        clear he
        go_wp2
        go_roundw
        case rel => exact ⟨q + 1, HQ.out, by go_num, HNo2.out, HBr.out.alloc HBr.out.size _⟩
        case measure => have := HQ.out; simp [intOf]; omega
    · obtain rfl : q = n := by omega
      have HNF := Lib.hid (fnd_no HFl.out (fun i a b => (HFe.out i a b).1) (fun j h => HNo.out j h (by rw [HRn.out]; exact h)))
      have RBa := RB.out.belowHere HBr.out
      have RAa := RA.out.belowHere HBr.out
      have e0 := RBa.cellv (i := 0) rfl
      have e1 := RBa.cellv (i := 1) rfl
      have e2 := RBa.cellv (i := 2) rfl
      have i0 := RAa.cellv (i := 0) rfl
      have i1 := RAa.cellv (i := 1) rfl
      have i2 := RAa.cellv (i := 2) rfl
      have j0 := RAa.frozen 0
      have j1 := RAa.frozen 1
      have j2 := RAa.frozen 2
      clear RBa RAa
      have HBa := Lib.hid (HBB.out.then_ HBr.out)
      go_wp2
      have hB2 := ((HBa.out.setCell (p := ⟨g, 0, none⟩) (show wA.heap.size ≤ g by have := HgA.out; omega) (.int .i64 0)).setCell (p := ⟨g, 1, none⟩) (show wA.heap.size ≤ g by have := HgA.out; omega) (.int .i64 0)).setCell (p := ⟨g, 2, none⟩) (show wA.heap.size ≤ g by have := HgA.out; omega) (.slice none 0 0)
      rw [Exit.noGoto_ret]
      refine bodyPost_ret (v := .agg #[.int .i64 0, .int .i64 0, .slice none 0 0]) (by simp [results, Try.results59, go_sem, *]) rfl ⟨⟨_, _, by rw [HNF.out], ?_⟩, HA.out.on hB2, HBA.out.on hB2⟩
      rw [HNF.out]
      exact Own.nil _ _
end Go.Proofs.Ytkkkggeagjgbeaa
