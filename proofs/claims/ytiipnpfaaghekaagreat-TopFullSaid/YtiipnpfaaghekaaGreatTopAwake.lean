/-
  A block's next page is laid: put.
-/
/-
  A new chip.
-/
import Derived.Test.YtiipnpfaaghekaaGreatNandOnes
import Derived.Test.YtiipnpfaaghekaaGreatNandAsk
import Derived.WalkMore
import Derived.Deep.DeepCutAuto
import Derived.Test.YtiipnpfaaghekaaGreatSlClone
import Derived.Test.YtiipnpfaaghekaaGreatNandBlank
import Derived.Test.YtiipnpfaaghekaaGreatTagWrite
/-
  A stroke's fault.
-/
namespace Go.Proofs.YtiipnpfaaghekaaGreat
open Go.RowKit

set_option maxRecDepth 100000 in
set_option maxHeartbeats 4000000 in
theorem bput_calls (base N0 C BL P K nx : Nat) (x : Cn) (ls : Nat → Option (List UInt8)) (fs : List Fl) (a : Option Addr) (n c : Nat) (L : List UInt8) (w : World) (h : Chp base N0 w C BL P K x nx ls fs) (hn : nx < 8) (hv : PgAt w N0 (.slice a n c) (some L)) :
    Calls Tryz.prog 68 #[.pointer (some ⟨BL, K * 5, none⟩), .slice a n c] w fun e w' => e = .returned (.tuple #[]) ∧ Chp base N0 w' C BL P K x (nx + 1) (fun i => if i = nx then some L else ls i) fs ∧ Kp C BL P w w' := by
  have hbd : Below w.heap.size w w.drew := ⟨rfl, rfl, rfl, Nat.le_refl _, fun _ _ => rfl⟩
  have hd := (h.on hbd)
  have b0 := hd.b0.1
  have b1 := hd.b1.1
  obtain ⟨vp, p0, p1, _⟩ := hd.page hn
  have H1 := Lib.hid (h.setP nx hv).drew
  have HB1 := Lib.hid (((Kp.refl C BL P w).setCell (p := ⟨P, nx, none⟩) (.inr (.inr rfl)) (.slice a n c)).on (below_drew _))
  have dBP : P ≠ BL := Ne.symm h.dis.2.2.1
  have g1 : (0 : Int) ≤ (nx : Int) := by omega
  have g2 : (nx : Int) < 8 := by omega
  clear h hv hd hbd
  go_enter Tryz.func68, Tryz.ntmps68
  go_wp2_with fail
  refine wp_region_noPanic ?_
  refine wp_region_held_drew (S := (fun W' => W'.cell? ⟨BL, K * 5, none⟩ = some (.slice (some ⟨P, 0, none⟩) 8 8) ∧ W'.cell? ⟨BL, K * 5 + 1, none⟩ = some (.int .i64 (nx : Int)))) (by kernel_rfl) ⟨b0, b1⟩ (fun hS0 => ?_)
  refine takeV 0 (v := (.pointer (some ⟨BL, K * 5, none⟩))) rfl (by kernel_rfl) (by kernel_rfl) (by kernel_rfl) (fun _ _ _ h => h) (by rfl) (fun _ _ => rfl) (by assumption) ?_
  try simp only [layR]
  refine takeV 1 (v := (.pointer (some ⟨BL, K * 5, none⟩))) rfl (by kernel_rfl) (by kernel_rfl) (by kernel_rfl) (fun _ _ _ h => h) (by rfl) (fun W hSw => ?_) (by assumption) ?_
  · skip
    go_simp
  try simp only [layR]
  refine takeV 2 (v := (.pointer (some ⟨BL, K * 5, none⟩))) rfl (by kernel_rfl) (by kernel_rfl) (by kernel_rfl) (fun _ _ _ h => h) (by rfl) (fun W hSw => ?_) (by assumption) ?_
  · skip
    go_simp
  try simp only [layR]
  refine takeV 3 (v := (.slice (some ⟨P, 0, none⟩) 8 8)) rfl (by kernel_rfl) (by kernel_rfl) (by kernel_rfl) (fun _ _ _ h => h) (by rfl) (fun W hSw => ?_) (by assumption) ?_
  · have c9 := hSw.1
    go_simp
  try simp only [layR]
  refine takeV 4 (v := (.pointer (some ⟨BL, K * 5, none⟩))) rfl (by kernel_rfl) (by kernel_rfl) (by kernel_rfl) (fun _ _ _ h => h) (by rfl) (fun _ _ => rfl) (by assumption) ?_
  try simp only [layR]
  refine takeV 5 (v := (.pointer (some ⟨BL, K * 5, none⟩))) rfl (by kernel_rfl) (by kernel_rfl) (by kernel_rfl) (fun _ _ _ h => h) (by rfl) (fun W hSw => ?_) (by assumption) ?_
  · skip
    go_simp
  try simp only [layR]
  refine takeV 6 (v := (.pointer (some ⟨BL, K * 5 + 1, none⟩))) rfl (by kernel_rfl) (by kernel_rfl) (by kernel_rfl) (fun _ _ _ h => h) (by rfl) (fun W hSw => ?_) (by assumption) ?_
  · skip
    go_simp
  try simp only [layR]
  refine takeV 7 (v := (.int .i64 (nx : Int))) rfl (by kernel_rfl) (by kernel_rfl) (by kernel_rfl) (fun _ _ _ h => h) (by rfl) (fun W hSw => ?_) (by assumption) ?_
  · have c9 := hSw.2
    go_simp
  try simp only [layR]
  refine takeV 8 (v := (.slice a n c)) rfl (by kernel_rfl) (by kernel_rfl) (by kernel_rfl) (fun _ _ _ h => h) (by rfl) (fun _ _ => rfl) (by assumption) ?_
  try simp only [layR]
  refine takeV 9 (v := (.pointer (some ⟨P, nx, none⟩))) rfl (by kernel_rfl) (by kernel_rfl) (by kernel_rfl) (fun _ _ _ h => h) (by rfl) (fun W hSw => ?_) (by assumption) ?_
  · skip
    go_simp
  try simp only [layR]
  refine wpAnyH_ready (rs := [10]) (by kernel_rfl) (by simp) ?_
  refine AllReadyH.cons rfl (fun K' hK => ?_) AllReadyH.nil
  go_simp
  refine hK.out _ _ ⟨(World.cell?_setCell_far _ _ _ _ (by simpa using dBP)).trans hS0.1, (World.cell?_setCell_far _ _ _ _ (by simpa using dBP)).trans hS0.2⟩ (fun hS1 => ?_)
  try simp only [layR]
  refine wpAnyH_done (by kernel_rfl) ?_ _
  refine NoPanic.normal ?_
  clear hS0 hS1 b0 b1 p0 p1
  obtain ⟨w2, hw2⟩ : ∃ w2, w2 = (w.setCell ⟨P, nx, none⟩ (.slice a n c)).drew := ⟨_, rfl⟩
  rw [← hw2] at H1 HB1
  have c1 := H1.out.b1.1
  have f1 := H1.out.b1.2
  have H2 := Lib.hid (H1.out.setN (nx + 1))
  have HB2 := Lib.hid (HB1.out.setCell (p := ⟨BL, K * 5 + 1, none⟩) (.inr (.inl rfl)) (.int .i64 ((nx + 1 : Nat) : Int)))
  have e1 : ((nx + 1 : Nat) : Int) = (nx : Int) + 1 := by omega
  rw [e1] at H2 HB2
  rw [← hw2]
  clear hw2 e1
  go_wp2
  go_end0
  exact ⟨rfl, H2.out, HB2.out⟩
end Go.Proofs.YtiipnpfaaghekaaGreat
/-
  A page is programmed.
-/
namespace Go.Proofs.YtiipnpfaaghekaaGreat
open Go.RowKit

/-- What belongs to stroke k: nothing, or the first fault of its number. -/
def fnd (fs : List Fl) (k : Nat) : Fl := (fs.find? fun f => f.no == (k : Int)).getD ⟨0, 0, []⟩
theorem fnd_no {fs : List Fl} {k : Nat} {rows : List Fv} (hl : rows.length = fs.length) (h3 : ∀ i (h1 : i < rows.length) (h2 : i < fs.length), rows[i].no = fs[i].no) (h : ∀ j (h : j < rows.length), rows[j].no ≠ (k : Int)) : fnd fs k = ⟨0, 0, []⟩ := by
  unfold fnd
  rw [List.find?_eq_none.2]
  · rfl
  · intro f hf
    obtain ⟨i, hi, rfl⟩ := List.getElem_of_mem hf
    rw [← h3 i (by omega) hi]
    simpa using h i (by omega)
theorem fnd_yes {fs : List Fl} {k q : Nat} {rows : List Fv} (hq : q < rows.length) (hl : rows.length = fs.length) (h3 : ∀ i (h1 : i < rows.length) (h2 : i < fs.length), rows[i].no = fs[i].no) (h : ∀ j (h : j < rows.length), j < q → rows[j].no ≠ (k : Int)) (he : rows[q].no = (k : Int)) : fnd fs k = fs[q]'(by omega) := by
  unfold fnd
  rw [List.find?_eq_some_iff_getElem.2 ⟨by rw [← h3 q hq (by omega), he]; simp, q, by omega, rfl, fun j hj => by rw [← h3 j (by omega) (by omega)]; simpa using h j (by omega) hj⟩]
  rfl
set_option maxRecDepth 100000 in
set_option maxHeartbeats 4000000 in
theorem fault_calls (base N0 C BL P K nx : Nat) (x : Cn) (ls : Nat → Option (List UInt8)) (fs : List Fl) (w : World) (h : Chp base N0 w C BL P K x nx ls fs) (hsi : x.si ≤ 1000000) (hsk : x.sk ≤ 1000000) (hfl : fs.length ≤ 1000) :
    Calls Tryz.prog 67 #[.pointer (some ⟨C, 0, none⟩)] w fun e w' => (∃ no dv, e = .returned (.agg #[.int .i64 no, .int .i64 (fnd fs x.si).kind, dv]) ∧ Own byteV 5 w' N0 dv (fnd fs x.si).data) ∧ Chp base N0 w' C BL P K { x with si := x.si + 1, sk := x.sk + 1 } nx ls fs ∧ Kp C BL P w w' := by
  have hCl : C < w.heap.size := h.hC.lt
  have h1 := h.on ((Below.refl w.heap.size w).alloc (Nat.le_refl _) (.cells #[.int .i64 0, .int .i64 0, .slice none 0 0] 114))
  have hA := ((h.setC (x' := { x with si := x.si + 1 }) 5 (.int .i64 ((x.si : Int) + 1)) rfl rfl).setC (x' := { x with si := x.si + 1, sk := x.sk + 1 }) 7 (.int .i64 ((x.sk : Int) + 1)) rfl rfl)
  have hBA := ((Kp.refl C BL P w).setCell (p := ⟨C, 5, none⟩) (.inl rfl) (.int .i64 ((x.si : Int) + 1))).setCell (p := ⟨C, 7, none⟩) (.inl rfl) (.int .i64 ((x.sk : Int) + 1))
  have hsA : ((w.setCell ⟨C, 5, none⟩ (.int .i64 ((x.si : Int) + 1))).setCell ⟨C, 7, none⟩ (.int .i64 ((x.sk : Int) + 1))).heap.size = w.heap.size := by simp
  have hw := fun z : Obj => World.setCell_alloc_past (w := w) z C 5 (.int .i64 ((x.si : Int) + 1)) hCl
  have hw' := fun z : Obj => World.setCell_alloc_past (w := w.setCell ⟨C, 5, none⟩ (.int .i64 ((x.si : Int) + 1))) z C 7 (.int .i64 ((x.sk : Int) + 1)) (by simpa using hCl)
  obtain ⟨wA, hwA⟩ : ∃ wA, wA = ((w.setCell ⟨C, 5, none⟩ (.int .i64 ((x.si : Int) + 1))).setCell ⟨C, 7, none⟩ (.int .i64 ((x.sk : Int) + 1))) := ⟨_, rfl⟩
  have hWZ : ((w.alloc (.cells #[.int .i64 0, .int .i64 0, .slice none 0 0] 114)).setCell ⟨C, 5, none⟩ (.int .i64 ((x.si : Int) + 1))).setCell ⟨C, 7, none⟩ (.int .i64 ((x.sk : Int) + 1)) = wA.alloc (.cells #[.int .i64 0, .int .i64 0, .slice none 0 0] 114) := by rw [hw, hw', hwA]
  rw [← hwA] at hA hBA hsA
  obtain ⟨w1, hw1⟩ : ∃ w1, w1 = w.alloc (.cells #[.int .i64 0, .int .i64 0, .slice none 0 0] 114) := ⟨_, rfl⟩
  obtain ⟨g, hg⟩ : ∃ g, g = w.heap.size := ⟨_, rfl⟩
  have hsz1 : w1.heap.size = g + 1 := by rw [hw1, hg]; simp
  rw [← hw1] at h1 hWZ
  have HWZ := Lib.hid hWZ
  have HA := Lib.hid hA
  have HBA := Lib.hid hBA
  have c5 := h1.c5
  have c7 := h1.c7
  have f5 := h1.frzC 5
  have f7 := h1.frzC 7
  have HgA := Lib.hid (hg.trans hsA.symm)
  clear h h1 hA hBA hw hw' hwA hWZ hsA
  go_enter Tryz.func67, Tryz.ntmps67
  go_wp2
  rw [← hw1, ← hg]
  clear hw1 hg
  go_step3
  go_wp2_with fail
  rw [HWZ.out]
  clear hsz1 c5 c7 f5 f7
  have H2'' := HA.out.on (((Below.refl wA.heap.size wA).alloc (Nat.le_refl _) (.cells #[.int .i64 0, .int .i64 0, .slice none 0 0] 114)).alloc (by simp) (.cells #[.int .i64 0, .int .i64 0, .slice none 0 0] 114))
  have hBB := ((Below.refl wA.heap.size wA).alloc (Nat.le_refl _) (.cells #[.int .i64 0, .int .i64 0, .slice none 0 0] 114)).alloc (by simp) (.cells #[.int .i64 0, .int .i64 0, .slice none 0 0] 114)
  have RA' := (Blk.new wA 114 #[.int .i64 0, .int .i64 0, .slice none 0 0]).alloc (.cells #[.int .i64 0, .int .i64 0, .slice none 0 0] 114)
  have RB' := Blk.new (wA.alloc (.cells #[.int .i64 0, .int .i64 0, .slice none 0 0] 114)) 114 #[.int .i64 0, .int .i64 0, .slice none 0 0]
  rw [World.size_alloc] at RB'
  rw [← HgA.out] at RA' RB'
  generalize (wA.alloc (.cells #[.int .i64 0, .int .i64 0, .slice none 0 0] 114)).alloc (.cells #[.int .i64 0, .int .i64 0, .slice none 0 0] 114) = w2 at *
  obtain ⟨rows, r1, r2, r3⟩ := HA.out.hF
  obtain ⟨n, hn⟩ : ∃ n, n = rows.length := ⟨_, rfl⟩
  obtain ⟨a, c, hfv, hnc⟩ := r1.formN hn.symm
  have c4 : w2.cell? ⟨C, 4, none⟩ = some (.slice a n c) := by rw [← hfv]; exact H2''.c4
  have hn1 : n ≤ 1000 := by omega
  have HBB := Lib.hid hBB
  have HRw := Lib.hid r1
  have HRn := Lib.hid hn
  have HFe := Lib.hid r3
  have HFl := Lib.hid r2
  have HFv := Lib.hid hfv
  have RA := Lib.hid RA'
  have RB := Lib.hid RB'
  obtain ⟨g2, hg2⟩ : ∃ g2, g2 = g + 1 := ⟨_, rfl⟩
  rw [← hg2] at RB ⊢
  have hne : g ≠ g2 := by omega
  have hgC : g ≠ C := by have := HgA.out; have := HA.out.hC.lt; omega
  have HG2 := Lib.hid hg2
  clear H2'' RA' RB' hBB r1 r2 r3 hn hfv hg2 HWZ
  go_step3
  go_wp2
  go_loopw [6, 31] (fun _ i wr => ∃ q : Nat, q ≤ n ∧ i = .int .i64 q ∧ (∀ j (h : j < rows.length), j < q → rows[j].no ≠ (x.si : Int)) ∧ Below w2.heap.size w2 wr) (fun _ i _ => n - (intOf i).toNat)
  case atStart => exact ⟨0, by omega, rfl, fun j _ h => absurd h (by omega), Below.refl _ _⟩
  case round =>
    obtain ⟨q, hq, rfl, hg0, hb⟩ := hrel
    have HNo := Lib.hid hg0
    have HBr := Lib.hid hb
    clear hg0 hb
    by_cases hlt : q < n
    · have hqr : q < rows.length := by rw [← HRn.out]; exact hlt
      have k0 : (0 : Int) ≤ (q : Int) := by omega
      have k1 : (q : Int) < (n : Int) := by omega
      obtain ⟨g3, c3, hv3, _, hN3, hg3⟩ := HRw.out.form_some (by omega)
      rw [HFv.out] at hv3
      injection hv3 with e1 e2 e3
      subst e1
      clear e2 e3
      have hrw := HRw.out.on (HBB.out.then_ HBr.out)
      rw [HFv.out] at hrw
      have d0 : wr.cell? ⟨g3, q * 3, none⟩ = some (.int .i64 rows[q].no) := (hrw.cellg (i := q) (j := 0) hqr (by omega)).1
      have d1 : wr.cell? ⟨g3, q * 3 + 1, none⟩ = some (.int .i64 rows[q].kind) := (hrw.cellg (i := q) (j := 1) hqr (by omega)).1
      have d2 : wr.cell? ⟨g3, q * 3 + 2, none⟩ = some rows[q].data := (hrw.cellg (i := q) (j := 2) hqr (by omega)).1
      clear hrw
      have hqf : q < fs.length := by rw [← HFl.out]; exact hqr
      obtain ⟨ad, nd, hdv, _⟩ := (HFe.out q hqr hqf).2.2.form
      have HDa := Lib.hid (HFe.out q hqr hqf)
      have HDv := Lib.hid hdv
      rw [hdv] at d2
      clear hdv
      by_cases he : rows[q].no = (x.si : Int)
      · have g9 : (rows[q].no == (x.si : Int)) = true := by simpa using he
        have HY := Lib.hid (fnd_yes hqr HFl.out (fun i a b => (HFe.out i a b).1) HNo.out he)
        rw [he] at d0
        have HKd := Lib.hid (show rows[q].kind = (fs[q]).kind from HDa.out.2.1)
        generalize rows[q].kind = kd at *
        generalize (fs[q]).data.length = nl at *
        have hba := (Below.refl wr.heap.size wr).alloc (Nat.le_refl _) (.cells #[.int .i64 (x.si : Int), .int .i64 kd, .slice ad nl nd] 114)
        have hbb := HBr.out.then_ hba
        have RFa := Blk.new wr 114 #[.int .i64 (x.si : Int), .int .i64 kd, .slice ad nl nd]
        obtain ⟨wf, hwf⟩ : ∃ wf, wf = wr.alloc (.cells #[.int .i64 (x.si : Int), .int .i64 kd, .slice ad nl nd] 114) := ⟨_, rfl⟩
        go_upto_region 9 with fail
        rw [← hwf] at hbb RFa ⊢
        obtain ⟨gf, hgf⟩ : ∃ gf, gf = wr.heap.size := ⟨_, rfl⟩
        rw [← hgf] at RFa ⊢
        have RBa := RB.out.belowHere hbb
        have RAa := RA.out.belowHere hbb
        have v0 := RFa.cellv (i := 0) rfl
        have v1 := RFa.cellv (i := 1) rfl
        have v2 := RFa.cellv (i := 2) rfl
        have e0 := RBa.cellv (i := 0) rfl
        have e1 := RBa.cellv (i := 1) rfl
        have e2 := RBa.cellv (i := 2) rfl
        have l0 := RBa.frozen 0
        have l1 := RBa.frozen 1
        have l2 := RBa.frozen 2
        have i0 := RAa.cellv (i := 0) rfl
        have i1 := RAa.cellv (i := 1) rfl
        have i2 := RAa.cellv (i := 2) rfl
        have j0 := RAa.frozen 0
        have j1 := RAa.frozen 1
        have j2 := RAa.frozen 2
        have HBa := Lib.hid (HBB.out.then_ hbb)
        clear hba hbb RFa RBa RAa hwf hgf d0 d1 d2 he
        go_wp2
        have hB1 := ((HBa.out.setCell (p := ⟨g2, 0, none⟩) (show wA.heap.size ≤ g2 by have := HgA.out; have := HG2.out; omega) (.int .i64 (x.si : Int))).setCell (p := ⟨g2, 1, none⟩) (show wA.heap.size ≤ g2 by have := HgA.out; have := HG2.out; omega) (.int .i64 kd)).setCell (p := ⟨g2, 2, none⟩) (show wA.heap.size ≤ g2 by have := HgA.out; have := HG2.out; omega) (.slice ad nl nd)
        have hB2 := ((hB1.setCell (p := ⟨g, 0, none⟩) (show wA.heap.size ≤ g by have := HgA.out; omega) (.int .i64 (x.si : Int))).setCell (p := ⟨g, 1, none⟩) (show wA.heap.size ≤ g by have := HgA.out; omega) (.int .i64 kd)).setCell (p := ⟨g, 2, none⟩) (show wA.heap.size ≤ g by have := HgA.out; omega) (.slice ad nl nd)
        rw [Exit.noGoto_ret]
        refine bodyPost_ret (v := .agg #[.int .i64 (x.si : Int), .int .i64 kd, .slice ad nl nd]) (by simp [results, Tryz.results67, go_sem, *]) rfl ⟨⟨_, _, by rw [HY.out, HKd.out], ?_⟩, HA.out.on hB2, HBA.out.on hB2⟩
        rw [HY.out]
        have hd := HDa.out.2.2.on hB2
        rw [HDv.out] at hd
        exact hd
      · have g9 : (rows[q].no == (x.si : Int)) = false := by simpa using he
        have HNo2 := Lib.hid (show ∀ j (h : j < rows.length), j < q + 1 → rows[j].no ≠ (x.si : Int) from fun j h hj => by
          by_cases e : j = q
          · subst e; exact he
          · exact HNo.out j h (by omega))
        have HQ := Lib.hid hlt
        clear he
        go_wp2
        go_roundw
        case rel => exact ⟨q + 1, HQ.out, by go_num, HNo2.out, HBr.out.alloc HBr.out.size _⟩
        case measure => have := HQ.out; simp [intOf]; omega
    · obtain rfl : q = n := by omega
      have HNF := Lib.hid (fnd_no HFl.out (fun i a b => (HFe.out i a b).1) (fun j h => HNo.out j h (by rw [HRn.out]; exact h)))
      have RBa := RB.out.belowHere HBr.out
      have RAa := RA.out.belowHere HBr.out
      have e0 := RBa.cellv (i := 0) rfl
      have e1 := RBa.cellv (i := 1) rfl
      have e2 := RBa.cellv (i := 2) rfl
      have i0 := RAa.cellv (i := 0) rfl
      have i1 := RAa.cellv (i := 1) rfl
      have i2 := RAa.cellv (i := 2) rfl
      have j0 := RAa.frozen 0
      have j1 := RAa.frozen 1
      have j2 := RAa.frozen 2
      clear RBa RAa
      have HBa := Lib.hid (HBB.out.then_ HBr.out)
      go_wp2
      have hB2 := ((HBa.out.setCell (p := ⟨g, 0, none⟩) (show wA.heap.size ≤ g by have := HgA.out; omega) (.int .i64 0)).setCell (p := ⟨g, 1, none⟩) (show wA.heap.size ≤ g by have := HgA.out; omega) (.int .i64 0)).setCell (p := ⟨g, 2, none⟩) (show wA.heap.size ≤ g by have := HgA.out; omega) (.slice none 0 0)
      rw [Exit.noGoto_ret]
      refine bodyPost_ret (v := .agg #[.int .i64 0, .int .i64 0, .slice none 0 0]) (by simp [results, Tryz.results67, go_sem, *]) rfl ⟨⟨_, _, by rw [HNF.out], ?_⟩, HA.out.on hB2, HBA.out.on hB2⟩
      rw [HNF.out]
      exact Own.nil _ _
end Go.Proofs.YtiipnpfaaghekaaGreat
namespace Go.Proofs.YtiipnpfaaghekaaGreat
open Go.RowKit

set_option maxRecDepth 100000 in
set_option maxHeartbeats 4000000 in
theorem program_ok (base N0 C BL P K i : Nat) (x : Cn) (ls : Nat → Option (List UInt8)) (fs : List Fl) (a : Option Addr) (c : Nat) (bs : List UInt8) (w : World) (h : Chp base N0 w C BL P K x i ls fs) (hd : x.dn = false) (hi : i < 8) (hx : Own byteV 5 w N0 (.slice a 96 c) bs) (hk : (fnd fs x.si).kind = 0) (hsi : x.si ≤ 1000000) (hsk : x.sk ≤ 1000000) (hfl : fs.length ≤ 1000) :
    Calls Tryz.prog 37 #[.pointer (some ⟨C, 0, none⟩), .int .i64 (K : Int), .int .i64 (i : Int), .slice a 96 c] w fun e w' => e = .returned (.int .i64 0) ∧ Chp base N0 w' C BL P K { x with si := x.si + 1, sk := x.sk + 1 } (i + 1) (fun j => if j = i then some bs else ls j) fs ∧ Kp C BL P w w' := by
  have HA := Lib.hid (asked_calls base N0 C BL P K i i x ls fs w h hd hi)
  have HF := Lib.hid (full_calls base N0 C BL P K i x ls fs w h)
  have HFa := Lib.hid (fault_calls base N0 C BL P K i x ls fs w h hsi hsk hfl)
  rw [hk] at HFa
  have c3 := h.c3
  have b1 := h.b1.1
  have b2 := h.b2.1
  have b3 := h.b3.1
  have g1 : (0 : Int) ≤ (K : Int) := by omega
  have g2 : (K : Int) < 16 := by have := h.hK; omega
  have HX := Lib.hid hx
  have HLen := Lib.hid (show bs.length = 96 by obtain ⟨_, _, e, _⟩ := hx.form; injection e with _ e2 _; exact e2.symm)
  have hd4 := h.dis.2.2.2.1
  have hd5 := h.dis.2.2.2.2.1
  have hd6 := h.dis.2.2.2.2.2.1
  clear h hx hd hk
  go_enter Tryz.func37, Tryz.ntmps37
  go_wp2_with fail
  refine (HA.out).mono ?_
  rintro e w_ ⟨rfl, rfl⟩
  go_wp2_with fail
  refine HF.out.mono ?_
  rintro e w_ ⟨rfl, rfl⟩
  go_wp2_with fail
  refine HFa.out.mono ?_
  rintro e w1 ⟨⟨no, dv, rfl, hdv⟩, h1, hk1⟩
  obtain ⟨ad, nd, rfl, hnd⟩ := hdv.form
  have H1 := Lib.hid (h1.on ((Below.refl w1.heap.size w1).alloc (Nat.le_refl _) (.cells #[.int .i64 no, .int .i64 0, .slice ad (fnd fs x.si).data.length nd] 114)))
  have HK1 := Lib.hid (hk1.on ((Below.refl w1.heap.size w1).alloc (Nat.le_refl _) (.cells #[.int .i64 no, .int .i64 0, .slice ad (fnd fs x.si).data.length nd] 114)))
  have HO1 := Lib.hid (Own.kp HX.out HK1.out hd4 hd5 hd6)
  clear h1 hk1 hdv hnd
  generalize (fnd fs x.si).data.length = m at *
  go_wp2_with fail
  refine (clone_calls a 96 c bs _ (HO1.out.arr (by rw [HLen.out]; omega))).mono ?_
  rintro e w3 ⟨⟨v, rfl, hv⟩, hb3⟩
  have H3 := Lib.hid (H1.out.on hb3)
  have HK3 := Lib.hid (HK1.out.on hb3)
  have hlen := HLen.out
  obtain ⟨a3, c3, rfl, hc3⟩ := hv.formN hlen
  have HV := Lib.hid (show PgAt w3 N0 (.slice a3 96 c3) (some bs) from ⟨by rw [hlen]; omega, hv.mono H1.out.hN⟩)
  clear hb3 hv hc3 hlen
  go_wp2_with fail
  refine (bput_calls base N0 C BL P K i _ ls fs a3 96 c3 bs w3 H3.out hi HV.out).mono ?_
  rintro e w4 ⟨rfl, h4, hk4⟩
  have H4 := Lib.hid h4
  have HK4 := Lib.hid (HK3.out.trans hk4)
  clear h4 hk4
  go_wp2_with fail
  go_ret
  exact ⟨rfl, H4.out, HK4.out⟩
set_option maxRecDepth 100000 in
set_option maxHeartbeats 4000000 in
theorem program_torn (base N0 C BL P K i : Nat) (x : Cn) (ls : Nat → Option (List UInt8)) (fs : List Fl) (a : Option Addr) (c : Nat) (bs : List UInt8) (w : World) (h : Chp base N0 w C BL P K x i ls fs) (hd : x.dn = false) (hi : i < 8) (hx : Own byteV 5 w N0 (.slice a 96 c) bs) (hk : (fnd fs x.si).kind = 2) (hdl : (fnd fs x.si).data.length ≤ 96) (hsi : x.si ≤ 1000000) (hsk : x.sk ≤ 1000000) (hfl : fs.length ≤ 1000) :
    Calls Tryz.prog 37 #[.pointer (some ⟨C, 0, none⟩), .int .i64 (K : Int), .int .i64 (i : Int), .slice a 96 c] w fun e w' => e = .returned (.int .i64 4) ∧ Chp base N0 w' C BL P K { x with si := x.si + 1, sk := x.sk + 1, dn := true } (i + 1) (fun j => if j = i then some (tornL (fnd fs x.si).data) else ls j) fs ∧ Kp C BL P w w' := by
  have HA := Lib.hid (asked_calls base N0 C BL P K i i x ls fs w h hd hi)
  have HF := Lib.hid (full_calls base N0 C BL P K i x ls fs w h)
  have HFa := Lib.hid (fault_calls base N0 C BL P K i x ls fs w h hsi hsk hfl)
  rw [hk] at HFa
  have c3 := h.c3
  have b1 := h.b1.1
  have b2 := h.b2.1
  have b3 := h.b3.1
  have g1 : (0 : Int) ≤ (K : Int) := by omega
  have g2 : (K : Int) < 16 := by have := h.hK; omega
  have HX := Lib.hid hx
  have HLen := Lib.hid (show bs.length = 96 by obtain ⟨_, _, e, _⟩ := hx.form; injection e with _ e2 _; exact e2.symm)
  have hd4 := h.dis.2.2.2.1
  have hd5 := h.dis.2.2.2.2.1
  have hd6 := h.dis.2.2.2.2.2.1
  clear h hx hd hk
  go_enter Tryz.func37, Tryz.ntmps37
  go_wp2_with fail
  refine (HA.out).mono ?_
  rintro e w_ ⟨rfl, rfl⟩
  go_wp2_with fail
  refine HF.out.mono ?_
  rintro e w_ ⟨rfl, rfl⟩
  go_wp2_with fail
  refine HFa.out.mono ?_
  rintro e w1 ⟨⟨no, dv, rfl, hdv⟩, h1, hk1⟩
  obtain ⟨ad, nd, rfl, hnd⟩ := hdv.form
  have H1 := Lib.hid (h1.on ((Below.refl w1.heap.size w1).alloc (Nat.le_refl _) (.cells #[.int .i64 no, .int .i64 2, .slice ad (fnd fs x.si).data.length nd] 114)))
  have HK1 := Lib.hid (hk1.on ((Below.refl w1.heap.size w1).alloc (Nat.le_refl _) (.cells #[.int .i64 no, .int .i64 2, .slice ad (fnd fs x.si).data.length nd] 114)))
  have HD := Lib.hid (hdv.on ((Below.refl w1.heap.size w1).alloc (Nat.le_refl _) (.cells #[.int .i64 no, .int .i64 2, .slice ad (fnd fs x.si).data.length nd] 114)))
  have HDl := Lib.hid hdl
  clear h1 hk1 hdv hnd hdl
  generalize hdat : (fnd fs x.si).data = data at *
  have HDat := Lib.hid hdat
  clear hdat
  obtain ⟨m, hm⟩ : ∃ m, m = data.length := ⟨_, rfl⟩
  rw [← hm] at HD HK1 H1 ⊢
  have hm96 : m ≤ 96 := by rw [hm]; exact HDl.out
  have HMl := Lib.hid hm
  clear hm
  go_wp2_with fail
  refine (ctorn_calls base N0 C BL P K i _ ls fs ad m nd data _ H1.out (HD.out.arr (by have := HDl.out; omega)) hm96).mono ?_
  rintro e w3 ⟨⟨v, rfl, hv⟩, hb3⟩
  have H3 := Lib.hid (H1.out.on hb3)
  have HK3 := Lib.hid (HK1.out.on hb3)
  have hlen := tornL_len HDl.out
  obtain ⟨a3, c3, rfl, hc3⟩ := hv.formN hlen
  have HV := Lib.hid (show PgAt w3 N0 (.slice a3 96 c3) (some (tornL data)) from ⟨by rw [hlen]; omega, hv.mono H1.out.hN⟩)
  clear hb3 hv hc3 hlen
  go_wp2_with fail
  refine (bput_calls base N0 C BL P K i _ ls fs a3 96 c3 (tornL data) w3 H3.out hi HV.out).mono ?_
  rintro e w4 ⟨rfl, h4, hk4⟩
  have c6 := h4.c6
  have f6 := h4.frzC 6
  have H4 := Lib.hid (h4.setC (x' := { x with si := x.si + 1, sk := x.sk + 1, dn := true }) 6 (.bool true) rfl rfl)
  have HK4 := Lib.hid ((HK3.out.trans hk4).setCell (p := ⟨C, 6, none⟩) (.inl rfl) (.bool true))
  clear h4 hk4
  go_wp2_with fail
  go_ret
  refine ⟨rfl, ?_, HK4.out⟩
  rw [HDat.out]
  exact H4.out
end Go.Proofs.YtiipnpfaaghekaaGreat
/-
  What must come of fixed calls.
-/
namespace Go.Proofs.YtiipnpfaaghekaaGreat
open Go.RowKit

def noPg : Nat → Option (List UInt8) := fun _ => none
/-- A blank chip, as the chip in memory. -/
theorem BlI.chp {base B K : Nat} {w wr : World} (h : BlI base K w wr 16) (hK : K < 16) (hB : B ≤ base) : ∃ P, Chp B wr.heap.size wr (base + 2) (base + 1) P K cn0 0 noPg [] := by
  obtain ⟨h1, h2, ⟨bs, b1, b2, b3, b4⟩, h4⟩ := h
  obtain ⟨P, p1, p2, p3⟩ := b4 hK
  have hP : P < wr.heap.size := (p2.blockLt P rfl).2
  have hC := h2.lt
  refine ⟨P, h2, ⟨bs, b1, p1, b2.mono hB⟩, ⟨nil8, rfl, p2.mono hB, fun i hi => ?_⟩, Flts.nil _ _, ⟨by omega, by omega, by omega, hC, by omega, hP, by omega, by omega, by omega⟩, hK, Nat.le_refl _⟩
  show nil8[i] = .slice none 0 0
  exact List.eq_of_mem_replicate (n := 8) (List.getElem_mem hi)
set_option maxRecDepth 100000 in
set_option maxHeartbeats 4000000 in
theorem new_calls (K : Nat) (hK : K < 16) (w : World) :
    Calls Tryz.prog 18 #[.agg #[.int .i64 16, .int .i64 8, .int .i64 64], .slice none 0 0] w fun e w' => (∃ C BL P, e = .returned (.tuple #[.pointer (some ⟨C, 0, none⟩), .int .i64 0]) ∧ Chp w.heap.size w'.heap.size w' C BL P K cn0 0 noPg []) ∧ Below w.heap.size w w' := by
  have B1 := Lib.hid (Blk.new w 48 #[.int .i64 16, .int .i64 8, .int .i64 64])
  have HB0 := Lib.hid ((Below.refl w.heap.size w).alloc (Nat.le_refl _) (.cells #[.int .i64 16, .int .i64 8, .int .i64 64] 48))
  go_enter Tryz.func18, Tryz.ntmps18
  have c0 := B1.out.cellv (i := 0) rfl
  have c1 := B1.out.cellv (i := 1) rfl
  have c2 := B1.out.cellv (i := 2) rfl
  go_wp2_with fail
  refine (right_calls _).mono ?_
  rintro e w1 ⟨rfl, hb⟩
  have HB1 := Lib.hid (HB0.out.then_ hb)
  have B2 := B1.out.belowHere hb
  clear hb c0 c1 c2 HB0 B1
  have c0 := B2.cellv (i := 0) rfl
  have c1 := B2.cellv (i := 1) rfl
  have c2 := B2.cellv (i := 2) rfl
  clear B2
  go_wp2_with fail
  refine (blank_calls K hK _).mono ?_
  rintro e w2 ⟨rfl, hI⟩
  have HB2 := Lib.hid (HB1.out.then_ hI.hb)
  obtain ⟨P, hC⟩ := hI.chp (B := w.heap.size) hK HB1.out.size
  have HC := Lib.hid hC
  generalize w1.heap.size = g at *
  clear hI hC c0 c1 c2
  go_wp2
  go_loopw [8, 16] (fun _ i wr => i = .int .i64 0 ∧ wr = w2) (fun _ _ _ => 0)
  case atStart => exact ⟨rfl, rfl⟩
  case round =>
    obtain ⟨rfl, rfl⟩ := hrel
    go_wp2
    go_ret2
    exact ⟨⟨_, _, _, rfl, HC.out⟩, HB2.out⟩
end Go.Proofs.YtiipnpfaaghekaaGreat
namespace Go.Proofs.YtiipnpfaaghekaaGreat
open Go.RowKit

theorem mk64 (u : World) : (Instr.makeSlice 22 (.int .i64 64) (.int .i64 64)).run Tryz.prog u = .ok (.slice (some ⟨u.heap.size, 0, none⟩) 64 64) (u.alloc (.cells (Array.replicate 64 (.int .u8 0)) 5)) := makeZ 64 (by omega) u
namespace Tg
def ones : Tg := ⟨1, 1, 1, 1⟩
theorem ones_right : Right ones := by decide
end Tg
set_option maxHeartbeats 4000000 in
theorem awake_calls (w : World) :
    Calls Tryz.prog 13 #[] w fun e w' => e = .returned (.bool true) ∧ Below w.heap.size w w' := by
  have hmk := mk64
  go_enter Tryz.func13, Tryz.ntmps13
  go_wp2_with fail
  refine (small_calls _).mono ?_
  rintro e w1 ⟨rfl, h_⟩
  have HB1 := Lib.hid h_
  clear h_
  go_wp2_with fail
  refine (new_calls 0 (by omega) _).mono ?_
  rintro e w2 ⟨⟨C, BL, P, rfl, hc⟩, hb⟩
  have HB2 := Lib.hid (HB1.out.then_ hb)
  have ho := ownMadeZ w2 w2.heap.size 64 (Nat.le_refl _) (by omega)
  have HX := Lib.hid (ho.arr (by simp))
  have hba := (Below.refl w2.heap.size w2).alloc (Nat.le_refl _) (.cells (Array.replicate 64 (.int .u8 0)) 5)
  have HC := Lib.hid (hc.on hba)
  have HB3 := Lib.hid (HB2.out.then_ hba)
  clear hb hc ho hba
  go_wp2_with fail
  refine (twrite_good Tg.ones _ 64 64 (List.replicate 64 0) _ Tg.ones_right (by decide) HX.out).mono ?_
  rintro e w4 ⟨⟨v, rfl, ho⟩, hb⟩
  have hlen : (Tg.page Tg.ones (List.replicate 64 0)).length = 96 := by rw [Tg.page_len]; rfl
  obtain ⟨a, c, rfl, hcc⟩ := ho.formN hlen
  have HC4 := Lib.hid (HC.out.on hb)
  have HB4 := Lib.hid (HB3.out.then_ hb)
  have HO4 := Lib.hid (ho.mono HC.out.hN)
  clear hb ho hcc hmk hlen
  go_wp2_with fail
  refine (program_ok _ _ C BL P 0 0 cn0 noPg [] a c _ _ HC4.out rfl (by omega) HO4.out rfl (by decide) (by decide) (by decide)).mono ?_
  rintro e w5 ⟨rfl, h5, hk5⟩
  have HB5 := Lib.hid (HC4.out.below hk5)
  clear h5 hk5
  go_wp2
  go_ret
  exact ⟨rfl, HB4.out.trans (HB5.out.mono HB1.out.size)⟩
end Go.Proofs.YtiipnpfaaghekaaGreat
