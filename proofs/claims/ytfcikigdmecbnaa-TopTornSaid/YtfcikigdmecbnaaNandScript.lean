/-
  One fault is set: Script.
-/
import Derived.Test.YtfcikigdmecbnaaNandAsk
import Derived.Test.YtfcikigdmecbnaaSlClone
import Derived.Deep.DeepCutAuto
import Derived.Test.YtfcikigdmecbnaaMapAt
namespace Go.Proofs.Ytfcikigdmecbnaa
open Go.RowKit

theorem infoFault : (Try.prog.info? 33).map (fun i => (i.zero, i.size, i.bytes)) = some (some (.agg #[.int .i64 0, .int .i64 0, .slice none 0 0]), 3, 40) := by kernel_rfl
/-- A fault as its three cells, its data a slice. -/
structure Fs where
  no : Int
  kind : Int
  a : Option Addr
  n : Nat
  c : Nat
def fsL (x : Fs) : List Value := [.int .i64 x.no, .int .i64 x.kind, .slice x.a x.n x.c]
theorem fs_len (x : Fs) : (fsL x).length = 3 := rfl
theorem fs_one : ∀ (x : Fs), ∀ u ∈ fsL x, u.oneCell' = true := fun x u hu => by
  simp only [fsL, List.mem_cons, List.not_mem_nil, or_false] at hu
  rcases hu with rfl | rfl | rfl <;> rfl
theorem step_litFault {w : World} {ops : Array Oper} {o : Oper} {ac : Act} {Q : Exit → Act → World → Prop} {cs : Array Value} {K : Act → World → Prop} {E : Prop} (hgd : o.guard = none) (s x : Operand) (ho : o.op = .call { callee := .builtin .append, args := #[s, x], argTypes := #[34, 34] })
    (hs : ac.eval s = .slice none 0 0) (y : Fs) (g : Nat) (hx : ac.eval x = .slice (some ⟨g, 0, none⟩) 1 1) (hg : g = w.heap.size) (hcs : cs = (fsL y).toArray)
    (h : ∀ v' w', Hid (OwnM 3 fvL 33 w' w.heap.size v' [⟨y.no, y.kind, .slice y.a y.n y.c⟩]) → Hid (Below w.heap.size w w') → K (ac.put o.dst v') w') : if Region.wanted o (yielded ops ac.tmps) = true then Oper.wp Try.prog o ac (w.alloc (.cells cs 33)) K Q else E := by
  have hw : Region.wanted o (yielded ops ac.tmps) = true := by simp [Region.wanted, hgd]
  rw [if_pos hw]
  subst hg
  obtain ⟨i0, hi, hz0, hz1, hz2⟩ := info_parts infoFault
  have hb2 : w.heap.size ≤ (w.alloc (.cells cs 33)).heap.size := by simp
  have hown := OwnM.nil fs_len (e := 33) (w.alloc (.cells cs 33)) w.heap.size
  exact wp_append_OwnM s x 34 ho w.heap.size 33 i0 _ 40 Try.underlying34 hi hz0 hz1 hz2 rfl (by decide) fs_one _ [] hs hown _ _ 1 1 [y] hx (ArrM.lit1 w 33 y hcs) (by simp) (by simp only [maxLen]; simp) hb2 fun v' w' h1 h2 _ =>
    h v' w' (Lib.hid ⟨fv_len, h1.2⟩) (Lib.hid (((Below.refl w.heap.size w).alloc (Nat.le_refl _) _).trans (below_ownM (Below.refl _ _) hown h2 hb2)))
set_option maxRecDepth 100000 in
set_option maxHeartbeats 4000000 in
theorem script_calls (base N0 C BL P K nx : Nat) (x : Cn) (ls : Nat → Option (List UInt8)) (fs : List Fl) (b o c : Nat) (no kd : Int) (ad : Option Addr) (m cd : Nat) (data : List UInt8) (w : World) (h : Chp base N0 w C BL P K x nx ls fs)
    (hr : ArrM 3 fvL w w.heap.size (some ⟨b, o, none⟩) 1 [⟨no, kd, .slice ad m cd⟩]) (hbC : b ≠ C) (hno : 0 ≤ no) (hx : Bytes w base ad m data) :
    Calls Try.prog 6 #[.pointer (some ⟨C, 0, none⟩), .slice (some ⟨b, o, none⟩) 1 c] w fun e w' => e = .returned (.int .i64 0) ∧ (∃ v, Chp base N0 w' C BL P K { x with fv := v, si := 0 } nx ls [⟨no, kd, data⟩]) ∧ Kp C BL P w w' := by
  have H := Lib.hid h
  have HR := Lib.hid hr
  have HX := Lib.hid hx
  obtain ⟨b', o', _, ha, hbl, hcx⟩ := hr.atv (k := 0) (by omega)
  injection ha with ha
  injection ha with ha1 ha2
  subst ha1 ha2
  have d0 : w.cell? ⟨b, o, none⟩ = some (.int .i64 no) := hcx 0 _ rfl
  have d1 : w.cell? ⟨b, o + 1, none⟩ = some (.int .i64 kd) := hcx 1 _ rfl
  have d2 : w.cell? ⟨b, o + 2, none⟩ = some (.slice ad m cd) := hcx 2 _ rfl
  clear h hr hx hcx
  go_enter Try.func6, Try.ntmps6
  go_wp2
  go_loopw [6, 13] (fun _ i wr => ∃ q : Nat, q ≤ 1 ∧ i = .int .i64 q ∧ Below w.heap.size w wr) (fun _ i _ => 1 - (intOf i).toNat)
  case atStart => exact ⟨0, by omega, rfl, Below.refl _ _⟩
  case round =>
    obtain ⟨q, hq, rfl, hb⟩ := hrel
    have HBr := Lib.hid hb
    by_cases hlt : q < 1
    · obtain rfl : q = 0 := by omega
      have e0 := (hb.cell (p := ⟨b, o, none⟩) hbl).trans d0
      have e1 := (hb.cell (p := ⟨b, o + 1, none⟩) hbl).trans d1
      have e2 := (hb.cell (p := ⟨b, o + 2, none⟩) hbl).trans d2
      have hno2 : decide (no < 0) = false := decide_eq_false (by omega)
      clear hb d0 d1 d2
      go_wp2
      go_roundw
      case rel => exact ⟨1, by omega, by go_num, HBr.out.alloc HBr.out.size _⟩
      case measure => simp [intOf]
    · obtain rfl : q = 1 := by omega
      have e0 := (hb.cell (p := ⟨b, o, none⟩) hbl).trans d0
      have e1 := (hb.cell (p := ⟨b, o + 1, none⟩) hbl).trans d1
      have e2 := (hb.cell (p := ⟨b, o + 2, none⟩) hbl).trans d2
      have h1 := H.out.on hb
      have hbw : base ≤ w.heap.size := by have := H.out.dis.2.2.2.2.2.2.1; have := H.out.hC.lt; omega
      have HX1 := Lib.hid (HX.out.below (hb.mono hbw))
      have hbl1 : b < wr.heap.size := Nat.lt_of_lt_of_le hbl hb.size
      have c4 := h1.c4
      have f4 := h1.frzC 4
      have c5 := h1.c5
      have f5 := h1.frzC 5
      go_wp2
      have H2' := (h1.setF (x' := { x with fv := .slice none 0 0 }) (.slice none 0 0) rfl (Flts.nil wr N0)).setC (x' := { x with fv := .slice none 0 0, si := 0 }) 5 (.int .i64 0) rfl rfl
      have K2' := ((Kp.of (C := C) (BL := BL) (P := P) hb).setCell (p := ⟨C, 4, none⟩) (.inl rfl) (.slice none 0 0)).setCell (p := ⟨C, 5, none⟩) (.inl rfl) (.int .i64 0)
      have X2' := (HX1.out.below (((Below.refl base wr).setCell (p := ⟨C, 4, none⟩) H.out.dis.2.2.2.2.2.2.1 (.slice none 0 0)).setCell (p := ⟨C, 5, none⟩) H.out.dis.2.2.2.2.2.2.1 (.int .i64 0)))
      have q0 := ((World.cell?_setCell_far (wr.setCell ⟨C, 4, none⟩ (.slice none 0 0)) ⟨C, 5, none⟩ ⟨b, o, none⟩ (.int .i64 0) (by simpa using Ne.symm hbC)).trans (World.cell?_setCell_far wr ⟨C, 4, none⟩ ⟨b, o, none⟩ (.slice none 0 0) (by simpa using Ne.symm hbC))).trans e0
      have q1 := ((World.cell?_setCell_far (wr.setCell ⟨C, 4, none⟩ (.slice none 0 0)) ⟨C, 5, none⟩ ⟨b, o + 1, none⟩ (.int .i64 0) (by simpa using Ne.symm hbC)).trans (World.cell?_setCell_far wr ⟨C, 4, none⟩ ⟨b, o + 1, none⟩ (.slice none 0 0) (by simpa using Ne.symm hbC))).trans e1
      have q2 := ((World.cell?_setCell_far (wr.setCell ⟨C, 4, none⟩ (.slice none 0 0)) ⟨C, 5, none⟩ ⟨b, o + 2, none⟩ (.int .i64 0) (by simpa using Ne.symm hbC)).trans (World.cell?_setCell_far wr ⟨C, 4, none⟩ ⟨b, o + 2, none⟩ (.slice none 0 0) (by simpa using Ne.symm hbC))).trans e2
      have hbl2 : b < ((wr.setCell ⟨C, 4, none⟩ (.slice none 0 0)).setCell ⟨C, 5, none⟩ (.int .i64 0)).heap.size := by simpa using hbl1
      clear hb d0 d1 d2 HBr e0 e1 e2 c4 f4 c5 f5 h1 HX1 hbl1
      generalize (wr.setCell ⟨C, 4, none⟩ (.slice none 0 0)).setCell ⟨C, 5, none⟩ (.int .i64 0) = w2 at *
      have H2 := Lib.hid H2'
      have HK2 := Lib.hid K2'
      have HX2 := Lib.hid X2'
      clear H2' K2' X2'
      go_loopw [8, 29] (fun _ i wi => ∃ q : Nat, q ≤ 1 ∧ i = .int .i64 q ∧ ((q = 0 ∧ Below w2.heap.size w2 wi) ∨ (q = 1 ∧ (∃ v, Chp base N0 wi C BL P K { x with fv := v, si := 0 } nx ls [⟨no, kd, data⟩]) ∧ Kp C BL P w wi))) (fun _ i _ => 1 - (intOf i).toNat)
      case atStart => exact ⟨0, by omega, rfl, .inl ⟨rfl, Below.refl _ _⟩⟩
      case round =>
        obtain ⟨q, hq, rfl, hrel⟩ := hrel
        rcases hrel with ⟨rfl, hb⟩ | ⟨rfl, hch, hkp⟩
        · have e0 := (hb.cell (p := ⟨b, o, none⟩) hbl2).trans q0
          have e1 := (hb.cell (p := ⟨b, o + 1, none⟩) hbl2).trans q1
          have e2 := (hb.cell (p := ⟨b, o + 2, none⟩) hbl2).trans q2
          clear q0 q1 q2
          have hw2 : base ≤ w2.heap.size := by have := H2.out.dis.2.2.2.2.2.2.1; have := H2.out.hC.lt; omega
          have hba := (Below.refl wr.heap.size wr).alloc (Nat.le_refl _) (.cells #[.int .i64 no, .int .i64 kd, .slice ad m cd] 33)
          have hbb := hb.then_ hba
          have RF0 := Blk.new wr 33 #[.int .i64 no, .int .i64 kd, .slice ad m cd]
          have hxc : Bytes (wr.alloc (.cells #[.int .i64 no, .int .i64 kd, .slice ad m cd] 33)) (wr.alloc (.cells #[.int .i64 no, .int .i64 kd, .slice ad m cd] 33)).heap.size ad m data := (HX2.out.below (hbb.mono hw2)).mono (Nat.le_trans hw2 hbb.size)
          have HCl := Lib.hid (clone_calls ad m cd data _ hxc)
          have hdl := HX2.out.len
          have hgf : w2.heap.size ≤ wr.heap.size := hb.size
          have hsz : (wr.alloc (.cells #[.int .i64 no, .int .i64 kd, .slice ad m cd] 33)).heap.size = wr.heap.size + 1 := by simp
          clear hxc hb
          go_wp2_with fail
          generalize wr.alloc (.cells #[.int .i64 no, .int .i64 kd, .slice ad m cd] 33) = wq at *
          generalize wr.heap.size = gf at *
          refine HCl.out.mono ?_
          rintro e w5 ⟨⟨v, rfl, ho⟩, hb5⟩
          obtain ⟨a5, cc5, rfl, _⟩ := ho.formN hdl
          have RF5 := RF0.belowHere hb5
          have f2 := RF5.cellv (i := 2) rfl
          have z2 := RF5.frozen 2
          have RF6 := RF5.set 2 (.slice a5 m cc5)
          have HO6' := own_far (p := ⟨gf, 2, none⟩) ho (by show gf < _; omega) (.slice a5 m cc5)
          have HB6' := (hbb.then_ hb5).setCell (p := ⟨gf, 2, none⟩) hgf (.slice a5 m cc5)
          have hqN : N0 ≤ wq.heap.size := by have := H2.out.hN; omega
          have hgC : gf ≠ C := by have := H2.out.hC.lt; omega
          clear e0 e1 e2 RF0 RF5 ho hb5 hba hbb HCl
          go_upto_region 14 with fail
          generalize w5.setCell ⟨gf, 2, none⟩ (.slice a5 m cc5) = w6 at *
          have HRd := Lib.hid (show Blk w6.drew gf 33 #[.int .i64 no, .int .i64 kd, .slice a5 m cc5] from RF6)
          have HBd := Lib.hid (HB6'.then_ (below_drew w6))
          have H6 := Lib.hid (H2.out.on HBd.out)
          have HOd := Lib.hid (HO6'.on (below_drew w6))
          have HFin := Lib.hid (show ∀ v7 w7, OwnM 3 fvL 33 w7 w6.drew.heap.size v7 [⟨no, kd, .slice a5 m cc5⟩] → Below w6.drew.heap.size w6.drew w7 → Chp base N0 (w7.setCell ⟨C, 4, none⟩ v7) C BL P K { x with fv := v7, si := 0 } nx ls [⟨no, kd, data⟩] ∧ Kp C BL P w (w7.setCell ⟨C, 4, none⟩ v7) from fun v7 w7 ho7 hb7 => by
            refine ⟨(H6.out.on hb7).setF (x' := { x with fv := v7, si := 0 }) v7 rfl ⟨[⟨no, kd, .slice a5 m cc5⟩], ho7.mono H6.out.hN, rfl, fun i h1 h2 => ?_⟩, (HK2.out.on (HBd.out.then_ hb7)).setCell (p := ⟨C, 4, none⟩) (.inl rfl) v7⟩
            obtain rfl : i = 0 := by simpa using h1
            exact ⟨rfl, rfl, (HOd.out.mono hqN).on hb7⟩)
          have c4 := H6.out.c4
          clear f2 z2 RF6 HO6' HB6'
          have hld : ∀ u : World, u.cell? ⟨C, 4, none⟩ = some (.slice none 0 0) → (Instr.loadAt 34 (.pointer (some ⟨C, 4, none⟩))).run Try.prog u = .ok (.slice none 0 0) u := fun u hu => by go_simp
          refine wp_region_noPanic ?_
          refine wp_region_held_drew (S := (fun W' => Blk W' gf 33 #[.int .i64 no, .int .i64 kd, .slice a5 m cc5])) (by kernel_rfl) HRd.out (fun hS0 => ?_)
          refine takeV 0 (v := (.pointer (some ⟨C, 0, none⟩))) rfl (by kernel_rfl) (by kernel_rfl) (by kernel_rfl) (fun _ _ _ h => h) (by rfl) (fun _ _ => rfl) (by assumption) ?_
          try simp only [layR]
          refine takeV 1 (v := (.pointer (some ⟨C, 0, none⟩))) rfl (by kernel_rfl) (by kernel_rfl) (by kernel_rfl) (fun _ _ _ h => h) (by rfl) (fun _ _ => rfl) (by assumption) ?_
          try simp only [layR]
          refine takeV 2 (v := (.pointer (some ⟨C, 0, none⟩))) rfl (by kernel_rfl) (by kernel_rfl) (by kernel_rfl) (fun _ _ _ h => h) (by rfl) (fun W hSw => ?_) (by assumption) ?_
          · skip
            go_simp
          try simp only [layR]
          refine takeV 3 (v := (.pointer (some ⟨C, 4, none⟩))) rfl (by kernel_rfl) (by kernel_rfl) (by kernel_rfl) (fun _ _ _ h => h) (by rfl) (fun W hSw => ?_) (by assumption) ?_
          · skip
            go_simp
          try simp only [layR]
          refine takeV 5 (v := (.agg #[.int .i64 no, .int .i64 kd, .slice a5 m cc5])) rfl (by kernel_rfl) (by kernel_rfl) (by kernel_rfl) (fun _ _ _ h => h) (by rfl) (fun W hSw => ?_) (by assumption) ?_
          · have y0 := hSw.cellv (i := 0) rfl; have y1 := hSw.cellv (i := 1) rfl; have y2 := hSw.cellv (i := 2) rfl
            go_simp
          try simp only [layR]
          refine wpAnyH_ready (rs := [4, 6]) (by kernel_rfl) (by simp) ?_
          refine AllReadyH.cons rfl (fun K' hK => ?_) (AllReadyH.cons rfl (fun K' hK => ?_) AllReadyH.nil)
          · refine step_exec rfl (exec_load _ _ rfl (hld _ c4)) ?_
            refine hK.out _ _ hS0 (fun hS1 => ?_)
            try simp only [layR]
            refine wpAnyH_ready (rs := [6]) (by kernel_rfl) (by simp) ?_
            refine AllReadyH.cons rfl (fun K' hK => ?_) AllReadyH.nil
            go_simp
            refine hK.out _ _ (hS1.alloc _) (fun hS2 => ?_)
            try simp only [layR]
            refine wpAnyH_ready (rs := [7]) (by kernel_rfl) (by simp) ?_
            refine AllReadyH.cons rfl (fun K' hK => ?_) AllReadyH.nil
            refine step_litFault (w := w6.drew) (cs := #[.int .i64 no, .int .i64 kd, .slice a5 m cc5]) rfl (.tmp 41) (.tmp 43) rfl rfl ⟨no, kd, a5, m, cc5⟩ w6.heap.size rfl rfl rfl ?_
            intro v7 w7 HO7 HB7
            obtain ⟨a7, c7, rfl, _⟩ := HO7.out.formN (n := 1) rfl
            have hfin := HFin.out _ _ HO7.out HB7.out
            have H7 := H6.out.on HB7.out
            have q4 := H7.c4
            have z4 := H7.frzC 4
            have HF := Lib.hid hfin
            clear hfin H7
            refine hK.out _ _ (HRd.out.belowHere HB7.out) (fun hS3 => ?_)
            try simp only [layR]
            refine takeV 8 (v := (.pointer (some ⟨C, 0, none⟩))) rfl (by kernel_rfl) (by kernel_rfl) (by kernel_rfl) (fun _ _ _ h => h) (by rfl) (fun W hSw => ?_) (by assumption) ?_
            · skip
              go_simp
            try simp only
            refine takeV 9 (v := (.pointer (some ⟨C, 4, none⟩))) rfl (by kernel_rfl) (by kernel_rfl) (by kernel_rfl) (fun _ _ _ h => h) (by rfl) (fun W hSw => ?_) (by assumption) ?_
            · skip
              go_simp
            try simp only
            refine wpAnyH_ready (rs := [10]) (by kernel_rfl) (by simp) ?_
            refine AllReadyH.cons rfl (fun K' hK => ?_) AllReadyH.nil
            go_simp
            refine hK.out _ _ (hS3.far (p := ⟨C, 4, none⟩) hgC _) (fun hS4 => ?_)
            try simp only [layR]
            refine wpAnyH_done (by kernel_rfl) ?_ _
            refine NoPanic.normal ?_
            clear hS0 hS1 hS2 hS3 hS4 hld
            go_wp2
            go_roundw
            case rel => exact ⟨1, by omega, by go_num, .inr ⟨rfl, ⟨_, HF.out.1⟩, HF.out.2⟩⟩
            case measure => simp [intOf]
          · go_simp
            refine hK.out _ _ (hS0.alloc _) (fun hS1 => ?_)
            try simp only [layR]
            refine wpAnyH_ready (rs := [4]) (by kernel_rfl) (by simp) ?_
            refine AllReadyH.cons rfl (fun K' hK => ?_) AllReadyH.nil
            refine step_exec rfl (exec_load _ _ rfl (hld _ (H6.out.on ((Below.refl _ _).alloc (Nat.le_refl _) _)).c4)) ?_
            refine hK.out _ _ hS1 (fun hS2 => ?_)
            try simp only [layR]
            refine wpAnyH_ready (rs := [7]) (by kernel_rfl) (by simp) ?_
            refine AllReadyH.cons rfl (fun K' hK => ?_) AllReadyH.nil
            refine step_litFault (w := w6.drew) (cs := #[.int .i64 no, .int .i64 kd, .slice a5 m cc5]) rfl (.tmp 41) (.tmp 43) rfl rfl ⟨no, kd, a5, m, cc5⟩ w6.heap.size rfl rfl rfl ?_
            intro v7 w7 HO7 HB7
            obtain ⟨a7, c7, rfl, _⟩ := HO7.out.formN (n := 1) rfl
            have hfin := HFin.out _ _ HO7.out HB7.out
            have H7 := H6.out.on HB7.out
            have q4 := H7.c4
            have z4 := H7.frzC 4
            have HF := Lib.hid hfin
            clear hfin H7
            refine hK.out _ _ (HRd.out.belowHere HB7.out) (fun hS3 => ?_)
            try simp only [layR]
            refine takeV 8 (v := (.pointer (some ⟨C, 0, none⟩))) rfl (by kernel_rfl) (by kernel_rfl) (by kernel_rfl) (fun _ _ _ h => h) (by rfl) (fun W hSw => ?_) (by assumption) ?_
            · skip
              go_simp
            try simp only
            refine takeV 9 (v := (.pointer (some ⟨C, 4, none⟩))) rfl (by kernel_rfl) (by kernel_rfl) (by kernel_rfl) (fun _ _ _ h => h) (by rfl) (fun W hSw => ?_) (by assumption) ?_
            · skip
              go_simp
            try simp only
            refine wpAnyH_ready (rs := [10]) (by kernel_rfl) (by simp) ?_
            refine AllReadyH.cons rfl (fun K' hK => ?_) AllReadyH.nil
            go_simp
            refine hK.out _ _ (hS3.far (p := ⟨C, 4, none⟩) hgC _) (fun hS4 => ?_)
            try simp only [layR]
            refine wpAnyH_done (by kernel_rfl) ?_ _
            refine NoPanic.normal ?_
            clear hS0 hS1 hS2 hS3 hS4 hld
            go_wp2
            go_roundw
            case rel => exact ⟨1, by omega, by go_num, .inr ⟨rfl, ⟨_, HF.out.1⟩, HF.out.2⟩⟩
            case measure => simp [intOf]
        · have HCh := Lib.hid hch
          have HKp := Lib.hid hkp
          clear hch hkp q0 q1 q2
          go_wp2
          go_ret
          exact ⟨rfl, HCh.out, HKp.out⟩
end Go.Proofs.Ytfcikigdmecbnaa
