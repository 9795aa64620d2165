/-
  A page is written.
-/
import Derived.Test.YtiipnpfaaghekaaGreatFtlWr
import Derived.Deep.DeepCutAuto
namespace Go.Proofs.YtiipnpfaaghekaaGreat
open Go.RowKit Ftl Go.ChangeMaps

section
variable {NB B n : Nat} {R : Nat → Prop} {w : World} {f : Fm}
/-- What Write leaves. -/
def Wrt (NB B : Nat) (R : Nat → Prop) (f : Fm) (p : Nat) (pay : List UInt8) (w : World) (e : Ending) (w' : World) : Prop := e = .returned (.int .i64 0) ∧ ∃ f', FtR NB B R w w' f' ∧ Wrd NB f f' p pay
set_option maxRecDepth 100000 in
set_option maxHeartbeats 16000000 in
theorem fWrite_calls (h : FtM NB B R w f) (hc : Fc NB f) (p : Nat) (hp1 : 1 ≤ p) (hp2 : p + 2 < (NB - 3) * 8) (hp3 : p < 8192) (hfull : (getE f.no p).isSome = true ∨ (f.se ++ f.no).length + 3 ≤ 8 * (NB - 3)) (hsq : f.seq ≤ 1000000) (a : Option Addr) (c : Nat) (pay : List UInt8) (hx : Bytes w w.heap.size a 64 pay) (hap : ∀ b o, a = some ⟨b, o, none⟩ → ¬ R b) :
    Calls Tryz.prog 6 #[.pointer (some ⟨f.F, 0, none⟩), .int .u32 (p : Int), .slice a 64 c] w (Wrt NB B R f p pay w) := by
  have HB0 := h.base
  have hnb := hc.fi.nb
  have hlg := flogical_calls h hc.fi p (by omega)
  rw [if_neg (by omega)] at hlg
  have HLg := Lib.hid hlg
  have HH := Lib.hid h
  have HC := Lib.hid hc
  have HX := Lib.hid hx
  have HAp := Lib.hid hap
  have HFu := Lib.hid hfull
  have HSq := Lib.hid hsq
  have HP1 := Lib.hid hp1
  have HP3 := Lib.hid hp3
  have HAb := Lib.hid (show ∀ b o, a = some ⟨b, o, none⟩ → b < w.heap.size from fun b o e => by obtain ⟨b', o', e', hlt, _⟩ := hx.2.2 (by omega); rw [e] at e'; injection e' with e'; injection e' with e'; omega)
  have HLim := Lib.hid (show (f.se ++ f.no).length ≤ 1000000 by have := hc.cap; omega)
  have hcs := placeCells
  clear h hc hlg hx hap hfull hsq hp1 hp2 hp3
  obtain ⟨ag, hag⟩ : ∃ ag, (getE f.no p).isSome = ag := ⟨_, rfl⟩
  have HAg := Lib.hid hag
  clear hag
  go_enter Tryz.func6, Tryz.ntmps6
  go_wp2_with fail
  refine HLg.out.mono ?_
  rintro e w1 ⟨rfl, hb1⟩
  have H1 := Lib.hid (HH.out.on hb1)
  have HB1 := Lib.hid hb1
  obtain ⟨b1, i1, e1⟩ := plO_form (getE f.no p)
  have hl1 := H1.out.hN.lookT (by have := HP3.out; omega) rfl e1 HAg.out
  have c6 := H1.out.c6
  have hb2 := hb1.alloc hb1.size (.cells #[.int .i64 (b1 : Int), .int .i64 (i1 : Int)] 52)
  have H2 := Lib.hid (HH.out.on hb2)
  have HB2 := Lib.hid hb2
  clear hb1 e1 hb2
  go_upto_region 5 with fail
  generalize w1.alloc (.cells #[.int .i64 (b1 : Int), .int .i64 (i1 : Int)] 52) = w2 at *
  clear hl1 c6
  go_wp2_with fail
  refine (fsize_calls H2.out).mono ?_
  rintro e w3 ⟨rfl, hb3⟩
  have HB3 := Lib.hid (HB2.out.then_ hb3)
  have H3 := Lib.hid (H2.out.on hb3)
  clear hb3
  go_wp2_with fail
  refine (fReadOnly_calls H3.out HC.out.fi HC.out.ov).mono ?_
  rintro e w4 ⟨rfl, hb4⟩
  have HB4 := Lib.hid (HB3.out.then_ hb4)
  have H4 := Lib.hid (H3.out.on hb4)
  clear hb4
  go_upto_region 9 with fail
  go_cut [38] (fun v wx => v = .bool false ∧ Hid (Below w.heap.size w wx))
  case first =>
    cases ag
    · have hfl := HFu.out
      rw [HAg.out] at hfl
      have hfl : (f.se ++ f.no).length + 3 ≤ 8 * (NB - 3) := by simpa using hfl
      obtain ⟨U, hU⟩ : ∃ U, U = (f.se ++ f.no).length := ⟨_, rfl⟩
      have HUs := Lib.hid (fUsed_calls H4.out HLim.out)
      rw [← hU] at HUs hfl
      have hlt : ¬ ((NB : Int) - 3) * 8 - 2 ≤ (U : Int) := by omega
      clear hU hfl
      go_wp2_with fail
      refine HUs.out.mono ?_
      rintro e w5 ⟨rfl, hb5⟩
      have HB5 := Lib.hid (HB4.out.then_ hb5)
      have H5 := Lib.hid (H4.out.on hb5)
      clear hb5
      go_wp2_with fail
      refine (fCapacity_calls H5.out HC.out.fi).mono ?_
      rintro e w6 ⟨rfl, hb6⟩
      have HB6 := Lib.hid (HB5.out.then_ hb6)
      clear hb6
      have HLt := Lib.hid hlt
      clear hlt
      go_wp2_with fail
      go_meet
      case rel => exact ⟨by have := HLt.out; exact congrArg Value.bool (decide_eq_false (by omega)), HB6.out⟩
    · go_wp2_with fail
      go_meet
      case rel => exact ⟨rfl, HB4.out⟩
  case rest =>
    obtain ⟨rfl, hb5⟩ := hcut
    have H5 := Lib.hid (HH.out.on hb5.out)
    have HX5 := Lib.hid (HX.out.on hb5.out)
    have HB5 := Lib.hid hb5.out
    have HPr5 := Lib.hid ((Pr.start HH.out).on hb5.out)
    clear hb5
    have HPt := Lib.hid (fput_calls H5.out HC.out.fi HC.out.fr HC.out.cap (by have := HSq.out; omega) 1 p (.inl rfl) HP3.out ⟨by have := HC.out.sq; omega, by have := HSq.out; omega⟩ ⟨by have := HC.out.sq; omega, by have := HC.out.sq; have := HSq.out; omega⟩ a c pay HX5.out HAp.out)
    go_wp2_with fail
    refine HPt.out.mono ?_
    rintro e w6 ⟨k, i, f1, g', rfl, h6, hsame, hpg, hfi, hfr⟩
    have HPr6 := Lib.hid (HPr5.out.step h6)
    obtain ⟨R2, hR2⟩ : ∃ R2, R2 = Up R wc w6 := ⟨_, rfl⟩
    rw [← hR2] at HPr6
    have HSm := Lib.hid hsame
    have HPg := Lib.hid hpg
    have HFi := Lib.hid hfi
    have HFr := Lib.hid hfr
    have hb7 := (Below.refl w6.heap.size w6).alloc (Nat.le_refl _) (.cells #[.int .i64 (k : Int), .int .i64 (i : Int)] 52)
    have HPr7 := Lib.hid (HPr6.out.on hb7)
    have HT10 := Lib.hid (Blk.new w6 52 #[.int .i64 (k : Int), .int .i64 (i : Int)])
    have HT10n := Lib.hid (HPr6.out.ft.not_new (Nat.le_refl w6.heap.size))
    have c6 := HPr7.out.ft.c6
    rw [show (⟨({ f1 with g := g', seq := f.seq + 1 } : Fm).F, 6, none⟩ : Addr) = ⟨f.F, 6, none⟩ from congrArg (fun q => (⟨q, 6, none⟩ : Addr)) hsame.F] at c6
    have hag1 : (getE f1.no p).isSome = ag := by rw [getE_some hsame.no]; exact HAg.out
    obtain ⟨b2, i2, e2⟩ := plO_form (getE f1.no p)
    have hl7 := HPr7.out.ft.hN.lookT (by have := HP3.out; omega) rfl e2 hag1
    have hu1 := HPr7.out.ft.hN.uq
    have HU1 := Lib.hid hu1
    have HOe := Lib.hid (show Oe ⟨⟨1, p, f.seq, f.ep⟩, pay, k, i⟩ from ⟨⟨.inl rfl, HP3.out, by show 1 ≤ f.seq; have := HC.out.sq; omega, by show f.seq < _; have := HSq.out; omega, by show 1 ≤ f.ep; have := HC.out.sq; omega, by show f.ep < _; have := HC.out.sq; have := HSq.out; omega⟩, HX.out.len⟩)
    simp only at c6 hl7
    have hb8 := (Below.refl _ _).alloc (Nat.le_refl (w6.alloc (.cells #[.int .i64 (k : Int), .int .i64 (i : Int)] 52)).heap.size) (.cells #[.int .i64 (b2 : Int), .int .i64 (i2 : Int)] 52)
    have HPr8 := Lib.hid (HPr7.out.on hb8)
    have HT8 := Lib.hid (HT10.out.belowHere hb8)
    have HO8 := Lib.hid (Blk.new (w6.alloc (.cells #[.int .i64 (k : Int), .int .i64 (i : Int)] 52)) 52 #[.int .i64 (b2 : Int), .int .i64 (i2 : Int)])
    have HG1 := Lib.hid hag1
    have HE2 := Lib.hid e2
    clear h6 hsame hpg hfi hfr hb7 hb8 hR2 hag1 e2 hu1
    go_upto_region 15 with fail
    obtain ⟨T10, hT10⟩ : ∃ T10, T10 = w6.heap.size := ⟨_, rfl⟩
    have HTe := Lib.hid hT10
    obtain ⟨W8, hW8⟩ : ∃ W8, W8 = (w6.alloc (.cells #[.int .i64 (k : Int), .int .i64 (i : Int)] 52)).alloc (.cells #[.int .i64 (b2 : Int), .int .i64 (i2 : Int)] 52) := ⟨_, rfl⟩
    have HO8 : Hid (Blk W8 (w6.heap.size + 1) 52 #[.int .i64 (b2 : Int), .int .i64 (i2 : Int)]) := by rw [hW8]; have := HO8; rw [World.size_alloc] at this; exact this
    rw [← hW8] at HPr8 HT8 ⊢
    rw [← hT10] at HT8 HT10n HO8 ⊢
    clear hT10 hW8 c6 hl7
    cases ag
    · -- no older one
      have hno : getE f1.no p = none := by have := HG1.out; cases hg : getE f1.no p with | none => rfl | some e => rw [hg] at this; cases this
      obtain ⟨f3, hf3⟩ : ∃ f3, f3 = ({ f1 with g := g', seq := f.seq + 1 } : Fm) := ⟨_, rfl⟩
      have HF3 := Lib.hid (show f3.F = f.F by rw [hf3]; exact HSm.out.F)
      have HF3b := Lib.hid (show f3.tx = f1.tx ∧ f3.se = f1.se ∧ (putE f3.no ⟨⟨1, p, f.seq, f.ep⟩, pay, k, i⟩ = putE f1.no ⟨⟨1, p, f.seq, f.ep⟩, pay, k, i⟩) ∧ delE f3.go p = delE f1.go p ∧ f3.ep = f1.ep ∧ f3.ov = f1.ov by rw [hf3]; exact ⟨rfl, rfl, rfl, rfl, rfl, rfl⟩)
      have HSq3 := Lib.hid (show f3.seq = f.seq + 1 by rw [hf3])
      have HC10 := Lib.hid (show f3.g.C = f.g.C by rw [hf3]; exact HPg.out.C.trans HSm.out.C)
      have HFr10 := Lib.hid (show 3 ≤ Gc.count 0 f3.g.l by rw [hf3]; exact HFr.out)
      have HFi10 := Lib.hid (show Fi NB (100000 * f.seq + 17 * (NB + 1) + 1) [] f3.g (f1.se ++ putE f1.no ⟨⟨1, p, f.seq, f.ep⟩, pay, k, i⟩) by
        rw [hf3]
        refine HFi.out.add HPg.out.gp HOe.out ?_
        rw [putE_new fun x hx => getE_none hno x hx, ← List.append_assoc]
        exact (List.perm_append_comm (l₁ := f1.se ++ f1.no)))
      have HPr10 : Hid (Pr NB B R w R2 W8 f3) := by rw [hf3]; exact HPr8
      have HT10' := HT8
      have HTn := HT10n
      clear hno hf3 HPr8 HT8
      generalize W8 = W10 at *
      have hF3 : f3.F = f.F := HF3.out
      have hmb := HPr10.out.ft.on (below_drew W10)
      have hpn := hmb.putN ⟨⟨1, p, f.seq, f.ep⟩, pay, k, i⟩ (by show p < _; have := HP3.out; omega)
      obtain ⟨o11, hrun, hm11, hk11⟩ := hpn
      have hrun : (Instr.mapUpdate 55 (.map (some f3.NO)) (.int .u32 (p : Int)) (.agg #[.int .i64 (k : Int), .int .i64 (i : Int)])).run Tryz.prog W10.drew = .ok () (setBlock W10.drew f3.NO o11) := hrun
      have HPr11 := Lib.hid ((HPr10.out.on (below_drew W10)).same hm11 hk11)
      have hS10 : W10.drew.cell? ⟨f.F, 6, none⟩ = some (.map (some f3.NO)) ∧ W10.drew.cell? ⟨T10, 0, none⟩ = some (.int .i64 (k : Int)) ∧ W10.drew.cell? ⟨T10, 1, none⟩ = some (.int .i64 (i : Int)) := by
        refine ⟨by rw [← hF3]; exact hmb.c6, HT10'.out.drew.cellv (i := 0) rfl, HT10'.out.drew.cellv (i := 1) rfl⟩
      have hS11 : (setBlock W10.drew f3.NO o11).cell? ⟨f.F, 6, none⟩ = some (.map (some f3.NO)) ∧ (setBlock W10.drew f3.NO o11).cell? ⟨T10, 0, none⟩ = some (.int .i64 (k : Int)) ∧ (setBlock W10.drew f3.NO o11).cell? ⟨T10, 1, none⟩ = some (.int .i64 (i : Int)) := by
        have hT := HT10'.out.drew.kq hk11 HTn.out
        exact ⟨by rw [← hF3]; exact hm11.c6, hT.cellv (i := 0) rfl, hT.cellv (i := 1) rfl⟩
      have HS10 := Lib.hid hS10
      have HS11 := Lib.hid hS11
      clear hmb hm11 hk11 hS10 hS11
      go_upto_region 17 with fail
      refine wp_region_noPanic ?_
      refine wp_region_held_drew (S := (fun W' => W'.cell? ⟨f.F, 6, none⟩ = some (.map (some f3.NO)) ∧ W'.cell? ⟨T10, 0, none⟩ = some (.int .i64 (k : Int)) ∧ W'.cell? ⟨T10, 1, none⟩ = some (.int .i64 (i : Int)))) (by kernel_rfl) HS10.out (fun hS0 => ?_)
      refine takeV 0 (v := (.pointer (some ⟨f.F, 0, none⟩))) rfl (by kernel_rfl) (by kernel_rfl) (by kernel_rfl) (fun _ _ _ h => h) (by rfl) (fun _ _ => rfl) (by assumption) ?_
      try simp only [layR]
      refine takeV 1 (v := (.pointer (some ⟨f.F, 0, none⟩))) rfl (by kernel_rfl) (by kernel_rfl) (by kernel_rfl) (fun _ _ _ h => h) (by rfl) (fun _ _ => rfl) (by assumption) ?_
      try simp only [layR]
      refine takeV 2 (v := (.pointer (some ⟨f.F, 6, none⟩))) rfl (by kernel_rfl) (by kernel_rfl) (by kernel_rfl) (fun _ _ _ h => h) (by rfl) (fun W hSw => ?_) (by assumption) ?_
      · skip
        go_simp
      try simp only [layR]
      refine takeV 3 (v := (.map (some f3.NO))) rfl (by kernel_rfl) (by kernel_rfl) (by kernel_rfl) (fun _ _ _ h => h) (by rfl) (fun W hSw => ?_) (by assumption) ?_
      · obtain ⟨y7, y8, y9⟩ := hSw
        go_simp
      try simp only [layR]
      refine takeV 4 (v := (.int .u32 (p : Int))) rfl (by kernel_rfl) (by kernel_rfl) (by kernel_rfl) (fun _ _ _ h => h) (by rfl) (fun _ _ => rfl) (by assumption) ?_
      try simp only [layR]
      refine takeV 5 (v := (.agg #[.int .i64 (k : Int), .int .i64 (i : Int)])) rfl (by kernel_rfl) (by kernel_rfl) (by kernel_rfl) (fun _ _ _ h => h) (by rfl) (fun W hSw => ?_) (by assumption) ?_
      · obtain ⟨y7, y8, y9⟩ := hSw
        go_simp
      try simp only [layR]
      refine wpAnyH_ready (rs := [6]) (by kernel_rfl) (by simp) ?_
      refine AllReadyH.cons rfl (fun K' hK => ?_) AllReadyH.nil
      go_simp
      refine hK.out _ _ HS11.out (fun hS12 => ?_)
      refine wpAnyH_done (by kernel_rfl) ?_ _
      refine NoPanic.normal ?_
      clear hrun hS0 hS12
      obtain ⟨W11, hW11⟩ : ∃ W11, W11 = setBlock W10.drew f3.NO o11 := ⟨_, rfl⟩
      rw [← hW11] at HPr11 ⊢
      clear hW11
      have hdel := HPr11.out.ft.delG (p := p) (by have := HP3.out; omega)
      have c7 := HPr11.out.ft.c7
      rw [show (⟨({ f3 with no := putE f3.no ⟨⟨1, p, f.seq, f.ep⟩, pay, k, i⟩ } : Fm).F, 7, none⟩ : Addr) = ⟨f.F, 7, none⟩ from congrArg (fun q => (⟨q, 7, none⟩ : Addr)) hF3] at c7
      have c7 : W11.cell? ⟨f.F, 7, none⟩ = some (.map (some f3.GO)) := c7
      have hdel2 := fun ty => hdel ty
      obtain ⟨o12, hrun12, hm12, hk12⟩ := hdel 0
      have HPr12 := Lib.hid (HPr11.out.same hm12 hk12)
      have hrun12 : ∀ ty, (Builtin.delete_ #[55, 30] ty #[.map (some f3.GO), .int .u32 (p : Int)]).run Tryz.prog W11 = .ok (.tuple #[]) (setBlock W11 f3.GO o12) := fun ty => hrun12
      clear hdel hdel2 hm12 hk12 hF3
      go_wp2_with fail
      go_ret
      exact ⟨rfl, _, HPr12.out.fin HB0, wrd HC.out HSm.out HU1.out HP1.out HFi10.out (by omega) HFr10.out (by have := HFu.out; exact this) HC10.out (HF3.out.trans HSm.out.F.symm) HF3b.out.1 HF3b.out.2.1 HF3b.out.2.2.1 HF3b.out.2.2.2.1 HSq3.out HF3b.out.2.2.2.2.1 HF3b.out.2.2.2.2.2⟩
    · -- an older one is dropped
      obtain ⟨e0, hno⟩ : ∃ e0, getE f1.no p = some e0 := by have := HG1.out; cases hg : getE f1.no p with | none => rw [hg] at this; cases this | some e => exact ⟨e, rfl⟩
      obtain ⟨he0, hep⟩ := getE_mem hno
      have hb20 : b2 = e0.b := by
        have := HE2.out
        rw [hno] at this
        have h9 : plV e0.b e0.i = .agg #[.int .i64 (b2 : Int), .int .i64 (i2 : Int)] := this
        unfold plV at h9
        simp only [Value.agg.injEq, Array.mk.injEq, List.cons.injEq, Value.int.injEq, true_and, and_true] at h9
        omega
      obtain ⟨E', q1, q2, q3⟩ := HFi.out.out he0
      rw [← hb20] at q2
      have HQ2 := Lib.hid q2
      have hadd : ∀ g3, Fi NB (100000 * f.seq + 17 * (NB + 1) + 1 + 1) [k] g3 E' → Gp g3 ⟨⟨1, p, f.seq, f.ep⟩, pay, k, i⟩ → Fi NB (100000 * f.seq + 17 * (NB + 1) + 1 + 1) [] g3 (f1.se ++ putE f1.no ⟨⟨1, p, f.seq, f.ep⟩, pay, k, i⟩) := fun g3 h1 h2 => h1.add h2 HOe.out (q3 _ hep.symm HU1.out)
      have HAdd := Lib.hid hadd
      clear hno he0 hep hb20 q1 q2 q3 hadd
      obtain ⟨f2, hf2⟩ : ∃ f2, f2 = ({ f1 with g := g', seq := f.seq + 1 } : Fm) := ⟨_, rfl⟩
      rw [← hf2] at HPr8
      have HF2 := Lib.hid (show f2.F = f.F by rw [hf2]; exact HSm.out.F)
      have HGg := Lib.hid (show f2.g = g' by rw [hf2])
      have HFd := Lib.hid (show Fi NB (100000 * f.seq + 17 * (NB + 1) + 1) (b2 :: [k]) f2.g E' by rw [hf2]; exact HQ2.out)
      have HFs := Lib.hid hf2
      clear hf2
      have hS0a : W8.drew.cell? ⟨f.F, 1, none⟩ = some (.pointer (some ⟨f2.g.M, 0, none⟩)) ∧ W8.drew.cell? ⟨T10 + 1, 0, none⟩ = some (.int .i64 (b2 : Int)) := ⟨by rw [← HF2.out]; exact (HPr8.out.ft.on (below_drew W8)).c1, HO8.out.drew.cellv (i := 0) rfl⟩
      have HS0a := Lib.hid hS0a
      have HDr := Lib.hid (fDrop_calls (HPr8.out.ft.on (below_drew W8)) HFd.out)
      have HOn := Lib.hid (show ¬ R2 (T10 + 1) from fun h1 => by have h2 := (HPr6.out.ft.bnd _ h1).2; have h3 := HT10n.out; have h4 := HPr6.out.ft.not_new (Nat.le_succ w6.heap.size); exact h4 (by have h5 := HTe.out; rw [h5] at h1; exact h1))
      clear hS0a
      go_upto_region 16 with fail
      refine wp_region_noPanic ?_
      refine wp_region_held_drew (S := (fun W' => W'.cell? ⟨f.F, 1, none⟩ = some (.pointer (some ⟨f2.g.M, 0, none⟩)) ∧ W'.cell? ⟨T10 + 1, 0, none⟩ = some (.int .i64 (b2 : Int)))) (by kernel_rfl) HS0a.out (fun hS0 => ?_)
      refine takeV 0 (v := (.pointer (some ⟨f.F, 0, none⟩))) rfl (by kernel_rfl) (by kernel_rfl) (by kernel_rfl) (fun _ _ _ h => h) (by rfl) (fun _ _ => rfl) (by assumption) ?_
      try simp only [layR]
      refine takeV 1 (v := (.pointer (some ⟨f.F, 0, none⟩))) rfl (by kernel_rfl) (by kernel_rfl) (by kernel_rfl) (fun _ _ _ h => h) (by rfl) (fun _ _ => rfl) (by assumption) ?_
      try simp only [layR]
      refine takeV 2 (v := (.pointer (some ⟨f.F, 1, none⟩))) rfl (by kernel_rfl) (by kernel_rfl) (by kernel_rfl) (fun _ _ _ h => h) (by rfl) (fun W hSw => ?_) (by assumption) ?_
      · skip
        go_simp
      try simp only [layR]
      refine takeV 3 (v := (.pointer (some ⟨f2.g.M, 0, none⟩))) rfl (by kernel_rfl) (by kernel_rfl) (by kernel_rfl) (fun _ _ _ h => h) (by rfl) (fun W hSw => ?_) (by assumption) ?_
      · obtain ⟨y8, y9⟩ := hSw
        go_simp
      try simp only [layR]
      refine takeV 4 (v := (.pointer (some ⟨T10 + 1, 0, none⟩))) rfl (by kernel_rfl) (by kernel_rfl) (by kernel_rfl) (fun _ _ _ h => h) (by rfl) (fun W hSw => ?_) (by assumption) ?_
      · skip
        go_simp
      try simp only [layR]
      refine takeV 5 (v := (.int .i64 (b2 : Int))) rfl (by kernel_rfl) (by kernel_rfl) (by kernel_rfl) (fun _ _ _ h => h) (by rfl) (fun W hSw => ?_) (by assumption) ?_
      · obtain ⟨y8, y9⟩ := hSw
        go_simp
      try simp only [layR]
      refine wpAnyH_ready (rs := [6]) (by kernel_rfl) (by simp) ?_
      refine AllReadyH.cons rfl (fun K' hK => ?_) AllReadyH.nil
      go_simp
      refine HDr.out.mono ?_
      rintro e W10 ⟨rfl, hm10, hk10⟩
      obtain ⟨f3, hf3⟩ : ∃ f3, f3 = ({ f2 with g := { f2.g with l := f2.g.l.set b2 (dropB (Gc.at_ f2.g.l b2)) } } : Fm) := ⟨_, rfl⟩
      rw [← hf3] at hm10
      have HPr10 := Lib.hid ((HPr8.out.on (below_drew W8)).same hm10 hk10)
      have HT10' := Lib.hid (HT8.out.drew.kq hk10 HT10n.out)
      have HTn := HT10n
      have hS1 : W10.cell? ⟨f.F, 1, none⟩ = some (.pointer (some ⟨f2.g.M, 0, none⟩)) ∧ W10.cell? ⟨T10 + 1, 0, none⟩ = some (.int .i64 (b2 : Int)) := by
        refine ⟨?_, (HO8.out.drew.kq hk10 HOn.out).cellv (i := 0) rfl⟩
        have h9 := hm10.c1
        rw [hf3] at h9
        rw [← HF2.out]; exact h9
      have HF3 := Lib.hid (show f3.F = f.F by rw [hf3]; exact HF2.out)
      have HF3b := Lib.hid (show f3.tx = f1.tx ∧ f3.se = f1.se ∧ (putE f3.no ⟨⟨1, p, f.seq, f.ep⟩, pay, k, i⟩ = putE f1.no ⟨⟨1, p, f.seq, f.ep⟩, pay, k, i⟩) ∧ delE f3.go p = delE f1.go p ∧ f3.ep = f1.ep ∧ f3.ov = f1.ov by rw [hf3, HFs.out]; exact ⟨rfl, rfl, rfl, rfl, rfl, rfl⟩)
      have HSq3 := Lib.hid (show f3.seq = f.seq + 1 by rw [hf3, HFs.out])
      have HC10 := Lib.hid (show f3.g.C = f.g.C by rw [hf3]; show f2.g.C = _; rw [HGg.out]; exact HPg.out.C.trans HSm.out.C)
      have HFr10 := Lib.hid (show 3 ≤ Gc.count 0 f3.g.l by
        rw [hf3]
        show 3 ≤ Gc.count 0 (f2.g.l.set b2 (dropB (Gc.at_ f2.g.l b2)))
        rw [count_dropB (HFd.out.lenl (by simp)) HFd.out.notFree, HGg.out]
        exact HFr.out)
      have HFi10 := Lib.hid (show Fi NB (100000 * f.seq + 17 * (NB + 1) + 1 + 1) [] f3.g (f1.se ++ putE f1.no ⟨⟨1, p, f.seq, f.ep⟩, pay, k, i⟩) by
        refine HAdd.out _ (by rw [hf3]; exact HFd.out.drop) ?_
        have := HPg.out.gp
        rw [hf3]
        exact ⟨by show (f2.g.bl k).pgs i = _; rw [HGg.out]; exact this.pg, by show i < (f2.g.bl k).nx; rw [HGg.out]; exact this.nx, this.i8⟩)
      clear hm10 hk10 hf3
      refine hK.out _ _ hS1 (fun hS2 => ?_)
      refine wpAnyH_done (by kernel_rfl) ?_ _
      refine NoPanic.normal ?_
      clear hS0 hS1 hS2 HS0a HDr HPr8 HT8
      have hF3 : f3.F = f.F := HF3.out
      have hmb := HPr10.out.ft.on (below_drew W10)
      have hpn := hmb.putN ⟨⟨1, p, f.seq, f.ep⟩, pay, k, i⟩ (by show p < _; have := HP3.out; omega)
      obtain ⟨o11, hrun, hm11, hk11⟩ := hpn
      have hrun : (Instr.mapUpdate 55 (.map (some f3.NO)) (.int .u32 (p : Int)) (.agg #[.int .i64 (k : Int), .int .i64 (i : Int)])).run Tryz.prog W10.drew = .ok () (setBlock W10.drew f3.NO o11) := hrun
      have HPr11 := Lib.hid ((HPr10.out.on (below_drew W10)).same hm11 hk11)
      have hS10 : W10.drew.cell? ⟨f.F, 6, none⟩ = some (.map (some f3.NO)) ∧ W10.drew.cell? ⟨T10, 0, none⟩ = some (.int .i64 (k : Int)) ∧ W10.drew.cell? ⟨T10, 1, none⟩ = some (.int .i64 (i : Int)) := by
        refine ⟨by rw [← hF3]; exact hmb.c6, HT10'.out.drew.cellv (i := 0) rfl, HT10'.out.drew.cellv (i := 1) rfl⟩
      have hS11 : (setBlock W10.drew f3.NO o11).cell? ⟨f.F, 6, none⟩ = some (.map (some f3.NO)) ∧ (setBlock W10.drew f3.NO o11).cell? ⟨T10, 0, none⟩ = some (.int .i64 (k : Int)) ∧ (setBlock W10.drew f3.NO o11).cell? ⟨T10, 1, none⟩ = some (.int .i64 (i : Int)) := by
        have hT := HT10'.out.drew.kq hk11 HTn.out
        exact ⟨by rw [← hF3]; exact hm11.c6, hT.cellv (i := 0) rfl, hT.cellv (i := 1) rfl⟩
      have HS10 := Lib.hid hS10
      have HS11 := Lib.hid hS11
      clear hmb hm11 hk11 hS10 hS11
      go_upto_region 17 with fail
      refine wp_region_noPanic ?_
      refine wp_region_held_drew (S := (fun W' => W'.cell? ⟨f.F, 6, none⟩ = some (.map (some f3.NO)) ∧ W'.cell? ⟨T10, 0, none⟩ = some (.int .i64 (k : Int)) ∧ W'.cell? ⟨T10, 1, none⟩ = some (.int .i64 (i : Int)))) (by kernel_rfl) HS10.out (fun hS0 => ?_)
      refine takeV 0 (v := (.pointer (some ⟨f.F, 0, none⟩))) rfl (by kernel_rfl) (by kernel_rfl) (by kernel_rfl) (fun _ _ _ h => h) (by rfl) (fun _ _ => rfl) (by assumption) ?_
      try simp only [layR]
      refine takeV 1 (v := (.pointer (some ⟨f.F, 0, none⟩))) rfl (by kernel_rfl) (by kernel_rfl) (by kernel_rfl) (fun _ _ _ h => h) (by rfl) (fun _ _ => rfl) (by assumption) ?_
      try simp only [layR]
      refine takeV 2 (v := (.pointer (some ⟨f.F, 6, none⟩))) rfl (by kernel_rfl) (by kernel_rfl) (by kernel_rfl) (fun _ _ _ h => h) (by rfl) (fun W hSw => ?_) (by assumption) ?_
      · skip
        go_simp
      try simp only [layR]
      refine takeV 3 (v := (.map (some f3.NO))) rfl (by kernel_rfl) (by kernel_rfl) (by kernel_rfl) (fun _ _ _ h => h) (by rfl) (fun W hSw => ?_) (by assumption) ?_
      · obtain ⟨y7, y8, y9⟩ := hSw
        go_simp
      try simp only [layR]
      refine takeV 4 (v := (.int .u32 (p : Int))) rfl (by kernel_rfl) (by kernel_rfl) (by kernel_rfl) (fun _ _ _ h => h) (by rfl) (fun _ _ => rfl) (by assumption) ?_
      try simp only [layR]
      refine takeV 5 (v := (.agg #[.int .i64 (k : Int), .int .i64 (i : Int)])) rfl (by kernel_rfl) (by kernel_rfl) (by kernel_rfl) (fun _ _ _ h => h) (by rfl) (fun W hSw => ?_) (by assumption) ?_
      · obtain ⟨y7, y8, y9⟩ := hSw
        go_simp
      try simp only [layR]
      refine wpAnyH_ready (rs := [6]) (by kernel_rfl) (by simp) ?_
      refine AllReadyH.cons rfl (fun K' hK => ?_) AllReadyH.nil
      go_simp
      refine hK.out _ _ HS11.out (fun hS12 => ?_)
      refine wpAnyH_done (by kernel_rfl) ?_ _
      refine NoPanic.normal ?_
      clear hrun hS0 hS12
      obtain ⟨W11, hW11⟩ : ∃ W11, W11 = setBlock W10.drew f3.NO o11 := ⟨_, rfl⟩
      rw [← hW11] at HPr11 ⊢
      clear hW11
      have hdel := HPr11.out.ft.delG (p := p) (by have := HP3.out; omega)
      have c7 := HPr11.out.ft.c7
      rw [show (⟨({ f3 with no := putE f3.no ⟨⟨1, p, f.seq, f.ep⟩, pay, k, i⟩ } : Fm).F, 7, none⟩ : Addr) = ⟨f.F, 7, none⟩ from congrArg (fun q => (⟨q, 7, none⟩ : Addr)) hF3] at c7
      have c7 : W11.cell? ⟨f.F, 7, none⟩ = some (.map (some f3.GO)) := c7
      have hdel2 := fun ty => hdel ty
      obtain ⟨o12, hrun12, hm12, hk12⟩ := hdel 0
      have HPr12 := Lib.hid (HPr11.out.same hm12 hk12)
      have hrun12 : ∀ ty, (Builtin.delete_ #[55, 30] ty #[.map (some f3.GO), .int .u32 (p : Int)]).run Tryz.prog W11 = .ok (.tuple #[]) (setBlock W11 f3.GO o12) := fun ty => hrun12
      clear hdel hdel2 hm12 hk12 hF3
      go_wp2_with fail
      go_ret
      exact ⟨rfl, _, HPr12.out.fin HB0, wrd HC.out HSm.out HU1.out HP1.out HFi10.out (by omega) HFr10.out (by have := HFu.out; exact this) HC10.out (HF3.out.trans HSm.out.F.symm) HF3b.out.1 HF3b.out.2.1 HF3b.out.2.2.1 HF3b.out.2.2.2.1 HSq3.out HF3b.out.2.2.2.2.1 HF3b.out.2.2.2.2.2⟩
end
end Go.Proofs.YtiipnpfaaghekaaGreat
