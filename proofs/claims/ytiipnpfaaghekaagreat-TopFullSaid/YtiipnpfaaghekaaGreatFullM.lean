/-
  A page is written.
-/
/-
  What a translation refuses; a page is dropped.
-/
import Derived.Test.YtiipnpfaaghekaaGreatFtlWr
import Derived.Deep.DeepCutAuto
import Derived.Test.YtiipnpfaaghekaaGreatFtlAt
import Derived.Test.YtiipnpfaaghekaaGreatFtlSld
import Derived.Test.YtiipnpfaaghekaaGreatTagRead
import Derived.Test.YtiipnpfaaghekaaGreatTagMath2
import Derived.Test.YtiipnpfaaghekaaGreatFtlNeed
import Derived.Test.YtiipnpfaaghekaaGreatFtlMap
import Derived.Test.YtiipnpfaaghekaaGreatBlkMem
import Derived.Test.YtiipnpfaaghekaaGreatIterMany
import Derived.Shelf.Abstract
import Derived.Test.YtiipnpfaaghekaaGreatFtlFmt0
import Derived.Test.YtiipnpfaaghekaaGreatFtlBad
import Derived.Test.YtiipnpfaaghekaaGreatTopGap
import Derived.Test.YtiipnpfaaghekaaGreatFtlMade
namespace Go.Proofs.YtiipnpfaaghekaaGreat
open Go.RowKit Ftl Go.ChangeMaps

section
variable {NB B n : Nat} {R : Nat → Prop} {w : World} {f : Fm}
/-- What Write leaves. -/
def Wrt (NB B : Nat) (R : Nat → Prop) (f : Fm) (p : Nat) (pay : List UInt8) (w : World) (e : Ending) (w' : World) : Prop := e = .returned (.int .i64 0) ∧ ∃ f', FtR NB B R w w' f' ∧ Wrd NB f f' p pay
set_option maxRecDepth 100000 in
set_option maxHeartbeats 16000000 in
theorem fWrite_calls (h : FtM NB B R w f) (hc : Fc NB f) (p : Nat) (hp1 : 1 ≤ p) (hp2 : p + 2 < (NB - 3) * 8) (hp3 : p < 8192) (hfull : (getE f.no p).isSome = true ∨ (f.se ++ f.no).length + 3 ≤ 8 * (NB - 3)) (hsq : f.seq ≤ 1000000) (a : Option Addr) (c : Nat) (pay : List UInt8) (hgh : f.g.gh (Tg.page ⟨1, p, f.seq, f.ep⟩ pay)) (hx : Bytes w w.heap.size a 64 pay) (hap : ∀ b o, a = some ⟨b, o, none⟩ → ¬ R b) :
    Calls Tryz.prog 6 #[.pointer (some ⟨f.F, 0, none⟩), .int .u32 (p : Int), .slice a 64 c] w (Wrt NB B R f p pay w) := by
  have HB0 := h.base
  have hnb := hc.fi.nb
  have hlg := flogical_calls h hc.fi p (by omega)
  rw [if_neg (by omega)] at hlg
  have HLg := Lib.hid hlg
  have HH := Lib.hid h
  have HC := Lib.hid hc
  have HX := Lib.hid hx
  have HAp := Lib.hid hap
  have HFu := Lib.hid hfull
  have HSq := Lib.hid hsq
  have HP1 := Lib.hid hp1
  have HP3 := Lib.hid hp3
  have HAb := Lib.hid (show ∀ b o, a = some ⟨b, o, none⟩ → b < w.heap.size from fun b o e => by obtain ⟨b', o', e', hlt, _⟩ := hx.2.2 (by omega); rw [e] at e'; injection e' with e'; injection e' with e'; omega)
  have HLim := Lib.hid (show (f.se ++ f.no).length ≤ 1000000 by have := hc.cap; omega)
  have hcs := placeCells
  have HGh := Lib.hid hgh
  clear hgh h hc hlg hx hap hfull hsq hp1 hp2 hp3
  obtain ⟨ag, hag⟩ : ∃ ag, (getE f.no p).isSome = ag := ⟨_, rfl⟩
  have HAg := Lib.hid hag
  clear hag
  go_enter Tryz.func6, Tryz.ntmps6
  go_wp2_with fail
  refine HLg.out.mono ?_
  rintro e w1 ⟨rfl, hb1⟩
  have H1 := Lib.hid (HH.out.on hb1)
  have HB1 := Lib.hid hb1
  obtain ⟨b1, i1, e1⟩ := plO_form (getE f.no p)
  have hl1 := H1.out.hN.lookT (by have := HP3.out; omega) rfl e1 HAg.out
  have c6 := H1.out.c6
  have hb2 := hb1.alloc hb1.size (.cells #[.int .i64 (b1 : Int), .int .i64 (i1 : Int)] 52)
  have H2 := Lib.hid (HH.out.on hb2)
  have HB2 := Lib.hid hb2
  clear hb1 e1 hb2
  go_upto_region 5 with fail
  generalize w1.alloc (.cells #[.int .i64 (b1 : Int), .int .i64 (i1 : Int)] 52) = w2 at *
  clear hl1 c6
  go_wp2_with fail
  refine (fsize_calls H2.out).mono ?_
  rintro e w3 ⟨rfl, hb3⟩
  have HB3 := Lib.hid (HB2.out.then_ hb3)
  have H3 := Lib.hid (H2.out.on hb3)
  clear hb3
  go_wp2_with fail
  refine (fReadOnly_calls H3.out HC.out.fi HC.out.ov).mono ?_
  rintro e w4 ⟨rfl, hb4⟩
  have HB4 := Lib.hid (HB3.out.then_ hb4)
  have H4 := Lib.hid (H3.out.on hb4)
  clear hb4
  go_upto_region 9 with fail
  go_cut [38] (fun v wx => v = .bool false ∧ Hid (Below w.heap.size w wx))
  case first =>
    cases ag
    · have hfl := HFu.out
      rw [HAg.out] at hfl
      have hfl : (f.se ++ f.no).length + 3 ≤ 8 * (NB - 3) := by simpa using hfl
      obtain ⟨U, hU⟩ : ∃ U, U = (f.se ++ f.no).length := ⟨_, rfl⟩
      have HUs := Lib.hid (fUsed_calls H4.out HLim.out)
      rw [← hU] at HUs hfl
      have hlt : ¬ ((NB : Int) - 3) * 8 - 2 ≤ (U : Int) := by omega
      clear hU hfl
      go_wp2_with fail
      refine HUs.out.mono ?_
      rintro e w5 ⟨rfl, hb5⟩
      have HB5 := Lib.hid (HB4.out.then_ hb5)
      have H5 := Lib.hid (H4.out.on hb5)
      clear hb5
      go_wp2_with fail
      refine (fCapacity_calls H5.out HC.out.fi).mono ?_
      rintro e w6 ⟨rfl, hb6⟩
      have HB6 := Lib.hid (HB5.out.then_ hb6)
      clear hb6
      have HLt := Lib.hid hlt
      clear hlt
      go_wp2_with fail
      go_meet
      case rel => exact ⟨by have := HLt.out; exact congrArg Value.bool (decide_eq_false (by omega)), HB6.out⟩
    · go_wp2_with fail
      go_meet
      case rel => exact ⟨rfl, HB4.out⟩
  case rest =>
    obtain ⟨rfl, hb5⟩ := hcut
    have H5 := Lib.hid (HH.out.on hb5.out)
    have HX5 := Lib.hid (HX.out.on hb5.out)
    have HB5 := Lib.hid hb5.out
    have HPr5 := Lib.hid ((Pr.start HH.out).on hb5.out)
    clear hb5
    have HPt := Lib.hid (fput_calls H5.out HC.out.fi HC.out.fr HC.out.cap (by have := HSq.out; omega) 1 p (.inl rfl) HP3.out ⟨by have := HC.out.sq; omega, by have := HSq.out; omega⟩ ⟨by have := HC.out.sq; omega, by have := HC.out.sq; have := HSq.out; omega⟩ a c pay HGh.out HX5.out HAp.out)
    go_wp2_with fail
    refine HPt.out.mono ?_
    rintro e w6 ⟨k, i, f1, g', rfl, h6, hsame, hpg, hfi, hfr⟩
    have HPr6 := Lib.hid (HPr5.out.step h6)
    obtain ⟨R2, hR2⟩ : ∃ R2, R2 = Up R wc w6 := ⟨_, rfl⟩
    rw [← hR2] at HPr6
    have HSm := Lib.hid hsame
    have HPg := Lib.hid hpg
    have HFi := Lib.hid hfi
    have HFr := Lib.hid hfr
    have hb7 := (Below.refl w6.heap.size w6).alloc (Nat.le_refl _) (.cells #[.int .i64 (k : Int), .int .i64 (i : Int)] 52)
    have HPr7 := Lib.hid (HPr6.out.on hb7)
    have HT10 := Lib.hid (Blk.new w6 52 #[.int .i64 (k : Int), .int .i64 (i : Int)])
    have HT10n := Lib.hid (HPr6.out.ft.not_new (Nat.le_refl w6.heap.size))
    have c6 := HPr7.out.ft.c6
    rw [show (⟨({ f1 with g := g', seq := f.seq + 1 } : Fm).F, 6, none⟩ : Addr) = ⟨f.F, 6, none⟩ from congrArg (fun q => (⟨q, 6, none⟩ : Addr)) hsame.F] at c6
    have hag1 : (getE f1.no p).isSome = ag := by rw [getE_some hsame.no]; exact HAg.out
    obtain ⟨b2, i2, e2⟩ := plO_form (getE f1.no p)
    have hl7 := HPr7.out.ft.hN.lookT (by have := HP3.out; omega) rfl e2 hag1
    have hu1 := HPr7.out.ft.hN.uq
    have HU1 := Lib.hid hu1
    have HOe := Lib.hid (show Oe ⟨⟨1, p, f.seq, f.ep⟩, pay, k, i⟩ from ⟨⟨.inl rfl, HP3.out, by show 1 ≤ f.seq; have := HC.out.sq; omega, by show f.seq < _; have := HSq.out; omega, by show 1 ≤ f.ep; have := HC.out.sq; omega, by show f.ep < _; have := HC.out.sq; have := HSq.out; omega⟩, HX.out.len⟩)
    simp only at c6 hl7
    have hb8 := (Below.refl _ _).alloc (Nat.le_refl (w6.alloc (.cells #[.int .i64 (k : Int), .int .i64 (i : Int)] 52)).heap.size) (.cells #[.int .i64 (b2 : Int), .int .i64 (i2 : Int)] 52)
    have HPr8 := Lib.hid (HPr7.out.on hb8)
    have HT8 := Lib.hid (HT10.out.belowHere hb8)
    have HO8 := Lib.hid (Blk.new (w6.alloc (.cells #[.int .i64 (k : Int), .int .i64 (i : Int)] 52)) 52 #[.int .i64 (b2 : Int), .int .i64 (i2 : Int)])
    have HG1 := Lib.hid hag1
    have HE2 := Lib.hid e2
    clear h6 hsame hpg hfi hfr hb7 hb8 hR2 hag1 e2 hu1
    go_upto_region 15 with fail
    obtain ⟨T10, hT10⟩ : ∃ T10, T10 = w6.heap.size := ⟨_, rfl⟩
    have HTe := Lib.hid hT10
    obtain ⟨W8, hW8⟩ : ∃ W8, W8 = (w6.alloc (.cells #[.int .i64 (k : Int), .int .i64 (i : Int)] 52)).alloc (.cells #[.int .i64 (b2 : Int), .int .i64 (i2 : Int)] 52) := ⟨_, rfl⟩
    have HO8 : Hid (Blk W8 (w6.heap.size + 1) 52 #[.int .i64 (b2 : Int), .int .i64 (i2 : Int)]) := by rw [hW8]; have := HO8; rw [World.size_alloc] at this; exact this
    rw [← hW8] at HPr8 HT8 ⊢
    rw [← hT10] at HT8 HT10n HO8 ⊢
    clear hT10 hW8 c6 hl7
    cases ag
    · -- no older one
      have hno : getE f1.no p = none := by have := HG1.out; cases hg : getE f1.no p with | none => rfl | some e => rw [hg] at this; cases this
      obtain ⟨f3, hf3⟩ : ∃ f3, f3 = ({ f1 with g := g', seq := f.seq + 1 } : Fm) := ⟨_, rfl⟩
      have HF3 := Lib.hid (show f3.F = f.F by rw [hf3]; exact HSm.out.F)
      have HF3b := Lib.hid (show f3.tx = f1.tx ∧ f3.se = f1.se ∧ (putE f3.no ⟨⟨1, p, f.seq, f.ep⟩, pay, k, i⟩ = putE f1.no ⟨⟨1, p, f.seq, f.ep⟩, pay, k, i⟩) ∧ delE f3.go p = delE f1.go p ∧ f3.ep = f1.ep ∧ f3.ov = f1.ov by rw [hf3]; exact ⟨rfl, rfl, rfl, rfl, rfl, rfl⟩)
      have HSq3 := Lib.hid (show f3.seq = f.seq + 1 by rw [hf3])
      have HC10 := Lib.hid (show f3.g.C = f.g.C by rw [hf3]; exact HPg.out.C.trans HSm.out.C)
      have HGh10 := Lib.hid (show f3.g.gh = f.g.gh by rw [hf3]; exact HPg.out.gh.trans HSm.out.gh)
      have HFr10 := Lib.hid (show 3 ≤ Gc.count 0 f3.g.l by rw [hf3]; exact HFr.out)
      have HFi10 := Lib.hid (show Fi NB (100000 * f.seq + 17 * (NB + 1) + 1) [] f3.g (f1.se ++ putE f1.no ⟨⟨1, p, f.seq, f.ep⟩, pay, k, i⟩) by
        rw [hf3]
        refine HFi.out.add HPg.out.gp HOe.out ?_
        rw [putE_new fun x hx => getE_none hno x hx, ← List.append_assoc]
        exact (List.perm_append_comm (l₁ := f1.se ++ f1.no)))
      have HPr10 : Hid (Pr NB B R w R2 W8 f3) := by rw [hf3]; exact HPr8
      have HT10' := HT8
      have HTn := HT10n
      clear hno hf3 HPr8 HT8
      generalize W8 = W10 at *
      have hF3 : f3.F = f.F := HF3.out
      have hmb := HPr10.out.ft.on (below_drew W10)
      have hpn := hmb.putN ⟨⟨1, p, f.seq, f.ep⟩, pay, k, i⟩ (by show p < _; have := HP3.out; omega)
      obtain ⟨o11, hrun, hm11, hk11⟩ := hpn
      have hrun : (Instr.mapUpdate 55 (.map (some f3.NO)) (.int .u32 (p : Int)) (.agg #[.int .i64 (k : Int), .int .i64 (i : Int)])).run Tryz.prog W10.drew = .ok () (setBlock W10.drew f3.NO o11) := hrun
      have HPr11 := Lib.hid ((HPr10.out.on (below_drew W10)).same hm11 hk11)
      have hS10 : W10.drew.cell? ⟨f.F, 6, none⟩ = some (.map (some f3.NO)) ∧ W10.drew.cell? ⟨T10, 0, none⟩ = some (.int .i64 (k : Int)) ∧ W10.drew.cell? ⟨T10, 1, none⟩ = some (.int .i64 (i : Int)) := by
        refine ⟨by rw [← hF3]; exact hmb.c6, HT10'.out.drew.cellv (i := 0) rfl, HT10'.out.drew.cellv (i := 1) rfl⟩
      have hS11 : (setBlock W10.drew f3.NO o11).cell? ⟨f.F, 6, none⟩ = some (.map (some f3.NO)) ∧ (setBlock W10.drew f3.NO o11).cell? ⟨T10, 0, none⟩ = some (.int .i64 (k : Int)) ∧ (setBlock W10.drew f3.NO o11).cell? ⟨T10, 1, none⟩ = some (.int .i64 (i : Int)) := by
        have hT := HT10'.out.drew.kq hk11 HTn.out
        exact ⟨by rw [← hF3]; exact hm11.c6, hT.cellv (i := 0) rfl, hT.cellv (i := 1) rfl⟩
      have HS10 := Lib.hid hS10
      have HS11 := Lib.hid hS11
      clear hmb hm11 hk11 hS10 hS11
      go_upto_region 17 with fail
      refine wp_region_noPanic ?_
      refine wp_region_held_drew (S := (fun W' => W'.cell? ⟨f.F, 6, none⟩ = some (.map (some f3.NO)) ∧ W'.cell? ⟨T10, 0, none⟩ = some (.int .i64 (k : Int)) ∧ W'.cell? ⟨T10, 1, none⟩ = some (.int .i64 (i : Int)))) (by kernel_rfl) HS10.out (fun hS0 => ?_)
      refine takeV 0 (v := (.pointer (some ⟨f.F, 0, none⟩))) rfl (by kernel_rfl) (by kernel_rfl) (by kernel_rfl) (fun _ _ _ h => h) (by rfl) (fun _ _ => rfl) (by assumption) ?_
      try simp only [layR]
      refine takeV 1 (v := (.pointer (some ⟨f.F, 0, none⟩))) rfl (by kernel_rfl) (by kernel_rfl) (by kernel_rfl) (fun _ _ _ h => h) (by rfl) (fun _ _ => rfl) (by assumption) ?_
      try simp only [layR]
      refine takeV 2 (v := (.pointer (some ⟨f.F, 6, none⟩))) rfl (by kernel_rfl) (by kernel_rfl) (by kernel_rfl) (fun _ _ _ h => h) (by rfl) (fun W hSw => ?_) (by assumption) ?_
      · skip
        go_simp
      try simp only [layR]
      refine takeV 3 (v := (.map (some f3.NO))) rfl (by kernel_rfl) (by kernel_rfl) (by kernel_rfl) (fun _ _ _ h => h) (by rfl) (fun W hSw => ?_) (by assumption) ?_
      · obtain ⟨y7, y8, y9⟩ := hSw
        go_simp
      try simp only [layR]
      refine takeV 4 (v := (.int .u32 (p : Int))) rfl (by kernel_rfl) (by kernel_rfl) (by kernel_rfl) (fun _ _ _ h => h) (by rfl) (fun _ _ => rfl) (by assumption) ?_
      try simp only [layR]
      refine takeV 5 (v := (.agg #[.int .i64 (k : Int), .int .i64 (i : Int)])) rfl (by kernel_rfl) (by kernel_rfl) (by kernel_rfl) (fun _ _ _ h => h) (by rfl) (fun W hSw => ?_) (by assumption) ?_
      · obtain ⟨y7, y8, y9⟩ := hSw
        go_simp
      try simp only [layR]
      refine wpAnyH_ready (rs := [6]) (by kernel_rfl) (by simp) ?_
      refine AllReadyH.cons rfl (fun K' hK => ?_) AllReadyH.nil
      go_simp
      refine hK.out _ _ HS11.out (fun hS12 => ?_)
      refine wpAnyH_done (by kernel_rfl) ?_ _
      refine NoPanic.normal ?_
      clear hrun hS0 hS12
      obtain ⟨W11, hW11⟩ : ∃ W11, W11 = setBlock W10.drew f3.NO o11 := ⟨_, rfl⟩
      rw [← hW11] at HPr11 ⊢
      clear hW11
      have hdel := HPr11.out.ft.delG (p := p) (by have := HP3.out; omega)
      have c7 := HPr11.out.ft.c7
      rw [show (⟨({ f3 with no := putE f3.no ⟨⟨1, p, f.seq, f.ep⟩, pay, k, i⟩ } : Fm).F, 7, none⟩ : Addr) = ⟨f.F, 7, none⟩ from congrArg (fun q => (⟨q, 7, none⟩ : Addr)) hF3] at c7
      have c7 : W11.cell? ⟨f.F, 7, none⟩ = some (.map (some f3.GO)) := c7
      have hdel2 := fun ty => hdel ty
      obtain ⟨o12, hrun12, hm12, hk12⟩ := hdel 0
      have HPr12 := Lib.hid (HPr11.out.same hm12 hk12)
      have hrun12 : ∀ ty, (Builtin.delete_ #[55, 30] ty #[.map (some f3.GO), .int .u32 (p : Int)]).run Tryz.prog W11 = .ok (.tuple #[]) (setBlock W11 f3.GO o12) := fun ty => hrun12
      clear hdel hdel2 hm12 hk12 hF3
      go_wp2_with fail
      go_ret
      exact ⟨rfl, _, HPr12.out.fin HB0, wrd HC.out HSm.out HU1.out HP1.out HFi10.out (by omega) HFr10.out (by have := HFu.out; exact this) HC10.out HGh10.out (HF3.out.trans HSm.out.F.symm) HF3b.out.1 HF3b.out.2.1 HF3b.out.2.2.1 HF3b.out.2.2.2.1 HSq3.out HF3b.out.2.2.2.2.1 HF3b.out.2.2.2.2.2⟩
    · -- an older one is dropped
      obtain ⟨e0, hno⟩ : ∃ e0, getE f1.no p = some e0 := by have := HG1.out; cases hg : getE f1.no p with | none => rw [hg] at this; cases this | some e => exact ⟨e, rfl⟩
      obtain ⟨he0, hep⟩ := getE_mem hno
      have hb20 : b2 = e0.b := by
        have := HE2.out
        rw [hno] at this
        have h9 : plV e0.b e0.i = .agg #[.int .i64 (b2 : Int), .int .i64 (i2 : Int)] := this
        unfold plV at h9
        simp only [Value.agg.injEq, Array.mk.injEq, List.cons.injEq, Value.int.injEq, true_and, and_true] at h9
        omega
      obtain ⟨E', q1, q2, q3⟩ := HFi.out.out he0
      rw [← hb20] at q2
      have HQ2 := Lib.hid q2
      have hadd : ∀ g3, Fi NB (100000 * f.seq + 17 * (NB + 1) + 1 + 1) [k] g3 E' → Gp g3 ⟨⟨1, p, f.seq, f.ep⟩, pay, k, i⟩ → Fi NB (100000 * f.seq + 17 * (NB + 1) + 1 + 1) [] g3 (f1.se ++ putE f1.no ⟨⟨1, p, f.seq, f.ep⟩, pay, k, i⟩) := fun g3 h1 h2 => h1.add h2 HOe.out (q3 _ hep.symm HU1.out)
      have HAdd := Lib.hid hadd
      clear hno he0 hep hb20 q1 q2 q3 hadd
      obtain ⟨f2, hf2⟩ : ∃ f2, f2 = ({ f1 with g := g', seq := f.seq + 1 } : Fm) := ⟨_, rfl⟩
      rw [← hf2] at HPr8
      have HF2 := Lib.hid (show f2.F = f.F by rw [hf2]; exact HSm.out.F)
      have HGg := Lib.hid (show f2.g = g' by rw [hf2])
      have HFd := Lib.hid (show Fi NB (100000 * f.seq + 17 * (NB + 1) + 1) (b2 :: [k]) f2.g E' by rw [hf2]; exact HQ2.out)
      have HFs := Lib.hid hf2
      clear hf2
      have hS0a : W8.drew.cell? ⟨f.F, 1, none⟩ = some (.pointer (some ⟨f2.g.M, 0, none⟩)) ∧ W8.drew.cell? ⟨T10 + 1, 0, none⟩ = some (.int .i64 (b2 : Int)) := ⟨by rw [← HF2.out]; exact (HPr8.out.ft.on (below_drew W8)).c1, HO8.out.drew.cellv (i := 0) rfl⟩
      have HS0a := Lib.hid hS0a
      have HDr := Lib.hid (fDrop_calls (HPr8.out.ft.on (below_drew W8)) HFd.out)
      have HOn := Lib.hid (show ¬ R2 (T10 + 1) from fun h1 => by have h2 := (HPr6.out.ft.bnd _ h1).2; have h3 := HT10n.out; have h4 := HPr6.out.ft.not_new (Nat.le_succ w6.heap.size); exact h4 (by have h5 := HTe.out; rw [h5] at h1; exact h1))
      clear hS0a
      go_upto_region 16 with fail
      refine wp_region_noPanic ?_
      refine wp_region_held_drew (S := (fun W' => W'.cell? ⟨f.F, 1, none⟩ = some (.pointer (some ⟨f2.g.M, 0, none⟩)) ∧ W'.cell? ⟨T10 + 1, 0, none⟩ = some (.int .i64 (b2 : Int)))) (by kernel_rfl) HS0a.out (fun hS0 => ?_)
      refine takeV 0 (v := (.pointer (some ⟨f.F, 0, none⟩))) rfl (by kernel_rfl) (by kernel_rfl) (by kernel_rfl) (fun _ _ _ h => h) (by rfl) (fun _ _ => rfl) (by assumption) ?_
      try simp only [layR]
      refine takeV 1 (v := (.pointer (some ⟨f.F, 0, none⟩))) rfl (by kernel_rfl) (by kernel_rfl) (by kernel_rfl) (fun _ _ _ h => h) (by rfl) (fun _ _ => rfl) (by assumption) ?_
      try simp only [layR]
      refine takeV 2 (v := (.pointer (some ⟨f.F, 1, none⟩))) rfl (by kernel_rfl) (by kernel_rfl) (by kernel_rfl) (fun _ _ _ h => h) (by rfl) (fun W hSw => ?_) (by assumption) ?_
      · skip
        go_simp
      try simp only [layR]
      refine takeV 3 (v := (.pointer (some ⟨f2.g.M, 0, none⟩))) rfl (by kernel_rfl) (by kernel_rfl) (by kernel_rfl) (fun _ _ _ h => h) (by rfl) (fun W hSw => ?_) (by assumption) ?_
      · obtain ⟨y8, y9⟩ := hSw
        go_simp
      try simp only [layR]
      refine takeV 4 (v := (.pointer (some ⟨T10 + 1, 0, none⟩))) rfl (by kernel_rfl) (by kernel_rfl) (by kernel_rfl) (fun _ _ _ h => h) (by rfl) (fun W hSw => ?_) (by assumption) ?_
      · skip
        go_simp
      try simp only [layR]
      refine takeV 5 (v := (.int .i64 (b2 : Int))) rfl (by kernel_rfl) (by kernel_rfl) (by kernel_rfl) (fun _ _ _ h => h) (by rfl) (fun W hSw => ?_) (by assumption) ?_
      · obtain ⟨y8, y9⟩ := hSw
        go_simp
      try simp only [layR]
      refine wpAnyH_ready (rs := [6]) (by kernel_rfl) (by simp) ?_
      refine AllReadyH.cons rfl (fun K' hK => ?_) AllReadyH.nil
      go_simp
      refine HDr.out.mono ?_
      rintro e W10 ⟨rfl, hm10, hk10⟩
      obtain ⟨f3, hf3⟩ : ∃ f3, f3 = ({ f2 with g := { f2.g with l := f2.g.l.set b2 (dropB (Gc.at_ f2.g.l b2)) } } : Fm) := ⟨_, rfl⟩
      rw [← hf3] at hm10
      have HPr10 := Lib.hid ((HPr8.out.on (below_drew W8)).same hm10 hk10)
      have HT10' := Lib.hid (HT8.out.drew.kq hk10 HT10n.out)
      have HTn := HT10n
      have hS1 : W10.cell? ⟨f.F, 1, none⟩ = some (.pointer (some ⟨f2.g.M, 0, none⟩)) ∧ W10.cell? ⟨T10 + 1, 0, none⟩ = some (.int .i64 (b2 : Int)) := by
        refine ⟨?_, (HO8.out.drew.kq hk10 HOn.out).cellv (i := 0) rfl⟩
        have h9 := hm10.c1
        rw [hf3] at h9
        rw [← HF2.out]; exact h9
      have HF3 := Lib.hid (show f3.F = f.F by rw [hf3]; exact HF2.out)
      have HF3b := Lib.hid (show f3.tx = f1.tx ∧ f3.se = f1.se ∧ (putE f3.no ⟨⟨1, p, f.seq, f.ep⟩, pay, k, i⟩ = putE f1.no ⟨⟨1, p, f.seq, f.ep⟩, pay, k, i⟩) ∧ delE f3.go p = delE f1.go p ∧ f3.ep = f1.ep ∧ f3.ov = f1.ov by rw [hf3, HFs.out]; exact ⟨rfl, rfl, rfl, rfl, rfl, rfl⟩)
      have HSq3 := Lib.hid (show f3.seq = f.seq + 1 by rw [hf3, HFs.out])
      have HC10 := Lib.hid (show f3.g.C = f.g.C by rw [hf3]; show f2.g.C = _; rw [HGg.out]; exact HPg.out.C.trans HSm.out.C)
      have HGh10 := Lib.hid (show f3.g.gh = f.g.gh by rw [hf3]; show f2.g.gh = _; rw [HGg.out]; exact HPg.out.gh.trans HSm.out.gh)
      have HFr10 := Lib.hid (show 3 ≤ Gc.count 0 f3.g.l by
        rw [hf3]
        show 3 ≤ Gc.count 0 (f2.g.l.set b2 (dropB (Gc.at_ f2.g.l b2)))
        rw [count_dropB (HFd.out.lenl (by simp)) HFd.out.notFree, HGg.out]
        exact HFr.out)
      have HFi10 := Lib.hid (show Fi NB (100000 * f.seq + 17 * (NB + 1) + 1 + 1) [] f3.g (f1.se ++ putE f1.no ⟨⟨1, p, f.seq, f.ep⟩, pay, k, i⟩) by
        refine HAdd.out _ (by rw [hf3]; exact HFd.out.drop) ?_
        have := HPg.out.gp
        rw [hf3]
        exact ⟨by show (f2.g.bl k).pgs i = _; rw [HGg.out]; exact this.pg, by show i < (f2.g.bl k).nx; rw [HGg.out]; exact this.nx, this.i8⟩)
      clear hm10 hk10 hf3
      refine hK.out _ _ hS1 (fun hS2 => ?_)
      refine wpAnyH_done (by kernel_rfl) ?_ _
      refine NoPanic.normal ?_
      clear hS0 hS1 hS2 HS0a HDr HPr8 HT8
      have hF3 : f3.F = f.F := HF3.out
      have hmb := HPr10.out.ft.on (below_drew W10)
      have hpn := hmb.putN ⟨⟨1, p, f.seq, f.ep⟩, pay, k, i⟩ (by show p < _; have := HP3.out; omega)
      obtain ⟨o11, hrun, hm11, hk11⟩ := hpn
      have hrun : (Instr.mapUpdate 55 (.map (some f3.NO)) (.int .u32 (p : Int)) (.agg #[.int .i64 (k : Int), .int .i64 (i : Int)])).run Tryz.prog W10.drew = .ok () (setBlock W10.drew f3.NO o11) := hrun
      have HPr11 := Lib.hid ((HPr10.out.on (below_drew W10)).same hm11 hk11)
      have hS10 : W10.drew.cell? ⟨f.F, 6, none⟩ = some (.map (some f3.NO)) ∧ W10.drew.cell? ⟨T10, 0, none⟩ = some (.int .i64 (k : Int)) ∧ W10.drew.cell? ⟨T10, 1, none⟩ = some (.int .i64 (i : Int)) := by
        refine ⟨by rw [← hF3]; exact hmb.c6, HT10'.out.drew.cellv (i := 0) rfl, HT10'.out.drew.cellv (i := 1) rfl⟩
      have hS11 : (setBlock W10.drew f3.NO o11).cell? ⟨f.F, 6, none⟩ = some (.map (some f3.NO)) ∧ (setBlock W10.drew f3.NO o11).cell? ⟨T10, 0, none⟩ = some (.int .i64 (k : Int)) ∧ (setBlock W10.drew f3.NO o11).cell? ⟨T10, 1, none⟩ = some (.int .i64 (i : Int)) := by
        have hT := HT10'.out.drew.kq hk11 HTn.out
        exact ⟨by rw [← hF3]; exact hm11.c6, hT.cellv (i := 0) rfl, hT.cellv (i := 1) rfl⟩
      have HS10 := Lib.hid hS10
      have HS11 := Lib.hid hS11
      clear hmb hm11 hk11 hS10 hS11
      go_upto_region 17 with fail
      refine wp_region_noPanic ?_
      refine wp_region_held_drew (S := (fun W' => W'.cell? ⟨f.F, 6, none⟩ = some (.map (some f3.NO)) ∧ W'.cell? ⟨T10, 0, none⟩ = some (.int .i64 (k : Int)) ∧ W'.cell? ⟨T10, 1, none⟩ = some (.int .i64 (i : Int)))) (by kernel_rfl) HS10.out (fun hS0 => ?_)
      refine takeV 0 (v := (.pointer (some ⟨f.F, 0, none⟩))) rfl (by kernel_rfl) (by kernel_rfl) (by kernel_rfl) (fun _ _ _ h => h) (by rfl) (fun _ _ => rfl) (by assumption) ?_
      try simp only [layR]
      refine takeV 1 (v := (.pointer (some ⟨f.F, 0, none⟩))) rfl (by kernel_rfl) (by kernel_rfl) (by kernel_rfl) (fun _ _ _ h => h) (by rfl) (fun _ _ => rfl) (by assumption) ?_
      try simp only [layR]
      refine takeV 2 (v := (.pointer (some ⟨f.F, 6, none⟩))) rfl (by kernel_rfl) (by kernel_rfl) (by kernel_rfl) (fun _ _ _ h => h) (by rfl) (fun W hSw => ?_) (by assumption) ?_
      · skip
        go_simp
      try simp only [layR]
      refine takeV 3 (v := (.map (some f3.NO))) rfl (by kernel_rfl) (by kernel_rfl) (by kernel_rfl) (fun _ _ _ h => h) (by rfl) (fun W hSw => ?_) (by assumption) ?_
      · obtain ⟨y7, y8, y9⟩ := hSw
        go_simp
      try simp only [layR]
      refine takeV 4 (v := (.int .u32 (p : Int))) rfl (by kernel_rfl) (by kernel_rfl) (by kernel_rfl) (fun _ _ _ h => h) (by rfl) (fun _ _ => rfl) (by assumption) ?_
      try simp only [layR]
      refine takeV 5 (v := (.agg #[.int .i64 (k : Int), .int .i64 (i : Int)])) rfl (by kernel_rfl) (by kernel_rfl) (by kernel_rfl) (fun _ _ _ h => h) (by rfl) (fun W hSw => ?_) (by assumption) ?_
      · obtain ⟨y7, y8, y9⟩ := hSw
        go_simp
      try simp only [layR]
      refine wpAnyH_ready (rs := [6]) (by kernel_rfl) (by simp) ?_
      refine AllReadyH.cons rfl (fun K' hK => ?_) AllReadyH.nil
      go_simp
      refine hK.out _ _ HS11.out (fun hS12 => ?_)
      refine wpAnyH_done (by kernel_rfl) ?_ _
      refine NoPanic.normal ?_
      clear hrun hS0 hS12
      obtain ⟨W11, hW11⟩ : ∃ W11, W11 = setBlock W10.drew f3.NO o11 := ⟨_, rfl⟩
      rw [← hW11] at HPr11 ⊢
      clear hW11
      have hdel := HPr11.out.ft.delG (p := p) (by have := HP3.out; omega)
      have c7 := HPr11.out.ft.c7
      rw [show (⟨({ f3 with no := putE f3.no ⟨⟨1, p, f.seq, f.ep⟩, pay, k, i⟩ } : Fm).F, 7, none⟩ : Addr) = ⟨f.F, 7, none⟩ from congrArg (fun q => (⟨q, 7, none⟩ : Addr)) hF3] at c7
      have c7 : W11.cell? ⟨f.F, 7, none⟩ = some (.map (some f3.GO)) := c7
      have hdel2 := fun ty => hdel ty
      obtain ⟨o12, hrun12, hm12, hk12⟩ := hdel 0
      have HPr12 := Lib.hid (HPr11.out.same hm12 hk12)
      have hrun12 : ∀ ty, (Builtin.delete_ #[55, 30] ty #[.map (some f3.GO), .int .u32 (p : Int)]).run Tryz.prog W11 = .ok (.tuple #[]) (setBlock W11 f3.GO o12) := fun ty => hrun12
      clear hdel hdel2 hm12 hk12 hF3
      go_wp2_with fail
      go_ret
      exact ⟨rfl, _, HPr12.out.fin HB0, wrd HC.out HSm.out HU1.out HP1.out HFi10.out (by omega) HFr10.out (by have := HFu.out; exact this) HC10.out HGh10.out (HF3.out.trans HSm.out.F.symm) HF3b.out.1 HF3b.out.2.1 HF3b.out.2.2.1 HF3b.out.2.2.2.1 HSq3.out HF3b.out.2.2.2.2.1 HF3b.out.2.2.2.2.2⟩
end
end Go.Proofs.YtiipnpfaaghekaaGreat
/-
  What is on a chip, page by page, and what is chosen of it: plain mathematics.
-/
namespace Go.Proofs.YtiipnpfaaghekaaGreat
open Go.RowKit Ftl Go.ChangeMaps

section
variable {NB B n : Nat} {R : Nat → Prop} {w : World} {f : Fm}
set_option maxRecDepth 100000 in
set_option maxHeartbeats 8000000 in
/-- All pages are used: one more is refused. -/
theorem fWriteFull_calls (h : FtM NB B R w f) (hc : Fc NB f) (p : Nat) (hp1 : 1 ≤ p) (hp2 : p + 2 < (NB - 3) * 8) (hp3 : p < 8192) (hn : getE f.no p = none) (hU : (NB - 3) * 8 ≤ (f.se ++ f.no).length + 2) (a : Option Addr) (c : Nat) :
    Calls Tryz.prog 6 #[.pointer (some ⟨f.F, 0, none⟩), .int .u32 (p : Int), .slice a 64 c] w fun e w' => e = .returned (.int .i64 40) ∧ Below w.heap.size w w' := by
  have hnb := hc.fi.nb
  have hlg := flogical_calls h hc.fi p (by omega)
  rw [if_neg (by omega)] at hlg
  have HLg := Lib.hid hlg
  have HH := Lib.hid h
  have HC := Lib.hid hc
  have HLim := Lib.hid (show (f.se ++ f.no).length ≤ 1000000 by have := hc.cap; omega)
  have HN := Lib.hid hn
  have hcs := placeCells
  obtain ⟨U, hU2⟩ : ∃ U, U = (f.se ++ f.no).length := ⟨_, rfl⟩
  have HUe := Lib.hid hU2
  rw [← hU2] at hU
  have hge : ((NB : Int) - 3) * 8 - 2 ≤ (U : Int) := by omega
  clear h hc hlg hn hU hU2
  go_enter Tryz.func6, Tryz.ntmps6
  go_wp2_with fail
  refine HLg.out.mono ?_
  rintro e w1 ⟨rfl, hb1⟩
  have H1 := Lib.hid (HH.out.on hb1)
  have hl1 := H1.out.hN.lookT (p := p) (by omega) HN.out (x := 0) (y := 0) rfl rfl
  have c6 := H1.out.c6
  have hb2 := hb1.alloc hb1.size (.cells #[.int .i64 0, .int .i64 0] 52)
  have H2 := Lib.hid (HH.out.on hb2)
  have HB2 := Lib.hid hb2
  clear hb1 hb2
  have hl1 : (Instr.lookup 55 (.map (some f.NO)) (.int .u32 (p : Int)) true).run Tryz.prog w1 = .ok (.tuple #[.agg #[.int .i64 0, .int .i64 0], .bool false]) w1 := hl1
  go_upto_region 5 with fail
  generalize w1.alloc (.cells #[.int .i64 0, .int .i64 0] 52) = w2 at *
  clear hl1 c6
  go_wp2_with fail
  refine (fsize_calls H2.out).mono ?_
  rintro e w3 ⟨rfl, hb3⟩
  have HB3 := Lib.hid (HB2.out.then_ hb3)
  have H3 := Lib.hid (H2.out.on hb3)
  clear hb3
  go_wp2_with fail
  refine (fReadOnly_calls H3.out HC.out.fi HC.out.ov).mono ?_
  rintro e w4 ⟨rfl, hb4⟩
  have HB4 := Lib.hid (HB3.out.then_ hb4)
  have H4 := Lib.hid (H3.out.on hb4)
  clear hb4
  have HUs := Lib.hid (fUsed_calls H4.out HLim.out)
  rw [← HUe.out] at HUs
  go_wp2_with fail
  refine HUs.out.mono ?_
  rintro e w5 ⟨rfl, hb5⟩
  have HB5 := Lib.hid (HB4.out.then_ hb5)
  have H5 := Lib.hid (H4.out.on hb5)
  clear hb5
  go_wp2_with fail
  refine (fCapacity_calls H5.out HC.out.fi).mono ?_
  rintro e w6 ⟨rfl, hb6⟩
  have HB6 := Lib.hid (HB5.out.then_ hb6)
  clear hb6
  obtain ⟨CC, hCC⟩ : ∃ CC, CC = ((NB : Int) - 3) * 8 - 2 := ⟨_, rfl⟩
  rw [← hCC] at hge
  rw [← hCC]
  clear hCC
  go_wp2_with fail
  go_ret
  exact ⟨rfl, HB6.out⟩
set_option maxRecDepth 100000 in
set_option maxHeartbeats 4000000 in
/-- A page beyond all that may be. -/
theorem fWriteArg_calls (h : FtM NB B R w f) (hc : Fc NB f) (p : Nat) (hp2 : (NB - 3) * 8 ≤ p + 2) (hp3 : p < 8192) (a : Option Addr) (c : Nat) :
    Calls Tryz.prog 6 #[.pointer (some ⟨f.F, 0, none⟩), .int .u32 (p : Int), .slice a 64 c] w fun e w' => e = .returned (.int .i64 1) ∧ Below w.heap.size w w' := by
  have hnb := hc.fi.nb
  have hlg := flogical_calls h hc.fi p (by omega)
  rw [if_pos (.inr (by omega))] at hlg
  have HLg := Lib.hid hlg
  clear h hc hlg
  go_enter Tryz.func6, Tryz.ntmps6
  go_wp2_with fail
  refine HLg.out.mono ?_
  rintro e w1 ⟨rfl, hb1⟩
  have HB1 := Lib.hid hb1
  clear hb1
  go_wp2_with fail
  go_ret
  exact ⟨rfl, HB1.out⟩
set_option maxRecDepth 100000 in
set_option maxHeartbeats 4000000 in
/-- A page that is not there. -/
theorem fReadNone_calls (h : FtM NB B R w f) (hc : Fc NB f) (p : Nat) (hp1 : 1 ≤ p) (hp2 : p + 2 < (NB - 3) * 8) (hp3 : p < 8192) (hx : curE f p = none) :
    Calls Tryz.prog 10 #[.pointer (some ⟨f.F, 0, none⟩), .int .u32 (p : Int)] w fun e w' => e = .returned (.tuple #[.slice none 0 0, .int .i64 60]) ∧ Below w.heap.size w w' := by
  have hnb := hc.fi.nb
  have hlg := flogical_calls h hc.fi p (by omega)
  rw [if_neg (by omega)] at hlg
  have HLg := Lib.hid hlg
  have HH := Lib.hid h
  have HAt := Lib.hid (fun (W : World) (hW : FtM NB B R W f) => fat_calls hW p (by omega))
  rw [hx] at HAt
  have hcs := placeCells
  clear h hc hlg hx
  go_enter Tryz.func10, Tryz.ntmps10
  go_wp2_with fail
  refine HLg.out.mono ?_
  rintro e w1 ⟨rfl, hb1⟩
  have H1 := Lib.hid (HH.out.on hb1)
  have HB1 := Lib.hid hb1
  clear hb1
  go_wp2_with fail
  refine (HAt.out w1 H1.out).mono ?_
  rintro e w2 ⟨rfl, hb2⟩
  rw [show plO none = .agg #[.int .i64 0, .int .i64 0] from rfl, show (none : Option En).isSome = false from rfl]
  have HB2 := Lib.hid ((HB1.out.then_ hb2).alloc (HB1.out.then_ hb2).size (.cells #[.int .i64 0, .int .i64 0] 52))
  clear hb2
  go_wp2_with fail
  go_ret2
  exact ⟨rfl, HB2.out⟩
set_option maxRecDepth 100000 in
set_option maxHeartbeats 8000000 in
/-- A sealed page is dropped. -/
theorem fDropS_calls (h : FtM NB B R w f) (hc : Fc NB f) (p : Nat) (hp1 : 1 ≤ p) (hp2 : p + 2 < (NB - 3) * 8) (hp3 : p < 8192) (hn : getE f.no p = none) (e0 : En) (h0 : getE f.se p = some e0) :
    Calls Tryz.prog 17 #[.pointer (some ⟨f.F, 0, none⟩), .int .u32 (p : Int)] w fun e w' => e = .returned (.int .i64 0) ∧ FtM NB B R w' { f with go := putE f.go e0 } ∧ Kq R w w' := by
  have hnb := hc.fi.nb
  have hlg := flogical_calls h hc.fi p (by omega)
  rw [if_neg (by omega)] at hlg
  have HLg := Lib.hid hlg
  have HH := Lib.hid h
  have HN := Lib.hid hn
  have HS := Lib.hid h0
  have hcs := placeCells
  have HEp := Lib.hid (getE_mem h0).2
  clear h hc hlg hn h0
  go_enter Tryz.func17, Tryz.ntmps17
  go_wp2_with fail
  refine HLg.out.mono ?_
  rintro e w1 ⟨rfl, hb1⟩
  have H1 := Lib.hid (HH.out.on hb1)
  have hl1 := H1.out.hN.lookT (p := p) (by omega) HN.out (x := 0) (y := 0) rfl rfl
  have c6 := H1.out.c6
  have hb2 := hb1.alloc hb1.size (.cells #[.int .i64 0, .int .i64 0] 52)
  have H2 := Lib.hid (HH.out.on hb2)
  have HB2 := Lib.hid hb2
  clear hb1 hb2
  have hl1 : (Instr.lookup 55 (.map (some f.NO)) (.int .u32 (p : Int)) true).run Tryz.prog w1 = .ok (.tuple #[.agg #[.int .i64 0, .int .i64 0], .bool false]) w1 := hl1
  go_upto_region 5 with fail
  generalize w1.alloc (.cells #[.int .i64 0, .int .i64 0] 52) = w2 at *
  clear hl1 c6
  have hl2 := H2.out.hS.lookT (p := p) (by omega) HS.out (x := e0.b) (y := e0.i) rfl rfl
  have c5 := H2.out.c5
  have hb3 := HB2.out.alloc HB2.out.size (.cells #[.int .i64 (e0.b : Int), .int .i64 (e0.i : Int)] 52)
  have H3 := Lib.hid (HH.out.on hb3)
  have HB3 := Lib.hid hb3
  have HZ := Lib.hid (Blk.new w2 52 #[.int .i64 (e0.b : Int), .int .i64 (e0.i : Int)])
  have hl2 : (Instr.lookup 55 (.map (some f.SE)) (.int .u32 (p : Int)) true).run Tryz.prog w2 = .ok (.tuple #[.agg #[.int .i64 (e0.b : Int), .int .i64 (e0.i : Int)], .bool true]) w2 := hl2
  clear hb3
  go_upto_region 10 with fail
  generalize w2.alloc (.cells #[.int .i64 (e0.b : Int), .int .i64 (e0.i : Int)] 52) = w3 at *
  generalize w2.heap.size = Z at *
  clear hl2 c5
  have H4 := Lib.hid (H3.out.on (below_drew w3))
  have HB4 := Lib.hid (HB3.out.then_ (below_drew w3))
  have hs0 : w3.drew.cell? ⟨f.F, 7, none⟩ = some (.map (some f.GO)) ∧ Blk w3.drew Z 52 #[.int .i64 (e0.b : Int), .int .i64 (e0.i : Int)] := ⟨H4.out.c7, HZ.out.drew⟩
  refine wp_region_noPanic ?_
  refine wp_region_held_drew (S := (fun W' => W'.cell? ⟨f.F, 7, none⟩ = some (.map (some f.GO)) ∧ Blk W' Z 52 #[.int .i64 (e0.b : Int), .int .i64 (e0.i : Int)])) (by kernel_rfl) hs0 (fun hS0 => ?_)
  generalize w3.drew = w4 at *
  clear hs0
  refine takeV 0 (v := (.pointer (some ⟨f.F, 0, none⟩))) rfl (by kernel_rfl) (by kernel_rfl) (by kernel_rfl) (fun _ _ _ h => h) (by rfl) (fun _ _ => rfl) (by assumption) ?_
  try simp only [layR]
  refine takeV 1 (v := (.pointer (some ⟨f.F, 0, none⟩))) rfl (by kernel_rfl) (by kernel_rfl) (by kernel_rfl) (fun _ _ _ h => h) (by rfl) (fun W hSw => ?_) (by assumption) ?_
  · skip
    go_simp
  try simp only [layR]
  refine takeV 2 (v := (.pointer (some ⟨f.F, 7, none⟩))) rfl (by kernel_rfl) (by kernel_rfl) (by kernel_rfl) (fun _ _ _ h => h) (by rfl) (fun W hSw => ?_) (by assumption) ?_
  · skip
    go_simp
  try simp only [layR]
  refine takeV 3 (v := (.map (some f.GO))) rfl (by kernel_rfl) (by kernel_rfl) (by kernel_rfl) (fun _ _ _ h => h) (by rfl) (fun W hSw => ?_) (by assumption) ?_
  · obtain ⟨y1, y2⟩ := hSw
    go_simp
  try simp only [layR]
  refine takeV 4 (v := (.int .u32 (p : Int))) rfl (by kernel_rfl) (by kernel_rfl) (by kernel_rfl) (fun _ _ _ h => h) (by rfl) (fun _ _ => rfl) (by assumption) ?_
  try simp only [layR]
  refine takeV 5 (v := (.agg #[.int .i64 (e0.b : Int), .int .i64 (e0.i : Int)])) rfl (by kernel_rfl) (by kernel_rfl) (by kernel_rfl) (fun _ _ _ h => h) (by rfl) (fun W hSw => ?_) (by assumption) ?_
  · have y1 := hSw.2.cellv (i := 0) rfl; have y2 := hSw.2.cellv (i := 1) rfl
    go_simp
  try simp only [layR]
  obtain ⟨o, hrun, hm, hk⟩ := H4.out.putG e0 (by rw [HEp.out]; omega)
  rw [HEp.out, plV_eq] at hrun
  refine wpAnyH_ready (rs := [6]) (by kernel_rfl) (by simp) ?_
  refine AllReadyH.cons rfl (fun K' hK => ?_) AllReadyH.nil
  go_simp
  have HM := Lib.hid hm
  have HK := Lib.hid hk
  have hG : f.GO ≠ f.F ∧ f.GO ≠ Z := by
    obtain ⟨S, a1, _⟩ := H4.out
    have nd := a1.nd
    simp only [List.nodup_cons, List.mem_cons, List.not_mem_nil, or_false, not_or] at nd
    refine ⟨fun e => nd.1.2.2.1 e.symm, fun e => ?_⟩
    obtain ⟨es, cl, h1, _⟩ := a1.hG
    have h2 := hS0.2
    unfold Blk at h2
    rw [← e, h1] at h2
    cases h2
  have hq := setBlock_grown H4.out.hG o
  have hS1 : (setBlock w4 f.GO o).cell? ⟨f.F, 7, none⟩ = some (.map (some f.GO)) ∧ Blk (setBlock w4 f.GO o) Z 52 #[.int .i64 (e0.b : Int), .int .i64 (e0.i : Int)] := ⟨HM.out.c7, hS0.2.grown hq (fun e => hG.2 (Option.some.inj e).symm)⟩
  clear hm hk hrun hG hq
  refine hK.out _ _ hS1 (fun hS2 => ?_)
  try simp only [layR]
  refine wpAnyH_done (by kernel_rfl) ?_ _
  refine NoPanic.normal ?_
  clear hS0 hS1 hS2
  go_wp2_with fail
  go_ret
  exact ⟨rfl, HM.out, (Kq.of HB4.out).trans HK.out⟩
end
end Go.Proofs.YtiipnpfaaghekaaGreat
/-
  The last epoch; whether a page counts.
-/
/-
  Rows of pages that were seen on a chip, in memory.
-/
namespace Go.Proofs.YtiipnpfaaghekaaGreat
open Go.RowKit Ftl

namespace Opn
/-- A page as an entry. -/
def pgE (k i : Nat) : Option (List UInt8) → List En
  | none => []
  | some L => [⟨Tg.readT L, Tg.readP L, k, i⟩]
def rowL (bl : Nat → Pb) (k i : Nat) : List En := (List.range i).flatMap fun q => pgE k q ((bl k).pgs q)
def allL (bl : Nat → Pb) (k : Nat) : List En := (List.range k).flatMap fun j => rowL bl j 8
theorem rowL_succ (bl : Nat → Pb) (k i : Nat) : rowL bl k (i + 1) = rowL bl k i ++ pgE k i ((bl k).pgs i) := by
  unfold rowL
  rw [List.range_succ, List.flatMap_append, List.flatMap_cons, List.flatMap_nil, List.append_nil]
theorem allL_succ (bl : Nat → Pb) (k : Nat) : allL bl (k + 1) = allL bl k ++ rowL bl k 8 := by
  unfold allL
  rw [List.range_succ, List.flatMap_append, List.flatMap_cons, List.flatMap_nil, List.append_nil]
theorem pgE_len (k i : Nat) (o : Option (List UInt8)) : (pgE k i o).length ≤ 1 := by
  cases o
  · exact Nat.zero_le 1
  · exact Nat.le_refl 1
theorem rowL_len (bl : Nat → Pb) (k i : Nat) : (rowL bl k i).length ≤ i := by
  induction i with
  | zero => exact Nat.le_refl 0
  | succ i ih => rw [rowL_succ, List.length_append]; have := pgE_len k i ((bl k).pgs i); omega
theorem allL_len (bl : Nat → Pb) (k : Nat) : (allL bl k).length ≤ 8 * k := by
  induction k with
  | zero => exact Nat.le_refl 0
  | succ k ih => rw [allL_succ, List.length_append]; have := rowL_len bl k 8; omega
/-- An entry tells what stands at its place. -/
def Is (bl : Nat → Pb) (e : En) : Prop := ∃ L, (bl e.b).pgs e.i = some L ∧ e.t = Tg.readT L ∧ e.d = Tg.readP L
theorem mem_all {bl : Nat → Pb} {K : Nat} {e : En} : e ∈ allL bl K ↔ e.b < K ∧ e.i < 8 ∧ Is bl e := by
  unfold allL rowL
  simp only [List.mem_flatMap, List.mem_range]
  constructor
  · rintro ⟨j, hj, q, hq, h⟩
    cases hz : (bl j).pgs q with
    | none => rw [hz] at h; cases h
    | some L =>
      rw [hz] at h
      obtain rfl : e = ⟨Tg.readT L, Tg.readP L, j, q⟩ := by simpa [pgE] using h
      exact ⟨hj, hq, L, hz, rfl, rfl⟩
  · rintro ⟨h1, h2, L, h3, h4, h5⟩
    refine ⟨e.b, h1, e.i, h2, ?_⟩
    rw [h3]
    obtain ⟨t, d, b, i⟩ := e
    simp only at h4 h5
    rw [h4, h5]
    simp [pgE]
theorem is_one {bl : Nat → Pb} {x y : En} (hx : Is bl x) (hy : Is bl y) (hb : x.b = y.b) (hi : x.i = y.i) : x = y := by
  obtain ⟨L, h1, h2, h3⟩ := hx
  obtain ⟨M, k1, k2, k3⟩ := hy
  rw [hb, hi, k1] at h1
  obtain rfl := Option.some.inj h1
  obtain ⟨t, d, b, i⟩ := x
  obtain ⟨t', d', b', i'⟩ := y
  simp only at *
  rw [h2, h3, k2, k3, hb, hi]
/-- All pages are tags' pages, with numbers that may be. -/
structure Gd (NB : Nat) (bl : Nat → Pb) : Prop where
  ok : ∀ k i L, k < NB → i < 8 → (bl k).pgs i = some L → Tg.readE L = 0 ∧ L.length = 96 ∧ ((Tg.readT L).k = 2 ↔ (Tg.readT L).p = 0) ∧ (Tg.readT L).s ≤ 2305843009213693952 ∧ (Tg.readT L).e ≤ 2305843009213693952 ∧ (Tg.readT L).p < 4294967296 ∧ (Tg.readP L).length = 64
  bad : ∀ k, k < NB → (bl k).bad = false
  wear : ∀ k, k < NB → (bl k).wear ≤ 1099511627776
/-- Nothing stands on the first i pages. -/
def frB (bl : Nat → Pb) (k i : Nat) : Bool := (List.range i).all fun q => ((bl k).pgs q).isNone
theorem frB_succ (bl : Nat → Pb) (k i : Nat) : frB bl k (i + 1) = (frB bl k i && ((bl k).pgs i).isNone) := by
  unfold frB
  rw [List.range_succ, List.all_append]
  simp
/-- A list's numbers, taken together from the first on. -/
theorem fold_take {α β : Type} (g : β → α → β) (b : β) (l : List α) {j : Nat} (hj : j < l.length) : (l.take (j + 1)).foldl g b = g ((l.take j).foldl g b) l[j] := by
  rw [List.take_succ_eq_append_getElem hj, List.foldl_append]
  rfl
def lastS (m : Nat) (e : En) : Nat := if e.t.k = 2 then max m e.t.e else m
def lastE (l : List En) : Nat := l.foldl lastS 0
def cnt (last : Nat) (e : En) : Bool := decide (e.t.e ≤ last) && (decide (0 < e.t.p) || decide (e.t.e = last))
def mostS (last : Nat) (f : Nat → Nat) (e : En) : Nat → Nat := if cnt last e then fun p => if p = e.t.p then max (f p) e.t.s else f p else f
def mostF (last : Nat) (l : List En) : Nat → Nat := l.foldl (mostS last) fun _ => 0
def newP (last : Nat) (m : Nat → Nat) (e : En) : Bool := cnt last e && decide (e.t.s = m e.t.p)
def newL (last : Nat) (l : List En) : List En := l.filter (newP last (mostF last l))
def manyS (f : Nat → Nat) (e : En) : Nat → Nat := fun b => if b = e.b then f b + 1 else f b
def manyF (l : List En) : Nat → Nat := l.foldl manyS fun _ => 0
def pick (many : Nat → Nat) (out : List En) (e : En) : Bool := match getE out e.t.p with
  | none => true
  | some x => decide (many x.b < many e.b)
def chsS (many : Nat → Nat) (out : List En) (e : En) : List En := if pick many out e then putE out e else out
def chsL (many : Nat → Nat) (l : List En) : List En := l.foldl (chsS many) []
def sealed (l : List En) : List En := chsL (manyF (newL (lastE l) l)) (newL (lastE l) l)
theorem filter_take {α : Type} (p : α → Bool) (l : List α) {j : Nat} (hj : j < l.length) : (l.take (j + 1)).filter p = (l.take j).filter p ++ if p l[j] then [l[j]] else [] := by
  rw [List.take_succ_eq_append_getElem hj, List.filter_append, List.filter_cons, List.filter_nil]
theorem lastE_spec (l : List En) : ∀ m, m ≤ l.foldl lastS m ∧ (∀ e ∈ l, e.t.k = 2 → e.t.e ≤ l.foldl lastS m) ∧ (l.foldl lastS m = m ∨ ∃ e ∈ l, l.foldl lastS m = e.t.e) := by
  induction l with
  | nil => exact fun m => ⟨Nat.le_refl m, fun e h => (by cases h), .inl rfl⟩
  | cons a t ih =>
    intro m
    rw [List.foldl_cons]
    obtain ⟨h1, h2, h3⟩ := ih (lastS m a)
    have h4 : m ≤ lastS m a ∧ (a.t.k = 2 → a.t.e ≤ lastS m a) ∧ (lastS m a = m ∨ lastS m a = a.t.e) := by
      unfold lastS
      split
      · refine ⟨Nat.le_max_left _ _, fun _ => Nat.le_max_right _ _, ?_⟩
        rcases Nat.le_total m a.t.e with e | e
        · exact .inr (Nat.max_eq_right e)
        · exact .inl (Nat.max_eq_left e)
      · rename_i hk
        exact ⟨Nat.le_refl _, fun e => absurd e hk, .inl rfl⟩
    refine ⟨Nat.le_trans h4.1 h1, fun e he hk => ?_, ?_⟩
    · rcases List.mem_cons.1 he with rfl | he
      · exact Nat.le_trans (h4.2.1 hk) h1
      · exact h2 e he hk
    · rcases h3 with h3 | ⟨e, he, h3⟩
      · rcases h4.2.2 with h5 | h5
        · exact .inl (h3.trans h5)
        · exact .inr ⟨a, by simp, h3.trans h5⟩
      · exact .inr ⟨e, List.mem_cons_of_mem _ he, h3⟩
theorem mostF_spec (last : Nat) (l : List En) (p : Nat) : ∀ f : Nat → Nat, f p ≤ l.foldl (mostS last) f p ∧ (∀ e ∈ l, cnt last e = true → e.t.p = p → e.t.s ≤ l.foldl (mostS last) f p) ∧ (l.foldl (mostS last) f p = f p ∨ ∃ e ∈ l, cnt last e = true ∧ e.t.p = p ∧ l.foldl (mostS last) f p = e.t.s) := by
  induction l with
  | nil => exact fun f => ⟨Nat.le_refl _, fun e h => (by cases h), .inl rfl⟩
  | cons a t ih =>
    intro f
    rw [List.foldl_cons]
    obtain ⟨h1, h2, h3⟩ := ih (mostS last f a)
    have h4 : f p ≤ mostS last f a p ∧ (cnt last a = true → a.t.p = p → a.t.s ≤ mostS last f a p) ∧ (mostS last f a p = f p ∨ (cnt last a = true ∧ a.t.p = p ∧ mostS last f a p = a.t.s)) := by
      unfold mostS
      split
      · rename_i hc
        simp only
        by_cases hp : p = a.t.p
        · rw [if_pos hp]
          refine ⟨Nat.le_max_left _ _, fun _ _ => Nat.le_max_right _ _, ?_⟩
          rcases Nat.le_total (f p) a.t.s with e | e
          · exact .inr ⟨hc, hp.symm, Nat.max_eq_right e⟩
          · exact .inl (Nat.max_eq_left e)
        · rw [if_neg hp]
          exact ⟨Nat.le_refl _, fun _ e => absurd e.symm hp, .inl rfl⟩
      · rename_i hc
        exact ⟨Nat.le_refl _, fun e => absurd e hc, .inl rfl⟩
    refine ⟨Nat.le_trans h4.1 h1, fun e he hc hp => ?_, ?_⟩
    · rcases List.mem_cons.1 he with rfl | he
      · exact Nat.le_trans (h4.2.1 hc hp) h1
      · exact h2 e he hc hp
    · rcases h3 with h3 | ⟨e, he, h3⟩
      · rcases h4.2.2 with h5 | ⟨h5, h6, h7⟩
        · exact .inl (h3.trans h5)
        · exact .inr ⟨a, by simp, h5, h6, h3.trans h7⟩
      · exact .inr ⟨e, List.mem_cons_of_mem _ he, h3⟩
/-- Of each page that counts, one is among the newest. -/
theorem new_some {last : Nat} {l : List En} {e : En} (he : e ∈ l) (hc : cnt last e = true) : ∃ x ∈ newL last l, x.t.p = e.t.p := by
  obtain ⟨_, h2, h3⟩ := mostF_spec last l e.t.p fun _ => 0
  rcases h3 with h3 | ⟨x, hx, h4, h5, h6⟩
  · refine ⟨e, List.mem_filter.2 ⟨he, ?_⟩, rfl⟩
    have := h2 e he hc rfl
    unfold newP
    rw [hc, Bool.true_and, decide_eq_true_eq]
    show e.t.s = l.foldl (mostS last) (fun _ => 0) e.t.p
    omega
  · refine ⟨x, List.mem_filter.2 ⟨hx, ?_⟩, h5⟩
    unfold newP
    rw [h4, Bool.true_and, decide_eq_true_eq, h5]
    exact h6.symm
theorem new_is {last : Nat} {l : List En} {x : En} (hx : x ∈ newL last l) : x ∈ l ∧ cnt last x = true ∧ ∀ e ∈ l, cnt last e = true → e.t.p = x.t.p → e.t.s ≤ x.t.s := by
  obtain ⟨h1, h2⟩ := List.mem_filter.1 hx
  unfold newP at h2
  rw [Bool.and_eq_true, decide_eq_true_eq] at h2
  obtain ⟨_, h3, _⟩ := mostF_spec last l x.t.p fun _ => 0
  refine ⟨h1, h2.1, fun e he hc hp => ?_⟩
  rw [h2.2]
  exact h3 e he hc hp
theorem chs_spec (many : Nat → Nat) (l : List En) : ∀ out, Uq out → Uq (l.foldl (chsS many) out) ∧ (∀ x ∈ l.foldl (chsS many) out, x ∈ out ∨ x ∈ l) ∧ (∀ e, e ∈ out ∨ e ∈ l → (getE (l.foldl (chsS many) out) e.t.p).isSome = true) := by
  induction l with
  | nil => exact fun out hu => ⟨hu, fun x hx => .inl hx, fun e he => by
      rcases he with he | he
      · exact getE_isSome.2 (List.mem_map.2 ⟨e, he, rfl⟩)
      · cases he⟩
  | cons a t ih =>
    intro out hu
    rw [List.foldl_cons]
    have h4 : Uq (chsS many out a) ∧ (∀ x ∈ chsS many out a, x ∈ out ∨ x = a) ∧ ∀ e, e ∈ out ∨ e = a → (getE (chsS many out a) e.t.p).isSome = true := by
      unfold chsS
      split
      · refine ⟨uq_putE hu, fun x hx => (mem_putE hx).symm, fun e he => ?_⟩
        rw [getE_putE hu]
        split
        · rfl
        · rcases he with he | he
          · exact getE_isSome.2 (List.mem_map.2 ⟨e, he, rfl⟩)
          · rename_i hne
            exact absurd (by rw [he]) hne
      · rename_i hp
        refine ⟨hu, fun x hx => .inl hx, fun e he => ?_⟩
        rcases he with he | he
        · exact getE_isSome.2 (List.mem_map.2 ⟨e, he, rfl⟩)
        · rw [he]
          unfold pick at hp
          cases hz : getE out a.t.p with
          | none => rw [hz] at hp; exact absurd rfl hp
          | some x => rfl
    obtain ⟨h1, h2, h3⟩ := ih _ h4.1
    refine ⟨h1, fun x hx => ?_, fun e he => ?_⟩
    · rcases h2 x hx with h5 | h5
      · rcases h4.2.1 x h5 with h6 | h6
        · exact .inl h6
        · exact .inr (h6 ▸ List.mem_cons_self)
      · exact .inr (List.mem_cons_of_mem _ h5)
    · rcases he with he | he
      · have h5 := h4.2.2 e (.inl he)
        obtain ⟨y, hy, hp⟩ := List.mem_map.1 (getE_isSome.1 h5)
        have := h3 y (.inl hy)
        rw [← hp]; exact this
      · rcases List.mem_cons.1 he with rfl | he
        · have h5 := h4.2.2 e (.inr rfl)
          obtain ⟨y, hy, hp⟩ := List.mem_map.1 (getE_isSome.1 h5)
          have := h3 y (.inl hy)
          rw [← hp]; exact this
        · exact h3 e (.inr he)
/-- What a chip holds, page by page: the newest copy of each. -/
structure Hold (l : List En) (V : Nat → Option (Tg × List UInt8)) (last sq : Nat) : Prop where
  all : ∀ e ∈ l, e.t.e ≤ last ∧ e.t.s ≤ sq ∧ ∃ x, V e.t.p = some x ∧ e.t.s ≤ x.1.s ∧ (e.t.s = x.1.s → e.t = x.1 ∧ e.d = x.2)
  has : ∀ p x, V p = some x → x.1.p = p ∧ ∃ e ∈ l, e.t = x.1 ∧ e.d = x.2
  kind : ∀ e ∈ l, e.t.k = 2 ↔ e.t.p = 0
  seal_ : ∃ x, V 0 = some x ∧ x.1.e = last ∧ x.1.s = sq
section
variable {l : List En} {V : Nat → Option (Tg × List UInt8)} {last sq : Nat}
theorem Hold.last_ (h : Hold l V last sq) : lastE l = last := by
  obtain ⟨x, h1, h2, _⟩ := h.seal_
  obtain ⟨h3, e, he, h4, _⟩ := h.has 0 x h1
  obtain ⟨k1, k2, k3⟩ := lastE_spec l 0
  have k4 := k2 e he ((h.kind e he).2 (by rw [h4]; exact h3))
  rw [h4, h2] at k4
  refine Nat.le_antisymm ?_ k4
  rcases k3 with k3 | ⟨y, hy, k3⟩
  · unfold lastE; omega
  · have := (h.all y hy).1
    unfold lastE; omega
theorem Hold.sealed_ (h : Hold l V last sq) : Uq (sealed l) ∧ (∀ e ∈ sealed l, e ∈ l) ∧ ∀ p, (getE (sealed l) p).map sk = V p := by
  have hl := h.last_
  obtain ⟨h1, h2, h3⟩ := chs_spec (manyF (newL (lastE l) l)) (newL (lastE l) l) [] List.nodup_nil
  have hin : ∀ e ∈ sealed l, e ∈ newL last l := fun e he => by
    rcases h2 e he with h4 | h4
    · cases h4
    · rw [hl] at h4; exact h4
  have hcnt : ∀ p x, V p = some x → ∃ e ∈ l, e.t = x.1 ∧ e.d = x.2 ∧ cnt last e = true := fun p x hp => by
    obtain ⟨k1, e, he, k2, k3⟩ := h.has p x hp
    refine ⟨e, he, k2, k3, ?_⟩
    have k4 := (h.all e he).1
    unfold cnt
    rw [decide_eq_true k4, Bool.true_and, Bool.or_eq_true, decide_eq_true_eq, decide_eq_true_eq]
    by_cases h0 : p = 0
    · subst h0
      obtain ⟨y, k5, k6, _⟩ := h.seal_
      rw [hp] at k5
      obtain rfl := Option.some.inj k5
      exact .inr (by rw [k2]; exact k6)
    · exact .inl (by rw [k2, k1]; omega)
  have hval : ∀ e ∈ newL last l, V e.t.p = some (sk e) := fun e he => by
    obtain ⟨k1, k2, k3⟩ := new_is he
    obtain ⟨_, _, x, k4, k5, k6⟩ := h.all e k1
    obtain ⟨y, hy, k7, k8, k9⟩ := hcnt _ x k4
    obtain ⟨k10, _⟩ := h.has _ x k4
    have := k3 y hy k9 (by rw [k7]; exact k10)
    rw [k7] at this
    obtain ⟨k11, k12⟩ := k6 (by omega)
    rw [k4, show sk e = x by unfold sk; rw [k11, k12]]
  refine ⟨h1, fun e he => (new_is (hin e he)).1, fun p => ?_⟩
  cases hz : getE (sealed l) p with
  | some e =>
    obtain ⟨k1, k2⟩ := getE_mem hz
    have := hval e (hin e k1)
    rw [k2] at this
    exact this.symm
  | none =>
    cases hv : V p with
    | none => rfl
    | some x =>
      obtain ⟨e, he, k1, k2, k3⟩ := hcnt p x hv
      obtain ⟨y, hy, k4⟩ := new_some he k3
      have k5 := h3 y (.inr (by rw [hl]; exact hy))
      rw [k4, k1, (h.has p x hv).1] at k5
      exact absurd k5 (by rw [show getE (List.foldl (chsS (manyF (newL (lastE l) l))) [] (newL (lastE l) l)) p = none from hz]; decide)
end
end Opn
end Go.Proofs.YtiipnpfaaghekaaGreat
namespace Go.Proofs.YtiipnpfaaghekaaGreat
open Go.RowKit Ftl

/-- A page that was seen: its tag, its place. -/
def snL (e : En) : List Value := [.int .i64 e.t.k, .int .u32 (e.t.p : Int), .int .u64 (e.t.s : Int), .int .u64 (e.t.e : Int), .int .i64 (e.b : Int), .int .i64 (e.i : Int)]
theorem sn_len (e : En) : (snL e).length = 6 := rfl
theorem sn_one : ∀ e : En, ∀ u ∈ snL e, u.oneCell' = true := fun e u hu => by
  simp only [snL, List.mem_cons, List.not_mem_nil, or_false] at hu
  rcases hu with rfl | rfl | rfl | rfl | rfl | rfl <;> rfl
theorem snCells : Tryz.prog.cellsOf 83 = 6 := by kernel_rfl
theorem infoSn : (Tryz.prog.info? 83).map (fun i => (i.zero, i.size, i.bytes)) = some (some (.agg #[.int .i64 0, .int .u32 0, .int .u64 0, .int .u64 0, .int .i64 0, .int .i64 0]), 6, 48) := by kernel_rfl
theorem wpList_litSn {w : World} {ops : Array Oper} {rest : List Oper} {o : Oper} {ac : Act} {Q : Exit → Act → World → Prop} {cs : Array Value} (hgd : o.guard = none) (s x : Operand) (ho : o.op = .call { callee := .builtin .append, args := #[s, x], argTypes := #[76, 76] }) (base : Nat)
    (v : Value) (xs : List En) (hs : ac.eval s = v) (hown : OwnM 6 snL 83 w base v xs) (y : En) (g : Nat) (hx : ac.eval x = .slice (some ⟨g, 0, none⟩) 1 1) (hg : g = w.heap.size) (hcs : cs = (snL y).toArray)
    (hbytes : xs.length ≤ 1000000) (hbase : base ≤ w.heap.size)
    (h : ∀ v' w', Hid (OwnM 6 snL 83 w' base v' (xs ++ [y])) → Hid (Kq (fun q => v.ownBlock = some q) w w') → wpList Tryz.prog ops Q rest (ac.put o.dst v') w') : wpList Tryz.prog ops Q (o :: rest) ac (w.alloc (.cells cs 83)) := by
  subst hg
  obtain ⟨i0, hi, hz0, hz1, hz2⟩ := info_parts infoSn
  have hb2 : base ≤ (w.alloc (.cells cs 83)).heap.size := by simp; omega
  exact wpList_append_OwnM hgd s x 76 ho base 83 i0 _ 48 Tryz.underlying76 hi hz0 hz1 hz2 rfl (by decide) sn_one v xs hs (hown.alloc _) _ _ 1 1 [y] hx (ArrM.lit1 w 83 y hcs) (by omega) (by simp only [maxLen]; omega) hb2 fun v' w' h1 h2 _ =>
    h v' w' (Lib.hid h1) (Lib.hid ((Kq.of ((Below.refl _ w).alloc (Nat.le_refl _) _)).trans (Kq.grown h2)))
/-- The cells of one that was seen. -/
theorem sn_at {w : World} {B n : Nat} {a : Option Addr} {xs : List En} (h : ArrM 6 snL w B a n xs) {j : Nat} (hj : j < n) :
    ∃ x, xs[j]? = some x ∧ ∃ b o, a = some ⟨b, o, none⟩ ∧ b < B ∧ w.cell? ⟨b, o + j * 6, none⟩ = some (.int .i64 x.t.k) ∧ w.cell? ⟨b, o + j * 6 + 1, none⟩ = some (.int .u32 (x.t.p : Int)) ∧ w.cell? ⟨b, o + j * 6 + 2, none⟩ = some (.int .u64 (x.t.s : Int)) ∧ w.cell? ⟨b, o + j * 6 + 3, none⟩ = some (.int .u64 (x.t.e : Int)) ∧ w.cell? ⟨b, o + j * 6 + 4, none⟩ = some (.int .i64 (x.b : Int)) ∧ w.cell? ⟨b, o + j * 6 + 5, none⟩ = some (.int .i64 (x.i : Int)) := by
  obtain ⟨b, o, hj2, ha, hb, hc⟩ := h.atv hj
  exact ⟨xs[j], List.getElem?_eq_getElem hj2, b, o, ha, hb, hc 0 _ rfl, hc 1 _ rfl, hc 2 _ rfl, hc 3 _ rfl, hc 4 _ rfl, hc 5 _ rfl⟩
end Go.Proofs.YtiipnpfaaghekaaGreat
/-
  The manager's blocks, one behind the other.
-/
/-
  Maps of numbers to numbers, as functions that are 0 where nothing was put.
-/
namespace Go.Proofs.YtiipnpfaaghekaaGreat
open Go.RowKit Ftl Opn

set_option maxRecDepth 100000 in
set_option maxHeartbeats 4000000 in
theorem lastEpoch_calls (a : Option Addr) (n c : Nat) (l : List En) (w : World) (hx : ArrM 6 snL w w.heap.size a n l) (hn : n ≤ 100000) :
    Calls Tryz.prog 41 #[.slice a n c] w fun e w' => e = .returned (.int .u64 (lastE l : Int)) ∧ Below w.heap.size w w' := by
  have HX := Lib.hid hx
  have HLn := Lib.hid hx.len
  have hcs := snCells
  clear hx
  go_enter Tryz.func41, Tryz.ntmps41
  go_wp2_with fail
  go_loopw [3, 5, 8] (fun m _ i wr => ∃ j : Nat, j ≤ n ∧ i = .int .i64 (j : Int) ∧ m = .int .u64 (lastE (l.take j) : Int) ∧ Below w.heap.size w wr) (fun _ _ i _ => n - (intOf i).toNat)
  case atStart => exact ⟨0, by omega, rfl, rfl, Below.refl _ _⟩
  case round =>
    obtain ⟨j, hj, rfl, rfl, hb⟩ := hrel
    have HB := Lib.hid hb
    clear hb
    by_cases hlt : j < n
    · obtain ⟨x, hxj, b, o, rfl, hbl, c0, c1, c2, c3, c4, c5⟩ := sn_at (HX.out.below HB.out) hlt
      obtain ⟨hjl, hxe⟩ := List.getElem?_eq_some_iff.1 hxj
      have hst : lastE (l.take (j + 1)) = lastS (lastE (l.take j)) x := by rw [← hxe]; exact fold_take lastS 0 l hjl
      have HSt := Lib.hid hst
      have hj0 : (0 : Int) ≤ (j : Int) := by omega
      have hj1 : (j : Int) < (n : Int) := by omega
      have HB2 := Lib.hid (HB.out.alloc HB.out.size (.cells #[.int .i64 x.t.k, .int .u32 (x.t.p : Int), .int .u64 (x.t.s : Int), .int .u64 (x.t.e : Int), .int .i64 (x.b : Int), .int .i64 (x.i : Int)] 83))
      clear hst hxj hjl hxe
      generalize lastE (l.take j) = m at *
      by_cases hk : x.t.k = 2
      · have hm : lastS m x = max m x.t.e := if_pos hk
        have HM := Lib.hid hm
        have hkb : (x.t.k == 2) = true := by rw [hk]; rfl
        clear hm hk
        go_wp2_with fail
        go_roundw
        case rel => exact ⟨j + 1, by omega, by go_num, by rw [HSt.out, HM.out]; congr 1; omega, HB2.out⟩
        case measure => simp [intOf]; omega
      · have hm : lastS m x = m := if_neg hk
        have HM := Lib.hid hm
        have hkb : (x.t.k == 2) = false := by rw [beq_eq_false_iff_ne]; exact hk
        clear hm hk
        go_wp2_with fail
        go_roundw
        case rel => exact ⟨j + 1, by omega, by go_num, by rw [HSt.out, HM.out], HB2.out⟩
        case measure => simp [intOf]; omega
    · obtain rfl : j = n := by omega
      have HE := Lib.hid (show lastE (l.take j) = lastE l by rw [List.take_of_length_le (by rw [HLn.out]; exact Nat.le_refl _)])
      go_wp2_with fail
      go_ret
      exact ⟨by rw [HE.out]; rfl, HB.out⟩
set_option maxRecDepth 100000 in
set_option maxHeartbeats 4000000 in
theorem counts_calls (x : En) (last : Nat) (w : World) :
    Calls Tryz.prog 70 #[.agg #[.int .i64 x.t.k, .int .u32 (x.t.p : Int), .int .u64 (x.t.s : Int), .int .u64 (x.t.e : Int), .int .i64 (x.b : Int), .int .i64 (x.i : Int)], .int .u64 (last : Int)] w fun e w' => e = .returned (.bool (cnt last x)) ∧ Below w.heap.size w w' := by
  obtain ⟨⟨k, p, s, ep⟩, d, b, i⟩ := x
  have hcs := snCells
  have HC := Lib.hid (show cnt last ⟨⟨k, p, s, ep⟩, d, b, i⟩ = (decide (ep ≤ last) && (decide (0 < p) || decide (ep = last))) from rfl)
  generalize cnt last ⟨⟨k, p, s, ep⟩, d, b, i⟩ = res at *
  simp only
  by_cases h2 : p = 0
  · subst h2
    have HB := Lib.hid ((Below.refl w.heap.size w).alloc (Nat.le_refl _) (.cells #[.int .i64 k, .int .u32 0, .int .u64 (s : Int), .int .u64 (ep : Int), .int .i64 (b : Int), .int .i64 (i : Int)] 83))
    by_cases h3 : ep = last
    · subst h3
      have HE := Lib.hid (show res = true by rw [HC.out, decide_eq_true (Nat.le_refl ep), decide_eq_true rfl]; rfl)
      go_enter Tryz.func70, Tryz.ntmps70
      go_wp2
      go_ret
      exact ⟨by rw [HE.out]; rfl, HB.out⟩
    · have h4 : ((ep : Int) == (last : Int)) = false := by rw [beq_eq_false_iff_ne]; omega
      have HE := Lib.hid (show res = false by rw [HC.out, decide_eq_false h3]; simp)
      by_cases h1 : ep ≤ last
      · clear h3
        go_enter Tryz.func70, Tryz.ntmps70
        go_wp2
        go_ret
        exact ⟨by rw [HE.out]; rfl, HB.out⟩
      · clear h3
        go_enter Tryz.func70, Tryz.ntmps70
        go_wp2
        go_ret
        exact ⟨by rw [HE.out]; rfl, HB.out⟩
  · have HB := Lib.hid ((Below.refl w.heap.size w).alloc (Nat.le_refl _) (.cells #[.int .i64 k, .int .u32 (p : Int), .int .u64 (s : Int), .int .u64 (ep : Int), .int .i64 (b : Int), .int .i64 (i : Int)] 83))
    have h3 : 0 < p := by omega
    by_cases h1 : ep ≤ last
    · have HE := Lib.hid (show res = true by rw [HC.out, decide_eq_true h1, decide_eq_true h3]; rfl)
      clear h2
      go_enter Tryz.func70, Tryz.ntmps70
      go_wp2
      go_ret
      exact ⟨by rw [HE.out]; rfl, HB.out⟩
    · have HE := Lib.hid (show res = false by rw [HC.out, decide_eq_false h1]; rfl)
      clear h2
      go_enter Tryz.func70, Tryz.ntmps70
      go_wp2
      go_ret
      exact ⟨by rw [HE.out]; rfl, HB.out⟩
end Go.Proofs.YtiipnpfaaghekaaGreat
/-
  The newest of the pages that count.
-/
namespace Go.Proofs.YtiipnpfaaghekaaGreat
open Go.RowKit Go.Maps Go.ChangeMaps

/-- Block b is a map whose entry at kv p is vv (f p); a key that is not there has 0. -/
def MapF (P : Program) (k : TypeId) (kv vv : Nat → Value) (w : World) (b : Nat) (f : Nat → Nat) : Prop :=
  ∃ l, MapAt P k w b l ∧ (∀ p v, (kv p, v) ∈ l → v = vv (f p)) ∧ ∀ p, (∀ x ∈ l, x.1 ≠ kv p) → f p = 0
section
variable {P : Program} {k t e : TypeId} {kv vv : Nat → Value} {w w' : World} {b p : Nat} {f : Nat → Nat} {kl : Lit}
theorem MapF.lt (h : MapF P k kv vv w b f) : b < w.heap.size := by obtain ⟨l, h1, _⟩ := h; exact h1.lt
theorem MapF.on (h : MapF P k kv vv w b f) (hb : Below w.heap.size w w') : MapF P k kv vv w' b f := by obtain ⟨l, h1, h2⟩ := h; exact ⟨l, h1.on hb, h2⟩
theorem MapF.same (h : MapF P k kv vv w b f) (hb : w'.heap[b]? = w.heap[b]?) : MapF P k kv vv w' b f := by obtain ⟨l, h1, h2⟩ := h; exact ⟨l, h1.same hb, h2⟩
theorem MapF.kq {T : Nat → Prop} (h : MapF P k kv vv w b f) (hk : Kq T w w') (hb : ¬ T b) : MapF P k kv vv w' b f := h.same (hk.block b h.lt hb)
/-- A row is no map. -/
theorem MapF.ne {α : Type} {m : Nat} {g : α → List Value} {ty : TypeId} {base : Nat} {v : Value} {xs : List α} (h : MapF P k kv vv w b f) (ho : OwnM m g ty w base v xs) : v.ownBlock ≠ some b := by
  obtain ⟨l, ⟨es, clock, h1, _⟩, _⟩ := h
  rcases ho.2.2 with ⟨rfl, _⟩ | ⟨q, cap, cur, rfl, _, hg, _⟩
  · intro e; cases e
  · intro e
    obtain rfl : q = b := Option.some.inj e
    rw [hg] at h1; cases h1
theorem MapF.made (w : World) : MapF P k kv vv (w.alloc (.map #[] 0)) w.heap.size fun _ => 0 := ⟨[], MapAt.made w, fun _ _ h => (by cases h), fun _ _ => rfl⟩
theorem MapF.look (h : MapF P k kv vv w b f) (K : Keyed P k) (ht : P.underlying t = some (.map k e)) (hz : (zeroValue e).run P w = .ok (vv 0) w) (hkey : keyOf P k (kv p) = some kl) :
    (Instr.lookup t (.map (some b)) (kv p) false).run P w = .ok (vv (f p)) w := by
  obtain ⟨l, h1, h2, h3⟩ := h
  obtain ⟨v, fl, hrun, hv⟩ := h1.look K ht hz hkey false
  have e : v = vv (f p) := by
    rcases hv with ⟨_, hv⟩ | ⟨_, rfl, hv⟩
    · exact h2 p v hv
    · rw [h3 p hv]
  rw [← e]
  exact hrun
theorem MapF.put (h : MapF P k kv vv w b f) (K : Keyed P k) (ht : P.underlying t = some (.map k e)) (hinj : ∀ q, kv q = kv p → q = p) (hkey : keyOf P k (kv p) = some kl) (v : Nat) :
    ∃ o, (Instr.mapUpdate t (.map (some b)) (kv p) (vv v)).run P w = .ok () (setBlock w b o) ∧ MapF P k kv vv (setBlock w b o) b (fun q => if q = p then v else f q) ∧ w.grownBy (setBlock w b o) (some b) := by
  obtain ⟨l, h1, h2, h3⟩ := h
  obtain ⟨l', o, hrun, hp, hm, hg⟩ := h1.put K ht hkey (vv v)
  refine ⟨o, hrun, ⟨l', hm, fun q u hq => ?_, fun q hq => ?_⟩, hg⟩
  · rw [hp.mem h1.nodup] at hq
    rcases hq with ⟨e1, e2⟩ | ⟨e1, e2⟩
    · show u = vv (if q = p then v else f q)
      rw [if_pos (hinj q e1)]; exact e2
    · show u = vv (if q = p then v else f q)
      rw [if_neg (fun e3 : q = p => e1 (by rw [e3]))]; exact h2 q u e2
  · by_cases e1 : q = p
    · subst e1
      have : (kv q, vv v) ∈ l' := (hp.mem h1.nodup _ _).2 (.inl ⟨rfl, rfl⟩)
      exact absurd rfl (hq _ this)
    · show (if q = p then v else f q) = 0
      rw [if_neg e1]
      refine h3 q fun x hx hxe => ?_
      have : (kv q, x.2) ∈ l' := (hp.mem h1.nodup _ _).2 (.inr ⟨fun e2 => e1 (hinj q e2), by rw [← hxe]; exact hx⟩)
      exact hq _ this rfl
end
/-- Pages and their greatest numbers. -/
def snV (s : Nat) : Value := .int .u64 (s : Int)
def MapS (w : World) (b : Nat) (f : Nat → Nat) : Prop := MapF Tryz.prog 30 kyV snV w b f
theorem zeroSn (w : World) : (zeroValue 56).run Tryz.prog w = .ok (snV 0) w := by kernel_rfl
theorem MapS.look {w : World} {b : Nat} {f : Nat → Nat} (h : MapS w b f) {p : Nat} (hp : p < 4294967296) : (Instr.lookup 118 (.map (some b)) (.int .u32 (p : Int)) false).run Tryz.prog w = .ok (.int .u64 (f p : Int)) w :=
  MapF.look (kv := kyV) (vv := snV) (p := p) h kyLaw Tryz.underlying118 (zeroSn w) (kyOf hp)
theorem MapS.put {w : World} {b : Nat} {f : Nat → Nat} (h : MapS w b f) {p : Nat} (hp : p < 4294967296) (v : Nat) : ∃ o, (Instr.mapUpdate 118 (.map (some b)) (.int .u32 (p : Int)) (.int .u64 (v : Int))).run Tryz.prog w = .ok () (setBlock w b o) ∧ MapS (setBlock w b o) b (fun q => if q = p then v else f q) ∧ w.grownBy (setBlock w b o) (some b) :=
  MapF.put h kyLaw Tryz.underlying118 (fun _ e => kyV_inj e) (kyOf hp) v
/-- Blocks and how many pages lie in them. -/
def blV (s : Nat) : Value := .int .i64 (s : Int)
theorem blLaw : Keyed Tryz.prog 3 := int_keyed Tryz.underlying3
theorem blV_inj {p q : Nat} (h : blV p = blV q) : p = q := by
  unfold blV at h
  injection h with _ h
  omega
theorem blOf {p : Nat} (h : p < 4294967296) : keyOf Tryz.prog 3 (blV p) = some (.int .i64 (p : Int)) := by
  have hw : (Lit.int .i64 (p : Int)).wf = true := by
    simp [Lit.wf, IntKind.min, IntKind.max, IntKind.bits, IntKind.signed]
    omega
  simp [keyOf, mapKey, Tryz.underlying3, blV, hw]
def MapB (w : World) (b : Nat) (f : Nat → Nat) : Prop := MapF Tryz.prog 3 blV blV w b f
theorem zeroBl (w : World) : (zeroValue 3).run Tryz.prog w = .ok (blV 0) w := by kernel_rfl
theorem MapB.look {w : World} {b : Nat} {f : Nat → Nat} (h : MapB w b f) {p : Nat} (hp : p < 4294967296) : (Instr.lookup 117 (.map (some b)) (.int .i64 (p : Int)) false).run Tryz.prog w = .ok (.int .i64 (f p : Int)) w :=
  MapF.look (kv := blV) (vv := blV) (p := p) h blLaw Tryz.underlying117 (zeroBl w) (blOf hp)
theorem MapB.put {w : World} {b : Nat} {f : Nat → Nat} (h : MapB w b f) {p : Nat} (hp : p < 4294967296) (v : Nat) : ∃ o, (Instr.mapUpdate 117 (.map (some b)) (.int .i64 (p : Int)) (.int .i64 (v : Int))).run Tryz.prog w = .ok () (setBlock w b o) ∧ MapB (setBlock w b o) b (fun q => if q = p then v else f q) ∧ w.grownBy (setBlock w b o) (some b) :=
  MapF.put h blLaw Tryz.underlying117 (fun _ e => blV_inj e) (blOf hp) v
end Go.Proofs.YtiipnpfaaghekaaGreat
namespace Go.Proofs.YtiipnpfaaghekaaGreat
open Go.RowKit Ftl Opn Go.ChangeMaps Go.Maps

set_option maxRecDepth 100000 in
set_option maxHeartbeats 8000000 in
theorem newest_calls (a : Option Addr) (n c : Nat) (l : List En) (last : Nat) (w : World) (hx : ArrM 6 snL w w.heap.size a n l) (hn : n ≤ 100000) (hp : ∀ e ∈ l, e.t.p < 4294967296) :
    Calls Tryz.prog 43 #[.slice a n c, .int .u64 (last : Int)] w fun e w' => (∃ v, e = .returned v ∧ OwnM 6 snL 83 w' w.heap.size v (newL last l)) ∧ Below w.heap.size w w' := by
  have HX := Lib.hid hx
  have HLn := Lib.hid hx.len
  have HP := Lib.hid hp
  have hcs := snCells
  have hmm := @run_makeMap Tryz.prog
  have HM0 := Lib.hid (MapF.made (P := Tryz.prog) (k := 30) (kv := kyV) (vv := snV) w)
  have HB0 := Lib.hid ((Below.refl w.heap.size w).alloc (Nat.le_refl _) (.map #[] 0))
  clear hx hp
  go_enter Tryz.func43, Tryz.ntmps43
  go_upto_region 2 with fail
  clear hmm
  generalize hw1 : w.alloc (.map #[] 0) = w1 at *
  obtain ⟨mb, hmb⟩ : ∃ mb, mb = w.heap.size := ⟨_, rfl⟩
  have HMb := Lib.hid hmb
  rw [← hmb] at HM0 ⊢
  clear hw1 hmb
  go_wp2_with fail
  go_loopw [7, 14] (fun _ i wr => ∃ j : Nat, j ≤ n ∧ i = .int .i64 (j : Int) ∧ MapS wr mb (mostF last (l.take j)) ∧ Below w.heap.size w wr) (fun _ i _ => n - (intOf i).toNat)
  case atStart => exact ⟨0, by omega, rfl, HM0.out, HB0.out⟩
  case round =>
    obtain ⟨j, hj, rfl, hm, hb⟩ := hrel
    have HB := Lib.hid hb
    have HM := Lib.hid hm
    clear hb hm HM0 HB0
    by_cases hlt : j < n
    · obtain ⟨x, hxj, b, o, rfl, hbl, c0, c1, c2, c3, c4, c5⟩ := sn_at (HX.out.below HB.out) hlt
      obtain ⟨hjl, hxe⟩ := List.getElem?_eq_some_iff.1 hxj
      have hst : mostF last (l.take (j + 1)) = mostS last (mostF last (l.take j)) x := by rw [← hxe]; exact fold_take (mostS last) (fun _ => 0) l hjl
      have HSt := Lib.hid hst
      have HXp := Lib.hid (HP.out x (hxe ▸ List.getElem_mem hjl))
      have hj0 : (0 : Int) ≤ (j : Int) := by omega
      have hj1 : (j : Int) < (n : Int) := by omega
      clear hst hxj hjl hxe
      generalize mostF last (l.take j) = f at *
      have HB2 := Lib.hid (HB.out.alloc HB.out.size (.cells #[.int .i64 x.t.k, .int .u32 (x.t.p : Int), .int .u64 (x.t.s : Int), .int .u64 (x.t.e : Int), .int .i64 (x.b : Int), .int .i64 (x.i : Int)] 83))
      have HM2 := Lib.hid (HM.out.on ((Below.refl wr.heap.size wr).alloc (Nat.le_refl _) (.cells #[.int .i64 x.t.k, .int .u32 (x.t.p : Int), .int .u64 (x.t.s : Int), .int .u64 (x.t.e : Int), .int .i64 (x.b : Int), .int .i64 (x.i : Int)] 83)))
      have HZ := Lib.hid (Blk.new wr 83 #[.int .i64 x.t.k, .int .u32 (x.t.p : Int), .int .u64 (x.t.s : Int), .int .u64 (x.t.e : Int), .int .i64 (x.b : Int), .int .i64 (x.i : Int)])
      go_upto_region 5 with fail
      generalize wr.alloc (.cells #[.int .i64 x.t.k, .int .u32 (x.t.p : Int), .int .u64 (x.t.s : Int), .int .u64 (x.t.e : Int), .int .i64 (x.b : Int), .int .i64 (x.i : Int)] 83) = w2 at *
      generalize wr.heap.size = Z at *
      clear c0 c1 c2 c3 c4 c5
      have c0 := HZ.out.cellv (i := 0) rfl
      have c1 := HZ.out.cellv (i := 1) rfl
      have c2 := HZ.out.cellv (i := 2) rfl
      have c3 := HZ.out.cellv (i := 3) rfl
      have c4 := HZ.out.cellv (i := 4) rfl
      have c5 := HZ.out.cellv (i := 5) rfl
      go_wp2_with fail
      refine (counts_calls x last w2).mono ?_
      rintro e w3 ⟨rfl, hb3⟩
      have HB3 := Lib.hid (HB2.out.then_ hb3)
      have HM3 := Lib.hid (HM2.out.on hb3)
      have HZ3 := Lib.hid (HZ.out.belowHere hb3)
      clear hb3 c0 c1 c2 c3 c4 c5
      have c1 := HZ3.out.cellv (i := 1) rfl
      have c2 := HZ3.out.cellv (i := 2) rfl
      cases hc : cnt last x with
      | true =>
        have hlk := MapS.look (p := x.t.p) HM3.out HXp.out
        obtain ⟨m, hm⟩ : ∃ m, m = max (f x.t.p) x.t.s := ⟨_, rfl⟩
        have hmx : max (f x.t.p : Int) (x.t.s : Int) = (m : Int) := by omega
        obtain ⟨o4, hrun, hm4, hg4⟩ := MapS.put (p := x.t.p) HM3.out HXp.out m
        have hf4 : (fun q => if q = x.t.p then m else f q) = mostS last f x := by
          unfold mostS
          rw [if_pos hc, hm]
          funext q
          by_cases hq : q = x.t.p
          · rw [if_pos hq, if_pos hq, hq]
          · rw [if_neg hq, if_neg hq]
        rw [hf4, ← HSt.out] at hm4
        have HM4 := Lib.hid hm4
        have HB4 := Lib.hid (HB3.out.grown hg4 HB3.out.size (fun q hq => by have := HMb.out; have := Option.some.inj hq; omega))
        have HMx := Lib.hid hm
        clear hm4 hg4 hf4 hm
        go_wp2_with fail
        go_roundw
        case rel => exact ⟨j + 1, by omega, by go_num, HM4.out, HB4.out⟩
        case measure => simp [intOf]; omega
      | false =>
        have hf4 : mostS last f x = f := if_neg (by rw [hc]; decide)
        rw [hf4] at HSt
        clear hf4
        go_wp2_with fail
        go_roundw
        case rel => exact ⟨j + 1, by omega, by go_num, by rw [HSt.out]; exact HM3.out, HB3.out⟩
        case measure => simp [intOf]; omega
    · obtain rfl : j = n := by omega
      rw [List.take_of_length_le (by rw [HLn.out]; exact Nat.le_refl _)] at HM
      have HNw := Lib.hid (show newL last l = l.filter (newP last (mostF last l)) from rfl)
      generalize mostF last l = M at *
      have HMF := Lib.hid HM.out
      have HBF := Lib.hid HB.out
      have HOF := Lib.hid (OwnM.nil (e := 83) sn_len wr w.heap.size)
      clear hj hlt HM HB
      go_wp2_with fail
      go_loopw [8, 10, 37] (fun v _ i wx => ∃ q : Nat, q ≤ j ∧ i = .int .i64 (q : Int) ∧ MapS wx mb M ∧ OwnM 6 snL 83 wx w.heap.size v ((l.take q).filter (newP last M)) ∧ Below w.heap.size w wx) (fun _ _ i _ => j - (intOf i).toNat)
      case atStart => exact ⟨0, by omega, rfl, HMF.out, HOF.out, HBF.out⟩
      case round =>
        obtain ⟨q, hq, rfl, hm, ho, hb⟩ := hrel
        have HB := Lib.hid hb
        have HM := Lib.hid hm
        have HO := Lib.hid ho
        have HLl := Lib.hid (show ((l.take q).filter (newP last M)).length ≤ 1000000 by
          have h1 := List.length_filter_le (newP last M) (l.take q)
          rw [List.length_take] at h1
          omega)
        clear hb hm ho HMF HOF HBF
        by_cases hlt : q < j
        · obtain ⟨x, hxj, b, o, rfl, hbl, c0, c1, c2, c3, c4, c5⟩ := sn_at (HX.out.below HB.out) hlt
          obtain ⟨hjl, hxe⟩ := List.getElem?_eq_some_iff.1 hxj
          have hst := filter_take (newP last M) l hjl
          rw [hxe] at hst
          have HSt := Lib.hid hst
          have HXp := Lib.hid (HP.out x (hxe ▸ List.getElem_mem hjl))
          have hj0 : (0 : Int) ≤ (q : Int) := by omega
          have hj1 : (q : Int) < (j : Int) := by omega
          clear hst hxj hjl hxe
          generalize (l.take q).filter (newP last M) = xs at *
          have hba := (Below.refl wr.heap.size wr).alloc (Nat.le_refl _) (.cells #[.int .i64 x.t.k, .int .u32 (x.t.p : Int), .int .u64 (x.t.s : Int), .int .u64 (x.t.e : Int), .int .i64 (x.b : Int), .int .i64 (x.i : Int)] 83)
          have HB2 := Lib.hid (HB.out.then_ hba)
          have HM2 := Lib.hid (HM.out.on hba)
          have HO2 := Lib.hid (HO.out.on hba)
          have HZ := Lib.hid (Blk.new wr 83 #[.int .i64 x.t.k, .int .u32 (x.t.p : Int), .int .u64 (x.t.s : Int), .int .u64 (x.t.e : Int), .int .i64 (x.b : Int), .int .i64 (x.i : Int)])
          clear hba
          go_upto_region 12 with fail
          generalize wr.alloc (.cells #[.int .i64 x.t.k, .int .u32 (x.t.p : Int), .int .u64 (x.t.s : Int), .int .u64 (x.t.e : Int), .int .i64 (x.b : Int), .int .i64 (x.i : Int)] 83) = w2 at *
          generalize wr.heap.size = Z at *
          clear c0 c1 c2 c3 c4 c5
          have c0 := HZ.out.cellv (i := 0) rfl
          have c1 := HZ.out.cellv (i := 1) rfl
          have c2 := HZ.out.cellv (i := 2) rfl
          have c3 := HZ.out.cellv (i := 3) rfl
          have c4 := HZ.out.cellv (i := 4) rfl
          have c5 := HZ.out.cellv (i := 5) rfl
          go_wp2_with fail
          refine (counts_calls x last w2).mono ?_
          rintro e w3 ⟨rfl, hb3⟩
          have HB3 := Lib.hid (HB2.out.then_ hb3)
          have HM3 := Lib.hid (HM2.out.on hb3)
          have HO3 := Lib.hid (HO2.out.on hb3)
          have HZ3 := Lib.hid (HZ.out.belowHere hb3)
          clear hb3 c0 c1 c2 c3 c4 c5
          have c0 := HZ3.out.cellv (i := 0) rfl
          have c1 := HZ3.out.cellv (i := 1) rfl
          have c2 := HZ3.out.cellv (i := 2) rfl
          have c3 := HZ3.out.cellv (i := 3) rfl
          have c4 := HZ3.out.cellv (i := 4) rfl
          have c5 := HZ3.out.cellv (i := 5) rfl
          have hnp : newP last M x = (cnt last x && decide (x.t.s = M x.t.p)) := rfl
          cases hc : cnt last x with
          | true =>
            have hlk := MapS.look (p := x.t.p) HM3.out HXp.out
            by_cases hs : x.t.s = M x.t.p
            · have hsb : ((x.t.s : Int) == (M x.t.p : Int)) = true := by rw [hs]; exact beq_self_eq_true _
              rw [hnp, hc, decide_eq_true hs] at HSt
              clear hnp hs
              have HCs := Lib.hid (show #[Value.int .i64 x.t.k, .int .u32 (x.t.p : Int), .int .u64 (x.t.s : Int), .int .u64 (x.t.e : Int), .int .i64 (x.b : Int), .int .i64 (x.i : Int)] = (snL x).toArray from rfl)
              have HS3 := Lib.hid HB3.out.size
              go_wp2_with (at_builtin; refine wpList_litSn rfl _ _ rfl w.heap.size _ xs rfl HO3.out x _ rfl rfl HCs.out HLl.out HS3.out ?_; intro v7 w7 HO7 HK7)
              have HM7 := Lib.hid (HM3.out.kq HK7.out (fun e => HM3.out.ne HO3.out e))
              have HB7 := Lib.hid (HB3.out.trans (HK7.out.below (fun q e => (HO3.out.blockLt q e).1) HS3.out))
              go_roundw
              case rel => exact ⟨q + 1, by omega, by go_num, HM7.out, by rw [HSt.out]; exact HO7.out, HB7.out⟩
              case measure => simp [intOf]; omega
            · have hsb : ((x.t.s : Int) == (M x.t.p : Int)) = false := by rw [beq_eq_false_iff_ne]; omega
              rw [hnp, hc, decide_eq_false hs] at HSt
              clear hnp hs
              go_wp2_with fail
              go_roundw
              case rel => exact ⟨q + 1, by omega, by go_num, HM3.out, by rw [HSt.out]; exact (List.append_nil xs).symm ▸ HO3.out, HB3.out⟩
              case measure => simp [intOf]; omega
          | false =>
            rw [hnp, hc] at HSt
            clear hnp
            go_wp2_with fail
            go_roundw
            case rel => exact ⟨q + 1, by omega, by go_num, HM3.out, by rw [HSt.out]; exact (List.append_nil xs).symm ▸ HO3.out, HB3.out⟩
            case measure => simp [intOf]; omega
        · obtain rfl : q = j := by omega
          rw [List.take_of_length_le (by rw [HLn.out]; exact Nat.le_refl _), ← HNw.out] at HO
          go_wp2_with fail
          go_ret
          exact ⟨⟨_, rfl, HO.out⟩, HB.out⟩
end Go.Proofs.YtiipnpfaaghekaaGreat
/-
  A chip holds what it says: the state between two calls.
-/
/-
  What a translation holds, seen from outside: for each page its tag and its payload.
-/
/-
  A translation is opened.
-/
/-
  Of each page one copy is chosen.
-/
namespace Go.Proofs.YtiipnpfaaghekaaGreat
open Go.RowKit Go.Shelf

attribute [local go_sem] Oper.semAt_some

/-- The first k blocks, with their numbers. -/
def allTo (l : List Bk) (k : Nat) : List (Nat × Bk) := (List.range k).map fun i => (i, Gc.at_ l i)
theorem allTo_succ (l : List Bk) (k : Nat) : allTo l (k + 1) = allTo l k ++ [(k, Gc.at_ l k)] := by simp [allTo, List.range_succ]
theorem allTo_pre (l : List Bk) {k n : Nat} (h : k < n) : allTo l k ++ [(k, Gc.at_ l k)] <+: allTo l n := by
  rw [← allTo_succ]
  have : (List.range (k + 1)) <+: List.range n := by
    refine ⟨(List.range (n - (k + 1))).map (k + 1 + ·), ?_⟩
    rw [← List.range_add]
    congr 1
    omega
  obtain ⟨t, ht⟩ := this
  exact ⟨t.map fun i => (i, Gc.at_ l i), by unfold allTo; rw [← List.map_append, ht]⟩
def allEnc (x : Nat × Bk) : Array Value := #[.int .i64 (x.1 : Int), bkV x.2]
set_option maxRecDepth 100000 in
set_option maxHeartbeats 4000000 in
theorem all_iter (g : Mg) (NB C n0 : Nat) (w : World) (hM : Blk w g.M 102 (mgA NB g)) (hx : ArrM 4 bkL w n0 (some ⟨g.ML, 0, none⟩) NB g.l) (hC : Blk w C 54 #[.pointer (some ⟨g.M, 0, none⟩)]) (hn0 : n0 ≤ w.heap.size) (hnb : NB ≤ 1000) :
    IterG Tryz.prog 85 #[.pointer (some ⟨C, 0, none⟩)] allEnc (allTo g.l NB) [] [C] n0 w := by
  intro lp J Jx W hW hJ hJx hY h0
  have HC := Lib.hid (hC.belowHere hW)
  have HM := Lib.hid (hM.belowHere hW)
  have hsW := Nat.le_trans hn0 hW.size
  have HX := Lib.hid (hx.below (hW.mono hn0))
  have HY := Lib.hid hY
  have HJ := Lib.hid hJ
  have H0 := Lib.hid h0
  have c0 := HC.out.cellv (i := 0) rfl
  have m1 : W.cell? ⟨g.M, 1, none⟩ = some (.slice (some ⟨g.ML, 0, none⟩) NB g.cap) := HM.out.cellv rfl
  have hcs := bkCells
  clear hY hJ h0 hW hC hx hM
  refine callsIn_of_wp Tryz.func85 rfl trivial ?_ rfl
  simp only [Tryz.ntmps85, List.size_toArray, List.length_cons, List.length_nil, Nat.reduceAdd, Nat.reduceSub, Array.replicate_succ, Array.replicate_zero, List.push_toArray, List.append_toArray, List.nil_append, List.cons_append]
  gi_wp2
  gi_loopw [3, 4, 12] (fun _ _ i wr => ∃ k : Nat, k ≤ NB ∧ i = .int .i64 (k : Int) ∧ Blk wr C 54 #[.pointer (some ⟨g.M, 0, none⟩)] ∧ ArrM 4 bkL wr n0 (some ⟨g.ML, 0, none⟩) NB g.l ∧ n0 ≤ wr.heap.size ∧ J (allTo g.l k) wr) (fun _ _ i _ => NB - (intOf i).toNat)
  case atStart => exact ⟨0, by omega, rfl, HC.out, HX.out, hsW, H0.out⟩
  case round =>
    obtain ⟨k, hk, rfl, hc, hx, hsz, hj⟩ := hrel
    have HJ1 := Lib.hid hj
    have HC := Lib.hid hc
    have HX := Lib.hid hx
    clear hj hc hx
    by_cases hlt : k < NB
    · obtain ⟨b, o, ha, hbl, c0, c1, c2, c3⟩ := bk_at HX.out (k := k) hlt
      injection ha with ha
      injection ha with ha1 ha2
      subst ha1 ha2
      rw [Nat.zero_add] at c0 c1 c2 c3
      have hk0 : (0 : Int) ≤ (k : Int) := by omega
      have hk1 : (k : Int) < (NB : Int) := by omega
      have HD := Lib.hid (allTo_succ g.l k)
      have hpre := Lib.hid (allTo_pre g.l (k := k) (n := NB) hlt)
      have hba := (Below.refl wr.heap.size wr).alloc (Nat.le_refl _) (.cells #[.int .i64 ((Gc.at_ g.l k).st : Int), .int .i64 ((Gc.at_ g.l k).live : Int), .int .i64 ((Gc.at_ g.l k).wear : Int), .int .i64 ((Gc.at_ g.l k).nx : Int)] 99)
      have hj2 := HJ.out _ _ _ none HJ1.out (show wr.grownBy (wr.alloc (.cells #[.int .i64 ((Gc.at_ g.l k).st : Int), .int .i64 ((Gc.at_ g.l k).live : Int), .int .i64 ((Gc.at_ g.l k).wear : Int), .int .i64 ((Gc.at_ g.l k).nx : Int)] 99)) none from ⟨rfl, rfl, rfl, by simp, fun q hq _ => hba.block q hq⟩) (.inl rfl)
      have HC2 := Lib.hid (HC.out.belowHere hba)
      have HX2 := Lib.hid (HX.out.below (hba.mono hsz))
      have HS2 := Lib.hid (Nat.le_trans hsz hba.size)
      obtain ⟨fn, tmps, assign, body, hy, hR⟩ := HY.out (allTo g.l k) (k, Gc.at_ g.l k) _ hj2 hpre.out
      unfold allEnc bkV at hy
      clear hba hj2
      generalize Gc.at_ g.l k = x at *
      gi_wp2
      refine hR.mono ?_
      rintro e W3 (⟨rfl, hJ3, hb3, hc3⟩ | ⟨rfl, hJx3⟩)
      · have HC5 := Lib.hid ((hc3 C (by simp)).trans HC2.out)
        have HX5 := Lib.hid (HX2.out.below hb3)
        have HS5 := Lib.hid (Nat.le_trans HS2.out hb3.size)
        have HJ3 := Lib.hid hJ3
        clear hJ3 hb3 hc3 hy hR c0 c1 c2 c3
        gi_wp2
        go_roundw
        case rel => exact ⟨k + 1, by omega, by go_num, HC5.out, HX5.out, HS5.out, by rw [HD.out]; exact HJ3.out⟩
        case measure => simp [intOf]; omega
      · gi_wp2
        refine bodyPost_ret (results_none rfl _ _ _) rfl ?_
        exact ⟨⟨_, rfl⟩, .inr ⟨_, hpre.out, hJx3⟩⟩
    · obtain rfl : k = NB := by omega
      gi_wp2
      go_end0
      exact ⟨⟨_, rfl⟩, .inl HJ1.out⟩
theorem allFn (M : Nat) (w : World) :
    Calls Tryz.prog 71 #[.pointer (some ⟨M, 0, none⟩)] w fun e w' => e = .returned (.func (.func 85) #[] #[.pointer (some ⟨w.heap.size, 0, none⟩)]) ∧ w.alloc (.cells #[.pointer (some ⟨M, 0, none⟩)] 54) = w' := by
  go_enter Tryz.func71, Tryz.ntmps71
  go_wp2
  go_ret
  exact ⟨rfl, rfl⟩
end Go.Proofs.YtiipnpfaaghekaaGreat
/-
  The blocks are taken in hand.
-/
/-
  How many of the sealed pages lie in each block: in memory, and in plain mathematics.
-/
/-
  The seal is read.
-/
/-
  A page is read.
-/
namespace Go.Proofs.YtiipnpfaaghekaaGreat
open Go.RowKit Ftl Opn Go.ChangeMaps Go.Maps

namespace Opn
theorem many_le (l : List En) (b : Nat) : ∀ f : Nat → Nat, l.foldl manyS f b ≤ f b + l.length := by
  induction l with
  | nil => intro f; exact Nat.le_refl _
  | cons a t ih =>
    intro f
    rw [List.foldl_cons, List.length_cons]
    have h1 := ih (manyS f a)
    have h2 : manyS f a b ≤ f b + 1 := by
      unfold manyS
      split <;> omega
    omega
theorem manyF_le (l : List En) (b : Nat) : manyF l b ≤ l.length := by
  have := many_le l b fun _ => 0
  unfold manyF
  omega
theorem chs_uq (many : Nat → Nat) (l : List En) : Uq (chsL many l) := (chs_spec many l [] List.nodup_nil).1
end Opn
set_option maxRecDepth 100000 in
set_option maxHeartbeats 8000000 in
theorem chosen_calls (a : Option Addr) (n c : Nat) (l : List En) (w : World) (hx : ArrM 6 snL w w.heap.size a n l) (hn : n ≤ 100000) (hp : ∀ e ∈ l, e.t.p < 4294967296 ∧ e.b < 4294967296) :
    Calls Tryz.prog 42 #[.slice a n c] w fun e w' => (∃ ob, e = .returned (.map (some ob)) ∧ w.heap.size ≤ ob ∧ MapE w' ob (chsL (manyF l) l)) ∧ Below w.heap.size w w' := by
  have HX := Lib.hid hx
  have HLn := Lib.hid hx.len
  have HP := Lib.hid hp
  have hcs := snCells
  have hcp := placeCells
  have hmm := @run_makeMap Tryz.prog
  have HM0 := Lib.hid (MapF.made (P := Tryz.prog) (k := 3) (kv := blV) (vv := blV) w)
  have HB0 := Lib.hid ((Below.refl w.heap.size w).alloc (Nat.le_refl _) (.map #[] 0))
  clear hx hp
  go_enter Tryz.func42, Tryz.ntmps42
  go_upto_region 2 with fail
  generalize hw1 : w.alloc (.map #[] 0) = w1 at *
  obtain ⟨mb, hmb⟩ : ∃ mb, mb = w.heap.size := ⟨_, rfl⟩
  have HMb := Lib.hid hmb
  rw [← hmb] at HM0 ⊢
  clear hw1 hmb
  go_wp2_with fail
  go_loopw [5, 14] (fun _ i wr => ∃ j : Nat, j ≤ n ∧ i = .int .i64 (j : Int) ∧ MapB wr mb (manyF (l.take j)) ∧ Below w.heap.size w wr) (fun _ i _ => n - (intOf i).toNat)
  case atStart => exact ⟨0, by omega, rfl, HM0.out, HB0.out⟩
  case round =>
    obtain ⟨j, hj, rfl, hm, hb⟩ := hrel
    have HB := Lib.hid hb
    have HM := Lib.hid hm
    clear hb hm HM0 HB0
    by_cases hlt : j < n
    · obtain ⟨x, hxj, b, o, rfl, hbl, c0, c1, c2, c3, c4, c5⟩ := sn_at (HX.out.below HB.out) hlt
      obtain ⟨hjl, hxe⟩ := List.getElem?_eq_some_iff.1 hxj
      have hst : manyF (l.take (j + 1)) = manyS (manyF (l.take j)) x := by rw [← hxe]; exact fold_take manyS (fun _ => 0) l hjl
      have HSt := Lib.hid hst
      have HXp := Lib.hid (HP.out x (hxe ▸ List.getElem_mem hjl)).2
      have hle : manyF (l.take j) x.b ≤ 100000 := by
        have h1 := manyF_le (l.take j) x.b
        rw [List.length_take] at h1
        omega
      have hj0 : (0 : Int) ≤ (j : Int) := by omega
      have hj1 : (j : Int) < (n : Int) := by omega
      clear hst hxj hjl hxe
      generalize manyF (l.take j) = f at *
      have hba := (Below.refl wr.heap.size wr).alloc (Nat.le_refl _) (.cells #[.int .i64 x.t.k, .int .u32 (x.t.p : Int), .int .u64 (x.t.s : Int), .int .u64 (x.t.e : Int), .int .i64 (x.b : Int), .int .i64 (x.i : Int)] 83)
      have HB2 := Lib.hid (HB.out.then_ hba)
      have HM2 := Lib.hid (HM.out.on hba)
      have HZ := Lib.hid (Blk.new wr 83 #[.int .i64 x.t.k, .int .u32 (x.t.p : Int), .int .u64 (x.t.s : Int), .int .u64 (x.t.e : Int), .int .i64 (x.b : Int), .int .i64 (x.i : Int)])
      clear hba
      go_upto_region 5 with fail
      generalize wr.alloc (.cells #[.int .i64 x.t.k, .int .u32 (x.t.p : Int), .int .u64 (x.t.s : Int), .int .u64 (x.t.e : Int), .int .i64 (x.b : Int), .int .i64 (x.i : Int)] 83) = w2 at *
      generalize wr.heap.size = Z at *
      clear c0 c1 c2 c3 c4 c5
      have c4 := HZ.out.cellv (i := 4) rfl
      have hlk := MapB.look (p := x.b) HM2.out HXp.out
      have hw := IntWalk.i64_in ((f x.b : Int) + 1) ⟨by omega, by omega⟩
      obtain ⟨m, hm⟩ : ∃ m, m = f x.b + 1 := ⟨_, rfl⟩
      obtain ⟨o4, hrun, hm4, hg4⟩ := MapB.put (p := x.b) HM2.out HXp.out m
      have hf4 : (fun q => if q = x.b then m else f q) = manyS f x := by
        unfold manyS
        rw [hm]
        funext q
        by_cases hq : q = x.b
        · rw [if_pos hq, if_pos hq, hq]
        · rw [if_neg hq, if_neg hq]
      rw [hf4, ← HSt.out] at hm4
      rw [show ((m : Nat) : Int) = (f x.b : Int) + 1 by omega] at hrun
      have HM4 := Lib.hid hm4
      have HB4 := Lib.hid (HB2.out.grown hg4 HB2.out.size (fun q hq => by have := HMb.out; have := Option.some.inj hq; omega))
      clear hm4 hg4 hf4 hm
      go_wp2_with fail
      go_roundw
      case rel => exact ⟨j + 1, by omega, by go_num, HM4.out, HB4.out⟩
      case measure => simp [intOf]; omega
    · obtain rfl : j = n := by omega
      rw [List.take_of_length_le (by rw [HLn.out]; exact Nat.le_refl _)] at HM
      generalize hM : manyF l = M at *
      have HMe := Lib.hid hM
      have hb5 := (Below.refl wr.heap.size wr).alloc (Nat.le_refl _) (.map #[] 0)
      have HMF := Lib.hid (HM.out.on hb5)
      have HBF := Lib.hid (HB.out.then_ hb5)
      have HOF := Lib.hid (MapE.made wr)
      have HOb := Lib.hid (show w.heap.size ≤ wr.heap.size from HB.out.size)
      have HNe := Lib.hid (show mb ≠ wr.heap.size from fun e => by have h1 : mb < wr.heap.size := HM.out.lt; omega)
      clear hj hlt HM HB hM hb5
      go_upto_region 8 with fail
      clear hmm
      generalize wr.alloc (.map #[] 0) = w5 at *
      generalize wr.heap.size = ob at *
      go_wp2_with fail
      go_loopw [8, 9, 10, 28] (fun _ _ _ i wx => ∃ q : Nat, q ≤ j ∧ i = .int .i64 (q : Int) ∧ MapB wx mb M ∧ MapE wx ob (chsL M (l.take q)) ∧ Below w.heap.size w wx) (fun _ _ _ i _ => j - (intOf i).toNat)
      case atStart => exact ⟨0, by omega, rfl, HMF.out, HOF.out, HBF.out⟩
      case round =>
        obtain ⟨q, hq, rfl, hm, ho, hb⟩ := hrel
        have HB := Lib.hid hb
        have HM := Lib.hid hm
        have HO := Lib.hid ho
        clear hb hm ho HMF HOF HBF
        by_cases hlt : q < j
        · obtain ⟨x, hxj, b, o, rfl, hbl, c0, c1, c2, c3, c4, c5⟩ := sn_at (HX.out.below HB.out) hlt
          obtain ⟨hjl, hxe⟩ := List.getElem?_eq_some_iff.1 hxj
          have hst : chsL M (l.take (q + 1)) = chsS M (chsL M (l.take q)) x := by rw [← hxe]; exact fold_take (chsS M) [] l hjl
          have HSt := Lib.hid hst
          have HXp := Lib.hid (HP.out x (hxe ▸ List.getElem_mem hjl)).1
          have HXb := Lib.hid (HP.out x (hxe ▸ List.getElem_mem hjl)).2
          have HUb := Lib.hid (fun y (hy : y ∈ chsL M (l.take q)) => (show y.b < 4294967296 from by
            rcases (chs_spec M (l.take q) [] List.nodup_nil).2.1 y hy with h | h
            · cases h
            · exact (HP.out y (List.mem_of_mem_take h)).2))
          have hj0 : (0 : Int) ≤ (q : Int) := by omega
          have hj1 : (q : Int) < (j : Int) := by omega
          clear hst hxj hjl hxe
          generalize chsL M (l.take q) = out at *
          obtain ⟨pb, pi, epl⟩ := plO_form (getE out x.t.p)
          obtain ⟨sf, hsf⟩ : ∃ sf, (getE out x.t.p).isSome = sf := ⟨_, rfl⟩
          have hba := (Below.refl wr.heap.size wr).alloc (Nat.le_refl _) (.cells #[.int .i64 x.t.k, .int .u32 (x.t.p : Int), .int .u64 (x.t.s : Int), .int .u64 (x.t.e : Int), .int .i64 (x.b : Int), .int .i64 (x.i : Int)] 83)
          have HB2 := Lib.hid (HB.out.then_ hba)
          have HM2 := Lib.hid (HM.out.on hba)
          have HO2 := Lib.hid (HO.out.on hba)
          have HZ := Lib.hid (Blk.new wr 83 #[.int .i64 x.t.k, .int .u32 (x.t.p : Int), .int .u64 (x.t.s : Int), .int .u64 (x.t.e : Int), .int .i64 (x.b : Int), .int .i64 (x.i : Int)])
          clear hba
          go_upto_region 11 with fail
          generalize wr.alloc (.cells #[.int .i64 x.t.k, .int .u32 (x.t.p : Int), .int .u64 (x.t.s : Int), .int .u64 (x.t.e : Int), .int .i64 (x.b : Int), .int .i64 (x.i : Int)] 83) = w2 at *
          generalize wr.heap.size = Z at *
          clear c0 c1 c2 c3 c4 c5
          have c1 := HZ.out.cellv (i := 1) rfl
          have hlk := MapE.lookT HO2.out HXp.out rfl epl hsf
          have hba := (Below.refl w2.heap.size w2).alloc (Nat.le_refl _) (.cells #[.int .i64 (pb : Int), .int .i64 (pi : Int)] 52)
          have HB3 := Lib.hid (HB2.out.then_ hba)
          have HM3 := Lib.hid (HM2.out.on hba)
          have HO3 := Lib.hid (HO2.out.on hba)
          have HZ3 := Lib.hid (HZ.out.belowHere hba)
          have HQ3 := Lib.hid (Blk.new w2 52 #[.int .i64 (pb : Int), .int .i64 (pi : Int)])
          clear hba
          go_upto_region 12 with fail
          generalize w2.alloc (.cells #[.int .i64 (pb : Int), .int .i64 (pi : Int)] 52) = w3 at *
          generalize w2.heap.size = Z3 at *
          clear c1 hlk
          have c1 := HZ3.out.cellv (i := 1) rfl
          have c4 := HZ3.out.cellv (i := 4) rfl
          have c5 := HZ3.out.cellv (i := 5) rfl
          have p0 := HQ3.out.cellv (i := 0) rfl
          obtain ⟨o4, hrun, ho4, hg4⟩ := MapE.put HO3.out x HXp.out
          rw [plV_eq] at hrun
          have hm4 : MapB (setBlock w3 ob o4) mb M := HM3.out.same (hg4.block mb HM3.out.lt (fun e => HNe.out (Option.some.inj e)))
          have HM4 := Lib.hid hm4
          have HO4 := Lib.hid ho4
          have HB4 := Lib.hid (HB3.out.grown hg4 HB3.out.size (fun q hq => by have := HOb.out; have := Option.some.inj hq; omega))
          clear hm4 ho4 hg4
          have hpk : pick M out x = match getE out x.t.p with
            | none => true
            | some y => decide (M y.b < M x.b) := rfl
          cases hgo : getE out x.t.p with
          | none =>
            rw [hgo] at hpk hsf
            subst hsf
            have hch : chsS M out x = putE out x := if_pos hpk
            rw [hch] at HSt
            clear hpk hch epl hgo
            go_wp2_with fail
            go_roundw
            case rel => exact ⟨q + 1, by omega, by go_num, HM4.out, by rw [HSt.out]; exact HO4.out, HB4.out⟩
            case measure => simp [intOf]; omega
          | some y =>
            have HYb := Lib.hid (HUb.out y (getE_mem hgo).1)
            rw [hgo] at hpk hsf epl
            subst hsf
            have hpb : y.b = pb ∧ y.i = pi := by
              rw [show plO (some y) = .agg #[.int .i64 (y.b : Int), .int .i64 (y.i : Int)] from rfl] at epl
              simp at epl
              omega
            have hpk : pick M out x = decide (M y.b < M x.b) := hpk
            rw [hpb.1] at hpk HYb
            have hl1 := MapB.look (p := x.b) HM3.out HXb.out
            have hl2 := MapB.look (p := pb) HM3.out HYb.out
            clear hpb epl hgo
            by_cases hlt2 : M pb < M x.b
            · have hch : chsS M out x = putE out x := if_pos (by rw [hpk]; exact decide_eq_true hlt2)
              rw [hch] at HSt
              clear hpk hch
              go_wp2_with fail
              go_roundw
              case rel => exact ⟨q + 1, by omega, by go_num, HM4.out, by rw [HSt.out]; exact HO4.out, HB4.out⟩
              case measure => simp [intOf]; omega
            · have hch : chsS M out x = out := if_neg (by rw [hpk, decide_eq_false hlt2]; decide)
              rw [hch] at HSt
              clear hpk hch
              go_wp2_with fail
              go_roundw
              case rel => exact ⟨q + 1, by omega, by go_num, HM3.out, by rw [HSt.out]; exact HO3.out, HB3.out⟩
              case measure => simp [intOf]; omega
        · obtain rfl : q = j := by omega
          rw [List.take_of_length_le (by rw [HLn.out]; exact Nat.le_refl _)] at HO
          go_wp2_with fail
          go_ret
          exact ⟨⟨ob, rfl, HOb.out, by rw [HMe.out]; exact HO.out⟩, HB.out⟩
end Go.Proofs.YtiipnpfaaghekaaGreat
/-
  A translation that is being opened, in memory: it has no manager yet.
-/
/-
  What is on a chip is seen.
-/
namespace Go.Proofs.YtiipnpfaaghekaaGreat
open Go.RowKit Ftl

theorem tagCells : Tryz.prog.cellsOf 63 = 4 := by kernel_rfl
section
variable {NB B n : Nat} {R : Nat → Prop} {w : World} {f : Fm}
namespace Ftl
theorem curE_mem {p : Nat} {x : En} (h : curE f p = some x) : x ∈ f.se ++ f.no := by
  unfold curE at h
  cases hn : getE f.no p with
  | some e =>
    rw [hn] at h
    obtain rfl : e = x := Option.some.inj h
    exact List.mem_append_right _ (getE_mem hn).1
  | none =>
    rw [hn] at h
    simp only at h
    split at h
    · cases h
    · exact List.mem_append_left _ (getE_mem h).1
end Ftl
/-- What Read leaves. -/
def Rdp (NB B : Nat) (R : Nat → Prop) (f : Fm) (d : List UInt8) (w : World) (e : Ending) (w' : World) : Prop :=
  (∃ a c, e = .returned (.tuple #[.slice a 64 c, .int .i64 0]) ∧ 64 ≤ c ∧ Bytes w' w'.heap.size a 64 d) ∧ FtM NB B R w' f ∧ Kq R w w'
set_option maxRecDepth 100000 in
set_option maxHeartbeats 8000000 in
theorem ftRead_calls (h : FtM NB B R w f) (hc : Fc NB f) (p : Nat) (hp1 : 1 ≤ p) (hp2 : p + 2 < (NB - 3) * 8) (hp3 : p < 8192) (x : En) (hx : curE f p = some x) :
    Calls Tryz.prog 10 #[.pointer (some ⟨f.F, 0, none⟩), .int .u32 (p : Int)] w (Rdp NB B R f x.d w) := by
  have hnb := hc.fi.nb
  have hlg := flogical_calls h hc.fi p (by omega)
  rw [if_neg (by omega)] at hlg
  have HLg := Lib.hid hlg
  have HH := Lib.hid h
  have HAt := Lib.hid (fun (W : World) (hW : FtM NB B R W f) => fat_calls hW p (by omega))
  rw [hx] at HAt
  have hm := curE_mem hx
  have hgp := hc.fi.pg x hm
  have hok := hc.fi.ok x hm
  have hxb := hc.fi.lt hm
  have hchl : chL ((f.g.bl x.b).pgs x.i) = Tg.page x.t x.d := by rw [hgp.pg]; rfl
  have hrd := fun (W : World) (hW : FtM NB B R W f) => fRead_calls hW hxb hgp.i8
  unfold Rdd at hrd
  rw [hchl] at hrd
  have HRd := Lib.hid hrd
  have HTr := Lib.hid (Tg.read_page hok.rt (pay := x.d) (by rw [hok.len]; decide))
  have HLen := Lib.hid hok.plen
  have HDl := Lib.hid hok.len
  have hcs := placeCells
  have hct := tagCells
  clear h hc hlg hx hm hgp hok hxb hchl hrd hnb hp1 hp2 hp3
  obtain ⟨xb, hxb⟩ : ∃ b, b = x.b := ⟨_, rfl⟩
  obtain ⟨xi, hxi⟩ : ∃ i, i = x.i := ⟨_, rfl⟩
  have hpl : plO (some x) = .agg #[.int .i64 (xb : Int), .int .i64 (xi : Int)] := by rw [hxb, hxi]; rfl
  rw [← hxb, ← hxi] at HRd
  clear hxb hxi
  have HPl := Lib.hid hpl
  clear hpl
  go_enter Tryz.func10, Tryz.ntmps10
  go_wp2_with fail
  refine HLg.out.mono ?_
  rintro e w1 ⟨rfl, hb1⟩
  have H1 := Lib.hid (HH.out.on hb1)
  have HB1 := Lib.hid hb1
  clear hb1
  go_wp2_with fail
  refine (HAt.out w1 H1.out).mono ?_
  rintro e w2 ⟨rfl, hb2⟩
  rw [HPl.out, show (some x).isSome = true from rfl]
  have hb3 := (HB1.out.then_ hb2).alloc (Nat.le_trans HB1.out.size hb2.size) (.cells #[.int .i64 (xb : Int), .int .i64 (xi : Int)] 52)
  have H2 := Lib.hid (HH.out.on hb3)
  have HB2 := Lib.hid hb3
  have HZ := Lib.hid (Blk.new w2 52 #[.int .i64 (xb : Int), .int .i64 (xi : Int)])
  have HZn := Lib.hid (show ¬ R w2.heap.size from (H1.out.on hb2).not_new (Nat.le_refl _))
  clear hb2 hb3
  go_upto_region 7 with fail
  generalize w2.alloc (.cells #[.int .i64 (xb : Int), .int .i64 (xi : Int)] 52) = w3 at *
  generalize w2.heap.size = Z at *
  have HS0 := Lib.hid (show w3.drew.cell? ⟨f.F, 0, none⟩ = some (.pointer (some ⟨f.g.C, 0, none⟩)) ∧ Blk w3.drew Z 52 #[.int .i64 (xb : Int), .int .i64 (xi : Int)] from ⟨(H2.out.on (below_drew w3)).c0, HZ.out.belowHere (below_drew w3)⟩)
  have H3 := Lib.hid (H2.out.on (below_drew w3))
  have HB3 := Lib.hid (HB2.out.then_ (below_drew w3))
  refine wp_region_noPanic ?_
  refine wp_region_held_drew (S := (fun W' => W'.cell? ⟨f.F, 0, none⟩ = some (.pointer (some ⟨f.g.C, 0, none⟩)) ∧ Blk W' Z 52 #[.int .i64 (xb : Int), .int .i64 (xi : Int)])) (by kernel_rfl) HS0.out (fun hS0 => ?_)
  generalize w3.drew = W at *
  clear HS0
  refine takeV 0 (v := (.pointer (some ⟨f.F, 0, none⟩))) rfl (by kernel_rfl) (by kernel_rfl) (by kernel_rfl) (fun _ _ _ h => h) (by rfl) (fun _ _ => rfl) (by assumption) ?_
  try simp only [layR]
  refine takeV 1 (v := (.pointer (some ⟨f.F, 0, none⟩))) rfl (by kernel_rfl) (by kernel_rfl) (by kernel_rfl) (fun _ _ _ h => h) (by rfl) (fun W hSw => ?_) (by assumption) ?_
  · skip
    go_simp
  try simp only [layR]
  refine takeV 2 (v := (.pointer (some ⟨f.F, 0, none⟩))) rfl (by kernel_rfl) (by kernel_rfl) (by kernel_rfl) (fun _ _ _ h => h) (by rfl) (fun W hSw => ?_) (by assumption) ?_
  · skip
    go_simp
  try simp only [layR]
  refine takeV 3 (v := (.pointer (some ⟨f.g.C, 0, none⟩))) rfl (by kernel_rfl) (by kernel_rfl) (by kernel_rfl) (fun _ _ _ h => h) (by rfl) (fun W hSw => ?_) (by assumption) ?_
  · obtain ⟨y8, _⟩ := hSw
    go_simp
  try simp only [layR]
  refine takeV 4 (v := (.pointer (some ⟨Z, 0, none⟩))) rfl (by kernel_rfl) (by kernel_rfl) (by kernel_rfl) (fun _ _ _ h => h) (by rfl) (fun W hSw => ?_) (by assumption) ?_
  · skip
    go_simp
  try simp only [layR]
  refine takeV 5 (v := (.int .i64 (xb : Int))) rfl (by kernel_rfl) (by kernel_rfl) (by kernel_rfl) (fun _ _ _ h => h) (by rfl) (fun W hSw => ?_) (by assumption) ?_
  · have y9 := hSw.2.cellv (i := 0) rfl
    go_simp
  try simp only [layR]
  refine takeV 6 (v := (.pointer (some ⟨Z, 1, none⟩))) rfl (by kernel_rfl) (by kernel_rfl) (by kernel_rfl) (fun _ _ _ h => h) (by rfl) (fun W hSw => ?_) (by assumption) ?_
  · skip
    go_simp
  try simp only [layR]
  refine takeV 7 (v := (.int .i64 (xi : Int))) rfl (by kernel_rfl) (by kernel_rfl) (by kernel_rfl) (fun _ _ _ h => h) (by rfl) (fun W hSw => ?_) (by assumption) ?_
  · have y9 := hSw.2.cellv (i := 1) rfl
    go_simp
  try simp only [layR]
  refine wpAnyH_ready (rs := [8]) (by kernel_rfl) (by simp) ?_
  refine AllReadyH.cons rfl (fun K' hK => ?_) AllReadyH.nil
  go_simp
  refine (HRd.out W H3.out).mono ?_
  rintro e w4 ⟨⟨a4, c4, rfl, hc4, ho4⟩, hm4, hk4⟩
  have hS4 : w4.cell? ⟨f.F, 0, none⟩ = some (.pointer (some ⟨f.g.C, 0, none⟩)) ∧ Blk w4 Z 52 #[.int .i64 (xb : Int), .int .i64 (xi : Int)] := ⟨hm4.c0, hS0.2.kq hk4 HZn.out⟩
  have H4 := Lib.hid hm4
  have HK4 := Lib.hid ((Kq.of (T := R) HB3.out).trans hk4)
  have HO4 := Lib.hid ho4
  have HC4 := Lib.hid hc4
  clear hm4 hk4 ho4 hc4
  refine hK.out _ _ hS4 (fun hS5 => ?_)
  try simp only [layR]
  refine takeV 9 (v := (.tuple #[.slice a4 96 c4, .int .i64 0])) rfl (by kernel_rfl) (by kernel_rfl) (by kernel_rfl) (fun _ _ _ h => h) (by rfl) (fun W hSw => ?_) (by assumption) ?_
  · skip
    go_simp
  try simp only [layR]
  refine takeV 10 (v := (.slice a4 96 c4)) rfl (by kernel_rfl) (by kernel_rfl) (by kernel_rfl) (fun _ _ _ h => h) (by rfl) (fun W hSw => ?_) (by assumption) ?_
  · skip
    go_simp
  try simp only [layR]
  refine takeV 11 (v := (.int .i64 0)) rfl (by kernel_rfl) (by kernel_rfl) (by kernel_rfl) (fun _ _ _ h => h) (by rfl) (fun W hSw => ?_) (by assumption) ?_
  · skip
    go_simp
  try simp only [layR]
  refine takeV 12 (v := (.slice a4 96 c4)) rfl (by kernel_rfl) (by kernel_rfl) (by kernel_rfl) (fun _ _ _ h => h) (by rfl) (fun _ _ => rfl) (by assumption) ?_
  try simp only [layR]
  refine takeV 13 (v := (.int .i64 0)) rfl (by kernel_rfl) (by kernel_rfl) (by kernel_rfl) (fun _ _ _ h => h) (by rfl) (fun _ _ => rfl) (by assumption) ?_
  try simp only [layR]
  refine wpAnyH_done (by kernel_rfl) ?_ _
  refine NoPanic.normal ?_
  clear hS0 hS4 hS5
  go_wp2_with fail
  refine (tread_calls a4 96 c4 _ w4 (HO4.out.arr (by rw [HLen.out]; omega)) HC4.out).mono ?_
  rintro e w5 ⟨a5, n5, c5, rfl, hx5, hc5, hb5⟩
  rw [HTr.out.1, HTr.out.2.2]
  rw [HTr.out.2.1] at hx5
  obtain rfl : 64 = n5 := by rw [← HDl.out]; exact hx5.len
  have HX5 := Lib.hid hx5
  have HC5 := Lib.hid hc5
  have HB5 := Lib.hid hb5
  clear hx5 hc5 hb5
  have hba := (Below.refl w5.heap.size w5).alloc (Nat.le_refl _) (.cells #[.int .i64 x.t.k, .int .u32 (x.t.p : Int), .int .u64 (x.t.s : Int), .int .u64 (x.t.e : Int)] 63)
  have HX6 := Lib.hid (HX5.out.on hba)
  have HB6 := Lib.hid (HB5.out.then_ hba)
  clear hba
  unfold tagV
  go_wp2_with fail
  go_ret2
  exact ⟨⟨a5, c5, rfl, HC5.out, HX6.out⟩, H4.out.on HB6.out, HK4.out.on HB6.out⟩
end
end Go.Proofs.YtiipnpfaaghekaaGreat
namespace Go.Proofs.YtiipnpfaaghekaaGreat
open Go.RowKit Ftl Opn

namespace Opn
/-- Whether each of the first k blocks is erased. -/
def frs (bl : Nat → Pb) (k : Nat) : List Bool := (List.range 16).map fun j => decide (j < k) && frB bl j 8
theorem frs_len (bl : Nat → Pb) (k : Nat) : (frs bl k).length = 16 := by simp [frs]
theorem frs_zero (bl : Nat → Pb) : frs bl 0 = List.replicate 16 false := by
  apply List.ext_getElem
  · simp [frs]
  · intro i h1 h2
    rw [List.getElem_replicate]
    simp only [frs, List.getElem_map, List.getElem_range]
    rw [decide_eq_false (Nat.not_lt_zero i), Bool.false_and]
theorem frs_set (bl : Nat → Pb) (k : Nat) : (frs bl k).set k (frB bl k 8) = frs bl (k + 1) := by
  apply List.ext_getElem
  · simp [frs]
  · intro i h1 h2
    rw [List.getElem_set]
    simp only [frs, List.getElem_map, List.getElem_range]
    by_cases e : k = i
    · subst e
      rw [if_pos rfl, decide_eq_true (Nat.lt_succ_self k), Bool.true_and]
    · rw [if_neg e]
      by_cases e2 : i < k
      · rw [decide_eq_true e2, decide_eq_true (Nat.lt_succ_of_lt e2)]
      · rw [decide_eq_false e2, decide_eq_false (by omega)]
theorem frB_zero (bl : Nat → Pb) (k : Nat) : frB bl k 0 = true := rfl
end Opn
/-- Between two pages. -/
structure ScI (B : Nat) (S : Nat → Prop) (w : World) (C BL : Nat) (ps : Nat → Nat) (bl : Nat → Pb) (G gb : Nat) (fl : List Bool) (v : Value) (xs : List En) (wr : World) : Prop where
  hc : ChM 16 B S wr C BL ps bl
  hG : Blk wr G 48 #[.int .i64 16, .int .i64 8, .int .i64 64]
  ho : Own bolV 4 wr w.heap.size (.slice (some ⟨gb, 0, none⟩) 16 16) fl
  hv : OwnM 6 snL 83 wr w.heap.size v xs
  hk : Kq S w wr
  lG : w.heap.size ≤ G
  lC : C < w.heap.size
  lS : ∀ q, S q → q < w.heap.size
section
variable {B C BL G gb : Nat} {S : Nat → Prop} {w wr w' : World} {ps : Nat → Nat} {bl : Nat → Pb} {fl : List Bool} {v : Value} {xs : List En}
theorem ScI.on (h : ScI B S w C BL ps bl G gb fl v xs wr) (hb : Below wr.heap.size wr w') : ScI B S w C BL ps bl G gb fl v xs w' :=
  ⟨h.hc.on hb, h.hG.belowHere hb, h.ho.on hb, h.hv.on hb, h.hk.on hb, h.lG, h.lC, h.lS⟩
/-- A page was read. -/
theorem ScI.read (h : ScI B S w C BL ps bl G gb fl v xs wr) (hc : ChM 16 B S w' C BL ps bl) (hk : Kq (fun q => q = C) wr w') : ScI B S w C BL ps bl G gb fl v xs w' := by
  have hl := h.lC
  refine ⟨hc, h.hG.kq hk (fun e => by have := h.lG; omega), h.ho.kq hk (fun q hq e => by have := (h.ho.blockLt q hq).1; omega), ⟨h.hv.1, h.hv.2.1, ?_⟩, h.hk.then_ hk (fun q e => .inl (e ▸ h.hc.hS _ (.inl rfl))), h.lG, h.lC, h.lS⟩
  exact (h.hv.kq hk (fun q hq e => by have := (h.hv.blockLt q hq).1; omega)).2.2
/-- A flag is set. -/
theorem ScI.flag (h : ScI B S w C BL ps bl G gb fl v xs wr) (k : Nat) (b : Bool) : ScI B S w C BL ps bl G gb (fl.set k b) v xs (wr.setCell ⟨gb, k, none⟩ (.bool b)) := by
  have hg := h.ho.blockLt gb rfl
  have hne : gb ≠ G := fun e => by
    have h1 := h.hG
    unfold Blk at h1
    rcases h.ho.2 with ⟨e1, _⟩ | ⟨q, cap, cur, e1, _, h2, _⟩
    · cases e1
    · injection e1 with e1
      injection e1 with e1
      injection e1 with e1
      subst e1
      rw [e, h1] at h2
      injection h2 with h2
      injection h2 with _ h2
      exact absurd h2 (by decide)
  refine ⟨h.hc.kq (Kq.one ⟨gb, k, none⟩ (.bool b)) (fun q hq e => ?_), h.hG.far (by simpa using Ne.symm hne) _, h.ho.set k b, h.hv.far (fun e => ?_) _, h.hk.setCell (.inr hg.1) _, h.lG, h.lC, h.lS⟩
  · have := h.lS q hq
    have e : q = gb := e
    omega
  · rcases h.hv.2.2 with ⟨e1, _⟩ | ⟨q, cap, cur, e1, _, h2, _⟩
    · rw [e1] at e; cases e
    · rw [e1] at e
      obtain rfl : q = gb := Option.some.inj e
      rcases h.ho.2 with ⟨e3, _⟩ | ⟨q3, cap3, cur3, e3, _, h4, _⟩
      · cases e3
      · injection e3 with e3
        injection e3 with e3
        injection e3 with e3
        subst e3
        rw [h4] at h2
        injection h2 with h2
        injection h2 with _ h2
        exact absurd h2 (by decide)
/-- A page is taken down. -/
theorem ScI.app {y : En} (h : ScI B S w C BL ps bl G gb fl v xs wr) {v' : Value} (ho : OwnM 6 snL 83 w' w.heap.size v' (xs ++ [y])) (hk : Kq (fun q => v.ownBlock = some q) wr w') : ScI B S w C BL ps bl G gb fl v' (xs ++ [y]) w' := by
  have hnew := fun q hq => (h.hv.blockLt q hq).1
  refine ⟨h.hc.kq hk (fun q hq e => by have := h.lS q hq; have := hnew q e; omega), h.hG.kq hk (fun e => ?_), h.ho.kq hk (fun q hq e => ?_), ho, h.hk.then_ hk (fun q e => .inr (hnew q e)), h.lG, h.lC, h.lS⟩
  · rcases h.hv.2.2 with ⟨e1, _⟩ | ⟨q, cap, cur, e1, _, h2, _⟩
    · rw [e1] at e; cases e
    · rw [e1] at e
      obtain rfl : q = G := Option.some.inj e
      have h1 := h.hG
      unfold Blk at h1
      rw [h1] at h2
      injection h2 with h2
      injection h2 with _ h2
      exact absurd h2 (by decide)
  · obtain rfl := own_of _ _ _ _ hq
    rcases h.hv.2.2 with ⟨e1, _⟩ | ⟨q2, cap, cur, e1, _, h2, _⟩
    · rw [e1] at e; cases e
    · rw [e1] at e
      obtain rfl : q2 = q := Option.some.inj e
      rcases h.ho.2 with ⟨e3, _⟩ | ⟨q3, cap3, cur3, e3, _, h4, _⟩
      · cases e3
      · injection e3 with e3
        injection e3 with e3
        injection e3 with e3
        subst e3
        rw [h4] at h2
        injection h2 with h2
        injection h2 with _ h2
        exact absurd h2 (by decide)
theorem ScI.flagc (h : ScI B S w C BL ps bl G gb fl v xs wr) {k : Nat} (hk : k < fl.length) : ∃ b, wr.cell? ⟨gb, k, none⟩ = some (.bool b) ∧ wr.frozen? ⟨gb, k, none⟩ = false := by
  obtain ⟨c1, c2⟩ := h.ho.cellg hk
  exact ⟨_, c1, c2⟩
/-- What scan leaves. -/
def Scnd (B : Nat) (S : Nat → Prop) (C BL : Nat) (ps : Nat → Nat) (bl : Nat → Pb) (w : World) (e : Ending) (w' : World) : Prop :=
  ∃ v gb G, e = .returned (.tuple #[v, .slice (some ⟨gb, 0, none⟩) 16 16, .bool true]) ∧ ScI B S w C BL ps bl G gb (frs bl 16) v (allL bl 16) w'
theorem readE_none : Tg.readE (chL none) = 20 := (rd_full (m := 64) (by unfold chL; rw [List.length_replicate]) (by decide) (by decide)).2.2
set_option maxRecDepth 100000 in
set_option maxHeartbeats 16000000 in
theorem scan_calls (h : ChM 16 B S w C BL ps bl) (hg : Gd 16 bl) :
    Calls Tryz.prog 40 #[.pointer (some ⟨C, 0, none⟩)] w (Scnd B S C BL ps bl w) := by
  have HH := Lib.hid h
  have HGd := Lib.hid hg
  have HGe := Lib.hid (chGeo_calls h)
  have hcs := geoCells
  have hct := tagCells
  clear h hg
  go_enter Tryz.func40, Tryz.ntmps40
  go_wp2
  go_step3
  go_wp2_with fail
  refine HGe.out.mono ?_
  rintro e w1 ⟨rfl, hb1⟩
  unfold geoV
  have HGb := Lib.hid (Blk.new w1 48 #[.int .i64 16, .int .i64 8, .int .i64 64])
  have HB1 := Lib.hid (hb1.alloc hb1.size (.cells #[.int .i64 16, .int .i64 8, .int .i64 64] 48))
  have HG1 := Lib.hid hb1.size
  clear hb1
  go_upto_region 3 with fail
  generalize w1.alloc (.cells #[.int .i64 16, .int .i64 8, .int .i64 64] 48) = w2 at *
  generalize w1.heap.size = G at *
  have hmk := fmBools w2
  have g0 := HGb.out.cellv (i := 0) (v := .int .i64 16) rfl
  go_upto_region 4 with fail
  generalize hwa : w2.alloc _ = w3
  have HS0 := Lib.hid (show ScI B S w C BL ps bl G w2.heap.size (frs bl 0) (.slice none 0 0) (allL bl 0) w3 from by
    rw [← hwa, frs_zero]
    have hb6 := (Below.refl w2.heap.size w2).alloc (Nat.le_refl _) (.cells ((List.replicate 16 false).map bolV).toArray 4)
    exact ⟨HH.out.on (HB1.out.then_ hb6), HGb.out.belowHere hb6, Own.made (f := bolV) (e := 4) (w := w2) (base := w.heap.size) (xs := List.replicate 16 false) HB1.out.size (by simp [maxLen]), OwnM.nil sn_len _ _, Kq.of (HB1.out.then_ hb6), HG1.out, HH.out.hi C (HH.out.hS C (.inl rfl)), HH.out.hi⟩)
  generalize w2.heap.size = gb at *
  clear g0 hmk hwa HB1 HGb
  have g0 := HS0.out.hG.cellv (i := 0) (v := .int .i64 16) rfl
  go_wp2_with fail
  go_step3
  go_wp2_with fail
  go_loopw [6, 8, 9, 10, 11, 12, 13, 14, 15, 23] (fun v6 v8 _ _ _ _ _ _ _ i wr => ∃ k : Nat, k ≤ 16 ∧ i = .int .i64 (k : Int) ∧ v8 = .bool true ∧ ScI B S w C BL ps bl G gb (frs bl k) v6 (allL bl k) wr) (fun _ _ _ _ _ _ _ _ _ i _ => 16 - (intOf i).toNat)
  case atStart => exact ⟨0, by omega, rfl, rfl, HS0.out⟩
  case round =>
    obtain ⟨k, hk, rfl, rfl, hs⟩ := hrel
    clear HS0 g0
    by_cases hlt : k < 16
    · have hk0 : (0 : Int) ≤ (k : Int) := by omega
      have hk1 : (k : Int) < 16 := by omega
      have hba := chBad_calls hs.hc hlt
      rw [HGd.out.bad k hlt] at hba
      have HBa := Lib.hid hba
      obtain ⟨b0, f0, z0⟩ := hs.flagc (k := k) (by rw [frs_len]; exact hlt)
      have HS1 := Lib.hid (hs.flag k true)
      clear hs hba
      go_wp2_with fail
      go_step3
      go_wp2_with fail
      refine HBa.out.mono ?_
      rintro e w_ ⟨rfl, rfl⟩
      go_upto_region 10 with fail
      generalize wr.setCell ⟨gb, k, none⟩ (.bool true) = w5 at *
      clear f0 z0
      have g1 := HS1.out.hG.cellv (i := 1) (v := .int .i64 8) rfl
      have HSa := Lib.hid (show ScI B S w C BL ps bl G gb ((frs bl k).set k (frB bl k 0)) u6 (allL bl k ++ rowL bl k 0) w5 by
        rw [frB_zero, show rowL bl k 0 = [] from rfl, List.append_nil]
        exact HS1.out)
      clear HS1
      go_step3
      go_wp2_with fail
      go_loopw [6, 8, 10, 11, 12, 13, 14, 15, 34] (fun v6 v8 _ _ _ _ _ _ i wx => ∃ q : Nat, q ≤ 8 ∧ i = .int .i64 (q : Int) ∧ v8 = .bool true ∧ ScI B S w C BL ps bl G gb ((frs bl k).set k (frB bl k q)) v6 (allL bl k ++ rowL bl k q) wx) (fun _ _ _ _ _ _ _ _ i _ => 8 - (intOf i).toNat)
      case atStart => exact ⟨0, by omega, rfl, rfl, HSa.out⟩
      case round =>
        obtain ⟨q, hq, rfl, rfl, hs⟩ := hrel
        clear HSa g1
        by_cases hlt2 : q < 8
        · have HS := Lib.hid hs
          have HRd := Lib.hid (chRead_calls hs.hc hlt hlt2)
          have HRow := Lib.hid (show allL bl k ++ rowL bl k (q + 1) = (allL bl k ++ rowL bl k q) ++ pgE k q ((bl k).pgs q) by rw [rowL_succ, List.append_assoc])
          have HFr := Lib.hid (frB_succ bl k q)
          have HLl := Lib.hid (show (allL bl k ++ rowL bl k q).length ≤ 1000000 by
            rw [List.length_append]
            have := allL_len bl k
            have := rowL_len bl k q
            omega)
          have hq0 : (0 : Int) ≤ (q : Int) := by omega
          have hq1 : (q : Int) < 8 := by omega
          clear hs
          generalize allL bl k ++ rowL bl k q = xs at *
          go_wp2_with fail
          refine HRd.out.mono ?_
          rintro e w6 ⟨⟨a6, c6, rfl, hc6, ho6⟩, hm6, hk6⟩
          have HS6 := Lib.hid (HS.out.read hm6 hk6)
          have HO6 := Lib.hid ho6
          have HC6 := Lib.hid hc6
          clear hm6 hk6 ho6 hc6
          go_wp2_with fail
          cases ho : (bl k).pgs q with
          | none =>
            rw [ho] at HRow HFr HO6
            refine (tread_calls a6 96 c6 _ w6 (HO6.out.arr (by rw [show (chL none).length = 96 from List.length_replicate ..]; decide)) HC6.out).mono ?_
            rintro e w7 ⟨a7, n7, c7, rfl, _, _, hb7⟩
            rw [readE_none]
            obtain ⟨⟨tk, tp, ts, te⟩, htt⟩ : ∃ t, t = Tg.readT (chL none) := ⟨_, rfl⟩
            rw [← htt]
            have HS8 := Lib.hid ((HS6.out.on hb7).on ((Below.refl w7.heap.size w7).alloc (Nat.le_refl _) (.cells #[.int .i64 tk, .int .u32 (tp : Int), .int .u64 (ts : Int), .int .u64 (te : Int)] 63)))
            clear hb7 htt
            unfold tagV
            go_wp2_with fail
            go_roundw
            case rel => exact ⟨q + 1, by omega, by go_num, rfl, by rw [HFr.out, HRow.out]; simp only [Option.isNone_none, Bool.and_true, pgE, List.append_nil]; exact HS8.out⟩
            case measure => simp [intOf]; omega
          | some L =>
            rw [ho] at HRow HFr HO6
            obtain ⟨hE, hL, hkp, hsl, hel, hpl, _⟩ := HGd.out.ok k q L hlt hlt2 ho
            refine (tread_calls a6 96 c6 _ w6 (HO6.out.arr (by rw [show (chL (some L)).length = 96 from hL]; decide)) HC6.out).mono ?_
            rintro e w7 ⟨a7, n7, c7, rfl, _, _, hb7⟩
            have HB67 := Lib.hid hb7
            rw [show Tg.readE (chL (some L)) = 0 from hE, show Tg.readT (chL (some L)) = Tg.readT L from rfl]
            obtain ⟨y, hy⟩ : ∃ y : En, y = ⟨Tg.readT L, Tg.readP L, k, q⟩ := ⟨_, rfl⟩
            rw [show pgE k q (some L) = [y] by rw [hy]; rfl] at HRow
            have hyt : Tg.readT L = y.t := by rw [hy]
            rw [hyt] at hkp hsl hel hpl ⊢
            have hyb : (y.b : Int) = (k : Int) := by rw [hy]
            have hyi : (y.i : Int) = (q : Int) := by rw [hy]
            have HCs := Lib.hid (show #[Value.int .i64 y.t.k, .int .u32 (y.t.p : Int), .int .u64 (y.t.s : Int), .int .u64 (y.t.e : Int), .int .i64 (k : Int), .int .i64 (q : Int)] = (snL y).toArray by rw [← hyb, ← hyi]; rfl)
            have HKp := Lib.hid hkp
            clear hy hyt hyb hyi hE hL hkp ho
            obtain ⟨⟨tk, tp, ts, te⟩, td, tb, ti⟩ := y
            simp only at hsl hel hpl HCs HKp ⊢
            have hb8 := (Below.refl w7.heap.size w7).alloc (Nat.le_refl _) (.cells #[.int .i64 tk, .int .u32 (tp : Int), .int .u64 (ts : Int), .int .u64 (te : Int)] 63)
            have HS8 := Lib.hid ((HS6.out.on hb7).on hb8)
            have HZ := Lib.hid (Blk.new w7 63 #[.int .i64 tk, .int .u32 (tp : Int), .int .u64 (ts : Int), .int .u64 (te : Int)])
            clear hb7 hb8
            obtain ⟨b8, f8, z8⟩ := HS8.out.flagc (k := k) (by rw [List.length_set, frs_len]; exact hlt)
            unfold tagV
            go_upto_region 15 with fail
            generalize w7.alloc (.cells #[.int .i64 tk, .int .u32 (tp : Int), .int .u64 (ts : Int), .int .u64 (te : Int)] 63) = w8 at *
            obtain ⟨Z, hZ⟩ : ∃ Z, Z = w7.heap.size := ⟨_, rfl⟩
            rw [← hZ] at HZ ⊢
            have HZe := Lib.hid hZ
            clear hZ
            have hs9 := HS8.out.flag k false
            rw [List.set_set] at hs9
            have HS9 := Lib.hid hs9
            have HFq := Lib.hid (show frB bl k (q + 1) = false by rw [HFr.out]; simp)
            have HZn := Lib.hid (show Z ≠ gb from fun e => by
              have h1 := (HS8.out.ho.blockLt gb rfl).2
              have h2 := HZe.out
              have h3 := (HS6.out.ho.blockLt gb rfl).2
              have h4 := HB67.out.size
              omega)
            have HZ9 := Lib.hid (HZ.out.far (p := ⟨gb, k, none⟩) (by simpa using HZn.out) (.bool false))
            clear hs9
            go_upto_region 17 with fail
            generalize w8.setCell ⟨gb, k, none⟩ (.bool false) = w9 at *
            clear f8 z8
            have c0 := HZ9.out.cellv (i := 0) rfl
            have c1 := HZ9.out.cellv (i := 1) rfl
            have c2 := HZ9.out.cellv (i := 2) rfl
            have c3 := HZ9.out.cellv (i := 3) rfl
            have hsi : (ts : Int) ≤ 2305843009213693952 := by omega
            have hei : (te : Int) ≤ 2305843009213693952 := by omega
            obtain ⟨kb, hk2, hp2⟩ : ∃ kb, (tk == 2) = kb ∧ ((tp : Int) == 0) = kb := by
              by_cases h0 : tp = 0
              · exact ⟨true, by rw [beq_iff_eq]; exact HKp.out.2 h0, by rw [h0]; rfl⟩
              · exact ⟨false, by rw [beq_eq_false_iff_ne]; exact fun e => h0 (HKp.out.1 e), by rw [beq_eq_false_iff_ne]; omega⟩
            have HSz9 := Lib.hid HS9.out.hk.size
            clear hpl
            go_wp2_with (at_builtin; refine wpList_litSn rfl _ _ rfl w.heap.size _ xs rfl HS9.out.hv ⟨⟨tk, tp, ts, te⟩, td, tb, ti⟩ _ rfl rfl HCs.out HLl.out HSz9.out ?_; intro v7 wA HO7 HK7)
            have HSA := Lib.hid (HS9.out.app HO7.out HK7.out)
            go_roundw
            case rel => exact ⟨q + 1, by omega, by go_num, rfl, by rw [HFq.out, HRow.out]; exact HSA.out⟩
            case measure => simp [intOf]; omega
        · obtain rfl : q = 8 := by omega
          have HS := Lib.hid hs
          clear hs
          go_wp2_with fail
          rw [Exit.noGoto_normal]
          go_wp2_with fail
          go_roundw
          case rel => exact ⟨k + 1, by omega, by go_num, rfl, by rw [← frs_set, allL_succ]; exact HS.out⟩
          case measure => simp [intOf]; omega
    · obtain rfl : k = 16 := by omega
      have HS := Lib.hid hs
      clear hs
      go_wp2_with fail
      rw [Exit.noGoto_ret]
      go_ret3
      exact ⟨_, _, _, rfl, HS.out⟩
end
end Go.Proofs.YtiipnpfaaghekaaGreat
namespace Go.Proofs.YtiipnpfaaghekaaGreat
open Go.RowKit Ftl Opn Go.ChangeMaps Go.Maps

def opA (C SE NO GO LA : Nat) (m : Value) (res : Int) (tv : Value) (sq ep : Nat) : Array Value := #[.pointer (some ⟨C, 0, none⟩), m, .int .i64 res, .int .i64 0, tv, .map (some SE), .map (some NO), .map (some GO), .int .u64 (sq : Int), .int .u64 (ep : Int), .slice (some ⟨LA, 0, none⟩) 16 16, .bool false]
/-- Where it lies. -/
structure Oa where
  F : Nat
  SE : Nat
  NO : Nat
  GO : Nat
  LA : Nat
  R : Nat
structure Op (B : Nat) (S : Nat → Prop) (w : World) (C BL : Nat) (ps : Nat → Nat) (bl : Nat → Pb) (o : Oa) (res : Int) (tv : Value) (tx : List UInt8) (sq ep : Nat) (se : List En) (W : World) : Prop where
  hc : ChM 16 B S W C BL ps bl
  hF : Blk W o.F 59 (opA C o.SE o.NO o.GO o.LA (.pointer none) res tv sq ep)
  hS : MapE W o.SE se
  hN : MapE W o.NO []
  hG : MapE W o.GO []
  hL : Own bolV 4 W w.heap.size (.slice (some ⟨o.LA, 0, none⟩) 16 16) (List.replicate 16 false)
  hR : Own bolV 4 W w.heap.size (.slice (some ⟨o.R, 0, none⟩) 16 16) (frs bl 16)
  hT : TxA W tv tx
  hk : Kq S w W
  nd : [o.F, o.SE, o.NO, o.GO, o.LA].Nodup
  nw : ∀ q, q ∈ [o.F, o.SE, o.NO, o.GO, o.LA] → w.heap.size ≤ q
  nt : ∀ q, tv.ownBlock = some q → w.heap.size ≤ q ∧ q ∉ [o.F, o.SE, o.NO, o.GO, o.LA]
  lS : ∀ q, S q → q < w.heap.size
  nR : o.R ∉ [o.F, o.SE, o.NO, o.GO, o.LA] ∧ w.heap.size ≤ o.R ∧ tv.ownBlock ≠ some o.R
section
variable {B C BL : Nat} {S T : Nat → Prop} {w W W' : World} {ps : Nat → Nat} {bl : Nat → Pb} {o : Oa} {res : Int} {tv : Value} {tx : List UInt8} {sq ep : Nat} {se : List En}
/-- Other memory changes: the chip's, and what is new and not its own. -/
theorem Op.kq (h : Op B S w C BL ps bl o res tv tx sq ep se W) (hc : ChM 16 B S W' C BL ps bl) (hk : Kq T W W') (hT : ∀ q, T q → (S q ∨ (w.heap.size ≤ q ∧ q ∉ [o.F, o.SE, o.NO, o.GO, o.LA] ∧ tv.ownBlock ≠ some q ∧ q ≠ o.R))) : Op B S w C BL ps bl o res tv tx sq ep se W' := by
  have hn : ∀ q, q ∈ [o.F, o.SE, o.NO, o.GO, o.LA] → ¬ T q := fun q hq ht => by
    rcases hT q ht with e | ⟨_, e, _⟩
    · have := h.lS q e; have := h.nw q hq; omega
    · exact e hq
  have hb : ∀ q, q < W.heap.size → q ∈ [o.F, o.SE, o.NO, o.GO, o.LA] → W'.heap[q]? = W.heap[q]? := fun q hl hq => hk.block q hl (hn q hq)
  refine ⟨hc, h.hF.kq hk (hn _ (by simp)), h.hS.same (hb _ h.hS.lt (by simp)), h.hN.same (hb _ h.hN.lt (by simp)), h.hG.same (hb _ h.hG.lt (by simp)), h.hL.kq hk (fun q hq => by obtain rfl := own_of _ _ _ _ hq; exact hn _ (by simp)), h.hR.kq hk (fun q hq ht => ?_), h.hT.kq hk (fun q hq ht => ?_), h.hk.then_ hk (fun q hq => ?_), h.nd, h.nw, h.nt, h.lS, h.nR⟩
  · obtain rfl := own_of _ _ _ _ hq
    rcases hT _ ht with e | ⟨_, _, _, e⟩
    · have := h.lS _ e; have := h.nR.2.1; omega
    · exact e rfl
  · rcases hT q ht with e | ⟨_, _, e, _⟩
    · have := h.lS q e; have := (h.nt q hq).1; omega
    · exact e hq
  · rcases hT q hq with e | ⟨e, _⟩
    · exact .inl e
    · exact .inr e
theorem Op.on (h : Op B S w C BL ps bl o res tv tx sq ep se W) (hb : Below W.heap.size W W') : Op B S w C BL ps bl o res tv tx sq ep se W' := h.kq (T := fun _ => False) (h.hc.on hb) (Kq.of hb) fun _ e => e.elim
/-- A page was read. -/
theorem Op.read (h : Op B S w C BL ps bl o res tv tx sq ep se W) (hc : ChM 16 B S W' C BL ps bl) (hk : Kq (fun q => q = C) W W') : Op B S w C BL ps bl o res tv tx sq ep se W' := h.kq hc hk fun _ e => .inl (e ▸ h.hc.hS _ (.inl rfl))
/-- A cell is stored. -/
theorem Op.set {res' : Int} {tv' : Value} {tx' : List UInt8} {sq' ep' : Nat} (h : Op B S w C BL ps bl o res tv tx sq ep se W) (i : Nat) (u : Value) (hA : (opA C o.SE o.NO o.GO o.LA (.pointer none) res tv sq ep).setIfInBounds i u = opA C o.SE o.NO o.GO o.LA (.pointer none) res' tv' sq' ep') (hT : (tv' = tv ∧ tx' = tx) ∨ (TxA W tv' tx' ∧ ∀ q, tv'.ownBlock = some q → w.heap.size ≤ q ∧ q ∉ [o.F, o.SE, o.NO, o.GO, o.LA] ∧ q ≠ o.R)) :
    Op B S w C BL ps bl o res' tv' tx' sq' ep' se (W.setCell ⟨o.F, i, none⟩ u) := by
  have hq : Kq (fun q => q = o.F) W (W.setCell ⟨o.F, i, none⟩ u) := Kq.one ⟨_, _, none⟩ _
  have nd := h.nd
  simp only [List.nodup_cons, List.mem_cons, List.not_mem_nil, or_false, not_or] at nd
  obtain ⟨⟨n1, n2, n3, n4⟩, _⟩ := nd
  have hne : ∀ q, q ≠ o.F → (W.setCell ⟨o.F, i, none⟩ u).heap[q]? = W.heap[q]? := fun q hq => heap_setCell_other _ _ _ _ (by simpa using hq)
  have hw := h.nw o.F (by simp)
  have hF := h.hF.set i u
  rw [hA] at hF
  have hnt : ∀ q, tv'.ownBlock = some q → w.heap.size ≤ q ∧ q ∉ [o.F, o.SE, o.NO, o.GO, o.LA] := by
    rcases hT with ⟨e, _⟩ | ⟨_, e⟩
    · rw [e]; exact h.nt
    · exact fun q hq => ⟨(e q hq).1, (e q hq).2.1⟩
  have hnR : o.R ∉ [o.F, o.SE, o.NO, o.GO, o.LA] ∧ w.heap.size ≤ o.R ∧ tv'.ownBlock ≠ some o.R := by
    refine ⟨h.nR.1, h.nR.2.1, ?_⟩
    rcases hT with ⟨e, _⟩ | ⟨_, e⟩
    · rw [e]; exact h.nR.2.2
    · exact fun hq => (e _ hq).2.2 rfl
  have hT2 : TxA W tv' tx' := by
    rcases hT with ⟨e1, e2⟩ | ⟨e, _⟩
    · rw [e1, e2]; exact h.hT
    · exact e
  refine ⟨h.hc.kq hq (fun q hs e => ?_), hF, h.hS.same (hne _ (Ne.symm n1)), h.hN.same (hne _ (Ne.symm n2)), h.hG.same (hne _ (Ne.symm n3)), h.hL.kq hq (fun q hq => by obtain rfl := own_of _ _ _ _ hq; exact Ne.symm n4), h.hR.kq hq (fun q hq e => ?_), hT2.kq hq (fun q hq e => ?_), h.hk.setCell (.inr hw) _, h.nd, h.nw, hnt, h.lS, hnR⟩
  · have := h.lS q hs
    have e : q = o.F := e
    omega
  · obtain rfl := own_of _ _ _ _ hq
    have e : o.R = o.F := e
    exact h.nR.1 (by rw [e]; simp)
  · have e : q = o.F := e
    exact (hnt q hq).2 (by rw [e]; simp)
theorem Op.cel (h : Op B S w C BL ps bl o res tv tx sq ep se W) {i : Nat} {v : Value} (hv : (opA C o.SE o.NO o.GO o.LA (.pointer none) res tv sq ep)[i]? = some v) : W.cell? ⟨o.F, i, none⟩ = some v := h.hF.cellv hv
set_option maxRecDepth 100000 in
set_option maxHeartbeats 4000000 in
theorem oCapacity_calls (h : Op B S w C BL ps bl o 2 tv tx sq ep se W) :
    Calls Tryz.prog 14 #[.pointer (some ⟨o.F, 0, none⟩)] W fun e W' => e = .returned (.int .i64 102) ∧ Below W.heap.size W W' := by
  have HH := Lib.hid h
  have HU := Lib.hid (chGeo_calls h.hc)
  have HD := Lib.hid (fun W : World => show Calls Tryz.prog 38 #[.agg #[.int .i64 16, .int .i64 8, .int .i64 64], .int .i64 2, .int .i64 0] W fun e w' => e = .returned (.int .i64 13) ∧ Below W.heap.size W w' from fdataBlocks_calls (w := W) (NB := 16) (by decide))
  have c0 := h.cel (i := 0) rfl
  have hcs := geoCells
  clear h
  go_enter Tryz.func14, Tryz.ntmps14
  go_wp2_with fail
  refine HU.out.mono ?_
  rintro e w1 ⟨rfl, hb⟩
  have HB1 := Lib.hid (hb.alloc hb.size (.cells #[.int .i64 16, .int .i64 8, .int .i64 64] 48))
  have HK := Lib.hid (Blk.new w1 48 #[.int .i64 16, .int .i64 8, .int .i64 64])
  clear hb c0
  unfold geoV
  go_upto_region 4 with fail
  generalize w1.alloc (.cells #[.int .i64 16, .int .i64 8, .int .i64 64] 48) = w2 at *
  generalize w1.heap.size = Q at *
  have HS0 := Lib.hid (show Below w2.heap.size w2 w2.drew from below_drew w2)
  have HHo := Lib.hid (fun (W' : World) (hW : Below w2.heap.size w2 W') => (HH.out.on HB1.out).on hW)
  have HKo := Lib.hid (fun (W' : World) (hW : Below w2.heap.size w2 W') => Blk.belowHere HK.out hW)
  refine wp_region_noPanic ?_
  refine wp_region_held_drew (S := (fun W' => Below w2.heap.size w2 W')) (by kernel_rfl) HS0.out (fun hS0 => ?_)
  refine takeV 0 (v := (.agg #[.int .i64 16, .int .i64 8, .int .i64 64])) rfl (by kernel_rfl) (by kernel_rfl) (by kernel_rfl) (fun _ _ _ h => h) (by rfl) (fun W hSw => ?_) (by assumption) ?_
  · have y0 := Blk.cellv (i := 0) (HKo.out W hSw) rfl; have y1 := Blk.cellv (i := 1) (HKo.out W hSw) rfl; have y2 := Blk.cellv (i := 2) (HKo.out W hSw) rfl
    go_simp
  try simp only [layR]
  refine takeV 1 (v := (.pointer (some ⟨o.F, 0, none⟩))) rfl (by kernel_rfl) (by kernel_rfl) (by kernel_rfl) (fun _ _ _ h => h) (by rfl) (fun _ _ => rfl) (by assumption) ?_
  try simp only [layR]
  refine takeV 2 (v := (.pointer (some ⟨o.F, 0, none⟩))) rfl (by kernel_rfl) (by kernel_rfl) (by kernel_rfl) (fun _ _ _ h => h) (by rfl) (fun W hSw => ?_) (by assumption) ?_
  · skip
    go_simp
  try simp only [layR]
  refine takeV 3 (v := (.pointer (some ⟨o.F, 2, none⟩))) rfl (by kernel_rfl) (by kernel_rfl) (by kernel_rfl) (fun _ _ _ h => h) (by rfl) (fun W hSw => ?_) (by assumption) ?_
  · skip
    go_simp
  try simp only [layR]
  refine takeV 4 (v := (.int .i64 2)) rfl (by kernel_rfl) (by kernel_rfl) (by kernel_rfl) (fun _ _ _ h => h) (by rfl) (fun W hSw => ?_) (by assumption) ?_
  · have y9 := (HHo.out W hSw).cel (i := 2) (v := .int .i64 2) rfl
    go_simp
  try simp only [layR]
  refine takeV 5 (v := (.pointer (some ⟨o.F, 0, none⟩))) rfl (by kernel_rfl) (by kernel_rfl) (by kernel_rfl) (fun _ _ _ h => h) (by rfl) (fun _ _ => rfl) (by assumption) ?_
  try simp only [layR]
  refine takeV 6 (v := (.pointer (some ⟨o.F, 0, none⟩))) rfl (by kernel_rfl) (by kernel_rfl) (by kernel_rfl) (fun _ _ _ h => h) (by rfl) (fun W hSw => ?_) (by assumption) ?_
  · skip
    go_simp
  try simp only [layR]
  refine takeV 7 (v := (.pointer (some ⟨o.F, 3, none⟩))) rfl (by kernel_rfl) (by kernel_rfl) (by kernel_rfl) (fun _ _ _ h => h) (by rfl) (fun W hSw => ?_) (by assumption) ?_
  · skip
    go_simp
  try simp only [layR]
  refine takeV 8 (v := (.int .i64 0)) rfl (by kernel_rfl) (by kernel_rfl) (by kernel_rfl) (fun _ _ _ h => h) (by rfl) (fun W hSw => ?_) (by assumption) ?_
  · have y9 := (HHo.out W hSw).cel (i := 3) (v := .int .i64 0) rfl
    go_simp
  try simp only [layR]
  refine takeV 10 (v := (.pointer (some ⟨Q, 1, none⟩))) rfl (by kernel_rfl) (by kernel_rfl) (by kernel_rfl) (fun _ _ _ h => h) (by rfl) (fun W hSw => ?_) (by assumption) ?_
  · skip
    go_simp
  try simp only [layR]
  refine takeV 11 (v := (.int .i64 8)) rfl (by kernel_rfl) (by kernel_rfl) (by kernel_rfl) (fun _ _ _ h => h) (by rfl) (fun W hSw => ?_) (by assumption) ?_
  · have y1 := Blk.cellv (i := 1) (HKo.out W hSw) rfl
    go_simp
  try simp only [layR]
  refine wpAnyH_ready (rs := [9]) (by kernel_rfl) (by simp) ?_
  refine AllReadyH.cons rfl (fun K' hK => ?_) AllReadyH.nil
  go_simp
  refine (HD.out _).mono ?_
  rintro e w3 ⟨rfl, hb3⟩
  have hS1 := hS0.then_ hb3
  clear hb3
  refine hK.out _ _ hS1 (fun hS2 => ?_)
  try simp only [layR]
  refine takeV 12 (v := (.int .i64 104)) rfl (by kernel_rfl) (by kernel_rfl) (by kernel_rfl) (fun _ _ _ h => h) (by rfl) (fun W hSw => ?_) (by assumption) ?_
  · have i1 : IntKind.i64.wrap 104 = 104 := by decide
    go_simp
  try simp only [layR]
  refine takeV 13 (v := (.int .i64 102)) rfl (by kernel_rfl) (by kernel_rfl) (by kernel_rfl) (fun _ _ _ h => h) (by rfl) (fun W hSw => ?_) (by assumption) ?_
  · have i1 : IntKind.i64.wrap 102 = 102 := by decide
    go_simp
  try simp only [layR]
  refine takeV 14 (v := (.int .i64 102)) rfl (by kernel_rfl) (by kernel_rfl) (by kernel_rfl) (fun _ _ _ h => h) (by rfl) (fun _ _ => rfl) (by assumption) ?_
  try simp only [layR]
  refine wpAnyH_done (by kernel_rfl) ?_ _
  refine NoPanic.normal ?_
  have HB3 := Lib.hid (HB1.out.then_ hS2)
  clear hS0 hS1 hS2
  go_wp2
  go_ret
  exact ⟨rfl, HB3.out⟩
end
end Go.Proofs.YtiipnpfaaghekaaGreat
namespace Go.Proofs.YtiipnpfaaghekaaGreat
open Go.RowKit Ftl Opn Go.ChangeMaps Go.Maps

theorem tread_new (a : Option Addr) (c : Nat) (xs : List UInt8) (w : World) (hx : Bytes w w.heap.size a 96 xs) (hc : 96 ≤ c) (hE : Tg.readE xs = 0) :
    Calls Tryz.prog 34 #[.slice a 96 c] w (Rdw xs w) := by
  refine tread_body a 64 c xs w hx hc (by decide) ?_
  cases hf : Tg.full xs with
  | false => rfl
  | true =>
    have := (rd_full (xs := xs) (m := 64) hx.len (by decide) hf).2.2
    rw [hE] at this
    exact absurd this (by decide)
/-- The bytes of a seal's payload. -/
theorem head_at {w : World} {B : Nat} {a : Option Addr} {tl : List UInt8} (h : Bytes w B a 64 (headL tl)) : ∃ b o, a = some ⟨b, o, none⟩ ∧ b < B ∧ w.cell? ⟨b, o, none⟩ = some (.int .u8 2) ∧ w.cell? ⟨b, o + 1, none⟩ = some (.int .u8 0) ∧ w.cell? ⟨b, o + 2, none⟩ = some (.int .u8 0) ∧ w.cell? ⟨b, o + 3, none⟩ = some (.int .u8 0) ∧ w.cell? ⟨b, o + 4, none⟩ = some (.int .u8 0) ∧ w.cell? ⟨b, o + 5, none⟩ = some (.int .u8 0) ∧ w.cell? ⟨b, o + 6, none⟩ = some (.int .u8 0) ∧ w.cell? ⟨b, o + 7, none⟩ = some (.int .u8 0) := by
  obtain ⟨h1, h2, h3⟩ := h
  obtain ⟨b, o, ha, hb, hc⟩ := h3 (by decide)
  have hc0 := hc 0 (by rw [h1]; decide)
  exact ⟨b, o, ha, hb, hc0, hc 1 (by rw [h1]; decide), hc 2 (by rw [h1]; decide), hc 3 (by rw [h1]; decide), hc 4 (by rw [h1]; decide), hc 5 (by rw [h1]; decide), hc 6 (by rw [h1]; decide), hc 7 (by rw [h1]; decide)⟩
section
variable {B C BL : Nat} {S T : Nat → Prop} {w W W' : World} {ps : Nat → Nat} {bl : Nat → Pb} {o : Oa} {tv : Value} {tx : List UInt8} {sq ep : Nat} {se : List En}
/-- What reading the seal leaves. -/
def Hdd (B : Nat) (S : Nat → Prop) (w : World) (C BL : Nat) (ps : Nat → Nat) (bl : Nat → Pb) (o : Oa) (tl : List UInt8) (sq ep : Nat) (se : List En) (e : Ending) (W' : World) : Prop := e = .returned (.bool true) ∧ ∃ tv, Op B S w C BL ps bl o 2 tv tl sq ep se W'
set_option maxRecDepth 100000 in
set_option maxHeartbeats 16000000 in
theorem headed_calls (h : Op B S w C BL ps bl o 0 (.slice none 0 0) [] sq ep se W) (hg : Gd 16 bl) (e0 : En) (h0 : getE se 0 = some e0) (hb : e0.b < 16) (hi : e0.i < 8) (his : Is bl e0) (tl : List UInt8) (hd : e0.d = headL tl) :
    Calls Tryz.prog 44 #[.pointer (some ⟨o.F, 0, none⟩)] W (Hdd B S w C BL ps bl o tl sq ep se) := by
  obtain ⟨L, hL, _, hLd⟩ := his
  obtain ⟨hE, hLl, _, _, _, _, hP⟩ := hg.ok e0.b e0.i L hb hi hL
  rw [← hLd] at hP
  rw [hd] at hLd hP
  have HH := Lib.hid h
  have HRd := Lib.hid (fun (W : World) (hW : ChM 16 B S W C BL ps bl) => chRead_calls hW hb hi)
  rw [hL] at HRd
  have HE := Lib.hid hE
  have HLl := Lib.hid hLl
  have HLd := Lib.hid hLd.symm
  have HGd := Lib.hid hg
  have HP := Lib.hid hP
  have hlk : (Instr.lookup 55 (.map (some o.SE)) (.int .u32 0) false).run Tryz.prog W = .ok (.agg #[.int .i64 (e0.b : Int), .int .i64 (e0.i : Int)]) W := by
    have := h.hS.look (p := 0) (by decide) false
    rw [h0] at this
    exact this
  have f5 := h.cel (i := 5) (v := .map (some o.SE)) rfl
  have hcs := placeCells
  have hct := tagCells
  have hb3 := (Below.refl W.heap.size W).alloc (Nat.le_refl _) (.cells #[.int .i64 (e0.b : Int), .int .i64 (e0.i : Int)] 52)
  have H2 := Lib.hid (h.on hb3)
  have HZ := Lib.hid (Blk.new W 52 #[.int .i64 (e0.b : Int), .int .i64 (e0.i : Int)])
  have HWs := Lib.hid h.hk.size
  have HCl := Lib.hid (h.hc.hi C (h.hc.hS C (.inl rfl)))
  clear h hg hL hE hLl hLd hP h0 hb hi hd hb3
  generalize e0.b = xb at *
  generalize e0.i = xi at *
  go_enter Tryz.func44, Tryz.ntmps44
  go_upto_region 2 with fail
  generalize W.alloc (.cells #[.int .i64 (xb : Int), .int .i64 (xi : Int)] 52) = w3 at *
  obtain ⟨Z, hZ⟩ : ∃ Z, Z = W.heap.size := ⟨_, rfl⟩
  rw [← hZ] at HZ ⊢
  have HZe := Lib.hid hZ
  clear hZ hlk f5
  have HS0 := Lib.hid (show w3.drew.cell? ⟨o.F, 0, none⟩ = some (.pointer (some ⟨C, 0, none⟩)) ∧ Blk w3.drew Z 52 #[.int .i64 (xb : Int), .int .i64 (xi : Int)] from ⟨(H2.out.on (below_drew w3)).cel (i := 0) rfl, HZ.out.belowHere (below_drew w3)⟩)
  have H3 := Lib.hid (H2.out.on (below_drew w3))
  refine wp_region_noPanic ?_
  refine wp_region_held_drew (S := (fun W' => W'.cell? ⟨o.F, 0, none⟩ = some (.pointer (some ⟨C, 0, none⟩)) ∧ Blk W' Z 52 #[.int .i64 (xb : Int), .int .i64 (xi : Int)])) (by kernel_rfl) HS0.out (fun hS0 => ?_)
  generalize w3.drew = W4 at *
  clear HS0
  refine takeV 0 (v := (.pointer (some ⟨o.F, 0, none⟩))) rfl (by kernel_rfl) (by kernel_rfl) (by kernel_rfl) (fun _ _ _ h => h) (by rfl) (fun _ _ => rfl) (by assumption) ?_
  try simp only [layR]
  refine takeV 1 (v := (.pointer (some ⟨o.F, 0, none⟩))) rfl (by kernel_rfl) (by kernel_rfl) (by kernel_rfl) (fun _ _ _ h => h) (by rfl) (fun W hSw => ?_) (by assumption) ?_
  · skip
    go_simp
  try simp only [layR]
  refine takeV 2 (v := (.pointer (some ⟨o.F, 0, none⟩))) rfl (by kernel_rfl) (by kernel_rfl) (by kernel_rfl) (fun _ _ _ h => h) (by rfl) (fun W hSw => ?_) (by assumption) ?_
  · skip
    go_simp
  try simp only [layR]
  refine takeV 3 (v := (.pointer (some ⟨C, 0, none⟩))) rfl (by kernel_rfl) (by kernel_rfl) (by kernel_rfl) (fun _ _ _ h => h) (by rfl) (fun W hSw => ?_) (by assumption) ?_
  · obtain ⟨y8, _⟩ := hSw
    go_simp
  try simp only [layR]
  refine takeV 4 (v := (.pointer (some ⟨Z, 0, none⟩))) rfl (by kernel_rfl) (by kernel_rfl) (by kernel_rfl) (fun _ _ _ h => h) (by rfl) (fun W hSw => ?_) (by assumption) ?_
  · skip
    go_simp
  try simp only [layR]
  refine takeV 5 (v := (.int .i64 (xb : Int))) rfl (by kernel_rfl) (by kernel_rfl) (by kernel_rfl) (fun _ _ _ h => h) (by rfl) (fun W hSw => ?_) (by assumption) ?_
  · have y9 := hSw.2.cellv (i := 0) rfl
    go_simp
  try simp only [layR]
  refine takeV 6 (v := (.pointer (some ⟨Z, 1, none⟩))) rfl (by kernel_rfl) (by kernel_rfl) (by kernel_rfl) (fun _ _ _ h => h) (by rfl) (fun W hSw => ?_) (by assumption) ?_
  · skip
    go_simp
  try simp only [layR]
  refine takeV 7 (v := (.int .i64 (xi : Int))) rfl (by kernel_rfl) (by kernel_rfl) (by kernel_rfl) (fun _ _ _ h => h) (by rfl) (fun W hSw => ?_) (by assumption) ?_
  · have y9 := hSw.2.cellv (i := 1) rfl
    go_simp
  try simp only [layR]
  refine wpAnyH_ready (rs := [8]) (by kernel_rfl) (by simp) ?_
  refine AllReadyH.cons rfl (fun K' hK => ?_) AllReadyH.nil
  go_simp
  refine (HRd.out W4 H3.out.hc).mono ?_
  rintro e w4 ⟨⟨a4, c4, rfl, hc4, ho4⟩, hm4, hk4⟩
  have H4 := Lib.hid (H3.out.read hm4 hk4)
  have hS4 : w4.cell? ⟨o.F, 0, none⟩ = some (.pointer (some ⟨C, 0, none⟩)) ∧ Blk w4 Z 52 #[.int .i64 (xb : Int), .int .i64 (xi : Int)] := ⟨H4.out.cel (i := 0) rfl, hS0.2.kq hk4 (fun e => by
    have e : Z = C := e
    have := HZe.out
    have := HCl.out
    omega)⟩
  have HO4 := Lib.hid ho4
  have HC4 := Lib.hid hc4
  clear hm4 hk4 ho4 hc4
  refine hK.out _ _ hS4 (fun hS5 => ?_)
  try simp only [layR]
  refine takeV 9 (v := (.tuple #[.slice a4 96 c4, .int .i64 0])) rfl (by kernel_rfl) (by kernel_rfl) (by kernel_rfl) (fun _ _ _ h => h) (by rfl) (fun W hSw => ?_) (by assumption) ?_
  · skip
    go_simp
  try simp only [layR]
  refine takeV 10 (v := (.slice a4 96 c4)) rfl (by kernel_rfl) (by kernel_rfl) (by kernel_rfl) (fun _ _ _ h => h) (by rfl) (fun W hSw => ?_) (by assumption) ?_
  · skip
    go_simp
  try simp only [layR]
  refine takeV 11 (v := (.int .i64 0)) rfl (by kernel_rfl) (by kernel_rfl) (by kernel_rfl) (fun _ _ _ h => h) (by rfl) (fun W hSw => ?_) (by assumption) ?_
  · skip
    go_simp
  try simp only [layR]
  refine takeV 12 (v := (.slice a4 96 c4)) rfl (by kernel_rfl) (by kernel_rfl) (by kernel_rfl) (fun _ _ _ h => h) (by rfl) (fun _ _ => rfl) (by assumption) ?_
  try simp only [layR]
  refine takeV 13 (v := (.int .i64 0)) rfl (by kernel_rfl) (by kernel_rfl) (by kernel_rfl) (fun _ _ _ h => h) (by rfl) (fun _ _ => rfl) (by assumption) ?_
  try simp only [layR]
  refine wpAnyH_done (by kernel_rfl) ?_ _
  refine NoPanic.normal ?_
  clear hS0 hS4 hS5
  go_wp2_with fail
  refine (tread_new a4 c4 _ w4 (HO4.out.arr (by rw [show (chL (some L)).length = 96 from HLl.out]; decide)) HC4.out HE.out).mono ?_
  rintro e w5 ⟨a5, n5, c5, rfl, hx5, hc5, hb5, hnw⟩
  rw [show Tg.readE (chL (some L)) = 0 from HE.out]
  rw [show Tg.readP (chL (some L)) = headL tl from HLd.out] at hx5
  obtain rfl : 64 = n5 := by rw [← HP.out]; exact hx5.len
  obtain ⟨⟨tk, tp, ts, te⟩, htt⟩ : ∃ t, t = Tg.readT (chL (some L)) := ⟨_, rfl⟩
  rw [← htt]
  clear htt
  have hb6 := (Below.refl w5.heap.size w5).alloc (Nat.le_refl _) (.cells #[.int .i64 tk, .int .u32 (tp : Int), .int .u64 (ts : Int), .int .u64 (te : Int)] 63)
  have HX6 := Lib.hid (hx5.on hb6)
  have H6 := Lib.hid ((H4.out.on hb5).on hb6)
  obtain ⟨b5, o5, rfl, hbl, x0, x1, x2, x3, x4, x5, x6, x7⟩ := head_at HX6.out
  have HNw := Lib.hid (hnw b5 o5 rfl)
  have HFl := Lib.hid H4.out.hF.lt
  have hq : ∀ q, q ∈ [o.F, o.SE, o.NO, o.GO, o.LA] → q < w4.heap.size := fun q hq => by
    have h4 := H4.out
    simp only [List.mem_cons, List.not_mem_nil, or_false] at hq
    rcases hq with rfl | rfl | rfl | rfl | rfl
    · exact h4.hF.lt
    · exact h4.hS.lt
    · exact h4.hN.lt
    · exact h4.hG.lt
    · exact (h4.hL.blockLt _ rfl).2
  have HQ := Lib.hid (show w.heap.size ≤ b5 ∧ b5 ∉ [o.F, o.SE, o.NO, o.GO, o.LA] ∧ b5 ≠ o.R from ⟨by have := HNw.out; have := H4.out.hk.size; omega, fun e => by have := hq b5 e; have := HNw.out; omega, fun e => by have := (H4.out.hR.blockLt o.R rfl).2; have := HNw.out; omega⟩)
  have HC5 := Lib.hid hc5
  unfold tagV
  clear hx5 hc5 hb5 hnw hb6 hbl hq
  go_upto_region 6 with fail
  generalize w5.alloc (.cells #[.int .i64 tk, .int .u32 (tp : Int), .int .u64 (ts : Int), .int .u64 (te : Int)] 63) = w6 at *
  have HX := Lib.hid (show w6.cell? ⟨b5, o5, none⟩ = some (.int .u8 2) ∧ w6.cell? ⟨b5, o5 + 1, none⟩ = some (.int .u8 0) ∧ w6.cell? ⟨b5, o5 + 2, none⟩ = some (.int .u8 0) ∧ w6.cell? ⟨b5, o5 + 3, none⟩ = some (.int .u8 0) from ⟨x0, x1, x2, x3⟩)
  have HY := Lib.hid (show w6.cell? ⟨b5, o5 + 4, none⟩ = some (.int .u8 0) ∧ w6.cell? ⟨b5, o5 + 5, none⟩ = some (.int .u8 0) ∧ w6.cell? ⟨b5, o5 + 6, none⟩ = some (.int .u8 0) ∧ w6.cell? ⟨b5, o5 + 7, none⟩ = some (.int .u8 0) from ⟨x4, x5, x6, x7⟩)
  clear x0 x1 x2 x3 x4 x5 x6 x7
  have HNe := Lib.hid (show b5 ≠ o.F from fun e => HQ.out.2.1 (by rw [e]; simp))
  have H6d := Lib.hid (H6.out.on (below_drew w6))
  have iw2 : IntKind.i64.wrap 2 = 2 := by decide
  have iw0 : IntKind.i64.wrap 0 = 0 := by decide
  have ib2 : bits BinOp.or IntKind.i64 2 0 = 2 := by decide
  have ib0 : bits BinOp.or IntKind.i64 0 0 = 0 := by decide
  have ib8 : bits BinOp.or IntKind.u8 0 0 = 0 := by decide
  refine wp_region_noPanic ?_
  refine wp_region_held_drew (S := (fun W' => W'.cell? ⟨b5, o5, none⟩ = some (.int .u8 2) ∧ W'.cell? ⟨b5, o5 + 1, none⟩ = some (.int .u8 0) ∧ W'.cell? ⟨b5, o5 + 2, none⟩ = some (.int .u8 0) ∧ W'.cell? ⟨b5, o5 + 3, none⟩ = some (.int .u8 0))) (by kernel_rfl) HX.out (fun hS0 => ?_)
  have HYd := Lib.hid (show w6.drew.cell? ⟨b5, o5 + 4, none⟩ = some (.int .u8 0) ∧ w6.drew.cell? ⟨b5, o5 + 5, none⟩ = some (.int .u8 0) ∧ w6.drew.cell? ⟨b5, o5 + 6, none⟩ = some (.int .u8 0) ∧ w6.drew.cell? ⟨b5, o5 + 7, none⟩ = some (.int .u8 0) from HY.out)
  have HX7 := Lib.hid (show Bytes w6.drew w6.drew.heap.size (some ⟨b5, o5, none⟩) 64 (headL tl) from HX6.out.on (below_drew w6))
  generalize w6.drew = w7 at *
  refine takeV 0 (v := (.pointer (some ⟨o.F, 0, none⟩))) rfl (by kernel_rfl) (by kernel_rfl) (by kernel_rfl) (fun _ _ _ h => h) (by rfl) (fun _ _ => rfl) (by assumption) ?_
  try simp only [layR]
  refine takeV 1 (v := (.pointer (some ⟨o.F, 0, none⟩))) rfl (by kernel_rfl) (by kernel_rfl) (by kernel_rfl) (fun _ _ _ h => h) (by rfl) (fun _ _ => rfl) (by assumption) ?_
  try simp only [layR]
  refine takeV 2 (v := (.slice (some ⟨b5, o5, none⟩) 64 c5)) rfl (by kernel_rfl) (by kernel_rfl) (by kernel_rfl) (fun _ _ _ h => h) (by rfl) (fun _ _ => rfl) (by assumption) ?_
  try simp only [layR]
  refine takeV 3 (v := (.pointer (some ⟨b5, o5, none⟩))) rfl (by kernel_rfl) (by kernel_rfl) (by kernel_rfl) (fun _ _ _ h => h) (by rfl) (fun W hSw => ?_) (by assumption) ?_
  · skip
    go_simp
  try simp only [layR]
  refine takeV 4 (v := (.int .u8 2)) rfl (by kernel_rfl) (by kernel_rfl) (by kernel_rfl) (fun _ _ _ h => h) (by rfl) (fun W hSw => ?_) (by assumption) ?_
  · obtain ⟨y1, y2, y3, y4⟩ := hSw
    go_simp
  try simp only [layR]
  refine takeV 5 (v := (.int .i64 2)) rfl (by kernel_rfl) (by kernel_rfl) (by kernel_rfl) (fun _ _ _ h => h) (by rfl) (fun W hSw => ?_) (by assumption) ?_
  · skip
    go_simp
  try simp only [layR]
  refine takeV 6 (v := (.slice (some ⟨b5, o5, none⟩) 64 c5)) rfl (by kernel_rfl) (by kernel_rfl) (by kernel_rfl) (fun _ _ _ h => h) (by rfl) (fun _ _ => rfl) (by assumption) ?_
  try simp only [layR]
  refine takeV 7 (v := (.pointer (some ⟨b5, o5 + 1, none⟩))) rfl (by kernel_rfl) (by kernel_rfl) (by kernel_rfl) (fun _ _ _ h => h) (by rfl) (fun W hSw => ?_) (by assumption) ?_
  · skip
    go_simp
  try simp only [layR]
  refine takeV 8 (v := (.int .u8 0)) rfl (by kernel_rfl) (by kernel_rfl) (by kernel_rfl) (fun _ _ _ h => h) (by rfl) (fun W hSw => ?_) (by assumption) ?_
  · obtain ⟨y1, y2, y3, y4⟩ := hSw
    go_simp
  try simp only [layR]
  refine takeV 9 (v := (.int .i64 0)) rfl (by kernel_rfl) (by kernel_rfl) (by kernel_rfl) (fun _ _ _ h => h) (by rfl) (fun W hSw => ?_) (by assumption) ?_
  · skip
    go_simp
  try simp only [layR]
  refine takeV 10 (v := (.int .i64 0)) rfl (by kernel_rfl) (by kernel_rfl) (by kernel_rfl) (fun _ _ _ h => h) (by rfl) (fun W hSw => ?_) (by assumption) ?_
  · skip
    go_simp
  try simp only [layR]
  refine takeV 11 (v := (.int .i64 2)) rfl (by kernel_rfl) (by kernel_rfl) (by kernel_rfl) (fun _ _ _ h => h) (by rfl) (fun W hSw => ?_) (by assumption) ?_
  · skip
    go_simp
  try simp only [layR]
  refine takeV 12 (v := (.slice (some ⟨b5, o5, none⟩) 64 c5)) rfl (by kernel_rfl) (by kernel_rfl) (by kernel_rfl) (fun _ _ _ h => h) (by rfl) (fun _ _ => rfl) (by assumption) ?_
  try simp only [layR]
  refine takeV 13 (v := (.pointer (some ⟨b5, o5 + 2, none⟩))) rfl (by kernel_rfl) (by kernel_rfl) (by kernel_rfl) (fun _ _ _ h => h) (by rfl) (fun W hSw => ?_) (by assumption) ?_
  · skip
    go_simp
  try simp only [layR]
  refine takeV 14 (v := (.int .u8 0)) rfl (by kernel_rfl) (by kernel_rfl) (by kernel_rfl) (fun _ _ _ h => h) (by rfl) (fun W hSw => ?_) (by assumption) ?_
  · obtain ⟨y1, y2, y3, y4⟩ := hSw
    go_simp
  try simp only [layR]
  refine takeV 15 (v := (.int .i64 0)) rfl (by kernel_rfl) (by kernel_rfl) (by kernel_rfl) (fun _ _ _ h => h) (by rfl) (fun W hSw => ?_) (by assumption) ?_
  · skip
    go_simp
  try simp only [layR]
  refine takeV 16 (v := (.slice (some ⟨b5, o5, none⟩) 64 c5)) rfl (by kernel_rfl) (by kernel_rfl) (by kernel_rfl) (fun _ _ _ h => h) (by rfl) (fun _ _ => rfl) (by assumption) ?_
  try simp only [layR]
  refine takeV 17 (v := (.pointer (some ⟨b5, o5 + 3, none⟩))) rfl (by kernel_rfl) (by kernel_rfl) (by kernel_rfl) (fun _ _ _ h => h) (by rfl) (fun W hSw => ?_) (by assumption) ?_
  · skip
    go_simp
  try simp only [layR]
  refine takeV 18 (v := (.int .u8 0)) rfl (by kernel_rfl) (by kernel_rfl) (by kernel_rfl) (fun _ _ _ h => h) (by rfl) (fun W hSw => ?_) (by assumption) ?_
  · obtain ⟨y1, y2, y3, y4⟩ := hSw
    go_simp
  try simp only [layR]
  refine takeV 19 (v := (.int .i64 0)) rfl (by kernel_rfl) (by kernel_rfl) (by kernel_rfl) (fun _ _ _ h => h) (by rfl) (fun W hSw => ?_) (by assumption) ?_
  · skip
    go_simp
  try simp only [layR]
  refine takeV 20 (v := (.int .i64 0)) rfl (by kernel_rfl) (by kernel_rfl) (by kernel_rfl) (fun _ _ _ h => h) (by rfl) (fun W hSw => ?_) (by assumption) ?_
  · skip
    go_simp
  try simp only [layR]
  refine takeV 21 (v := (.int .i64 0)) rfl (by kernel_rfl) (by kernel_rfl) (by kernel_rfl) (fun _ _ _ h => h) (by rfl) (fun W hSw => ?_) (by assumption) ?_
  · skip
    go_simp
  try simp only [layR]
  refine takeV 22 (v := (.pointer (some ⟨o.F, 0, none⟩))) rfl (by kernel_rfl) (by kernel_rfl) (by kernel_rfl) (fun _ _ _ h => h) (by rfl) (fun W hSw => ?_) (by assumption) ?_
  · skip
    go_simp
  try simp only [layR]
  refine takeV 23 (v := (.pointer (some ⟨o.F, 2, none⟩))) rfl (by kernel_rfl) (by kernel_rfl) (by kernel_rfl) (fun _ _ _ h => h) (by rfl) (fun W hSw => ?_) (by assumption) ?_
  · skip
    go_simp
  try simp only [layR]
  have z2 := H6d.out.cel (i := 2) (v := .int .i64 0) rfl
  have y2 := H6d.out.hF.frozen 2
  refine wpAnyH_ready (rs := [24]) (by kernel_rfl) (by simp) ?_
  refine AllReadyH.cons rfl (fun K' hK => ?_) AllReadyH.nil
  go_simp
  have hne := HNe.out
  have hS1 : (w7.setCell ⟨o.F, 2, none⟩ (.int .i64 2)).cell? ⟨b5, o5, none⟩ = some (.int .u8 2) ∧ (w7.setCell ⟨o.F, 2, none⟩ (.int .i64 2)).cell? ⟨b5, o5 + 1, none⟩ = some (.int .u8 0) ∧ (w7.setCell ⟨o.F, 2, none⟩ (.int .i64 2)).cell? ⟨b5, o5 + 2, none⟩ = some (.int .u8 0) ∧ (w7.setCell ⟨o.F, 2, none⟩ (.int .i64 2)).cell? ⟨b5, o5 + 3, none⟩ = some (.int .u8 0) :=
    ⟨(World.cell?_setCell_far _ _ _ _ (by simpa using Ne.symm hne)).trans hS0.1, (World.cell?_setCell_far _ _ _ _ (by simpa using Ne.symm hne)).trans hS0.2.1, (World.cell?_setCell_far _ _ _ _ (by simpa using Ne.symm hne)).trans hS0.2.2.1, (World.cell?_setCell_far _ _ _ _ (by simpa using Ne.symm hne)).trans hS0.2.2.2⟩
  have hs8 := H6d.out.set (res' := 2) (tv' := .slice none 0 0) (tx' := []) (sq' := sq) (ep' := ep) 2 (.int .i64 2) rfl (.inl ⟨rfl, rfl⟩)
  have HK8 := Lib.hid (Kq.one (w := w7) ⟨o.F, 2, none⟩ (.int .i64 2))
  have H8 := Lib.hid hs8
  clear z2 y2 hs8 hne
  refine hK.out _ _ hS1 (fun hS2 => ?_)
  try simp only [layR]
  generalize w7.setCell ⟨o.F, 2, none⟩ (.int .i64 2) = w8 at *
  refine takeV 25 (v := (.pointer (some ⟨o.F, 0, none⟩))) rfl (by kernel_rfl) (by kernel_rfl) (by kernel_rfl) (fun _ _ _ h => h) (by rfl) (fun W hSw => ?_) (by assumption) ?_
  · skip
    go_simp
  try simp only [layR]
  refine takeV 26 (v := (.pointer (some ⟨o.F, 3, none⟩))) rfl (by kernel_rfl) (by kernel_rfl) (by kernel_rfl) (fun _ _ _ h => h) (by rfl) (fun W hSw => ?_) (by assumption) ?_
  · skip
    go_simp
  try simp only [layR]
  have z3 := H8.out.cel (i := 3) (v := .int .i64 0) rfl
  have y3 := H8.out.hF.frozen 3
  refine wpAnyH_ready (rs := [27]) (by kernel_rfl) (by simp) ?_
  refine AllReadyH.cons rfl (fun K' hK => ?_) AllReadyH.nil
  go_simp
  have hne := HNe.out
  have hS3 : (w8.setCell ⟨o.F, 3, none⟩ (.int .i64 0)).cell? ⟨b5, o5, none⟩ = some (.int .u8 2) ∧ (w8.setCell ⟨o.F, 3, none⟩ (.int .i64 0)).cell? ⟨b5, o5 + 1, none⟩ = some (.int .u8 0) ∧ (w8.setCell ⟨o.F, 3, none⟩ (.int .i64 0)).cell? ⟨b5, o5 + 2, none⟩ = some (.int .u8 0) ∧ (w8.setCell ⟨o.F, 3, none⟩ (.int .i64 0)).cell? ⟨b5, o5 + 3, none⟩ = some (.int .u8 0) :=
    ⟨(World.cell?_setCell_far _ _ _ _ (by simpa using Ne.symm hne)).trans hS1.1, (World.cell?_setCell_far _ _ _ _ (by simpa using Ne.symm hne)).trans hS1.2.1, (World.cell?_setCell_far _ _ _ _ (by simpa using Ne.symm hne)).trans hS1.2.2.1, (World.cell?_setCell_far _ _ _ _ (by simpa using Ne.symm hne)).trans hS1.2.2.2⟩
  have hs9 := H8.out.set (res' := 2) (tv' := .slice none 0 0) (tx' := []) (sq' := sq) (ep' := ep) 3 (.int .i64 0) rfl (.inl ⟨rfl, rfl⟩)
  have HK9 := Lib.hid (HK8.out.trans (Kq.one (w := w8) ⟨o.F, 3, none⟩ (.int .i64 0)))
  have H9 := Lib.hid hs9
  clear z3 y3 hs9 hne
  refine hK.out _ _ hS3 (fun hS4 => ?_)
  try simp only [layR]
  generalize w8.setCell ⟨o.F, 3, none⟩ (.int .i64 0) = w9 at *
  refine wpAnyH_done (by kernel_rfl) ?_ _
  refine NoPanic.normal ?_
  clear hS0 hS1 hS2 hS3 hS4
  have HX9 := Lib.hid ((HX7.out.kq (Nat.le_refl _) HK9.out (fun b q e => by
    injection e with e
    injection e with e
    exact fun e2 => HNe.out (e.trans e2))).mono HK9.out.size)
  have HY9 := Lib.hid (show w9.cell? ⟨b5, o5 + 4, none⟩ = some (.int .u8 0) ∧ w9.cell? ⟨b5, o5 + 5, none⟩ = some (.int .u8 0) ∧ w9.cell? ⟨b5, o5 + 6, none⟩ = some (.int .u8 0) ∧ w9.cell? ⟨b5, o5 + 7, none⟩ = some (.int .u8 0) by
    obtain ⟨b, q, e, _, _, _, _, _, y4, y5, y6, y7⟩ := head_at HX9.out
    injection e with e
    injection e with e1 e2
    subst e1 e2
    exact ⟨y4, y5, y6, y7⟩)
  clear HX7 HY HYd HX HX6
  have hc64 := HC5.out
  have hcut : ∀ u, (Instr.slice 22 (.slice (some ⟨b5, o5, none⟩) 64 c5) (some (.int .i64 8)) none none).run Tryz.prog u = .ok (.slice (cutA (some ⟨b5, o5, none⟩) c5 8) 56 (c5 - 8)) u := fun u => cutB_from (some ⟨b5, o5, none⟩) 64 c5 8 (by omega) u
  obtain ⟨ca, hca⟩ : ∃ ca, ca = cutA (some ⟨b5, o5, none⟩) c5 8 := ⟨_, rfl⟩
  obtain ⟨c8, hc8⟩ : ∃ c8, c8 = c5 - 8 := ⟨_, rfl⟩
  rw [← hca, ← hc8] at hcut
  have hob : ∀ q, (Value.slice ca 56 c8).ownBlock = some q → q = b5 := fun q hq => by
    rw [hca, cutA, if_neg (by omega)] at hq
    simpa [Value.ownBlock, Addr.add, eq_comm] using hq
  have htx : TxA w9 (.slice ca 56 c8) tl := by
    refine .inr ⟨⟨_, _, _, rfl, ?_⟩, fun q hq => ?_⟩
    · rw [hca]; exact HX9.out.drop (l := 8) (by decide) hc64
    · rw [hob q hq]
      have h1 := HNw.out
      have h2 := HK9.out.size
      obtain ⟨b, q, e, hl, _⟩ := head_at HX9.out
      injection e with e
      injection e with e1 e2
      omega
  have z4 := H9.out.cel (i := 4) (v := .slice none 0 0) rfl
  have y4 := H9.out.hF.frozen 4
  have hs10 := H9.out.set (res' := 2) (tv' := .slice ca 56 c8) (tx' := tl) (sq' := sq) (ep' := ep) 4 (.slice ca 56 c8) rfl (.inr ⟨htx, fun q hq => by rw [hob q hq]; exact HQ.out⟩)
  have H10 := Lib.hid hs10
  have HY10 := Lib.hid (show (w9.setCell ⟨o.F, 4, none⟩ (.slice ca 56 c8)).cell? ⟨b5, o5 + 4, none⟩ = some (.int .u8 0) ∧ (w9.setCell ⟨o.F, 4, none⟩ (.slice ca 56 c8)).cell? ⟨b5, o5 + 5, none⟩ = some (.int .u8 0) ∧ (w9.setCell ⟨o.F, 4, none⟩ (.slice ca 56 c8)).cell? ⟨b5, o5 + 6, none⟩ = some (.int .u8 0) ∧ (w9.setCell ⟨o.F, 4, none⟩ (.slice ca 56 c8)).cell? ⟨b5, o5 + 7, none⟩ = some (.int .u8 0) from
    ⟨(World.cell?_setCell_far _ _ _ _ (by simpa using Ne.symm HNe.out)).trans HY9.out.1, (World.cell?_setCell_far _ _ _ _ (by simpa using Ne.symm HNe.out)).trans HY9.out.2.1, (World.cell?_setCell_far _ _ _ _ (by simpa using Ne.symm HNe.out)).trans HY9.out.2.2.1, (World.cell?_setCell_far _ _ _ _ (by simpa using Ne.symm HNe.out)).trans HY9.out.2.2.2⟩)
  clear hca hc8 hob htx hs10
  go_upto_region 8 with fail
  generalize w9.setCell ⟨o.F, 4, none⟩ (.slice ca 56 c8) = w10 at *
  clear z4 y4 hcut
  have HYe := Lib.hid (show w10.drew.cell? ⟨b5, o5 + 4, none⟩ = some (.int .u8 0) ∧ w10.drew.cell? ⟨b5, o5 + 5, none⟩ = some (.int .u8 0) ∧ w10.drew.cell? ⟨b5, o5 + 6, none⟩ = some (.int .u8 0) ∧ w10.drew.cell? ⟨b5, o5 + 7, none⟩ = some (.int .u8 0) from HY10.out)
  have H11 := Lib.hid (H10.out.on (below_drew w10))
  refine wp_region_noPanic ?_
  refine wp_region_held_drew (S := (fun W' => W'.cell? ⟨b5, o5 + 4, none⟩ = some (.int .u8 0) ∧ W'.cell? ⟨b5, o5 + 5, none⟩ = some (.int .u8 0) ∧ W'.cell? ⟨b5, o5 + 6, none⟩ = some (.int .u8 0) ∧ W'.cell? ⟨b5, o5 + 7, none⟩ = some (.int .u8 0))) (by kernel_rfl) HYe.out (fun hS0 => ?_)
  generalize w10.drew = w11 at *
  refine takeV 0 (v := (.slice (some ⟨b5, o5, none⟩) 64 c5)) rfl (by kernel_rfl) (by kernel_rfl) (by kernel_rfl) (fun _ _ _ h => h) (by rfl) (fun _ _ => rfl) (by assumption) ?_
  try simp only [layR]
  refine takeV 1 (v := (.pointer (some ⟨b5, o5 + 4, none⟩))) rfl (by kernel_rfl) (by kernel_rfl) (by kernel_rfl) (fun _ _ _ h => h) (by rfl) (fun W hSw => ?_) (by assumption) ?_
  · skip
    go_simp
  try simp only [layR]
  refine takeV 2 (v := (.int .u8 0)) rfl (by kernel_rfl) (by kernel_rfl) (by kernel_rfl) (fun _ _ _ h => h) (by rfl) (fun W hSw => ?_) (by assumption) ?_
  · obtain ⟨y1, y2, y3, y4⟩ := hSw
    go_simp
  try simp only [layR]
  refine takeV 3 (v := (.slice (some ⟨b5, o5, none⟩) 64 c5)) rfl (by kernel_rfl) (by kernel_rfl) (by kernel_rfl) (fun _ _ _ h => h) (by rfl) (fun _ _ => rfl) (by assumption) ?_
  try simp only [layR]
  refine takeV 4 (v := (.pointer (some ⟨b5, o5 + 5, none⟩))) rfl (by kernel_rfl) (by kernel_rfl) (by kernel_rfl) (fun _ _ _ h => h) (by rfl) (fun W hSw => ?_) (by assumption) ?_
  · skip
    go_simp
  try simp only [layR]
  refine takeV 5 (v := (.int .u8 0)) rfl (by kernel_rfl) (by kernel_rfl) (by kernel_rfl) (fun _ _ _ h => h) (by rfl) (fun W hSw => ?_) (by assumption) ?_
  · obtain ⟨y1, y2, y3, y4⟩ := hSw
    go_simp
  try simp only [layR]
  refine takeV 6 (v := (.int .u8 0)) rfl (by kernel_rfl) (by kernel_rfl) (by kernel_rfl) (fun _ _ _ h => h) (by rfl) (fun W hSw => ?_) (by assumption) ?_
  · skip
    go_simp
  try simp only [layR]
  refine takeV 7 (v := (.slice (some ⟨b5, o5, none⟩) 64 c5)) rfl (by kernel_rfl) (by kernel_rfl) (by kernel_rfl) (fun _ _ _ h => h) (by rfl) (fun _ _ => rfl) (by assumption) ?_
  try simp only [layR]
  refine takeV 8 (v := (.pointer (some ⟨b5, o5 + 6, none⟩))) rfl (by kernel_rfl) (by kernel_rfl) (by kernel_rfl) (fun _ _ _ h => h) (by rfl) (fun W hSw => ?_) (by assumption) ?_
  · skip
    go_simp
  try simp only [layR]
  refine takeV 9 (v := (.int .u8 0)) rfl (by kernel_rfl) (by kernel_rfl) (by kernel_rfl) (fun _ _ _ h => h) (by rfl) (fun W hSw => ?_) (by assumption) ?_
  · obtain ⟨y1, y2, y3, y4⟩ := hSw
    go_simp
  try simp only [layR]
  refine takeV 10 (v := (.int .u8 0)) rfl (by kernel_rfl) (by kernel_rfl) (by kernel_rfl) (fun _ _ _ h => h) (by rfl) (fun W hSw => ?_) (by assumption) ?_
  · skip
    go_simp
  try simp only [layR]
  refine takeV 11 (v := (.slice (some ⟨b5, o5, none⟩) 64 c5)) rfl (by kernel_rfl) (by kernel_rfl) (by kernel_rfl) (fun _ _ _ h => h) (by rfl) (fun _ _ => rfl) (by assumption) ?_
  try simp only [layR]
  refine takeV 12 (v := (.pointer (some ⟨b5, o5 + 7, none⟩))) rfl (by kernel_rfl) (by kernel_rfl) (by kernel_rfl) (fun _ _ _ h => h) (by rfl) (fun W hSw => ?_) (by assumption) ?_
  · skip
    go_simp
  try simp only [layR]
  refine takeV 13 (v := (.int .u8 0)) rfl (by kernel_rfl) (by kernel_rfl) (by kernel_rfl) (fun _ _ _ h => h) (by rfl) (fun W hSw => ?_) (by assumption) ?_
  · obtain ⟨y1, y2, y3, y4⟩ := hSw
    go_simp
  try simp only [layR]
  refine takeV 14 (v := (.int .u8 0)) rfl (by kernel_rfl) (by kernel_rfl) (by kernel_rfl) (fun _ _ _ h => h) (by rfl) (fun W hSw => ?_) (by assumption) ?_
  · skip
    go_simp
  try simp only [layR]
  refine takeV 15 (v := (.bool true)) rfl (by kernel_rfl) (by kernel_rfl) (by kernel_rfl) (fun _ _ _ h => h) (by rfl) (fun W hSw => ?_) (by assumption) ?_
  · skip
    go_simp
  try simp only [layR]
  refine takeV 16 (v := (.bool true)) rfl (by kernel_rfl) (by kernel_rfl) (by kernel_rfl) (fun _ _ _ h => h) (by rfl) (fun _ _ => rfl) (by assumption) ?_
  try simp only [layR]
  refine wpAnyH_done (by kernel_rfl) ?_ _
  refine NoPanic.normal ?_
  clear hS0
  go_upto_region 9 with fail
  clear HY10 HYe H10 hc64 iw2 iw0 ib2 ib0 ib8
  have H12 := Lib.hid (H11.out.on (below_drew w11))
  have HDa := Lib.hid (fun W : World => show Calls Tryz.prog 38 #[.agg #[.int .i64 16, .int .i64 8, .int .i64 64], .int .i64 2, .int .i64 0] W fun e w' => e = .returned (.int .i64 13) ∧ Below W.heap.size W w' from fdataBlocks_calls (w := W) (NB := 16) (by decide))
  have HBb := Lib.hid (fun (W : World) (hW : ChM 16 B S W C BL ps bl) => badBlocks_calls hW (by decide) HGd.out.bad)
  have HGo := Lib.hid (fun (W : World) (hW : ChM 16 B S W C BL ps bl) => show Calls Tryz.prog 29 #[.pointer (some ⟨C, 0, none⟩)] W fun e w' => e = .returned (.agg #[.int .i64 16, .int .i64 8, .int .i64 64]) ∧ Below W.heap.size W w' from chGeo_calls hW)
  refine wp_region_noPanic ?_
  refine wp_region_held_drew (S := (fun W' => Op B S w C BL ps bl o 2 (.slice ca 56 c8) tl sq ep se W')) (by kernel_rfl) H12.out (fun hS0 => ?_)
  generalize w11.drew = w12 at *
  refine takeV 0 (v := (.bool true)) rfl (by kernel_rfl) (by kernel_rfl) (by kernel_rfl) (fun _ _ _ h => h) (by rfl) (fun _ _ => rfl) (by assumption) ?_
  try simp only [layR]
  refine takeV 1 (v := (.bool true)) rfl (by kernel_rfl) (by kernel_rfl) (by kernel_rfl) (fun _ _ _ h => h) (by rfl) (fun _ _ => rfl) (by assumption) ?_
  try simp only [layR]
  refine takeV 2 (v := (.pointer (some ⟨o.F, 0, none⟩))) rfl (by kernel_rfl) (by kernel_rfl) (by kernel_rfl) (fun _ _ _ h => h) (by rfl) (fun _ _ => rfl) (by assumption) ?_
  try simp only [layR]
  refine takeV 3 (v := (.pointer (some ⟨o.F, 0, none⟩))) rfl (by kernel_rfl) (by kernel_rfl) (by kernel_rfl) (fun _ _ _ h => h) (by rfl) (fun W hSw => ?_) (by assumption) ?_
  · skip
    go_simp
  try simp only [layR]
  refine takeV 4 (v := (.pointer (some ⟨o.F, 2, none⟩))) rfl (by kernel_rfl) (by kernel_rfl) (by kernel_rfl) (fun _ _ _ h => h) (by rfl) (fun W hSw => ?_) (by assumption) ?_
  · skip
    go_simp
  try simp only [layR]
  refine takeV 5 (v := (.int .i64 2)) rfl (by kernel_rfl) (by kernel_rfl) (by kernel_rfl) (fun _ _ _ h => h) (by rfl) (fun W hSw => ?_) (by assumption) ?_
  · have y1 := hSw.cel (i := 2) (v := .int .i64 2) rfl
    go_simp
  try simp only [layR]
  refine takeV 6 (v := (.bool true)) rfl (by kernel_rfl) (by kernel_rfl) (by kernel_rfl) (fun _ _ _ h => h) (by rfl) (fun W hSw => ?_) (by assumption) ?_
  · skip
    go_simp
  try simp only [layR]
  refine takeV 7 (v := (.bool true)) rfl (by kernel_rfl) (by kernel_rfl) (by kernel_rfl) (fun _ _ _ h => h) (by rfl) (fun _ _ => rfl) (by assumption) ?_
  try simp only [layR]
  refine takeV 8 (v := (.bool true)) rfl (by kernel_rfl) (by kernel_rfl) (by kernel_rfl) (fun _ _ _ h => h) (by rfl) (fun _ _ => rfl) (by assumption) ?_
  try simp only [layR]
  refine takeV 9 (v := (.pointer (some ⟨o.F, 0, none⟩))) rfl (by kernel_rfl) (by kernel_rfl) (by kernel_rfl) (fun _ _ _ h => h) (by rfl) (fun _ _ => rfl) (by assumption) ?_
  try simp only [layR]
  refine takeV 10 (v := (.pointer (some ⟨o.F, 0, none⟩))) rfl (by kernel_rfl) (by kernel_rfl) (by kernel_rfl) (fun _ _ _ h => h) (by rfl) (fun W hSw => ?_) (by assumption) ?_
  · skip
    go_simp
  try simp only [layR]
  refine takeV 11 (v := (.pointer (some ⟨o.F, 3, none⟩))) rfl (by kernel_rfl) (by kernel_rfl) (by kernel_rfl) (fun _ _ _ h => h) (by rfl) (fun W hSw => ?_) (by assumption) ?_
  · skip
    go_simp
  try simp only [layR]
  refine takeV 12 (v := (.int .i64 0)) rfl (by kernel_rfl) (by kernel_rfl) (by kernel_rfl) (fun _ _ _ h => h) (by rfl) (fun W hSw => ?_) (by assumption) ?_
  · have y1 := hSw.cel (i := 3) (v := .int .i64 0) rfl
    go_simp
  try simp only [layR]
  refine takeV 13 (v := (.pointer (some ⟨o.F, 0, none⟩))) rfl (by kernel_rfl) (by kernel_rfl) (by kernel_rfl) (fun _ _ _ h => h) (by rfl) (fun _ _ => rfl) (by assumption) ?_
  try simp only [layR]
  refine takeV 14 (v := (.pointer (some ⟨o.F, 0, none⟩))) rfl (by kernel_rfl) (by kernel_rfl) (by kernel_rfl) (fun _ _ _ h => h) (by rfl) (fun W hSw => ?_) (by assumption) ?_
  · skip
    go_simp
  try simp only [layR]
  refine takeV 15 (v := (.pointer (some ⟨o.F, 0, none⟩))) rfl (by kernel_rfl) (by kernel_rfl) (by kernel_rfl) (fun _ _ _ h => h) (by rfl) (fun W hSw => ?_) (by assumption) ?_
  · skip
    go_simp
  try simp only [layR]
  refine takeV 16 (v := (.pointer (some ⟨C, 0, none⟩))) rfl (by kernel_rfl) (by kernel_rfl) (by kernel_rfl) (fun _ _ _ h => h) (by rfl) (fun W hSw => ?_) (by assumption) ?_
  · have y1 := hSw.cel (i := 0) (v := .pointer (some ⟨C, 0, none⟩)) rfl
    go_simp
  try simp only [layR]
  refine wpAnyH_ready (rs := [17]) (by kernel_rfl) (by simp) ?_
  refine AllReadyH.cons rfl (fun K' hK => ?_) AllReadyH.nil
  go_simp
  refine (HBb.out w12 hS0.hc).mono ?_
  rintro e w13 ⟨rfl, hb13⟩
  have hS1 := hS0.on hb13
  clear hb13
  refine hK.out _ _ hS1 (fun hS2 => ?_)
  try simp only [layR]
  refine takeV 18 (v := (.bool true)) rfl (by kernel_rfl) (by kernel_rfl) (by kernel_rfl) (fun _ _ _ h => h) (by rfl) (fun W hSw => ?_) (by assumption) ?_
  · skip
    go_simp
  try simp only [layR]
  refine takeV 19 (v := (.bool true)) rfl (by kernel_rfl) (by kernel_rfl) (by kernel_rfl) (fun _ _ _ h => h) (by rfl) (fun _ _ => rfl) (by assumption) ?_
  try simp only [layR]
  refine takeV 20 (v := (.bool true)) rfl (by kernel_rfl) (by kernel_rfl) (by kernel_rfl) (fun _ _ _ h => h) (by rfl) (fun _ _ => rfl) (by assumption) ?_
  try simp only [layR]
  refine takeV 21 (v := (.pointer (some ⟨o.F, 0, none⟩))) rfl (by kernel_rfl) (by kernel_rfl) (by kernel_rfl) (fun _ _ _ h => h) (by rfl) (fun _ _ => rfl) (by assumption) ?_
  try simp only [layR]
  refine takeV 22 (v := (.pointer (some ⟨o.F, 0, none⟩))) rfl (by kernel_rfl) (by kernel_rfl) (by kernel_rfl) (fun _ _ _ h => h) (by rfl) (fun W hSw => ?_) (by assumption) ?_
  · skip
    go_simp
  try simp only [layR]
  refine takeV 23 (v := (.pointer (some ⟨o.F, 0, none⟩))) rfl (by kernel_rfl) (by kernel_rfl) (by kernel_rfl) (fun _ _ _ h => h) (by rfl) (fun W hSw => ?_) (by assumption) ?_
  · skip
    go_simp
  try simp only [layR]
  refine takeV 24 (v := (.pointer (some ⟨C, 0, none⟩))) rfl (by kernel_rfl) (by kernel_rfl) (by kernel_rfl) (fun _ _ _ h => h) (by rfl) (fun W hSw => ?_) (by assumption) ?_
  · have y1 := hSw.cel (i := 0) (v := .pointer (some ⟨C, 0, none⟩)) rfl
    go_simp
  try simp only [layR]
  refine takeV 26 (v := (.pointer (some ⟨o.F, 0, none⟩))) rfl (by kernel_rfl) (by kernel_rfl) (by kernel_rfl) (fun _ _ _ h => h) (by rfl) (fun _ _ => rfl) (by assumption) ?_
  try simp only [layR]
  refine takeV 27 (v := (.pointer (some ⟨o.F, 0, none⟩))) rfl (by kernel_rfl) (by kernel_rfl) (by kernel_rfl) (fun _ _ _ h => h) (by rfl) (fun W hSw => ?_) (by assumption) ?_
  · skip
    go_simp
  try simp only [layR]
  refine takeV 28 (v := (.pointer (some ⟨o.F, 2, none⟩))) rfl (by kernel_rfl) (by kernel_rfl) (by kernel_rfl) (fun _ _ _ h => h) (by rfl) (fun W hSw => ?_) (by assumption) ?_
  · skip
    go_simp
  try simp only [layR]
  refine takeV 29 (v := (.int .i64 2)) rfl (by kernel_rfl) (by kernel_rfl) (by kernel_rfl) (fun _ _ _ h => h) (by rfl) (fun W hSw => ?_) (by assumption) ?_
  · have y1 := hSw.cel (i := 2) (v := .int .i64 2) rfl
    go_simp
  try simp only [layR]
  refine takeV 30 (v := (.pointer (some ⟨o.F, 0, none⟩))) rfl (by kernel_rfl) (by kernel_rfl) (by kernel_rfl) (fun _ _ _ h => h) (by rfl) (fun _ _ => rfl) (by assumption) ?_
  try simp only [layR]
  refine takeV 31 (v := (.pointer (some ⟨o.F, 0, none⟩))) rfl (by kernel_rfl) (by kernel_rfl) (by kernel_rfl) (fun _ _ _ h => h) (by rfl) (fun W hSw => ?_) (by assumption) ?_
  · skip
    go_simp
  try simp only [layR]
  refine takeV 32 (v := (.pointer (some ⟨o.F, 3, none⟩))) rfl (by kernel_rfl) (by kernel_rfl) (by kernel_rfl) (fun _ _ _ h => h) (by rfl) (fun W hSw => ?_) (by assumption) ?_
  · skip
    go_simp
  try simp only [layR]
  refine takeV 33 (v := (.int .i64 0)) rfl (by kernel_rfl) (by kernel_rfl) (by kernel_rfl) (fun _ _ _ h => h) (by rfl) (fun W hSw => ?_) (by assumption) ?_
  · have y1 := hSw.cel (i := 3) (v := .int .i64 0) rfl
    go_simp
  try simp only [layR]
  refine wpAnyH_ready (rs := [25]) (by kernel_rfl) (by simp) ?_
  refine AllReadyH.cons rfl (fun K' hK => ?_) AllReadyH.nil
  go_simp
  refine (HGo.out w13 hS1.hc).mono ?_
  rintro e w14 ⟨rfl, hb14⟩
  have hS3 := hS1.on hb14
  clear hb14
  refine hK.out _ _ hS3 (fun hS4 => ?_)
  try simp only [layR]
  refine wpAnyH_ready (rs := [34]) (by kernel_rfl) (by simp) ?_
  refine AllReadyH.cons rfl (fun K' hK => ?_) AllReadyH.nil
  go_simp
  refine (HDa.out w14).mono ?_
  rintro e w15 ⟨rfl, hb15⟩
  have hS5 := hS3.on hb15
  clear hb15
  refine hK.out _ _ hS5 (fun hS6 => ?_)
  try simp only [layR]
  refine takeV 35 (v := (.bool true)) rfl (by kernel_rfl) (by kernel_rfl) (by kernel_rfl) (fun _ _ _ h => h) (by rfl) (fun W hSw => ?_) (by assumption) ?_
  · skip
    go_simp
  try simp only [layR]
  refine takeV 36 (v := (.bool true)) rfl (by kernel_rfl) (by kernel_rfl) (by kernel_rfl) (fun _ _ _ h => h) (by rfl) (fun _ _ => rfl) (by assumption) ?_
  try simp only [layR]
  refine takeV 37 (v := (.bool true)) rfl (by kernel_rfl) (by kernel_rfl) (by kernel_rfl) (fun _ _ _ h => h) (by rfl) (fun _ _ => rfl) (by assumption) ?_
  try simp only [layR]
  refine wpAnyH_done (by kernel_rfl) ?_ _
  refine NoPanic.normal ?_
  have HF := Lib.hid hS5
  clear hS0 hS1 hS2 hS3 hS4 hS5 hS6
  go_wp2
  go_ret
  exact ⟨rfl, _, HF.out⟩
end
end Go.Proofs.YtiipnpfaaghekaaGreat
namespace Go.Proofs.YtiipnpfaaghekaaGreat
open Go.RowKit Ftl Opn Go.ChangeMaps Go.Maps

/-- The frame under a name. -/
theorem wp_nm {P : Program} {c : Code} {Q : Exit → Act → World → Prop} {T0 : Array Value} {ds : List Deferred} {w : World} (h : ∀ T, T = T0 → Code.wp P c Q ⟨T, ds⟩ w) : Code.wp P c Q ⟨T0, ds⟩ w := h T0 rfl
namespace Opn
/-- How many of the blocks have no sealed page. -/
def idl (se : List En) (pre : List (Nat × Bk)) : Nat := (pre.filter fun x => (se.filter fun e => e.b == x.1).length == 0).length
def inB (d : List En) (k : Nat) : Nat := (d.filter fun e => e.b == k).length
def lvL (d : List En) : List Nat := (List.range 16).map (inB d)
theorem lvL_len (d : List En) : (lvL d).length = 16 := by simp [lvL]
theorem lvL_nil : lvL [] = List.replicate 16 0 := by decide
theorem inB_snoc (d : List En) (e : En) (k : Nat) : inB (d ++ [e]) k = inB d k + if e.b = k then 1 else 0 := by
  unfold inB
  rw [List.filter_append, List.length_append]
  by_cases h : e.b = k <;> simp [h]
theorem lvL_at (d : List En) {k : Nat} (hk : k < (lvL d).length) : (lvL d)[k] = inB d k := by simp [lvL]
theorem lvL_snoc (d : List En) (e : En) : lvL (d ++ [e]) = (lvL d).set e.b (inB d e.b + 1) := by
  apply List.ext_getElem
  · simp [lvL]
  · intro i h1 h2
    rw [List.getElem_set]
    rw [lvL_at]
    by_cases h : e.b = i
    · rw [if_pos h, inB_snoc, if_pos h, h]
    · rw [if_neg h, inB_snoc, if_neg h, lvL_at]
      rfl
theorem inB_perm {d d' : List En} (h : d.Perm d') (k : Nat) : inB d k = inB d' k := (h.filter _).length_eq
theorem lvL_perm {d d' : List En} (h : d.Perm d') : lvL d = lvL d' := by
  unfold lvL
  exact List.map_congr_left fun k _ => inB_perm h k
theorem idl_snoc (se : List En) (pre : List (Nat × Bk)) (x : Nat × Bk) : idl se (pre ++ [x]) = idl se pre + if inB se x.1 = 0 then 1 else 0 := by
  unfold idl
  rw [List.filter_append, List.length_append]
  show _ + (List.filter (fun x => inB se x.1 == 0) [x]).length = _
  by_cases h : inB se x.1 = 0 <;> simp [h]
theorem idl_le (se : List En) (pre : List (Nat × Bk)) : idl se pre ≤ pre.length := List.length_filter_le _ _
theorem idl_pos (se : List En) {pre : List (Nat × Bk)} {x : Nat × Bk} (hx : x ∈ pre) (h : inB se x.1 = 0) : 0 < idl se pre := by
  refine List.length_pos_of_mem (a := x) (List.mem_filter.2 ⟨hx, ?_⟩)
  show (inB se x.1 == 0) = true
  rw [h]; rfl
theorem inB_le (d : List En) (k : Nat) : inB d k ≤ d.length := List.length_filter_le _ _
theorem lvL_getD (d : List En) {k : Nat} (hk : k < 16) : (lvL d).getD k 0 = inB d k := by
  rw [List.getD_eq_getElem?_getD, List.getElem?_eq_getElem (by rw [lvL_len]; exact hk), lvL_at]
  rfl
end Opn
/-- The sealed pages of d have been counted. -/
structure MgI (B : Nat) (S : Nat → Prop) (w : World) (C BL : Nat) (ps : Nat → Nat) (bl : Nat → Pb) (o : Oa) (tv : Value) (tx : List UInt8) (sq ep : Nat) (se : List En) (LV Q : Nat) (d : List En) (W : World) : Prop where
  op : Op B S w C BL ps bl o 2 tv tx sq ep se W
  lv : Own naV 3 W w.heap.size (.slice (some ⟨LV, 0, none⟩) 16 16) (lvL d)
  q4 : Blk W Q 85 #[.slice (some ⟨LV, 0, none⟩) 16 16]
  nl : LV ∉ [o.F, o.SE, o.NO, o.GO, o.LA] ∧ tv.ownBlock ≠ some LV ∧ o.R ≠ LV ∧ Q ≠ LV
  lQ : w.heap.size ≤ Q
section
variable {B C BL : Nat} {S T : Nat → Prop} {w W W' : World} {ps : Nat → Nat} {bl : Nat → Pb} {o : Oa} {tv : Value} {tx : List UInt8} {sq ep LV Q : Nat} {se d : List En}
theorem Op.lt (h : Op B S w C BL ps bl o 2 tv tx sq ep se W) : ∀ q, q ∈ [o.F, o.SE, o.NO, o.GO, o.LA] → q < W.heap.size := fun q hq => by
  simp only [List.mem_cons, List.not_mem_nil, or_false] at hq
  rcases hq with rfl | rfl | rfl | rfl | rfl
  · exact h.hF.lt
  · exact h.hS.lt
  · exact h.hN.lt
  · exact h.hG.lt
  · exact (h.hL.blockLt _ rfl).2
theorem MgI.on (h : MgI B S w C BL ps bl o tv tx sq ep se LV Q d W) (hb : Below W.heap.size W W') : MgI B S w C BL ps bl o tv tx sq ep se LV Q d W' :=
  ⟨h.op.on hb, h.lv.on hb, h.q4.belowHere hb, h.nl, h.lQ⟩
/-- A block that is newer than all of them has changed. -/
theorem MgI.new {r : Nat} (h : MgI B S w C BL ps bl o tv tx sq ep se LV Q d W) (hk : Kq (fun q => q = r) W W') (hr : ∃ W0, MgI B S w C BL ps bl o tv tx sq ep se LV Q [] W0 ∧ W0.heap.size ≤ r) : MgI B S w C BL ps bl o tv tx sq ep se LV Q d W' := by
  obtain ⟨W0, h0, hr⟩ := hr
  have hw := h0.op.hk.size
  refine ⟨h.op.kq (h.op.hc.kq hk fun q hq e => ?_) hk fun q e => .inr ⟨?_, fun hm => ?_, fun hm => ?_, fun hm => ?_⟩, h.lv.kq hk fun q hq e => ?_, h.q4.kq hk fun e => ?_, h.nl, h.lQ⟩
  · have := h.op.lS q hq
    have e : q = r := e
    omega
  · have e : q = r := e
    omega
  · have := h0.op.lt q hm
    have e : q = r := e
    omega
  · have := h0.op.hT.lt q hm
    have e : q = r := e
    omega
  · have := (h0.op.hR.blockLt o.R rfl).2
    have e : q = r := e
    omega
  · have := (h0.lv.blockLt q hq).2
    have e : q = r := e
    omega
  · have := h0.q4.lt
    have e : Q = r := e
    omega
/-- One more is counted. -/
theorem MgI.cnt {e : En} (h : MgI B S w C BL ps bl o tv tx sq ep se LV Q d W) (he : e.b < 16) :
    W.cell? ⟨LV, e.b, none⟩ = some (.int .i64 (inB d e.b : Int)) ∧ W.frozen? ⟨LV, e.b, none⟩ = false ∧ MgI B S w C BL ps bl o tv tx sq ep se LV Q (d ++ [e]) (W.setCell ⟨LV, e.b, none⟩ (.int .i64 ((inB d e.b + 1 : Nat) : Int))) := by
  obtain ⟨c1, c2⟩ := h.lv.cellg (k := e.b) (by rw [lvL_len]; exact he)
  rw [lvL_at] at c1
  have hL := h.lv.set e.b (inB d e.b + 1)
  rw [← lvL_snoc d e] at hL
  have hg := (h.lv.blockLt LV rfl).1
  have hk : Kq (fun q => q = LV) W (W.setCell ⟨LV, e.b, none⟩ (.int .i64 ((inB d e.b + 1 : Nat) : Int))) := Kq.one ⟨_, _, none⟩ _
  obtain ⟨n1, n2, n3, n4⟩ := h.nl
  refine ⟨c1, c2, h.op.kq (h.op.hc.kq hk fun q hq e => ?_) hk fun q e => .inr ⟨?_, fun hm => ?_, fun hm => ?_, fun hm => ?_⟩, hL, h.q4.kq hk fun e => ?_, h.nl, h.lQ⟩
  · have := h.op.lS q hq
    have e : q = LV := e
    omega
  · have e : q = LV := e
    omega
  · have e : q = LV := e
    exact n1 (e ▸ hm)
  · have e : q = LV := e
    exact n2 (e ▸ hm)
  · have e : q = LV := e
    exact n3 (hm.symm.trans e)
  · exact n4 e
/-- The translation, when its manager is there. -/
def fmO (o : Oa) (g : Mg) (se : List En) (sq ep : Nat) (tv : Value) (tx : List UInt8) : Fm := ⟨o.F, o.SE, o.NO, o.GO, o.LA, g, se, [], [], sq, ep, tv, tx, false⟩
theorem op_ft {M : Nat} {g : Mg} (h : Op B S w C BL ps bl o 2 tv tx sq ep se W) (hb : Below W.heap.size W W') (hg : MgM 16 B S W' g) (hM : W.heap.size ≤ g.M) (hML : W.heap.size ≤ g.ML) (hC : g.C = C) (hr : g.res = 2) (hd : g.bad = 0) (he : g.M = M) (hSB : ∀ q, S q → B ≤ q ∧ q < w.heap.size) (hB0 : B ≤ w.heap.size) :
    W'.cell? ⟨o.F, 1, none⟩ = some (.pointer none) ∧ W'.frozen? ⟨o.F, 1, none⟩ = false ∧ FtR 16 B S w (W'.setCell ⟨o.F, 1, none⟩ (.pointer (some ⟨M, 0, none⟩))) (fmO o g se sq ep tv tx) := by
  subst he
  have hl := h.lt
  have hw := h.hk.size
  have hs := hb.size
  have h2 := h.on hb
  have nd := h.nd
  have hnw := h.nw
  simp only [List.nodup_cons, List.mem_cons, List.not_mem_nil, or_false, not_or] at nd
  obtain ⟨⟨n1, n2, n3, n4⟩, _⟩ := nd
  have hq : Kq (fun q => q = o.F) W' (W'.setCell ⟨o.F, 1, none⟩ (.pointer (some ⟨g.M, 0, none⟩))) := Kq.one ⟨_, _, none⟩ _
  have hne : ∀ q, q ≠ o.F → (W'.setCell ⟨o.F, 1, none⟩ (.pointer (some ⟨g.M, 0, none⟩))).heap[q]? = W'.heap[q]? := fun q hq => heap_setCell_other _ _ _ _ (by simpa using hq)
  have hFl := hl o.F (by simp)
  have hFw := hnw o.F (by simp)
  have hF := h2.hF.set 1 (.pointer (some ⟨g.M, 0, none⟩))
  have hA : (opA C o.SE o.NO o.GO o.LA (.pointer none) 2 tv sq ep).setIfInBounds 1 (.pointer (some ⟨g.M, 0, none⟩)) = fmA 16 (fmO o g se sq ep tv tx) := by
    unfold fmA fmO opA
    simp [hC, hr, hd]
  rw [hA] at hF
  have hMl := hg.hi g.M (.inl rfl)
  have hMLl := hg.hi g.ML (.inr (.inl rfl))
  have hsm : ∀ q, Sm g S q → Up S w (W'.setCell ⟨o.F, 1, none⟩ (.pointer (some ⟨g.M, 0, none⟩))) q := fun q hq => by
    rcases hq with e | e | e
    · exact .inr ⟨by omega, by rw [World.size_setCell]; omega⟩
    · exact .inr ⟨by omega, by rw [World.size_setCell]; omega⟩
    · exact .inl e
  have hns : ∀ q, w.heap.size ≤ q → q < W.heap.size → ¬ Sm g S q := fun q h1 h2 hq => by
    rcases hq with e | e | e
    · omega
    · omega
    · have := (hSB q e).2; omega
  refine ⟨h2.hF.cellv rfl, h2.hF.frozen 1, ⟨⟨S, ⟨hF, h2.hS.same (hne _ (Ne.symm n1)), h2.hN.same (hne _ (Ne.symm n2)), h2.hG.same (hne _ (Ne.symm n3)), (h2.hL.kq hq (fun q hq => by obtain rfl := own_of _ _ _ _ hq; exact Ne.symm n4)).mono (Nat.zero_le _), h2.hT.kq hq (fun q hq e => (h.nt q hq).2 (by rw [show q = o.F from e]; simp)), hg.kq hq (fun q hs e => ?_), h.nd, fun q hq => (h.nt q hq).2, fun q hq => ?_, fun q hq => ?_⟩, fun q hq => ?_, fun q hq => ?_⟩, ?_⟩⟩
  · have e : q = o.F := e
    exact hns q (by omega) (by omega) hs
  · rcases hq with e | e | e | e | e | e
    · exact hns q (e ▸ hnw _ (by simp [fmO])) (e ▸ hl _ (by simp [fmO]))
    · exact hns q (e ▸ hnw _ (by simp [fmO])) (e ▸ hl _ (by simp [fmO]))
    · exact hns q (e ▸ hnw _ (by simp [fmO])) (e ▸ hl _ (by simp [fmO]))
    · exact hns q (e ▸ hnw _ (by simp [fmO])) (e ▸ hl _ (by simp [fmO]))
    · exact hns q (e ▸ hnw _ (by simp [fmO])) (e ▸ hl _ (by simp [fmO]))
    · exact hns q (h.nt q e).1 (h.hT.lt q e)
  · have : w.heap.size ≤ q := by
      rcases hq with e | e | e | e | e | e
      · exact e ▸ hnw _ (by simp [fmO])
      · exact e ▸ hnw _ (by simp [fmO])
      · exact e ▸ hnw _ (by simp [fmO])
      · exact e ▸ hnw _ (by simp [fmO])
      · exact e ▸ hnw _ (by simp [fmO])
      · exact (h.nt q e).1
    omega
  · rcases hq with hq | hq
    · have : w.heap.size ≤ q ∧ q < W.heap.size := by
        rcases hq with e | e | e | e | e | e
        · exact ⟨e ▸ hnw _ (by simp [fmO]), e ▸ hl _ (by simp [fmO])⟩
        · exact ⟨e ▸ hnw _ (by simp [fmO]), e ▸ hl _ (by simp [fmO])⟩
        · exact ⟨e ▸ hnw _ (by simp [fmO]), e ▸ hl _ (by simp [fmO])⟩
        · exact ⟨e ▸ hnw _ (by simp [fmO]), e ▸ hl _ (by simp [fmO])⟩
        · exact ⟨e ▸ hnw _ (by simp [fmO]), e ▸ hl _ (by simp [fmO])⟩
        · exact ⟨(h.nt q e).1, h.hT.lt q e⟩
      exact .inr ⟨this.1, by rw [World.size_setCell]; omega⟩
    · exact hsm q hq
  · rcases hq with e | e
    · have := hSB q e
      rw [World.size_setCell]
      omega
    · omega
  · exact ((h.hk.on hb)).setCell (p := ⟨o.F, 1, none⟩) (.inr hFw) _
end
end Go.Proofs.YtiipnpfaaghekaaGreat
namespace Go.Proofs.YtiipnpfaaghekaaGreat
open Go.RowKit Ftl Opn Go.ChangeMaps Go.Maps Go.Shelf

attribute [local go_sem] Oper.semAt_some

/-- Between two rounds: the count of idle blocks lies in block H. -/
def MnI (M H : Nat) (w : World) (se : List En) (pre : List (Nat × Bk)) (W : World) : Prop :=
  Blk W H 3 #[.int .i64 (idl se pre : Int)] ∧ Blk W (H + 1) 54 #[.pointer (some ⟨M, 0, none⟩)] ∧ Below w.heap.size w W ∧ H + 2 ≤ W.heap.size
theorem mnI_keeps (M H : Nat) (w : World) (se : List En) (pre : List (Nat × Bk)) (B : Nat) (hB : w.heap.size ≤ B) : KeepsG2 [] B (MnI M H w se pre) :=
  (Blk.keepsG (by simp)).and ((Blk.keepsG (by simp)).and ((below_keepsG (by simp) hB (Nat.le_refl _)).and size_keepsG))
def mnAct (T : Array Value) (gq : Nat) (x : Nat × Bk) : Act := ⟨(((T.setIfInBounds 55 (.int .i64 (x.1 : Int))).setIfInBounds 56 (bkV x.2)).setIfInBounds 8 (.int .i64 (x.1 : Int))).setIfInBounds 9 (.pointer (some ⟨gq, 0, none⟩)), []⟩
theorem mfunc_nil (f g : Nat) (W : World) : (binOp .eql 121 (.func (.func f) #[] #[.pointer (some ⟨g, 0, none⟩)]) .nilFunc).run Tryz.prog W = .ok (.bool false) W := by kernel_rfl
section
variable {B C BL : Nat} {S T : Nat → Prop} {w W W' : World} {ps : Nat → Nat} {bl : Nat → Pb} {o : Oa} {tv : Value} {tx : List UInt8} {sq ep : Nat} {se : List En}
theorem kq_put (W : World) (D : Nat) (x : Obj) : Kq (fun q => q = D) W (W.putObj D x) := ⟨rfl, rfl, rfl, by rw [World.putObj_size]; exact Nat.le_refl _, fun k _ h1 => World.putObj_heap_other h1⟩
/-- What taking the blocks in hand leaves. -/
def Mngd (B : Nat) (S : Nat → Prop) (w : World) (C BL : Nat) (ps : Nat → Nat) (bl : Nat → Pb) (o : Oa) (tv : Value) (tx : List UInt8) (sq ep : Nat) (se : List En) (e : Ending) (W' : World) : Prop :=
  e = .returned (.tuple #[]) ∧ ∃ M ML cap, FtR 16 B S w W' (fmO o ⟨M, ML, C, BL, cap, ps, bl, openL bl (frs bl 16) (lvL se) 16, -1, 2, 0, decide (4 < (Gc.greatest (openL bl (frs bl 16) (lvL se) 16) : Int) - Gc.least (openL bl (frs bl 16) (lvL se) 16)), fun _ => True⟩ se sq ep tv tx)
set_option maxRecDepth 100000 in
set_option maxHeartbeats 16000000 in
theorem manages_calls (h : Op B S w C BL ps bl o 2 tv tx sq ep se W) (hg : Gd 16 bl) (hb : ∀ e ∈ se, e.b < 16) (hlv : ∀ k, k < 16 → inB se k ≤ 8 ∧ ((frs bl 16).getD k false = true → inB se k = 0)) (hSB : ∀ q, S q → B ≤ q ∧ q < w.heap.size) (hB0 : B ≤ w.heap.size) (hid : ∃ k, k < 16 ∧ inB se k = 0) :
    Calls Tryz.prog 45 #[.pointer (some ⟨o.F, 0, none⟩), .slice (some ⟨o.R, 0, none⟩) 16 16] W (Mngd B S w C BL ps bl o tv tx sq ep se) := by
  refine callsIn_wide (n := 9) |>.1 ?_
  refine callsIn_of_wp_marks Tryz.func45 rfl trivial ?_ rfl
  refine wpIn_wide.2 ?_
  simp only [Tryz.ntmps45, List.size_toArray, List.length_cons, List.length_nil, Nat.reduceAdd, Nat.reduceSub, Array.replicate_succ, Array.replicate_zero, List.push_toArray, List.append_toArray, List.nil_append, List.cons_append]
  have HGd := Lib.hid hg
  have HB := Lib.hid hb
  have HLv := Lib.hid hlv
  have HSB := Lib.hid hSB
  have HB0 := Lib.hid hB0
  have HId := Lib.hid hid
  have HFw := Lib.hid (h.nw o.F (by simp))
  have hmi := fmInts W
  have hcp := placeCells
  have HM0 := Lib.hid (show MgI B S w C BL ps bl o tv tx sq ep se W.heap.size (W.heap.size + 1) [] ((W.alloc (.cells ((List.replicate 16 0).map naV).toArray 3)).alloc (.cells #[.slice (some ⟨W.heap.size, 0, none⟩) 16 16] 85)) from by
    have hb1 := (Below.refl W.heap.size W).alloc (Nat.le_refl _) (.cells ((List.replicate 16 0).map naV).toArray 3)
    have hb2 := hb1.alloc hb1.size (.cells #[.slice (some ⟨W.heap.size, 0, none⟩) 16 16] 85)
    have h1 := Own.made (f := naV) (e := 3) (w := W) (base := w.heap.size) (xs := List.replicate 16 0) h.hk.size (by simp [maxLen])
    have h2 := Blk.new (W.alloc (.cells ((List.replicate 16 0).map naV).toArray 3)) 85 #[.slice (some ⟨W.heap.size, 0, none⟩) 16 16]
    rw [World.size_alloc] at h2
    have hw := h.hk.size
    refine ⟨h.on hb2, by rw [lvL_nil]; exact h1.alloc _, h2, ⟨fun e => ?_, fun e => ?_, fun e => ?_, by omega⟩, by omega⟩
    · have := h.lt _ e; omega
    · have := h.hT.lt _ e; omega
    · have := (h.hR.blockLt o.R rfl).2; omega)
  clear h hg hb hlv hSB hB0 hid
  go_upto_region 1 with fail
  generalize hw1 : (W.alloc _).alloc _ = w1
  have HM1 := Lib.hid (show MgI B S w C BL ps bl o tv tx sq ep se W.heap.size (W.heap.size + 1) [] w1 by rw [← hw1]; exact HM0.out)
  clear hw1 hmi HM0
  obtain ⟨LV, hLV⟩ : ∃ LV, LV = W.heap.size := ⟨_, rfl⟩
  obtain ⟨Q, hQ⟩ : ∃ Q, Q = W.heap.size + 1 := ⟨_, rfl⟩
  rw [← hQ, ← hLV] at HM1
  rw [← hQ, ← hLV]
  clear hLV hQ
  have f5 := HM1.out.op.cel (i := 5) (v := .map (some o.SE)) rfl
  go_wp2_with (at_range; refine wpList_range_E _ rfl _ rfl o.SE se rfl HM1.out.op.hS ?_; intro w2 hr2 hb2 hs2)
  go_frame
  have HM2 := Lib.hid (HM1.out.on hb2.out)
  have HR2 := hr2
  obtain ⟨r, hrr⟩ : ∃ r, r = w1.heap.size := ⟨_, rfl⟩
  have HRr := Lib.hid hrr
  rw [← hrr] at HR2 ⊢
  clear f5 hr2 hb2 hs2 hrr
  have HN := Lib.hid (show ∃ W0, MgI B S w C BL ps bl o tv tx sq ep se LV Q [] W0 ∧ W0.heap.size ≤ r from ⟨w1, HM1.out, Nat.le_of_eq HRr.out.symm⟩)
  clear HM1 HRr
  go_wp2_with fail
  go_loopw [6, 18] (fun _ _ wr => Hid (∃ d, RngE wr o.SE r se d ∧ MgI B S w C BL ps bl o tv tx sq ep se LV Q d wr)) (fun _ _ wr => wr.rangeLeft o.SE r)
  case atStart => exact ⟨[], HR2.out, HM2.out⟩
  case round =>
    obtain ⟨d, hrd, hm⟩ := hrel.out
    have HRd := Lib.hid hrd
    have HM := Lib.hid hm
    clear hrel hrd hm HR2 HM2
    go_wp2_with (at_next; refine wpList_next_E _ rfl _ rfl o.SE r se d rfl HRd.out ?_ ?_)
    · intro hperm
      have HP := Lib.hid hperm.out
      clear hperm
      have hm := HM.out
      go_upto_region 5 with fail
      have hs0 := (hm.on (below_drew wr)).op.cel (i := 0) (v := .pointer (some ⟨C, 0, none⟩)) rfl
      have hs2 := (hm.on (below_drew wr)).op.cel (i := 2) (v := .int .i64 2) rfl
      have hs3 := (hm.on (below_drew wr)).op.cel (i := 3) (v := .int .i64 0) rfl
      have hs4 := (hm.on (below_drew wr)).q4.cellv (i := 0) (v := .slice (some ⟨LV, 0, none⟩) 16 16) rfl
      have HM5 := Lib.hid (hm.on (below_drew wr))
      clear hm
      refine wp_region_noPanic ?_
      refine wp_region_held_drew (S := (fun W' => W'.cell? ⟨o.F, 0, none⟩ = some (.pointer (some ⟨C, 0, none⟩)) ∧ W'.cell? ⟨o.F, 2, none⟩ = some (.int .i64 2) ∧ W'.cell? ⟨o.F, 3, none⟩ = some (.int .i64 0) ∧ W'.cell? ⟨Q, 0, none⟩ = some (.slice (some ⟨LV, 0, none⟩) 16 16))) (by kernel_rfl) ⟨hs0, hs2, hs3, hs4⟩ (fun hS0 => ?_)
      generalize wr.drew = w5 at *
      clear hs0 hs2 hs3 hs4
      refine takeV 0 (v := (.pointer (some ⟨o.F, 0, none⟩))) rfl (by kernel_rfl) (by kernel_rfl) (by kernel_rfl) (fun _ _ _ h => h) (by rfl) (fun _ _ => rfl) (by assumption) ?_
      try simp only [layR]
      refine takeV 1 (v := (.pointer (some ⟨o.F, 0, none⟩))) rfl (by kernel_rfl) (by kernel_rfl) (by kernel_rfl) (fun _ _ _ h => h) (by rfl) (fun _ _ => rfl) (by assumption) ?_
      try simp only [layR]
      refine takeV 2 (v := (.pointer (some ⟨o.F, 0, none⟩))) rfl (by kernel_rfl) (by kernel_rfl) (by kernel_rfl) (fun _ _ _ h => h) (by rfl) (fun W hSw => ?_) (by assumption) ?_
      · skip
        go_simp
      try simp only [layR]
      refine takeV 3 (v := (.pointer (some ⟨o.F, 0, none⟩))) rfl (by kernel_rfl) (by kernel_rfl) (by kernel_rfl) (fun _ _ _ h => h) (by rfl) (fun W hSw => ?_) (by assumption) ?_
      · skip
        go_simp
      try simp only [layR]
      refine takeV 4 (v := (.pointer (some ⟨C, 0, none⟩))) rfl (by kernel_rfl) (by kernel_rfl) (by kernel_rfl) (fun _ _ _ h => h) (by rfl) (fun W hSw => ?_) (by assumption) ?_
      · obtain ⟨y1, y2, y3, y4⟩ := hSw
        go_simp
      try simp only [layR]
      refine takeV 5 (v := (.slice (some ⟨o.R, 0, none⟩) 16 16)) rfl (by kernel_rfl) (by kernel_rfl) (by kernel_rfl) (fun _ _ _ h => h) (by rfl) (fun _ _ => rfl) (by assumption) ?_
      try simp only [layR]
      refine takeV 6 (v := (.slice (some ⟨LV, 0, none⟩) 16 16)) rfl (by kernel_rfl) (by kernel_rfl) (by kernel_rfl) (fun _ _ _ h => h) (by rfl) (fun W hSw => ?_) (by assumption) ?_
      · obtain ⟨y1, y2, y3, y4⟩ := hSw
        go_simp
      try simp only [layR]
      refine takeV 7 (v := (.pointer (some ⟨o.F, 0, none⟩))) rfl (by kernel_rfl) (by kernel_rfl) (by kernel_rfl) (fun _ _ _ h => h) (by rfl) (fun _ _ => rfl) (by assumption) ?_
      try simp only [layR]
      refine takeV 8 (v := (.pointer (some ⟨o.F, 0, none⟩))) rfl (by kernel_rfl) (by kernel_rfl) (by kernel_rfl) (fun _ _ _ h => h) (by rfl) (fun W hSw => ?_) (by assumption) ?_
      · skip
        go_simp
      try simp only [layR]
      refine takeV 9 (v := (.pointer (some ⟨o.F, 2, none⟩))) rfl (by kernel_rfl) (by kernel_rfl) (by kernel_rfl) (fun _ _ _ h => h) (by rfl) (fun W hSw => ?_) (by assumption) ?_
      · skip
        go_simp
      try simp only [layR]
      refine takeV 10 (v := (.int .i64 2)) rfl (by kernel_rfl) (by kernel_rfl) (by kernel_rfl) (fun _ _ _ h => h) (by rfl) (fun W hSw => ?_) (by assumption) ?_
      · obtain ⟨y1, y2, y3, y4⟩ := hSw
        go_simp
      try simp only [layR]
      refine takeV 11 (v := (.pointer (some ⟨o.F, 0, none⟩))) rfl (by kernel_rfl) (by kernel_rfl) (by kernel_rfl) (fun _ _ _ h => h) (by rfl) (fun _ _ => rfl) (by assumption) ?_
      try simp only [layR]
      refine takeV 12 (v := (.pointer (some ⟨o.F, 0, none⟩))) rfl (by kernel_rfl) (by kernel_rfl) (by kernel_rfl) (fun _ _ _ h => h) (by rfl) (fun W hSw => ?_) (by assumption) ?_
      · skip
        go_simp
      try simp only [layR]
      refine takeV 13 (v := (.pointer (some ⟨o.F, 3, none⟩))) rfl (by kernel_rfl) (by kernel_rfl) (by kernel_rfl) (fun _ _ _ h => h) (by rfl) (fun W hSw => ?_) (by assumption) ?_
      · skip
        go_simp
      try simp only [layR]
      refine takeV 14 (v := (.int .i64 0)) rfl (by kernel_rfl) (by kernel_rfl) (by kernel_rfl) (fun _ _ _ h => h) (by rfl) (fun W hSw => ?_) (by assumption) ?_
      · obtain ⟨y1, y2, y3, y4⟩ := hSw
        go_simp
      try simp only [layR]
      refine wpAnyH_ready (rs := [15]) (by kernel_rfl) (by simp) ?_
      refine AllReadyH.cons rfl (fun K' hK => ?_) AllReadyH.nil
      go_simp
      have hl5 := HM5.out.lv
      rw [lvL_perm HP.out] at hl5
      refine (bOpen_calls HM5.out.op.hc (by decide) (by decide) HGd.out.wear _ 16 (frs bl 16) (HM5.out.op.hR.arr (by rw [frs_len]; decide)) _ 16 (lvL se) (hl5.arr (by rw [lvL_len]; decide)) (fun k hk => by rw [lvL_getD se hk]; exact HLv.out k hk) 2 0).mono ?_
      rintro e w6 ⟨M, ML, cap, rfl, hM, hML, hmg, hb6⟩
      obtain ⟨c1, z1, hft⟩ := op_ft (M := M) HM5.out.op hb6 hmg hM hML rfl rfl rfl rfl HSB.out HB0.out
      have HFt := Lib.hid hft
      have HM6 := Lib.hid (HM5.out.on hb6)
      have hS6 : w6.cell? ⟨o.F, 0, none⟩ = some (.pointer (some ⟨C, 0, none⟩)) ∧ w6.cell? ⟨o.F, 2, none⟩ = some (.int .i64 2) ∧ w6.cell? ⟨o.F, 3, none⟩ = some (.int .i64 0) ∧ w6.cell? ⟨Q, 0, none⟩ = some (.slice (some ⟨LV, 0, none⟩) 16 16) :=
        ⟨HM6.out.op.cel (i := 0) rfl, HM6.out.op.cel (i := 2) rfl, HM6.out.op.cel (i := 3) rfl, HM6.out.q4.cellv (i := 0) rfl⟩
      clear hft hl5 hM hML hmg hb6
      refine hK.out _ _ hS6 (fun hS7 => ?_)
      try simp only [layR]
      refine takeV 16 (v := (.tuple #[.pointer (some ⟨M, 0, none⟩), .int .i64 0])) rfl (by kernel_rfl) (by kernel_rfl) (by kernel_rfl) (fun _ _ _ h => h) (by rfl) (fun W hSw => ?_) (by assumption) ?_
      · skip
        go_simp
      try simp only [layR]
      refine takeV 17 (v := (.pointer (some ⟨M, 0, none⟩))) rfl (by kernel_rfl) (by kernel_rfl) (by kernel_rfl) (fun _ _ _ h => h) (by rfl) (fun W hSw => ?_) (by assumption) ?_
      · skip
        go_simp
      try simp only [layR]
      refine takeV 18 (v := (.int .i64 0)) rfl (by kernel_rfl) (by kernel_rfl) (by kernel_rfl) (fun _ _ _ h => h) (by rfl) (fun W hSw => ?_) (by assumption) ?_
      · skip
        go_simp
      try simp only [layR]
      refine takeV 19 (v := (.pointer (some ⟨o.F, 0, none⟩))) rfl (by kernel_rfl) (by kernel_rfl) (by kernel_rfl) (fun _ _ _ h => h) (by rfl) (fun W hSw => ?_) (by assumption) ?_
      · skip
        go_simp
      try simp only [layR]
      refine takeV 20 (v := (.pointer (some ⟨o.F, 1, none⟩))) rfl (by kernel_rfl) (by kernel_rfl) (by kernel_rfl) (fun _ _ _ h => h) (by rfl) (fun W hSw => ?_) (by assumption) ?_
      · skip
        go_simp
      try simp only [layR]
      have hqF : Q ≠ o.F := fun e => by
        have h1 := HM6.out.q4
        have h2 := HM6.out.op.hF
        unfold Blk at h1 h2
        rw [e, h2] at h1
        injection h1 with h1
        injection h1 with _ h1
        exact absurd h1 (by decide)
      have hLF : LV ≠ o.F := fun e => HM6.out.nl.1 (by rw [e]; simp)
      refine wpAnyH_ready (rs := [21]) (by kernel_rfl) (by simp) ?_
      refine AllReadyH.cons rfl (fun K' hK => ?_) AllReadyH.nil
      go_simp
      have hF7 := HM6.out.op.hF.set 1 (.pointer (some ⟨M, 0, none⟩))
      have hQ7 := HM6.out.q4.far (p := ⟨o.F, 1, none⟩) (by simpa using hqF) (.pointer (some ⟨M, 0, none⟩))
      have hl7 := HM6.out.lv
      rw [lvL_perm HP.out] at hl7
      have hl8 := hl7.far (p := ⟨o.F, 1, none⟩) (by simpa [Value.ownBlock] using hLF) (.pointer (some ⟨M, 0, none⟩))
      have hS8 : (w6.setCell ⟨o.F, 1, none⟩ (.pointer (some ⟨M, 0, none⟩))).cell? ⟨o.F, 0, none⟩ = some (.pointer (some ⟨C, 0, none⟩)) ∧ (w6.setCell ⟨o.F, 1, none⟩ (.pointer (some ⟨M, 0, none⟩))).cell? ⟨o.F, 2, none⟩ = some (.int .i64 2) ∧ (w6.setCell ⟨o.F, 1, none⟩ (.pointer (some ⟨M, 0, none⟩))).cell? ⟨o.F, 3, none⟩ = some (.int .i64 0) ∧ (w6.setCell ⟨o.F, 1, none⟩ (.pointer (some ⟨M, 0, none⟩))).cell? ⟨Q, 0, none⟩ = some (.slice (some ⟨LV, 0, none⟩) 16 16) :=
        ⟨hF7.cellv (i := 0) rfl, hF7.cellv (i := 2) rfl, hF7.cellv (i := 3) rfl, hQ7.cellv (i := 0) rfl⟩
      have HL7 := Lib.hid hl8
      have HQ7 := Lib.hid hQ7
      clear hF7 hQ7 hl7 hl8 c1 z1 hqF hLF
      refine hK.out _ _ hS8 (fun hS9 => ?_)
      try simp only [layR]
      generalize w6.setCell ⟨o.F, 1, none⟩ (.pointer (some ⟨M, 0, none⟩)) = w7 at *
      refine wpAnyH_done (by kernel_rfl) ?_ _
      refine NoPanic.normal ?_
      clear hS0 hS6 hS7 hS8 hS9 HM HM5 HM6 HRd HP HN
      generalize hgg : (⟨M, ML, C, BL, cap, ps, bl, openL bl (frs bl 16) (lvL se) 16, -1, ((2 : Nat) : Int), ((0 : Nat) : Int), decide (4 < (Gc.greatest (openL bl (frs bl 16) (lvL se) 16) : Int) - Gc.least (openL bl (frs bl 16) (lvL se) 16)), fun _ => True⟩ : Mg) = g at *
      have HGg := Lib.hid hgg.symm
      have hgM : g.M = M := by rw [← hgg]
      clear hgg
      go_upto_region 7 with fail
      have hb8 := (Below.refl w7.heap.size w7).alloc (Nat.le_refl _) (.cells #[.int .i64 0] 3)
      have c1 := (HFt.out.1.on hb8).c1
      change (w7.alloc (.cells #[.int .i64 0] 3)).cell? ⟨o.F, 1, none⟩ = some (.pointer (some ⟨g.M, 0, none⟩)) at c1
      rw [hgM] at c1
      go_wp2_with fail
      refine (allFn M _).mono ?_
      rintro e w' ⟨rfl, rfl⟩
      clear c1
      have hb9 := hb8.alloc hb8.size (.cells #[.pointer (some ⟨M, 0, none⟩)] 54)
      have HB9 := Lib.hid hb9
      have HF9 := Lib.hid (HFt.out.1.on hb9)
      have HL9 := Lib.hid (HL7.out.on hb9)
      have HQ9 := Lib.hid (HQ7.out.belowHere hb9)
      have b2 := (Blk.new w7 3 #[.int .i64 0]).alloc (.cells #[.pointer (some ⟨M, 0, none⟩)] 54)
      have b3 := Blk.new (w7.alloc (.cells #[.int .i64 0] 3)) 54 #[.pointer (some ⟨M, 0, none⟩)]
      have hsz : ((w7.alloc (.cells #[.int .i64 0] 3)).alloc (.cells #[.pointer (some ⟨M, 0, none⟩)] 54)).heap.size = w7.heap.size + 2 := by simp
      simp only [World.size_alloc] at b3
      have hfn := mfunc_nil 85
      go_wp2_with fail
      refine wp_nm fun T hT => ?_
      generalize ((w7.alloc (.cells #[.int .i64 0] 3)).alloc (.cells #[.pointer (some ⟨M, 0, none⟩)] 54)) = W0 at *
      clear hb8 hb9
      obtain ⟨Sg, hmg9, hsm9⟩ := HF9.out.mg
      have hmg9 : MgM 16 B Sg W0 g := hmg9
      have hsm9 : ∀ q, Sm g Sg q → Up S w w7 q := hsm9
      have hM9 := hmg9.hM
      rw [hgM] at hM9
      have hlM : M < w7.heap.size := (HFt.out.1.bnd M (hsm9 M (.inl hgM.symm))).2
      have hlL : g.ML < w7.heap.size := (HFt.out.1.bnd g.ML (hsm9 g.ML (.inr (.inl rfl)))).2
      have hit := all_iter g 16 (w7.heap.size + 1) w7.heap.size W0 hmg9.hM (by
        have h1 := hmg9.arr
        obtain ⟨q1, q2, q3⟩ := h1
        refine ⟨q1, q2, fun hn => ?_⟩
        obtain ⟨b, o, e, _, q4⟩ := q3 hn
        injection e with e
        injection e with e1 e2
        subst e1 e2
        exact ⟨_, _, rfl, hlL, q4⟩) (by rw [hgM]; exact b3) (by omega) (by omega)
      have HSt := Lib.hid (show ∀ x ∈ allTo g.l 16, x.1 < 16 ∧ x.2.st ≤ 3 from fun x hx => by
        obtain ⟨i, hi, rfl⟩ := List.mem_map.1 hx
        have hi := List.mem_range.1 hi
        refine ⟨hi, ?_⟩
        show (Gc.at_ g.l i).st ≤ 3
        rw [HGg.out]
        show (Gc.at_ (openL bl (frs bl 16) (lvL se) 16) i).st ≤ 3
        rw [openL_at _ _ _ hi, openB, HGd.out.bad i hi]
        rw [if_neg (by decide)]
        split
        · exact Nat.zero_le 3
        · split
          · exact (show 2 ≤ 3 by decide)
          · exact (show 3 ≤ 3 by decide))
      clear hmg9 hsm9 hM9
      refine wpIn_wide.1 (range_lawG (gf := 85) (lb := #[.pointer (some ⟨w7.heap.size + 1, 0, none⟩)]) (encs := allEnc) (xs := allTo g.l 16) (cw := []) (own := [w7.heap.size + 1]) (n0 := w7.heap.size) (w0 := W0) (by rw [hT]; rfl) (enters_of Tryz.func85 (by kernel_rfl) rfl) hit (Below.refl _ _) (by omega) (by simp; omega) (by simp) (fun _ => rfl)
        (MnI M w7.heap.size w7 se) (fun _ _ _ => False) (fun pre => mnI_keeps _ _ _ _ _ _ (by omega)) (fun _ _ => KeepsG2.pure _)
        ⟨b2, b3, HB9.out, by omega⟩
        (fun pre x a1 W => ∃ gq, a1 = mnAct T gq x ∧ w7.heap.size + 2 ≤ gq ∧ Blk W gq 99 (bkA x.2) ∧ MnI M w7.heap.size w7 se pre W) ?keeps ?assign ?body ?done ?stop)
      case keeps =>
        intro pre x a1
        exact KeepsG2.ex fun gq => (KeepsG2.pure _).and ((KeepsG2.pure _).and ((Blk.keepsG (by simp)).and (mnI_keeps _ _ _ _ _ _ (by omega))))
      case assign =>
        intro lp pre x W K hi hpre hK
        obtain ⟨i1, i2, i3, i4⟩ := hi
        have hba := (Below.refl W.heap.size W).alloc (Nat.le_refl _) (.cells (bkA x.2) 99)
        have hk := hK (mnAct T W.heap.size x) _ (KeepsOthers.alloc W (.cells (bkA x.2) 99)) (hba.mono (by omega)) (fun q hq => by
          simp only [List.mem_cons, List.not_mem_nil, or_false] at hq
          subst hq
          exact hba.block _ (by omega)) hba.size ⟨W.heap.size, rfl, i4, Blk.new W _ _, i1.alloc _, i2.alloc _, i3.alloc (by omega) _, by rw [World.size_alloc]; omega⟩
        clear hK
        have HK := Lib.hid hk
        clear hk
        unfold allEnc
        subst hT
        gi_wp2
        exact HK.out
      case body =>
        rintro lp pre ⟨k, y⟩ a1 W ⟨gq, rfl, hgq, hk, bv, bv1, hbel, hsW⟩ hpre
        obtain ⟨hk16, hst⟩ := HSt.out (k, y) (hpre.subset (by simp))
        have hpl : pre.length ≤ 16 := by
          have := hpre.length_le
          simp only [allTo, List.length_append, List.length_singleton, List.length_map, List.length_range] at this
          omega
        have hid := idl_le se pre
        have k0 := hk.cellv (i := 0) (v := .int .i64 (y.st : Int)) rfl
        have q4 := (HQ7.out.belowHere hbel).cellv (i := 0) (v := .slice (some ⟨LV, 0, none⟩) 16 16) rfl
        have l4 := ((HL7.out.on hbel).cellg (k := k) (by rw [lvL_len]; exact hk16)).1
        rw [lvL_at] at l4
        change W.cell? ⟨LV, k, none⟩ = some (.int .i64 (inB se k : Int)) at l4
        have cH := bv.cellv (i := 0) (v := .int .i64 (idl se pre : Int)) rfl
        have fH := bv.frozen 0
        have g0 : (0 : Int) ≤ (k : Int) := by omega
        have g1 : (k : Int) < 16 := by omega
        have g4 : ((y.st : Int) != 4) = true := by
          rw [bne_iff_ne]
          simp only at hst
          omega
        have HS := Lib.hid (idl_snoc se pre (k, y))
        have HI := Lib.hid (show MnI M w7.heap.size w7 se pre W from ⟨bv, bv1, hbel, hsW⟩)
        obtain ⟨id0, hid0⟩ : ∃ i, i = idl se pre := ⟨_, rfl⟩
        rw [← hid0] at hid cH
        have HId0 := Lib.hid hid0
        have iw := IntWalk.i64_in ((id0 : Int) + 1) ⟨by omega, by omega⟩
        obtain ⟨c, hc⟩ : ∃ c, c = inB se k := ⟨_, rfl⟩
        rw [← hc] at l4
        have HCc := Lib.hid hc
        unfold mnAct
        subst hT
        simp only [List.setIfInBounds_toArray, List.set_cons_succ, List.set_cons_zero]
        clear hit hpre hbel bv1 hid hid0 hc hst hk bv
        by_cases h0 : c = 0
        · have h0i : ((c : Int) == 0) = true := by rw [h0]; rfl
          have H0 := Lib.hid h0
          clear h0
          gi_wp2
          have kb : Below w7.heap.size W (W.setCell ⟨w7.heap.size, 0, none⟩ (.int .i64 ((id0 : Int) + 1))) := (Below.refl w7.heap.size W).setCell (p := ⟨w7.heap.size, 0, none⟩) (Nat.le_refl _) _
          obtain ⟨i1, i2, i3, i4⟩ := HI.out
          refine ⟨others_setCell _ _ _ _, kb, ?_, ?_, i2.far (p := ⟨w7.heap.size, 0, none⟩) (by simp) _, i3.trans kb, by simpa using i4⟩
          · intro z hz
            simp only [List.mem_cons, List.not_mem_nil, or_false] at hz
            subst hz
            exact heap_setCell_other _ _ _ _ (by simp)
          · have h9 := i1.set 0 (.int .i64 ((id0 : Int) + 1))
            rw [HS.out, if_pos (show inB se k = 0 by rw [← HCc.out]; exact H0.out), ← HId0.out]
            rw [show ((id0 + 1 : Nat) : Int) = (id0 : Int) + 1 by omega]
            exact h9
        · have h0i : ((c : Int) == 0) = false := by rw [beq_eq_false_iff_ne]; omega
          have H0 := Lib.hid h0
          clear h0
          gi_wp2
          obtain ⟨i1, i2, i3, i4⟩ := HI.out
          refine ⟨KeepsOthers.refl _, Below.refl _ _, fun _ _ => rfl, ?_, i2, i3, i4⟩
          rw [HS.out, if_neg (show ¬ inB se k = 0 by rw [← HCc.out]; exact H0.out), Nat.add_zero]
          exact i1
      case done =>
        rintro D W hD ⟨bv, _, hbel, hsW⟩ hK
        have hpos : 0 < idl se (allTo g.l 16) := by
          obtain ⟨k, hk, h0⟩ := HId.out
          exact idl_pos se (x := (k, Gc.at_ g.l k)) (List.mem_map.2 ⟨k, List.mem_range.2 hk, rfl⟩) h0
        have cH := bv.cellv (i := 0) (v := .int .i64 (idl se (allTo g.l 16) : Int)) rfl
        have HFW := Lib.hid (HFt.out.1.on hbel)
        have f11 := HFW.out.c11
        have z11 := HFW.out.frz 11
        change W.cell? ⟨o.F, 11, none⟩ = some (.bool false) at f11
        change W.frozen? ⟨o.F, 11, none⟩ = false at z11
        generalize idl se (allTo g.l 16) = nn at *
        have hz : ((nn : Int) == 0) = false := by rw [beq_eq_false_iff_ne]; omega
        have HBel := Lib.hid hbel
        subst hT
        clear hit hbel bv hpos
        go_wp2
        have hlF : o.F < w7.heap.size := HFt.out.1.ltF
        have hDF : D ≠ o.F := by omega
        have hK2 : (W.setCell ⟨o.F, 11, none⟩ (.bool false)).heap[D]? = some (.deferred (some [])) := by
          rw [← hK]
          exact heap_setCell_other _ _ _ _ (by simpa using hDF)
        refine ⟨by simp, .inl ⟨_, _, rfl, run_takeDeferred hK2, ?_⟩⟩
        refine ⟨.tuple #[], by simp [results, Tryz.results45, go_sem], rfl, M, ML, cap, ?_⟩
        have h1 := HFW.out.setF 11 (.bool false) (fmO o g se sq ep tv tx) (by unfold fmA fmO; simp) rfl rfl rfl rfl rfl rfl rfl rfl rfl rfl rfl
        have h2 := h1.kq (kq_put _ D (.deferred none)) (fun q hq e => by
          have := (HFt.out.1.bnd q hq).2
          have e : q = D := e
          omega)
        have hsz2 : w7.heap.size ≤ W.heap.size := HBel.out.size
        have h3 := HFt.out.2.size
        have hgg := HGg.out
        have hcast : (⟨M, ML, C, BL, cap, ps, bl, openL bl (frs bl 16) (lvL se) 16, -1, 2, 0, decide (4 < (Gc.greatest (openL bl (frs bl 16) (lvL se) 16) : Int) - Gc.least (openL bl (frs bl 16) (lvL se) 16)), fun _ => True⟩ : Mg) = g := hgg.symm
        rw [hcast]
        refine ⟨h2.more (fun q hq => ?_) (fun q hq => ?_), ?_⟩
        · rcases hq with e | e
          · exact .inl e
          · exact .inr ⟨e.1, by rw [World.putObj_size, World.size_setCell]; omega⟩
        · rw [World.putObj_size, World.size_setCell]
          rcases hq with e | e
          · have := HSB.out q e
            omega
          · rw [World.putObj_size, World.size_setCell] at e
            have := HB0.out
            omega
        · refine (((HFt.out.2.on HBel.out).setCell (p := ⟨o.F, 11, none⟩) (.inr ?_) _).then_ (kq_put _ D (.deferred none)) (fun q e => ?_))
          · rcases HFt.out.1.inF with e | e
            · have h4 := (HSB.out _ e).2
              have h5 := HFw.out
              exact h5
            · exact e.1
          · have e : q = D := e
            exact .inr (by omega)
      case stop =>
        rintro D k pre W hD _ h hK
        exact h.elim
    · intro e w6 he hr6 hg6 hs6 hl6 hen
      rw [plV_eq] at hen ⊢
      have hk6 : Kq (fun q => q = r) wr w6 := (Kq.grown hg6.out).mono fun q e => (Option.some.inj e).symm
      have HM6 := Lib.hid (HM.out.new hk6 HN.out)
      have hal := (Below.refl w6.heap.size w6).alloc (Nat.le_refl _) (.cells #[.int .i64 (e.b : Int), .int .i64 (e.i : Int)] 52)
      have HM7 := Lib.hid (HM6.out.on hal)
      have HR7 := Lib.hid (hr6.out.on hal)
      have HE7 := Lib.hid (show (w6.alloc (.cells #[.int .i64 (e.b : Int), .int .i64 (e.i : Int)] 52)).rangeLeft o.SE r < wr.rangeLeft o.SE r by rw [hr6.out.1.left_on hal]; exact hl6.out)
      have HZ := Lib.hid (Blk.new w6 52 #[.int .i64 (e.b : Int), .int .i64 (e.i : Int)])
      rw [hs6] at HZ
      have HBe := Lib.hid (HB.out e he.out.1)
      have HIn := Lib.hid (show inB d e.b ≤ 100000 by
        obtain ⟨rest, hr⟩ := HRd.out.rest
        have h1 := inB_perm hr e.b
        have h2 := (HLv.out e.b HBe.out).1
        have h3 : inB (d ++ rest) e.b = inB d e.b + inB rest e.b := by unfold inB; rw [List.filter_append, List.length_append]
        omega)
      clear hk6 hal hr6 hg6 hl6
      go_upto_region 4 with fail
      generalize w6.alloc (.cells #[.int .i64 (e.b : Int), .int .i64 (e.i : Int)] 52) = w7 at *
      clear hen
      have c0 := HZ.out.cellv (i := 0) (v := .int .i64 (e.b : Int)) rfl
      have c4 := HM7.out.q4.cellv (i := 0) rfl
      obtain ⟨l0, z0, hm8⟩ := HM7.out.cnt HBe.out
      have HM8 := Lib.hid hm8
      have b0 : (0 : Int) ≤ (e.b : Int) := by omega
      have b1 : (e.b : Int) < 16 := by have := HBe.out; omega
      have iw := IntWalk.i64_in ((inB d e.b : Int) + 1) ⟨by omega, by have := HIn.out; omega⟩
      rw [show ((inB d e.b + 1 : Nat) : Int) = (inB d e.b : Int) + 1 by omega] at HM8
      have hq8 : Kq (fun q => q = LV) w7 (w7.setCell ⟨LV, e.b, none⟩ (.int .i64 ((inB d e.b : Int) + 1))) := Kq.one ⟨_, _, none⟩ _
      have hLE : LV ≠ o.SE := fun e2 => HM7.out.nl.1 (by rw [e2]; simp)
      have hLR : LV ≠ r := fun e2 => by
        obtain ⟨W0, h0, h1⟩ := HN.out
        have := (h0.lv.blockLt LV rfl).2
        omega
      have q1 := hq8.block o.SE HR7.out.ltb (Ne.symm hLE)
      have q2 := hq8.block r HR7.out.ltr (Ne.symm hLR)
      have HR8 := Lib.hid (HR7.out.same q1 q2)
      have HE8 := Lib.hid (show (w7.setCell ⟨LV, e.b, none⟩ (.int .i64 ((inB d e.b : Int) + 1))).rangeLeft o.SE r < wr.rangeLeft o.SE r by rw [left_same q1 q2]; exact HE7.out)
      clear hm8 hq8 hLE hLR q1 q2
      go_wp2_with fail
      go_roundw
      case rel => exact ⟨d ++ [e], HR8.out, HM8.out⟩
      case measure => exact HE8.out
end
end Go.Proofs.YtiipnpfaaghekaaGreat
namespace Go.Proofs.YtiipnpfaaghekaaGreat
open Go.RowKit Ftl Opn Go.ChangeMaps Go.Maps

namespace Opn
def maxS (g : En → Nat) (m : Nat) (e : En) : Nat := max m (g e)
def maxF (g : En → Nat) (l : List En) : Nat := l.foldl (maxS g) 0
theorem maxF_spec (g : En → Nat) (l : List En) : ∀ m, m ≤ l.foldl (maxS g) m ∧ (∀ e ∈ l, g e ≤ l.foldl (maxS g) m) ∧ (l.foldl (maxS g) m = m ∨ ∃ e ∈ l, l.foldl (maxS g) m = g e) := by
  induction l with
  | nil => exact fun m => ⟨Nat.le_refl m, fun e h => (by cases h), .inl rfl⟩
  | cons a t ih =>
    intro m
    rw [List.foldl_cons]
    obtain ⟨h1, h2, h3⟩ := ih (maxS g m a)
    have h4 : m ≤ maxS g m a := Nat.le_max_left _ _
    have h5 : g a ≤ maxS g m a := Nat.le_max_right _ _
    refine ⟨Nat.le_trans h4 h1, fun e he => ?_, ?_⟩
    · rcases List.mem_cons.1 he with rfl | he
      · exact Nat.le_trans h5 h1
      · exact h2 e he
    · rcases h3 with h3 | ⟨e, he, h3⟩
      · rcases Nat.le_total m (g a) with e | e
        · exact .inr ⟨a, by simp, h3.trans (Nat.max_eq_right e)⟩
        · exact .inl (h3.trans (Nat.max_eq_left e))
      · exact .inr ⟨e, List.mem_cons_of_mem _ he, h3⟩
theorem maxF_eq {g : En → Nat} {l : List En} {m : Nat} (h : ∀ e ∈ l, g e ≤ m) (hm : ∃ e ∈ l, g e = m) : maxF g l = m := by
  obtain ⟨h1, h2, h3⟩ := maxF_spec g l 0
  obtain ⟨e, he, h4⟩ := hm
  have h5 := h2 e he
  unfold maxF
  rcases h3 with h3 | ⟨x, hx, h3⟩
  · omega
  · have := h x hx
    omega
theorem maxF_le {g : En → Nat} {l : List En} {m : Nat} (h : ∀ e ∈ l, g e ≤ m) : maxF g l ≤ m := by
  obtain ⟨_, _, h3⟩ := maxF_spec g l 0
  unfold maxF
  rcases h3 with h3 | ⟨x, hx, h3⟩
  · omega
  · have := h x hx
    omega
end Opn
section
variable {B C BL : Nat} {S : Nat → Prop} {w : World} {ps : Nat → Nat} {bl : Nat → Pb} {V : Nat → Option (Tg × List UInt8)} {last sq : Nat} {tl : List UInt8}
/-- What Open leaves. -/
def Opnd (B : Nat) (S : Nat → Prop) (w : World) (C BL : Nat) (ps : Nat → Nat) (bl : Nat → Pb) (last sq : Nat) (tl : List UInt8) (e : Ending) (W' : World) : Prop :=
  ∃ o tv M ML cap, e = .returned (.tuple #[.pointer (some ⟨o.F, 0, none⟩), .int .i64 0]) ∧ FtR 16 B S w W' (fmO o ⟨M, ML, C, BL, cap, ps, bl, openL bl (frs bl 16) (lvL (sealed (allL bl 16))) 16, -1, 2, 0, decide (4 < (Gc.greatest (openL bl (frs bl 16) (lvL (sealed (allL bl 16))) 16) : Int) - Gc.least (openL bl (frs bl 16) (lvL (sealed (allL bl 16))) 16)), fun _ => True⟩ (sealed (allL bl 16)) (sq + 1) (last + 1) tv tl)
set_option maxRecDepth 100000 in
set_option maxHeartbeats 16000000 in
theorem fOpen_calls (h : ChM 16 B S w C BL ps bl) (hg : Gd 16 bl) (hH : Hold (allL bl 16) V last sq) (hl1 : 1 ≤ last) (hl2 : last ≤ 1000000) (hs2 : sq ≤ 1000000) (hV : ∀ p x, V p = some x → p < 102) (htl : ∀ x, V 0 = some x → x.2 = headL tl) (hlv : ∀ k, k < 16 → inB (sealed (allL bl 16)) k ≤ 8 ∧ ((frs bl 16).getD k false = true → inB (sealed (allL bl 16)) k = 0)) (hid : ∃ k, k < 16 ∧ inB (sealed (allL bl 16)) k = 0) :
    Calls Tryz.prog 15 #[.pointer (some ⟨C, 0, none⟩)] w (Opnd B S w C BL ps bl last sq tl) := by
  have HU := Lib.hid (chUp_calls h)
  have HSc := Lib.hid (scan_calls h hg)
  have HGd := Lib.hid hg
  have HH := Lib.hid hH
  have HHl := Lib.hid hH.last_
  have HSe := Lib.hid hH.sealed_
  have HLv := Lib.hid hlv
  have HId := Lib.hid hid
  have HV := Lib.hid hV
  have HTl := Lib.hid htl
  have HSB := Lib.hid (show ∀ q, S q → B ≤ q ∧ q < w.heap.size from fun q hq => ⟨h.lo q hq, h.hi q hq⟩)
  have HB0 := Lib.hid h.base
  have HLn := Lib.hid (show (allL bl 16).length ≤ 128 from allL_len bl 16)
  have HPs := Lib.hid (show ∀ e ∈ allL bl 16, e.t.p < 4294967296 ∧ e.b < 16 ∧ e.i < 8 ∧ Is bl e from fun e he => by
    obtain ⟨h1, h2, h3⟩ := mem_all.1 he
    obtain ⟨L, h4, h5, _⟩ := h3
    obtain ⟨_, _, _, _, _, h6, _⟩ := hg.ok e.b e.i L h1 h2 h4
    exact ⟨by rw [h5]; exact h6, h1, h2, mem_all.1 he |>.2.2⟩)
  clear h hg hH hlv hid hV htl
  go_enter Tryz.func15, Tryz.ntmps15
  go_wp2_with fail
  refine (HU.out).mono ?_
  rintro e w_ ⟨rfl, rfl⟩
  go_wp2_with fail
  refine HSc.out.mono ?_
  rintro e w1 ⟨v, gb, G, rfl, hsc⟩
  obtain ⟨a, c, rfl, hc⟩ := hsc.hv.form
  have HS1 := Lib.hid hsc
  have HX1 := Lib.hid (hsc.hv.arr (by have := HLn.out; omega))
  have HLe := Lib.hid (show (allL bl 16).length ≤ 100000 by have := HLn.out; omega)
  obtain ⟨n, hn⟩ : ∃ n, n = (allL bl 16).length := ⟨_, rfl⟩
  rw [← hn] at HX1 HLe ⊢
  have HNn := Lib.hid hn
  clear hsc hc hn
  go_wp2_with fail
  refine (lastEpoch_calls a n c _ w1 HX1.out HLe.out).mono ?_
  rintro e w2 ⟨rfl, hb2⟩
  rw [HHl.out]
  have HX2 := Lib.hid (HX1.out.on hb2)
  have HB2 := Lib.hid hb2
  have hlz : ((last : Int) == 0) = false := by rw [beq_eq_false_iff_ne]; omega
  clear hb2
  go_wp2_with fail
  refine (newest_calls a n c _ last w2 HX2.out HLe.out (fun e he => (HPs.out e he).1)).mono ?_
  rintro e w3 ⟨⟨v3, rfl, ho3⟩, hb3⟩
  obtain ⟨a3, c3, rfl, hc3⟩ := ho3.form
  have hn3 : (newL last (allL bl 16)).length ≤ 100000 := by
    have h1 := List.length_filter_le (newP last (mostF last (allL bl 16))) (allL bl 16)
    have h2 : (newL last (allL bl 16)).length ≤ (allL bl 16).length := h1
    have := HLn.out
    omega
  have HX3 := Lib.hid (HX2.out.on hb3)
  have HB3 := Lib.hid (HB2.out.then_ hb3)
  have HO3 := Lib.hid (ho3.arr (by omega))
  have HN3 := Lib.hid hn3
  obtain ⟨n3, hn3e⟩ : ∃ n, n = (newL last (allL bl 16)).length := ⟨_, rfl⟩
  rw [← hn3e] at HO3 HN3 ⊢
  clear hb3 ho3 hc3 hn3 hn3e hlz
  go_wp2_with fail
  refine (chosen_calls a3 n3 c3 _ w3 HO3.out HN3.out (fun e he => by
    have h1 := (new_is he).1
    have h2 := HPs.out e h1
    exact ⟨h2.1, by omega⟩)).mono ?_
  rintro e w4 ⟨⟨ob, rfl, hob, hme⟩, hb4⟩
  rw [show chsL (manyF (newL last (allL bl 16))) (newL last (allL bl 16)) = sealed (allL bl 16) by unfold sealed; rw [HHl.out]] at hme
  have HX4 := Lib.hid (HX3.out.on hb4)
  have HB4 := Lib.hid (HB3.out.then_ hb4)
  have HM4 := Lib.hid hme
  have HOb := Lib.hid (show w1.heap.size ≤ ob by have := HB3.out.size; omega)
  clear hb4 hme hob HO3 HX3
  generalize hse : sealed (allL bl 16) = se at *
  have HSeq := Lib.hid hse
  clear hse
  have hmm := @run_makeMap Tryz.prog
  go_wp2_with fail
  have hb5 := ((Below.refl w4.heap.size w4).alloc (Nat.le_refl _) (.map #[] 0)).alloc (by simp) (.map #[] 0)
  have HX5 := Lib.hid (HX4.out.on hb5)
  have HB5 := Lib.hid (HB4.out.then_ hb5)
  have HM5 := Lib.hid (HM4.out.on hb5)
  have HN5 := Lib.hid (show MapE ((w4.alloc (.map #[] 0)).alloc (.map #[] 0)) w4.heap.size [] from (MapE.made w4).alloc _)
  have HG5 := Lib.hid (show MapE ((w4.alloc (.map #[] 0)).alloc (.map #[] 0)) (w4.heap.size + 1) [] from by
    have h1 := MapE.made (w4.alloc (.map #[] 0))
    rw [World.size_alloc] at h1
    exact h1)
  have HOl := Lib.hid (show ob < w4.heap.size from HM4.out.lt)
  have HS5 := Lib.hid (show ((w4.alloc (.map #[] 0)).alloc (.map #[] 0)).heap.size = w4.heap.size + 2 by simp)
  clear hmm hb5
  generalize (w4.alloc (.map #[] 0)).alloc (.map #[] 0) = w5 at *
  refine (chGeo_calls (HS1.out.hc.on HB5.out)).mono ?_
  rintro e w6 ⟨rfl, hb6⟩
  have HX6 := Lib.hid (HX5.out.on hb6)
  have HB6 := Lib.hid (HB5.out.then_ hb6)
  have HM6 := Lib.hid (HM5.out.on hb6)
  have HN6 := Lib.hid (HN5.out.on hb6)
  have HG6 := Lib.hid (HG5.out.on hb6)
  have HS6 := Lib.hid (show w4.heap.size + 2 ≤ w6.heap.size by have := HS5.out; have := hb6.size; omega)
  clear hb6 HX5 HM5 HN5 HG5 HM4 HX4
  generalize w4.heap.size = NO at *
  have hf0 := geoF0 (.int .i64 16) (.int .i64 8) (.int .i64 64)
  have hmk := fmBools w6
  unfold geoV
  go_upto_region 10 with fail
  obtain ⟨o, ho⟩ : ∃ o : Oa, o = ⟨w6.heap.size + 1, ob, NO, NO + 1, w6.heap.size, gb⟩ := ⟨_, rfl⟩
  obtain ⟨w8, hw8⟩ : ∃ w8, w8 = (w6.alloc (.cells ((List.replicate 16 false).map bolV).toArray 4)).alloc (.cells (opA C ob NO (NO + 1) w6.heap.size (.pointer none) 0 (.slice none 0 0) 0 0) 59) := ⟨_, rfl⟩
  have hb8 : Below w6.heap.size w6 w8 := by
    rw [hw8]
    exact ((Below.refl _ w6).alloc (Nat.le_refl _) _).alloc (by simp) _
  have hop : Op B S w C BL ps bl o 0 (.slice none 0 0) [] 0 0 se w8 := by
    have hs1 := HS1.out.hk.size
    have hob := HOb.out
    have hol := HOl.out
    have hs6 := HS6.out
    have hB1 := HB6.out.size
    have hgb := HS1.out.ho.blockLt gb rfl
    have hb18 := HB6.out.then_ hb8
    have h2 := Blk.new (w6.alloc (.cells ((List.replicate 16 false).map bolV).toArray 4)) 59 (opA C ob NO (NO + 1) w6.heap.size (.pointer none) 0 (.slice none 0 0) 0 0)
    rw [World.size_alloc, ← hw8] at h2
    have h3 := Own.made (f := bolV) (e := 4) (w := w6) (base := w.heap.size) (xs := List.replicate 16 false) (by omega) (by simp [maxLen])
    have h4 := h3.alloc (.cells (opA C ob NO (NO + 1) w6.heap.size (.pointer none) 0 (.slice none 0 0) 0 0) 59)
    rw [← hw8] at h4
    subst ho
    refine ⟨HS1.out.hc.on hb18, h2, HM6.out.on hb8, HN6.out.on hb8, HG6.out.on hb8, h4, HS1.out.ho.on hb18, .of (B := 0) (Own.nil _ _), HS1.out.hk.on hb18, ?_, fun q hq => ?_, fun q hq => (by cases hq), HS1.out.lS, ⟨fun hm => ?_, hgb.1, fun hm => by cases hm⟩⟩
    · simp only [List.nodup_cons, List.mem_cons, List.not_mem_nil, or_false, not_or]
      refine ⟨⟨by omega, by omega, by omega, by omega⟩, ⟨by omega, by omega, by omega⟩, ⟨by omega, by omega⟩, by omega, ⟨fun e => e, List.nodup_nil⟩⟩
    · simp only [List.mem_cons, List.not_mem_nil, or_false] at hq
      omega
    · simp only [List.mem_cons, List.not_mem_nil, or_false] at hm
      omega
  have HOp := Lib.hid hop
  have HB8 := Lib.hid hb8
  have HFw := Lib.hid (show w6.heap.size ≤ o.F by rw [ho]; exact Nat.le_succ _)
  have hF : o.F = w6.heap.size + 1 := by rw [ho]
  have HRg := Lib.hid (show gb = o.R by rw [ho])
  rw [← hF]
  generalize hww : World.alloc _ _ = wa
  have hwa : wa = w8 := by rw [hw8, ← hww]; rfl
  rw [hwa]
  clear hww hwa hw8 hop hb8 hF ho hmk hf0 HM6 HN6 HG6 HOl HOb HS5 HS6 HB6 HB5
  clear wa
  rw [HRg.out]
  have HAs := Lib.hid (show ∀ e ∈ allL bl 16, e.t.e ≤ last ∧ e.t.s ≤ sq from fun e he => ⟨(HH.out.all e he).1, (HH.out.all e he).2.1⟩)
  have hcs := snCells
  go_wp2_with fail
  go_loopw [10, 48] (fun _ i wr => ∃ j : Nat, j ≤ n ∧ i = .int .i64 (j : Int) ∧ Op B S w C BL ps bl o 0 (.slice none 0 0) [] (maxF (·.t.s) ((allL bl 16).take j)) (maxF (·.t.e) ((allL bl 16).take j)) se wr ∧ Below w6.heap.size w6 wr) (fun _ i _ => n - (intOf i).toNat)
  case atStart => exact ⟨0, Nat.zero_le _, rfl, HOp.out, HB8.out⟩
  case round =>
    obtain ⟨j, hj, rfl, hop, hbl⟩ := hrel
    have HO := Lib.hid hop
    have HB := Lib.hid hbl
    clear hop hbl HOp HB8
    by_cases hlt : j < n
    · obtain ⟨x, hxj, b, q, rfl, hbl, c0, c1, c2, c3, c4, c5⟩ := sn_at (HX6.out.below HB.out) hlt
      obtain ⟨hjl, hxe⟩ := List.getElem?_eq_some_iff.1 hxj
      have hst := fold_take (maxS (·.t.s)) 0 (allL bl 16) hjl
      have hse := fold_take (maxS (·.t.e)) 0 (allL bl 16) hjl
      rw [hxe] at hst hse
      have hs1 : maxF (·.t.s) ((allL bl 16).take j) ≤ sq := maxF_le fun e he => (HAs.out e (List.mem_of_mem_take he)).2
      have he1 : maxF (·.t.e) ((allL bl 16).take j) ≤ last := maxF_le fun e he => (HAs.out e (List.mem_of_mem_take he)).1
      have hxl := HAs.out x (hxe ▸ List.getElem_mem hjl)
      have HSt := Lib.hid (show maxF (·.t.s) ((allL bl 16).take (j + 1)) = max (maxF (·.t.s) ((allL bl 16).take j)) x.t.s from hst)
      have HSe2 := Lib.hid (show maxF (·.t.e) ((allL bl 16).take (j + 1)) = max (maxF (·.t.e) ((allL bl 16).take j)) x.t.e from hse)
      have hj0 : (0 : Int) ≤ (j : Int) := by omega
      have hj1 : (j : Int) < (n : Int) := by omega
      have hnb := HLe.out
      clear hst hse hxj hjl hxe
      generalize maxF (·.t.s) ((allL bl 16).take j) = ms at *
      generalize maxF (·.t.e) ((allL bl 16).take j) = me at *
      obtain ⟨m1, hm1⟩ : ∃ m, m = max ms x.t.s := ⟨_, rfl⟩
      obtain ⟨m2, hm2⟩ : ∃ m, m = max me x.t.e := ⟨_, rfl⟩
      have hx1 : max (ms : Int) (x.t.s : Int) = (m1 : Int) := by omega
      have hx2 : max (me : Int) (x.t.e : Int) = (m2 : Int) := by omega
      rw [← hm1] at HSt
      rw [← hm2] at HSe2
      have hle : x.t.e ≤ last := hxl.1
      clear hm1 hm2 hxl
      have hba := (Below.refl wr.heap.size wr).alloc (Nat.le_refl _) (.cells #[.int .i64 x.t.k, .int .u32 (x.t.p : Int), .int .u64 (x.t.s : Int), .int .u64 (x.t.e : Int), .int .i64 (x.b : Int), .int .i64 (x.i : Int)] 83)
      have HO2 := Lib.hid (HO.out.on hba)
      have HB2 := Lib.hid (HB.out.then_ hba)
      have HZ := Lib.hid (Blk.new wr 83 #[.int .i64 x.t.k, .int .u32 (x.t.p : Int), .int .u64 (x.t.s : Int), .int .u64 (x.t.e : Int), .int .i64 (x.b : Int), .int .i64 (x.i : Int)])
      have HZn := Lib.hid (show wr.heap.size ≠ o.F from fun e => by have := HO.out.hF.lt; omega)
      clear hba
      go_upto_region 13 with fail
      generalize wr.alloc (.cells #[.int .i64 x.t.k, .int .u32 (x.t.p : Int), .int .u64 (x.t.s : Int), .int .u64 (x.t.e : Int), .int .i64 (x.b : Int), .int .i64 (x.i : Int)] 83) = w9 at *
      generalize wr.heap.size = Z at *
      clear c0 c1 c2 c3 c4 c5
      have H9 := Lib.hid (HO2.out.on (below_drew w9))
      have HB9 := Lib.hid (HB2.out.then_ (below_drew w9))
      have hz0 : w9.drew.cell? ⟨Z, 2, none⟩ = some (.int .u64 (x.t.s : Int)) ∧ w9.drew.cell? ⟨Z, 3, none⟩ = some (.int .u64 (x.t.e : Int)) := ⟨HZ.out.drew.cellv (i := 2) rfl, HZ.out.drew.cellv (i := 3) rfl⟩
      have HZd := Lib.hid (show Blk w9.drew Z 83 #[.int .i64 x.t.k, .int .u32 (x.t.p : Int), .int .u64 (x.t.s : Int), .int .u64 (x.t.e : Int), .int .i64 (x.b : Int), .int .i64 (x.i : Int)] from HZ.out.drew)
      have hq8 := H9.out.cel (i := 8) (v := .int .u64 (ms : Int)) rfl
      have hq9 := H9.out.cel (i := 9) (v := .int .u64 (me : Int)) rfl
      refine wp_region_noPanic ?_
      refine wp_region_held_drew (S := (fun W' => W'.cell? ⟨Z, 2, none⟩ = some (.int .u64 (x.t.s : Int)) ∧ W'.cell? ⟨Z, 3, none⟩ = some (.int .u64 (x.t.e : Int)))) (by kernel_rfl) hz0 (fun hS0 => ?_)
      generalize w9.drew = w10 at *
      refine takeV 0 (v := (.pointer (some ⟨o.F, 0, none⟩))) rfl (by kernel_rfl) (by kernel_rfl) (by kernel_rfl) (fun _ _ _ h => h) (by rfl) (fun _ _ => rfl) (by assumption) ?_
      try simp only [layR]
      refine takeV 1 (v := (.pointer (some ⟨o.F, 0, none⟩))) rfl (by kernel_rfl) (by kernel_rfl) (by kernel_rfl) (fun _ _ _ h => h) (by rfl) (fun _ _ => rfl) (by assumption) ?_
      try simp only [layR]
      refine takeV 2 (v := (.pointer (some ⟨o.F, 0, none⟩))) rfl (by kernel_rfl) (by kernel_rfl) (by kernel_rfl) (fun _ _ _ h => h) (by rfl) (fun _ _ => rfl) (by assumption) ?_
      try simp only [layR]
      refine takeV 3 (v := (.pointer (some ⟨o.F, 0, none⟩))) rfl (by kernel_rfl) (by kernel_rfl) (by kernel_rfl) (fun _ _ _ h => h) (by rfl) (fun W hSw => ?_) (by assumption) ?_
      · skip
        go_simp
      try simp only [layR]
      refine takeV 4 (v := (.pointer (some ⟨o.F, 8, none⟩))) rfl (by kernel_rfl) (by kernel_rfl) (by kernel_rfl) (fun _ _ _ h => h) (by rfl) (fun W hSw => ?_) (by assumption) ?_
      · skip
        go_simp
      try simp only [layR]
      refine takeV 6 (v := (.pointer (some ⟨Z, 0, none⟩))) rfl (by kernel_rfl) (by kernel_rfl) (by kernel_rfl) (fun _ _ _ h => h) (by rfl) (fun W hSw => ?_) (by assumption) ?_
      · skip
        go_simp
      try simp only [layR]
      refine takeV 7 (v := (.pointer (some ⟨Z, 2, none⟩))) rfl (by kernel_rfl) (by kernel_rfl) (by kernel_rfl) (fun _ _ _ h => h) (by rfl) (fun W hSw => ?_) (by assumption) ?_
      · skip
        go_simp
      try simp only [layR]
      refine takeV 8 (v := (.int .u64 (x.t.s : Int))) rfl (by kernel_rfl) (by kernel_rfl) (by kernel_rfl) (fun _ _ _ h => h) (by rfl) (fun W hSw => ?_) (by assumption) ?_
      · obtain ⟨y1, y2⟩ := hSw
        go_simp
      try simp only [layR]
      refine takeV 10 (v := (.pointer (some ⟨o.F, 0, none⟩))) rfl (by kernel_rfl) (by kernel_rfl) (by kernel_rfl) (fun _ _ _ h => h) (by rfl) (fun _ _ => rfl) (by assumption) ?_
      try simp only [layR]
      refine takeV 11 (v := (.pointer (some ⟨o.F, 0, none⟩))) rfl (by kernel_rfl) (by kernel_rfl) (by kernel_rfl) (fun _ _ _ h => h) (by rfl) (fun W hSw => ?_) (by assumption) ?_
      · skip
        go_simp
      try simp only [layR]
      refine takeV 12 (v := (.pointer (some ⟨o.F, 9, none⟩))) rfl (by kernel_rfl) (by kernel_rfl) (by kernel_rfl) (fun _ _ _ h => h) (by rfl) (fun W hSw => ?_) (by assumption) ?_
      · skip
        go_simp
      try simp only [layR]
      refine takeV 14 (v := (.pointer (some ⟨Z, 0, none⟩))) rfl (by kernel_rfl) (by kernel_rfl) (by kernel_rfl) (fun _ _ _ h => h) (by rfl) (fun W hSw => ?_) (by assumption) ?_
      · skip
        go_simp
      try simp only [layR]
      refine takeV 15 (v := (.pointer (some ⟨Z, 3, none⟩))) rfl (by kernel_rfl) (by kernel_rfl) (by kernel_rfl) (fun _ _ _ h => h) (by rfl) (fun W hSw => ?_) (by assumption) ?_
      · skip
        go_simp
      try simp only [layR]
      refine takeV 16 (v := (.int .u64 (x.t.e : Int))) rfl (by kernel_rfl) (by kernel_rfl) (by kernel_rfl) (fun _ _ _ h => h) (by rfl) (fun W hSw => ?_) (by assumption) ?_
      · obtain ⟨y1, y2⟩ := hSw
        go_simp
      try simp only [layR]
      refine wpAnyH_ready (rs := [5, 13]) (by kernel_rfl) (by simp) ?_
      refine AllReadyH.cons rfl (fun K' hK => ?_) (AllReadyH.cons rfl (fun K' hK => ?_) AllReadyH.nil)
      · go_simp
        refine hK.out _ _ hz0 (fun hS1 => ?_)
        try simp only [layR]
        clear hS1
        refine takeV 9 (v := (.int .u64 (m1 : Int))) rfl (by kernel_rfl) (by kernel_rfl) (by kernel_rfl) (fun _ _ _ h => h) (by rfl) (fun W hSw => ?_) (by assumption) ?_
        · skip
          go_simp
        try simp only [layR]
        refine wpAnyH_ready (rs := [13]) (by kernel_rfl) (by simp) ?_
        refine AllReadyH.cons rfl (fun K' hK => ?_) AllReadyH.nil
        go_simp
        refine hK.out _ _ hz0 (fun hS2 => ?_)
        try simp only [layR]
        clear hS2
        refine takeV 17 (v := (.int .u64 (m2 : Int))) rfl (by kernel_rfl) (by kernel_rfl) (by kernel_rfl) (fun _ _ _ h => h) (by rfl) (fun W hSw => ?_) (by assumption) ?_
        · skip
          go_simp
        try simp only [layR]
        refine takeV 18 (v := (.pointer (some ⟨o.F, 0, none⟩))) rfl (by kernel_rfl) (by kernel_rfl) (by kernel_rfl) (fun _ _ _ h => h) (by rfl) (fun W hSw => ?_) (by assumption) ?_
        · skip
          go_simp
        try simp only [layR]
        refine takeV 19 (v := (.pointer (some ⟨o.F, 8, none⟩))) rfl (by kernel_rfl) (by kernel_rfl) (by kernel_rfl) (fun _ _ _ h => h) (by rfl) (fun W hSw => ?_) (by assumption) ?_
        · skip
          go_simp
        try simp only [layR]
        have z8 := H9.out.hF.frozen 8
        refine wpAnyH_ready (rs := [20]) (by kernel_rfl) (by simp) ?_
        refine AllReadyH.cons rfl (fun K' hK => ?_) AllReadyH.nil
        go_simp
        have HA := Lib.hid (H9.out.set (res' := 0) (tv' := .slice none 0 0) (tx' := []) (sq' := m1) (ep' := me) 8 (.int .u64 (m1 : Int)) rfl (.inl ⟨rfl, rfl⟩))
        have HBA := Lib.hid (HB9.out.setCell (p := ⟨o.F, 8, none⟩) HFw.out (.int .u64 (m1 : Int)))
        have hzA : (w10.setCell ⟨o.F, 8, none⟩ (.int .u64 (m1 : Int))).cell? ⟨Z, 2, none⟩ = some (.int .u64 (x.t.s : Int)) ∧ (w10.setCell ⟨o.F, 8, none⟩ (.int .u64 (m1 : Int))).cell? ⟨Z, 3, none⟩ = some (.int .u64 (x.t.e : Int)) := ⟨(World.cell?_setCell_far _ _ _ _ (by simpa using Ne.symm HZn.out)).trans hz0.1, (World.cell?_setCell_far _ _ _ _ (by simpa using Ne.symm HZn.out)).trans hz0.2⟩
        clear z8
        refine hK.out _ _ hzA (fun hzA2 => ?_)
        try simp only [layR]
        generalize w10.setCell ⟨o.F, 8, none⟩ (.int .u64 (m1 : Int)) = w11 at *
        refine takeV 21 (v := (.pointer (some ⟨o.F, 0, none⟩))) rfl (by kernel_rfl) (by kernel_rfl) (by kernel_rfl) (fun _ _ _ h => h) (by rfl) (fun W hSw => ?_) (by assumption) ?_
        · skip
          go_simp
        try simp only [layR]
        refine takeV 22 (v := (.pointer (some ⟨o.F, 9, none⟩))) rfl (by kernel_rfl) (by kernel_rfl) (by kernel_rfl) (fun _ _ _ h => h) (by rfl) (fun W hSw => ?_) (by assumption) ?_
        · skip
          go_simp
        try simp only [layR]
        have q9 := HA.out.cel (i := 9) (v := .int .u64 (me : Int)) rfl
        have z9 := HA.out.hF.frozen 9
        refine wpAnyH_ready (rs := [23]) (by kernel_rfl) (by simp) ?_
        refine AllReadyH.cons rfl (fun K' hK => ?_) AllReadyH.nil
        go_simp
        have HC := Lib.hid (HA.out.set (res' := 0) (tv' := .slice none 0 0) (tx' := []) (sq' := m1) (ep' := m2) 9 (.int .u64 (m2 : Int)) rfl (.inl ⟨rfl, rfl⟩))
        have HBC := Lib.hid (HBA.out.setCell (p := ⟨o.F, 9, none⟩) HFw.out (.int .u64 (m2 : Int)))
        have hzC : (w11.setCell ⟨o.F, 9, none⟩ (.int .u64 (m2 : Int))).cell? ⟨Z, 2, none⟩ = some (.int .u64 (x.t.s : Int)) ∧ (w11.setCell ⟨o.F, 9, none⟩ (.int .u64 (m2 : Int))).cell? ⟨Z, 3, none⟩ = some (.int .u64 (x.t.e : Int)) := ⟨(World.cell?_setCell_far _ _ _ _ (by simpa using Ne.symm HZn.out)).trans hzA.1, (World.cell?_setCell_far _ _ _ _ (by simpa using Ne.symm HZn.out)).trans hzA.2⟩
        clear q9 z9
        refine hK.out _ _ hzC (fun hzC2 => ?_)
        try simp only [layR]
        generalize w11.setCell ⟨o.F, 9, none⟩ (.int .u64 (m2 : Int)) = w12 at *
        refine wpAnyH_done (by kernel_rfl) ?_ _
        refine NoPanic.normal ?_
        have c3 := hzC.2
        clear hS0 hz0 hzA hzA2 hzC hzC2 hq8 hq9
        go_wp2_with fail
        go_roundw
        case rel => exact ⟨j + 1, by omega, by go_num, by rw [HSt.out, HSe2.out]; exact HC.out, HBC.out⟩
        case measure => simp [intOf]; omega
      · go_simp
        refine hK.out _ _ hz0 (fun hS1 => ?_)
        try simp only [layR]
        clear hS1
        refine takeV 17 (v := (.int .u64 (m2 : Int))) rfl (by kernel_rfl) (by kernel_rfl) (by kernel_rfl) (fun _ _ _ h => h) (by rfl) (fun W hSw => ?_) (by assumption) ?_
        · skip
          go_simp
        try simp only [layR]
        refine wpAnyH_ready (rs := [5]) (by kernel_rfl) (by simp) ?_
        refine AllReadyH.cons rfl (fun K' hK => ?_) AllReadyH.nil
        go_simp
        refine hK.out _ _ hz0 (fun hS2 => ?_)
        try simp only [layR]
        clear hS2
        refine takeV 9 (v := (.int .u64 (m1 : Int))) rfl (by kernel_rfl) (by kernel_rfl) (by kernel_rfl) (fun _ _ _ h => h) (by rfl) (fun W hSw => ?_) (by assumption) ?_
        · skip
          go_simp
        try simp only [layR]
        refine takeV 18 (v := (.pointer (some ⟨o.F, 0, none⟩))) rfl (by kernel_rfl) (by kernel_rfl) (by kernel_rfl) (fun _ _ _ h => h) (by rfl) (fun W hSw => ?_) (by assumption) ?_
        · skip
          go_simp
        try simp only [layR]
        refine takeV 19 (v := (.pointer (some ⟨o.F, 8, none⟩))) rfl (by kernel_rfl) (by kernel_rfl) (by kernel_rfl) (fun _ _ _ h => h) (by rfl) (fun W hSw => ?_) (by assumption) ?_
        · skip
          go_simp
        try simp only [layR]
        have z8 := H9.out.hF.frozen 8
        refine wpAnyH_ready (rs := [20]) (by kernel_rfl) (by simp) ?_
        refine AllReadyH.cons rfl (fun K' hK => ?_) AllReadyH.nil
        go_simp
        have HA := Lib.hid (H9.out.set (res' := 0) (tv' := .slice none 0 0) (tx' := []) (sq' := m1) (ep' := me) 8 (.int .u64 (m1 : Int)) rfl (.inl ⟨rfl, rfl⟩))
        have HBA := Lib.hid (HB9.out.setCell (p := ⟨o.F, 8, none⟩) HFw.out (.int .u64 (m1 : Int)))
        have hzA : (w10.setCell ⟨o.F, 8, none⟩ (.int .u64 (m1 : Int))).cell? ⟨Z, 2, none⟩ = some (.int .u64 (x.t.s : Int)) ∧ (w10.setCell ⟨o.F, 8, none⟩ (.int .u64 (m1 : Int))).cell? ⟨Z, 3, none⟩ = some (.int .u64 (x.t.e : Int)) := ⟨(World.cell?_setCell_far _ _ _ _ (by simpa using Ne.symm HZn.out)).trans hz0.1, (World.cell?_setCell_far _ _ _ _ (by simpa using Ne.symm HZn.out)).trans hz0.2⟩
        clear z8
        refine hK.out _ _ hzA (fun hzA2 => ?_)
        try simp only [layR]
        generalize w10.setCell ⟨o.F, 8, none⟩ (.int .u64 (m1 : Int)) = w11 at *
        refine takeV 21 (v := (.pointer (some ⟨o.F, 0, none⟩))) rfl (by kernel_rfl) (by kernel_rfl) (by kernel_rfl) (fun _ _ _ h => h) (by rfl) (fun W hSw => ?_) (by assumption) ?_
        · skip
          go_simp
        try simp only [layR]
        refine takeV 22 (v := (.pointer (some ⟨o.F, 9, none⟩))) rfl (by kernel_rfl) (by kernel_rfl) (by kernel_rfl) (fun _ _ _ h => h) (by rfl) (fun W hSw => ?_) (by assumption) ?_
        · skip
          go_simp
        try simp only [layR]
        have q9 := HA.out.cel (i := 9) (v := .int .u64 (me : Int)) rfl
        have z9 := HA.out.hF.frozen 9
        refine wpAnyH_ready (rs := [23]) (by kernel_rfl) (by simp) ?_
        refine AllReadyH.cons rfl (fun K' hK => ?_) AllReadyH.nil
        go_simp
        have HC := Lib.hid (HA.out.set (res' := 0) (tv' := .slice none 0 0) (tx' := []) (sq' := m1) (ep' := m2) 9 (.int .u64 (m2 : Int)) rfl (.inl ⟨rfl, rfl⟩))
        have HBC := Lib.hid (HBA.out.setCell (p := ⟨o.F, 9, none⟩) HFw.out (.int .u64 (m2 : Int)))
        have hzC : (w11.setCell ⟨o.F, 9, none⟩ (.int .u64 (m2 : Int))).cell? ⟨Z, 2, none⟩ = some (.int .u64 (x.t.s : Int)) ∧ (w11.setCell ⟨o.F, 9, none⟩ (.int .u64 (m2 : Int))).cell? ⟨Z, 3, none⟩ = some (.int .u64 (x.t.e : Int)) := ⟨(World.cell?_setCell_far _ _ _ _ (by simpa using Ne.symm HZn.out)).trans hzA.1, (World.cell?_setCell_far _ _ _ _ (by simpa using Ne.symm HZn.out)).trans hzA.2⟩
        clear q9 z9
        refine hK.out _ _ hzC (fun hzC2 => ?_)
        try simp only [layR]
        generalize w11.setCell ⟨o.F, 9, none⟩ (.int .u64 (m2 : Int)) = w12 at *
        refine wpAnyH_done (by kernel_rfl) ?_ _
        refine NoPanic.normal ?_
        have c3 := hzC.2
        clear hS0 hz0 hzA hzA2 hzC hzC2 hq8 hq9
        go_wp2_with fail
        go_roundw
        case rel => exact ⟨j + 1, by omega, by go_num, by rw [HSt.out, HSe2.out]; exact HC.out, HBC.out⟩
        case measure => simp [intOf]; omega
    · obtain rfl : j = n := by omega
      have hl := HNn.out
      have hms : maxF (·.t.s) (allL bl 16) = sq := by
        obtain ⟨x, h1, h2, h3⟩ := HH.out.seal_
        obtain ⟨_, e, he, h4, _⟩ := HH.out.has 0 x h1
        exact maxF_eq (fun e he => (HAs.out e he).2) ⟨e, he, by rw [h4]; exact h3⟩
      have hme : maxF (·.t.e) (allL bl 16) = last := by
        obtain ⟨x, h1, h2, h3⟩ := HH.out.seal_
        obtain ⟨_, e, he, h4, _⟩ := HH.out.has 0 x h1
        exact maxF_eq (fun e he => (HAs.out e he).1) ⟨e, he, by rw [h4]; exact h2⟩
      rw [List.take_of_length_le (by rw [hl]; exact Nat.le_refl _), hms, hme] at HO
      clear hms hme hl HB HX6 HX2 HS1 HB2 HB3 HX1 hj hlt
      have f8 := HO.out.cel (i := 8) (v := .int .u64 (sq : Int)) rfl
      have z8 := HO.out.hF.frozen 8
      have i8 := IntWalk.u64_in ((sq : Int) + 1) ⟨by omega, by omega⟩
      have H1 := Lib.hid (HO.out.set (res' := 0) (tv' := .slice none 0 0) (tx' := []) (sq' := sq + 1) (ep' := last) 8 (.int .u64 ((sq : Int) + 1)) rfl (.inl ⟨rfl, rfl⟩))
      go_upto_region 18 with fail
      generalize wr.setCell ⟨o.F, 8, none⟩ (.int .u64 ((sq : Int) + 1)) = w9 at *
      clear f8 z8 i8 HO
      have f9 := H1.out.cel (i := 9) (v := .int .u64 (last : Int)) rfl
      have z9 := H1.out.hF.frozen 9
      have i9 := IntWalk.u64_in ((last : Int) + 1) ⟨by omega, by omega⟩
      have H2 := Lib.hid (H1.out.set (res' := 0) (tv' := .slice none 0 0) (tx' := []) (sq' := sq + 1) (ep' := last + 1) 9 (.int .u64 ((last : Int) + 1)) rfl (.inl ⟨rfl, rfl⟩))
      go_upto_region 19 with fail
      generalize w9.setCell ⟨o.F, 9, none⟩ (.int .u64 ((last : Int) + 1)) = w10 at *
      clear f9 z9 i9 H1
      obtain ⟨hu, hin, hvw⟩ := HSe.out
      have hvw0 := hvw 0
      obtain ⟨xx, hx1, hx2, hx3⟩ := HH.out.seal_
      rw [hx1] at hvw0
      obtain ⟨e0, he0, hsk⟩ : ∃ e0, getE se 0 = some e0 ∧ sk e0 = xx := by
        cases hz : getE se 0 with
        | none => rw [hz] at hvw0; cases hvw0
        | some e0 => rw [hz] at hvw0; exact ⟨e0, rfl, Option.some.inj hvw0⟩
      have he0m := hin e0 (getE_mem he0).1
      obtain ⟨_, hb0, hi0, his0⟩ := HPs.out e0 he0m
      have hd0 : e0.d = headL tl := by
        have := HTl.out xx hx1
        rw [← hsk] at this
        exact this
      have HHd := Lib.hid (headed_calls H2.out HGd.out e0 he0 hb0 hi0 his0 tl hd0)
      have HIn := Lib.hid hin
      have HVw := Lib.hid hvw
      clear hu hin hvw hvw0 hx1 hx2 hx3 he0 hsk he0m hb0 hi0 his0 hd0
      go_wp2_with fail
      refine HHd.out.mono ?_
      rintro e w11 ⟨rfl, tv, hop⟩
      have H3 := Lib.hid hop
      clear hop H2 HHd
      have f5 := H3.out.cel (i := 5) (v := .map (some o.SE)) rfl
      go_wp2_with (at_range; refine wpList_range_E _ rfl _ rfl o.SE se rfl H3.out.hS ?_; intro w12 hr12 hb12 hs12)
      go_frame
      have H4 := Lib.hid (H3.out.on hb12.out)
      have HR4 := hr12
      obtain ⟨r, hrr⟩ : ∃ r, r = w11.heap.size := ⟨_, rfl⟩
      have HRr := Lib.hid (show w11.heap.size ≤ r from Nat.le_of_eq hrr.symm)
      rw [← hrr] at HR4 ⊢
      clear f5 hr12 hb12 hs12 hrr
      go_wp2_with fail
      go_loopw [11, 110] (fun _ _ wr => Hid (∃ d, RngE wr o.SE r se d ∧ Op B S w C BL ps bl o 2 tv tl (sq + 1) (last + 1) se wr)) (fun _ _ wr => wr.rangeLeft o.SE r)
      case atStart => exact ⟨[], HR4.out, H4.out⟩
      case round =>
        obtain ⟨d, hrd, hop⟩ := hrel.out
        have HRd := Lib.hid hrd
        have HO := Lib.hid hop
        clear hrel hrd hop HR4 H4
        go_wp2_with (at_next; refine wpList_next_E _ rfl _ rfl o.SE r se d rfl HRd.out ?_ ?_)
        · intro hperm
          clear hperm
          have HMn := Lib.hid (manages_calls HO.out HGd.out (fun e he => (HPs.out e (HIn.out e he)).2.1) HLv.out HSB.out HB0.out HId.out)
          clear HRd HO
          go_wp2_with fail
          refine HMn.out.mono ?_
          rintro e w13 ⟨rfl, M, ML, cap, hft⟩
          have HF := Lib.hid hft
          clear hft
          go_wp2_with fail
          go_ret2
          exact ⟨o, tv, M, ML, cap, rfl, by rw [HSeq.out]; exact HF.out⟩
        · intro e w6 he hr6 hg6 hs6 hl6 hen
          rw [plV_eq] at hen ⊢
          have hk6 : Kq (fun q => q = r) wr w6 := (Kq.grown hg6.out).mono fun q e => (Option.some.inj e).symm
          have h6 : Op B S w C BL ps bl o 2 tv tl (sq + 1) (last + 1) se w6 := by
            have hr := HRr.out
            have hw := H3.out.hk.size
            refine HO.out.kq (HO.out.hc.kq hk6 fun q hq e => ?_) hk6 fun q e => .inr ⟨?_, fun hm => ?_, fun hm => ?_, fun hm => ?_⟩
            · have := HO.out.lS q hq
              have e : q = r := e
              omega
            · have e : q = r := e
              omega
            · have := H3.out.lt q hm
              have e : q = r := e
              omega
            · have := H3.out.hT.lt q hm
              have e : q = r := e
              omega
            · have := (H3.out.hR.blockLt o.R rfl).2
              have e : q = r := e
              omega
          have HO6 := Lib.hid h6
          have HR6 := hr6
          have HL6 := hl6
          have HCa := Lib.hid (oCapacity_calls h6)
          have hp : e.t.p < 102 := by
            have h1 := getE_of HR6.out.mapE.uq he.out.1
            have h2 := HVw.out e.t.p
            rw [h1] at h2
            exact HV.out e.t.p (sk e) h2.symm
          have ip := IntWalk.i64_in (e.t.p : Int) ⟨by omega, by omega⟩
          have hp2 : ¬ (102 : Int) ≤ (e.t.p : Int) := by omega
          have hp3 : decide ((102 : Int) ≤ (e.t.p : Int)) = false := decide_eq_false hp2
          clear hk6 h6 hr6 hl6 hg6 he
          go_wp2_with fail
          refine HCa.out.mono ?_
          rintro e' w7 ⟨rfl, hb7⟩
          have HO7 := Lib.hid (HO6.out.on hb7)
          have HR7 := Lib.hid (HR6.out.on hb7)
          have HL7 := Lib.hid (show w7.rangeLeft o.SE r < wr.rangeLeft o.SE r by rw [HR6.out.1.left_on hb7]; exact HL6.out)
          clear hb7 hen
          go_wp2_with fail
          go_roundw
          case rel => exact ⟨_, HR7.out, HO7.out⟩
          case measure => exact HL7.out
end
end Go.Proofs.YtiipnpfaaghekaaGreat
/-
  What was sealed is opened: plain mathematics.
-/
namespace Go.Proofs.YtiipnpfaaghekaaGreat
open Go.RowKit Ftl

/-- What stands at a page now. -/
def vw (f : Fm) (q : Nat) : Option (Tg × List UInt8) := (curE f q).map sk
namespace Ftl
variable {NB B p : Nat} {R : Nat → Prop} {w : World} {f f' : Fm} {pay tx : List UInt8}
theorem vw_eq (f : Fm) (q : Nat) : vw f q = match (getE f.no q).map sk with
    | some x => some x
    | none => if (getE f.go q).isSome then none else (getE f.se q).map sk := by
  unfold vw curE
  cases hz : getE f.no q with
  | some e => rfl
  | none =>
    show Option.map sk (if (getE f.go q).isSome = true then none else getE f.se q) = _
    simp only [Option.map_none]
    split <;> rfl
theorem vw_some {q : Nat} {x : Tg × List UInt8} (h : vw f q = some x) : ∃ e, curE f q = some e ∧ e.d = x.2 ∧ e.t = x.1 := by
  unfold vw at h
  cases hz : curE f q with
  | none => rw [hz] at h; cases h
  | some e => rw [hz] at h; obtain rfl : sk e = x := Option.some.inj h; exact ⟨e, rfl, rfl, rfl⟩
/-- Written: the page is what was written, the others are as they were. -/
theorem Wrd.vw (h : Wrd NB f f' p pay) (q : Nat) : vw f' q = if q = p then some (⟨1, p, f.seq, f.ep⟩, pay) else vw f q := by
  rw [vw_eq, vw_eq, h.no, h.go, getE_sk h.se]
  by_cases hq : q = p
  · simp only [if_pos hq]
  · simp only [if_neg hq]
theorem Wrd.len_ (h : Wrd NB f f' p pay) : (f'.se ++ f'.no).length = (f.se ++ f.no).length + if (getE f.no p).isSome then 0 else 1 := by
  have h1 := congrArg List.length h.se
  simp only [List.length_map] at h1
  rw [List.length_append, List.length_append, h1, h.len]
  omega
theorem Wrd.seal0 (h : Wrd NB f f' p pay) (h0 : (getE f.se 0).isSome = true) : (getE f'.se 0).isSome = true := by
  rw [getE_some h.se]; exact h0
/-- Sealed: the seal is new, the pages are as they were. -/
theorem _root_.Go.Proofs.YtiipnpfaaghekaaGreat.Sld.vw (h : Sld NB f f' tx) (q : Nat) : vw f' q = if q = 0 then some (sealT f, headL tx) else vw f q := by
  have e1 : (getE f'.no q).map sk = none := by rw [h.no]; rfl
  have e2 : (getE f'.go q).isSome = false := by rw [h.go]; rfl
  rw [vw_eq, vw_eq, e1, e2, h.se]
  rfl
theorem _root_.Go.Proofs.YtiipnpfaaghekaaGreat.Sld.seal0 (h : Sld NB f f' tx) : (getE f'.se 0).isSome = true := by
  have := h.se 0
  rw [if_pos rfl] at this
  cases hz : getE f'.se 0 with
  | none => rw [hz] at this; cases this
  | some e => rfl
/-- No more entries than pages. -/
theorem uq_range {l : List En} {m : Nat} (hu : Uq l) (h : ∀ q, (getE l q).isSome = true → q < m) : l.length ≤ m := by
  have := nodup_sub (l := l.map fun e : En => e.t.p) (l' := List.range m) hu fun p hp => List.mem_range.2 (h p (getE_isSome.2 hp))
  rw [List.length_map, List.length_range] at this
  exact this
theorem _root_.Go.Proofs.YtiipnpfaaghekaaGreat.Sld.len_ (h : Sld NB f f' tx) (hu : Uq f'.se) {m : Nat} (hm : 0 < m) (hv : ∀ q, (Go.Proofs.YtiipnpfaaghekaaGreat.vw f q).isSome = true → q < m) : (f'.se ++ f'.no).length ≤ m := by
  rw [h.no, List.append_nil]
  refine uq_range hu fun q hq => ?_
  by_cases h0 : q = 0
  · omega
  · have e := Sld.vw h q
    rw [if_neg h0] at e
    refine hv q ?_
    rw [← e, vw_eq, h.no, h.go]
    show ((getE f'.se q).map sk).isSome = true
    cases hz : getE f'.se q with
    | none => rw [hz] at hq; cases hq
    | some x => rfl
/-- The erase counts stand together. -/
theorem fGap_calls (h : FtM NB B R w f) (hc : Fc NB f) (hs : f.seq ≤ 1000000) :
    Calls Tryz.prog 9 #[.pointer (some ⟨f.g.C, 0, none⟩)] w fun e w' => (∃ d : Int, d ≤ 4 ∧ e = .returned (.int .i64 d)) ∧ Below w.heap.size w w' := by
  obtain ⟨S, a1, _⟩ := h
  have hn := hc.fi.nb
  have hb := fun k hk => hc.fi.w.bk k hk
  refine (gap_calls a1.hg.hc (by omega) (by omega) (fun k hk => (hb k hk).bad) (fun k hk => by have := (hb k hk).we; have := (hb k hk).wn; omega)).mono ?_
  rintro e w' ⟨rfl, h1⟩
  refine ⟨⟨_, Gap.small (by omega) fun i j hi hj => ?_, rfl⟩, h1⟩
  have h2 := hc.fi.w.gap i j hi hj
  have := (hb i hi).we
  have := (hb j hj).we
  omega
end Ftl
end Go.Proofs.YtiipnpfaaghekaaGreat
namespace Go.Proofs.YtiipnpfaaghekaaGreat
open Go.RowKit Ftl Opn

/-- A page of the chip's: a tag's page, older than what stands there now, or that itself. -/
def PgOk (V : Nat → Option (Tg × List UInt8)) (sq ep : Nat) (L : List UInt8) : Prop :=
  ∃ t d, L = Tg.page t d ∧ Tg.Right t ∧ d.length = 64 ∧ (t.k = 2 ↔ t.p = 0) ∧ t.s < sq ∧ t.e ≤ ep ∧ ∃ x, V t.p = some x ∧ t.s ≤ x.1.s ∧ (t.s = x.1.s → t = x.1 ∧ d = x.2)
namespace Opn
theorem pgOk_read {V : Nat → Option (Tg × List UInt8)} {sq ep : Nat} {L : List UInt8} (h : PgOk V sq ep L) : Tg.readE L = 0 ∧ L.length = 96 ∧ Tg.Right (Tg.readT L) ∧ (Tg.readP L).length = 64 ∧ L = Tg.page (Tg.readT L) (Tg.readP L) ∧ ((Tg.readT L).k = 2 ↔ (Tg.readT L).p = 0) ∧ (Tg.readT L).s < sq ∧ (Tg.readT L).e ≤ ep ∧ ∃ x, V (Tg.readT L).p = some x ∧ (Tg.readT L).s ≤ x.1.s ∧ ((Tg.readT L).s = x.1.s → Tg.readT L = x.1 ∧ Tg.readP L = x.2) := by
  obtain ⟨t, d, rfl, h1, h2, h3, h4, h5, h6⟩ := h
  obtain ⟨r1, r2, r3⟩ := Tg.read_page h1 (pay := d) (by rw [h2]; decide)
  rw [r1, r2]
  exact ⟨r3, by rw [Tg.page_len, h2], h1, h2, rfl, h3, h4, h5, h6⟩
/-- A state that was sealed just now. -/
structure Sd (f : Fm) (last : Nat) (tl : List UInt8) : Prop where
  fc : Fc 16 f
  no : f.no = []
  go : f.go = []
  gh : ∀ L, f.g.gh L → PgOk (vw f) f.seq last L
  ep : f.ep = last + 1
  s0 : ∃ t, vw f 0 = some (t, headL tl) ∧ t.e = last ∧ t.s + 1 = f.seq
  key : ∀ q, (vw f q).isSome = true → q < 102
  u : Uq f.se
section
variable {f : Fm} {last : Nat} {tl : List UInt8}
theorem Sd.pg (h : Sd f last tl) {k i : Nat} {L : List UInt8} (hk : k < 16) (hi : i < 8) (hL : (f.g.bl k).pgs i = some L) : PgOk (vw f) f.seq last L := h.gh L (h.fc.fi.al k i L hk hi hL)
theorem Sd.gd (h : Sd f last tl) (hs : f.seq ≤ 1000000) : Gd 16 f.g.bl := by
  have hsq := h.fc.sq
  have hep := h.ep
  refine ⟨fun k i L hk hi hL => ?_, fun k hk => (h.fc.fi.w.bk k hk).bad, fun k hk => ?_⟩
  · obtain ⟨h1, h2, h3, h4, _, h5, h6, h7, _⟩ := pgOk_read (h.pg hk hi hL)
    have := h3.2.1
    exact ⟨h1, h2, h5, by omega, by omega, by omega, h4⟩
  · have := (h.fc.fi.w.bk k hk).we
    have := (h.fc.fi.w.bk k hk).wn
    omega
theorem Sd.ent (h : Sd f last tl) {e : En} (he : e ∈ allL f.g.bl 16) : e.b < 16 ∧ e.i < 8 ∧ (f.g.bl e.b).pgs e.i = some (Tg.page e.t e.d) ∧ Tg.Right e.t ∧ e.d.length = 64 ∧ (e.t.k = 2 ↔ e.t.p = 0) ∧ e.t.s < f.seq ∧ e.t.e ≤ last ∧ ∃ x, vw f e.t.p = some x ∧ e.t.s ≤ x.1.s ∧ (e.t.s = x.1.s → e.t = x.1 ∧ e.d = x.2) := by
  obtain ⟨h1, h2, L, h3, h4, h5⟩ := mem_all.1 he
  obtain ⟨_, _, k3, k4, k5, k6, k7, k8, k9⟩ := pgOk_read (h.pg h1 h2 h3)
  rw [h4, h5]
  exact ⟨h1, h2, by rw [h3]; exact congrArg some k5, k3, k4, k6, k7, k8, k9⟩
theorem Sd.hold (h : Sd f last tl) : Hold (allL f.g.bl 16) (vw f) last (f.seq - 1) := by
  refine ⟨fun e he => ?_, fun p x hp => ?_, fun e he => (h.ent he).2.2.2.2.2.1, ?_⟩
  · obtain ⟨_, _, _, _, _, _, h7, h8, h9⟩ := h.ent he
    exact ⟨h8, by omega, h9⟩
  · obtain ⟨e, he, hd, ht⟩ := vw_some hp
    have hm : e ∈ f.se := by
      unfold curE at he
      rw [h.no, h.go] at he
      exact (getE_mem (show getE f.se p = some e from he)).1
    have hpk : e.t.p = p := by
      unfold curE at he
      rw [h.no, h.go] at he
      exact (getE_mem (show getE f.se p = some e from he)).2
    have hme : e ∈ f.se ++ f.no := List.mem_append_left _ hm
    have hgp := h.fc.fi.pg e hme
    have hok := h.fc.fi.ok e hme
    have hlt := h.fc.fi.lt hme
    obtain ⟨r1, r2, _⟩ := Tg.read_page hok.rt (pay := e.d) (by rw [hok.len]; decide)
    exact ⟨by rw [← ht]; exact hpk, e, mem_all.2 ⟨hlt, hgp.i8, _, hgp.pg, r1.symm, r2.symm⟩, ht, hd⟩
  · obtain ⟨t, h1, h2, h3⟩ := h.s0
    exact ⟨_, h1, h2, by show t.s = _; omega⟩
/-- What is chosen lies apart. -/
theorem Sd.few (h : Sd f last tl) {k : Nat} : inB (sealed (allL f.g.bl 16)) k ≤ 8 := by
  obtain ⟨hu, hin, _⟩ := h.hold.sealed_
  have hn : (sealed (allL f.g.bl 16)).Nodup := nodup_of_map hu
  have h1 : (((sealed (allL f.g.bl 16)).filter fun e => e.b == k).map fun e => e.i).Nodup := by
    have h2 : ((sealed (allL f.g.bl 16)).filter fun e : En => e.b == k).Nodup := hn.filter fun e : En => e.b == k
    have h3 : ∀ e ∈ (sealed (allL f.g.bl 16)).filter fun e : En => e.b == k, e ∈ allL f.g.bl 16 ∧ e.b = k := fun e he => by
      obtain ⟨h4, h5⟩ := List.mem_filter.1 he
      exact ⟨hin e h4, by simpa using h5⟩
    generalize (sealed (allL f.g.bl 16)).filter (fun e : En => e.b == k) = l at h2 h3
    clear hn hin hu
    induction l with
    | nil => exact List.nodup_nil
    | cons a t ih =>
      rw [List.nodup_cons] at h2
      rw [List.map_cons, List.nodup_cons]
      refine ⟨fun hm => ?_, ih h2.2 fun e he => h3 e (List.mem_cons_of_mem _ he)⟩
      obtain ⟨y, hy, e⟩ := List.mem_map.1 hm
      obtain ⟨h4, h5⟩ := h3 a (by simp)
      obtain ⟨h6, h7⟩ := h3 y (List.mem_cons_of_mem _ hy)
      have := is_one (mem_all.1 h4).2.2 (mem_all.1 h6).2.2 (by rw [h5, h7]) e.symm
      exact h2.1 (this ▸ hy)
  have h2 := nodup_sub (l' := List.range 8) h1 fun i hi => by
    obtain ⟨e, he, rfl⟩ := List.mem_map.1 hi
    exact List.mem_range.2 (mem_all.1 (hin e (List.mem_filter.1 he).1)).2.1
  rw [List.length_map, List.length_range] at h2
  exact h2
theorem frs_get {bl : Nat → Pb} {k : Nat} (hk : k < 16) : (frs bl 16).getD k false = frB bl k 8 := by
  rw [List.getD_eq_getElem?_getD, List.getElem?_eq_getElem (by rw [frs_len]; exact hk)]
  simp only [frs, List.getElem_map, List.getElem_range, Option.getD_some]
  rw [decide_eq_true hk, Bool.true_and]
theorem frB_iff {bl : Nat → Pb} {k : Nat} : frB bl k 8 = true ↔ ∀ i, i < 8 → (bl k).pgs i = none := by
  unfold frB
  rw [List.all_eq_true]
  constructor
  · intro h i hi
    have := h i (List.mem_range.2 hi)
    simpa using this
  · intro h i hi
    rw [h i (List.mem_range.1 hi)]
    rfl
theorem Sd.free (h : Sd f last tl) {k : Nat} (hf : frB f.g.bl k 8 = true) : inB (sealed (allL f.g.bl 16)) k = 0 := by
  obtain ⟨_, hin, _⟩ := h.hold.sealed_
  unfold inB
  rw [List.length_eq_zero_iff, List.filter_eq_nil_iff]
  intro e he
  obtain ⟨_, h2, L, h3, _⟩ := mem_all.1 (hin e he)
  intro hb
  have hb : e.b = k := by simpa using hb
  rw [hb, frB_iff.1 hf e.i h2] at h3
  cases h3
theorem Sd.fr0 (h : Sd f last tl) {k : Nat} (hk : k < 16) (hs : (Gc.at_ f.g.l k).st = 0) : frB f.g.bl k 8 = true := by
  have hn := ((h.fc.fi.w.bk k hk).fr hs).2
  exact frB_iff.2 fun i hi => (h.fc.fi.er k hk i hi).2 (by omega)
theorem Sd.idle (h : Sd f last tl) : ∃ k, k < 16 ∧ inB (sealed (allL f.g.bl 16)) k = 0 := by
  have h1 := h.fc.fr
  rw [Gc.count_sum, h.fc.fi.w.len] at h1
  refine Classical.byContradiction fun hno => ?_
  have h2 : ∀ k, k < 16 → (if (Gc.at_ f.g.l k).st = 0 then 1 else 0) ≤ 0 := fun k hk => by
    split
    · rename_i hs
      exact absurd ⟨k, hk, h.free (h.fr0 hk hs)⟩ hno
    · exact Nat.le_refl 0
  have := Wears.sumC_le h2
  omega
/-- The translation that was opened. -/
def reF (f : Fm) (o : Oa) (M ML cap : Nat) (tv : Value) (tl : List UInt8) (P : List UInt8 → Prop) : Fm :=
  fmO o ⟨M, ML, f.g.C, f.g.BL, cap, f.g.ps, f.g.bl, openL f.g.bl (frs f.g.bl 16) (lvL (sealed (allL f.g.bl 16))) 16, -1, 2, 0, decide (4 < (Gc.greatest (openL f.g.bl (frs f.g.bl 16) (lvL (sealed (allL f.g.bl 16))) 16) : Int) - Gc.least (openL f.g.bl (frs f.g.bl 16) (lvL (sealed (allL f.g.bl 16))) 16)), P⟩ (sealed (allL f.g.bl 16)) f.seq f.ep tv tl
theorem Sd.at_ (h : Sd f last tl) {k : Nat} (hk : k < 16) : Gc.at_ (openL f.g.bl (frs f.g.bl 16) (lvL (sealed (allL f.g.bl 16))) 16) k = if frB f.g.bl k 8 then ⟨0, 0, (f.g.bl k).wear, 0⟩ else if 0 < inB (sealed (allL f.g.bl 16)) k then ⟨2, inB (sealed (allL f.g.bl 16)) k, (f.g.bl k).wear, 0⟩ else ⟨3, 0, (f.g.bl k).wear, 0⟩ := by
  rw [openL_at _ _ _ hk, openB, (h.fc.fi.w.bk k hk).bad, frs_get hk, lvL_getD _ hk]
  rfl
theorem Sd.fcO (h : Sd f last tl) (o : Oa) (M ML cap : Nat) (tv : Value) {P : List UInt8 → Prop} (hP : ∀ L, f.g.gh L → P L) : Fc 16 (reF f o M ML cap tv tl P) := by
  obtain ⟨hu, hin, hvw⟩ := h.hold.sealed_
  have hlen : (openL f.g.bl (frs f.g.bl 16) (lvL (sealed (allL f.g.bl 16))) 16).length = 16 := by simp [openL]
  have hwe : ∀ k, k < 16 → (Gc.at_ (openL f.g.bl (frs f.g.bl 16) (lvL (sealed (allL f.g.bl 16))) 16) k).wear = (Gc.at_ f.g.l k).wear := fun k hk => by
    rw [openL_at _ _ _ hk, openB_wear]
    exact (h.fc.fi.w.bk k hk).we
  have hgap : ∀ i j, i < 16 → j < 16 → (Gc.at_ (openL f.g.bl (frs f.g.bl 16) (lvL (sealed (allL f.g.bl 16))) 16) i).wear ≤ (Gc.at_ (openL f.g.bl (frs f.g.bl 16) (lvL (sealed (allL f.g.bl 16))) 16) j).wear + 4 := fun i j hi hj => by
    rw [hwe i hi, hwe j hj]
    exact h.fc.fi.w.gap i j hi hj
  have hcnt : ∀ k, ((sealed (allL f.g.bl 16) ++ []).map (fun e : En => e.b) ++ []).count k = inB (sealed (allL f.g.bl 16)) k := fun k => by
    rw [List.append_nil, List.append_nil]
    unfold inB
    induction sealed (allL f.g.bl 16) with
    | nil => rfl
    | cons a t ih =>
      rw [List.map_cons, List.count_cons, ih, List.filter_cons]
      by_cases e : a.b = k <;> simp [e]
  have hslen : (sealed (allL f.g.bl 16)).length ≤ f.se.length := uq_len hu fun q hq => by
    have h1 := hvw q
    cases hz : getE (sealed (allL f.g.bl 16)) q with
    | none => rw [hz] at hq; cases hq
    | some e =>
      rw [hz] at h1
      have h2 := vw_eq f q
      rw [← h1, h.no, h.go] at h2
      have h2 : Option.map sk (some e) = (getE f.se q).map sk := h2
      cases hy : getE f.se q with
      | none => rw [hy] at h2; cases h2
      | some y => rfl
  have hcap := h.fc.cap
  rw [h.no, List.append_nil] at hcap
  have hsq := h.fc.sq
  refine ⟨⟨⟨by decide, by decide⟩, ⟨hlen, fun k hk => ?_, hgap, .inl rfl, ?_, fun x hx => ?_, ?_⟩, fun e he => ?_, fun e he => ?_, rfl, rfl, fun k i L hk hi hL => hP L (h.fc.fi.al k i L hk hi hL), h.fc.fi.er⟩, ?_, ?_, rfl, hsq, fun x hx => (by cases hx), rfl, rfl⟩
  · have hb := h.fc.fi.w.bk k hk
    show Wears.BkI (-1) k (Gc.at_ (openL f.g.bl (frs f.g.bl 16) (lvL (sealed (allL f.g.bl 16))) 16) k) (f.g.bl k) (((sealed (allL f.g.bl 16) ++ []).map (fun e : En => e.b) ++ []).count k) (100000 * f.seq)
    rw [hcnt, h.at_ hk]
    have hwn : (f.g.bl k).wear ≤ 100000 * f.seq := by rw [hb.we]; exact hb.wn
    split
    · rename_i hf
      have h0 : (f.g.bl k).nx = 0 := by
        have := (h.fc.fi.er k hk 0 (by decide)).1 (frB_iff.1 hf 0 (by decide))
        omega
      exact ⟨Nat.zero_le 3, (h.free hf).symm, Nat.zero_le 8, Nat.zero_le 8, fun e => (by cases e), fun _ => ⟨rfl, h0⟩, fun e => (by cases e), fun e => (by cases e), rfl, hwn, hb.bad, hb.brk⟩
    · split
      · rename_i hp
        exact ⟨(by decide : 2 ≤ 3), rfl, Nat.zero_le 8, h.few, fun e => (by cases e), fun e => (by cases e), fun _ => hp, fun e => (by cases e), rfl, hwn, hb.bad, hb.brk⟩
      · rename_i hp
        exact ⟨Nat.le_refl 3, (show 0 = _ by omega), Nat.zero_le 8, Nat.zero_le 8, fun e => (by cases e), fun e => (by cases e), fun e => (by cases e), fun _ => rfl, rfl, hwn, hb.bad, hb.brk⟩
  · show decide _ = false
    rw [decide_eq_false_iff_not]
    unfold Gc.greatest Gc.least
    rw [hlen]
    generalize openL f.g.bl (frs f.g.bl 16) (lvL (sealed (allL f.g.bl 16))) 16 = l at hgap
    cases h1 : Gc.best Gc.good Gc.more l 16 with
    | none =>
      show ¬ (4 : Int) < ((0 : Nat) : Int) - _
      omega
    | some j =>
      obtain ⟨hj, hgj⟩ := Gc.best_some h1
      cases h2 : Gc.best Gc.good Gc.worn l 16 with
      | none =>
        rw [Gc.best_none h2 j hj] at hgj
        cases hgj
      | some i =>
        obtain ⟨hi, _⟩ := Gc.best_some h2
        have := hgap j i hj hi
        show ¬ (4 : Int) < ((Gc.at_ l j).wear : Int) - ((Gc.at_ l i).wear : Int)
        omega
  · rw [List.append_nil] at hx
    obtain ⟨e, he, rfl⟩ := List.mem_map.1 hx
    have he : e ∈ sealed (allL f.g.bl 16) ++ [] := he
    rw [List.append_nil] at he
    exact (mem_all.1 (hin e he)).1
  · rw [List.append_nil, List.length_map]
    show (sealed (allL f.g.bl 16) ++ []).length ≤ 100000 * f.seq
    rw [List.append_nil]
    omega
  · have he : e ∈ sealed (allL f.g.bl 16) ++ [] := he
    rw [List.append_nil] at he
    obtain ⟨h1, h2, h3, _⟩ := h.ent (hin e he)
    refine ⟨h3, ?_, h2⟩
    show e.i < (f.g.bl e.b).nx
    refine Nat.lt_of_not_le fun hle => ?_
    have := (h.fc.fi.er e.b h1 e.i h2).2 hle
    rw [this] at h3
    cases h3
  · have he : e ∈ sealed (allL f.g.bl 16) ++ [] := he
    rw [List.append_nil] at he
    obtain ⟨_, _, _, h4, h5, _⟩ := h.ent (hin e he)
    exact ⟨h4, h5⟩
  · show 3 ≤ Gc.count 0 (openL f.g.bl (frs f.g.bl 16) (lvL (sealed (allL f.g.bl 16))) 16)
    have h1 := h.fc.fr
    rw [Gc.count_sum, h.fc.fi.w.len] at h1
    rw [Gc.count_sum, hlen]
    refine Nat.le_trans h1 ?_
    have hle : ∀ k, k ≤ 16 → Wears.sumC (fun i => if (Gc.at_ f.g.l i).st = 0 then 1 else 0) k ≤ Wears.sumC (fun i => if (Gc.at_ (openL f.g.bl (frs f.g.bl 16) (lvL (sealed (allL f.g.bl 16))) 16) i).st = 0 then 1 else 0) k := by
      intro k
      induction k with
      | zero => exact fun _ => Nat.le_refl 0
      | succ k ih =>
        intro hk
        have h2 := ih (by omega)
        show _ + (if (Gc.at_ f.g.l k).st = 0 then 1 else 0) ≤ _ + (if (Gc.at_ (openL f.g.bl (frs f.g.bl 16) (lvL (sealed (allL f.g.bl 16))) 16) k).st = 0 then 1 else 0)
        by_cases hs : (Gc.at_ f.g.l k).st = 0
        · have h3 : (Gc.at_ (openL f.g.bl (frs f.g.bl 16) (lvL (sealed (allL f.g.bl 16))) 16) k).st = 0 := by
            rw [h.at_ (by omega), h.fr0 (by omega) hs]
            rfl
          rw [if_pos hs, if_pos h3]
          omega
        · rw [if_neg hs]
          omega
    exact hle 16 (Nat.le_refl _)
  · show (sealed (allL f.g.bl 16) ++ []).length + 2 ≤ 8 * (16 - 3)
    rw [List.append_nil]
    omega
theorem Sd.vwO (h : Sd f last tl) (o : Oa) (M ML cap : Nat) (tv : Value) (P : List UInt8 → Prop) (q : Nat) : vw (reF f o M ML cap tv tl P) q = vw f q := by
  obtain ⟨_, _, hvw⟩ := h.hold.sealed_
  rw [vw_eq]
  exact hvw q
end
end Opn
section
open Opn
variable {B last : Nat} {R : Nat → Prop} {w : World} {f : Fm} {tl : List UInt8}
/-- What is opened is what was sealed. -/
def Reop (B : Nat) (f : Fm) (w : World) (e : Ending) (w' : World) : Prop :=
  ∃ (S : Nat → Prop) (f' : Fm), e = .returned (.tuple #[.pointer (some ⟨f'.F, 0, none⟩), .int .i64 0]) ∧ FtR 16 B S w w' f' ∧ Fc 16 f' ∧ f'.no = [] ∧ f'.go = [] ∧ f'.seq = f.seq ∧ (f'.g.gh = fun _ => True) ∧ ∀ q, vw f' q = vw f q
theorem reopen_calls (h : FtM 16 B R w f) (hs : Sd f last tl) (hl : 1 ≤ last) (hq : f.seq ≤ 1000000) :
    Calls Tryz.prog 15 #[.pointer (some ⟨f.g.C, 0, none⟩)] w (Reop B f w) := by
  obtain ⟨S, hm, _⟩ := h.mg
  have hsq := hs.fc.sq
  have hep := hs.ep
  refine (fOpen_calls (tl := tl) hm.hc (hs.gd hq) hs.hold hl (by omega) (by omega) (fun p x hp => hs.key p (by rw [hp]; rfl)) (fun x hx => ?_) (fun k hk => ⟨hs.few, fun hf => hs.free (by rw [← frs_get hk]; exact hf)⟩) hs.idle).mono ?_
  · obtain ⟨t, h1, _⟩ := hs.s0
    rw [h1] at hx
    obtain rfl := Option.some.inj hx
    rfl
  · rintro e w' ⟨o, tv, M, ML, cap, rfl, hft⟩
    rw [show f.seq - 1 + 1 = f.seq by omega, ← hep] at hft
    exact ⟨S, reF f o M ML cap tv tl fun _ => True, rfl, hft, hs.fcO o M ML cap tv (fun _ _ => trivial), rfl, rfl, rfl, rfl, hs.vwO o M ML cap tv _⟩
end
end Go.Proofs.YtiipnpfaaghekaaGreat
namespace Go.Proofs.YtiipnpfaaghekaaGreat
open Go.RowKit Ftl Opn

namespace Full
def tl0 : List UInt8 := List.replicate 56 0
/-- A page's bytes. -/
def pgD (salt : UInt8) (i : Nat) : List UInt8 := pageL [salt, UInt8.ofNat i]
theorem pgD_len (salt : UInt8) (i : Nat) : (pgD salt i).length = 64 := pageL_len _
/-- Pages 1 to j are written. -/
structure Fl (f : Fm) (salt : UInt8) (j : Nat) : Prop where
  fc : Fc 16 f
  gh : ∀ L, f.g.gh L → PgOk (vw f) f.seq f.ep L
  s0 : (getE f.se 0).isSome = true
  v0 : ∃ x, vw f 0 = some x
  dat : ∀ i, i < j → (vw f (i + 1)).map (·.2) = some (pgD salt i)
  key : ∀ q, (vw f q).isSome = true → q ≤ j
  len : (f.se ++ f.no).length = j + 1
variable {f f' : Fm} {salt : UInt8} {j last n : Nat}
theorem vw_no {q : Nat} (h : vw f q = none) : getE f.no q = none := by
  rw [vw_eq] at h
  cases hz : getE f.no q with
  | none => rfl
  | some e => rw [hz] at h; cases h
theorem cur_none {q : Nat} (h : vw f q = none) : curE f q = none := by
  unfold vw at h
  cases hz : curE f q with
  | none => rfl
  | some e => rw [hz] at h; cases h
theorem right_of {k : Int} {p s e : Nat} (hk : k = 1 ∨ k = 2) (hp : p < 8192) (hs : 1 ≤ s ∧ s ≤ 1000000) (he : 1 ≤ e ∧ e ≤ 1000000) : Tg.Right ⟨k, p, s, e⟩ := ⟨hk, hp, hs.1, by show s < _; omega, he.1, by show e < _; omega⟩
theorem Fl.start (h : Fmd f tl0) (hu : Uq f.se) (hg : f.g.gh = sealP tl0) : Fl f salt 0 := by
  have hv : ∀ q, vw f q = if q = 0 then some ((⟨2, 0, 1, 1⟩ : Tg), headL tl0) else none := fun q => by
    rw [vw_eq, h.no, h.go]
    exact h.se q
  have hs := h.se 0
  rw [if_pos rfl] at hs
  have hs0 : (getE f.se 0).isSome = true := by
    cases hz : getE f.se 0 with
    | none => rw [hz] at hs; cases hs
    | some e => rfl
  refine ⟨h.fc, fun L hL => ?_, hs0, ⟨_, by rw [hv 0, if_pos rfl]⟩, fun i hi => absurd hi (Nat.not_lt_zero _), fun q hq => ?_, ?_⟩
  · rw [hg] at hL
    refine ⟨⟨2, 0, 1, 1⟩, headL tl0, hL, by decide, by decide, ⟨fun _ => rfl, fun _ => rfl⟩, ?_, ?_, _, by rw [hv]; exact if_pos rfl, Nat.le_refl _, fun _ => ⟨rfl, rfl⟩⟩
    · rw [h.sq]; decide
    · rw [h.ep]; decide
  · rw [hv] at hq
    by_cases h0 : q = 0
    · omega
    · rw [if_neg h0] at hq; cases hq
  · rw [h.no, List.append_nil]
    have hk : ∀ q, (getE f.se q).isSome = true → q < 1 := fun q hq => by
      have h1 := h.se q
      by_cases h0 : q = 0
      · omega
      · rw [if_neg h0] at h1
        cases hz : getE f.se q with
        | none => rw [hz] at hq; cases hq
        | some e => rw [hz] at h1; cases h1
    obtain ⟨e, he⟩ := Option.isSome_iff_exists.1 hs0
    obtain ⟨hm, _⟩ := getE_mem he
    have := List.length_pos_of_mem hm
    have := uq_range hu hk
    omega
/-- What a page is told to meet while one more is written. -/
def gW (f : Fm) (p : Nat) (pay : List UInt8) (L : List UInt8) : Prop := f.g.gh L ∨ L = Tg.page ⟨1, p, f.seq, f.ep⟩ pay
theorem Fl.write (h : Fl f salt j) (hj : j ≤ 100) (hs : f.seq ≤ 1000000) (hw : Wrd 16 (gsF f (gW f (j + 1) (pgD salt j))) f' (j + 1) (pgD salt j)) : Fl f' salt (j + 1) := by
  have hv := hw.vw
  have hsq := h.fc.sq
  have hn : vw f (j + 1) = none := by
    cases hz : vw f (j + 1) with
    | none => rfl
    | some x => have := h.key (j + 1) (by rw [hz]; rfl); omega
  refine ⟨hw.fc, fun L hL => ?_, hw.seal0 h.s0, ?_, fun i hi => ?_, fun q hq => ?_, ?_⟩
  · rw [hw.gh] at hL
    rw [show f'.seq = f.seq + 1 from hw.seq, show f'.ep = f.ep from hw.ep]
    rcases hL with hL | hL
    · obtain ⟨t, d, h1, h2, h3, h4, h5, h6, x, h7, h8, h9⟩ := h.gh L hL
      refine ⟨t, d, h1, h2, h3, h4, by omega, h6, ?_⟩
      rw [hv]
      by_cases hp : t.p = j + 1
      · rw [if_pos hp]
        refine ⟨_, rfl, ?_, fun e => ?_⟩
        · show t.s ≤ f.seq; omega
        · have e : t.s = f.seq := e
          omega
      · rw [if_neg hp]
        exact ⟨x, h7, h8, h9⟩
    · refine ⟨⟨1, j + 1, f.seq, f.ep⟩, pgD salt j, hL, right_of (.inl rfl) (by omega) ⟨by omega, hs⟩ ⟨by omega, by omega⟩, pgD_len _ _, ⟨fun e => (by cases e), fun e => absurd e (Nat.succ_ne_zero j)⟩, Nat.lt_succ_self _, Nat.le_refl _, ?_⟩
      rw [hv, if_pos rfl]
      exact ⟨_, rfl, Nat.le_refl _, fun _ => ⟨rfl, rfl⟩⟩
  · rw [hv, if_neg (Nat.succ_ne_zero j).symm]
    exact h.v0
  · rw [hv]
    by_cases e : i = j
    · subst e
      rw [if_pos rfl]
      rfl
    · rw [if_neg (by omega)]
      exact h.dat i (by omega)
  · rw [hv] at hq
    by_cases e : q = j + 1
    · omega
    · rw [if_neg e] at hq
      have := h.key q hq
      omega
  · rw [hw.len_]
    have h1 : getE (gsF f (gW f (j + 1) (pgD salt j))).no (j + 1) = none := vw_no hn
    rw [h1]
    have := h.len
    show (f.se ++ f.no).length + 1 = _
    omega
def gS (f : Fm) (L : List UInt8) : Prop := f.g.gh L ∨ L = Tg.page (sealT f) (headL tl0)
theorem keys_len {l : List En} {m : Nat} (h : ∀ q, q < m → (getE l q).isSome = true) : m ≤ l.length := by
  have := nodup_sub (l := List.range m) (l' := l.map fun e : En => e.t.p) List.nodup_range fun q hq => getE_isSome.1 (h q (List.mem_range.1 hq))
  rw [List.length_range, List.length_map] at this
  exact this
theorem Fl.seal_ (h : Fl f salt j) (hj : j ≤ 101) (hs : f.seq ≤ 1000000) (hw : Sld 16 (gsF f (gS f)) f' tl0) (hu : Uq f'.se) : Fl f' salt j ∧ Sd f' f.ep tl0 := by
  have hv : ∀ q, vw f' q = if q = 0 then some (sealT f, headL tl0) else vw f q := hw.vw
  have hsq := h.fc.sq
  have hg : ∀ L, f'.g.gh L → PgOk (vw f') f'.seq f.ep L := fun L hL => by
    rw [hw.gh] at hL
    rw [show f'.seq = f.seq + 1 from hw.sq]
    rcases hL with hL | hL
    · obtain ⟨t, d, h1, h2, h3, h4, h5, h6, x, h7, h8, h9⟩ := h.gh L hL
      refine ⟨t, d, h1, h2, h3, h4, by omega, h6, ?_⟩
      rw [hv]
      by_cases hp : t.p = 0
      · rw [if_pos hp]
        refine ⟨_, rfl, ?_, fun e => ?_⟩
        · show t.s ≤ f.seq; omega
        · have e : t.s = f.seq := e
          omega
      · rw [if_neg hp]
        exact ⟨x, h7, h8, h9⟩
    · refine ⟨sealT f, headL tl0, hL, right_of (.inr rfl) (by omega) ⟨by omega, hs⟩ ⟨by omega, by omega⟩, by decide, ⟨fun _ => rfl, fun _ => rfl⟩, Nat.lt_succ_self _, Nat.le_refl _, ?_⟩
      rw [hv]
      exact ⟨_, if_pos rfl, Nat.le_refl _, fun _ => ⟨rfl, rfl⟩⟩
  have hkey : ∀ q, (vw f' q).isSome = true → q ≤ j := fun q hq => by
    rw [hv] at hq
    by_cases e : q = 0
    · omega
    · rw [if_neg e] at hq
      exact h.key q hq
  have hdat : ∀ i, i < j → (vw f' (i + 1)).map (·.2) = some (pgD salt i) := fun i hi => by
    rw [hv, if_neg (Nat.succ_ne_zero i)]
    exact h.dat i hi
  have hep : f'.ep = f.ep + 1 := hw.ep
  have hvs : ∀ q, vw f' q = (getE f'.se q).map sk := fun q => by
    rw [vw_eq, hw.no, hw.go]
    rfl
  have hlen : (f'.se ++ f'.no).length = j + 1 := by
    have h1 := hw.len_ hu (m := j + 1) (by omega) (fun q hq => by have := h.key q hq; omega)
    rw [hw.no, List.append_nil] at h1 ⊢
    have h2 := keys_len (l := f'.se) (m := j + 1) fun q hq => by
      have h3 := hvs q
      have h4 : ∃ x, vw f' q = some x := by
        by_cases h0 : q = 0
        · exact ⟨_, by rw [hv, if_pos h0]⟩
        · obtain ⟨i, rfl⟩ : ∃ i, q = i + 1 := ⟨q - 1, by omega⟩
          have h5 := hdat i (by omega)
          cases hz : vw f' (i + 1) with
          | none => rw [hz] at h5; cases h5
          | some x => exact ⟨x, rfl⟩
      obtain ⟨x, h4⟩ := h4
      rw [h4] at h3
      cases hz : getE f'.se q with
      | none => rw [hz] at h3; cases h3
      | some e => rfl
    omega
  refine ⟨⟨hw.fc, fun L hL => ?_, hw.seal0, ⟨_, by rw [hv 0, if_pos rfl]⟩, hdat, hkey, hlen⟩, ⟨hw.fc, hw.no, hw.go, hg, hep, ⟨sealT f, by rw [hv 0, if_pos rfl], rfl, ?_⟩, fun q hq => by have := hkey q hq; omega, hu⟩⟩
  · obtain ⟨t, d, h1, h2, h3, h4, h5, h6, h7⟩ := hg L hL
    exact ⟨t, d, h1, h2, h3, h4, h5, by omega, h7⟩
  · rw [show f'.seq = f.seq + 1 from hw.sq]
    rfl
/-- The same, in memory. -/
structure Fs (w : World) (B F C : Nat) (R : Nat → Prop) (f : Fm) (salt : UInt8) (j n : Nat) (wr : World) : Prop where
  ft : FtM 16 B R wr f
  fl : Fl f salt j
  F_ : f.F = F
  C_ : f.g.C = C
  sq : f.seq = n
  bel : Below w.heap.size w wr
  lo : w.heap.size ≤ B
variable {w wr w' : World} {B F C : Nat} {R : Nat → Prop}
theorem Fs.on (h : Fs w B F C R f salt j n wr) (hb : Below wr.heap.size wr w') : Fs w B F C R f salt j n w' := ⟨h.ft.on hb, h.fl, h.F_, h.C_, h.sq, h.bel.then_ hb, h.lo⟩
theorem Fs.new (h : Fs w B F C R f salt j n wr) {a : Option Addr} {k c : Nat} {xs : List UInt8} (ho : Own byteV 5 w' wr.heap.size (.slice a k c) xs) : ∀ b o, a = some ⟨b, o, none⟩ → ¬ R b := fun b o e h1 => by
  have h2 := (h.ft.bnd b h1).2
  have h3 := (ho.blockLt b (by rw [e]; rfl)).1
  omega
/-- One more page is written. -/
def FsW (w : World) (B F C : Nat) (f0 : Fm) (salt : UInt8) (j n : Nat) (e : Ending) (w' : World) : Prop := e = .returned (.int .i64 0) ∧ ∃ R f, Fs w B F C R f salt (j + 1) (n + 1) w' ∧ (1 ≤ j → getE f0.no 1 = none → getE f.no 1 = none)
theorem fullWrite_calls (h : Fs w B F C R f salt j n wr) (hj : j ≤ 100) (hn : n ≤ 1000000) (a : Option Addr) (c : Nat) (hx : Bytes wr wr.heap.size a 64 (pgD salt j)) (hap : ∀ b o, a = some ⟨b, o, none⟩ → ¬ R b) :
    Calls Tryz.prog 6 #[.pointer (some ⟨F, 0, none⟩), .int .u32 ((j : Int) + 1), .slice a 64 c] wr (FsW w B F C f salt j n) := by
  have hF := h.F_
  subst hF
  have hs := h.sq
  rw [show (j : Int) + 1 = ((j + 1 : Nat) : Int) by omega]
  have hl := h.fl.len
  refine (fWrite_calls (h.ft.ghost (gW f (j + 1) (pgD salt j))) (h.fl.fc.ghost fun _ => .inl) (j + 1) (by omega) (by omega) (by omega) (.inr (show (f.se ++ f.no).length + 3 ≤ 8 * (16 - 3) by omega)) (show f.seq ≤ 1000000 by omega) a c _ (.inr rfl) hx hap).mono ?_
  rintro e w' ⟨rfl, f', hf, hw⟩
  have hf1 := h.ft
  refine ⟨rfl, _, f', ⟨hf.1, h.fl.write hj (by omega) hw, hw.F, hw.C.trans h.C_, by rw [← hs]; exact hw.seq, h.bel.trans ((hf.below hf1).mono h.lo), h.lo⟩, fun h1 h2 => ?_⟩
  have h3 : (getE f'.no 1).map sk = if 1 = j + 1 then _ else (getE f.no 1).map sk := hw.no 1
  rw [if_neg (by omega), h2] at h3
  cases hz : getE f'.no 1 with
  | none => rfl
  | some e => rw [hz] at h3; cases h3
/-- All is sealed. -/
def FsS (w : World) (B F C : Nat) (salt : UInt8) (j n : Nat) (e : Ending) (w' : World) : Prop := e = .returned (.int .i64 0) ∧ ∃ R f last, Fs w B F C R f salt j (n + 1) w' ∧ Sd f last tl0 ∧ 1 ≤ last
theorem fullSeal_calls (h : Fs w B F C R f salt j n wr) (hj : j ≤ 101) (hn : n ≤ 1000000) (a : Option Addr) (c : Nat) (hx : Bytes wr wr.heap.size a 56 tl0) (hap : ∀ b o, a = some ⟨b, o, none⟩ → ¬ R b) :
    Calls Tryz.prog 8 #[.pointer (some ⟨F, 0, none⟩), .slice a 56 c] wr (FsS w B F C salt j n) := by
  have hF := h.F_
  subst hF
  have hs := h.sq
  refine (fSeal_calls (h.ft.ghost (gS f)) (h.fl.fc.ghost fun _ => .inl) (show f.seq ≤ 1000000 by omega) a c tl0 (.inr rfl) hx hap (.inl h.fl.s0)).mono ?_
  rintro e w' ⟨rfl, f', hf, hw⟩
  have hf1 := h.ft
  obtain ⟨h1, h2⟩ := h.fl.seal_ hj (by omega) hw hf.1.hS.uq
  exact ⟨rfl, _, f', f.ep, ⟨hf.1, h1, hw.F, hw.C.trans h.C_, by rw [← hs]; exact hw.sq, h.bel.trans ((hf.below hf1).mono h.lo), h.lo⟩, h2, h.fl.fc.sq.1⟩
theorem fullFull_calls (h : Fs w B F C R f salt 101 n wr) (h0 : Sd f last tl0 ∨ getE f.no 1 = none) (a : Option Addr) (c : Nat) :
    Calls Tryz.prog 6 #[.pointer (some ⟨F, 0, none⟩), .int .u32 1, .slice a 64 c] wr fun e w' => e = .returned (.int .i64 40) ∧ Below wr.heap.size wr w' := by
  have hF := h.F_
  subst hF
  have hl := h.fl.len
  refine fWriteFull_calls h.ft h.fl.fc 1 (by omega) (by omega) (by omega) ?_ (by omega) a c
  rcases h0 with h0 | h0
  · rw [h0.no]; rfl
  · exact h0
theorem fullArg_calls (h : Fs w B F C R f salt j n wr) (a : Option Addr) (c : Nat) :
    Calls Tryz.prog 6 #[.pointer (some ⟨F, 0, none⟩), .int .u32 102, .slice a 64 c] wr fun e w' => e = .returned (.int .i64 1) ∧ Below wr.heap.size wr w' := by
  have hF := h.F_
  subst hF
  exact fWriteArg_calls h.ft h.fl.fc 102 (by omega) (by omega) a c
/-- The translation that was opened. -/
structure Zs (w : World) (B F : Nat) (R : Nat → Prop) (f : Fm) (n : Nat) (wr : World) : Prop where
  ft : FtM 16 B R wr f
  fc : Fc 16 f
  F_ : f.F = F
  sq : f.seq = n
  gh : f.g.gh = fun _ => True
  bel : Below w.heap.size w wr
  lo : w.heap.size ≤ B
theorem Zs.on (h : Zs w B F R f n wr) (hb : Below wr.heap.size wr w') : Zs w B F R f n w' := ⟨h.ft.on hb, h.fc, h.F_, h.sq, h.gh, h.bel.then_ hb, h.lo⟩
theorem Zs.new (h : Zs w B F R f n wr) {a : Option Addr} {k c : Nat} {xs : List UInt8} (ho : Own byteV 5 w' wr.heap.size (.slice a k c) xs) : ∀ b o, a = some ⟨b, o, none⟩ → ¬ R b := fun b o e h1 => by
  have h2 := (h.ft.bnd b h1).2
  have h3 := (ho.blockLt b (by rw [e]; rfl)).1
  omega
/-- All pages stand there, sealed. -/
structure Zf (f : Fm) (salt : UInt8) : Prop where
  no : f.no = []
  go : f.go = []
  dat : ∀ i, i < 101 → (vw f (i + 1)).map (·.2) = some (pgD salt i)
  key : ∀ q, (getE f.se q).isSome = true → q < 102
  all : ∀ q, q < 102 → (getE f.se q).isSome = true
  len : f.se.length = 102
/-- What opening leaves. -/
def FsO (w : World) (B : Nat) (salt : UInt8) (n : Nat) (e : Ending) (w' : World) : Prop := ∃ F R f, e = .returned (.tuple #[.pointer (some ⟨F, 0, none⟩), .int .i64 0]) ∧ Zs w B F R f n w' ∧ Zf f salt
theorem fullOpen_calls (h : Fs w B F C R f salt 101 n wr) (hd : Sd f last tl0) (hl : 1 ≤ last) (hn : n ≤ 1000000) :
    Calls Tryz.prog 15 #[.pointer (some ⟨C, 0, none⟩)] wr (FsO w B salt n) := by
  have hC := h.C_
  subst hC
  have hs := h.sq
  refine (reopen_calls h.ft hd hl (by omega)).mono ?_
  rintro e w' ⟨S, f', rfl, hf, hfc, hno, hgo, hsq, hgh, hv⟩
  have hvs : ∀ q, (getE f'.se q).map sk = vw f q := fun q => by
    rw [← hv, vw_eq, hno, hgo]
    rfl
  have hall : ∀ q, q < 102 → (getE f'.se q).isSome = true := fun q hq => by
    have h3 := hvs q
    have h4 : ∃ x, vw f q = some x := by
      by_cases h0 : q = 0
      · rw [h0]; exact h.fl.v0
      · obtain ⟨i, rfl⟩ : ∃ i, q = i + 1 := ⟨q - 1, by omega⟩
        have h5 := h.fl.dat i (by omega)
        cases hz : vw f (i + 1) with
        | none => rw [hz] at h5; cases h5
        | some x => exact ⟨x, rfl⟩
    obtain ⟨x, h4⟩ := h4
    rw [h4] at h3
    cases hz : getE f'.se q with
    | none => rw [hz] at h3; cases h3
    | some e => rfl
  have hkey : ∀ q, (getE f'.se q).isSome = true → q < 102 := fun q hq => by
    have h3 := hvs q
    obtain ⟨e, he⟩ := Option.isSome_iff_exists.1 hq
    rw [he] at h3
    have := h.fl.key q (by rw [← h3]; rfl)
    omega
  have h1 := keys_len hall
  have h2 := uq_range hf.1.hS.uq hkey
  refine ⟨f'.F, _, f', rfl, ⟨hf.1, hfc, rfl, hsq.trans hs, hgh, h.bel.trans (hf.2.below (fun q hq => ?_) h.bel.size), h.lo⟩, hno, hgo, fun i hi => ?_, hkey, hall, by omega⟩
  · have := (hf.1.bnd q (.inl hq)).1
    have := h.lo
    omega
  · rw [hv]
    exact h.fl.dat i hi
/-- A page is read. -/
def ZsR (w : World) (B F : Nat) (n : Nat) (R : Nat → Prop) (f : Fm) (d : List UInt8) (e : Ending) (w' : World) : Prop := (∃ a c, e = .returned (.tuple #[.slice a 64 c, .int .i64 0]) ∧ Bytes w' w'.heap.size a 64 d) ∧ Zs w B F R f n w'
theorem fullRead_calls (h : Zs w B F R f n wr) (hz : Zf f salt) {i : Nat} (hi : i < 101) :
    Calls Tryz.prog 10 #[.pointer (some ⟨F, 0, none⟩), .int .u32 ((i : Int) + 1)] wr (ZsR w B F n R f (pgD salt i)) := by
  have hF := h.F_
  subst hF
  have h1 := hz.dat i hi
  rw [show (i : Int) + 1 = ((i + 1 : Nat) : Int) by omega]
  cases hv : vw f (i + 1) with
  | none => rw [hv] at h1; cases h1
  | some y =>
    rw [hv] at h1
    obtain ⟨x, hx, hd, _⟩ := vw_some hv
    have h1 : y.2 = pgD salt i := Option.some.inj h1
    rw [← h1, ← hd]
    refine (ftRead_calls h.ft h.fc (i + 1) (by omega) (by omega) (by omega) x hx).mono ?_
    rintro e w' ⟨⟨a, c, rfl, _, hb⟩, h2, h3⟩
    exact ⟨⟨a, c, rfl, hb⟩, h2, h.fc, rfl, h.sq, h.gh, h.bel.trans (h3.below (fun q hq => by have := (h.ft.bnd q hq).1; have := h.lo; omega) h.bel.size), h.lo⟩
/-- One page is dropped. -/
structure Zd (f : Fm) (k : Nat) : Prop where
  no : f.no = []
  go : ∀ q, (getE f.go q).isSome = decide (q = k)
  key : ∀ q, (getE f.se q).isSome = true → q < 102
  s0 : (getE f.se 0).isSome = true
  len : f.se.length = 102
def ZsD (w : World) (B F n k : Nat) (e : Ending) (w' : World) : Prop := e = .returned (.int .i64 0) ∧ ∃ R f, Zs w B F R f n w' ∧ Zd f k
theorem fullDrop_calls (h : Zs w B F R f n wr) (hz : Zf f salt) {k : Nat} (hk : 1 ≤ k) (hk2 : k ≤ 101) :
    Calls Tryz.prog 17 #[.pointer (some ⟨F, 0, none⟩), .int .u32 (k : Int)] wr (ZsD w B F n k) := by
  have hF := h.F_
  subst hF
  obtain ⟨e0, he⟩ := Option.isSome_iff_exists.1 (hz.all k (by omega))
  have hp := (getE_mem he).2
  refine (fDropS_calls h.ft h.fc k hk (by omega) (by omega) (by rw [hz.no]; rfl) e0 he).mono ?_
  rintro e w' ⟨rfl, hm, hq⟩
  have hg : putE f.go e0 = [e0] := by rw [hz.go]; rfl
  have hge : ∀ q, (getE (putE f.go e0) q).isSome = decide (q = k) := fun q => by
    rw [hg]
    unfold getE
    rw [List.find?_cons, List.find?_nil, hp]
    by_cases e : q = k
    · subst e
      simp
    · have h1 : (k == q) = false := by rw [beq_eq_false_iff_ne]; omega
      rw [h1, decide_eq_false e]
      rfl
  refine ⟨rfl, R, _, ⟨hm, ⟨h.fc.fi, h.fc.fr, h.fc.cap, h.fc.ov, h.fc.sq, fun x hx => ?_, h.fc.n0, ?_⟩, rfl, h.sq, h.gh, h.bel.trans (hq.below (fun q hq => by have := (h.ft.bnd q hq).1; have := h.lo; omega) h.bel.size), h.lo⟩, hz.no, hge, hz.key, hz.all 0 (by decide), hz.len⟩
  · have hx : x ∈ putE f.go e0 := hx
    rw [hg] at hx
    obtain rfl : x = e0 := by simpa using hx
    rw [hp]
    exact hz.all k (by omega)
  · have := hge 0
    rw [decide_eq_false (by omega)] at this
    show getE (putE f.go e0) 0 = none
    cases hy : getE (putE f.go e0) 0 with
    | none => rfl
    | some y => rw [hy] at this; cases this
theorem fullFull2_calls {k p : Nat} (h : Zs w B F R f n wr) (hz : Zd f k) (hp : 1 ≤ p) (hp2 : p ≤ 101) (a : Option Addr) (c : Nat) :
    Calls Tryz.prog 6 #[.pointer (some ⟨F, 0, none⟩), .int .u32 (p : Int), .slice a 64 c] wr fun e w' => e = .returned (.int .i64 40) ∧ Below wr.heap.size wr w' := by
  have hF := h.F_
  subst hF
  have hl := hz.len
  exact fWriteFull_calls h.ft h.fc p hp (by omega) (by omega) (by rw [hz.no]; rfl) (by rw [hz.no, List.append_nil]; omega) a c
/-- It is sealed that the page is gone. -/
def ZsS (w : World) (B F n k : Nat) (e : Ending) (w' : World) : Prop := e = .returned (.int .i64 0) ∧ ∃ R f, Zs w B F R f (n + 1) w' ∧ vw f k = none ∧ (f.se ++ f.no).length ≤ 101
theorem fullSeal2_calls {k : Nat} (h : Zs w B F R f n wr) (hz : Zd f k) (hk : 1 ≤ k) (hk2 : k ≤ 101) (hn : n ≤ 1000000) (a : Option Addr) (c : Nat) (tx : List UInt8) (hx : Bytes wr wr.heap.size a 56 tx) (hap : ∀ b o, a = some ⟨b, o, none⟩ → ¬ R b) :
    Calls Tryz.prog 8 #[.pointer (some ⟨F, 0, none⟩), .slice a 56 c] wr (ZsS w B F n k) := by
  have hF := h.F_
  subst hF
  have hs := h.sq
  refine (fSeal_calls h.ft h.fc (by omega) a c tx (by rw [h.gh]; trivial) hx hap (.inl hz.s0)).mono ?_
  rintro e w' ⟨rfl, f', hf, hw⟩
  have hse : ∀ q, (getE f'.se q).map sk = if q = 0 then some (sealT f, headL tx) else if q = k then none else (getE f.se q).map sk := fun q => by
    rw [hw.se, hz.no]
    by_cases h0 : q = 0
    · rw [if_pos h0, if_pos h0]
    · rw [if_neg h0, if_neg h0]
      show (if (getE f.go q).isSome = true then none else (getE f.se q).map sk) = _
      rw [hz.go]
      by_cases e : q = k
      · rw [if_pos (by rw [decide_eq_true e]), if_pos e]
      · rw [if_neg (by rw [decide_eq_false e]; decide), if_neg e]
  refine ⟨rfl, _, f', ⟨hf.1, hw.fc, hw.F, by rw [← hs]; exact hw.sq, hw.gh.trans h.gh, h.bel.trans ((hf.below h.ft).mono h.lo), h.lo⟩, ?_, ?_⟩
  · rw [vw_eq, hw.no, hw.go]
    show (getE f'.se k).map sk = none
    rw [hse, if_neg (by omega), if_pos rfl]
  · rw [hw.no, List.append_nil]
    have h1 := nodup_sub (l := f'.se.map fun e : En => e.t.p) (l' := (List.range 102).filter fun q => q != k) hf.1.hS.uq fun q hq => by
      have h2 := getE_isSome.2 hq
      obtain ⟨e, he⟩ := Option.isSome_iff_exists.1 h2
      have h3 := hse q
      rw [he] at h3
      rw [List.mem_filter, List.mem_range]
      by_cases h0 : q = 0
      · exact ⟨by omega, by rw [bne_iff_ne]; omega⟩
      · rw [if_neg h0] at h3
        by_cases e1 : q = k
        · rw [if_pos e1] at h3; cases h3
        · rw [if_neg e1] at h3
          refine ⟨hz.key q ?_, by rw [bne_iff_ne]; exact e1⟩
          cases hy : getE f.se q with
          | none => rw [hy] at h3; cases h3
          | some y => rfl
    have h2 : ((List.range 102).filter fun q => q != k).length ≤ 101 := by
      have h3 : ((List.range 102).filter fun q => q != k).length < (List.range 102).length := List.length_filter_lt_length_iff_exists.2 ⟨k, List.mem_range.2 (by omega), by simp⟩
      rw [List.length_range] at h3
      omega
    rw [List.length_map] at h1
    omega
/-- There is room for a page again. -/
def ZsW (w : World) (B F n k : Nat) (e : Ending) (w' : World) : Prop := e = .returned (.int .i64 0) ∧ ∃ R f, Zs w B F R f (n + 1) w' ∧ curE f k = none
theorem fullWrite2_calls {k p : Nat} (h : Zs w B F R f n wr) (hv : vw f k = none) (hl : (f.se ++ f.no).length ≤ 101) (hp : 1 ≤ p) (hp2 : p ≤ 101) (hpk : p ≠ k) (hn : n ≤ 1000000) (a : Option Addr) (c : Nat) (pay : List UInt8) (hx : Bytes wr wr.heap.size a 64 pay) (hap : ∀ b o, a = some ⟨b, o, none⟩ → ¬ R b) :
    Calls Tryz.prog 6 #[.pointer (some ⟨F, 0, none⟩), .int .u32 (p : Int), .slice a 64 c] wr (ZsW w B F n k) := by
  have hF := h.F_
  subst hF
  have hs := h.sq
  refine (fWrite_calls h.ft h.fc p hp (by omega) (by omega) (.inr (by omega)) (by omega) a c pay (by rw [h.gh]; trivial) hx hap).mono ?_
  rintro e w' ⟨rfl, f', hf, hw⟩
  refine ⟨rfl, _, f', ⟨hf.1, hw.fc, hw.F, by rw [← hs]; exact hw.seq, hw.gh.trans h.gh, h.bel.trans ((hf.below h.ft).mono h.lo), h.lo⟩, cur_none ?_⟩
  rw [hw.vw, if_neg (Ne.symm hpk)]
  exact hv
theorem fullNone_calls {k : Nat} (h : Zs w B F R f n wr) (hk : 1 ≤ k) (hk2 : k ≤ 101) (hc : curE f k = none) :
    Calls Tryz.prog 10 #[.pointer (some ⟨F, 0, none⟩), .int .u32 (k : Int)] wr fun e w' => e = .returned (.tuple #[.slice none 0 0, .int .i64 60]) ∧ Below wr.heap.size wr w' := by
  have hF := h.F_
  subst hF
  exact fReadNone_calls h.ft h.fc k hk (by omega) (by omega) hc
end Full
end Go.Proofs.YtiipnpfaaghekaaGreat
