import Derived.Test.YtcppkaphlcflgaaGreatNodAt
import Derived.Test.YtcppkaphlcflgaaGreatInoPtsX
import Derived.Deep.DeepCutAuto
import Derived.Deep.CutBlock
import Derived.Deep.CutRange
import Derived.WalkMore
namespace Go.Proofs.YtcppkaphlcflgaaGreat
open Lib (hid)
set_option maxRecDepth 100000
set_option maxHeartbeats 16000000
open Go.RowKit Pol Nod
variable {NB B P : Nat} {Q : Nat → Prop} {w w' : World} {f : Fm} {s : Ps}

attribute [local go_sem] Oper.semAt_some

def Ub (Q : Nat → Prop) (n : Nat) (w : World) (k : Nat) : Prop := Q k ∨ (n ≤ k ∧ k < w.heap.size)
structure Plb (NB B : Nat) (Q : Nat → Prop) (wo : World) (Z m P : Nat) (f : Fm) (s : Ps) (w : World) : Prop where
 pl : PlM NB B (Ub Q (Z + m) w) w P f s
 kq : Kq Q wo w
 zo : wo.heap.size ≤ Z
 zm : Z + m ≤ w.heap.size
 bo : B ≤ wo.heap.size
 qb : ∀ k, Q k → k < wo.heap.size
section
variable {wo w1 : World} {Z m : Nat} {s' : Ps}
theorem Plb.far (h : Plb NB B Q wo Z m P f s w) {k : Nat} (h1 : Z ≤ k) (h2 : k < Z + m) : ¬ Ub Q (Z + m) w k := by
 rintro (h3 | h3)
 ·have := h.qb k h3; have := h.zo; omega
 ·omega
theorem Plb.old (h : Plb NB B Q wo Z m P f s w) {k : Nat} (h1 : ¬ Q k) (h2 : k < wo.heap.size) : ¬ Ub Q (Z + m) w k := by
 rintro (h3 | h3)
 ·exact h1 h3
 ·have := h.zo; omega
theorem Plb.call (h : Plb NB B Q wo Z m P f s w) (k : PlR NB B (Ub Q (Z + m) w) w w' P f s') : Plb NB B Q wo Z m P f s' w' := by
 have hs := k.2.size
 have hz := h.zo
 have hm := h.zm
 refine ⟨k.1.more (fun q hq => ?_) fun q hq => ?_, h.kq.then_ k.2 fun q hq => ?_, hz, by omega, h.bo, h.qb⟩
 ·rcases hq with (h1 | h1) | h1
  ·exact .inl h1
  ·exact .inr ⟨h1.1, by omega⟩
  ·exact .inr ⟨by omega, h1.2⟩
 ·rcases hq with h1 | h1
  ·exact k.1.bnd q (.inl (.inl h1))
  ·have := h.bo; omega
 ·rcases hq with h1 | h1
  ·exact .inl h1
  ·exact .inr (by omega)
theorem Plb.own (h : Plb NB B Q wo Z m P f s w) {T : Nat → Prop} (hk : Kq T w w') (hT : ∀ q, T q → Z ≤ q ∧ q < Z + m) : Plb NB B Q wo Z m P f s w' := by
 have hs := hk.size
 have hz := h.zo
 have hm := h.zm
 refine ⟨(h.pl.kq hk fun q hq ht => h.far (hT q ht).1 (hT q ht).2 hq).more (fun q hq => ?_) fun q hq => ?_, h.kq.then_ hk fun q hq => .inr (by have := hT q hq; omega), hz, by omega, h.bo, h.qb⟩
 ·rcases hq with h1 | h1
  ·exact .inl h1
  ·exact .inr ⟨h1.1, by omega⟩
 ·rcases hq with h1 | h1
  ·have := h.pl.bnd q (.inl h1); omega
  ·have := h.bo; omega
theorem Plb.start (h : PlM NB B Q w P f s) (hb : Below w.heap.size w w1) (hm : w1.heap.size = w.heap.size + m) : Plb NB B Q w w.heap.size m P f s w1 := by
 refine ⟨(h.on hb).more (fun q hq => .inl hq) fun q hq => ?_, Kq.of hb, Nat.le_refl _, by omega, h.base, fun k hk => (h.bnd k hk).2⟩
 rcases hq with h1 | h1
 ·have := h.bnd q h1; omega
 ·omega
theorem kq_cell {T : Nat → Prop} (hk : Kq T w w') {a : Addr} {v : Value} (hc : w.cell? a = some v) (hl : a.block < w.heap.size) (hn : ¬ T a.block) : w'.cell? a = some v := (World.cell?_of_block (a := a) (hk.block _ hl hn)).trans hc
end
structure Npt (NB B : Nat) (Q : Nat → Prop) (wo : World) (F q P : Nat) (f : Fm) (s : Ps) (w : World) : Prop where
 pb : Plb NB B Q wo wo.heap.size 3 P f s w
 b0 : Blk w wo.heap.size 80 #[.pointer (some ⟨F, 0, none⟩)]
 b1 : Blk w (wo.heap.size + 1) 3 #[.int .i64 (q : Int)]
 b2 : Blk w (wo.heap.size + 2) 3 #[.int .i64 0]
 c0 : w.cell? ⟨F, 0, none⟩ = some (.pointer (some ⟨P, 0, none⟩))
 fn : F < wo.heap.size ∧ ¬ Q F
section
variable {wo : World} {F q : Nat} {s' : Ps}
theorem Npt.keep (h : Npt NB B Q wo F q P f s w) {T : Nat → Prop} (hp : Plb NB B Q wo wo.heap.size 3 P f s' w') (hk : Kq T w w') (hT : ∀ k, T k → Ub Q (wo.heap.size + 3) w k) : Npt NB B Q wo F q P f s' w' := by
 have hn : ∀ k, wo.heap.size ≤ k → k < wo.heap.size + 3 → ¬ T k := fun k h1 h2 ht => h.pb.far h1 h2 (hT k ht)
 have hz := h.pb.zm
 exact ⟨hp, h.b0.kq hk (hn _ (by omega) (by omega)), h.b1.kq hk (hn _ (by omega) (by omega)), h.b2.kq hk (hn _ (by omega) (by omega)), kq_cell hk h.c0 (by have := h.fn; show F < _; omega) (fun ht => h.pb.old h.fn.2 h.fn.1 (hT _ ht)), h.fn⟩
theorem Npt.call (h : Npt NB B Q wo F q P f s w) (k : PlR NB B (Ub Q (wo.heap.size + 3) w) w w' P f s') : Npt NB B Q wo F q P f s' w' := h.keep (h.pb.call k) k.2 fun _ h => h
theorem Npt.setQ (h : Npt NB B Q wo F q P f s w) (q' : Nat) : Npt NB B Q wo F q' P f s (w.setCell ⟨wo.heap.size + 1, 0, none⟩ (.int .i64 (q' : Int))) := by
 have hk : Kq (fun k => k = wo.heap.size + 1) w (w.setCell ⟨wo.heap.size + 1, 0, none⟩ (.int .i64 (q' : Int))) := Kq.one ⟨wo.heap.size + 1, 0, none⟩ _
 refine ⟨h.pb.own hk fun k e => by omega, h.b0.kq hk (by omega), h.b1.set 0 _, h.b2.kq hk (by omega), kq_cell hk h.c0 ?_ ?_, h.fn⟩
 ·have := h.fn; have := h.pb.zm; show F < _; omega
 ·have := h.fn; show F ≠ _; omega
end
theorem Plb.finish {wa w5 w6 : World} {U T : Nat → Prop} {Z m : Nat} {t t' : Ps} (hN : Plb NB B Q w Z m P f t wa) (hP : PlM NB B Q w P f s) (hU : ∀ k, U k → Q k ∨ w.heap.size ≤ k) (h5 : PlM NB B U w5 P f t') (hk : Kq (fun q => Q q ∨ w.heap.size ≤ q) wa w5) (h6 : Kq T w5 w6) (hT : ∀ q, T q → w.heap.size ≤ q ∧ ¬ U q) : PlR NB B Q w w6 P f t' :=
 PlM.fin hP (h5.kq h6 fun q hq ht => (hT q ht).2 hq) hU (((hN.kq.mono fun _ h => .inl h).trans hk).trans (h6.mono fun k h => .inr (hT k h).1)) fun _ h => h
structure Nrg (NB B : Nat) (Q1 : Nat → Prop) (wc : World) (P : Nat) (f : Fm) (t : Ps) (x : List UInt8) (Zb : Nat) (a : Option Addr) (c : Nat) (wx : World) : Prop where
 pl : PlM NB B Q1 wx P f t
 kq : Kq Q1 wc wx
 bx : Blk wx Zb 40 #[.slice a 64 c]
 ow : Own byteV 5 wx wc.heap.size (.slice a 64 c) x
 zb : wc.heap.size ≤ Zb
 ne : ∀ k, (Value.slice a 64 c).ownBlock = some k → k ≠ Zb
theorem Nrg.a {Q1 : Nat → Prop} {wc w1 : World} {t : Ps} {x : List UInt8} {a : Option Addr} {c : Nat} (h1 : PlM NB B Q1 w1 P f t) (h2 : Kq Q1 wc w1) (h3 : Own byteV 5 w1 wc.heap.size (.slice a 64 c) x) :
  Nrg NB B Q1 wc P f t x w1.heap.size a c (w1.alloc (.cells #[.slice a 64 c] 40)) := by
 have hb : Below w1.heap.size w1 (w1.alloc (.cells #[.slice a 64 c] 40)) := (Below.refl _ w1).alloc (Nat.le_refl _) _
 refine ⟨h1.on hb, h2.on hb, Blk.new w1 _ _, h3.on hb, h2.size, fun k hk => ?_⟩
 have := (h3.blockLt k hk).2
 omega
theorem Nrg.b {Q1 : Nat → Prop} {wc w0 w1 : World} {t : Ps} {x : List UInt8} {a : Option Addr} {c Zb : Nat} (h1 : PlM NB B Q1 w1 P f t) (h0 : PlM NB B Q1 w0 P f t) (h2 : Kq Q1 wc w0) (hz : w0.heap.size = Zb) (h4 : Kq Q1 (w0.alloc (.cells #[.slice none 0 0] 40)) w1) (h3 : Own byteV 5 w1 (w0.alloc (.cells #[.slice none 0 0] 40)).heap.size (.slice a 64 c) x) :
  Nrg NB B Q1 wc P f t x Zb a c (w1.setCell ⟨Zb, 0, none⟩ (.slice a 64 c)) := by
 subst hz
 have hb : Below w0.heap.size w0 (w0.alloc (.cells #[.slice none 0 0] 40)) := (Below.refl _ w0).alloc (Nat.le_refl _) _
 have hs := h4.size
 rw [World.size_alloc] at hs h3
 have hzn := h0.not_new (Nat.le_refl _)
 have hk : Kq (fun k => k = w0.heap.size) w1 (w1.setCell ⟨w0.heap.size, 0, none⟩ (.slice a 64 c)) := Kq.one ⟨w0.heap.size, 0, none⟩ _
 have hs2 := h2.size
 refine ⟨h1.kq hk fun q hq e => hzn (e ▸ hq), ((h2.on hb).trans h4).then_ hk fun q e => .inr (by omega), ((Blk.new w0 _ _).kq h4 hzn).set 0 _, (h3.mono (by omega)).far (p := ⟨w0.heap.size, 0, none⟩) (fun e => ?_) _, hs2, fun k hk => ?_⟩
 ·have := (h3.blockLt _ e).1
  simp only at this
  omega
 ·have := (h3.blockLt k hk).1
  omega
theorem nodPoint_calls (h : PlM NB B Q w P f s) {F p k tt : Nat} (hF : w.cell? ⟨F, 0, none⟩ = some (.pointer (some ⟨P, 0, none⟩))) (hn : ¬ Q F) (hFl : F < w.heap.size) (hp : Gd s p) (hal : p = 0 → s.us.length < s.np) (hk : k < 32) (ht : tt < 8192) :
  Calls Tryz.prog 77 #[.pointer (some ⟨F, 0, none⟩), .int .i64 (p : Int), .int .i64 (k : Int), .int .i64 (tt : Int)] w fun e w' => e = .returned (.int .i64 ((pointS s p k tt).2 : Int)) ∧ PlR NB B Q w w' P f (pointS s p k tt).1 := by
 have h0 : Npt NB B Q w F p P f s (((w.alloc (.cells #[.pointer (some ⟨F, 0, none⟩)] 80)).alloc (.cells #[.int .i64 (p : Int)] 3)).alloc (.cells #[.int .i64 0] 3)) := by
  have hb : Below w.heap.size w (((w.alloc (.cells #[.pointer (some ⟨F, 0, none⟩)] 80)).alloc (.cells #[.int .i64 (p : Int)] 3)).alloc (.cells #[.int .i64 0] 3)) := (((Below.refl _ w).alloc (Nat.le_refl _) _).alloc (by simp) _).alloc (by simp; omega) _
  have b1 := Blk.new (w.alloc (.cells #[.pointer (some ⟨F, 0, none⟩)] 80)) 3 #[.int .i64 (p : Int)]
  have b2 := Blk.new ((w.alloc (.cells #[.pointer (some ⟨F, 0, none⟩)] 80)).alloc (.cells #[.int .i64 (p : Int)] 3)) 3 #[.int .i64 0]
  simp only [World.size_alloc] at b1 b2
  exact ⟨Plb.start h hb (by simp), ((Blk.new w _ _).alloc _).alloc _, b1.alloc _, b2, (hb.cell (p := ⟨F, 0, none⟩) hFl).trans hF, hFl, hn⟩
 have H0 := hid h0
 have HP := hid h
 have HGd := hid hp
 have HAl := hid hal
 have HOk := hid h.ok
 have HBd := hid h.bd
 have hpl : p < 8192 := hp.lt h.ok h.bd
 clear h h0 hp hal hF
 refine callsIn_wide (n := 9) |>.1 ?_
 refine callsIn_of_wp_marks Tryz.func77 rfl trivial ?_ rfl
 refine wpIn_wide.2 ?_
 simp only [Tryz.ntmps77, List.size_toArray, List.length_cons, List.length_nil, Nat.reduceAdd, Nat.reduceSub, Array.replicate_succ, Array.replicate_zero, List.push_toArray, List.append_toArray, List.nil_append, List.cons_append]
 go_upto_region 1 with fail
 generalize ((w.alloc (.cells #[.pointer (some ⟨F, 0, none⟩)] 80)).alloc (.cells #[.int .i64 (p : Int)] 3)).alloc (.cells #[.int .i64 0] 3) = W0 at *
 obtain ⟨q0, hq0⟩ : ∃ q0, q0 = if p = 0 then s.nx else p := ⟨_, rfl⟩
 obtain ⟨t0, ht0⟩ : ∃ t0, t0 = if p = 0 then s.add s.nx else s := ⟨_, rfl⟩
 have HQ0 := hid hq0
 have HT0 := hid ht0
 have HTh := hid (show t0.There q0 from by
  by_cases h0 : p = 0
  ·rw [ht0, hq0, if_pos h0, if_pos h0]
   exact Ps.there_add.2 (.inr rfl)
  ·rw [ht0, hq0, if_neg h0, if_neg h0]
   exact HGd.out.there h0)
 have HMem := hid (show q0 ∈ t0.us from by
  by_cases h0 : p = 0
  ·rw [ht0, hq0, if_pos h0, if_pos h0]
   exact List.mem_append_right _ (by simp)
  ·rw [ht0, hq0, if_neg h0, if_neg h0]
   exact HGd.out.resolve_left h0)
 have HPs := hid (show pointS s p k tt = if Pt.pts (Pt.put (t0.g q0) k tt) = [] then (t0.del q0, 0) else (t0.put q0 (Pt.put (t0.g q0) k tt), q0) from pointS_eq hq0 ht0)
 clear hq0 ht0
 have x0 := H0.out.b0.cellv (i := 0) rfl
 have x1 := H0.out.b1.cellv (i := 0) rfl
 have x2 := H0.out.c0
 have x3 := H0.out.b1.frozen 0
 go_upto_if 12 with fail
 go_cut [] from 11 to 54 (fun wx => Hid (Npt NB B Q w F q0 P f t0 wx))
 case first =>
  by_cases h0 : p = 0
  ·have hA := Ps.nx_is (HAl.out h0)
   have HE0 := hid (show q0 = s.nx from HQ0.out.trans (if_pos h0))
   have HE1 := hid (show t0 = s.add s.nx from HT0.out.trans (if_pos h0))
   have HA := hid hA
   clear hA
   subst h0
   go_wp2_with fail
   refine (polAlloc_calls H0.out.pb.pl HA.out).mono ?_
   rintro e w1 ⟨rfl, hp1⟩
   have hn1 := H0.out.call hp1
   have HS1 := hid (hn1.setQ s.nx)
   have x4 := hn1.b1.cellv (i := 0) rfl
   have x5 := hn1.b1.frozen 0
   clear hp1 hn1 x1 x3
   go_wp2_with fail
   go_meet
   case rel =>
    refine hid ?_
    rw [HE0.out, HE1.out]
    exact HS1.out
  ·have g0 : ((p : Int) == 0) = false := by rw [beq_eq_false_iff_ne]; omega
   have HN0 := hid h0
   clear h0
   go_wp2_with fail
   go_meet
   case rel =>
    refine hid ?_
    rw [HQ0.out, HT0.out, if_neg HN0.out, if_neg HN0.out]
    exact H0.out
 case rest =>
  clear x0 x1 x2 x3
  have HN1 := hcut
  clear hcut
  generalize wc = wa at *
  obtain ⟨Q1, hQ1⟩ : ∃ Q1, Q1 = Ub Q (w.heap.size + 3) wa := ⟨_, rfl⟩
  have HP1 := hid (show PlM NB B Q1 wa P f t0 from by rw [hQ1]; exact HN1.out.pb.pl)
  have HNZ := hid (show ∀ k, w.heap.size ≤ k → k < w.heap.size + 3 → ¬ Q1 k from fun k h1 h2 => by rw [hQ1]; exact HN1.out.pb.far h1 h2)
  have HNF := hid (show ¬ Q1 F from by rw [hQ1]; exact HN1.out.pb.old hn hFl)
  have HQ1 := hid hQ1
  have HZM := hid HN1.out.pb.zm
  clear hQ1
  go_upto_region 3 with fail
  have HS := hid (show ∀ W, Kq Q1 wa W → W.cell? ⟨w.heap.size, 0, none⟩ = some (.pointer (some ⟨F, 0, none⟩)) ∧ W.cell? ⟨F, 0, none⟩ = some (.pointer (some ⟨P, 0, none⟩)) ∧ W.cell? ⟨w.heap.size + 1, 0, none⟩ = some (.int .i64 (q0 : Int)) from fun W hW => by
   have hz := HZM.out
   have z0 := HNZ.out w.heap.size (Nat.le_refl _) (by omega)
   have z1 := HNZ.out (w.heap.size + 1) (by omega) (by omega)
   exact ⟨kq_cell hW (HN1.out.b0.cellv (i := 0) rfl) (by show w.heap.size < _; omega) z0, kq_cell hW HN1.out.c0 (by show F < _; omega) HNF.out, kq_cell hW (HN1.out.b1.cellv (i := 0) rfl) (by show w.heap.size + 1 < _; omega) z1⟩)
  go_cut [9] from 10 to 54 (fun v9 wx => ∃ Zb a c, v9 = .pointer (some ⟨Zb, 0, none⟩) ∧ Hid (Nrg NB B Q1 wa P f t0 (t0.g q0) Zb a c wx))
  case first =>
   have HX := hid (HP1.out.ok.sz q0 HTh.out)
   have HS0 := hid (HS.out wa.drew (Kq.of (below_drew wa)))
   have HPd := hid (HP1.out.on (below_drew wa))
   have HKd := hid (Kq.of (T := Q1) (below_drew wa))
   refine wp_region_noPanic ?_
   refine wp_region_held_drew (S := (fun W' => W'.cell? ⟨w.heap.size, 0, none⟩ = some (.pointer (some ⟨F, 0, none⟩)) ∧ W'.cell? ⟨F, 0, none⟩ = some (.pointer (some ⟨P, 0, none⟩)) ∧ W'.cell? ⟨w.heap.size + 1, 0, none⟩ = some (.int .i64 (q0 : Int)))) (by kernel_rfl) HS0.out (fun hS0 => ?_)
   generalize wa.drew = W at *
   refine tk 0 ((.pointer (some ⟨F, 0, none⟩))) rfl (fun W hSw => ?_) ?_
   ·have y9 := hSw.1
    go_simp
   try simp only [layR]
   refine tk 1 ((.pointer (some ⟨F, 0, none⟩))) rfl (fun W hSw => ?_) ?_
   ·skip
    go_simp
   try simp only [layR]
   refine tk 2 ((.pointer (some ⟨F, 0, none⟩))) rfl (fun W hSw => ?_) ?_
   ·skip
    go_simp
   try simp only [layR]
   refine tk 3 ((.pointer (some ⟨P, 0, none⟩))) rfl (fun W hSw => ?_) ?_
   ·have y9 := hSw.2.1
    go_simp
   try simp only [layR]
   refine tk 4 ((.int .i64 (q0 : Int))) rfl (fun W hSw => ?_) ?_
   ·have y9 := hSw.2.2
    go_simp
   try simp only [layR]
   refine wpAnyH_ready (rs := [5, 9]) (by kernel_rfl) (by simp) ?_
   refine AllReadyH.cons rfl (fun K' hK => ?_) (AllReadyH.cons rfl (fun K' hK => ?_) AllReadyH.nil)
   ·go_simp
    refine (polGet_calls HPd.out HTh.out).mono ?_
    rintro e w1 ⟨⟨v, rfl, ho⟩, hp1, hk1⟩
    obtain ⟨a, c, rfl, hc⟩ := ho.formN HX.out
    have hk := HKd.out.trans hk1
    have hr := Nrg.a hp1 hk (ho.mono HKd.out.size)
    have hS1 := HS.out _ hk
    have hS2 := HS.out _ (hk.on ((Below.refl _ w1).alloc (Nat.le_refl _) (.cells #[.slice none 0 0] 40)))
    have hS3 := HS.out _ hr.kq
    have HR := hid hr
    clear ho hp1 hk1 hk hr
    refine hK.out _ _ hS1 (fun hS4 => ?_)
    try simp only [layR]
    refine tk 6 ((.tuple #[.slice a 64 c, .int .i64 0])) rfl (fun _ _ => rfl) ?_
    try simp only [layR]
    refine tk 7 ((.slice a 64 c)) rfl (fun _ _ => rfl) ?_
    try simp only [layR]
    refine tk 8 ((.int .i64 0)) rfl (fun _ _ => rfl) ?_
    try simp only [layR]
    refine rd 9 rfl (fun K' hK => ?_)
    go_simp
    refine hK.out _ _ hS2 (fun hS5 => ?_)
    try simp only [layR]
    refine rd 10 rfl (fun K' hK => ?_)
    go_simp
    refine hK.out _ _ hS3 (fun hS6 => ?_)
    try simp only [layR]
    refine tk 11 ((.int .i64 0)) rfl (fun _ _ => rfl) ?_
    try simp only [layR]
    refine wpAnyH_done (by kernel_rfl) ?_ _
    refine NoPanic.normal ?_
    clear hS0 hS1 hS2 hS3 hS4 hS5 hS6
    go_wp2_with fail
    go_meet
    case rel => exact ⟨_, a, c, rfl, HR⟩
   ·go_simp
    have hb1 := (Below.refl _ W).alloc (Nat.le_refl _) (.cells #[.slice none 0 0] 40)
    have hS1 := HS.out _ (HKd.out.on hb1)
    have HPe := hid (HPd.out.on hb1)
    clear hb1
    refine hK.out _ _ hS1 (fun hS4 => ?_)
    try simp only [layR]
    refine rd 5 rfl (fun K' hK => ?_)
    go_simp
    refine (polGet_calls HPe.out HTh.out).mono ?_
    rintro e w1 ⟨⟨v, rfl, ho⟩, hp1, hk1⟩
    obtain ⟨a, c, rfl, hc⟩ := ho.formN HX.out
    have hr := Nrg.b hp1 HPd.out HKd.out rfl hk1 ho
    have hzb := (Blk.new W 40 #[.slice none 0 0]).kq hk1 (HPd.out.not_new (Nat.le_refl _))
    have z1 := hzb.cellv (i := 0) rfl
    have z2 := hzb.frozen 0
    have hS2 := HS.out _ ((HKd.out.on ((Below.refl _ W).alloc (Nat.le_refl _) (.cells #[.slice none 0 0] 40))).trans hk1)
    have hS3 := HS.out _ hr.kq
    have HR := hid hr
    clear ho hp1 hk1 hr hzb
    refine hK.out _ _ hS2 (fun hS5 => ?_)
    try simp only [layR]
    refine tk 6 ((.tuple #[.slice a 64 c, .int .i64 0])) rfl (fun _ _ => rfl) ?_
    try simp only [layR]
    refine tk 7 ((.slice a 64 c)) rfl (fun _ _ => rfl) ?_
    try simp only [layR]
    refine tk 8 ((.int .i64 0)) rfl (fun _ _ => rfl) ?_
    try simp only [layR]
    refine rd 10 rfl (fun K' hK => ?_)
    go_simp
    refine hK.out _ _ hS3 (fun hS6 => ?_)
    try simp only [layR]
    refine tk 11 ((.int .i64 0)) rfl (fun _ _ => rfl) ?_
    try simp only [layR]
    refine wpAnyH_done (by kernel_rfl) ?_ _
    refine NoPanic.normal ?_
    clear hS0 hS1 hS2 hS3 hS4 hS5 hS6
    go_wp2_with fail
    go_meet
    case rel => exact ⟨_, a, c, rfl, HR⟩
  case rest =>
   obtain ⟨Zb, a, c, rfl, HR⟩ := hcut
   obtain ⟨y0, y1, y2⟩ := HS.out wc HR.out.kq
   have z1 := HR.out.bx.cellv (i := 0) rfl
   have z2 := HR.out.bx.frozen 0
   have HX := hid (HP1.out.ok.sz q0 HTh.out)
   obtain ⟨x, hx⟩ : ∃ x, x = t0.g q0 := ⟨_, rfl⟩
   have HXe := hid hx
   rw [← hx] at HR HX
   clear hx
   have hpt := Pt.pointed (xs := x) (k := (k : Int)) (tt := (tt : Int)) ⟨by rw [HX.out]; exact ⟨.inl rfl, by omega, by omega⟩, by unfold Nod.Pg; omega⟩
   simp only [Int.toNat_natCast] at hpt
   have HPt := hid hpt
   have HL1 := hid (show (Pt.put x k tt).length = 64 by rw [Pt.put_len (by rw [HX.out]; omega), HX.out])
   clear hpt
   go_wp2_with fail
   refine (point_calls a 64 c x (k : Int) (tt : Int) wc (HR.out.ow.arr (by rw [HX.out]; omega))).mono ?_
   rintro e w2 ⟨v, rfl, ho, hb⟩
   rw [HPt.out.2]
   rw [HPt.out.1] at ho
   obtain ⟨a2, c2, rfl, hc2⟩ := ho.formN HL1.out
   have hbs : Kq (fun q => q = Zb) w2 (w2.setCell ⟨Zb, 0, none⟩ (.slice a2 64 c2)) := Kq.one ⟨Zb, 0, none⟩ _
   have hZb := HR.out.bx.lt
   have hZn : ¬ Q1 Zb := HP1.out.not_new HR.out.zb
   have hk3 : Kq (fun q => q = Zb) wc (w2.setCell ⟨Zb, 0, none⟩ (.slice a2 64 c2)) := (Kq.of hb).trans hbs
   have hp3 := HR.out.pl.kq hk3 fun q hq e => hZn (e ▸ hq)
   have hr3 := ho.far (p := ⟨Zb, 0, none⟩) (fun e => by have := (ho.blockLt _ e).1; simp only at this; omega) (.slice a2 64 c2)
   have hb3 := (HR.out.bx.belowHere hb).set 0 (.slice a2 64 c2)
   have z3 := (HR.out.bx.belowHere hb).cellv (i := 0) rfl
   have z4 := (HR.out.bx.belowHere hb).frozen 0
   have HK3 := hid ((HR.out.kq.then_ hk3 fun q e => .inr (by have := HR.out.zb; omega)))
   have HP3 := hid hp3
   have HR3 := hid hr3
   have HB3 := hid (show Blk (w2.setCell ⟨Zb, 0, none⟩ (.slice a2 64 c2)) Zb 40 #[.slice a2 64 c2] from hb3)
   have z5 := HB3.out.cellv (i := 0) rfl
   clear y0 y1 y2 z1 z2 hb hbs hk3 hp3 hr3 hb3 ho
   go_upto_region 5 with fail
   generalize w2.setCell ⟨Zb, 0, none⟩ (.slice a2 64 c2) = w3 at *
   clear z3 z4
   go_wp2_with fail
   refine (ptsFn a2 64 c2 w3).mono ?_
   rintro e w' ⟨rfl, rfl⟩
   have hb4 : Below w3.heap.size w3 (w3.alloc (.cells #[.slice a2 64 c2] 40)) := (Below.refl _ _).alloc (Nat.le_refl _) _
   have HC4 := hid (Blk.new w3 40 #[.slice a2 64 c2])
   have HK4 := hid (HK3.out.on hb4)
   have HP4 := hid (HP3.out.on hb4)
   have HR4 := hid (HR3.out.on hb4)
   have HB4 := hid (HB3.out.belowHere hb4)
   have HC4l := hid (show (w3.alloc (.cells #[.slice a2 64 c2] 40)).heap.size = w3.heap.size + 1 by simp)
   have HK34 := hid HK3.out.size
   have HZwc := hid (show wa.heap.size ≤ wc.heap.size from HR.out.kq.size)
   have HZb := hid hZb
   have HZba := hid HR.out.zb
   clear hb4 HK3 HP3 HR3 HB3 z5 hZn hZb
   generalize w3.alloc (.cells #[.slice a2 64 c2] 40) = w4 at *
   generalize w3.heap.size = C at *
   obtain ⟨x1, hx1⟩ : ∃ x1, x1 = Pt.put x k tt := ⟨_, rfl⟩
   have HPs2 := hid (show pointS s p k tt = if Pt.pts x1 = [] then (t0.del q0, 0) else (t0.put q0 x1, q0) from by rw [hx1, HXe.out]; exact HPs.out)
   rw [← hx1] at HR4 HL1
   clear hx1 HPs
   go_wp2_with fail
   refine wpNamed fun T hT => ?_
   have hit := pts_iterX a2 64 c2 x1 C w4 (HR4.out.arr (by rw [HL1.out]; omega)) HC4.out
   have hI : JX (fun _ => False) w4.heap.size (fun (pre : List (Nat × Nat)) (X : Nat → Prop) (W : World) => pre = [] ∧ (∀ q, X q ↔ Q1 q ∨ q = w.heap.size + 2) ∧ Below w4.heap.size w4 W) := by
    refine ⟨?_, ?_⟩
    ·rintro pre X W ⟨_, h1, h2⟩ q hq
     have := h2.size
     rcases (h1 q).1 hq with h3 | h3
     ·have := (HP4.out.bnd q h3).2; omega
     ·have := HK4.out.size; have := HZM.out; omega
    ·rintro pre X W W' T' ⟨h0, h1, h2⟩ hk hn
     exact ⟨h0, h1, h2.trans (hk.below (fun k h => ((hn k h).1.resolve_left id)) h2.size)⟩
   have hIx : ∀ kc : Code, JX (fun _ => False) w4.heap.size (fun (pre : List (Nat × Nat)) (X : Nat → Prop) (W : World) => kc = Code.ret ∧ pre ≠ [] ∧ X (w.heap.size + 2) ∧ W.cell? ⟨w.heap.size + 2, 0, none⟩ = some (.int .i64 (q0 : Int)) ∧ (∃ U : Nat → Prop, PlM NB B U W P f (t0.put q0 x1) ∧ (∀ q, U q → X q) ∧ ∀ q, U q → Q1 q ∨ w4.heap.size ≤ q) ∧ Kq (fun q => Q1 q ∨ q = w.heap.size + 2) w4 W ∧ ∀ q, X q → q < W.heap.size) := by
    intro kc
    refine ⟨fun pre X W h => h.2.2.2.2.2.2, ?_⟩
    rintro pre X W W' T' ⟨h1, h2, h3, h4, ⟨U, h5, h6, h7⟩, h8, h9⟩ hk hn
    refine ⟨h1, h2, h3, kq_cell hk h4 (h9 _ h3) fun h => (hn _ h).2 h3, ⟨U, h5.kq hk fun q hq h => (hn q h).2 (h6 q hq), h6, h7⟩, h8.then_ hk fun q h => .inr ((hn q h).1.resolve_left id), fun q h => Nat.lt_of_lt_of_le (h9 q h) hk.size⟩
   refine wpIn_wide.1 (range_lawX (gf := 160) (lb := #[.pointer (some ⟨C, 0, none⟩)]) (encs := ptEnc) (xs := Pt.pts x1) (T := fun _ => False) (own := ptOwn a2 C) (w0 := w4) (by rw [hT]; rfl) (enters_of Tryz.func160 (by kernel_rfl) rfl) hit (fun _ _ _ _ _ _ => trivial) (Kq.refl _ _) ?own (fun q h => h.elim) (fun _ => rfl)
    _ hI _ hIx (.inl trivial) (fun q => Q1 q ∨ q = w.heap.size + 2) ⟨rfl, fun q => Iff.rfl, Below.refl _ _⟩ ?dis (fun x => ⟨(T.setIfInBounds 39 (.int .i64 (x.1 : Int))).setIfInBounds 40 (.int .i64 (x.2 : Int)), []⟩) ?assign ?body ?done ?stop)
   case own =>
    rintro q (rfl | ⟨b, o, e, rfl⟩)
    ·exact HC4.out.lt
    ·exact (HR4.out.blockLt q (by rw [e]; rfl)).2
   case dis =>
    rintro q (h | h)
    ·refine ⟨id, ?_⟩
     have h1 := (HP1.out.bnd q h).2
     rintro (h2 | ⟨b, o, e, h2⟩)
     ·have := HK34.out; have := HC4l.out; have := HK4.out.size; omega
     ·have h3 := (HR4.out.blockLt b (by rw [e]; rfl)).1
      have := HZwc.out
      omega
    ·refine ⟨id, ?_⟩
     have := HZM.out
     rintro (h2 | ⟨b, o, e, h2⟩)
     ·have := HK34.out; omega
     ·have h3 := (HR4.out.blockLt b (by rw [e]; rfl)).1
      have := HZwc.out
      omega
   case assign =>
    intro lp y W K hK
    unfold ptEnc
    have h9 := zip2 39 40 T (.int .i64 (y.1 : Int)) (.int .i64 (y.2 : Int))
    rw [h9]
    have HKa := hid hK
    clear hK hit hI hIx h9
    gi_wp2
    exact HKa.out
   case body =>
    rintro lp pre y X1 W ⟨rfl, hX, hb⟩ hg hs hpre
    have HX1 := hid hX
    have HBW := hid hb
    have HKW := hid (HK4.out.on hb)
    have HPW := hid ((HP4.out.on hb).drew)
    have HRW := hid ((HR4.out.on hb).drew)
    have HZ2 := hid ((HN1.out.b2.kq HKW.out (HNZ.out _ (by omega) (by omega))))
    have HS1 := hid (show W.drew.cell? ⟨w.heap.size, 0, none⟩ = some (.pointer (some ⟨F, 0, none⟩)) ∧ W.drew.cell? ⟨F, 0, none⟩ = some (.pointer (some ⟨P, 0, none⟩)) ∧ W.drew.cell? ⟨w.heap.size + 1, 0, none⟩ = some (.int .i64 (q0 : Int)) ∧ W.drew.cell? ⟨Zb, 0, none⟩ = some (.slice a2 64 c2) from by
     obtain ⟨s0, s1, s2⟩ := HS.out W.drew (HKW.out.on (below_drew W))
     exact ⟨s0, s1, s2, ((HB4.out.belowHere hb).drew).cellv rfl⟩)
    have HKd := hid (Kq.of (T := Q1) (below_drew W))
    have HLt := hid (show Zb < w4.heap.size ∧ wa.heap.size ≤ w4.heap.size ∧ w.heap.size + 3 ≤ wa.heap.size ∧ w4.heap.size ≤ W.heap.size from ⟨HB4.out.lt, HK4.out.size, HZM.out, hs⟩)
    clear hX hb hg hs hit hI hIx
    subst hT
    simp only [List.setIfInBounds_toArray, List.set_cons_succ, List.set_cons_zero]
    gi_wp2_with fail
    refine region_round (S := (fun W' => W'.cell? ⟨w.heap.size, 0, none⟩ = some (.pointer (some ⟨F, 0, none⟩)) ∧ W'.cell? ⟨F, 0, none⟩ = some (.pointer (some ⟨P, 0, none⟩)) ∧ W'.cell? ⟨w.heap.size + 1, 0, none⟩ = some (.int .i64 (q0 : Int)) ∧ W'.cell? ⟨Zb, 0, none⟩ = some (.slice a2 64 c2))) (by kernel_rfl) (by kernel_rfl) HS1.out (fun hS0 => ?_)
    generalize W.drew = Wd at *
    refine tk 0 ((.pointer (some ⟨F, 0, none⟩))) rfl (fun W hSw => ?_) ?_
    ·have y9 := hSw.1
     go_simp
    try simp only [layR]
    refine tk 1 ((.pointer (some ⟨F, 0, none⟩))) rfl (fun W hSw => ?_) ?_
    ·skip
     go_simp
    try simp only [layR]
    refine tk 2 ((.pointer (some ⟨F, 0, none⟩))) rfl (fun W hSw => ?_) ?_
    ·skip
     go_simp
    try simp only [layR]
    refine tk 3 ((.pointer (some ⟨P, 0, none⟩))) rfl (fun W hSw => ?_) ?_
    ·have y9 := hSw.2.1
     go_simp
    try simp only [layR]
    refine tk 4 ((.int .i64 (q0 : Int))) rfl (fun W hSw => ?_) ?_
    ·have y9 := hSw.2.2.1
     go_simp
    try simp only [layR]
    refine tk 5 ((.slice a2 64 c2)) rfl (fun W hSw => ?_) ?_
    ·have y9 := hSw.2.2.2
     go_simp
    try simp only [layR]
    refine rd 6 rfl (fun K' hK => ?_)
    go_simp
    refine (polPut_calls HPW.out HTh.out a2 c2 x1 (HRW.out.arr (by rw [HL1.out]; omega))).mono ?_
    rintro e w5 ⟨rfl, hp5⟩
    have hk5 := hp5.2
    have hz5 := hp5.size
    have hn0 := HNZ.out w.heap.size (Nat.le_refl _) (by omega)
    have hn1 := HNZ.out (w.heap.size + 1) (by omega) (by omega)
    have hn2 := HNZ.out (w.heap.size + 2) (by omega) (by omega)
    have l5 := HLt.out
    have lW : W.heap.size ≤ Wd.heap.size := HKd.out.size
    have s5 : w5.cell? ⟨w.heap.size + 1, 0, none⟩ = some (.int .i64 (q0 : Int)) := kq_cell hk5 hS0.2.2.1 (by show w.heap.size + 1 < _; omega) hn1
    have b5 := (HZ2.out.kq HKd.out hn2).kq hk5 hn2
    have s6 := b5.cellv (i := 0) rfl
    have s7 := b5.frozen 0
    have hst : Kq (fun q => q = w.heap.size + 2) w5 (w5.setCell ⟨w.heap.size + 2, 0, none⟩ (.int .i64 (q0 : Int))) := Kq.one ⟨w.heap.size + 2, 0, none⟩ _
    have HFin := hid (show LeftX (fun (pre : List (Nat × Nat)) (X : Nat → Prop) (W : World) => pre = [] ∧ (∀ q, X q ↔ Q1 q ∨ q = w.heap.size + 2) ∧ Below w4.heap.size w4 W) (fun (kc : Code) (pre : List (Nat × Nat)) (X : Nat → Prop) (W : World) => kc = Code.ret ∧ pre ≠ [] ∧ X (w.heap.size + 2) ∧ W.cell? ⟨w.heap.size + 2, 0, none⟩ = some (.int .i64 (q0 : Int)) ∧ (∃ U : Nat → Prop, PlM NB B U W P f (t0.put q0 x1) ∧ (∀ q, U q → X q) ∧ ∀ q, U q → Q1 q ∨ w4.heap.size ≤ q) ∧ Kq (fun q => Q1 q ∨ q = w.heap.size + 2) w4 W ∧ ∀ q, X q → q < W.heap.size) ([] ++ [y]) X1 W .ret ⟨#[], []⟩ (w5.setCell ⟨w.heap.size + 2, 0, none⟩ (.int .i64 (q0 : Int))) from by
     have hX1 := HX1.out
     have hkA : Kq X1 W (w5.setCell ⟨w.heap.size + 2, 0, none⟩ (.int .i64 (q0 : Int))) := ((HKd.out.mono fun q h => (hX1 q).2 (.inl h)).trans (hk5.mono fun q h => (hX1 q).2 (.inl h))).trans (hst.mono fun q h => (hX1 q).2 (.inr h))
     refine ⟨⟨fun q => Up Q1 Wd w5 q ∨ q = w.heap.size + 2, ⟨rfl, by simp, .inr rfl, (b5.set 0 (.int .i64 (q0 : Int))).cellv rfl, ⟨Up Q1 Wd w5, hp5.1.kq hst fun q hq e => ?_, fun q hq => .inl hq, fun q hq => ?_⟩, ?_, fun q hq => ?_⟩, fun q hq => ?_⟩, hkA⟩
     ·subst e
      rcases hq with h | h
      ·exact hn2 h
      ·omega
     ·rcases hq with h | h
      ·exact .inl h
      ·exact .inr (by omega)
     ·exact ((Kq.of HBW.out).mono (T' := fun q => Q1 q ∨ q = w.heap.size + 2) (fun _ h => h)).then_ hkA fun q h => .inl ((hX1 q).1 h)
     ·have hzz := hst.size
      rcases hq with (h | h) | h
      ·have := (hp5.1.bnd q (.inl h)).2; omega
      ·omega
      ·omega
     ·rcases hq with (h | h) | h
      ·exact .inl ((hX1 q).2 (.inl h))
      ·exact .inr (by omega)
      ·exact .inl ((hX1 q).2 (.inr h)))
    have hS5 : w5.cell? ⟨w.heap.size, 0, none⟩ = some (.pointer (some ⟨F, 0, none⟩)) ∧ w5.cell? ⟨F, 0, none⟩ = some (.pointer (some ⟨P, 0, none⟩)) ∧ w5.cell? ⟨w.heap.size + 1, 0, none⟩ = some (.int .i64 (q0 : Int)) ∧ w5.cell? ⟨Zb, 0, none⟩ = some (.slice a2 64 c2) :=
     ⟨kq_cell hk5 hS0.1 (by show w.heap.size < _; omega) hn0, kq_cell hk5 hS0.2.1 (by show F < _; omega) HNF.out, s5, kq_cell hk5 hS0.2.2.2 (by show Zb < _; omega) (HP1.out.not_new (by have := HZba.out; omega))⟩
    refine hK.out _ _ hS5 (fun hS6 => ?_)
    try simp only [layR]
    clear hp5 hk5 hst b5
    refine wpAnyH_done (by kernel_rfl) ?_ _
    refine Calm.normal ?_
    clear hS0 hS6 hS5
    gi_wp2
    exact HFin.out
   case done =>
    rintro D X1 W hD ⟨hpre, hX, hb⟩ hg hk _ _ hK
    have HPs3 := hid (show pointS s p k tt = (t0.del q0, 0) from HPs2.out.trans (if_pos hpre))
    have HKW := hid (HK4.out.on hb)
    have HPW := hid ((HP4.out.on hb).drew)
    have HZ2 := hid ((HN1.out.b2.kq HKW.out (HNZ.out _ (by omega) (by omega))).drew)
    have HS1 := hid (HS.out W.drew (HKW.out.on (below_drew W)))
    have HKd := hid (HKW.out.on (below_drew W))
    have HLt := hid (show wa.heap.size ≤ w4.heap.size ∧ w.heap.size + 3 ≤ wa.heap.size ∧ w4.heap.size ≤ D ∧ w4.heap.size ≤ W.heap.size ∧ D < W.heap.size from ⟨HK4.out.size, HZM.out, hD, hb.size, (Array.getElem?_eq_some_iff.1 hK).1⟩)
    have HD1 := hid (show W.drew.heap[D]? = some (.deferred (some [])) from hK)
    clear hpre hX hb hg hk hK hit hI hIx hD
    subst hT
    go_wp2_with fail
    refine wp_region_noPanic ?_
    refine wp_region_held_drew (S := (fun W' => W'.cell? ⟨w.heap.size, 0, none⟩ = some (.pointer (some ⟨F, 0, none⟩)) ∧ W'.cell? ⟨F, 0, none⟩ = some (.pointer (some ⟨P, 0, none⟩)) ∧ W'.cell? ⟨w.heap.size + 1, 0, none⟩ = some (.int .i64 (q0 : Int)))) (by kernel_rfl) HS1.out (fun hS0 => ?_)
    have HsW := hid (show W.drew.heap.size = W.heap.size from rfl)
    generalize W.drew = Wd at *
    refine tk 0 ((.pointer (some ⟨F, 0, none⟩))) rfl (fun W hSw => ?_) ?_
    ·have y9 := hSw.1
     go_simp
    try simp only [layR]
    refine tk 1 ((.pointer (some ⟨F, 0, none⟩))) rfl (fun W hSw => ?_) ?_
    ·skip
     go_simp
    try simp only [layR]
    refine tk 2 ((.pointer (some ⟨F, 0, none⟩))) rfl (fun W hSw => ?_) ?_
    ·skip
     go_simp
    try simp only [layR]
    refine tk 3 ((.pointer (some ⟨P, 0, none⟩))) rfl (fun W hSw => ?_) ?_
    ·have y9 := hSw.2.1
     go_simp
    try simp only [layR]
    refine tk 4 ((.int .i64 (q0 : Int))) rfl (fun W hSw => ?_) ?_
    ·have y9 := hSw.2.2
     go_simp
    try simp only [layR]
    refine rd 5 rfl (fun K' hK => ?_)
    go_simp
    refine (polFree_calls HPW.out HMem.out).mono ?_
    rintro e w5 ⟨rfl, hp5⟩
    have hk5 := hp5.2
    have hz5 := hp5.size
    have l5 := HLt.out
    have l6 := HsW.out
    have hn2 := HNZ.out (w.heap.size + 2) (by omega) (by omega)
    have b5 := HZ2.out.kq hk5 hn2
    have s6 := b5.cellv (i := 0) rfl
    have s7 := b5.frozen 0
    have hst : Kq (fun q => q = w.heap.size + 2) w5 (w5.setCell ⟨w.heap.size + 2, 0, none⟩ (.int .i64 0)) := Kq.one ⟨w.heap.size + 2, 0, none⟩ _
    have HD5 := hid (show (w5.setCell ⟨w.heap.size + 2, 0, none⟩ (.int .i64 0)).heap[D]? = some (.deferred (some [])) from (hst.block D (by omega) (fun e => by omega)).trans ((hk5.block D (by omega) (HP1.out.not_new (by omega))).trans HD1.out))
    have hr5 := (b5.set 0 (.int .i64 0)).cellv (i := 0) rfl
    have HR5 := hid (fun o : Obj => (show ((w5.setCell ⟨w.heap.size + 1 + 1, 0, none⟩ (.int .i64 0)).putObj D o).cell? ⟨w.heap.size + 1 + 1, 0, none⟩ = some (.int .i64 0) from kq_cell (kq_putObj (w5.setCell ⟨w.heap.size + 2, 0, none⟩ (.int .i64 0)) D o) hr5 (by have := hst.size; show w.heap.size + 2 < _; omega) (fun e => by have e2 : w.heap.size + 2 = D := e; omega)))
    have HFin := hid (fun o : Obj => (show PlR NB B Q w ((w5.setCell ⟨w.heap.size + 1 + 1, 0, none⟩ (.int .i64 0)).putObj D o) P f (t0.del q0) from by
     have hkD := (hst.mono (T' := fun q => q = w.heap.size + 2 ∨ q = D) fun q e => .inl e).trans ((kq_putObj (w5.setCell ⟨w.heap.size + 2, 0, none⟩ (.int .i64 0)) D o).mono fun q e => .inr e)
     have q1T : ∀ q, Q1 q → Q q ∨ w.heap.size ≤ q := fun q h => by
      rw [HQ1.out] at h
      rcases h with h | h
      ·exact .inl h
      ·exact .inr (by omega)
     refine Plb.finish HN1.out.pb HP.out (U := Up Q1 Wd w5) (fun q h => ?_) hp5.1 ((HKd.out.trans hk5).mono q1T) hkD fun q h => ?_
     ·rcases h with h | h
      ·exact q1T q h
      ·exact .inr (by omega)
     ·rcases h with h | h
      ·subst h
       refine ⟨by omega, fun h => ?_⟩
       rcases h with h | h
       ·exact hn2 h
       ·omega
      ·subst h
       refine ⟨by omega, fun h => ?_⟩
       rcases h with h | h
       ·exact HP1.out.not_new (by omega) h
       ·omega))
    have hS5 : w5.cell? ⟨w.heap.size, 0, none⟩ = some (.pointer (some ⟨F, 0, none⟩)) ∧ w5.cell? ⟨F, 0, none⟩ = some (.pointer (some ⟨P, 0, none⟩)) ∧ w5.cell? ⟨w.heap.size + 1, 0, none⟩ = some (.int .i64 (q0 : Int)) := HS.out w5 (HKd.out.trans hk5)
    refine hK.out _ _ hS5 (fun hS6 => ?_)
    try simp only [layR]
    clear hp5 hk5 hst b5
    refine wpAnyH_done (by kernel_rfl) ?_ _
    refine NoPanic.normal ?_
    clear hS0 hS6 hS5
    go_wp2
    refine ⟨by simp, .inl ⟨_, _, rfl, run_takeDeferred HD5.out, ?_⟩⟩
    have hr9 := HR5.out (.deferred none)
    refine ⟨.int .i64 0, by simp [results, Tryz.results77, go_sem, hr9], ?_, ?_⟩
    ·rw [HPs3.out]
     rfl
    ·rw [HPs3.out]
     exact HFin.out _
   case stop =>
    rintro D kc pre X1 W hD hpre ⟨rfl, hne, hX2, hr5, ⟨U, hU, hUX, hUn⟩, hkw, hXb⟩ hg hk hnD _ hK
    have hl : D < W.heap.size := (Array.getElem?_eq_some_iff.1 hK).1
    have HPs3 := hid (show pointS s p k tt = (t0.put q0 x1, q0) from HPs2.out.trans (if_neg (fun h => hne (List.prefix_nil.1 (by rw [h] at hpre; exact hpre)))))
    have l5 : wa.heap.size ≤ w4.heap.size ∧ w.heap.size + 3 ≤ wa.heap.size ∧ w4.heap.size ≤ D := ⟨HK4.out.size, HZM.out, hD⟩
    have HD5 := hid hK
    have HR5 := hid (fun o : Obj => (show (W.putObj D o).cell? ⟨w.heap.size + 1 + 1, 0, none⟩ = some (.int .i64 (q0 : Int)) from kq_cell (kq_putObj W D o) hr5 (by show w.heap.size + 2 < _; omega) (fun e => by have e2 : w.heap.size + 2 = D := e; omega)))
    have HFin := hid (fun o : Obj => (show PlR NB B Q w (W.putObj D o) P f (t0.put q0 x1) from by
     have q1T : ∀ q, Q1 q → Q q ∨ w.heap.size ≤ q := fun q h => by
      rw [HQ1.out] at h
      rcases h with h | h
      ·exact .inl h
      ·exact .inr (by omega)
     refine Plb.finish HN1.out.pb HP.out (U := U) (fun q h => ?_) hU ((HK4.out.mono q1T).trans (hkw.mono fun q h => ?_)) (kq_putObj W D o) fun q h => ?_
     ·rcases hUn q h with h | h
      ·exact q1T q h
      ·exact .inr (by omega)
     ·rcases h with h | h
      ·exact q1T q h
      ·exact .inr (by omega)
     ·subst h
      exact ⟨by omega, fun h => hnD q (hUX q h) rfl⟩))
    clear hg hk hK hit hI hIx hD hkw hXb hr5 hU hUX hUn hpre hne hnD
    subst hT
    refine wpIn_wide.2 ?_
    go_wp2
    refine ⟨by simp, .inl ⟨_, _, rfl, run_takeDeferred HD5.out, ?_⟩⟩
    have hr9 := HR5.out (.deferred none)
    refine ⟨.int .i64 (q0 : Int), by simp [results, Tryz.results77, go_sem, hr9], ?_, ?_⟩
    ·rw [HPs3.out]
    ·rw [HPs3.out]
     exact HFin.out _
end Go.Proofs.YtcppkaphlcflgaaGreat
