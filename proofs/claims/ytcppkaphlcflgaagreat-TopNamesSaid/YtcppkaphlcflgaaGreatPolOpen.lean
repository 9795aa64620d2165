import Derived.Test.YtcppkaphlcflgaaGreatPolAlloc
import Derived.Deep.DeepCutAuto
namespace Go.Proofs.YtcppkaphlcflgaaGreat
open Lib (hid)
set_option maxRecDepth 100000
set_option maxHeartbeats 16000000
open Go.RowKit Go.Maps Go.ChangeMaps Ftl Pol

theorem fText_calls {NB B : Nat} {R : Nat → Prop} {w : World} {f : Fm} (h : FtM NB B R w f) (hx : f.tx.length = 56) :
  Calls Tryz.prog 27 #[.pointer (some ⟨f.F, 0, none⟩)] w fun e w' => (∃ a c, e = .returned (.slice a 56 c) ∧ Own byteV 5 w' w.heap.size (.slice a 56 c) f.tx) ∧ Below w.heap.size w w' := by
 have c4 := h.c4
 obtain ⟨a, c, hv, hb⟩ : ∃ a c, f.tv = .slice a 56 c ∧ Bytes w w.heap.size a 56 f.tx := by
  obtain ⟨_, hc, _⟩ := id h
  rcases hc.hT with ⟨b, ho⟩ | ⟨⟨a, n, c, hv, hb⟩, _⟩
  ·obtain ⟨a, c, hv, _⟩ := ho.formN hx
   rw [hv] at ho
   exact ⟨a, c, hv, by have := ho.arr (by omega); exact this⟩
  ·have := hb.len
   obtain rfl : n = 56 := by omega
   exact ⟨a, c, hv, hb⟩
 rw [hv] at c4
 have hC := hid (clone_calls a 56 c f.tx w hb)
 have HX := hid hx
 clear h hb hx hv
 go_enter Tryz.func27, Tryz.ntmps27
 go_wp2_with fail
 refine hC.out.mono ?_
 rintro e w1 ⟨⟨v, rfl, ho⟩, hb⟩
 obtain ⟨a', c', hv', _⟩ := ho.formN HX.out
 have HB := hid hb
 subst hv'
 have HO := hid ho
 clear ho hb
 go_wp2
 go_ret
 exact ⟨⟨_, _, rfl, HO.out⟩, HB.out⟩
def Ps.new0 (f : Fm) (tb np ino : Nat) : Ps := ⟨tb, np, ino, [], fun n => if 1 ≤ n ∧ n ≤ tb then pgF f [] n else []⟩
def OpOut (w : World) (F : Nat) (s : Ps) (wx : World) (Z : Nat) : Prop := ∃ U D, Blk wx Z 74 (plA F U D s) ∧ MapK usE Tryz.prog 3 wx U [] ∧ MapK diE Tryz.prog 3 wx D [] ∧ w.heap.size ≤ Z ∧ w.heap.size ≤ U ∧ w.heap.size ≤ D ∧ Z ≠ U ∧ Z ≠ D ∧ U ≠ D ∧ Below w.heap.size w wx
theorem vwLen {NB : Nat} {f : Fm} (hc : Fc NB f) (n : Nat) : (pgF f [] n).length = 64 := by
 unfold pgF
 show (match vw f n with | some y => y.2 | none => zeros).length = 64
 cases hv : vw f n with
 | some y =>
  obtain ⟨e, he, h1, _⟩ := vw_some hv
  simp only
  rw [← h1]
  exact (hc.fi.ok e (curE_mem he)).len
 | none => exact zeros_len
theorem OpOut.pl {NB B : Nat} {R : Nat → Prop} {w wx : World} {f : Fm} {tb np ino Z : Nat} (h : OpOut w f.F (Ps.new0 f tb np ino) wx Z) (hf : FtM NB B R w f) (hc : Fc NB f) (hb : tb + np + 2 < (NB - 3) * 8 ∧ tb + np < 8192) : PlR NB B R w wx Z f (Ps.new0 f tb np ino) := by
 obtain ⟨U, D, h1, h2, h3, z1, z2, z3, z4, z5, z6, z7⟩ := h
 have hs := z7.size
 have hB := hf.base
 have hZ := h1.lt
 have hU := h2.lt
 have hD := h3.lt
 refine ⟨⟨U, D, [], R, ⟨h1, h2, h3, hf.on z7, hc, ⟨(fun n hn => by cases hn), List.nodup_nil, fun n hn => ?_, fun n hn => ?_⟩, hb, (fun d hd => by cases hd), (fun d hd => by cases hd), fun n hn => ?_, ⟨z4, z5, z6⟩, ⟨hf.not_new z1, hf.not_new z2, hf.not_new z3⟩, fun d hd => by cases hd⟩, fun q hq => ?_, fun q hq => ?_⟩, Kq.of z7⟩
 ·have hn : 1 ≤ n ∧ n ≤ tb := by
   rcases hn with h | h
   ·exact h
   ·cases h
  show (if 1 ≤ n ∧ n ≤ tb then pgF f [] n else []).length = 64
  rw [if_pos hn]
  exact vwLen hc n
 ·exact if_neg fun h => hn (.inl h)
 ·have hn : 1 ≤ n ∧ n ≤ tb := by
   rcases hn with h | h
   ·exact h
   ·cases h
  exact if_pos hn
 ·rcases hq with e | e | e | e | ⟨d, hd, _⟩
  ·exact .inr ⟨by omega, by omega⟩
  ·exact .inr ⟨by omega, by omega⟩
  ·exact .inr ⟨by omega, by omega⟩
  ·exact .inl e
  ·cases hd
 ·rcases hq with e | e
  ·have := hf.bnd q e; omega
  ·omega
theorem polOpen_calls {NB B tb np ino : Nat} {R : Nat → Prop} {w : World} {f : Fm} (h : FtM NB B R w f) (hc : Fc NB f) (hx : f.tx.length = 56) (h1 : 1 ≤ tb) (hn : 1 ≤ np) (hb : tb + np + 2 < (NB - 3) * 8 ∧ tb + np < 8192) :
  Calls Tryz.prog 6 #[.pointer (some ⟨f.F, 0, none⟩), .agg #[.int .i64 (tb : Int), .int .i64 ((tb : Int) + 1), .int .i64 (np : Int), .int .i64 (ino : Int)], .slice none 0 0] w fun e w' => ∃ Z, e = .returned (.tuple #[.pointer (some ⟨Z, 0, none⟩), .int .i64 0]) ∧ PlR NB B R w w' Z f (Ps.new0 f tb np ino) ∧ w.heap.size ≤ Z := by
 have hnb := hc.fi.nb
 have hba := (Below.refl w.heap.size w).alloc (Nat.le_refl _) (.cells #[.int .i64 (tb : Int), .int .i64 ((tb : Int) + 1), .int .i64 (np : Int), .int .i64 (ino : Int)] 32)
 have H0 := hid h
 have HF := hid ((h.on hba).on (below_drew _))
 have HC := hid hc
 have HI := hid hc.fi
 have HX := hid hx
 have HBd := hid hb
 have HL := hid (Blk.new w 32 #[.int .i64 (tb : Int), .int .i64 ((tb : Int) + 1), .int .i64 (np : Int), .int .i64 (ino : Int)])
 have HB := hid hba
 obtain ⟨CC, hCC⟩ : ∃ CC, CC = ((NB : Int) - 3) * 8 - 2 := ⟨_, rfl⟩
 have g1 : ¬ (tb : Int) < 1 := by omega
 have g2 : ¬ (np : Int) < 1 := by omega
 have g3 := IntWalk.i64_in ((tb : Int) + 1) ⟨by omega, by omega⟩
 have g4 : ¬ (8192 : Int) < (tb : Int) := by omega
 have g5 := IntWalk.i64_in (CC - ((tb : Int) + 1)) ⟨by omega, by omega⟩
 have g6 : ¬ CC - ((tb : Int) + 1) < (np : Int) := by omega
 have HCC := hid hCC
 have g64 : IntKind.i64.wrap 64 = 64 := IntWalk.i64_in 64 ⟨by omega, by omega⟩
 clear h hc hx hba hb hCC hnb h1 hn
 go_enter Tryz.func6, Tryz.ntmps6
 go_upto_region 3 with fail
 generalize w.alloc (.cells #[.int .i64 (tb : Int), .int .i64 ((tb : Int) + 1), .int .i64 (np : Int), .int .i64 (ino : Int)] 32) = W1 at *
 refine wp_region_noPanic ?_
 refine wp_region_held_drew (S := (fun W' => Blk W' w.heap.size 32 #[.int .i64 (tb : Int), .int .i64 ((tb : Int) + 1), .int .i64 (np : Int), .int .i64 (ino : Int)])) (by kernel_rfl) (Blk.drew HL.out) (fun hS0 => ?_)
 refine tk 0 ((.pointer (some ⟨w.heap.size, 0, none⟩))) rfl (fun W hSw => ?_) ?_
 ·skip
  go_simp
 try simp only [layR]
 refine tk 1 ((.int .i64 (tb : Int))) rfl (fun W hSw => ?_) ?_
 ·have y9 := hSw.cellv (i := 0) rfl
  go_simp
 try simp only [layR]
 refine tk 2 ((.bool false)) rfl (fun W hSw => ?_) ?_
 ·skip
  go_simp
 try simp only [layR]
 refine tk 3 ((.bool false)) rfl (fun _ _ => rfl) ?_
 try simp only [layR]
 refine tk 4 ((.pointer (some ⟨w.heap.size, 2, none⟩))) rfl (fun W hSw => ?_) ?_
 ·skip
  go_simp
 try simp only [layR]
 refine tk 5 ((.int .i64 (np : Int))) rfl (fun W hSw => ?_) ?_
 ·have y9 := hSw.cellv (i := 2) rfl
  go_simp
 try simp only [layR]
 refine tk 6 ((.bool false)) rfl (fun W hSw => ?_) ?_
 ·skip
  go_simp
 try simp only [layR]
 refine tk 7 ((.bool false)) rfl (fun W hSw => ?_) ?_
 ·skip
  go_simp
 try simp only [layR]
 refine tk 8 ((.bool false)) rfl (fun _ _ => rfl) ?_
 try simp only [layR]
 refine tk 9 ((.pointer (some ⟨w.heap.size, 1, none⟩))) rfl (fun W hSw => ?_) ?_
 ·skip
  go_simp
 try simp only [layR]
 refine tk 10 ((.int .i64 ((tb : Int) + 1))) rfl (fun W hSw => ?_) ?_
 ·have y9 := hSw.cellv (i := 1) rfl
  go_simp
 try simp only [layR]
 refine tk 11 ((.pointer (some ⟨w.heap.size, 0, none⟩))) rfl (fun W hSw => ?_) ?_
 ·skip
  go_simp
 try simp only [layR]
 refine tk 12 ((.int .i64 (tb : Int))) rfl (fun W hSw => ?_) ?_
 ·have y9 := hSw.cellv (i := 0) rfl
  go_simp
 try simp only [layR]
 refine tk 13 ((.int .i64 ((tb : Int) + 1))) rfl (fun W hSw => ?_) ?_
 ·skip
  go_simp
 try simp only [layR]
 refine tk 14 ((.bool false)) rfl (fun W hSw => ?_) ?_
 ·skip
  go_simp
 try simp only [layR]
 refine tk 15 ((.bool false)) rfl (fun W hSw => ?_) ?_
 ·skip
  go_simp
 try simp only [layR]
 refine tk 16 ((.bool false)) rfl (fun _ _ => rfl) ?_
 try simp only [layR]
 refine tk 17 ((.pointer (some ⟨w.heap.size, 0, none⟩))) rfl (fun W hSw => ?_) ?_
 ·skip
  go_simp
 try simp only [layR]
 refine tk 18 ((.int .i64 (tb : Int))) rfl (fun W hSw => ?_) ?_
 ·have y9 := hSw.cellv (i := 0) rfl
  go_simp
 try simp only [layR]
 refine tk 19 ((.bool false)) rfl (fun W hSw => ?_) ?_
 ·skip
  go_simp
 try simp only [layR]
 refine tk 20 ((.bool false)) rfl (fun W hSw => ?_) ?_
 ·skip
  go_simp
 try simp only [layR]
 refine tk 21 ((.bool false)) rfl (fun _ _ => rfl) ?_
 try simp only [layR]
 refine tk 22 ((.pointer (some ⟨w.heap.size, 2, none⟩))) rfl (fun W hSw => ?_) ?_
 ·skip
  go_simp
 try simp only [layR]
 refine tk 23 ((.int .i64 (np : Int))) rfl (fun W hSw => ?_) ?_
 ·have y9 := hSw.cellv (i := 2) rfl
  go_simp
 try simp only [layR]
 refine tk 24 ((.pointer (some ⟨f.F, 0, none⟩))) rfl (fun _ _ => rfl) ?_
 try simp only [layR]
 refine tk 26 ((.pointer (some ⟨w.heap.size, 1, none⟩))) rfl (fun W hSw => ?_) ?_
 ·skip
  go_simp
 try simp only [layR]
 refine tk 27 ((.int .i64 ((tb : Int) + 1))) rfl (fun W hSw => ?_) ?_
 ·have y9 := hSw.cellv (i := 1) rfl
  go_simp
 try simp only [layR]
 refine rd 25 rfl (fun K' hK => ?_)
 go_simp
 refine (fCapacity_calls HF.out HI.out).mono ?_
 rintro e w2 ⟨rfl, hb2⟩
 rw [← HCC.out]
 have HB2 := hid ((HB.out.then_ (below_drew W1)).then_ hb2)
 have HF2 := hid (HF.out.on hb2)
 have HL2 := hid (Blk.belowHere (Blk.drew HL.out) hb2)
 refine hK.out _ _ HL2.out (fun hS1 => ?_)
 try simp only [layR]
 clear hb2
 refine tk 28 ((.int .i64 (CC - ((tb : Int) + 1)))) rfl (fun W hSw => ?_) ?_
 ·skip
  go_simp
 try simp only [layR]
 refine tk 29 ((.bool false)) rfl (fun W hSw => ?_) ?_
 ·skip
  go_simp
 try simp only [layR]
 refine tk 30 ((.bool false)) rfl (fun W hSw => ?_) ?_
 ·skip
  go_simp
 try simp only [layR]
 refine wpAnyH_done (by kernel_rfl) ?_ _
 refine NoPanic.normal ?_
 clear hS0 hS1
 go_upto_region 5 with fail
 go_cut [8] (fun v8 wx => ∃ Z, v8 = .pointer (some ⟨Z, 0, none⟩) ∧ Hid (OpOut w f.F (Ps.new0 f tb np ino) wx Z))
 case first =>
  have HB3 := hid (HB2.out.then_ (below_drew w2))
  have HF3 := hid (HF2.out.on (below_drew w2))
  have HL3 := hid (HL2.out.drew)
  refine wp_region_noPanic ?_
  refine wp_region_held_drew (S := (fun W' => Blk W' w.heap.size 32 #[.int .i64 (tb : Int), .int .i64 ((tb : Int) + 1), .int .i64 (np : Int), .int .i64 (ino : Int)])) (by kernel_rfl) HL3.out (fun hS0 => ?_)
  generalize w2.drew = W0 at *
  refine tk 0 ((.pointer (some ⟨f.F, 0, none⟩))) rfl (fun _ _ => rfl) ?_
  try simp only [layR]
  refine tk 1 ((.agg #[.int .i64 (tb : Int), .int .i64 ((tb : Int) + 1), .int .i64 (np : Int), .int .i64 (ino : Int)])) rfl (fun W hSw => ?_) ?_
  ·have y0 := hSw.cellv (i := 0) rfl; have y1 := hSw.cellv (i := 1) rfl; have y2 := hSw.cellv (i := 2) rfl; have y3 := hSw.cellv (i := 3) rfl
   go_simp
  try simp only [layR]
  refine tk 2 ((.pointer (some ⟨f.F, 0, none⟩))) rfl (fun _ _ => rfl) ?_
  try simp only [layR]
  refine wpAnyH_ready (rs := [3, 6, 7]) (by kernel_rfl) (by simp) ?_
  refine AllReadyH.cons rfl (fun K' hK => ?_) (AllReadyH.cons rfl (fun K' hK => ?_) (AllReadyH.cons rfl (fun K' hK => ?_) (AllReadyH.nil)))
  ·go_simp
   refine (fText_calls HF3.out HX.out).mono ?_
   rintro e V1 ⟨⟨ax, cx, rfl, _⟩, hb⟩
   have HBn1 := hid (HB3.out.then_ hb)
   have HLn1 := hid (HL3.out.belowHere hb)
   clear hb
   refine hK.out _ _ HLn1.out (fun hS1 => ?_)
   try simp only [layR]
   refine tk 4 ((.int .i64 56)) rfl (fun W hSw => ?_) ?_
   ·skip
    go_simp
   try simp only [layR]
   refine tk 5 ((.int .i64 64)) rfl (fun W hSw => ?_) ?_
   ·skip
    go_simp
   try simp only [layR]
   refine wpAnyH_ready (rs := [6, 7]) (by kernel_rfl) (by simp) ?_
   refine AllReadyH.cons rfl (fun K' hK => ?_) (AllReadyH.cons rfl (fun K' hK => ?_) (AllReadyH.nil))
   ·go_simp
    have hb := (Below.refl V1.heap.size V1).alloc (Nat.le_refl _) (.map #[] 0)
    have hm : MapK usE Tryz.prog 3 (V1.alloc (.map #[] 0)) (V1.heap.size) [] := by have h := MapK.made (E := usE) (P := Tryz.prog) (k := 3) V1; rw [show V1.heap.size = V1.heap.size by simp] at h; exact h
    have HBn2 := hid (HBn1.out.then_ hb)
    have HLn2 := hid (HLn1.out.belowHere hb)
    have HUn2 := hid hm
    have HUl2 := hid (show w.heap.size ≤ V1.heap.size from by have h := HBn1.out.size; rw [show V1.heap.size = V1.heap.size by simp] at h; exact h)
    clear hm
    clear hb
    refine hK.out _ _ HLn2.out (fun hS2 => ?_)
    try simp only [layR]
    refine wpAnyH_ready (rs := [7]) (by kernel_rfl) (by simp) ?_
    refine AllReadyH.cons rfl (fun K' hK => ?_) (AllReadyH.nil)
    ·go_simp
     have hb := (Below.refl (V1.alloc (.map #[] 0)).heap.size (V1.alloc (.map #[] 0))).alloc (Nat.le_refl _) (.map #[] 0)
     have hm : MapK diE Tryz.prog 3 ((V1.alloc (.map #[] 0)).alloc (.map #[] 0)) (V1.heap.size + 1) [] := by have h := MapK.made (E := diE) (P := Tryz.prog) (k := 3) (V1.alloc (.map #[] 0)); rw [show (V1.alloc (.map #[] 0)).heap.size = V1.heap.size + 1 by simp] at h; exact h
     have HBn3 := hid (HBn2.out.then_ hb)
     have HLn3 := hid (HLn2.out.belowHere hb)
     have HUn3 := hid (HUn2.out.on hb)
     have HDn3 := hid hm
     have HDl3 := hid (show w.heap.size ≤ V1.heap.size + 1 from by have h := HBn2.out.size; rw [show (V1.alloc (.map #[] 0)).heap.size = V1.heap.size + 1 by simp] at h; exact h)
     have HUD3 := hid (show V1.heap.size ≠ V1.heap.size + 1 from by have h := HUn2.out.lt; rw [show (V1.alloc (.map #[] 0)).heap.size = V1.heap.size + 1 by simp] at h; omega)
     clear hm
     clear hb
     refine hK.out _ _ HLn3.out (fun hS3 => ?_)
     try simp only [layR]
     refine tk 8 ((.agg #[.pointer (some ⟨f.F, 0, none⟩), .int .i64 (tb : Int), .int .i64 ((tb : Int) + 1), .int .i64 (np : Int), .int .i64 (ino : Int), .int .i64 64, .map (some (V1.heap.size)), .map (some (V1.heap.size + 1))])) rfl (fun W hSw => ?_) ?_
     ·skip
      go_simp
     try simp only [layR]
     refine rd 9 rfl (fun K' hK => ?_)
     go_simp
     have hb9 := (Below.refl ((V1.alloc (.map #[] 0)).alloc (.map #[] 0)).heap.size ((V1.alloc (.map #[] 0)).alloc (.map #[] 0))).alloc (Nat.le_refl _) (.cells (plA f.F (V1.heap.size) (V1.heap.size + 1) (Ps.new0 f tb np ino)) 74)
     have HL9 := HLn3.out.belowHere hb9
     have HOut : OpOut w f.F (Ps.new0 f tb np ino) (((V1.alloc (.map #[] 0)).alloc (.map #[] 0)).alloc (.cells (plA f.F (V1.heap.size) (V1.heap.size + 1) (Ps.new0 f tb np ino)) 74)) (V1.heap.size + 2) := by
      have l1 := HUn3.out.lt
      have l2 := HDn3.out.lt
      have l3 := HBn3.out.size
      have l4 := HUl2.out
      have l5 := HDl3.out
      have l6 := HUD3.out
      have hbk := Blk.new ((V1.alloc (.map #[] 0)).alloc (.map #[] 0)) 74 (plA f.F (V1.heap.size) (V1.heap.size + 1) (Ps.new0 f tb np ino))
      have hsw : ((V1.alloc (.map #[] 0)).alloc (.map #[] 0)).heap.size = V1.heap.size + 2 := by simp
      rw [hsw] at hbk l3
      rw [hsw] at l1 l2
      exact ⟨_, _, hbk, HUn3.out.on hb9, HDn3.out.on hb9, by omega, by omega, by omega, by omega, by omega, by omega, HBn3.out.then_ hb9⟩
     refine hK.out _ _ HL9 (fun hS9 => ?_)
     try simp only [layR]
     refine tk 10 ((.pointer (some ⟨V1.heap.size + 2, 0, none⟩))) rfl (fun _ _ => rfl) ?_
     try simp only [layR]
     refine wpAnyH_done (by kernel_rfl) ?_ _
     refine NoPanic.normal ?_
     have HOut2 := hid HOut
     clear HOut HL9 hb9
     go_wp2_with fail
     go_meet
     case rel => exact ⟨_, rfl, HOut2.out⟩
   ·go_simp
    have hb := (Below.refl V1.heap.size V1).alloc (Nat.le_refl _) (.map #[] 0)
    have hm : MapK diE Tryz.prog 3 (V1.alloc (.map #[] 0)) (V1.heap.size) [] := by have h := MapK.made (E := diE) (P := Tryz.prog) (k := 3) V1; rw [show V1.heap.size = V1.heap.size by simp] at h; exact h
    have HBn2 := hid (HBn1.out.then_ hb)
    have HLn2 := hid (HLn1.out.belowHere hb)
    have HDn2 := hid hm
    have HDl2 := hid (show w.heap.size ≤ V1.heap.size from by have h := HBn1.out.size; rw [show V1.heap.size = V1.heap.size by simp] at h; exact h)
    clear hm
    clear hb
    refine hK.out _ _ HLn2.out (fun hS2 => ?_)
    try simp only [layR]
    refine wpAnyH_ready (rs := [6]) (by kernel_rfl) (by simp) ?_
    refine AllReadyH.cons rfl (fun K' hK => ?_) (AllReadyH.nil)
    ·go_simp
     have hb := (Below.refl (V1.alloc (.map #[] 0)).heap.size (V1.alloc (.map #[] 0))).alloc (Nat.le_refl _) (.map #[] 0)
     have hm : MapK usE Tryz.prog 3 ((V1.alloc (.map #[] 0)).alloc (.map #[] 0)) (V1.heap.size + 1) [] := by have h := MapK.made (E := usE) (P := Tryz.prog) (k := 3) (V1.alloc (.map #[] 0)); rw [show (V1.alloc (.map #[] 0)).heap.size = V1.heap.size + 1 by simp] at h; exact h
     have HBn3 := hid (HBn2.out.then_ hb)
     have HLn3 := hid (HLn2.out.belowHere hb)
     have HDn3 := hid (HDn2.out.on hb)
     have HUn3 := hid hm
     have HUl3 := hid (show w.heap.size ≤ V1.heap.size + 1 from by have h := HBn2.out.size; rw [show (V1.alloc (.map #[] 0)).heap.size = V1.heap.size + 1 by simp] at h; exact h)
     have HUD3 := hid (show V1.heap.size + 1 ≠ V1.heap.size from by have h := HDn2.out.lt; rw [show (V1.alloc (.map #[] 0)).heap.size = V1.heap.size + 1 by simp] at h; omega)
     clear hm
     clear hb
     refine hK.out _ _ HLn3.out (fun hS3 => ?_)
     try simp only [layR]
     refine tk 8 ((.agg #[.pointer (some ⟨f.F, 0, none⟩), .int .i64 (tb : Int), .int .i64 ((tb : Int) + 1), .int .i64 (np : Int), .int .i64 (ino : Int), .int .i64 64, .map (some (V1.heap.size + 1)), .map (some (V1.heap.size))])) rfl (fun W hSw => ?_) ?_
     ·skip
      go_simp
     try simp only [layR]
     refine rd 9 rfl (fun K' hK => ?_)
     go_simp
     have hb9 := (Below.refl ((V1.alloc (.map #[] 0)).alloc (.map #[] 0)).heap.size ((V1.alloc (.map #[] 0)).alloc (.map #[] 0))).alloc (Nat.le_refl _) (.cells (plA f.F (V1.heap.size + 1) (V1.heap.size) (Ps.new0 f tb np ino)) 74)
     have HL9 := HLn3.out.belowHere hb9
     have HOut : OpOut w f.F (Ps.new0 f tb np ino) (((V1.alloc (.map #[] 0)).alloc (.map #[] 0)).alloc (.cells (plA f.F (V1.heap.size + 1) (V1.heap.size) (Ps.new0 f tb np ino)) 74)) (V1.heap.size + 2) := by
      have l1 := HUn3.out.lt
      have l2 := HDn3.out.lt
      have l3 := HBn3.out.size
      have l4 := HUl3.out
      have l5 := HDl2.out
      have l6 := HUD3.out
      have hbk := Blk.new ((V1.alloc (.map #[] 0)).alloc (.map #[] 0)) 74 (plA f.F (V1.heap.size + 1) (V1.heap.size) (Ps.new0 f tb np ino))
      have hsw : ((V1.alloc (.map #[] 0)).alloc (.map #[] 0)).heap.size = V1.heap.size + 2 := by simp
      rw [hsw] at hbk l3
      rw [hsw] at l1 l2
      exact ⟨_, _, hbk, HUn3.out.on hb9, HDn3.out.on hb9, by omega, by omega, by omega, by omega, by omega, by omega, HBn3.out.then_ hb9⟩
     refine hK.out _ _ HL9 (fun hS9 => ?_)
     try simp only [layR]
     refine tk 10 ((.pointer (some ⟨V1.heap.size + 2, 0, none⟩))) rfl (fun _ _ => rfl) ?_
     try simp only [layR]
     refine wpAnyH_done (by kernel_rfl) ?_ _
     refine NoPanic.normal ?_
     have HOut2 := hid HOut
     clear HOut HL9 hb9
     go_wp2_with fail
     go_meet
     case rel => exact ⟨_, rfl, HOut2.out⟩
  ·go_simp
   have hb := (Below.refl W0.heap.size W0).alloc (Nat.le_refl _) (.map #[] 0)
   have hm : MapK usE Tryz.prog 3 (W0.alloc (.map #[] 0)) (W0.heap.size) [] := by have h := MapK.made (E := usE) (P := Tryz.prog) (k := 3) W0; rw [show W0.heap.size = W0.heap.size by simp] at h; exact h
   have HBn1 := hid (HB3.out.then_ hb)
   have HFn1 := hid (HF3.out.on hb)
   have HLn1 := hid (HL3.out.belowHere hb)
   have HUn1 := hid hm
   have HUl1 := hid (show w.heap.size ≤ W0.heap.size from by have h := HB3.out.size; rw [show W0.heap.size = W0.heap.size by simp] at h; exact h)
   clear hm
   clear hb
   refine hK.out _ _ HLn1.out (fun hS1 => ?_)
   try simp only [layR]
   refine wpAnyH_ready (rs := [3, 7]) (by kernel_rfl) (by simp) ?_
   refine AllReadyH.cons rfl (fun K' hK => ?_) (AllReadyH.cons rfl (fun K' hK => ?_) (AllReadyH.nil))
   ·go_simp
    refine (fText_calls HFn1.out HX.out).mono ?_
    rintro e V2 ⟨⟨ax, cx, rfl, _⟩, hb⟩
    have HBn2 := hid (HBn1.out.then_ hb)
    have HLn2 := hid (HLn1.out.belowHere hb)
    have HUn2 := hid (HUn1.out.on hb)
    clear hb
    refine hK.out _ _ HLn2.out (fun hS2 => ?_)
    try simp only [layR]
    refine tk 4 ((.int .i64 56)) rfl (fun W hSw => ?_) ?_
    ·skip
     go_simp
    try simp only [layR]
    refine tk 5 ((.int .i64 64)) rfl (fun W hSw => ?_) ?_
    ·skip
     go_simp
    try simp only [layR]
    refine wpAnyH_ready (rs := [7]) (by kernel_rfl) (by simp) ?_
    refine AllReadyH.cons rfl (fun K' hK => ?_) (AllReadyH.nil)
    ·go_simp
     have hb := (Below.refl V2.heap.size V2).alloc (Nat.le_refl _) (.map #[] 0)
     have hm : MapK diE Tryz.prog 3 (V2.alloc (.map #[] 0)) (V2.heap.size) [] := by have h := MapK.made (E := diE) (P := Tryz.prog) (k := 3) V2; rw [show V2.heap.size = V2.heap.size by simp] at h; exact h
     have HBn3 := hid (HBn2.out.then_ hb)
     have HLn3 := hid (HLn2.out.belowHere hb)
     have HUn3 := hid (HUn2.out.on hb)
     have HDn3 := hid hm
     have HDl3 := hid (show w.heap.size ≤ V2.heap.size from by have h := HBn2.out.size; rw [show V2.heap.size = V2.heap.size by simp] at h; exact h)
     have HUD3 := hid (show W0.heap.size ≠ V2.heap.size from by have h := HUn2.out.lt; rw [show V2.heap.size = V2.heap.size by simp] at h; omega)
     clear hm
     clear hb
     refine hK.out _ _ HLn3.out (fun hS3 => ?_)
     try simp only [layR]
     refine tk 8 ((.agg #[.pointer (some ⟨f.F, 0, none⟩), .int .i64 (tb : Int), .int .i64 ((tb : Int) + 1), .int .i64 (np : Int), .int .i64 (ino : Int), .int .i64 64, .map (some (W0.heap.size)), .map (some (V2.heap.size))])) rfl (fun W hSw => ?_) ?_
     ·skip
      go_simp
     try simp only [layR]
     refine rd 9 rfl (fun K' hK => ?_)
     go_simp
     have hb9 := (Below.refl (V2.alloc (.map #[] 0)).heap.size (V2.alloc (.map #[] 0))).alloc (Nat.le_refl _) (.cells (plA f.F (W0.heap.size) (V2.heap.size) (Ps.new0 f tb np ino)) 74)
     have HL9 := HLn3.out.belowHere hb9
     have HOut : OpOut w f.F (Ps.new0 f tb np ino) ((V2.alloc (.map #[] 0)).alloc (.cells (plA f.F (W0.heap.size) (V2.heap.size) (Ps.new0 f tb np ino)) 74)) (V2.heap.size + 1) := by
      have l1 := HUn3.out.lt
      have l2 := HDn3.out.lt
      have l3 := HBn3.out.size
      have l4 := HUl1.out
      have l5 := HDl3.out
      have l6 := HUD3.out
      have hbk := Blk.new (V2.alloc (.map #[] 0)) 74 (plA f.F (W0.heap.size) (V2.heap.size) (Ps.new0 f tb np ino))
      have hsw : (V2.alloc (.map #[] 0)).heap.size = V2.heap.size + 1 := by simp
      rw [hsw] at hbk l3
      rw [hsw] at l1 l2
      exact ⟨_, _, hbk, HUn3.out.on hb9, HDn3.out.on hb9, by omega, by omega, by omega, by omega, by omega, by omega, HBn3.out.then_ hb9⟩
     refine hK.out _ _ HL9 (fun hS9 => ?_)
     try simp only [layR]
     refine tk 10 ((.pointer (some ⟨V2.heap.size + 1, 0, none⟩))) rfl (fun _ _ => rfl) ?_
     try simp only [layR]
     refine wpAnyH_done (by kernel_rfl) ?_ _
     refine NoPanic.normal ?_
     have HOut2 := hid HOut
     clear HOut HL9 hb9
     go_wp2_with fail
     go_meet
     case rel => exact ⟨_, rfl, HOut2.out⟩
   ·go_simp
    have hb := (Below.refl (W0.alloc (.map #[] 0)).heap.size (W0.alloc (.map #[] 0))).alloc (Nat.le_refl _) (.map #[] 0)
    have hm : MapK diE Tryz.prog 3 ((W0.alloc (.map #[] 0)).alloc (.map #[] 0)) (W0.heap.size + 1) [] := by have h := MapK.made (E := diE) (P := Tryz.prog) (k := 3) (W0.alloc (.map #[] 0)); rw [show (W0.alloc (.map #[] 0)).heap.size = W0.heap.size + 1 by simp] at h; exact h
    have HBn2 := hid (HBn1.out.then_ hb)
    have HFn2 := hid (HFn1.out.on hb)
    have HLn2 := hid (HLn1.out.belowHere hb)
    have HUn2 := hid (HUn1.out.on hb)
    have HDn2 := hid hm
    have HDl2 := hid (show w.heap.size ≤ W0.heap.size + 1 from by have h := HBn1.out.size; rw [show (W0.alloc (.map #[] 0)).heap.size = W0.heap.size + 1 by simp] at h; exact h)
    have HUD2 := hid (show W0.heap.size ≠ W0.heap.size + 1 from by have h := HUn1.out.lt; rw [show (W0.alloc (.map #[] 0)).heap.size = W0.heap.size + 1 by simp] at h; omega)
    clear hm
    clear hb
    refine hK.out _ _ HLn2.out (fun hS2 => ?_)
    try simp only [layR]
    refine wpAnyH_ready (rs := [3]) (by kernel_rfl) (by simp) ?_
    refine AllReadyH.cons rfl (fun K' hK => ?_) (AllReadyH.nil)
    ·go_simp
     refine (fText_calls HFn2.out HX.out).mono ?_
     rintro e V3 ⟨⟨ax, cx, rfl, _⟩, hb⟩
     have HBn3 := hid (HBn2.out.then_ hb)
     have HLn3 := hid (HLn2.out.belowHere hb)
     have HUn3 := hid (HUn2.out.on hb)
     have HDn3 := hid (HDn2.out.on hb)
     clear hb
     refine hK.out _ _ HLn3.out (fun hS3 => ?_)
     try simp only [layR]
     refine tk 4 ((.int .i64 56)) rfl (fun W hSw => ?_) ?_
     ·skip
      go_simp
     try simp only [layR]
     refine tk 5 ((.int .i64 64)) rfl (fun W hSw => ?_) ?_
     ·skip
      go_simp
     try simp only [layR]
     refine tk 8 ((.agg #[.pointer (some ⟨f.F, 0, none⟩), .int .i64 (tb : Int), .int .i64 ((tb : Int) + 1), .int .i64 (np : Int), .int .i64 (ino : Int), .int .i64 64, .map (some (W0.heap.size)), .map (some (W0.heap.size + 1))])) rfl (fun W hSw => ?_) ?_
     ·skip
      go_simp
     try simp only [layR]
     refine rd 9 rfl (fun K' hK => ?_)
     go_simp
     have hb9 := (Below.refl V3.heap.size V3).alloc (Nat.le_refl _) (.cells (plA f.F (W0.heap.size) (W0.heap.size + 1) (Ps.new0 f tb np ino)) 74)
     have HL9 := HLn3.out.belowHere hb9
     have HOut : OpOut w f.F (Ps.new0 f tb np ino) (V3.alloc (.cells (plA f.F (W0.heap.size) (W0.heap.size + 1) (Ps.new0 f tb np ino)) 74)) (V3.heap.size) := by
      have l1 := HUn3.out.lt
      have l2 := HDn3.out.lt
      have l3 := HBn3.out.size
      have l4 := HUl1.out
      have l5 := HDl2.out
      have l6 := HUD2.out
      have hbk := Blk.new V3 74 (plA f.F (W0.heap.size) (W0.heap.size + 1) (Ps.new0 f tb np ino))
      have hsw : V3.heap.size = V3.heap.size := by simp
      rw [hsw] at hbk l3
      rw [hsw] at l1 l2
      exact ⟨_, _, hbk, HUn3.out.on hb9, HDn3.out.on hb9, by omega, by omega, by omega, by omega, by omega, by omega, HBn3.out.then_ hb9⟩
     refine hK.out _ _ HL9 (fun hS9 => ?_)
     try simp only [layR]
     refine tk 10 ((.pointer (some ⟨V3.heap.size, 0, none⟩))) rfl (fun _ _ => rfl) ?_
     try simp only [layR]
     refine wpAnyH_done (by kernel_rfl) ?_ _
     refine NoPanic.normal ?_
     have HOut2 := hid HOut
     clear HOut HL9 hb9
     go_wp2_with fail
     go_meet
     case rel => exact ⟨_, rfl, HOut2.out⟩
  ·go_simp
   have hb := (Below.refl W0.heap.size W0).alloc (Nat.le_refl _) (.map #[] 0)
   have hm : MapK diE Tryz.prog 3 (W0.alloc (.map #[] 0)) (W0.heap.size) [] := by have h := MapK.made (E := diE) (P := Tryz.prog) (k := 3) W0; rw [show W0.heap.size = W0.heap.size by simp] at h; exact h
   have HBn1 := hid (HB3.out.then_ hb)
   have HFn1 := hid (HF3.out.on hb)
   have HLn1 := hid (HL3.out.belowHere hb)
   have HDn1 := hid hm
   have HDl1 := hid (show w.heap.size ≤ W0.heap.size from by have h := HB3.out.size; rw [show W0.heap.size = W0.heap.size by simp] at h; exact h)
   clear hm
   clear hb
   refine hK.out _ _ HLn1.out (fun hS1 => ?_)
   try simp only [layR]
   refine wpAnyH_ready (rs := [3, 6]) (by kernel_rfl) (by simp) ?_
   refine AllReadyH.cons rfl (fun K' hK => ?_) (AllReadyH.cons rfl (fun K' hK => ?_) (AllReadyH.nil))
   ·go_simp
    refine (fText_calls HFn1.out HX.out).mono ?_
    rintro e V2 ⟨⟨ax, cx, rfl, _⟩, hb⟩
    have HBn2 := hid (HBn1.out.then_ hb)
    have HLn2 := hid (HLn1.out.belowHere hb)
    have HDn2 := hid (HDn1.out.on hb)
    clear hb
    refine hK.out _ _ HLn2.out (fun hS2 => ?_)
    try simp only [layR]
    refine tk 4 ((.int .i64 56)) rfl (fun W hSw => ?_) ?_
    ·skip
     go_simp
    try simp only [layR]
    refine tk 5 ((.int .i64 64)) rfl (fun W hSw => ?_) ?_
    ·skip
     go_simp
    try simp only [layR]
    refine wpAnyH_ready (rs := [6]) (by kernel_rfl) (by simp) ?_
    refine AllReadyH.cons rfl (fun K' hK => ?_) (AllReadyH.nil)
    ·go_simp
     have hb := (Below.refl V2.heap.size V2).alloc (Nat.le_refl _) (.map #[] 0)
     have hm : MapK usE Tryz.prog 3 (V2.alloc (.map #[] 0)) (V2.heap.size) [] := by have h := MapK.made (E := usE) (P := Tryz.prog) (k := 3) V2; rw [show V2.heap.size = V2.heap.size by simp] at h; exact h
     have HBn3 := hid (HBn2.out.then_ hb)
     have HLn3 := hid (HLn2.out.belowHere hb)
     have HDn3 := hid (HDn2.out.on hb)
     have HUn3 := hid hm
     have HUl3 := hid (show w.heap.size ≤ V2.heap.size from by have h := HBn2.out.size; rw [show V2.heap.size = V2.heap.size by simp] at h; exact h)
     have HUD3 := hid (show V2.heap.size ≠ W0.heap.size from by have h := HDn2.out.lt; rw [show V2.heap.size = V2.heap.size by simp] at h; omega)
     clear hm
     clear hb
     refine hK.out _ _ HLn3.out (fun hS3 => ?_)
     try simp only [layR]
     refine tk 8 ((.agg #[.pointer (some ⟨f.F, 0, none⟩), .int .i64 (tb : Int), .int .i64 ((tb : Int) + 1), .int .i64 (np : Int), .int .i64 (ino : Int), .int .i64 64, .map (some (V2.heap.size)), .map (some (W0.heap.size))])) rfl (fun W hSw => ?_) ?_
     ·skip
      go_simp
     try simp only [layR]
     refine rd 9 rfl (fun K' hK => ?_)
     go_simp
     have hb9 := (Below.refl (V2.alloc (.map #[] 0)).heap.size (V2.alloc (.map #[] 0))).alloc (Nat.le_refl _) (.cells (plA f.F (V2.heap.size) (W0.heap.size) (Ps.new0 f tb np ino)) 74)
     have HL9 := HLn3.out.belowHere hb9
     have HOut : OpOut w f.F (Ps.new0 f tb np ino) ((V2.alloc (.map #[] 0)).alloc (.cells (plA f.F (V2.heap.size) (W0.heap.size) (Ps.new0 f tb np ino)) 74)) (V2.heap.size + 1) := by
      have l1 := HUn3.out.lt
      have l2 := HDn3.out.lt
      have l3 := HBn3.out.size
      have l4 := HUl3.out
      have l5 := HDl1.out
      have l6 := HUD3.out
      have hbk := Blk.new (V2.alloc (.map #[] 0)) 74 (plA f.F (V2.heap.size) (W0.heap.size) (Ps.new0 f tb np ino))
      have hsw : (V2.alloc (.map #[] 0)).heap.size = V2.heap.size + 1 := by simp
      rw [hsw] at hbk l3
      rw [hsw] at l1 l2
      exact ⟨_, _, hbk, HUn3.out.on hb9, HDn3.out.on hb9, by omega, by omega, by omega, by omega, by omega, by omega, HBn3.out.then_ hb9⟩
     refine hK.out _ _ HL9 (fun hS9 => ?_)
     try simp only [layR]
     refine tk 10 ((.pointer (some ⟨V2.heap.size + 1, 0, none⟩))) rfl (fun _ _ => rfl) ?_
     try simp only [layR]
     refine wpAnyH_done (by kernel_rfl) ?_ _
     refine NoPanic.normal ?_
     have HOut2 := hid HOut
     clear HOut HL9 hb9
     go_wp2_with fail
     go_meet
     case rel => exact ⟨_, rfl, HOut2.out⟩
   ·go_simp
    have hb := (Below.refl (W0.alloc (.map #[] 0)).heap.size (W0.alloc (.map #[] 0))).alloc (Nat.le_refl _) (.map #[] 0)
    have hm : MapK usE Tryz.prog 3 ((W0.alloc (.map #[] 0)).alloc (.map #[] 0)) (W0.heap.size + 1) [] := by have h := MapK.made (E := usE) (P := Tryz.prog) (k := 3) (W0.alloc (.map #[] 0)); rw [show (W0.alloc (.map #[] 0)).heap.size = W0.heap.size + 1 by simp] at h; exact h
    have HBn2 := hid (HBn1.out.then_ hb)
    have HFn2 := hid (HFn1.out.on hb)
    have HLn2 := hid (HLn1.out.belowHere hb)
    have HDn2 := hid (HDn1.out.on hb)
    have HUn2 := hid hm
    have HUl2 := hid (show w.heap.size ≤ W0.heap.size + 1 from by have h := HBn1.out.size; rw [show (W0.alloc (.map #[] 0)).heap.size = W0.heap.size + 1 by simp] at h; exact h)
    have HUD2 := hid (show W0.heap.size + 1 ≠ W0.heap.size from by have h := HDn1.out.lt; rw [show (W0.alloc (.map #[] 0)).heap.size = W0.heap.size + 1 by simp] at h; omega)
    clear hm
    clear hb
    refine hK.out _ _ HLn2.out (fun hS2 => ?_)
    try simp only [layR]
    refine wpAnyH_ready (rs := [3]) (by kernel_rfl) (by simp) ?_
    refine AllReadyH.cons rfl (fun K' hK => ?_) (AllReadyH.nil)
    ·go_simp
     refine (fText_calls HFn2.out HX.out).mono ?_
     rintro e V3 ⟨⟨ax, cx, rfl, _⟩, hb⟩
     have HBn3 := hid (HBn2.out.then_ hb)
     have HLn3 := hid (HLn2.out.belowHere hb)
     have HUn3 := hid (HUn2.out.on hb)
     have HDn3 := hid (HDn2.out.on hb)
     clear hb
     refine hK.out _ _ HLn3.out (fun hS3 => ?_)
     try simp only [layR]
     refine tk 4 ((.int .i64 56)) rfl (fun W hSw => ?_) ?_
     ·skip
      go_simp
     try simp only [layR]
     refine tk 5 ((.int .i64 64)) rfl (fun W hSw => ?_) ?_
     ·skip
      go_simp
     try simp only [layR]
     refine tk 8 ((.agg #[.pointer (some ⟨f.F, 0, none⟩), .int .i64 (tb : Int), .int .i64 ((tb : Int) + 1), .int .i64 (np : Int), .int .i64 (ino : Int), .int .i64 64, .map (some (W0.heap.size + 1)), .map (some (W0.heap.size))])) rfl (fun W hSw => ?_) ?_
     ·skip
      go_simp
     try simp only [layR]
     refine rd 9 rfl (fun K' hK => ?_)
     go_simp
     have hb9 := (Below.refl V3.heap.size V3).alloc (Nat.le_refl _) (.cells (plA f.F (W0.heap.size + 1) (W0.heap.size) (Ps.new0 f tb np ino)) 74)
     have HL9 := HLn3.out.belowHere hb9
     have HOut : OpOut w f.F (Ps.new0 f tb np ino) (V3.alloc (.cells (plA f.F (W0.heap.size + 1) (W0.heap.size) (Ps.new0 f tb np ino)) 74)) (V3.heap.size) := by
      have l1 := HUn3.out.lt
      have l2 := HDn3.out.lt
      have l3 := HBn3.out.size
      have l4 := HUl2.out
      have l5 := HDl1.out
      have l6 := HUD2.out
      have hbk := Blk.new V3 74 (plA f.F (W0.heap.size + 1) (W0.heap.size) (Ps.new0 f tb np ino))
      have hsw : V3.heap.size = V3.heap.size := by simp
      rw [hsw] at hbk l3
      rw [hsw] at l1 l2
      exact ⟨_, _, hbk, HUn3.out.on hb9, HDn3.out.on hb9, by omega, by omega, by omega, by omega, by omega, by omega, HBn3.out.then_ hb9⟩
     refine hK.out _ _ HL9 (fun hS9 => ?_)
     try simp only [layR]
     refine tk 10 ((.pointer (some ⟨V3.heap.size, 0, none⟩))) rfl (fun _ _ => rfl) ?_
     try simp only [layR]
     refine wpAnyH_done (by kernel_rfl) ?_ _
     refine NoPanic.normal ?_
     have HOut2 := hid HOut
     clear HOut HL9 hb9
     go_wp2_with fail
     go_meet
     case rel => exact ⟨_, rfl, HOut2.out⟩
 case rest =>
  obtain ⟨Z, rfl, HOut⟩ := hcut
  have HR := hid (HOut.out.pl H0.out HC.out HBd.out)
  have HZ := hid (show w.heap.size ≤ Z from by obtain ⟨U, D, _, _, _, z1, _⟩ := HOut.out; exact z1)
  clear HOut
  go_wp2_with fail
  go_loopw [58] (fun i wr => i = .int .i64 0 ∧ wr = wc) (fun _ _ => 0)
  case atStart => exact ⟨rfl, rfl⟩
  case round =>
   obtain ⟨rfl, rfl⟩ := hrel
   go_wp2
   go_ret2
   exact ⟨Z, rfl, HR.out, HZ.out⟩
 end Go.Proofs.YtcppkaphlcflgaaGreat
