import Derived.Test.YtcppkaphlcflgaaGreatPolAlloc
import Derived.Deep.DeepCutAuto
namespace Go.Proofs.YtcppkaphlcflgaaGreat
open Go.RowKit Go.Maps Go.ChangeMaps Ftl Pol

theorem fText_calls {NB B : Nat} {R : Nat → Prop} {w : World} {f : Fm} (h : FtM NB B R w f) (hx : f.tx.length = 56) :
  Calls Tryz.prog 27 #[.pointer (some ⟨f.F, 0, none⟩)] w fun e w' => (∃ a c, e = .returned (.slice a 56 c) ∧ Own byteV 5 w' w.heap.size (.slice a 56 c) f.tx) ∧ Below w.heap.size w w' := by
 have c4 := h.c4
 obtain ⟨a, c, hv, hb⟩ : ∃ a c, f.tv = .slice a 56 c ∧ Bytes w w.heap.size a 56 f.tx := by
  obtain ⟨_, hc, _⟩ := id h
  rcases hc.hT with ⟨b, ho⟩ | ⟨⟨a, n, c, hv, hb⟩, _⟩
  ·obtain ⟨a, c, hv, _⟩ := ho.formN hx
   rw [hv] at ho
   exact ⟨a, c, hv, by have := ho.arr (by omega); exact this⟩
  ·have := hb.len
   obtain rfl : n = 56 := by omega
   exact ⟨a, c, hv, hb⟩
 rw [hv] at c4
 have hC := Lib.hid (clone_calls a 56 c f.tx w hb)
 have HX := Lib.hid hx
 clear h hb hx hv
 go_enter Tryz.func27, Tryz.ntmps27
 go_wp2_with fail
 refine hC.out.mono ?_
 rintro e w1 ⟨⟨v, rfl, ho⟩, hb⟩
 obtain ⟨a', c', hv', _⟩ := ho.formN HX.out
 have HB := Lib.hid hb
 subst hv'
 have HO := Lib.hid ho
 clear ho hb
 go_wp2
 go_ret
 exact ⟨⟨_, _, rfl, HO.out⟩, HB.out⟩
def Ps.new0 (f : Fm) (tb np ino : Nat) : Ps := ⟨tb, np, ino, [], fun n => if 1 ≤ n ∧ n ≤ tb then pgF f [] n else []⟩
def OpOut (w : World) (F : Nat) (s : Ps) (wx : World) (Z : Nat) : Prop := ∃ U D, Blk wx Z 74 (plA F U D s) ∧ MapK usE Tryz.prog 3 wx U [] ∧ MapK diE Tryz.prog 3 wx D [] ∧ w.heap.size ≤ Z ∧ w.heap.size ≤ U ∧ w.heap.size ≤ D ∧ Z ≠ U ∧ Z ≠ D ∧ U ≠ D ∧ Below w.heap.size w wx
theorem vwLen {NB : Nat} {f : Fm} (hc : Fc NB f) (n : Nat) : (pgF f [] n).length = 64 := by
 unfold pgF
 show (match vw f n with | some y => y.2 | none => zeros).length = 64
 cases hv : vw f n with
 | some y =>
  obtain ⟨e, he, h1, _⟩ := vw_some hv
  simp only
  rw [← h1]
  exact (hc.fi.ok e (curE_mem he)).len
 | none => exact zeros_len
theorem OpOut.pl {NB B : Nat} {R : Nat → Prop} {w wx : World} {f : Fm} {tb np ino Z : Nat} (h : OpOut w f.F (Ps.new0 f tb np ino) wx Z) (hf : FtM NB B R w f) (hc : Fc NB f) (hb : tb + np + 2 < (NB - 3) * 8 ∧ tb + np < 8192) : PlR NB B R w wx Z f (Ps.new0 f tb np ino) := by
 obtain ⟨U, D, h1, h2, h3, z1, z2, z3, z4, z5, z6, z7⟩ := h
 have hs := z7.size
 have hB := hf.base
 have hZ := h1.lt
 have hU := h2.lt
 have hD := h3.lt
 refine ⟨⟨U, D, [], R, ⟨h1, h2, h3, hf.on z7, hc, ⟨(fun n hn => by cases hn), List.nodup_nil, fun n hn => ?_, fun n hn => ?_⟩, hb, (fun d hd => by cases hd), (fun d hd => by cases hd), fun n hn => ?_, ⟨z4, z5, z6⟩, ⟨hf.not_new z1, hf.not_new z2, hf.not_new z3⟩, fun d hd => by cases hd⟩, fun q hq => ?_, fun q hq => ?_⟩, Kq.of z7⟩
 ·have hn : 1 ≤ n ∧ n ≤ tb := by
   rcases hn with h | h
   ·exact h
   ·cases h
  show (if 1 ≤ n ∧ n ≤ tb then pgF f [] n else []).length = 64
  rw [if_pos hn]
  exact vwLen hc n
 ·exact if_neg fun h => hn (.inl h)
 ·have hn : 1 ≤ n ∧ n ≤ tb := by
   rcases hn with h | h
   ·exact h
   ·cases h
  exact if_pos hn
 ·rcases hq with e | e | e | e | ⟨d, hd, _⟩
  ·exact .inr ⟨by omega, by omega⟩
  ·exact .inr ⟨by omega, by omega⟩
  ·exact .inr ⟨by omega, by omega⟩
  ·exact .inl e
  ·cases hd
 ·rcases hq with e | e
  ·have := hf.bnd q e; omega
  ·omega
set_option maxRecDepth 100000 in
set_option maxHeartbeats 8000000 in
theorem polOpen_calls {NB B tb np ino : Nat} {R : Nat → Prop} {w : World} {f : Fm} (h : FtM NB B R w f) (hc : Fc NB f) (hx : f.tx.length = 56) (h1 : 1 ≤ tb) (hn : 1 ≤ np) (hb : tb + np + 2 < (NB - 3) * 8 ∧ tb + np < 8192) :
  Calls Tryz.prog 6 #[.pointer (some ⟨f.F, 0, none⟩), .agg #[.int .i64 (tb : Int), .int .i64 ((tb : Int) + 1), .int .i64 (np : Int), .int .i64 (ino : Int)], .slice none 0 0] w fun e w' => ∃ Z, e = .returned (.tuple #[.pointer (some ⟨Z, 0, none⟩), .int .i64 0]) ∧ PlR NB B R w w' Z f (Ps.new0 f tb np ino) ∧ w.heap.size ≤ Z := by
 have hnb := hc.fi.nb
 have hba := (Below.refl w.heap.size w).alloc (Nat.le_refl _) (.cells #[.int .i64 (tb : Int), .int .i64 ((tb : Int) + 1), .int .i64 (np : Int), .int .i64 (ino : Int)] 32)
 have H0 := Lib.hid h
 have HF := Lib.hid ((h.on hba).on (below_drew _))
 have HC := Lib.hid hc
 have HI := Lib.hid hc.fi
 have HX := Lib.hid hx
 have HBd := Lib.hid hb
 have HL := Lib.hid (Blk.new w 32 #[.int .i64 (tb : Int), .int .i64 ((tb : Int) + 1), .int .i64 (np : Int), .int .i64 (ino : Int)])
 have HB := Lib.hid hba
 obtain ⟨CC, hCC⟩ : ∃ CC, CC = ((NB : Int) - 3) * 8 - 2 := ⟨_, rfl⟩
 have g1 : ¬ (tb : Int) < 1 := by omega
 have g2 : ¬ (np : Int) < 1 := by omega
 have g3 := IntWalk.i64_in ((tb : Int) + 1) ⟨by omega, by omega⟩
 have g4 : ¬ (8192 : Int) < (tb : Int) := by omega
 have g5 := IntWalk.i64_in (CC - ((tb : Int) + 1)) ⟨by omega, by omega⟩
 have g6 : ¬ CC - ((tb : Int) + 1) < (np : Int) := by omega
 have HCC := Lib.hid hCC
 have g64 : IntKind.i64.wrap 64 = 64 := IntWalk.i64_in 64 ⟨by omega, by omega⟩
 clear h hc hx hba hb hCC hnb h1 hn
 go_enter Tryz.func6, Tryz.ntmps6
 go_upto_region 3 with fail
 generalize w.alloc (.cells #[.int .i64 (tb : Int), .int .i64 ((tb : Int) + 1), .int .i64 (np : Int), .int .i64 (ino : Int)] 32) = W1 at *
 refine wp_region_noPanic ?_
 refine wp_region_held_drew (S := (fun W' => Blk W' w.heap.size 32 #[.int .i64 (tb : Int), .int .i64 ((tb : Int) + 1), .int .i64 (np : Int), .int .i64 (ino : Int)])) (by kernel_rfl) (Blk.drew HL.out) (fun hS0 => ?_)
 refine takeV 0 (v := (.pointer (some ⟨w.heap.size, 0, none⟩))) rfl (by kernel_rfl) (by kernel_rfl) (by kernel_rfl) (fun _ _ _ h => h) (by rfl) (fun W hSw => ?_) (by assumption) ?_
 ·skip
  go_simp
 try simp only [layR]
 refine takeV 1 (v := (.int .i64 (tb : Int))) rfl (by kernel_rfl) (by kernel_rfl) (by kernel_rfl) (fun _ _ _ h => h) (by rfl) (fun W hSw => ?_) (by assumption) ?_
 ·have y9 := hSw.cellv (i := 0) rfl
  go_simp
 try simp only [layR]
 refine takeV 2 (v := (.bool false)) rfl (by kernel_rfl) (by kernel_rfl) (by kernel_rfl) (fun _ _ _ h => h) (by rfl) (fun W hSw => ?_) (by assumption) ?_
 ·skip
  go_simp
 try simp only [layR]
 refine takeV 3 (v := (.bool false)) rfl (by kernel_rfl) (by kernel_rfl) (by kernel_rfl) (fun _ _ _ h => h) (by rfl) (fun _ _ => rfl) (by assumption) ?_
 try simp only [layR]
 refine takeV 4 (v := (.pointer (some ⟨w.heap.size, 2, none⟩))) rfl (by kernel_rfl) (by kernel_rfl) (by kernel_rfl) (fun _ _ _ h => h) (by rfl) (fun W hSw => ?_) (by assumption) ?_
 ·skip
  go_simp
 try simp only [layR]
 refine takeV 5 (v := (.int .i64 (np : Int))) rfl (by kernel_rfl) (by kernel_rfl) (by kernel_rfl) (fun _ _ _ h => h) (by rfl) (fun W hSw => ?_) (by assumption) ?_
 ·have y9 := hSw.cellv (i := 2) rfl
  go_simp
 try simp only [layR]
 refine takeV 6 (v := (.bool false)) rfl (by kernel_rfl) (by kernel_rfl) (by kernel_rfl) (fun _ _ _ h => h) (by rfl) (fun W hSw => ?_) (by assumption) ?_
 ·skip
  go_simp
 try simp only [layR]
 refine takeV 7 (v := (.bool false)) rfl (by kernel_rfl) (by kernel_rfl) (by kernel_rfl) (fun _ _ _ h => h) (by rfl) (fun W hSw => ?_) (by assumption) ?_
 ·skip
  go_simp
 try simp only [layR]
 refine takeV 8 (v := (.bool false)) rfl (by kernel_rfl) (by kernel_rfl) (by kernel_rfl) (fun _ _ _ h => h) (by rfl) (fun _ _ => rfl) (by assumption) ?_
 try simp only [layR]
 refine takeV 9 (v := (.pointer (some ⟨w.heap.size, 1, none⟩))) rfl (by kernel_rfl) (by kernel_rfl) (by kernel_rfl) (fun _ _ _ h => h) (by rfl) (fun W hSw => ?_) (by assumption) ?_
 ·skip
  go_simp
 try simp only [layR]
 refine takeV 10 (v := (.int .i64 ((tb : Int) + 1))) rfl (by kernel_rfl) (by kernel_rfl) (by kernel_rfl) (fun _ _ _ h => h) (by rfl) (fun W hSw => ?_) (by assumption) ?_
 ·have y9 := hSw.cellv (i := 1) rfl
  go_simp
 try simp only [layR]
 refine takeV 11 (v := (.pointer (some ⟨w.heap.size, 0, none⟩))) rfl (by kernel_rfl) (by kernel_rfl) (by kernel_rfl) (fun _ _ _ h => h) (by rfl) (fun W hSw => ?_) (by assumption) ?_
 ·skip
  go_simp
 try simp only [layR]
 refine takeV 12 (v := (.int .i64 (tb : Int))) rfl (by kernel_rfl) (by kernel_rfl) (by kernel_rfl) (fun _ _ _ h => h) (by rfl) (fun W hSw => ?_) (by assumption) ?_
 ·have y9 := hSw.cellv (i := 0) rfl
  go_simp
 try simp only [layR]
 refine takeV 13 (v := (.int .i64 ((tb : Int) + 1))) rfl (by kernel_rfl) (by kernel_rfl) (by kernel_rfl) (fun _ _ _ h => h) (by rfl) (fun W hSw => ?_) (by assumption) ?_
 ·skip
  go_simp
 try simp only [layR]
 refine takeV 14 (v := (.bool false)) rfl (by kernel_rfl) (by kernel_rfl) (by kernel_rfl) (fun _ _ _ h => h) (by rfl) (fun W hSw => ?_) (by assumption) ?_
 ·skip
  go_simp
 try simp only [layR]
 refine takeV 15 (v := (.bool false)) rfl (by kernel_rfl) (by kernel_rfl) (by kernel_rfl) (fun _ _ _ h => h) (by rfl) (fun W hSw => ?_) (by assumption) ?_
 ·skip
  go_simp
 try simp only [layR]
 refine takeV 16 (v := (.bool false)) rfl (by kernel_rfl) (by kernel_rfl) (by kernel_rfl) (fun _ _ _ h => h) (by rfl) (fun _ _ => rfl) (by assumption) ?_
 try simp only [layR]
 refine takeV 17 (v := (.pointer (some ⟨w.heap.size, 0, none⟩))) rfl (by kernel_rfl) (by kernel_rfl) (by kernel_rfl) (fun _ _ _ h => h) (by rfl) (fun W hSw => ?_) (by assumption) ?_
 ·skip
  go_simp
 try simp only [layR]
 refine takeV 18 (v := (.int .i64 (tb : Int))) rfl (by kernel_rfl) (by kernel_rfl) (by kernel_rfl) (fun _ _ _ h => h) (by rfl) (fun W hSw => ?_) (by assumption) ?_
 ·have y9 := hSw.cellv (i := 0) rfl
  go_simp
 try simp only [layR]
 refine takeV 19 (v := (.bool false)) rfl (by kernel_rfl) (by kernel_rfl) (by kernel_rfl) (fun _ _ _ h => h) (by rfl) (fun W hSw => ?_) (by assumption) ?_
 ·skip
  go_simp
 try simp only [layR]
 refine takeV 20 (v := (.bool false)) rfl (by kernel_rfl) (by kernel_rfl) (by kernel_rfl) (fun _ _ _ h => h) (by rfl) (fun W hSw => ?_) (by assumption) ?_
 ·skip
  go_simp
 try simp only [layR]
 refine takeV 21 (v := (.bool false)) rfl (by kernel_rfl) (by kernel_rfl) (by kernel_rfl) (fun _ _ _ h => h) (by rfl) (fun _ _ => rfl) (by assumption) ?_
 try simp only [layR]
 refine takeV 22 (v := (.pointer (some ⟨w.heap.size, 2, none⟩))) rfl (by kernel_rfl) (by kernel_rfl) (by kernel_rfl) (fun _ _ _ h => h) (by rfl) (fun W hSw => ?_) (by assumption) ?_
 ·skip
  go_simp
 try simp only [layR]
 refine takeV 23 (v := (.int .i64 (np : Int))) rfl (by kernel_rfl) (by kernel_rfl) (by kernel_rfl) (fun _ _ _ h => h) (by rfl) (fun W hSw => ?_) (by assumption) ?_
 ·have y9 := hSw.cellv (i := 2) rfl
  go_simp
 try simp only [layR]
 refine takeV 24 (v := (.pointer (some ⟨f.F, 0, none⟩))) rfl (by kernel_rfl) (by kernel_rfl) (by kernel_rfl) (fun _ _ _ h => h) (by rfl) (fun _ _ => rfl) (by assumption) ?_
 try simp only [layR]
 refine takeV 26 (v := (.pointer (some ⟨w.heap.size, 1, none⟩))) rfl (by kernel_rfl) (by kernel_rfl) (by kernel_rfl) (fun _ _ _ h => h) (by rfl) (fun W hSw => ?_) (by assumption) ?_
 ·skip
  go_simp
 try simp only [layR]
 refine takeV 27 (v := (.int .i64 ((tb : Int) + 1))) rfl (by kernel_rfl) (by kernel_rfl) (by kernel_rfl) (fun _ _ _ h => h) (by rfl) (fun W hSw => ?_) (by assumption) ?_
 ·have y9 := hSw.cellv (i := 1) rfl
  go_simp
 try simp only [layR]
 refine wpAnyH_ready (rs := [25]) (by kernel_rfl) (by simp) ?_
 refine AllReadyH.cons rfl (fun K' hK => ?_) AllReadyH.nil
 go_simp
 refine (fCapacity_calls HF.out HI.out).mono ?_
 rintro e w2 ⟨rfl, hb2⟩
 rw [← HCC.out]
 have HB2 := Lib.hid ((HB.out.then_ (below_drew W1)).then_ hb2)
 have HF2 := Lib.hid (HF.out.on hb2)
 have HL2 := Lib.hid (Blk.belowHere (Blk.drew HL.out) hb2)
 refine hK.out _ _ HL2.out (fun hS1 => ?_)
 try simp only [layR]
 clear hb2
 refine takeV 28 (v := (.int .i64 (CC - ((tb : Int) + 1)))) rfl (by kernel_rfl) (by kernel_rfl) (by kernel_rfl) (fun _ _ _ h => h) (by rfl) (fun W hSw => ?_) (by assumption) ?_
 ·skip
  go_simp
 try simp only [layR]
 refine takeV 29 (v := (.bool false)) rfl (by kernel_rfl) (by kernel_rfl) (by kernel_rfl) (fun _ _ _ h => h) (by rfl) (fun W hSw => ?_) (by assumption) ?_
 ·skip
  go_simp
 try simp only [layR]
 refine takeV 30 (v := (.bool false)) rfl (by kernel_rfl) (by kernel_rfl) (by kernel_rfl) (fun _ _ _ h => h) (by rfl) (fun W hSw => ?_) (by assumption) ?_
 ·skip
  go_simp
 try simp only [layR]
 refine wpAnyH_done (by kernel_rfl) ?_ _
 refine NoPanic.normal ?_
 clear hS0 hS1
 go_upto_region 5 with fail
 go_cut [8] (fun v8 wx => ∃ Z, v8 = .pointer (some ⟨Z, 0, none⟩) ∧ Hid (OpOut w f.F (Ps.new0 f tb np ino) wx Z))
 case first =>
  have HB3 := Lib.hid (HB2.out.then_ (below_drew w2))
  have HF3 := Lib.hid (HF2.out.on (below_drew w2))
  have HL3 := Lib.hid (HL2.out.drew)
  refine wp_region_noPanic ?_
  refine wp_region_held_drew (S := (fun W' => Blk W' w.heap.size 32 #[.int .i64 (tb : Int), .int .i64 ((tb : Int) + 1), .int .i64 (np : Int), .int .i64 (ino : Int)])) (by kernel_rfl) HL3.out (fun hS0 => ?_)
  generalize w2.drew = W0 at *
  refine takeV 0 (v := (.pointer (some ⟨f.F, 0, none⟩))) rfl (by kernel_rfl) (by kernel_rfl) (by kernel_rfl) (fun _ _ _ h => h) (by rfl) (fun _ _ => rfl) (by assumption) ?_
  try simp only [layR]
  refine takeV 1 (v := (.agg #[.int .i64 (tb : Int), .int .i64 ((tb : Int) + 1), .int .i64 (np : Int), .int .i64 (ino : Int)])) rfl (by kernel_rfl) (by kernel_rfl) (by kernel_rfl) (fun _ _ _ h => h) (by rfl) (fun W hSw => ?_) (by assumption) ?_
  ·have y0 := hSw.cellv (i := 0) rfl; have y1 := hSw.cellv (i := 1) rfl; have y2 := hSw.cellv (i := 2) rfl; have y3 := hSw.cellv (i := 3) rfl
   go_simp
  try simp only [layR]
  refine takeV 2 (v := (.pointer (some ⟨f.F, 0, none⟩))) rfl (by kernel_rfl) (by kernel_rfl) (by kernel_rfl) (fun _ _ _ h => h) (by rfl) (fun _ _ => rfl) (by assumption) ?_
  try simp only [layR]
  refine wpAnyH_ready (rs := [3, 6, 7]) (by kernel_rfl) (by simp) ?_
  refine AllReadyH.cons rfl (fun K' hK => ?_) (AllReadyH.cons rfl (fun K' hK => ?_) (AllReadyH.cons rfl (fun K' hK => ?_) (AllReadyH.nil)))
  ·go_simp
   refine (fText_calls HF3.out HX.out).mono ?_
   rintro e V1 ⟨⟨ax, cx, rfl, _⟩, hb⟩
   have HBn1 := Lib.hid (HB3.out.then_ hb)
   have HLn1 := Lib.hid (HL3.out.belowHere hb)
   clear hb
   refine hK.out _ _ HLn1.out (fun hS1 => ?_)
   try simp only [layR]
   refine takeV 4 (v := (.int .i64 56)) rfl (by kernel_rfl) (by kernel_rfl) (by kernel_rfl) (fun _ _ _ h => h) (by rfl) (fun W hSw => ?_) (by assumption) ?_
   ·skip
    go_simp
   try simp only [layR]
   refine takeV 5 (v := (.int .i64 64)) rfl (by kernel_rfl) (by kernel_rfl) (by kernel_rfl) (fun _ _ _ h => h) (by rfl) (fun W hSw => ?_) (by assumption) ?_
   ·skip
    go_simp
   try simp only [layR]
   refine wpAnyH_ready (rs := [6, 7]) (by kernel_rfl) (by simp) ?_
   refine AllReadyH.cons rfl (fun K' hK => ?_) (AllReadyH.cons rfl (fun K' hK => ?_) (AllReadyH.nil))
   ·go_simp
    have hb := (Below.refl V1.heap.size V1).alloc (Nat.le_refl _) (.map #[] 0)
    have hm : MapK usE Tryz.prog 3 (V1.alloc (.map #[] 0)) (V1.heap.size) [] := by have h := MapK.made (E := usE) (P := Tryz.prog) (k := 3) V1; rw [show V1.heap.size = V1.heap.size by simp] at h; exact h
    have HBn2 := Lib.hid (HBn1.out.then_ hb)
    have HLn2 := Lib.hid (HLn1.out.belowHere hb)
    have HUn2 := Lib.hid hm
    have HUl2 := Lib.hid (show w.heap.size ≤ V1.heap.size from by have h := HBn1.out.size; rw [show V1.heap.size = V1.heap.size by simp] at h; exact h)
    clear hm
    clear hb
    refine hK.out _ _ HLn2.out (fun hS2 => ?_)
    try simp only [layR]
    refine wpAnyH_ready (rs := [7]) (by kernel_rfl) (by simp) ?_
    refine AllReadyH.cons rfl (fun K' hK => ?_) (AllReadyH.nil)
    ·go_simp
     have hb := (Below.refl (V1.alloc (.map #[] 0)).heap.size (V1.alloc (.map #[] 0))).alloc (Nat.le_refl _) (.map #[] 0)
     have hm : MapK diE Tryz.prog 3 ((V1.alloc (.map #[] 0)).alloc (.map #[] 0)) (V1.heap.size + 1) [] := by have h := MapK.made (E := diE) (P := Tryz.prog) (k := 3) (V1.alloc (.map #[] 0)); rw [show (V1.alloc (.map #[] 0)).heap.size = V1.heap.size + 1 by simp] at h; exact h
     have HBn3 := Lib.hid (HBn2.out.then_ hb)
     have HLn3 := Lib.hid (HLn2.out.belowHere hb)
     have HUn3 := Lib.hid (HUn2.out.on hb)
     have HDn3 := Lib.hid hm
     have HDl3 := Lib.hid (show w.heap.size ≤ V1.heap.size + 1 from by have h := HBn2.out.size; rw [show (V1.alloc (.map #[] 0)).heap.size = V1.heap.size + 1 by simp] at h; exact h)
     have HUD3 := Lib.hid (show V1.heap.size ≠ V1.heap.size + 1 from by have h := HUn2.out.lt; rw [show (V1.alloc (.map #[] 0)).heap.size = V1.heap.size + 1 by simp] at h; omega)
     clear hm
     clear hb
     refine hK.out _ _ HLn3.out (fun hS3 => ?_)
     try simp only [layR]
     refine takeV 8 (v := (.agg #[.pointer (some ⟨f.F, 0, none⟩), .int .i64 (tb : Int), .int .i64 ((tb : Int) + 1), .int .i64 (np : Int), .int .i64 (ino : Int), .int .i64 64, .map (some (V1.heap.size)), .map (some (V1.heap.size + 1))])) rfl (by kernel_rfl) (by kernel_rfl) (by kernel_rfl) (fun _ _ _ h => h) (by rfl) (fun W hSw => ?_) (by assumption) ?_
     ·skip
      go_simp
     try simp only [layR]
     refine wpAnyH_ready (rs := [9]) (by kernel_rfl) (by simp) ?_
     refine AllReadyH.cons rfl (fun K' hK => ?_) AllReadyH.nil
     go_simp
     have hb9 := (Below.refl ((V1.alloc (.map #[] 0)).alloc (.map #[] 0)).heap.size ((V1.alloc (.map #[] 0)).alloc (.map #[] 0))).alloc (Nat.le_refl _) (.cells (plA f.F (V1.heap.size) (V1.heap.size + 1) (Ps.new0 f tb np ino)) 74)
     have HL9 := HLn3.out.belowHere hb9
     have HOut : OpOut w f.F (Ps.new0 f tb np ino) (((V1.alloc (.map #[] 0)).alloc (.map #[] 0)).alloc (.cells (plA f.F (V1.heap.size) (V1.heap.size + 1) (Ps.new0 f tb np ino)) 74)) (V1.heap.size + 2) := by
      have l1 := HUn3.out.lt
      have l2 := HDn3.out.lt
      have l3 := HBn3.out.size
      have l4 := HUl2.out
      have l5 := HDl3.out
      have l6 := HUD3.out
      have hbk := Blk.new ((V1.alloc (.map #[] 0)).alloc (.map #[] 0)) 74 (plA f.F (V1.heap.size) (V1.heap.size + 1) (Ps.new0 f tb np ino))
      have hsw : ((V1.alloc (.map #[] 0)).alloc (.map #[] 0)).heap.size = V1.heap.size + 2 := by simp
      rw [hsw] at hbk l3
      rw [hsw] at l1 l2
      exact ⟨_, _, hbk, HUn3.out.on hb9, HDn3.out.on hb9, by omega, by omega, by omega, by omega, by omega, by omega, HBn3.out.then_ hb9⟩
     refine hK.out _ _ HL9 (fun hS9 => ?_)
     try simp only [layR]
     refine takeV 10 (v := (.pointer (some ⟨V1.heap.size + 2, 0, none⟩))) rfl (by kernel_rfl) (by kernel_rfl) (by kernel_rfl) (fun _ _ _ h => h) (by rfl) (fun _ _ => rfl) (by assumption) ?_
     try simp only [layR]
     refine wpAnyH_done (by kernel_rfl) ?_ _
     refine NoPanic.normal ?_
     have HOut2 := Lib.hid HOut
     clear HOut HL9 hb9
     go_wp2_with fail
     go_meet
     case rel => exact ⟨_, rfl, HOut2.out⟩
   ·go_simp
    have hb := (Below.refl V1.heap.size V1).alloc (Nat.le_refl _) (.map #[] 0)
    have hm : MapK diE Tryz.prog 3 (V1.alloc (.map #[] 0)) (V1.heap.size) [] := by have h := MapK.made (E := diE) (P := Tryz.prog) (k := 3) V1; rw [show V1.heap.size = V1.heap.size by simp] at h; exact h
    have HBn2 := Lib.hid (HBn1.out.then_ hb)
    have HLn2 := Lib.hid (HLn1.out.belowHere hb)
    have HDn2 := Lib.hid hm
    have HDl2 := Lib.hid (show w.heap.size ≤ V1.heap.size from by have h := HBn1.out.size; rw [show V1.heap.size = V1.heap.size by simp] at h; exact h)
    clear hm
    clear hb
    refine hK.out _ _ HLn2.out (fun hS2 => ?_)
    try simp only [layR]
    refine wpAnyH_ready (rs := [6]) (by kernel_rfl) (by simp) ?_
    refine AllReadyH.cons rfl (fun K' hK => ?_) (AllReadyH.nil)
    ·go_simp
     have hb := (Below.refl (V1.alloc (.map #[] 0)).heap.size (V1.alloc (.map #[] 0))).alloc (Nat.le_refl _) (.map #[] 0)
     have hm : MapK usE Tryz.prog 3 ((V1.alloc (.map #[] 0)).alloc (.map #[] 0)) (V1.heap.size + 1) [] := by have h := MapK.made (E := usE) (P := Tryz.prog) (k := 3) (V1.alloc (.map #[] 0)); rw [show (V1.alloc (.map #[] 0)).heap.size = V1.heap.size + 1 by simp] at h; exact h
     have HBn3 := Lib.hid (HBn2.out.then_ hb)
     have HLn3 := Lib.hid (HLn2.out.belowHere hb)
     have HDn3 := Lib.hid (HDn2.out.on hb)
     have HUn3 := Lib.hid hm
     have HUl3 := Lib.hid (show w.heap.size ≤ V1.heap.size + 1 from by have h := HBn2.out.size; rw [show (V1.alloc (.map #[] 0)).heap.size = V1.heap.size + 1 by simp] at h; exact h)
     have HUD3 := Lib.hid (show V1.heap.size + 1 ≠ V1.heap.size from by have h := HDn2.out.lt; rw [show (V1.alloc (.map #[] 0)).heap.size = V1.heap.size + 1 by simp] at h; omega)
     clear hm
     clear hb
     refine hK.out _ _ HLn3.out (fun hS3 => ?_)
     try simp only [layR]
     refine takeV 8 (v := (.agg #[.pointer (some ⟨f.F, 0, none⟩), .int .i64 (tb : Int), .int .i64 ((tb : Int) + 1), .int .i64 (np : Int), .int .i64 (ino : Int), .int .i64 64, .map (some (V1.heap.size + 1)), .map (some (V1.heap.size))])) rfl (by kernel_rfl) (by kernel_rfl) (by kernel_rfl) (fun _ _ _ h => h) (by rfl) (fun W hSw => ?_) (by assumption) ?_
     ·skip
      go_simp
     try simp only [layR]
     refine wpAnyH_ready (rs := [9]) (by kernel_rfl) (by simp) ?_
     refine AllReadyH.cons rfl (fun K' hK => ?_) AllReadyH.nil
     go_simp
     have hb9 := (Below.refl ((V1.alloc (.map #[] 0)).alloc (.map #[] 0)).heap.size ((V1.alloc (.map #[] 0)).alloc (.map #[] 0))).alloc (Nat.le_refl _) (.cells (plA f.F (V1.heap.size + 1) (V1.heap.size) (Ps.new0 f tb np ino)) 74)
     have HL9 := HLn3.out.belowHere hb9
     have HOut : OpOut w f.F (Ps.new0 f tb np ino) (((V1.alloc (.map #[] 0)).alloc (.map #[] 0)).alloc (.cells (plA f.F (V1.heap.size + 1) (V1.heap.size) (Ps.new0 f tb np ino)) 74)) (V1.heap.size + 2) := by
      have l1 := HUn3.out.lt
      have l2 := HDn3.out.lt
      have l3 := HBn3.out.size
      have l4 := HUl3.out
      have l5 := HDl2.out
      have l6 := HUD3.out
      have hbk := Blk.new ((V1.alloc (.map #[] 0)).alloc (.map #[] 0)) 74 (plA f.F (V1.heap.size + 1) (V1.heap.size) (Ps.new0 f tb np ino))
      have hsw : ((V1.alloc (.map #[] 0)).alloc (.map #[] 0)).heap.size = V1.heap.size + 2 := by simp
      rw [hsw] at hbk l3
      rw [hsw] at l1 l2
      exact ⟨_, _, hbk, HUn3.out.on hb9, HDn3.out.on hb9, by omega, by omega, by omega, by omega, by omega, by omega, HBn3.out.then_ hb9⟩
     refine hK.out _ _ HL9 (fun hS9 => ?_)
     try simp only [layR]
     refine takeV 10 (v := (.pointer (some ⟨V1.heap.size + 2, 0, none⟩))) rfl (by kernel_rfl) (by kernel_rfl) (by kernel_rfl) (fun _ _ _ h => h) (by rfl) (fun _ _ => rfl) (by assumption) ?_
     try simp only [layR]
     refine wpAnyH_done (by kernel_rfl) ?_ _
     refine NoPanic.normal ?_
     have HOut2 := Lib.hid HOut
     clear HOut HL9 hb9
     go_wp2_with fail
     go_meet
     case rel => exact ⟨_, rfl, HOut2.out⟩
  ·go_simp
   have hb := (Below.refl W0.heap.size W0).alloc (Nat.le_refl _) (.map #[] 0)
   have hm : MapK usE Tryz.prog 3 (W0.alloc (.map #[] 0)) (W0.heap.size) [] := by have h := MapK.made (E := usE) (P := Tryz.prog) (k := 3) W0; rw [show W0.heap.size = W0.heap.size by simp] at h; exact h
   have HBn1 := Lib.hid (HB3.out.then_ hb)
   have HFn1 := Lib.hid (HF3.out.on hb)
   have HLn1 := Lib.hid (HL3.out.belowHere hb)
   have HUn1 := Lib.hid hm
   have HUl1 := Lib.hid (show w.heap.size ≤ W0.heap.size from by have h := HB3.out.size; rw [show W0.heap.size = W0.heap.size by simp] at h; exact h)
   clear hm
   clear hb
   refine hK.out _ _ HLn1.out (fun hS1 => ?_)
   try simp only [layR]
   refine wpAnyH_ready (rs := [3, 7]) (by kernel_rfl) (by simp) ?_
   refine AllReadyH.cons rfl (fun K' hK => ?_) (AllReadyH.cons rfl (fun K' hK => ?_) (AllReadyH.nil))
   ·go_simp
    refine (fText_calls HFn1.out HX.out).mono ?_
    rintro e V2 ⟨⟨ax, cx, rfl, _⟩, hb⟩
    have HBn2 := Lib.hid (HBn1.out.then_ hb)
    have HLn2 := Lib.hid (HLn1.out.belowHere hb)
    have HUn2 := Lib.hid (HUn1.out.on hb)
    clear hb
    refine hK.out _ _ HLn2.out (fun hS2 => ?_)
    try simp only [layR]
    refine takeV 4 (v := (.int .i64 56)) rfl (by kernel_rfl) (by kernel_rfl) (by kernel_rfl) (fun _ _ _ h => h) (by rfl) (fun W hSw => ?_) (by assumption) ?_
    ·skip
     go_simp
    try simp only [layR]
    refine takeV 5 (v := (.int .i64 64)) rfl (by kernel_rfl) (by kernel_rfl) (by kernel_rfl) (fun _ _ _ h => h) (by rfl) (fun W hSw => ?_) (by assumption) ?_
    ·skip
     go_simp
    try simp only [layR]
    refine wpAnyH_ready (rs := [7]) (by kernel_rfl) (by simp) ?_
    refine AllReadyH.cons rfl (fun K' hK => ?_) (AllReadyH.nil)
    ·go_simp
     have hb := (Below.refl V2.heap.size V2).alloc (Nat.le_refl _) (.map #[] 0)
     have hm : MapK diE Tryz.prog 3 (V2.alloc (.map #[] 0)) (V2.heap.size) [] := by have h := MapK.made (E := diE) (P := Tryz.prog) (k := 3) V2; rw [show V2.heap.size = V2.heap.size by simp] at h; exact h
     have HBn3 := Lib.hid (HBn2.out.then_ hb)
     have HLn3 := Lib.hid (HLn2.out.belowHere hb)
     have HUn3 := Lib.hid (HUn2.out.on hb)
     have HDn3 := Lib.hid hm
     have HDl3 := Lib.hid (show w.heap.size ≤ V2.heap.size from by have h := HBn2.out.size; rw [show V2.heap.size = V2.heap.size by simp] at h; exact h)
     have HUD3 := Lib.hid (show W0.heap.size ≠ V2.heap.size from by have h := HUn2.out.lt; rw [show V2.heap.size = V2.heap.size by simp] at h; omega)
     clear hm
     clear hb
     refine hK.out _ _ HLn3.out (fun hS3 => ?_)
     try simp only [layR]
     refine takeV 8 (v := (.agg #[.pointer (some ⟨f.F, 0, none⟩), .int .i64 (tb : Int), .int .i64 ((tb : Int) + 1), .int .i64 (np : Int), .int .i64 (ino : Int), .int .i64 64, .map (some (W0.heap.size)), .map (some (V2.heap.size))])) rfl (by kernel_rfl) (by kernel_rfl) (by kernel_rfl) (fun _ _ _ h => h) (by rfl) (fun W hSw => ?_) (by assumption) ?_
     ·skip
      go_simp
     try simp only [layR]
     refine wpAnyH_ready (rs := [9]) (by kernel_rfl) (by simp) ?_
     refine AllReadyH.cons rfl (fun K' hK => ?_) AllReadyH.nil
     go_simp
     have hb9 := (Below.refl (V2.alloc (.map #[] 0)).heap.size (V2.alloc (.map #[] 0))).alloc (Nat.le_refl _) (.cells (plA f.F (W0.heap.size) (V2.heap.size) (Ps.new0 f tb np ino)) 74)
     have HL9 := HLn3.out.belowHere hb9
     have HOut : OpOut w f.F (Ps.new0 f tb np ino) ((V2.alloc (.map #[] 0)).alloc (.cells (plA f.F (W0.heap.size) (V2.heap.size) (Ps.new0 f tb np ino)) 74)) (V2.heap.size + 1) := by
      have l1 := HUn3.out.lt
      have l2 := HDn3.out.lt
      have l3 := HBn3.out.size
      have l4 := HUl1.out
      have l5 := HDl3.out
      have l6 := HUD3.out
      have hbk := Blk.new (V2.alloc (.map #[] 0)) 74 (plA f.F (W0.heap.size) (V2.heap.size) (Ps.new0 f tb np ino))
      have hsw : (V2.alloc (.map #[] 0)).heap.size = V2.heap.size + 1 := by simp
      rw [hsw] at hbk l3
      rw [hsw] at l1 l2
      exact ⟨_, _, hbk, HUn3.out.on hb9, HDn3.out.on hb9, by omega, by omega, by omega, by omega, by omega, by omega, HBn3.out.then_ hb9⟩
     refine hK.out _ _ HL9 (fun hS9 => ?_)
     try simp only [layR]
     refine takeV 10 (v := (.pointer (some ⟨V2.heap.size + 1, 0, none⟩))) rfl (by kernel_rfl) (by kernel_rfl) (by kernel_rfl) (fun _ _ _ h => h) (by rfl) (fun _ _ => rfl) (by assumption) ?_
     try simp only [layR]
     refine wpAnyH_done (by kernel_rfl) ?_ _
     refine NoPanic.normal ?_
     have HOut2 := Lib.hid HOut
     clear HOut HL9 hb9
     go_wp2_with fail
     go_meet
     case rel => exact ⟨_, rfl, HOut2.out⟩
   ·go_simp
    have hb := (Below.refl (W0.alloc (.map #[] 0)).heap.size (W0.alloc (.map #[] 0))).alloc (Nat.le_refl _) (.map #[] 0)
    have hm : MapK diE Tryz.prog 3 ((W0.alloc (.map #[] 0)).alloc (.map #[] 0)) (W0.heap.size + 1) [] := by have h := MapK.made (E := diE) (P := Tryz.prog) (k := 3) (W0.alloc (.map #[] 0)); rw [show (W0.alloc (.map #[] 0)).heap.size = W0.heap.size + 1 by simp] at h; exact h
    have HBn2 := Lib.hid (HBn1.out.then_ hb)
    have HFn2 := Lib.hid (HFn1.out.on hb)
    have HLn2 := Lib.hid (HLn1.out.belowHere hb)
    have HUn2 := Lib.hid (HUn1.out.on hb)
    have HDn2 := Lib.hid hm
    have HDl2 := Lib.hid (show w.heap.size ≤ W0.heap.size + 1 from by have h := HBn1.out.size; rw [show (W0.alloc (.map #[] 0)).heap.size = W0.heap.size + 1 by simp] at h; exact h)
    have HUD2 := Lib.hid (show W0.heap.size ≠ W0.heap.size + 1 from by have h := HUn1.out.lt; rw [show (W0.alloc (.map #[] 0)).heap.size = W0.heap.size + 1 by simp] at h; omega)
    clear hm
    clear hb
    refine hK.out _ _ HLn2.out (fun hS2 => ?_)
    try simp only [layR]
    refine wpAnyH_ready (rs := [3]) (by kernel_rfl) (by simp) ?_
    refine AllReadyH.cons rfl (fun K' hK => ?_) (AllReadyH.nil)
    ·go_simp
     refine (fText_calls HFn2.out HX.out).mono ?_
     rintro e V3 ⟨⟨ax, cx, rfl, _⟩, hb⟩
     have HBn3 := Lib.hid (HBn2.out.then_ hb)
     have HLn3 := Lib.hid (HLn2.out.belowHere hb)
     have HUn3 := Lib.hid (HUn2.out.on hb)
     have HDn3 := Lib.hid (HDn2.out.on hb)
     clear hb
     refine hK.out _ _ HLn3.out (fun hS3 => ?_)
     try simp only [layR]
     refine takeV 4 (v := (.int .i64 56)) rfl (by kernel_rfl) (by kernel_rfl) (by kernel_rfl) (fun _ _ _ h => h) (by rfl) (fun W hSw => ?_) (by assumption) ?_
     ·skip
      go_simp
     try simp only [layR]
     refine takeV 5 (v := (.int .i64 64)) rfl (by kernel_rfl) (by kernel_rfl) (by kernel_rfl) (fun _ _ _ h => h) (by rfl) (fun W hSw => ?_) (by assumption) ?_
     ·skip
      go_simp
     try simp only [layR]
     refine takeV 8 (v := (.agg #[.pointer (some ⟨f.F, 0, none⟩), .int .i64 (tb : Int), .int .i64 ((tb : Int) + 1), .int .i64 (np : Int), .int .i64 (ino : Int), .int .i64 64, .map (some (W0.heap.size)), .map (some (W0.heap.size + 1))])) rfl (by kernel_rfl) (by kernel_rfl) (by kernel_rfl) (fun _ _ _ h => h) (by rfl) (fun W hSw => ?_) (by assumption) ?_
     ·skip
      go_simp
     try simp only [layR]
     refine wpAnyH_ready (rs := [9]) (by kernel_rfl) (by simp) ?_
     refine AllReadyH.cons rfl (fun K' hK => ?_) AllReadyH.nil
     go_simp
     have hb9 := (Below.refl V3.heap.size V3).alloc (Nat.le_refl _) (.cells (plA f.F (W0.heap.size) (W0.heap.size + 1) (Ps.new0 f tb np ino)) 74)
     have HL9 := HLn3.out.belowHere hb9
     have HOut : OpOut w f.F (Ps.new0 f tb np ino) (V3.alloc (.cells (plA f.F (W0.heap.size) (W0.heap.size + 1) (Ps.new0 f tb np ino)) 74)) (V3.heap.size) := by
      have l1 := HUn3.out.lt
      have l2 := HDn3.out.lt
      have l3 := HBn3.out.size
      have l4 := HUl1.out
      have l5 := HDl2.out
      have l6 := HUD2.out
      have hbk := Blk.new V3 74 (plA f.F (W0.heap.size) (W0.heap.size + 1) (Ps.new0 f tb np ino))
      have hsw : V3.heap.size = V3.heap.size := by simp
      rw [hsw] at hbk l3
      rw [hsw] at l1 l2
      exact ⟨_, _, hbk, HUn3.out.on hb9, HDn3.out.on hb9, by omega, by omega, by omega, by omega, by omega, by omega, HBn3.out.then_ hb9⟩
     refine hK.out _ _ HL9 (fun hS9 => ?_)
     try simp only [layR]
     refine takeV 10 (v := (.pointer (some ⟨V3.heap.size, 0, none⟩))) rfl (by kernel_rfl) (by kernel_rfl) (by kernel_rfl) (fun _ _ _ h => h) (by rfl) (fun _ _ => rfl) (by assumption) ?_
     try simp only [layR]
     refine wpAnyH_done (by kernel_rfl) ?_ _
     refine NoPanic.normal ?_
     have HOut2 := Lib.hid HOut
     clear HOut HL9 hb9
     go_wp2_with fail
     go_meet
     case rel => exact ⟨_, rfl, HOut2.out⟩
  ·go_simp
   have hb := (Below.refl W0.heap.size W0).alloc (Nat.le_refl _) (.map #[] 0)
   have hm : MapK diE Tryz.prog 3 (W0.alloc (.map #[] 0)) (W0.heap.size) [] := by have h := MapK.made (E := diE) (P := Tryz.prog) (k := 3) W0; rw [show W0.heap.size = W0.heap.size by simp] at h; exact h
   have HBn1 := Lib.hid (HB3.out.then_ hb)
   have HFn1 := Lib.hid (HF3.out.on hb)
   have HLn1 := Lib.hid (HL3.out.belowHere hb)
   have HDn1 := Lib.hid hm
   have HDl1 := Lib.hid (show w.heap.size ≤ W0.heap.size from by have h := HB3.out.size; rw [show W0.heap.size = W0.heap.size by simp] at h; exact h)
   clear hm
   clear hb
   refine hK.out _ _ HLn1.out (fun hS1 => ?_)
   try simp only [layR]
   refine wpAnyH_ready (rs := [3, 6]) (by kernel_rfl) (by simp) ?_
   refine AllReadyH.cons rfl (fun K' hK => ?_) (AllReadyH.cons rfl (fun K' hK => ?_) (AllReadyH.nil))
   ·go_simp
    refine (fText_calls HFn1.out HX.out).mono ?_
    rintro e V2 ⟨⟨ax, cx, rfl, _⟩, hb⟩
    have HBn2 := Lib.hid (HBn1.out.then_ hb)
    have HLn2 := Lib.hid (HLn1.out.belowHere hb)
    have HDn2 := Lib.hid (HDn1.out.on hb)
    clear hb
    refine hK.out _ _ HLn2.out (fun hS2 => ?_)
    try simp only [layR]
    refine takeV 4 (v := (.int .i64 56)) rfl (by kernel_rfl) (by kernel_rfl) (by kernel_rfl) (fun _ _ _ h => h) (by rfl) (fun W hSw => ?_) (by assumption) ?_
    ·skip
     go_simp
    try simp only [layR]
    refine takeV 5 (v := (.int .i64 64)) rfl (by kernel_rfl) (by kernel_rfl) (by kernel_rfl) (fun _ _ _ h => h) (by rfl) (fun W hSw => ?_) (by assumption) ?_
    ·skip
     go_simp
    try simp only [layR]
    refine wpAnyH_ready (rs := [6]) (by kernel_rfl) (by simp) ?_
    refine AllReadyH.cons rfl (fun K' hK => ?_) (AllReadyH.nil)
    ·go_simp
     have hb := (Below.refl V2.heap.size V2).alloc (Nat.le_refl _) (.map #[] 0)
     have hm : MapK usE Tryz.prog 3 (V2.alloc (.map #[] 0)) (V2.heap.size) [] := by have h := MapK.made (E := usE) (P := Tryz.prog) (k := 3) V2; rw [show V2.heap.size = V2.heap.size by simp] at h; exact h
     have HBn3 := Lib.hid (HBn2.out.then_ hb)
     have HLn3 := Lib.hid (HLn2.out.belowHere hb)
     have HDn3 := Lib.hid (HDn2.out.on hb)
     have HUn3 := Lib.hid hm
     have HUl3 := Lib.hid (show w.heap.size ≤ V2.heap.size from by have h := HBn2.out.size; rw [show V2.heap.size = V2.heap.size by simp] at h; exact h)
     have HUD3 := Lib.hid (show V2.heap.size ≠ W0.heap.size from by have h := HDn2.out.lt; rw [show V2.heap.size = V2.heap.size by simp] at h; omega)
     clear hm
     clear hb
     refine hK.out _ _ HLn3.out (fun hS3 => ?_)
     try simp only [layR]
     refine takeV 8 (v := (.agg #[.pointer (some ⟨f.F, 0, none⟩), .int .i64 (tb : Int), .int .i64 ((tb : Int) + 1), .int .i64 (np : Int), .int .i64 (ino : Int), .int .i64 64, .map (some (V2.heap.size)), .map (some (W0.heap.size))])) rfl (by kernel_rfl) (by kernel_rfl) (by kernel_rfl) (fun _ _ _ h => h) (by rfl) (fun W hSw => ?_) (by assumption) ?_
     ·skip
      go_simp
     try simp only [layR]
     refine wpAnyH_ready (rs := [9]) (by kernel_rfl) (by simp) ?_
     refine AllReadyH.cons rfl (fun K' hK => ?_) AllReadyH.nil
     go_simp
     have hb9 := (Below.refl (V2.alloc (.map #[] 0)).heap.size (V2.alloc (.map #[] 0))).alloc (Nat.le_refl _) (.cells (plA f.F (V2.heap.size) (W0.heap.size) (Ps.new0 f tb np ino)) 74)
     have HL9 := HLn3.out.belowHere hb9
     have HOut : OpOut w f.F (Ps.new0 f tb np ino) ((V2.alloc (.map #[] 0)).alloc (.cells (plA f.F (V2.heap.size) (W0.heap.size) (Ps.new0 f tb np ino)) 74)) (V2.heap.size + 1) := by
      have l1 := HUn3.out.lt
      have l2 := HDn3.out.lt
      have l3 := HBn3.out.size
      have l4 := HUl3.out
      have l5 := HDl1.out
      have l6 := HUD3.out
      have hbk := Blk.new (V2.alloc (.map #[] 0)) 74 (plA f.F (V2.heap.size) (W0.heap.size) (Ps.new0 f tb np ino))
      have hsw : (V2.alloc (.map #[] 0)).heap.size = V2.heap.size + 1 := by simp
      rw [hsw] at hbk l3
      rw [hsw] at l1 l2
      exact ⟨_, _, hbk, HUn3.out.on hb9, HDn3.out.on hb9, by omega, by omega, by omega, by omega, by omega, by omega, HBn3.out.then_ hb9⟩
     refine hK.out _ _ HL9 (fun hS9 => ?_)
     try simp only [layR]
     refine takeV 10 (v := (.pointer (some ⟨V2.heap.size + 1, 0, none⟩))) rfl (by kernel_rfl) (by kernel_rfl) (by kernel_rfl) (fun _ _ _ h => h) (by rfl) (fun _ _ => rfl) (by assumption) ?_
     try simp only [layR]
     refine wpAnyH_done (by kernel_rfl) ?_ _
     refine NoPanic.normal ?_
     have HOut2 := Lib.hid HOut
     clear HOut HL9 hb9
     go_wp2_with fail
     go_meet
     case rel => exact ⟨_, rfl, HOut2.out⟩
   ·go_simp
    have hb := (Below.refl (W0.alloc (.map #[] 0)).heap.size (W0.alloc (.map #[] 0))).alloc (Nat.le_refl _) (.map #[] 0)
    have hm : MapK usE Tryz.prog 3 ((W0.alloc (.map #[] 0)).alloc (.map #[] 0)) (W0.heap.size + 1) [] := by have h := MapK.made (E := usE) (P := Tryz.prog) (k := 3) (W0.alloc (.map #[] 0)); rw [show (W0.alloc (.map #[] 0)).heap.size = W0.heap.size + 1 by simp] at h; exact h
    have HBn2 := Lib.hid (HBn1.out.then_ hb)
    have HFn2 := Lib.hid (HFn1.out.on hb)
    have HLn2 := Lib.hid (HLn1.out.belowHere hb)
    have HDn2 := Lib.hid (HDn1.out.on hb)
    have HUn2 := Lib.hid hm
    have HUl2 := Lib.hid (show w.heap.size ≤ W0.heap.size + 1 from by have h := HBn1.out.size; rw [show (W0.alloc (.map #[] 0)).heap.size = W0.heap.size + 1 by simp] at h; exact h)
    have HUD2 := Lib.hid (show W0.heap.size + 1 ≠ W0.heap.size from by have h := HDn1.out.lt; rw [show (W0.alloc (.map #[] 0)).heap.size = W0.heap.size + 1 by simp] at h; omega)
    clear hm
    clear hb
    refine hK.out _ _ HLn2.out (fun hS2 => ?_)
    try simp only [layR]
    refine wpAnyH_ready (rs := [3]) (by kernel_rfl) (by simp) ?_
    refine AllReadyH.cons rfl (fun K' hK => ?_) (AllReadyH.nil)
    ·go_simp
     refine (fText_calls HFn2.out HX.out).mono ?_
     rintro e V3 ⟨⟨ax, cx, rfl, _⟩, hb⟩
     have HBn3 := Lib.hid (HBn2.out.then_ hb)
     have HLn3 := Lib.hid (HLn2.out.belowHere hb)
     have HUn3 := Lib.hid (HUn2.out.on hb)
     have HDn3 := Lib.hid (HDn2.out.on hb)
     clear hb
     refine hK.out _ _ HLn3.out (fun hS3 => ?_)
     try simp only [layR]
     refine takeV 4 (v := (.int .i64 56)) rfl (by kernel_rfl) (by kernel_rfl) (by kernel_rfl) (fun _ _ _ h => h) (by rfl) (fun W hSw => ?_) (by assumption) ?_
     ·skip
      go_simp
     try simp only [layR]
     refine takeV 5 (v := (.int .i64 64)) rfl (by kernel_rfl) (by kernel_rfl) (by kernel_rfl) (fun _ _ _ h => h) (by rfl) (fun W hSw => ?_) (by assumption) ?_
     ·skip
      go_simp
     try simp only [layR]
     refine takeV 8 (v := (.agg #[.pointer (some ⟨f.F, 0, none⟩), .int .i64 (tb : Int), .int .i64 ((tb : Int) + 1), .int .i64 (np : Int), .int .i64 (ino : Int), .int .i64 64, .map (some (W0.heap.size + 1)), .map (some (W0.heap.size))])) rfl (by kernel_rfl) (by kernel_rfl) (by kernel_rfl) (fun _ _ _ h => h) (by rfl) (fun W hSw => ?_) (by assumption) ?_
     ·skip
      go_simp
     try simp only [layR]
     refine wpAnyH_ready (rs := [9]) (by kernel_rfl) (by simp) ?_
     refine AllReadyH.cons rfl (fun K' hK => ?_) AllReadyH.nil
     go_simp
     have hb9 := (Below.refl V3.heap.size V3).alloc (Nat.le_refl _) (.cells (plA f.F (W0.heap.size + 1) (W0.heap.size) (Ps.new0 f tb np ino)) 74)
     have HL9 := HLn3.out.belowHere hb9
     have HOut : OpOut w f.F (Ps.new0 f tb np ino) (V3.alloc (.cells (plA f.F (W0.heap.size + 1) (W0.heap.size) (Ps.new0 f tb np ino)) 74)) (V3.heap.size) := by
      have l1 := HUn3.out.lt
      have l2 := HDn3.out.lt
      have l3 := HBn3.out.size
      have l4 := HUl2.out
      have l5 := HDl1.out
      have l6 := HUD2.out
      have hbk := Blk.new V3 74 (plA f.F (W0.heap.size + 1) (W0.heap.size) (Ps.new0 f tb np ino))
      have hsw : V3.heap.size = V3.heap.size := by simp
      rw [hsw] at hbk l3
      rw [hsw] at l1 l2
      exact ⟨_, _, hbk, HUn3.out.on hb9, HDn3.out.on hb9, by omega, by omega, by omega, by omega, by omega, by omega, HBn3.out.then_ hb9⟩
     refine hK.out _ _ HL9 (fun hS9 => ?_)
     try simp only [layR]
     refine takeV 10 (v := (.pointer (some ⟨V3.heap.size, 0, none⟩))) rfl (by kernel_rfl) (by kernel_rfl) (by kernel_rfl) (fun _ _ _ h => h) (by rfl) (fun _ _ => rfl) (by assumption) ?_
     try simp only [layR]
     refine wpAnyH_done (by kernel_rfl) ?_ _
     refine NoPanic.normal ?_
     have HOut2 := Lib.hid HOut
     clear HOut HL9 hb9
     go_wp2_with fail
     go_meet
     case rel => exact ⟨_, rfl, HOut2.out⟩
 case rest =>
  obtain ⟨Z, rfl, HOut⟩ := hcut
  have HR := Lib.hid (HOut.out.pl H0.out HC.out HBd.out)
  have HZ := Lib.hid (show w.heap.size ≤ Z from by obtain ⟨U, D, _, _, _, z1, _⟩ := HOut.out; exact z1)
  clear HOut
  go_wp2_with fail
  go_loopw [58] (fun i wr => i = .int .i64 0 ∧ wr = wc) (fun _ _ => 0)
  case atStart => exact ⟨rfl, rfl⟩
  case round =>
   obtain ⟨rfl, rfl⟩ := hrel
   go_wp2
   go_ret2
   exact ⟨Z, rfl, HR.out, HZ.out⟩
 end Go.Proofs.YtcppkaphlcflgaaGreat
