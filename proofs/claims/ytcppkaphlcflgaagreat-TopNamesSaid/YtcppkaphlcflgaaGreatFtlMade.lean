import Derived.Test.YtcppkaphlcflgaaGreatFtlSeal
namespace Go.Proofs.YtcppkaphlcflgaaGreat
open Lib (hid)
set_option maxRecDepth 100000
set_option maxHeartbeats 16000000
section
open Go.RowKit

section
variable {NB B C BL : Nat} {S : Nat → Prop} {w : World} {ps : Nat → Nat} {bl : Nat → Pb}
theorem badBlocks_calls (h : ChM NB B S w C BL ps bl) (hnb : NB ≤ 1000) (hb : ∀ k, k < NB → (bl k).bad = false) :
  Calls Tryz.prog 64 #[.pointer (some ⟨C, 0, none⟩)] w fun e w' => e = .returned (.int .i64 0) ∧ Below w.heap.size w w' := by
 have HH := hid h
 have HBd := hid hb
 have HG := hid (chGeo_calls h)
 have hf := geoF0 (.int .i64 (NB : Int)) (.int .i64 8) (.int .i64 64)
 clear h hb
 go_enter Tryz.func64, Tryz.ntmps64
 go_wp2_with fail
 refine HG.out.mono ?_
 rintro e w1 ⟨rfl, hb1⟩
 have HB1 := hid hb1
 clear hb1
 unfold geoV
 go_wp2_with fail
 go_loopw [3, 4, 8] (fun n _ i wr => ∃ k : Nat, k ≤ NB ∧ i = .int .i64 (k : Int) ∧ n = .int .i64 0 ∧ Below w.heap.size w wr) (fun _ _ i _ => NB - (intOf i).toNat)
 case atStart => exact ⟨0, by omega, rfl, rfl, HB1.out⟩
 case round =>
  obtain ⟨k, hk, rfl, rfl, hb⟩ := hrel
  have HBr := hid hb
  clear hb
  by_cases hlt : k < NB
  ·have hk1 : (k : Int) < (NB : Int) := by omega
   have HBa := hid (chBad_calls (HH.out.on HBr.out) hlt)
   rw [HBd.out k hlt] at HBa
   go_wp2_with fail
   refine HBa.out.mono ?_
   rintro e w_ ⟨rfl, rfl⟩
   go_wp2_with fail
   go_roundw
   case rel => exact ⟨k + 1, by omega, by go_num, rfl, HBr.out⟩
   case measure => simp [intOf]; omega
  ·obtain rfl : k = NB := by omega
   go_wp2_with fail
   go_ret
   exact ⟨rfl, HBr.out⟩
end
end
section
open Go.RowKit Ftl Go.ChangeMaps Go.Maps

structure FmI (B : Nat) (S : Nat → Prop) (w : World) (C BL G gb k : Nat) (S' : Nat → Prop) (ps' : Nat → Nat) (wr : World) : Prop where
 hc : ChM 16 B S' wr C BL ps' (once k)
 hG : Blk wr G 66 #[.int .i64 16, .int .i64 8, .int .i64 64]
 ho : Own bolV 4 wr w.heap.size (.slice (some ⟨gb, 0, none⟩) 16 16) (truB k)
 hk : Kq S w wr
 up : ∀ q, S' q → Up S w wr q
 nG : ¬ S' G
 nb : ¬ S' gb
 lG : w.heap.size ≤ G
 lb : w.heap.size ≤ gb
 ne : gb ≠ G
section
variable {B C BL G gb k : Nat} {S S' : Nat → Prop} {w wr w' : World} {ps ps' ps2 : Nat → Nat}
theorem FmI.on (h : FmI B S w C BL G gb k S' ps' wr) (hb : Below wr.heap.size wr w') : FmI B S w C BL G gb k S' ps' w' :=
 ⟨h.hc.on hb, h.hG.belowHere hb, h.ho.on hb, h.hk.on hb, fun q hq => by rcases h.up q hq with e | e; exact .inl e; exact .inr ⟨e.1, by have := hb.size; omega⟩, h.nG, h.nb, h.lG, h.lb, h.ne⟩
theorem FmI.erase (h : FmI B S w C BL G gb k S' ps' wr) (hc : ChM 16 B (Up S' wr w') w' C BL ps2 (upd (once k) k (fresh 1))) (hq : Kq S' wr w') (hk : k < 16) :
  w'.cell? ⟨gb, k, none⟩ = some (.bool ((truB k)[k]'(by rw [truB_len (by omega)]; exact hk))) ∧ w'.frozen? ⟨gb, k, none⟩ = false ∧ FmI B S w C BL G gb (k + 1) (Up S' wr w') ps2 (w'.setCell ⟨gb, k, none⟩ (.bool true)) := by
 have hs := hq.size
 have lG := h.hG.lt
 have lb := (h.ho.blockLt gb rfl).2
 have ho := h.ho.kq hq fun q e => by obtain rfl := own_of _ _ _ _ e; exact h.nb
 have hG := h.hG.kq hq h.nG
 obtain ⟨c1, c2⟩ := ho.cellg (k := k) (by rw [truB_len (by omega)]; exact hk)
 have ho2 := ho.set k true
 rw [truB_set hk] at ho2
 rw [once_upd] at hc
 have nG : ¬ Up S' wr w' G := fun e => h.nG (up_of e lG)
 have nb : ¬ Up S' wr w' gb := fun e => h.nb (up_of e lb)
 refine ⟨c1, c2, hc.kq (Kq.one ⟨gb, k, none⟩ (.bool true)) (fun q hq e => nb (by obtain rfl : q = gb := e; exact hq)), hG.far (by simpa using Ne.symm h.ne) _, ho2, ?_, fun q hq => ?_, nG, nb, h.lG, h.lb, h.ne⟩
 ·refine (h.hk.then_ hq fun q hq => ?_).setCell (.inr h.lb) _
  rcases h.up q hq with e | e
  ·exact .inl e
  ·exact .inr e.1
 ·rw [show Up S w (w'.setCell ⟨gb, k, none⟩ (.bool true)) q = Up S w w' q by unfold Up; rw [World.size_setCell]]
  rcases hq with e | e
  ·rcases h.up q e with e | e
   ·exact .inl e
   ·exact .inr ⟨e.1, by omega⟩
  ·exact .inr ⟨by have := h.hk.size; omega, e.2⟩
def fmA0 (C s : Nat) : Array Value := #[.pointer (some ⟨C, 0, none⟩), .pointer none, .int .i64 2, .int .i64 0, .slice none 0 0, .map (some s), .map (some (s + 1)), .map (some (s + 1 + 1)), .int .u64 1, .int .u64 1, .slice (some ⟨s + 1 + 1 + 1, 0, none⟩) 16 16, .bool false]
def fmW (w : World) (C : Nat) : World := ((((w.alloc (.map #[] 0)).alloc (.map #[] 0)).alloc (.map #[] 0)).alloc (.cells ((List.replicate 16 false).map bolV).toArray 4)).alloc (.cells (fmA0 C w.heap.size) 138)
theorem fmW_size (w : World) (C : Nat) : (fmW w C).heap.size = w.heap.size + 1 + 1 + 1 + 1 + 1 := by unfold fmW; simp
theorem fmW_below (w : World) (C : Nat) : Below w.heap.size w (fmW w C) := by
 unfold fmW
 exact (((((Below.refl _ _).alloc (Nat.le_refl _) _).alloc (by simp) _).alloc (by simp; omega) _).alloc (by simp; omega) _).alloc (by simp; omega) _
theorem fmt_ft {w8 w11 : World} {P : List UInt8 → Prop} {M ML cap s : Nat} (hSB : ∀ q, S q → B ≤ q ∧ q < w.heap.size) (hB0 : B ≤ w.heap.size) (hs : s = w8.heap.size) (hi : FmI B S w C BL G gb 16 S' ps' w8) (hb : Below (fmW w8 C).heap.size (fmW w8 C) w11) (hM : (fmW w8 C).heap.size ≤ M) (hML : (fmW w8 C).heap.size ≤ ML) (hg : MgM 16 B S' w11 (fmG M ML C BL cap ps' P)) :
  w11.cell? ⟨s + 1 + 1 + 1 + 1, 1, none⟩ = some (.pointer none) ∧ w11.frozen? ⟨s + 1 + 1 + 1 + 1, 1, none⟩ = false ∧ FtR 16 B S w (w11.setCell ⟨s + 1 + 1 + 1 + 1, 1, none⟩ (.pointer (some ⟨M, 0, none⟩))) (fm0 (s + 1 + 1 + 1 + 1) s (s + 1) (s + 1 + 1) (s + 1 + 1 + 1) (fmG M ML C BL cap ps' P)) := by
 have hsz := fmW_size w8 C
 rw [← hs] at hsz
 have hF9 : Blk (fmW w8 C) (s + 1 + 1 + 1 + 1) 138 (fmA0 C s) := by
  have h1 := Blk.new ((((w8.alloc (.map #[] 0)).alloc (.map #[] 0)).alloc (.map #[] 0)).alloc (.cells ((List.replicate 16 false).map bolV).toArray 4)) 138 (fmA0 C w8.heap.size)
  simp only [World.size_alloc] at h1
  rw [hs]
  exact h1
 have hF := hF9.belowHere hb
 have hold : ∀ q, q < s + 1 + 1 + 1 + 1 → (w11.setCell ⟨s + 1 + 1 + 1 + 1, 1, none⟩ (.pointer (some ⟨M, 0, none⟩))).heap[q]? = (fmW w8 C).heap[q]? := fun q hq => (heap_setCell_other _ _ _ _ (by show q ≠ s + 1 + 1 + 1 + 1; omega)).trans (hb.block q (by omega))
 have hq1 : Kq (fun q => q = s + 1 + 1 + 1 + 1) w11 (w11.setCell ⟨s + 1 + 1 + 1 + 1, 1, none⟩ (.pointer (some ⟨M, 0, none⟩))) := Kq.one ⟨_, _, none⟩ _
 have hS' : ∀ q, S' q → B ≤ q ∧ q < s := fun q hq => ⟨hi.hc.lo q hq, by rw [hs]; exact hi.hc.hi q hq⟩
 have hw := hi.hk.size
 have hBs : B ≤ w8.heap.size := hi.hc.base
 have hsz11 := hb.size
 have hkw : Kq S w (w11.setCell ⟨s + 1 + 1 + 1 + 1, 1, none⟩ (.pointer (some ⟨M, 0, none⟩))) := ((hi.hk.on (fmW_below w8 C)).on hb).setCell (p := ⟨s + 1 + 1 + 1 + 1, 1, none⟩) (.inr (by show w.heap.size ≤ s + 1 + 1 + 1 + 1; omega)) _
 have hMlt : M < w11.heap.size := hg.hi M (.inl rfl)
 have hMLlt : ML < w11.heap.size := hg.hi ML (.inr (.inl rfl))
 have hBw : ∀ q, Up S w (w11.setCell ⟨s + 1 + 1 + 1 + 1, 1, none⟩ (.pointer (some ⟨M, 0, none⟩))) q → B ≤ q ∧ q < (w11.setCell ⟨s + 1 + 1 + 1 + 1, 1, none⟩ (.pointer (some ⟨M, 0, none⟩))).heap.size := fun q hq => by
  rw [World.size_setCell] at *
  rcases hq with e | e
  ·have := hSB q e
   omega
  ·rw [World.size_setCell] at e
   omega
 refine ⟨hF.cellv rfl, hF.frozen 1, ft_made (S := S') ?_ ?_ ?_ ?_ ?_ rfl rfl ?_ ?_ ?_ ?_ hBw, hkw⟩
 ·exact hF.set 1 _
 ·refine MapE.same (w := fmW w8 C) ?_ (hold s (by omega))
  have h1 := ((((MapE.made w8).alloc (.map #[] 0)).alloc (.map #[] 0)).alloc (.cells ((List.replicate 16 false).map bolV).toArray 4)).alloc (.cells (fmA0 C w8.heap.size) 138)
  rw [hs]
  exact h1
 ·refine MapE.same (w := fmW w8 C) ?_ (hold (s + 1) (by omega))
  have h1 := (((MapE.made (w8.alloc (.map #[] 0))).alloc (.map #[] 0)).alloc (.cells ((List.replicate 16 false).map bolV).toArray 4)).alloc (.cells (fmA0 C w8.heap.size) 138)
  simp only [World.size_alloc] at h1
  rw [hs]
  exact h1
 ·refine MapE.same (w := fmW w8 C) ?_ (hold (s + 1 + 1) (by omega))
  have h1 := ((MapE.made ((w8.alloc (.map #[] 0)).alloc (.map #[] 0))).alloc (.cells ((List.replicate 16 false).map bolV).toArray 4)).alloc (.cells (fmA0 C w8.heap.size) 138)
  simp only [World.size_alloc] at h1
  rw [hs]
  exact h1
 ·have h1 := Own.made (f := bolV) (e := 4) (w := ((w8.alloc (.map #[] 0)).alloc (.map #[] 0)).alloc (.map #[] 0)) (base := 0) (xs := List.replicate 16 false) (Nat.zero_le _) (by simp [maxLen])
  have h2 := h1.alloc (.cells (fmA0 C w8.heap.size) 138)
  simp only [World.size_alloc, List.length_replicate] at h2
  have h3 : Own bolV 4 (fmW w8 C) 0 (.slice (some ⟨s + 1 + 1 + 1, 0, none⟩) 16 16) (List.replicate 16 false) := by rw [hs]; exact h2
  exact (h3.on hb).kq hq1 fun q e => by obtain rfl := own_of _ _ _ _ e; omega
 ·refine hg.kq hq1 fun q hq e => ?_
  rcases hq with e1 | e1 | e1
  ·have : q = M := e1
   omega
  ·have : q = ML := e1
   omega
  ·have := hS' q e1
   omega
 ·simp [fm0]; omega
 ·intro q hq
  simp only [fm0, List.mem_cons, List.not_mem_nil, or_false] at hq
  refine ⟨fun h1 => ?_, by omega, .inr ⟨by omega, by rw [World.size_setCell]; omega⟩⟩
  rcases h1 with e1 | e1 | e1
  ·have : q = M := e1
   omega
  ·have : q = ML := e1
   omega
  ·have := hS' q e1
   omega
 ·intro q hq
  rcases hq with e1 | e1 | e1
  ·have : q = M := e1
   exact .inr ⟨by omega, by rw [World.size_setCell]; omega⟩
  ·have : q = ML := e1
   exact .inr ⟨by omega, by rw [World.size_setCell]; omega⟩
  ·rcases hi.up q e1 with e2 | e2
   ·exact .inl e2
   ·exact .inr ⟨e2.1, by rw [World.size_setCell]; omega⟩
def sealP (tx : List UInt8) (L : List UInt8) : Prop := L = Tg.page ⟨2, 0, 1, 1⟩ (headL tx)
def Fmtd (B : Nat) (S : Nat → Prop) (C : Nat) (tx : List UInt8) (w : World) (e : Ending) (w' : World) : Prop :=
 ∃ f, e = .returned (.tuple #[.pointer (some ⟨f.F, 0, none⟩), .int .i64 0]) ∧ FtR 16 B S w w' f ∧ f.g.C = C ∧ Fmd f tx ∧ f.g.gh = sealP tx
theorem fFormat_calls (h : ChM 16 B S w C BL ps (fun _ => fresh 0)) (a : Option Addr) (c : Nat) (tx : List UInt8) (hx : Bytes w w.heap.size a 56 tx) (hap : ∀ b o, a = some ⟨b, o, none⟩ → ¬ S b) :
  Calls Tryz.prog 25 #[.pointer (some ⟨C, 0, none⟩), .int .i64 2, .slice a 56 c] w (Fmtd B S C tx w) := by
 rw [← once_zero] at h
 have HU := hid (chUp_calls h)
 have HH := hid h
 have HG := hid (fun (W : World) (hW : Below w.heap.size w W) => chGeo_calls (h.on hW))
 have HX := hid hx
 have HAp := hid hap
 have HAb := hid (show ∀ b o, a = some ⟨b, o, none⟩ → b < w.heap.size from fun b o e => by obtain ⟨b', o', e', hlt, _⟩ := hx.2.2 (by omega); rw [e] at e'; injection e' with e'; injection e' with e'; omega)
 have hf2 := geoF2 (.int .i64 16) (.int .i64 8) (.int .i64 64)
 have hcs := geoCells
 have HBa := hid (fun (W : World) (hW : Below w.heap.size w W) => badBlocks_calls (h.on hW) (by decide) (fun k _ => once_bad 0 k))
 have HDa := hid (fun (W : World) => show Calls Tryz.prog 63 #[.agg #[.int .i64 16, .int .i64 8, .int .i64 64], .int .i64 2, .int .i64 0] W fun e w' => e = .returned (.int .i64 13) ∧ Below W.heap.size W w' from fdataBlocks_calls (w := W) (NB := 16) (by decide))
 clear h hx hap
 go_enter Tryz.func25, Tryz.ntmps25
 go_wp2_with fail
 refine (HU.out).mono ?_
 rintro e w_ ⟨rfl, rfl⟩
 go_wp2_with fail
 refine (HG.out w (Below.refl _ _)).mono ?_
 rintro e w1 ⟨rfl, hb1⟩
 have HB1 := hid hb1
 clear hb1
 unfold geoV
 go_wp2_with fail
 refine (HG.out w1 HB1.out).mono ?_
 rintro e w2 ⟨rfl, hb2⟩
 have hb3 := (HB1.out.then_ hb2).alloc (HB1.out.then_ hb2).size (.cells #[.int .i64 16, .int .i64 8, .int .i64 64] 66)
 have HB2 := hid hb3
 have HGb := hid (Blk.new w2 66 #[.int .i64 16, .int .i64 8, .int .i64 64])
 have HG2 := hid (HB1.out.then_ hb2).size
 clear hb2 hb3
 unfold geoV
 go_upto_region 8 with fail
 have HSz := hid (fun q (e : S q) => HH.out.hi q e)
 generalize w2.alloc (.cells #[.int .i64 16, .int .i64 8, .int .i64 64] 66) = w3 at *
 generalize w2.heap.size = G at *
 have HBw := hid (HB2.out.then_ (below_drew w3))
 have HGd := hid (show Blk w3.drew G 66 #[.int .i64 16, .int .i64 8, .int .i64 64] from HGb.out.belowHere (below_drew w3))
 refine wp_region_noPanic ?_
 refine wp_region_held_drew (S := (fun W' => Blk W' G 66 #[.int .i64 16, .int .i64 8, .int .i64 64])) (by kernel_rfl) HGd.out (fun hS0 => ?_)
 generalize w3.drew = W at *
 refine tk 0 ((.agg #[.int .i64 16, .int .i64 8, .int .i64 64])) rfl (fun W hSw => ?_) ?_
 ·have y0 := hSw.cellv (i := 0) rfl; have y1 := hSw.cellv (i := 1) rfl; have y2 := hSw.cellv (i := 2) rfl
  go_simp
 try simp only [layR]
 refine tk 1 ((.int .i64 2)) rfl (fun _ _ => rfl) ?_
 try simp only [layR]
 refine tk 2 ((.pointer (some ⟨C, 0, none⟩))) rfl (fun _ _ => rfl) ?_
 try simp only [layR]
 refine rd 3 rfl (fun K' hK => ?_)
 go_simp
 refine (HBa.out W HBw.out).mono ?_
 rintro e w4 ⟨rfl, hb4⟩
 have hS4 := hS0.belowHere hb4
 have HB4 := hid (HBw.out.then_ hb4)
 clear hb4
 refine hK.out _ _ hS4 (fun hS5 => ?_)
 try simp only [layR]
 refine rd 4 rfl (fun K' hK => ?_)
 go_simp
 refine (HDa.out w4).mono ?_
 rintro e w5 ⟨rfl, hb5⟩
 have hS6 := hS5.belowHere hb5
 have HB5 := hid (HB4.out.then_ hb5)
 clear hb5
 refine hK.out _ _ hS6 (fun hS7 => ?_)
 try simp only [layR]
 refine tk 5 ((.bool false)) rfl (fun W hSw => ?_) ?_
 ·skip
  go_simp
 try simp only [layR]
 refine wpAnyH_done (by kernel_rfl) ?_ _
 refine NoPanic.normal ?_
 have HG5 := hid hS6
 have g0 := hS6.cellv (i := 0) (v := .int .i64 16) rfl
 clear hS0 hS4 hS5 hS6 hS7 HGd HGb HBw HB2 HB4 HB1
 have hmk := fmBools
 go_upto_region 11 with fail
 generalize hwa : w5.alloc _ = w6
 have HF0 := hid (show FmI B S w C BL G w5.heap.size 0 S ps w6 from by
  rw [← hwa]
  have hb6 := (Below.refl w5.heap.size w5).alloc (Nat.le_refl _) (.cells ((List.replicate 16 false).map bolV).toArray 4)
  have hs5 := HB5.out.size
  have hg := HG5.out.lt
  have hg2 := HG2.out
  exact ⟨HH.out.on (HB5.out.then_ hb6), HG5.out.belowHere hb6, Own.made (f := bolV) (e := 4) (w := w5) (base := w.heap.size) (xs := List.replicate 16 false) hs5 (by simp [maxLen]), Kq.of (HB5.out.then_ hb6), fun q hq => .inl hq, fun e => by have := HSz.out _ e; omega, fun e => by have := HSz.out _ e; omega, hg2, hs5, by omega⟩)
 generalize w5.heap.size = gb at *
 clear hwa g0 hmk HG5 HB5 HBa
 go_wp2_with fail
 go_loopw [10, 11, 51] (fun _ _ i wr => ∃ (k : Nat) (S' : Nat → Prop) (ps' : Nat → Nat), k ≤ 16 ∧ i = .int .i64 (k : Int) ∧ FmI B S w C BL G gb k S' ps' wr) (fun _ _ i _ => 16 - (intOf i).toNat)
 case atStart => exact ⟨0, S, ps, by omega, rfl, HF0.out⟩
 case round =>
  obtain ⟨k, S', ps', hk, rfl, hi⟩ := hrel
  clear HF0
  by_cases hlt : k < 16
  ·have hk0 : (0 : Int) ≤ (k : Int) := by omega
   have hk1 : (k : Int) < 16 := by omega
   have hba := chBad_calls hi.hc hlt
   have her := chErase_calls hi.hc hlt (once_at k).1 (by rw [(once_at k).2]; decide)
   rw [(once_at k).1] at hba
   rw [(once_at k).2] at her
   have HBad := hid hba
   have HEr := hid her
   have HI := hid hi
   clear hba her hi
   go_wp2_with fail
   refine HBad.out.mono ?_
   rintro e w_ ⟨rfl, rfl⟩
   go_wp2_with fail
   refine HEr.out.mono ?_
   rintro e w7 ⟨rfl, ⟨ps2, hc⟩, hq⟩
   obtain ⟨c1, c2, h2⟩ := HI.out.erase hc hq hlt
   have H2 := hid h2
   clear hc hq h2
   generalize (truB k)[k]'(by rw [truB_len (by omega)]; exact hlt) = bk at *
   go_wp2_with fail
   go_roundw
   case rel => exact ⟨k + 1, _, _, by omega, by go_num, H2.out⟩
   case measure => simp [intOf]; omega
  ·obtain rfl : k = 16 := by omega
   have HI := hid hi
   have HBad := hid (badBlocks_calls hi.hc (by decide) (fun k _ => once_bad 16 k))
   clear hi
   go_wp2_with fail
   refine HBad.out.mono ?_
   rintro e w7 ⟨rfl, hb7⟩
   have HI7 := hid (HI.out.on hb7)
   clear hb7
   have g0 := HI7.out.hG.cellv (i := 0) (v := .int .i64 16) rfl
   have g1 := HI7.out.hG.cellv (i := 1) (v := .int .i64 8) rfl
   have g2 := HI7.out.hG.cellv (i := 2) (v := .int .i64 64) rfl
   go_wp2_with fail
   refine (HDa.out w7).mono ?_
   rintro e w8 ⟨rfl, hb8⟩
   have HI8 := hid (HI7.out.on hb8)
   clear hb8 g0 g1 g2
   have g0 : (((w8.alloc (.map #[] 0)).alloc (.map #[] 0)).alloc (.map #[] 0)).cell? ⟨G, 0, none⟩ = some (.int .i64 16) := (((HI8.out.hG.alloc _).alloc _).alloc _).cellv rfl
   have hmk := fmBools
   have hmm := @run_makeMap Tryz.prog
   go_upto_region 27 with fail
   generalize hw9 : World.alloc _ _ = w9
   have hw9' : w9 = fmW w8 C := hw9.symm
   obtain ⟨s, hs⟩ : ∃ s, s = w8.heap.size := ⟨_, rfl⟩
   rw [← hs]
   have HW9 := hid hw9'
   have HSs := hid hs
   clear hw9 hw9' hs g0 hmk hmm
   have hb9 : Below w8.heap.size w8 w9 := by rw [HW9.out]; exact fmW_below w8 C
   have HB9 := hid hb9
   have g0 := (HI8.out.hG.belowHere hb9).cellv (i := 0) (v := .int .i64 16) rfl
   clear hb9
   have hmi := fmInts w9
   have HLv := hid (show Own naV 3 (w9.alloc (.cells ((List.replicate 16 0).map naV).toArray 3)) w9.heap.size (.slice (some ⟨w9.heap.size, 0, none⟩) 16 16) (List.replicate 16 0) from Own.made (f := naV) (e := 3) (w := w9) (base := w9.heap.size) (xs := List.replicate 16 0) (Nat.le_refl _) (by simp [maxLen]))
   have HBl := hid ((Below.refl w9.heap.size w9).alloc (Nat.le_refl _) (.cells ((List.replicate 16 0).map naV).toArray 3))
   generalize hcz : (Obj.cells ((List.replicate 16 0).map naV).toArray 3) = oz at *
   clear hcz
   go_wp2_with fail
   have HI10 := hid ((HI8.out.on HB9.out).on HBl.out)
   refine (bOpen_calls HI10.out.hc (by decide) (by decide) (fun k _ => Nat.le_trans (once_wear 16 k) (by decide)) _ 16 (truB 16) (HI10.out.ho.arr (by rw [truB_len (Nat.le_refl _)]; decide)) _ 16 _ (HLv.out.arr (by simp)) (fun k hk => by
    have e : (List.replicate 16 0).getD k 0 = 0 := by rw [List.getD_eq_getElem?_getD, List.getElem?_replicate]; split <;> rfl
    rw [e]; exact ⟨by omega, fun _ => rfl⟩) 2 0).mono ?_
   rintro e w11 ⟨M, ML, cap, rfl, hM, hML, hm, hb⟩
   rw [show (⟨M, ML, C, BL, cap, ps', once 16, openL (once 16) (truB 16) (List.replicate 16 0) 16, -1, ((2 : Nat) : Int), ((0 : Nat) : Int), decide (4 < (Gc.greatest (openL (once 16) (truB 16) (List.replicate 16 0) 16) : Int) - Gc.least (openL (once 16) (truB 16) (List.replicate 16 0) 16)), fun _ => True⟩ : Mg) = fmG M ML C BL cap ps' (fun _ => True) from fmG_of] at hm
   have hm : MgM 16 B S' w11 (fmG M ML C BL cap ps' (sealP tx)) := hm.ghost (sealP tx)
   have hsz := HBl.out.size
   obtain ⟨c1, z1, h12⟩ := fmt_ft (fun q hq => ⟨HH.out.lo q hq, HH.out.hi q hq⟩) HH.out.base HSs.out HI8.out (w11 := w11) (M := M) (ML := ML) (cap := cap) (by rw [← HW9.out]; exact HBl.out.then_ hb) (by rw [← HW9.out]; omega) (by rw [← HW9.out]; omega) hm
   have H12 := hid h12
   clear hb hm hM hML hsz h12 hmi g0 HLv HI10 HBl
   have HFc := hid (fm0_fc (s + 1 + 1 + 1 + 1) s (s + 1) (s + 1 + 1) (s + 1 + 1 + 1) M ML C BL cap ps' (sealP tx))
   generalize hf0 : fm0 (s + 1 + 1 + 1 + 1) s (s + 1) (s + 1 + 1) (s + 1 + 1 + 1) (fmG M ML C BL cap ps' (sealP tx)) = f0 at *
   have HF0 := hid hf0.symm
   have hfF : f0.F = s + 1 + 1 + 1 + 1 := by rw [← hf0]; rfl
   clear hf0
   have HX12 := hid ((HX.out.kq (Nat.le_refl _) H12.out.2 HAp.out).mono H12.out.2.size)
   have hse := fSeal_calls (by rw [HF0.out]; exact (show Ftl.enough (fmG M ML C BL cap ps' (sealP tx)) = true from rfl)) H12.out.1 HFc.out (by rw [HF0.out]; exact (show 1 ≤ 1000000 by decide)) a c tx (by rw [HF0.out]; exact rfl) HX12.out (fun b o e h1 => HAp.out b o e (up_of h1 (HAb.out b o e))) (.inr (by rw [HF0.out]; exact (show (0 : Nat) + 3 ≤ 8 * (16 - 3) by decide)))
   rw [hfF] at hse
   have HSe := hid hse
   clear hse
   go_wp2_with fail
   refine HSe.out.mono ?_
   rintro e w13 ⟨rfl, f', hfr, hsd⟩
   rw [HF0.out] at hsd
   obtain ⟨q1, q2, q3, q4⟩ := fmd hsd
   have HQ4 := hid q4
   have H13 := hid (H12.out.then_ hfr)
   have HQ := hid q1
   have HQ3 := hid q3
   have HQ2 := hid q2
   clear q1 q2 q3 q4 hfr hsd
   go_wp2_with fail
   go_ret2
   exact ⟨f', by rw [HQ2.out]; rfl, H13.out, HQ3.out, HQ.out, HQ4.out⟩
end
end
section
open Go.RowKit

def rowJ (ps : Nat → Nat) (k j : Nat) : Bv := if j < k then pbV (ps j) (fresh 0) else bv0
structure BlJ (g : Nat) (w wr : World) (k : Nat) (ps : Nat → Nat) : Prop where
 hG : Blk wr g 66 #[.int .i64 16, .int .i64 8, .int .i64 64]
 hC : Blk wr (g + 2) 130 (chQ 16 (g + 1) 0 0 0)
 hB : OwnM 5 bvL 126 wr g (.slice (some ⟨g + 1, 0, none⟩) 16 16) ((List.range 16).map (rowJ ps k))
 hP : ∀ j, j < k → Own vId 40 wr g (.slice (some ⟨ps j, 0, none⟩) 8 8) nil8 ∧ g + 2 < ps j ∧ ps j < wr.heap.size
 inj : ∀ i j, i < k → j < k → ps i = ps j → i = j
 hb : Below g w wr
theorem BlJ.on {g k : Nat} {w wr w' : World} {ps : Nat → Nat} (h : BlJ g w wr k ps) (hb : Below wr.heap.size wr w') : BlJ g w w' k ps := by
 obtain ⟨h1, h2, h3, h4, h5, h6⟩ := h
 exact ⟨h1.belowHere hb, h2.belowHere hb, h3.on hb, fun j hj => ⟨(h4 j hj).1.on hb, (h4 j hj).2.1, Nat.lt_of_lt_of_le (h4 j hj).2.2 hb.size⟩, h5, h6.trans (hb.mono (Nat.le_of_lt h1.lt))⟩
theorem BlJ.step {g k : Nat} {w wr : World} {ps : Nat → Nat} (h : BlJ g w wr k ps) (hk : k < 16) :
  BlJ g w ((wr.alloc (.cells (nil8.map vId).toArray 40)).setCell ⟨g + 1, k * 5, none⟩ (.slice (some ⟨wr.heap.size, 0, none⟩) 8 8)) (k + 1) (upd ps k wr.heap.size) := by
 have hlt := h.hC.lt
 have hbe := h.hb
 have ho := ownPgs wr g (by omega)
 have hold := fun j hj => (h.hP j hj).2.2
 have hinj := h.inj
 have hsz : (wr.alloc (.cells (nil8.map vId).toArray 40)).heap.size = wr.heap.size + 1 := by simp
 obtain ⟨h1, h2, h3, h4, h5, h6⟩ := h.on ((Below.refl wr.heap.size wr).alloc (Nat.le_refl _) (.cells (nil8.map vId).toArray 40))
 generalize wr.alloc (.cells (nil8.map vId).toArray 40) = wp at *
 have hset := h3.set (i := k) (j := 0) (u := .slice (some ⟨wr.heap.size, 0, none⟩) 8 8) (y := pbV wr.heap.size (fresh 0)) (by simpa using hk) (by omega) (by
  rw [List.getElem_map, List.getElem_range, rowJ, if_neg (Nat.lt_irrefl _)]; rfl)
 refine ⟨h1.far (by simp) _, h2.far (by simp) _, ?_, fun j hj => ?_, fun i j hi hj e => ?_, h6.setCell (p := ⟨g + 1, k * 5, none⟩) (by simp) _⟩
 ·have e : ((List.range 16).map (rowJ ps k)).set k (pbV wr.heap.size (fresh 0)) = (List.range 16).map (rowJ (upd ps k wr.heap.size) (k + 1)) := by
   apply List.ext_getElem
   ·simp
   ·intro i g1 g2
    rw [List.getElem_set]
    simp only [List.getElem_map, List.getElem_range, rowJ]
    by_cases e : k = i
    ·subst e; rw [if_pos rfl, if_pos (by omega), upd_same]
    ·rw [if_neg e, upd_other _ _ (Ne.symm e)]
     by_cases e2 : i < k
     ·rw [if_pos e2, if_pos (by omega)]
     ·rw [if_neg e2, if_neg (by omega)]
  rw [e] at hset
  exact hset
 ·by_cases e : j = k
  ·subst e
   rw [upd_same]
   exact ⟨ho.far (by simp [Value.ownBlock]; omega) _, hlt, by rw [World.size_setCell]; omega⟩
  ·rw [upd_other _ _ e]
   obtain ⟨p1, p2, p3⟩ := h4 j (by omega)
   exact ⟨p1.far (by simp [Value.ownBlock]; omega) _, p2, by rw [World.size_setCell]; exact p3⟩
 ·by_cases e1 : i = k
  ·by_cases e2 : j = k
   ·rw [e1, e2]
   ·rw [e1, upd_same, upd_other _ _ e2] at e
    have := hold j (by omega); omega
  ·by_cases e2 : j = k
   ·rw [e2, upd_same, upd_other _ _ e1] at e
    have := hold i (by omega); omega
   ·rw [upd_other _ _ e1, upd_other _ _ e2] at e
    exact hinj i j (by omega) (by omega) e
theorem blankJ_calls (w : World) :
  Calls Tryz.prog 60 #[.agg #[.int .i64 16, .int .i64 8, .int .i64 64]] w fun e w' => e = .returned (.pointer (some ⟨w.heap.size + 2, 0, none⟩)) ∧ ∃ ps, BlJ w.heap.size w w' 16 ps := by
 have B1 := Blk.new w 66 #[.int .i64 16, .int .i64 8, .int .i64 64]
 have hb := (Below.refl w.heap.size w).alloc (Nat.le_refl _) (.cells #[.int .i64 16, .int .i64 8, .int .i64 64] 66)
 obtain ⟨w1, hw1⟩ : ∃ w1, w1 = w.alloc (.cells #[.int .i64 16, .int .i64 8, .int .i64 64] 66) := ⟨_, rfl⟩
 obtain ⟨g, hg⟩ : ∃ g, g = w.heap.size := ⟨_, rfl⟩
 have hs1 : w1.heap.size = g + 1 := by rw [hw1, hg]; simp
 rw [← hw1] at B1 hb
 rw [← hg] at B1 hb ⊢
 have HBd := hid (show Blk w1.drew g 66 #[.int .i64 16, .int .i64 8, .int .i64 64] from B1)
 have HB := hid hb
 have HS1 := hid hs1
 have hmk := makeBlk w1.drew
 have HBg := hid B1
 have hC0 := Blk.new (w1.alloc (.cells (bvs0.flatMap bvL).toArray 126)) 130 (chQ 16 (g + 1) 0 0 0)
 have hG0 := (B1.alloc (.cells (bvs0.flatMap bvL).toArray 126)).alloc (.cells (chQ 16 (g + 1) 0 0 0) 130)
 have hO0 := (ownBlk w1 g (by omega)).alloc (.cells (chQ 16 (g + 1) 0 0 0) 130)
 have hB0 := (hb.alloc (by omega) (.cells (bvs0.flatMap bvL).toArray 126)).alloc (by simp; omega) (.cells (chQ 16 (g + 1) 0 0 0) 130)
 rw [World.size_alloc, hs1] at hC0
 rw [hs1] at hO0
 have HI := hid (show BlJ g w ((w1.alloc (.cells (bvs0.flatMap bvL).toArray 126)).alloc (.cells (chQ 16 (g + 1) 0 0 0) 130)) 0 (fun _ => 0) from ⟨hG0, hC0, hO0, fun _ h => absurd h (by omega), fun _ _ h => absurd h (by omega), hB0⟩)
 clear B1 hb hC0 hG0 hO0 hB0
 go_enter Tryz.func60, Tryz.ntmps60
 go_wp2_with fail
 rw [← hw1, ← hg]
 clear hw1 hg hs1
 refine wp_region_noPanic ?_
 refine wp_region_held_drew (S := (fun W' => Blk W' g 66 #[.int .i64 16, .int .i64 8, .int .i64 64])) (by kernel_rfl) HBd.out (fun hS0 => ?_)
 refine tk 0 ((.agg #[.int .i64 16, .int .i64 8, .int .i64 64])) rfl (fun W hSw => ?_) ?_
 ·have y0 := hSw.cellv (i := 0) rfl; have y1 := hSw.cellv (i := 1) rfl; have y2 := hSw.cellv (i := 2) rfl
  go_simp
 try simp only [layR]
 refine tk 1 ((.pointer (some ⟨g, 0, none⟩))) rfl (fun W hSw => ?_) ?_
 ·skip
  go_simp
 try simp only [layR]
 refine tk 2 ((.int .i64 16)) rfl (fun W hSw => ?_) ?_
 ·have y0 := hSw.cellv (i := 0) rfl
  go_simp
 try simp only [layR]
 refine rd 3 rfl (fun K' hK => ?_)
 go_simp
 refine hK.out _ _ (HBg.out.alloc _).drew (fun hS1 => ?_)
 try simp only [layR]
 refine tk 4 ((.agg #[.int .i64 16, .int .i64 8, .int .i64 64, .slice (some ⟨w1.heap.size, 0, none⟩) 16 16, .slice none 0 0, .int .i64 0, .bool false, .int .i64 0, .int .i64 0])) rfl (fun W hSw => ?_) ?_
 ·skip
  go_simp
 try simp only [layR]
 refine rd 5 rfl (fun K' hK => ?_)
 go_simp
 refine hK.out _ _ ((HBg.out.alloc _).alloc _).drew (fun hS2 => ?_)
 try simp only [layR]
 refine tk 6 ((.pointer (some ⟨w1.heap.size + 1, 0, none⟩))) rfl (fun _ _ => rfl) ?_
 try simp only [layR]
 refine wpAnyH_done (by kernel_rfl) ?_ _
 refine NoPanic.normal ?_
 clear hS0 hS1 hS2 hmk
 rw [HS1.out]
 change Exit.then _ _ _ _ ((w1.alloc (.cells (bvs0.flatMap bvL).toArray 126)).alloc (.cells (chQ 16 (g + 1) 0 0 0) 130)).drew
 have HI3 := HI.out.on (below_drew _)
 generalize ((w1.alloc (.cells (bvs0.flatMap bvL).toArray 126)).alloc (.cells (chQ 16 (g + 1) 0 0 0) 130)).drew = w3 at *
 have c3 : w3.cell? ⟨g + 1 + 1, 3, none⟩ = some (.slice (some ⟨g + 1, 0, none⟩) 16 16) := HI3.hC.cellv rfl
 have HJ := hid HI3
 clear HI HI3 HB HBd HBg HS1
 go_wp2_with fail
 go_loopw [4, 16] (fun _ i wr => ∃ k : Nat, k ≤ 16 ∧ i = .int .i64 k ∧ ∃ ps, BlJ g w wr k ps) (fun _ i _ => 16 - (intOf i).toNat)
 case atStart => exact ⟨0, by omega, rfl, _, HJ.out⟩
 case round =>
  obtain ⟨k, hk, rfl, ps, hI⟩ := hrel
  have HI := hid hI
  clear HJ
  by_cases hlt : k < 16
  ·have hst := (hI.step hlt).on (below_drew _)
   have HSt := hid hst
   have hmk := makePgs wr.drew
   have k0 : (0 : Int) ≤ (k : Int) := by omega
   have k1 : (k : Int) < 16 := by omega
   have e3 : wr.drew.cell? ⟨g + 1 + 1, 3, none⟩ = some (.slice (some ⟨g + 1, 0, none⟩) 16 16) := (hI.on (below_drew _)).hC.cellv rfl
   have e1 : wr.drew.cell? ⟨g, 1, none⟩ = some (.int .i64 8) := (hI.on (below_drew _)).hG.cellv rfl
   have hgl := hI.hC.lt
   have HA := hid (hI.on (((Below.refl wr.heap.size wr).alloc (Nat.le_refl _) (.cells (nil8.map vId).toArray 40)).drew))
   obtain ⟨z1, z2⟩ := HA.out.hB.cellg (i := k) (j := 0) (by simpa using hlt) (by omega)
   obtain ⟨vz, z3⟩ : ∃ vz, ((wr.alloc (.cells (nil8.map vId).toArray 40)).drew).cell? ⟨g + 1, k * 5, none⟩ = some vz := ⟨_, z1⟩
   have z4 : ((wr.alloc (.cells (nil8.map vId).toArray 40)).drew).frozen? ⟨g + 1, k * 5, none⟩ = false := z2
   clear hst z1 z2 hI
   go_upto_region 5 with fail
   refine wp_region_noPanic ?_
   refine wp_region_held_drew (S := (fun W' => W'.cell? ⟨g + 1 + 1, 3, none⟩ = some (.slice (some ⟨g + 1, 0, none⟩) 16 16) ∧ W'.cell? ⟨g, 1, none⟩ = some (.int .i64 8))) (by kernel_rfl) ⟨e3, e1⟩ (fun hS0 => ?_)
   refine tk 0 ((.pointer (some ⟨g + 1 + 1, 0, none⟩))) rfl (fun _ _ => rfl) ?_
   try simp only [layR]
   refine tk 1 ((.pointer (some ⟨g + 1 + 1, 0, none⟩))) rfl (fun W hSw => ?_) ?_
   ·skip
    go_simp
   try simp only [layR]
   refine tk 2 ((.pointer (some ⟨g + 1 + 1, 3, none⟩))) rfl (fun W hSw => ?_) ?_
   ·skip
    go_simp
   try simp only [layR]
   refine tk 3 ((.slice (some ⟨g + 1, 0, none⟩) 16 16)) rfl (fun W hSw => ?_) ?_
   ·have c9 := hSw.1
    go_simp
   try simp only [layR]
   refine tk 4 ((.int .i64 (k : Int))) rfl (fun _ _ => rfl) ?_
   try simp only [layR]
   refine tk 5 ((.pointer (some ⟨g, 1, none⟩))) rfl (fun W hSw => ?_) ?_
   ·skip
    go_simp
   try simp only [layR]
   refine tk 6 ((.int .i64 8)) rfl (fun W hSw => ?_) ?_
   ·have c9 := hSw.2
    go_simp
   try simp only [layR]
   refine rd 7 rfl (fun K' hK => ?_)
   go_simp
   have hlC : g + 1 + 1 < wr.drew.heap.size := hgl
   have hlG : g < wr.drew.heap.size := by show g < wr.heap.size; omega
   have hba := (Below.refl wr.drew.heap.size wr.drew).alloc (Nat.le_refl _) (.cells (nil8.map vId).toArray 40)
   refine hK.out _ _ ⟨(hba.cell (p := ⟨g + 1 + 1, 3, none⟩) hlC).trans hS0.1, (hba.cell (p := ⟨g, 1, none⟩) hlG).trans hS0.2⟩ (fun hS1 => ?_)
   try simp only [layR]
   refine tk 8 ((.pointer (some ⟨g + 1, k * 5, none⟩))) rfl (fun W hSw => ?_) ?_
   ·skip
    go_simp
   try simp only [layR]
   refine tk 9 ((.pointer (some ⟨g + 1, k * 5, none⟩))) rfl (fun W hSw => ?_) ?_
   ·skip
    go_simp
   try simp only [layR]
   refine rd 10 rfl (fun K' hK => ?_)
   go_simp
   refine hK.out _ _ ⟨(World.cell?_setCell_far _ _ _ _ (by simp)).trans hS1.1, (World.cell?_setCell_far _ _ _ _ (by simp)).trans hS1.2⟩ (fun hS2 => ?_)
   try simp only [layR]
   refine wpAnyH_done (by kernel_rfl) ?_ _
   refine NoPanic.normal ?_
   clear hS0 hS1 hS2 hmk hba
   go_wp2_with fail
   go_roundw
   case rel => exact ⟨k + 1, by omega, by go_num, _, HSt.out⟩
   case measure => simp [intOf]; omega
  ·obtain rfl : k = 16 := by omega
   clear hI
   go_wp2_with fail
   go_ret
   exact ⟨rfl, _, HI.out⟩
theorem BlJ.chm {g B : Nat} {w wr : World} {ps : Nat → Nat} (h : BlJ g w wr 16 ps) (hB : B ≤ g) : ChM 16 B (fun q => g ≤ q ∧ q < wr.heap.size) wr (g + 2) (g + 1) ps (fun _ => fresh 0) := by
 obtain ⟨h1, h2, h3, h4, h5, h6⟩ := h
 have hlt := h2.lt
 have e : (List.range 16).map (rowJ ps 16) = (List.range 16).map fun k => pbV (ps k) (fresh 0) := List.map_congr_left fun j hj => by rw [rowJ, if_pos (List.mem_range.1 hj)]
 rw [e] at h3
 refine ⟨⟨0, 0, 0, h2⟩, h3.mono (Nat.zero_le _), fun k hk => ⟨nil8, rfl, (h4 k hk).1.mono (Nat.zero_le _), fun i hi => ?_⟩, ⟨by omega, fun j hj => ?_, fun j hj => ?_, h5⟩, fun q hq => ?_, fun q hq => by omega, fun q hq => hq.2⟩
 ·exact List.eq_of_mem_replicate (n := 8) (List.getElem_mem hi)
 ·have := (h4 j hj).2.1; omega
 ·have := (h4 j hj).2.1; omega
 ·rcases hq with rfl | rfl | ⟨j, hj, rfl⟩
  ·exact ⟨by omega, hlt⟩
  ·exact ⟨by omega, by omega⟩
  ·exact ⟨by have := (h4 j hj).2.1; omega, (h4 j hj).2.2⟩
theorem chNew_calls (w : World) :
  Calls Tryz.prog 23 #[.agg #[.int .i64 16, .int .i64 8, .int .i64 64], .slice none 0 0] w fun e w' => (∃ S C BL ps, e = .returned (.tuple #[.pointer (some ⟨C, 0, none⟩), .int .i64 0]) ∧ ChM 16 w.heap.size S w' C BL ps (fun _ => fresh 0)) ∧ Below w.heap.size w w' := by
 have B1 := hid (Blk.new w 66 #[.int .i64 16, .int .i64 8, .int .i64 64])
 have HB0 := hid ((Below.refl w.heap.size w).alloc (Nat.le_refl _) (.cells #[.int .i64 16, .int .i64 8, .int .i64 64] 66))
 go_enter Tryz.func23, Tryz.ntmps23
 have c0 := B1.out.cellv (i := 0) rfl
 have c1 := B1.out.cellv (i := 1) rfl
 have c2 := B1.out.cellv (i := 2) rfl
 go_wp2_with fail
 refine (right_calls _).mono ?_
 rintro e w1 ⟨rfl, hb⟩
 have HB1 := hid (HB0.out.then_ hb)
 have B2 := B1.out.belowHere hb
 clear hb c0 c1 c2 HB0 B1
 have c0 := B2.cellv (i := 0) rfl
 have c1 := B2.cellv (i := 1) rfl
 have c2 := B2.cellv (i := 2) rfl
 clear B2
 go_wp2_with fail
 refine (blankJ_calls _).mono ?_
 rintro e w2 ⟨rfl, ps, hI⟩
 have HB2 := hid (HB1.out.then_ hI.hb)
 have HC := hid (hI.chm (B := w.heap.size) HB1.out.size)
 generalize w1.heap.size = g at *
 clear hI c0 c1 c2
 go_wp2
 go_loopw [8, 16] (fun _ i wr => i = .int .i64 0 ∧ wr = w2) (fun _ _ _ => 0)
 case atStart => exact ⟨rfl, rfl⟩
 case round =>
  obtain ⟨rfl, rfl⟩ := hrel
  go_wp2
  go_ret2
  exact ⟨⟨_, _, _, _, rfl, HC.out⟩, HB2.out⟩
end
section
open Go.RowKit

theorem bput_calls (base N0 C BL P K nx : Nat) (x : Cn) (ls : Nat → Option (List UInt8)) (fs : List Fl) (a : Option Addr) (n c : Nat) (L : List UInt8) (w : World) (h : Chp base N0 w C BL P K x nx ls fs) (hn : nx < 8) (hv : PgAt w N0 (.slice a n c) (some L)) :
  Calls Tryz.prog 91 #[.pointer (some ⟨BL, K * 5, none⟩), .slice a n c] w fun e w' => e = .returned (.tuple #[]) ∧ Chp base N0 w' C BL P K x (nx + 1) (fun i => if i = nx then some L else ls i) fs ∧ Kp C BL P w w' := by
 have hbd : Below w.heap.size w w.drew := ⟨rfl, rfl, rfl, Nat.le_refl _, fun _ _ => rfl⟩
 have hd := (h.on hbd)
 have b0 := hd.b0.1
 have b1 := hd.b1.1
 obtain ⟨vp, p0, p1, _⟩ := hd.page hn
 have H1 := hid (h.setP nx hv).drew
 have HB1 := hid (((Kp.refl C BL P w).setCell (p := ⟨P, nx, none⟩) (.inr (.inr rfl)) (.slice a n c)).on (below_drew _))
 have dBP : P ≠ BL := Ne.symm h.dis.2.2.1
 have g1 : (0 : Int) ≤ (nx : Int) := by omega
 have g2 : (nx : Int) < 8 := by omega
 clear h hv hd hbd
 go_enter Tryz.func91, Tryz.ntmps91
 go_wp2_with fail
 refine wp_region_noPanic ?_
 refine wp_region_held_drew (S := (fun W' => W'.cell? ⟨BL, K * 5, none⟩ = some (.slice (some ⟨P, 0, none⟩) 8 8) ∧ W'.cell? ⟨BL, K * 5 + 1, none⟩ = some (.int .i64 (nx : Int)))) (by kernel_rfl) ⟨b0, b1⟩ (fun hS0 => ?_)
 refine tk 0 ((.pointer (some ⟨BL, K * 5, none⟩))) rfl (fun _ _ => rfl) ?_
 try simp only [layR]
 refine tk 1 ((.pointer (some ⟨BL, K * 5, none⟩))) rfl (fun W hSw => ?_) ?_
 ·skip
  go_simp
 try simp only [layR]
 refine tk 2 ((.pointer (some ⟨BL, K * 5, none⟩))) rfl (fun W hSw => ?_) ?_
 ·skip
  go_simp
 try simp only [layR]
 refine tk 3 ((.slice (some ⟨P, 0, none⟩) 8 8)) rfl (fun W hSw => ?_) ?_
 ·have c9 := hSw.1
  go_simp
 try simp only [layR]
 refine tk 4 ((.pointer (some ⟨BL, K * 5, none⟩))) rfl (fun _ _ => rfl) ?_
 try simp only [layR]
 refine tk 5 ((.pointer (some ⟨BL, K * 5, none⟩))) rfl (fun W hSw => ?_) ?_
 ·skip
  go_simp
 try simp only [layR]
 refine tk 6 ((.pointer (some ⟨BL, K * 5 + 1, none⟩))) rfl (fun W hSw => ?_) ?_
 ·skip
  go_simp
 try simp only [layR]
 refine tk 7 ((.int .i64 (nx : Int))) rfl (fun W hSw => ?_) ?_
 ·have c9 := hSw.2
  go_simp
 try simp only [layR]
 refine tk 8 ((.slice a n c)) rfl (fun _ _ => rfl) ?_
 try simp only [layR]
 refine tk 9 ((.pointer (some ⟨P, nx, none⟩))) rfl (fun W hSw => ?_) ?_
 ·skip
  go_simp
 try simp only [layR]
 refine rd 10 rfl (fun K' hK => ?_)
 go_simp
 refine hK.out _ _ ⟨(World.cell?_setCell_far _ _ _ _ (by simpa using dBP)).trans hS0.1, (World.cell?_setCell_far _ _ _ _ (by simpa using dBP)).trans hS0.2⟩ (fun hS1 => ?_)
 try simp only [layR]
 refine wpAnyH_done (by kernel_rfl) ?_ _
 refine NoPanic.normal ?_
 clear hS0 hS1 b0 b1 p0 p1
 obtain ⟨w2, hw2⟩ : ∃ w2, w2 = (w.setCell ⟨P, nx, none⟩ (.slice a n c)).drew := ⟨_, rfl⟩
 rw [← hw2] at H1 HB1
 have c1 := H1.out.b1.1
 have f1 := H1.out.b1.2
 have H2 := hid (H1.out.setN (nx + 1))
 have HB2 := hid (HB1.out.setCell (p := ⟨BL, K * 5 + 1, none⟩) (.inr (.inl rfl)) (.int .i64 ((nx + 1 : Nat) : Int)))
 have e1 : ((nx + 1 : Nat) : Int) = (nx : Int) + 1 := by omega
 rw [e1] at H2 HB2
 rw [← hw2]
 clear hw2 e1
 go_wp2
 go_end0
 exact ⟨rfl, H2.out, HB2.out⟩
end
section
open Go.RowKit

theorem program_ok (base N0 C BL P K i : Nat) (x : Cn) (ls : Nat → Option (List UInt8)) (fs : List Fl) (a : Option Addr) (c : Nat) (bs : List UInt8) (w : World) (h : Chp base N0 w C BL P K x i ls fs) (hd : x.dn = false) (hi : i < 8) (hx : Own byteV 5 w N0 (.slice a 96 c) bs) (hk : (fnd fs x.si).kind = 0) (hsi : x.si ≤ 1000000) (hsk : x.sk ≤ 1000000) (hfl : fs.length ≤ 1000) :
  Calls Tryz.prog 46 #[.pointer (some ⟨C, 0, none⟩), .int .i64 (K : Int), .int .i64 (i : Int), .slice a 96 c] w fun e w' => e = .returned (.int .i64 0) ∧ Chp base N0 w' C BL P K { x with si := x.si + 1, sk := x.sk + 1 } (i + 1) (fun j => if j = i then some bs else ls j) fs ∧ Kp C BL P w w' := by
 have HA := hid (asked_calls base N0 C BL P K i i x ls fs w h hd hi)
 have HF := hid (full_calls base N0 C BL P K i x ls fs w h)
 have HFa := hid (fault_calls base N0 C BL P K i x ls fs w h hsi hsk hfl)
 rw [hk] at HFa
 have c3 := h.c3
 have b1 := h.b1.1
 have b2 := h.b2.1
 have b3 := h.b3.1
 have g1 : (0 : Int) ≤ (K : Int) := by omega
 have g2 : (K : Int) < 16 := by have := h.hK; omega
 have HX := hid hx
 have HLen := hid (show bs.length = 96 by obtain ⟨_, _, e, _⟩ := hx.form; injection e with _ e2 _; exact e2.symm)
 have hd4 := h.dis.2.2.2.1
 have hd5 := h.dis.2.2.2.2.1
 have hd6 := h.dis.2.2.2.2.2.1
 clear h hx hd hk
 go_enter Tryz.func46, Tryz.ntmps46
 go_wp2_with fail
 refine (HA.out).mono ?_
 rintro e w_ ⟨rfl, rfl⟩
 go_wp2_with fail
 refine HF.out.mono ?_
 rintro e w_ ⟨rfl, rfl⟩
 go_wp2_with fail
 refine HFa.out.mono ?_
 rintro e w1 ⟨⟨no, dv, rfl, hdv⟩, h1, hk1⟩
 obtain ⟨ad, nd, rfl, hnd⟩ := hdv.form
 have H1 := hid (h1.on ((Below.refl w1.heap.size w1).alloc (Nat.le_refl _) (.cells #[.int .i64 no, .int .i64 0, .slice ad (fnd fs x.si).data.length nd] 159)))
 have HK1 := hid (hk1.on ((Below.refl w1.heap.size w1).alloc (Nat.le_refl _) (.cells #[.int .i64 no, .int .i64 0, .slice ad (fnd fs x.si).data.length nd] 159)))
 have HO1 := hid (Own.kp HX.out HK1.out hd4 hd5 hd6)
 clear h1 hk1 hdv hnd
 generalize (fnd fs x.si).data.length = m at *
 go_wp2_with fail
 refine (clone_calls a 96 c bs _ (HO1.out.arr (by rw [HLen.out]; omega))).mono ?_
 rintro e w3 ⟨⟨v, rfl, hv⟩, hb3⟩
 have H3 := hid (H1.out.on hb3)
 have HK3 := hid (HK1.out.on hb3)
 have hlen := HLen.out
 obtain ⟨a3, c3, rfl, hc3⟩ := hv.formN hlen
 have HV := hid (show PgAt w3 N0 (.slice a3 96 c3) (some bs) from ⟨by rw [hlen]; omega, hv.mono H1.out.hN⟩)
 clear hb3 hv hc3 hlen
 go_wp2_with fail
 refine (bput_calls base N0 C BL P K i _ ls fs a3 96 c3 bs w3 H3.out hi HV.out).mono ?_
 rintro e w4 ⟨rfl, h4, hk4⟩
 have H4 := hid h4
 have HK4 := hid (HK3.out.trans hk4)
 clear h4 hk4
 go_wp2_with fail
 go_ret
 exact ⟨rfl, H4.out, HK4.out⟩
end
section
open Go.RowKit

def noPg : Nat → Option (List UInt8) := fun _ => none
theorem BlI.chp {base B K : Nat} {w wr : World} (h : BlI base K w wr 16) (hK : K < 16) (hB : B ≤ base) : ∃ P, Chp B wr.heap.size wr (base + 2) (base + 1) P K cn0 0 noPg [] := by
 obtain ⟨h1, h2, ⟨bs, b1, b2, b3, b4⟩, h4⟩ := h
 obtain ⟨P, p1, p2, p3⟩ := b4 hK
 have hP : P < wr.heap.size := (p2.blockLt P rfl).2
 have hC := h2.lt
 refine ⟨P, h2, ⟨bs, b1, p1, b2.mono hB⟩, ⟨nil8, rfl, p2.mono hB, fun i hi => ?_⟩, Flts.nil _ _, ⟨by omega, by omega, by omega, hC, by omega, hP, by omega, by omega, by omega⟩, hK, Nat.le_refl _⟩
 show nil8[i] = .slice none 0 0
 exact List.eq_of_mem_replicate (n := 8) (List.getElem_mem hi)
theorem new_calls (K : Nat) (hK : K < 16) (w : World) :
  Calls Tryz.prog 23 #[.agg #[.int .i64 16, .int .i64 8, .int .i64 64], .slice none 0 0] w fun e w' => (∃ C BL P, e = .returned (.tuple #[.pointer (some ⟨C, 0, none⟩), .int .i64 0]) ∧ Chp w.heap.size w'.heap.size w' C BL P K cn0 0 noPg []) ∧ Below w.heap.size w w' := by
 have B1 := hid (Blk.new w 66 #[.int .i64 16, .int .i64 8, .int .i64 64])
 have HB0 := hid ((Below.refl w.heap.size w).alloc (Nat.le_refl _) (.cells #[.int .i64 16, .int .i64 8, .int .i64 64] 66))
 go_enter Tryz.func23, Tryz.ntmps23
 have c0 := B1.out.cellv (i := 0) rfl
 have c1 := B1.out.cellv (i := 1) rfl
 have c2 := B1.out.cellv (i := 2) rfl
 go_wp2_with fail
 refine (right_calls _).mono ?_
 rintro e w1 ⟨rfl, hb⟩
 have HB1 := hid (HB0.out.then_ hb)
 have B2 := B1.out.belowHere hb
 clear hb c0 c1 c2 HB0 B1
 have c0 := B2.cellv (i := 0) rfl
 have c1 := B2.cellv (i := 1) rfl
 have c2 := B2.cellv (i := 2) rfl
 clear B2
 go_wp2_with fail
 refine (blank_calls K hK _).mono ?_
 rintro e w2 ⟨rfl, hI⟩
 have HB2 := hid (HB1.out.then_ hI.hb)
 obtain ⟨P, hC⟩ := hI.chp (B := w.heap.size) hK HB1.out.size
 have HC := hid hC
 generalize w1.heap.size = g at *
 clear hI hC c0 c1 c2
 go_wp2
 go_loopw [8, 16] (fun _ i wr => i = .int .i64 0 ∧ wr = w2) (fun _ _ _ => 0)
 case atStart => exact ⟨rfl, rfl⟩
 case round =>
  obtain ⟨rfl, rfl⟩ := hrel
  go_wp2
  go_ret2
  exact ⟨⟨_, _, _, rfl, HC.out⟩, HB2.out⟩
end
section
open Go.RowKit

theorem mk64 (u : World) : (Instr.makeSlice 40 (.int .i64 64) (.int .i64 64)).run Tryz.prog u = .ok (.slice (some ⟨u.heap.size, 0, none⟩) 64 64) (u.alloc (.cells (Array.replicate 64 (.int .u8 0)) 5)) := makeZ 64 (by omega) u
namespace Tg
def ones : Tg := ⟨1, 1, 1, 1⟩
theorem ones_right : Right ones := by decide
end Tg
theorem awake_calls (w : World) :
  Calls Tryz.prog 14 #[] w fun e w' => e = .returned (.bool true) ∧ Below w.heap.size w w' := by
 have hmk := mk64
 go_enter Tryz.func14, Tryz.ntmps14
 go_wp2_with fail
 refine (small_calls _).mono ?_
 rintro e w1 ⟨rfl, h_⟩
 have HB1 := hid h_
 clear h_
 go_wp2_with fail
 refine (new_calls 0 (by omega) _).mono ?_
 rintro e w2 ⟨⟨C, BL, P, rfl, hc⟩, hb⟩
 have HB2 := hid (HB1.out.then_ hb)
 have ho := ownMadeZ w2 w2.heap.size 64 (Nat.le_refl _) (by omega)
 have HX := hid (ho.arr (by simp))
 have hba := (Below.refl w2.heap.size w2).alloc (Nat.le_refl _) (.cells (Array.replicate 64 (.int .u8 0)) 5)
 have HC := hid (hc.on hba)
 have HB3 := hid (HB2.out.then_ hba)
 clear hb hc ho hba
 go_wp2_with fail
 refine (twrite_good Tg.ones _ 64 64 (List.replicate 64 0) _ Tg.ones_right (by decide) HX.out).mono ?_
 rintro e w4 ⟨⟨v, rfl, ho⟩, hb⟩
 have hlen : (Tg.page Tg.ones (List.replicate 64 0)).length = 96 := by rw [Tg.page_len]; rfl
 obtain ⟨a, c, rfl, hcc⟩ := ho.formN hlen
 have HC4 := hid (HC.out.on hb)
 have HB4 := hid (HB3.out.then_ hb)
 have HO4 := hid (ho.mono HC.out.hN)
 clear hb ho hcc hmk hlen
 go_wp2_with fail
 refine (program_ok _ _ C BL P 0 0 cn0 noPg [] a c _ _ HC4.out rfl (by omega) HO4.out rfl (by decide) (by decide) (by decide)).mono ?_
 rintro e w5 ⟨rfl, h5, hk5⟩
 have HB5 := hid (HC4.out.below hk5)
 clear h5 hk5
 go_wp2
 go_ret
 exact ⟨rfl, HB4.out.trans (HB5.out.mono HB1.out.size)⟩
end
section
open Go.RowKit

end
section
open Go.RowKit Ftl

theorem mk56 (u : World) : (Instr.makeSlice 40 (.int .i64 56) (.int .i64 56)).run Tryz.prog u = .ok (.slice (some ⟨u.heap.size, 0, none⟩) 56 56) (u.alloc (.cells (Array.replicate 56 (.int .u8 0)) 5)) := makeZ 56 (by omega) u
def Maded (P : List UInt8 → Prop) (w : World) (e : Ending) (w' : World) : Prop :=
 ∃ B R f, e = .returned (.tuple #[.pointer (some ⟨f.F, 0, none⟩), .pointer (some ⟨f.g.C, 0, none⟩)]) ∧ w.heap.size ≤ B ∧ FtM 16 B R w' f ∧ Fmd f (List.replicate 56 0) ∧ f.g.gh = P ∧ Below w.heap.size w w'
theorem made0_calls (w : World) : Calls Tryz.prog 5 #[] w (Maded (sealP (List.replicate 56 0)) w) := by
 have hmk := mk56
 go_enter Tryz.func5, Tryz.ntmps5
 go_wp2_with fail
 refine (small_calls _).mono ?_
 rintro e w1 ⟨rfl, h_⟩
 have HB1 := hid h_
 clear h_
 go_wp2_with fail
 refine (chNew_calls w1).mono ?_
 rintro e w2 ⟨⟨S, C, BL, ps, rfl, hc⟩, hb2⟩
 have hb3 := (Below.refl w2.heap.size w2).alloc (Nat.le_refl _) (.cells (Array.replicate 56 (.int .u8 0)) 5)
 have HC := hid (hc.on hb3)
 have HB2 := hid ((HB1.out.then_ hb2).then_ hb3)
 have HX := hid ((ownMadeZ w2 w2.heap.size 56 (Nat.le_refl _) (by omega)).arr (by simp))
 have HSn := hid (show ∀ b o, (some ⟨w2.heap.size, 0, none⟩ : Option Addr) = some ⟨b, o, none⟩ → ¬ S b from fun b o e h => by
  have := hc.hi b h
  injection e with e
  injection e with e
  omega)
 have HBs := hid HB1.out.size
 clear hc hb2 hb3
 go_wp2_with fail
 refine (fFormat_calls HC.out _ 56 (List.replicate 56 0) HX.out HSn.out).mono ?_
 rintro e w4 ⟨f, rfl, hfr, hfc, hfd, hgh⟩
 have HGh := hid hgh
 have HF := hid hfr
 have HD := hid hfd
 have HCC := hid hfc
 have HB4 := hid (HB2.out.trans (hfr.2.below (fun q hq => by have := HC.out.lo q hq; have := HBs.out; omega) HB2.out.size))
 clear hfr hfd hfc hgh
 go_wp2_with fail
 go_ret2
 exact ⟨w1.heap.size, _, f, by rw [HCC.out]; rfl, HBs.out, HF.out.1, HD.out, HGh.out, HB4.out⟩
theorem made_calls (w : World) : Calls Tryz.prog 5 #[] w (Maded (fun _ => True) w) := by
 refine (made0_calls w).mono ?_
 rintro e w' ⟨B, R, f, rfl, hB, hf, hd, _, hb⟩
 exact ⟨B, R, gsF f fun _ => True, rfl, hB, hf.ghost _, hd.ghost fun _ _ => trivial, rfl, hb⟩
end
end Go.Proofs.YtcppkaphlcflgaaGreat
