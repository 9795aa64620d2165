import Derived.Test.YtcppkaphlcflgaaGreatFtlCopy
import Derived.Test.YtcppkaphlcflgaaGreatFtlFmt0
import Derived.Test.YtcppkaphlcflgaaGreatFtlSeal
namespace Go.Proofs.YtcppkaphlcflgaaGreat
open Go.RowKit

section
variable {NB B C BL : Nat} {S : Nat → Prop} {w : World} {ps : Nat → Nat} {bl : Nat → Pb}
set_option maxRecDepth 100000 in
set_option maxHeartbeats 4000000 in
theorem badBlocks_calls (h : ChM NB B S w C BL ps bl) (hnb : NB ≤ 1000) (hb : ∀ k, k < NB → (bl k).bad = false) :
  Calls Tryz.prog 64 #[.pointer (some ⟨C, 0, none⟩)] w fun e w' => e = .returned (.int .i64 0) ∧ Below w.heap.size w w' := by
 have HH := Lib.hid h
 have HBd := Lib.hid hb
 have HG := Lib.hid (chGeo_calls h)
 have hf := geoF0 (.int .i64 (NB : Int)) (.int .i64 8) (.int .i64 64)
 clear h hb
 go_enter Tryz.func64, Tryz.ntmps64
 go_wp2_with fail
 refine HG.out.mono ?_
 rintro e w1 ⟨rfl, hb1⟩
 have HB1 := Lib.hid hb1
 clear hb1
 unfold geoV
 go_wp2_with fail
 go_loopw [3, 4, 8] (fun n _ i wr => ∃ k : Nat, k ≤ NB ∧ i = .int .i64 (k : Int) ∧ n = .int .i64 0 ∧ Below w.heap.size w wr) (fun _ _ i _ => NB - (intOf i).toNat)
 case atStart => exact ⟨0, by omega, rfl, rfl, HB1.out⟩
 case round =>
  obtain ⟨k, hk, rfl, rfl, hb⟩ := hrel
  have HBr := Lib.hid hb
  clear hb
  by_cases hlt : k < NB
  ·have hk1 : (k : Int) < (NB : Int) := by omega
   have HBa := Lib.hid (chBad_calls (HH.out.on HBr.out) hlt)
   rw [HBd.out k hlt] at HBa
   go_wp2_with fail
   refine HBa.out.mono ?_
   rintro e w_ ⟨rfl, rfl⟩
   go_wp2_with fail
   go_roundw
   case rel => exact ⟨k + 1, by omega, by go_num, rfl, HBr.out⟩
   case measure => simp [intOf]; omega
  ·obtain rfl : k = NB := by omega
   go_wp2_with fail
   go_ret
   exact ⟨rfl, HBr.out⟩
end
end Go.Proofs.YtcppkaphlcflgaaGreat
namespace Go.Proofs.YtcppkaphlcflgaaGreat
open Go.RowKit Ftl Go.ChangeMaps Go.Maps

structure FmI (B : Nat) (S : Nat → Prop) (w : World) (C BL G gb k : Nat) (S' : Nat → Prop) (ps' : Nat → Nat) (wr : World) : Prop where
 hc : ChM 16 B S' wr C BL ps' (once k)
 hG : Blk wr G 66 #[.int .i64 16, .int .i64 8, .int .i64 64]
 ho : Own bolV 4 wr w.heap.size (.slice (some ⟨gb, 0, none⟩) 16 16) (truB k)
 hk : Kq S w wr
 up : ∀ q, S' q → Up S w wr q
 nG : ¬ S' G
 nb : ¬ S' gb
 lG : w.heap.size ≤ G
 lb : w.heap.size ≤ gb
 ne : gb ≠ G
section
variable {B C BL G gb k : Nat} {S S' : Nat → Prop} {w wr w' : World} {ps ps' ps2 : Nat → Nat}
theorem FmI.on (h : FmI B S w C BL G gb k S' ps' wr) (hb : Below wr.heap.size wr w') : FmI B S w C BL G gb k S' ps' w' :=
 ⟨h.hc.on hb, h.hG.belowHere hb, h.ho.on hb, h.hk.on hb, fun q hq => by rcases h.up q hq with e | e; exact .inl e; exact .inr ⟨e.1, by have := hb.size; omega⟩, h.nG, h.nb, h.lG, h.lb, h.ne⟩
theorem FmI.erase (h : FmI B S w C BL G gb k S' ps' wr) (hc : ChM 16 B (Up S' wr w') w' C BL ps2 (upd (once k) k (fresh 1))) (hq : Kq S' wr w') (hk : k < 16) :
  w'.cell? ⟨gb, k, none⟩ = some (.bool ((truB k)[k]'(by rw [truB_len (by omega)]; exact hk))) ∧ w'.frozen? ⟨gb, k, none⟩ = false ∧ FmI B S w C BL G gb (k + 1) (Up S' wr w') ps2 (w'.setCell ⟨gb, k, none⟩ (.bool true)) := by
 have hs := hq.size
 have lG := h.hG.lt
 have lb := (h.ho.blockLt gb rfl).2
 have ho := h.ho.kq hq fun q e => by obtain rfl := own_of _ _ _ _ e; exact h.nb
 have hG := h.hG.kq hq h.nG
 obtain ⟨c1, c2⟩ := ho.cellg (k := k) (by rw [truB_len (by omega)]; exact hk)
 have ho2 := ho.set k true
 rw [truB_set hk] at ho2
 rw [once_upd] at hc
 have nG : ¬ Up S' wr w' G := fun e => h.nG (up_of e lG)
 have nb : ¬ Up S' wr w' gb := fun e => h.nb (up_of e lb)
 refine ⟨c1, c2, hc.kq (Kq.one ⟨gb, k, none⟩ (.bool true)) (fun q hq e => nb (by obtain rfl : q = gb := e; exact hq)), hG.far (by simpa using Ne.symm h.ne) _, ho2, ?_, fun q hq => ?_, nG, nb, h.lG, h.lb, h.ne⟩
 ·refine (h.hk.then_ hq fun q hq => ?_).setCell (.inr h.lb) _
  rcases h.up q hq with e | e
  ·exact .inl e
  ·exact .inr e.1
 ·rw [show Up S w (w'.setCell ⟨gb, k, none⟩ (.bool true)) q = Up S w w' q by unfold Up; rw [World.size_setCell]]
  rcases hq with e | e
  ·rcases h.up q e with e | e
   ·exact .inl e
   ·exact .inr ⟨e.1, by omega⟩
  ·exact .inr ⟨by have := h.hk.size; omega, e.2⟩
def fmA0 (C s : Nat) : Array Value := #[.pointer (some ⟨C, 0, none⟩), .pointer none, .int .i64 2, .int .i64 0, .slice none 0 0, .map (some s), .map (some (s + 1)), .map (some (s + 1 + 1)), .int .u64 1, .int .u64 1, .slice (some ⟨s + 1 + 1 + 1, 0, none⟩) 16 16, .bool false]
def fmW (w : World) (C : Nat) : World := ((((w.alloc (.map #[] 0)).alloc (.map #[] 0)).alloc (.map #[] 0)).alloc (.cells ((List.replicate 16 false).map bolV).toArray 4)).alloc (.cells (fmA0 C w.heap.size) 138)
theorem fmW_size (w : World) (C : Nat) : (fmW w C).heap.size = w.heap.size + 1 + 1 + 1 + 1 + 1 := by unfold fmW; simp
theorem fmW_below (w : World) (C : Nat) : Below w.heap.size w (fmW w C) := by
 unfold fmW
 exact (((((Below.refl _ _).alloc (Nat.le_refl _) _).alloc (by simp) _).alloc (by simp; omega) _).alloc (by simp; omega) _).alloc (by simp; omega) _
theorem fmt_ft {w8 w11 : World} {P : List UInt8 → Prop} {M ML cap s : Nat} (hSB : ∀ q, S q → B ≤ q ∧ q < w.heap.size) (hB0 : B ≤ w.heap.size) (hs : s = w8.heap.size) (hi : FmI B S w C BL G gb 16 S' ps' w8) (hb : Below (fmW w8 C).heap.size (fmW w8 C) w11) (hM : (fmW w8 C).heap.size ≤ M) (hML : (fmW w8 C).heap.size ≤ ML) (hg : MgM 16 B S' w11 (fmG M ML C BL cap ps' P)) :
  w11.cell? ⟨s + 1 + 1 + 1 + 1, 1, none⟩ = some (.pointer none) ∧ w11.frozen? ⟨s + 1 + 1 + 1 + 1, 1, none⟩ = false ∧ FtR 16 B S w (w11.setCell ⟨s + 1 + 1 + 1 + 1, 1, none⟩ (.pointer (some ⟨M, 0, none⟩))) (fm0 (s + 1 + 1 + 1 + 1) s (s + 1) (s + 1 + 1) (s + 1 + 1 + 1) (fmG M ML C BL cap ps' P)) := by
 have hsz := fmW_size w8 C
 rw [← hs] at hsz
 have hF9 : Blk (fmW w8 C) (s + 1 + 1 + 1 + 1) 138 (fmA0 C s) := by
  have h1 := Blk.new ((((w8.alloc (.map #[] 0)).alloc (.map #[] 0)).alloc (.map #[] 0)).alloc (.cells ((List.replicate 16 false).map bolV).toArray 4)) 138 (fmA0 C w8.heap.size)
  simp only [World.size_alloc] at h1
  rw [hs]
  exact h1
 have hF := hF9.belowHere hb
 have hold : ∀ q, q < s + 1 + 1 + 1 + 1 → (w11.setCell ⟨s + 1 + 1 + 1 + 1, 1, none⟩ (.pointer (some ⟨M, 0, none⟩))).heap[q]? = (fmW w8 C).heap[q]? := fun q hq => (heap_setCell_other _ _ _ _ (by show q ≠ s + 1 + 1 + 1 + 1; omega)).trans (hb.block q (by omega))
 have hq1 : Kq (fun q => q = s + 1 + 1 + 1 + 1) w11 (w11.setCell ⟨s + 1 + 1 + 1 + 1, 1, none⟩ (.pointer (some ⟨M, 0, none⟩))) := Kq.one ⟨_, _, none⟩ _
 have hS' : ∀ q, S' q → B ≤ q ∧ q < s := fun q hq => ⟨hi.hc.lo q hq, by rw [hs]; exact hi.hc.hi q hq⟩
 have hw := hi.hk.size
 have hBs : B ≤ w8.heap.size := hi.hc.base
 have hsz11 := hb.size
 have hkw : Kq S w (w11.setCell ⟨s + 1 + 1 + 1 + 1, 1, none⟩ (.pointer (some ⟨M, 0, none⟩))) := ((hi.hk.on (fmW_below w8 C)).on hb).setCell (p := ⟨s + 1 + 1 + 1 + 1, 1, none⟩) (.inr (by show w.heap.size ≤ s + 1 + 1 + 1 + 1; omega)) _
 have hMlt : M < w11.heap.size := hg.hi M (.inl rfl)
 have hMLlt : ML < w11.heap.size := hg.hi ML (.inr (.inl rfl))
 have hBw : ∀ q, Up S w (w11.setCell ⟨s + 1 + 1 + 1 + 1, 1, none⟩ (.pointer (some ⟨M, 0, none⟩))) q → B ≤ q ∧ q < (w11.setCell ⟨s + 1 + 1 + 1 + 1, 1, none⟩ (.pointer (some ⟨M, 0, none⟩))).heap.size := fun q hq => by
  rw [World.size_setCell] at *
  rcases hq with e | e
  ·have := hSB q e
   omega
  ·rw [World.size_setCell] at e
   omega
 refine ⟨hF.cellv rfl, hF.frozen 1, ft_made (S := S') ?_ ?_ ?_ ?_ ?_ rfl rfl ?_ ?_ ?_ ?_ hBw, hkw⟩
 ·exact hF.set 1 _
 ·refine MapE.same (w := fmW w8 C) ?_ (hold s (by omega))
  have h1 := ((((MapE.made w8).alloc (.map #[] 0)).alloc (.map #[] 0)).alloc (.cells ((List.replicate 16 false).map bolV).toArray 4)).alloc (.cells (fmA0 C w8.heap.size) 138)
  rw [hs]
  exact h1
 ·refine MapE.same (w := fmW w8 C) ?_ (hold (s + 1) (by omega))
  have h1 := (((MapE.made (w8.alloc (.map #[] 0))).alloc (.map #[] 0)).alloc (.cells ((List.replicate 16 false).map bolV).toArray 4)).alloc (.cells (fmA0 C w8.heap.size) 138)
  simp only [World.size_alloc] at h1
  rw [hs]
  exact h1
 ·refine MapE.same (w := fmW w8 C) ?_ (hold (s + 1 + 1) (by omega))
  have h1 := ((MapE.made ((w8.alloc (.map #[] 0)).alloc (.map #[] 0))).alloc (.cells ((List.replicate 16 false).map bolV).toArray 4)).alloc (.cells (fmA0 C w8.heap.size) 138)
  simp only [World.size_alloc] at h1
  rw [hs]
  exact h1
 ·have h1 := Own.made (f := bolV) (e := 4) (w := ((w8.alloc (.map #[] 0)).alloc (.map #[] 0)).alloc (.map #[] 0)) (base := 0) (xs := List.replicate 16 false) (Nat.zero_le _) (by simp [maxLen])
  have h2 := h1.alloc (.cells (fmA0 C w8.heap.size) 138)
  simp only [World.size_alloc, List.length_replicate] at h2
  have h3 : Own bolV 4 (fmW w8 C) 0 (.slice (some ⟨s + 1 + 1 + 1, 0, none⟩) 16 16) (List.replicate 16 false) := by rw [hs]; exact h2
  exact (h3.on hb).kq hq1 fun q e => by obtain rfl := own_of _ _ _ _ e; omega
 ·refine hg.kq hq1 fun q hq e => ?_
  rcases hq with e1 | e1 | e1
  ·have : q = M := e1
   omega
  ·have : q = ML := e1
   omega
  ·have := hS' q e1
   omega
 ·simp [fm0]; omega
 ·intro q hq
  simp only [fm0, List.mem_cons, List.not_mem_nil, or_false] at hq
  refine ⟨fun h1 => ?_, by omega, .inr ⟨by omega, by rw [World.size_setCell]; omega⟩⟩
  rcases h1 with e1 | e1 | e1
  ·have : q = M := e1
   omega
  ·have : q = ML := e1
   omega
  ·have := hS' q e1
   omega
 ·intro q hq
  rcases hq with e1 | e1 | e1
  ·have : q = M := e1
   exact .inr ⟨by omega, by rw [World.size_setCell]; omega⟩
  ·have : q = ML := e1
   exact .inr ⟨by omega, by rw [World.size_setCell]; omega⟩
  ·rcases hi.up q e1 with e2 | e2
   ·exact .inl e2
   ·exact .inr ⟨e2.1, by rw [World.size_setCell]; omega⟩
def sealP (tx : List UInt8) (L : List UInt8) : Prop := L = Tg.page ⟨2, 0, 1, 1⟩ (headL tx)
def Fmtd (B : Nat) (S : Nat → Prop) (C : Nat) (tx : List UInt8) (w : World) (e : Ending) (w' : World) : Prop :=
 ∃ f, e = .returned (.tuple #[.pointer (some ⟨f.F, 0, none⟩), .int .i64 0]) ∧ FtR 16 B S w w' f ∧ f.g.C = C ∧ Fmd f tx ∧ f.g.gh = sealP tx
set_option maxRecDepth 100000 in
set_option maxHeartbeats 16000000 in
theorem fFormat_calls (h : ChM 16 B S w C BL ps (fun _ => fresh 0)) (a : Option Addr) (c : Nat) (tx : List UInt8) (hx : Bytes w w.heap.size a 56 tx) (hap : ∀ b o, a = some ⟨b, o, none⟩ → ¬ S b) :
  Calls Tryz.prog 25 #[.pointer (some ⟨C, 0, none⟩), .int .i64 2, .slice a 56 c] w (Fmtd B S C tx w) := by
 rw [← once_zero] at h
 have HU := Lib.hid (chUp_calls h)
 have HH := Lib.hid h
 have HG := Lib.hid (fun (W : World) (hW : Below w.heap.size w W) => chGeo_calls (h.on hW))
 have HX := Lib.hid hx
 have HAp := Lib.hid hap
 have HAb := Lib.hid (show ∀ b o, a = some ⟨b, o, none⟩ → b < w.heap.size from fun b o e => by obtain ⟨b', o', e', hlt, _⟩ := hx.2.2 (by omega); rw [e] at e'; injection e' with e'; injection e' with e'; omega)
 have hf2 := geoF2 (.int .i64 16) (.int .i64 8) (.int .i64 64)
 have hcs := geoCells
 have HBa := Lib.hid (fun (W : World) (hW : Below w.heap.size w W) => badBlocks_calls (h.on hW) (by decide) (fun k _ => once_bad 0 k))
 have HDa := Lib.hid (fun (W : World) => show Calls Tryz.prog 63 #[.agg #[.int .i64 16, .int .i64 8, .int .i64 64], .int .i64 2, .int .i64 0] W fun e w' => e = .returned (.int .i64 13) ∧ Below W.heap.size W w' from fdataBlocks_calls (w := W) (NB := 16) (by decide))
 clear h hx hap
 go_enter Tryz.func25, Tryz.ntmps25
 go_wp2_with fail
 refine (HU.out).mono ?_
 rintro e w_ ⟨rfl, rfl⟩
 go_wp2_with fail
 refine (HG.out w (Below.refl _ _)).mono ?_
 rintro e w1 ⟨rfl, hb1⟩
 have HB1 := Lib.hid hb1
 clear hb1
 unfold geoV
 go_wp2_with fail
 refine (HG.out w1 HB1.out).mono ?_
 rintro e w2 ⟨rfl, hb2⟩
 have hb3 := (HB1.out.then_ hb2).alloc (HB1.out.then_ hb2).size (.cells #[.int .i64 16, .int .i64 8, .int .i64 64] 66)
 have HB2 := Lib.hid hb3
 have HGb := Lib.hid (Blk.new w2 66 #[.int .i64 16, .int .i64 8, .int .i64 64])
 have HG2 := Lib.hid (HB1.out.then_ hb2).size
 clear hb2 hb3
 unfold geoV
 go_upto_region 8 with fail
 have HSz := Lib.hid (fun q (e : S q) => HH.out.hi q e)
 generalize w2.alloc (.cells #[.int .i64 16, .int .i64 8, .int .i64 64] 66) = w3 at *
 generalize w2.heap.size = G at *
 have HBw := Lib.hid (HB2.out.then_ (below_drew w3))
 have HGd := Lib.hid (show Blk w3.drew G 66 #[.int .i64 16, .int .i64 8, .int .i64 64] from HGb.out.belowHere (below_drew w3))
 refine wp_region_noPanic ?_
 refine wp_region_held_drew (S := (fun W' => Blk W' G 66 #[.int .i64 16, .int .i64 8, .int .i64 64])) (by kernel_rfl) HGd.out (fun hS0 => ?_)
 generalize w3.drew = W at *
 refine takeV 0 (v := (.agg #[.int .i64 16, .int .i64 8, .int .i64 64])) rfl (by kernel_rfl) (by kernel_rfl) (by kernel_rfl) (fun _ _ _ h => h) (by rfl) (fun W hSw => ?_) (by assumption) ?_
 ·have y0 := hSw.cellv (i := 0) rfl; have y1 := hSw.cellv (i := 1) rfl; have y2 := hSw.cellv (i := 2) rfl
  go_simp
 try simp only [layR]
 refine takeV 1 (v := (.int .i64 2)) rfl (by kernel_rfl) (by kernel_rfl) (by kernel_rfl) (fun _ _ _ h => h) (by rfl) (fun _ _ => rfl) (by assumption) ?_
 try simp only [layR]
 refine takeV 2 (v := (.pointer (some ⟨C, 0, none⟩))) rfl (by kernel_rfl) (by kernel_rfl) (by kernel_rfl) (fun _ _ _ h => h) (by rfl) (fun _ _ => rfl) (by assumption) ?_
 try simp only [layR]
 refine wpAnyH_ready (rs := [3]) (by kernel_rfl) (by simp) ?_
 refine AllReadyH.cons rfl (fun K' hK => ?_) AllReadyH.nil
 go_simp
 refine (HBa.out W HBw.out).mono ?_
 rintro e w4 ⟨rfl, hb4⟩
 have hS4 := hS0.belowHere hb4
 have HB4 := Lib.hid (HBw.out.then_ hb4)
 clear hb4
 refine hK.out _ _ hS4 (fun hS5 => ?_)
 try simp only [layR]
 refine wpAnyH_ready (rs := [4]) (by kernel_rfl) (by simp) ?_
 refine AllReadyH.cons rfl (fun K' hK => ?_) AllReadyH.nil
 go_simp
 refine (HDa.out w4).mono ?_
 rintro e w5 ⟨rfl, hb5⟩
 have hS6 := hS5.belowHere hb5
 have HB5 := Lib.hid (HB4.out.then_ hb5)
 clear hb5
 refine hK.out _ _ hS6 (fun hS7 => ?_)
 try simp only [layR]
 refine takeV 5 (v := (.bool false)) rfl (by kernel_rfl) (by kernel_rfl) (by kernel_rfl) (fun _ _ _ h => h) (by rfl) (fun W hSw => ?_) (by assumption) ?_
 ·skip
  go_simp
 try simp only [layR]
 refine wpAnyH_done (by kernel_rfl) ?_ _
 refine NoPanic.normal ?_
 have HG5 := Lib.hid hS6
 have g0 := hS6.cellv (i := 0) (v := .int .i64 16) rfl
 clear hS0 hS4 hS5 hS6 hS7 HGd HGb HBw HB2 HB4 HB1
 have hmk := fmBools
 go_upto_region 11 with fail
 generalize hwa : w5.alloc _ = w6
 have HF0 := Lib.hid (show FmI B S w C BL G w5.heap.size 0 S ps w6 from by
  rw [← hwa]
  have hb6 := (Below.refl w5.heap.size w5).alloc (Nat.le_refl _) (.cells ((List.replicate 16 false).map bolV).toArray 4)
  have hs5 := HB5.out.size
  have hg := HG5.out.lt
  have hg2 := HG2.out
  exact ⟨HH.out.on (HB5.out.then_ hb6), HG5.out.belowHere hb6, Own.made (f := bolV) (e := 4) (w := w5) (base := w.heap.size) (xs := List.replicate 16 false) hs5 (by simp [maxLen]), Kq.of (HB5.out.then_ hb6), fun q hq => .inl hq, fun e => by have := HSz.out _ e; omega, fun e => by have := HSz.out _ e; omega, hg2, hs5, by omega⟩)
 generalize w5.heap.size = gb at *
 clear hwa g0 hmk HG5 HB5 HBa
 go_wp2_with fail
 go_loopw [10, 11, 51] (fun _ _ i wr => ∃ (k : Nat) (S' : Nat → Prop) (ps' : Nat → Nat), k ≤ 16 ∧ i = .int .i64 (k : Int) ∧ FmI B S w C BL G gb k S' ps' wr) (fun _ _ i _ => 16 - (intOf i).toNat)
 case atStart => exact ⟨0, S, ps, by omega, rfl, HF0.out⟩
 case round =>
  obtain ⟨k, S', ps', hk, rfl, hi⟩ := hrel
  clear HF0
  by_cases hlt : k < 16
  ·have hk0 : (0 : Int) ≤ (k : Int) := by omega
   have hk1 : (k : Int) < 16 := by omega
   have hba := chBad_calls hi.hc hlt
   have her := chErase_calls hi.hc hlt (once_at k).1 (by rw [(once_at k).2]; decide)
   rw [(once_at k).1] at hba
   rw [(once_at k).2] at her
   have HBad := Lib.hid hba
   have HEr := Lib.hid her
   have HI := Lib.hid hi
   clear hba her hi
   go_wp2_with fail
   refine HBad.out.mono ?_
   rintro e w_ ⟨rfl, rfl⟩
   go_wp2_with fail
   refine HEr.out.mono ?_
   rintro e w7 ⟨rfl, ⟨ps2, hc⟩, hq⟩
   obtain ⟨c1, c2, h2⟩ := HI.out.erase hc hq hlt
   have H2 := Lib.hid h2
   clear hc hq h2
   generalize (truB k)[k]'(by rw [truB_len (by omega)]; exact hlt) = bk at *
   go_wp2_with fail
   go_roundw
   case rel => exact ⟨k + 1, _, _, by omega, by go_num, H2.out⟩
   case measure => simp [intOf]; omega
  ·obtain rfl : k = 16 := by omega
   have HI := Lib.hid hi
   have HBad := Lib.hid (badBlocks_calls hi.hc (by decide) (fun k _ => once_bad 16 k))
   clear hi
   go_wp2_with fail
   refine HBad.out.mono ?_
   rintro e w7 ⟨rfl, hb7⟩
   have HI7 := Lib.hid (HI.out.on hb7)
   clear hb7
   have g0 := HI7.out.hG.cellv (i := 0) (v := .int .i64 16) rfl
   have g1 := HI7.out.hG.cellv (i := 1) (v := .int .i64 8) rfl
   have g2 := HI7.out.hG.cellv (i := 2) (v := .int .i64 64) rfl
   go_wp2_with fail
   refine (HDa.out w7).mono ?_
   rintro e w8 ⟨rfl, hb8⟩
   have HI8 := Lib.hid (HI7.out.on hb8)
   clear hb8 g0 g1 g2
   have g0 : (((w8.alloc (.map #[] 0)).alloc (.map #[] 0)).alloc (.map #[] 0)).cell? ⟨G, 0, none⟩ = some (.int .i64 16) := (((HI8.out.hG.alloc _).alloc _).alloc _).cellv rfl
   have hmk := fmBools
   have hmm := @run_makeMap Tryz.prog
   go_upto_region 27 with fail
   generalize hw9 : World.alloc _ _ = w9
   have hw9' : w9 = fmW w8 C := hw9.symm
   obtain ⟨s, hs⟩ : ∃ s, s = w8.heap.size := ⟨_, rfl⟩
   rw [← hs]
   have HW9 := Lib.hid hw9'
   have HSs := Lib.hid hs
   clear hw9 hw9' hs g0 hmk hmm
   have hb9 : Below w8.heap.size w8 w9 := by rw [HW9.out]; exact fmW_below w8 C
   have HB9 := Lib.hid hb9
   have g0 := (HI8.out.hG.belowHere hb9).cellv (i := 0) (v := .int .i64 16) rfl
   clear hb9
   have hmi := fmInts w9
   have HLv := Lib.hid (show Own naV 3 (w9.alloc (.cells ((List.replicate 16 0).map naV).toArray 3)) w9.heap.size (.slice (some ⟨w9.heap.size, 0, none⟩) 16 16) (List.replicate 16 0) from Own.made (f := naV) (e := 3) (w := w9) (base := w9.heap.size) (xs := List.replicate 16 0) (Nat.le_refl _) (by simp [maxLen]))
   have HBl := Lib.hid ((Below.refl w9.heap.size w9).alloc (Nat.le_refl _) (.cells ((List.replicate 16 0).map naV).toArray 3))
   generalize hcz : (Obj.cells ((List.replicate 16 0).map naV).toArray 3) = oz at *
   clear hcz
   go_wp2_with fail
   have HI10 := Lib.hid ((HI8.out.on HB9.out).on HBl.out)
   refine (bOpen_calls HI10.out.hc (by decide) (by decide) (fun k _ => Nat.le_trans (once_wear 16 k) (by decide)) _ 16 (truB 16) (HI10.out.ho.arr (by rw [truB_len (Nat.le_refl _)]; decide)) _ 16 _ (HLv.out.arr (by simp)) (fun k hk => by
    have e : (List.replicate 16 0).getD k 0 = 0 := by rw [List.getD_eq_getElem?_getD, List.getElem?_replicate]; split <;> rfl
    rw [e]; exact ⟨by omega, fun _ => rfl⟩) 2 0).mono ?_
   rintro e w11 ⟨M, ML, cap, rfl, hM, hML, hm, hb⟩
   rw [show (⟨M, ML, C, BL, cap, ps', once 16, openL (once 16) (truB 16) (List.replicate 16 0) 16, -1, ((2 : Nat) : Int), ((0 : Nat) : Int), decide (4 < (Gc.greatest (openL (once 16) (truB 16) (List.replicate 16 0) 16) : Int) - Gc.least (openL (once 16) (truB 16) (List.replicate 16 0) 16)), fun _ => True⟩ : Mg) = fmG M ML C BL cap ps' (fun _ => True) from fmG_of] at hm
   have hm : MgM 16 B S' w11 (fmG M ML C BL cap ps' (sealP tx)) := hm.ghost (sealP tx)
   have hsz := HBl.out.size
   obtain ⟨c1, z1, h12⟩ := fmt_ft (fun q hq => ⟨HH.out.lo q hq, HH.out.hi q hq⟩) HH.out.base HSs.out HI8.out (w11 := w11) (M := M) (ML := ML) (cap := cap) (by rw [← HW9.out]; exact HBl.out.then_ hb) (by rw [← HW9.out]; omega) (by rw [← HW9.out]; omega) hm
   have H12 := Lib.hid h12
   clear hb hm hM hML hsz h12 hmi g0 HLv HI10 HBl
   have HFc := Lib.hid (fm0_fc (s + 1 + 1 + 1 + 1) s (s + 1) (s + 1 + 1) (s + 1 + 1 + 1) M ML C BL cap ps' (sealP tx))
   generalize hf0 : fm0 (s + 1 + 1 + 1 + 1) s (s + 1) (s + 1 + 1) (s + 1 + 1 + 1) (fmG M ML C BL cap ps' (sealP tx)) = f0 at *
   have HF0 := Lib.hid hf0.symm
   have hfF : f0.F = s + 1 + 1 + 1 + 1 := by rw [← hf0]; rfl
   clear hf0
   have HX12 := Lib.hid ((HX.out.kq (Nat.le_refl _) H12.out.2 HAp.out).mono H12.out.2.size)
   have hse := fSeal_calls H12.out.1 HFc.out (by rw [HF0.out]; exact (show 1 ≤ 1000000 by decide)) a c tx (by rw [HF0.out]; exact rfl) HX12.out (fun b o e h1 => HAp.out b o e (up_of h1 (HAb.out b o e))) (.inr (by rw [HF0.out]; exact (show (0 : Nat) + 3 ≤ 8 * (16 - 3) by decide)))
   rw [hfF] at hse
   have HSe := Lib.hid hse
   clear hse
   go_wp2_with fail
   refine HSe.out.mono ?_
   rintro e w13 ⟨rfl, f', hfr, hsd⟩
   rw [HF0.out] at hsd
   obtain ⟨q1, q2, q3, q4⟩ := fmd hsd
   have HQ4 := Lib.hid q4
   have H13 := Lib.hid (H12.out.then_ hfr)
   have HQ := Lib.hid q1
   have HQ3 := Lib.hid q3
   have HQ2 := Lib.hid q2
   clear q1 q2 q3 q4 hfr hsd
   go_wp2_with fail
   go_ret2
   exact ⟨f', by rw [HQ2.out]; rfl, H13.out, HQ3.out, HQ.out, HQ4.out⟩
end
end Go.Proofs.YtcppkaphlcflgaaGreat
