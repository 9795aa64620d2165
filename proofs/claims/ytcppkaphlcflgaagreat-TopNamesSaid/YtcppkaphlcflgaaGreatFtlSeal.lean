import Derived.Test.YtcppkaphlcflgaaGreatFtlFmt0
import Derived.Deep.DeepCutAuto
namespace Go.Proofs.YtcppkaphlcflgaaGreat
open Lib (hid)
set_option maxRecDepth 100000
set_option maxHeartbeats 16000000
open Go.RowKit Ftl Go.ChangeMaps Go.Maps

section
variable {NB B n : Nat} {R : Nat → Prop} {w : World} {f : Fm}
theorem RngE.put {w : World} {b r c : Nat} {l d l' : List En} (h : RngE w b r l d) (hm : MapE w c l') (h1 : c ≠ b) (h2 : c ≠ r) (o : Obj) : RngE (setBlock w c o) b r l d ∧ (setBlock w c o).rangeLeft b r = w.rangeLeft b r := by
 have hg := setBlock_grown hm o
 have q1 := hg.block b h.ltb fun e => h1 (Option.some.inj e).symm
 have q2 := hg.block r h.ltr fun e => h2 (Option.some.inj e).symm
 exact ⟨h.same q1 q2, left_same q1 q2⟩
theorem FtM.hiT (h : FtM NB B R w f) {q : Nat} (hq : f.tv.ownBlock = some q) : q < w.heap.size := by
 obtain ⟨S, a1, _⟩ := h
 exact a1.hi (.inr (.inr (.inr (.inr (.inr hq)))))
theorem RngE.kq {T : Nat → Prop} {w w' : World} {b r : Nat} {l d : List En} (h : RngE w b r l d) (hk : Kq T w w') (h1 : ¬ T b) (h2 : ¬ T r) : RngE w' b r l d ∧ w'.rangeLeft b r = w.rangeLeft b r := by
 have q1 := hk.block b h.ltb h1
 have q2 := hk.block r h.ltr h2
 exact ⟨h.same q1 q2, left_same q1 q2⟩
def SOut (NB B : Nat) (R : Nat → Prop) (w : World) (f : Fm) (tx : List UInt8) (W : World) (Z : Nat) : Prop :=
 ∃ (k i : Nat) (f1 : Fm) (g' : Mg) (R2 : Nat → Prop), Pr NB B R w R2 W { f1 with g := g', seq := f.seq + 1 } ∧ Same f f1 ∧ Pgd NB f1.g g' k i (Tg.page (sealT f) (headL tx)) ∧ Fi NB (100000 * f.seq + 17 * (NB + 1) + 1) [k] g' (f1.se ++ f1.no) ∧ 3 ≤ Gc.count 0 g'.l ∧ Blk W Z 184 #[.int .i64 (k : Int), .int .i64 (i : Int)] ∧ ¬ R2 Z ∧ w.heap.size ≤ Z
def SL (NB B : Nat) (R : Nat → Prop) (w : World) (R2 : Nat → Prop) (m r : Nat) (f2 : Fm) (W : World) : Prop := ∃ d f3, RngE W f2.NO r f2.no d ∧ Pr NB B R w R2 W f3 ∧ Sl1 NB m f2 f3 d
def SM (NB B : Nat) (R : Nat → Prop) (w : World) (R2 : Nat → Prop) (m r : Nat) (f3 : Fm) (W : World) : Prop := ∃ d f4, RngE W f3.GO r f3.go d ∧ Pr NB B R w R2 W f4 ∧ Sl2 NB m f3 f4 d
theorem fSeal_calls (hen0 : Ftl.enough f.g = true) (h : FtM NB B R w f) (hc : Fc NB f) (hsq : f.seq ≤ 1000000) (a : Option Addr) (c : Nat) (tx : List UInt8) (hgh : f.g.gh (Tg.page (sealT f) (headL tx))) (hx : Bytes w w.heap.size a 56 tx) (hap : ∀ b o, a = some ⟨b, o, none⟩ → ¬ R b) (hcp : (getE f.se 0).isSome = true ∨ (f.se ++ f.no).length + 3 ≤ 8 * (NB - 3)) :
  Calls Tryz.prog 69 #[.pointer (some ⟨f.F, 0, none⟩), .slice a 56 c] w fun e w' => e = .returned (.int .i64 0) ∧ ∃ f', FtR NB B R w w' f' ∧ Sld NB f f' tx := by
 have HEn0 := hid hen0
 clear hen0
 have HB0 := h.base
 have hnb := hc.fi.nb
 have HRy := hid (fready_calls h)
 have HSz := hid (fsize_calls h)
 have HH := hid h
 have HC := hid hc
 have HX := hid hx
 have HAp := hid hap
 have HSq := hid hsq
 have HCp := hid hcp
 have HAb := hid (show ∀ b o, a = some ⟨b, o, none⟩ → b < w.heap.size from fun b o e => by obtain ⟨b', o', e', hlt, _⟩ := hx.2.2 (by omega); rw [e] at e'; injection e' with e'; injection e' with e'; omega)
 have hcs := placeCells
 have HGh := hid hgh
 clear hgh h hc hx hap hsq hcp
 go_enter Tryz.func69, Tryz.ntmps69
 go_wp2_with fail
 refine (HRy.out).mono ?_
 rintro e w_ ⟨rfl, rfl⟩
 go_wp2_with fail
 refine HSz.out.mono ?_
 rintro e w1 ⟨rfl, hb1⟩
 have H1 := hid (HH.out.on hb1)
 have HB1 := hid hb1
 clear hb1
 go_wp2_with fail
 refine (fReadOnly_calls H1.out HC.out.fi HC.out.ov).mono ?_
 rintro e w2 ⟨rfl, hb2⟩
 have HB2 := hid (HB1.out.then_ hb2)
 have H2 := hid (H1.out.on hb2)
 clear hb2
 go_upto_region 8 with fail
 have hLt := hid hnb
 have HRes := hid HC.out.fi.res
 have HBad := hid HC.out.fi.bad
 go_cut [6, 7] (fun v6 v7 wx => v7 = .int .i64 0 ∧ ∃ Z, v6 = .pointer (some ⟨Z, 0, none⟩) ∧ Hid (SOut NB B R w f tx wx Z))
 case first =>
  have HHd := hid (fun (W : World) (hW : Below w.heap.size w W) => head_calls a c tx W (HX.out.on hW))
  have HPt := hid (fun (W : World) (hW : Below w.heap.size w W) (a4 : Option Addr) (c4 : Nat) (h4 : Bytes W W.heap.size a4 64 (headL tx)) (h5 : ∀ b o, a4 = some ⟨b, o, none⟩ → ¬ R b) => show Calls Tryz.prog 115 #[.pointer (some ⟨f.F, 0, none⟩), .agg #[.int .i64 2, .int .u32 0, .int .u64 0, .int .u64 0], .slice a4 64 c4] W (Ptd NB B R (100000 * f.seq) f (sealT f) (headL tx) W) from
   fput_calls HEn0.out (HH.out.on hW) HC.out.fi HC.out.fr HC.out.cap (by have := HSq.out; omega) 2 0 (.inr rfl) (by omega) ⟨by have := HC.out.sq; omega, by have := HSq.out; omega⟩ ⟨by have := HC.out.sq; omega, by have := HC.out.sq; have := HSq.out; omega⟩ a4 c4 (headL tx) HGh.out h4 h5)
  have hS0 : w2.drew.cell? ⟨f.F, 2, none⟩ = some (.int .i64 2) ∧ w2.drew.cell? ⟨f.F, 3, none⟩ = some (.int .i64 0) := by
   have h1 := (H2.out.on (below_drew w2)).c2
   have h2 := (H2.out.on (below_drew w2)).c3
   rw [HRes.out] at h1
   rw [HBad.out] at h2
   exact ⟨h1, h2⟩
  have HS0 := hid hS0
  have HSb := hid (fun (W W' : World) (hW : Below W.heap.size W W') (h1 : W.cell? ⟨f.F, 2, none⟩ = some (.int .i64 2) ∧ W.cell? ⟨f.F, 3, none⟩ = some (.int .i64 0)) => (⟨cell_on h1.1 hW, cell_on h1.2 hW⟩ : W'.cell? ⟨f.F, 2, none⟩ = some (.int .i64 2) ∧ W'.cell? ⟨f.F, 3, none⟩ = some (.int .i64 0)))
  have HB3 := hid (HB2.out.then_ (below_drew w2))
  clear hS0
  refine wp_region_noPanic ?_
  refine wp_region_held_drew (S := (fun W' => W'.cell? ⟨f.F, 2, none⟩ = some (.int .i64 2) ∧ W'.cell? ⟨f.F, 3, none⟩ = some (.int .i64 0))) (by kernel_rfl) HS0.out (fun hS0 => ?_)
  generalize w2.drew = W at *
  clear HS0
  refine tk 0 ((.pointer (some ⟨f.F, 0, none⟩))) rfl (fun _ _ => rfl) ?_
  try simp only [layR]
  refine tk 1 ((.agg #[.int .i64 2, .int .u32 0, .int .u64 0, .int .u64 0])) rfl (fun W hSw => ?_) ?_
  ·skip
   go_simp
  try simp only [layR]
  refine tk 2 ((.pointer (some ⟨f.F, 0, none⟩))) rfl (fun _ _ => rfl) ?_
  try simp only [layR]
  refine tk 3 ((.pointer (some ⟨f.F, 0, none⟩))) rfl (fun W hSw => ?_) ?_
  ·skip
   go_simp
  try simp only [layR]
  refine tk 4 ((.pointer (some ⟨f.F, 2, none⟩))) rfl (fun W hSw => ?_) ?_
  ·skip
   go_simp
  try simp only [layR]
  refine tk 5 ((.int .i64 2)) rfl (fun W hSw => ?_) ?_
  ·obtain ⟨y8, y9⟩ := hSw
   go_simp
  try simp only [layR]
  refine tk 6 ((.pointer (some ⟨f.F, 0, none⟩))) rfl (fun _ _ => rfl) ?_
  try simp only [layR]
  refine tk 7 ((.pointer (some ⟨f.F, 0, none⟩))) rfl (fun W hSw => ?_) ?_
  ·skip
   go_simp
  try simp only [layR]
  refine tk 8 ((.pointer (some ⟨f.F, 3, none⟩))) rfl (fun W hSw => ?_) ?_
  ·skip
   go_simp
  try simp only [layR]
  refine tk 9 ((.int .i64 0)) rfl (fun W hSw => ?_) ?_
  ·obtain ⟨y8, y9⟩ := hSw
   go_simp
  try simp only [layR]
  refine tk 10 ((.slice a 56 c)) rfl (fun _ _ => rfl) ?_
  try simp only [layR]
  refine wpAnyH_ready (rs := [11, 16]) (by kernel_rfl) (by simp) ?_
  refine AllReadyH.cons rfl (fun K' hK => ?_) (AllReadyH.cons rfl (fun K' hK => ?_) AllReadyH.nil)
  ·go_simp
   refine (HHd.out W HB3.out).mono ?_
   rintro e W4 ⟨⟨a4, c4, rfl, ho4⟩, hb4⟩
   have hS1 := HSb.out W W4 hb4 hS0
   have hB4 := HB3.out.then_ hb4
   refine hK.out _ _ hS1 (fun hS2 => ?_)
   try simp only [layR]
   refine wpAnyH_ready (rs := [12, 16]) (by kernel_rfl) (by simp) ?_
   refine AllReadyH.cons rfl (fun K' hK => ?_) (AllReadyH.cons rfl (fun K' hK => ?_) AllReadyH.nil)
   ·go_simp
    refine (HPt.out W4 hB4 _ _ (ho4.arr (by rw [List.length_append, HX.out.len]; simp)) fun b o e h1 => by
     have h2 := (HH.out.bnd b h1).2
     have h3 := (ho4.blockLt b (by rw [e]; rfl)).1
     have h4 := HB3.out.size
     omega).mono ?_
    rintro e W6 ⟨k, i, f1, g', rfl, h6, hsame, hpg, hfi, hfr⟩
    have hS6 : W6.cell? ⟨f.F, 2, none⟩ = some (.int .i64 2) ∧ W6.cell? ⟨f.F, 3, none⟩ = some (.int .i64 0) := by
     have q1 := h6.1.c2
     have q2 := h6.1.c3
     rw [show ({ f1 with g := g', seq := f.seq + 1 } : Fm).F = f.F from hsame.F] at q1 q2
     rw [show ({ f1 with g := g', seq := f.seq + 1 } : Fm).g.res = 2 from hfi.res] at q1
     rw [show ({ f1 with g := g', seq := f.seq + 1 } : Fm).g.bad = 0 from hfi.bad] at q2
     exact ⟨q1, q2⟩
    refine hK.out _ _ hS6 (fun hS7 => ?_)
    try simp only [layR]
    refine tk 13 ((.tuple #[.agg #[.int .i64 (k : Int), .int .i64 (i : Int)], .int .i64 0])) rfl (fun _ _ => rfl) ?_
    try simp only [layR]
    refine tk 14 ((.agg #[.int .i64 (k : Int), .int .i64 (i : Int)])) rfl (fun _ _ => rfl) ?_
    try simp only [layR]
    refine tk 15 ((.int .i64 0)) rfl (fun _ _ => rfl) ?_
    try simp only [layR]

    refine rd 16 rfl (fun K' hK => ?_)
    go_simp
    have hS8 := HSb.out W6 _ ((Below.refl _ _).alloc (Nat.le_refl _) (.cells #[.int .i64 0, .int .i64 0] 184)) hS6
    refine hK.out _ _ hS8 (fun hS9 => ?_)
    try simp only [layR]
    refine rd 17 rfl (fun K' hK => ?_)
    go_simp
    have hb10 := (Below.refl W6.heap.size W6).alloc (Nat.le_refl _) (.cells #[.int .i64 (k : Int), .int .i64 (i : Int)] 184)
    have hS10 := HSb.out W6 _ hb10 hS6
    have hOut : SOut NB B R w f tx (W6.alloc (.cells #[.int .i64 (k : Int), .int .i64 (i : Int)] 184)) W6.heap.size := by
     have hp := ((Pr.start HH.out).on hB4).step h6
     exact ⟨k, i, f1, g', _, hp.on hb10, hsame, hpg, hfi, hfr, Blk.new W6 _ _, hp.ft.not_new (Nat.le_refl _), Nat.le_trans hB4.size h6.2.size⟩
    refine hK.out _ _ hS10 (fun hS11 => ?_)
    refine tk 18 ((.int .i64 0)) rfl (fun _ _ => rfl) ?_
    try simp only [layR]
    refine wpAnyH_done (by kernel_rfl) ?_ _
    refine NoPanic.normal ?_
    have HOut := hid hOut
    clear hOut
    go_wp2_with fail
    go_meet
    case rel => exact ⟨rfl, _, rfl, HOut.out⟩
   ·go_simp
    have hbz := (Below.refl W4.heap.size W4).alloc (Nat.le_refl _) (.cells #[.int .i64 0, .int .i64 0] 184)
    have hS5 := HSb.out W4 _ hbz hS1
    have hz := Blk.new W4 184 #[.int .i64 0, .int .i64 0]
    have hzn := HH.out.not_new (show w.heap.size ≤ W4.heap.size from hB4.size)
    have hB5 := hB4.then_ hbz
    have ho5 := ho4.on hbz
    refine hK.out _ _ hS5 (fun hS5b => ?_)
    try simp only [layR]
    refine rd 12 rfl (fun K' hK => ?_)
    go_simp
    refine (HPt.out _ hB5 _ _ (ho5.arr (by rw [List.length_append, HX.out.len]; simp)) fun b o e h1 => by
     have h2 := (HH.out.bnd b h1).2
     have h3 := (ho5.blockLt b (by rw [e]; rfl)).1
     have h4 := HB3.out.size
     omega).mono ?_
    rintro e W6 ⟨k, i, f1, g', rfl, h6, hsame, hpg, hfi, hfr⟩
    have hS6 : W6.cell? ⟨f.F, 2, none⟩ = some (.int .i64 2) ∧ W6.cell? ⟨f.F, 3, none⟩ = some (.int .i64 0) := by
     have q1 := h6.1.c2
     have q2 := h6.1.c3
     rw [show ({ f1 with g := g', seq := f.seq + 1 } : Fm).F = f.F from hsame.F] at q1 q2
     rw [show ({ f1 with g := g', seq := f.seq + 1 } : Fm).g.res = 2 from hfi.res] at q1
     rw [show ({ f1 with g := g', seq := f.seq + 1 } : Fm).g.bad = 0 from hfi.bad] at q2
     exact ⟨q1, q2⟩
    refine hK.out _ _ hS6 (fun hS7 => ?_)
    try simp only [layR]
    refine tk 13 ((.tuple #[.agg #[.int .i64 (k : Int), .int .i64 (i : Int)], .int .i64 0])) rfl (fun _ _ => rfl) ?_
    try simp only [layR]
    refine tk 14 ((.agg #[.int .i64 (k : Int), .int .i64 (i : Int)])) rfl (fun _ _ => rfl) ?_
    try simp only [layR]
    refine tk 15 ((.int .i64 0)) rfl (fun _ _ => rfl) ?_
    try simp only [layR]
    have hzk := h6.blk hz hzn
    obtain ⟨k0, k1, f0, f1', q0, q1⟩ := plZ hzk k i
    refine rd 17 rfl (fun K' hK => ?_)
    go_simp
    have hkz : Kq (fun q => q = W4.heap.size) W6 ((W6.setCell ⟨W4.heap.size, 0, none⟩ (.int .i64 (k : Int))).setCell ⟨W4.heap.size, 1, none⟩ (.int .i64 (i : Int))) := ((Kq.refl (fun q => q = W4.heap.size) W6).setCell (p := ⟨W4.heap.size, 0, none⟩) (.inl rfl) _).setCell (p := ⟨W4.heap.size, 1, none⟩) (.inl rfl) _
    have hFz : f.F ≠ W4.heap.size := fun e => hzn (e ▸ HH.out.inF)
    have hS10 : ((W6.setCell ⟨W4.heap.size, 0, none⟩ (.int .i64 (k : Int))).setCell ⟨W4.heap.size, 1, none⟩ (.int .i64 (i : Int))).cell? ⟨f.F, 2, none⟩ = some (.int .i64 2) ∧ ((W6.setCell ⟨W4.heap.size, 0, none⟩ (.int .i64 (k : Int))).setCell ⟨W4.heap.size, 1, none⟩ (.int .i64 (i : Int))).cell? ⟨f.F, 3, none⟩ = some (.int .i64 0) := by
     have hb := hkz.block f.F (by have := h6.1.ltF; rw [show ({ f1 with g := g', seq := f.seq + 1 } : Fm).F = f.F from hsame.F] at this; exact this) hFz
     exact ⟨(World.cell?_of_block (a := ⟨f.F, 2, none⟩) hb).trans hS6.1, (World.cell?_of_block (a := ⟨f.F, 3, none⟩) hb).trans hS6.2⟩
    have hOut : SOut NB B R w f tx ((W6.setCell ⟨W4.heap.size, 0, none⟩ (.int .i64 (k : Int))).setCell ⟨W4.heap.size, 1, none⟩ (.int .i64 (i : Int))) (W4.heap.size) := by
     have hp := ((Pr.start HH.out).on hB5).step h6
     have hzn2 := h6.far hzn (Blk.lt hz)
     exact ⟨k, i, f1, g', _, hp.mine hkz fun q hq => by subst hq; exact ⟨hB4.size, hzn2⟩, hsame, hpg, hfi, hfr, (hzk.set 0 (.int .i64 (k : Int))).set 1 (.int .i64 (i : Int)), hzn2, hB4.size⟩
    refine hK.out _ _ hS10 (fun hS11 => ?_)
    refine tk 18 ((.int .i64 0)) rfl (fun _ _ => rfl) ?_
    try simp only [layR]
    refine wpAnyH_done (by kernel_rfl) ?_ _
    refine NoPanic.normal ?_
    have HOut := hid hOut
    clear hOut
    go_wp2_with fail
    go_meet
    case rel => exact ⟨rfl, _, rfl, HOut.out⟩
  ·go_simp
   have hbz := (Below.refl W.heap.size W).alloc (Nat.le_refl _) (.cells #[.int .i64 0, .int .i64 0] 184)
   have hS5 := HSb.out W _ hbz hS0
   have hz0 := Blk.new W 184 #[.int .i64 0, .int .i64 0]
   have hzn := HH.out.not_new (show w.heap.size ≤ W.heap.size from HB3.out.size)
   have hB5 := HB3.out.then_ hbz
   refine hK.out _ _ hS5 (fun hS5b => ?_)
   try simp only [layR]
   refine rd 11 rfl (fun K' hK => ?_)
   go_simp
   refine (HHd.out _ hB5).mono ?_
   rintro e W4 ⟨⟨a4, c4, rfl, ho4⟩, hb4⟩
   have hS1 := HSb.out _ W4 hb4 hS5
   have hB4 := hB5.then_ hb4
   have hz := hz0.belowHere hb4
   refine hK.out _ _ hS1 (fun hS2 => ?_)
   try simp only [layR]
   refine rd 12 rfl (fun K' hK => ?_)
   go_simp
   refine (HPt.out W4 hB4 _ _ (ho4.arr (by rw [List.length_append, HX.out.len]; simp)) fun b o e h1 => by
    have h2 := (HH.out.bnd b h1).2
    have h3 := (ho4.blockLt b (by rw [e]; rfl)).1
    have h4 := hB5.size
    omega).mono ?_
   rintro e W6 ⟨k, i, f1, g', rfl, h6, hsame, hpg, hfi, hfr⟩
   have hS6 : W6.cell? ⟨f.F, 2, none⟩ = some (.int .i64 2) ∧ W6.cell? ⟨f.F, 3, none⟩ = some (.int .i64 0) := by
    have q1 := h6.1.c2
    have q2 := h6.1.c3
    rw [show ({ f1 with g := g', seq := f.seq + 1 } : Fm).F = f.F from hsame.F] at q1 q2
    rw [show ({ f1 with g := g', seq := f.seq + 1 } : Fm).g.res = 2 from hfi.res] at q1
    rw [show ({ f1 with g := g', seq := f.seq + 1 } : Fm).g.bad = 0 from hfi.bad] at q2
    exact ⟨q1, q2⟩
   refine hK.out _ _ hS6 (fun hS7 => ?_)
   try simp only [layR]
   refine tk 13 ((.tuple #[.agg #[.int .i64 (k : Int), .int .i64 (i : Int)], .int .i64 0])) rfl (fun _ _ => rfl) ?_
   try simp only [layR]
   refine tk 14 ((.agg #[.int .i64 (k : Int), .int .i64 (i : Int)])) rfl (fun _ _ => rfl) ?_
   try simp only [layR]
   refine tk 15 ((.int .i64 0)) rfl (fun _ _ => rfl) ?_
   try simp only [layR]
   have hzk := h6.blk hz hzn
   obtain ⟨k0, k1, f0, f1', q0, q1⟩ := plZ hzk k i
   refine rd 17 rfl (fun K' hK => ?_)
   go_simp
   have hkz : Kq (fun q => q = W.heap.size) W6 ((W6.setCell ⟨W.heap.size, 0, none⟩ (.int .i64 (k : Int))).setCell ⟨W.heap.size, 1, none⟩ (.int .i64 (i : Int))) := ((Kq.refl (fun q => q = W.heap.size) W6).setCell (p := ⟨W.heap.size, 0, none⟩) (.inl rfl) _).setCell (p := ⟨W.heap.size, 1, none⟩) (.inl rfl) _
   have hFz : f.F ≠ W.heap.size := fun e => hzn (e ▸ HH.out.inF)
   have hS10 : ((W6.setCell ⟨W.heap.size, 0, none⟩ (.int .i64 (k : Int))).setCell ⟨W.heap.size, 1, none⟩ (.int .i64 (i : Int))).cell? ⟨f.F, 2, none⟩ = some (.int .i64 2) ∧ ((W6.setCell ⟨W.heap.size, 0, none⟩ (.int .i64 (k : Int))).setCell ⟨W.heap.size, 1, none⟩ (.int .i64 (i : Int))).cell? ⟨f.F, 3, none⟩ = some (.int .i64 0) := by
    have hb := hkz.block f.F (by have := h6.1.ltF; rw [show ({ f1 with g := g', seq := f.seq + 1 } : Fm).F = f.F from hsame.F] at this; exact this) hFz
    exact ⟨(World.cell?_of_block (a := ⟨f.F, 2, none⟩) hb).trans hS6.1, (World.cell?_of_block (a := ⟨f.F, 3, none⟩) hb).trans hS6.2⟩
   have hOut : SOut NB B R w f tx ((W6.setCell ⟨W.heap.size, 0, none⟩ (.int .i64 (k : Int))).setCell ⟨W.heap.size, 1, none⟩ (.int .i64 (i : Int))) (W.heap.size) := by
    have hp := ((Pr.start HH.out).on hB4).step h6
    have hzn2 := h6.far hzn (Blk.lt hz)
    exact ⟨k, i, f1, g', _, hp.mine hkz fun q hq => by subst hq; exact ⟨HB3.out.size, hzn2⟩, hsame, hpg, hfi, hfr, (hzk.set 0 (.int .i64 (k : Int))).set 1 (.int .i64 (i : Int)), hzn2, HB3.out.size⟩
   refine hK.out _ _ hS10 (fun hS11 => ?_)
   refine tk 18 ((.int .i64 0)) rfl (fun _ _ => rfl) ?_
   try simp only [layR]
   refine wpAnyH_done (by kernel_rfl) ?_ _
   refine NoPanic.normal ?_
   have HOut := hid hOut
   clear hOut
   go_wp2_with fail
   go_meet
   case rel => exact ⟨rfl, _, rfl, HOut.out⟩
 case rest =>
  obtain ⟨rfl, Z, rfl, hOut⟩ := hcut
  obtain ⟨k, i, f1, g', R2, hpr, hsame, hpg, hfi, hfr, hz, hzn, hzw⟩ := hOut.out
  have HSm := hid hsame
  have HPg := hid hpg
  have HFi := hid hfi
  have HFr := hid hfr
  have HZn := hid hzn
  have HZw := hid hzw
  have HUf1 := hid (show Uq f1.no from hpr.ft.hN.uq)
  obtain ⟨fa, hfa⟩ : ∃ fa, fa = ({ f1 with g := g', seq := f.seq + 1 } : Fm) := ⟨_, rfl⟩
  rw [← hfa] at hpr
  have hFa : fa.F = f.F := by rw [hfa]; exact hsame.F
  have hmb := hpr.ft.on (below_drew wc)
  obtain ⟨o3, hrun, hm3, hk3⟩ := hmb.putN ⟨sealT f, headL tx, k, i⟩ (by show (0 : Nat) < _; omega)
  have hrun : (Instr.mapUpdate 135 (.map (some fa.NO)) (.int .u32 0) (.agg #[.int .i64 (k : Int), .int .i64 (i : Int)])).run Tryz.prog wc.drew = .ok () (setBlock wc.drew fa.NO o3) := hrun
  have hS3 : wc.drew.cell? ⟨f.F, 6, none⟩ = some (.map (some fa.NO)) ∧ wc.drew.cell? ⟨Z, 0, none⟩ = some (.int .i64 (k : Int)) ∧ wc.drew.cell? ⟨Z, 1, none⟩ = some (.int .i64 (i : Int)) := ⟨by rw [← hFa]; exact hmb.c6, hz.drew.cellv (i := 0) rfl, hz.drew.cellv (i := 1) rfl⟩
  have hz3 := hz.drew.kq hk3 hzn
  have hS4 : (setBlock wc.drew fa.NO o3).cell? ⟨f.F, 6, none⟩ = some (.map (some fa.NO)) ∧ (setBlock wc.drew fa.NO o3).cell? ⟨Z, 0, none⟩ = some (.int .i64 (k : Int)) ∧ (setBlock wc.drew fa.NO o3).cell? ⟨Z, 1, none⟩ = some (.int .i64 (i : Int)) := ⟨by rw [← hFa]; exact hm3.c6, hz3.cellv (i := 0) rfl, hz3.cellv (i := 1) rfl⟩
  have HS3 := hid hS3
  have HS4 := hid hS4
  have HPr3 := hid ((hpr.on (below_drew wc)).same hm3 hk3)
  have HFa := hid hfa
  have HFaF := hid hFa
  clear hpr hsame hpg hfi hfr hz hzn hzw hOut hmb hm3 hk3 hS3 hS4 hz3 hfa hFa
  go_upto_region 11 with fail
  refine wp_region_noPanic ?_
  refine wp_region_held_drew (S := (fun W' => W'.cell? ⟨f.F, 6, none⟩ = some (.map (some fa.NO)) ∧ W'.cell? ⟨Z, 0, none⟩ = some (.int .i64 (k : Int)) ∧ W'.cell? ⟨Z, 1, none⟩ = some (.int .i64 (i : Int)))) (by kernel_rfl) HS3.out (fun hS0 => ?_)
  refine tk 0 ((.pointer (some ⟨f.F, 0, none⟩))) rfl (fun _ _ => rfl) ?_
  try simp only [layR]
  refine tk 1 ((.pointer (some ⟨f.F, 0, none⟩))) rfl (fun _ _ => rfl) ?_
  try simp only [layR]
  refine tk 2 ((.pointer (some ⟨f.F, 6, none⟩))) rfl (fun W hSw => ?_) ?_
  ·skip
   go_simp
  try simp only [layR]
  refine tk 3 ((.map (some fa.NO))) rfl (fun W hSw => ?_) ?_
  ·obtain ⟨y7, y8, y9⟩ := hSw
   go_simp
  try simp only [layR]
  refine tk 4 ((.agg #[.int .i64 (k : Int), .int .i64 (i : Int)])) rfl (fun W hSw => ?_) ?_
  ·obtain ⟨y7, y8, y9⟩ := hSw
   go_simp
  try simp only [layR]
  refine rd 5 rfl (fun K' hK => ?_)
  go_simp
  refine hK.out _ _ HS4.out (fun hS5 => ?_)
  refine wpAnyH_done (by kernel_rfl) ?_ _
  refine NoPanic.normal ?_
  clear hrun hS0 hS5 HS3 HS4
  obtain ⟨W3, hW3⟩ : ∃ W3, W3 = setBlock wc.drew fa.NO o3 := ⟨_, rfl⟩
  rw [← hW3] at HPr3 ⊢
  clear hW3
  obtain ⟨f2, hf2⟩ : ∃ f2, f2 = ({ fa with no := putE fa.no ⟨sealT f, headL tx, k, i⟩ } : Fm) := ⟨_, rfl⟩
  rw [← hf2] at HPr3
  have HF2 := hid hf2
  have HF2F := hid (show f2.F = f.F by rw [hf2]; exact HFaF.out)
  have hn0 : getE f1.no 0 = none := by
   have := getE_some HSm.out.no 0
   rw [HC.out.n0] at this
   cases hg : getE f1.no 0 with
   | none => rfl
   | some e => rw [hg] at this; cases this
  have hfi2 : Fi NB (100000 * f.seq + 17 * (NB + 1) + 1) [] f2.g (f2.se ++ f2.no) := by
   rw [hf2, HFa.out]
   refine HFi.out.add HPg.out.gp ⟨⟨.inr rfl, by show (0 : Nat) < _; omega, by show 1 ≤ f.seq; have := HC.out.sq; omega, by show f.seq < _; have := HSq.out; omega, by show 1 ≤ f.ep; have := HC.out.sq; omega, by show f.ep < _; have := HC.out.sq; have := HSq.out; omega⟩, by show (headL tx).length = 64; unfold headL; rw [List.length_append, HX.out.len]; rfl⟩ ?_
   show (f1.se ++ putE f1.no ⟨sealT f, headL tx, k, i⟩).Perm (⟨sealT f, headL tx, k, i⟩ :: (f1.se ++ f1.no))
   rw [putE_new fun x hx => getE_none hn0 x hx, ← List.append_assoc]
   exact (List.perm_append_comm (l₁ := f1.se ++ f1.no))
  have HGk := hid (show ∀ x ∈ f2.go, (getE f2.se x.t.p).isSome = true from fun x hx => by
   rw [hf2, HFa.out] at hx ⊢
   have hx : x ∈ f1.go := hx
   show (getE f1.se x.t.p).isSome = true
   rw [getE_some HSm.out.se]
   have h1 : x.t.p ∈ f1.go.map fun e => e.t.p := List.mem_map.2 ⟨x, hx, rfl⟩
   rw [HSm.out.go] at h1
   obtain ⟨y, hy, e⟩ := List.mem_map.1 h1
   rw [← e]
   exact HC.out.gk y hy)
  have hfr2 : 3 ≤ Gc.count 0 f2.g.l := by rw [hf2, HFa.out]; exact HFr.out
  obtain ⟨m, hm⟩ : ∃ m, m = 100000 * f.seq + 17 * (NB + 1) + 1 := ⟨_, rfl⟩
  rw [← hm] at hfi2
  have HMm := hid hm
  have HSl0 := hid (sl1_0 hfi2 hfr2)
  have HN0 := hid hn0
  have HUn := hid HPr3.out.ft.hN.uq
  have c6 := HPr3.out.ft.c6
  rw [HF2F.out] at c6
  clear hf2 hn0 hfi2 hfr2 hm
  go_wp2_with (at_range; refine wpList_range_E _ rfl _ rfl f2.NO f2.no rfl HPr3.out.ft.hN ?_; intro w4 hr4 hb4 hs4)
  clear c6
  have HSL0 := hid (show SL NB B R w R2 m W3.heap.size f2 w4 from ⟨[], f2, hr4.out, HPr3.out.on hb4.out, HSl0.out⟩)
  have HRn := hid (HPr3.out.ft.not_new (Nat.le_refl W3.heap.size))
  have HRw := hid (show w.heap.size ≤ W3.heap.size from HPr3.out.kq.size)
  obtain ⟨r, hr⟩ : ∃ r, r = W3.heap.size := ⟨_, rfl⟩
  rw [← hr] at HSL0 HRn HRw ⊢
  clear hr hr4 hb4 hs4
  go_loopw [8, 9, 10, 11, 57] (fun _ _ _ _ _ wr => Hid (SL NB B R w R2 m r f2 wr)) (fun _ _ _ _ _ wr => wr.rangeLeft f2.NO r)
  case atStart => exact HSL0.out
  case round =>
   obtain ⟨d, f3, hrd, hpr, hsl⟩ := hrel.out
   have HRd := hid hrd
   have HPr := hid hpr
   have HSl := hid hsl
   have HE3 := hid hsl.eq
   clear hrel hrd hpr hsl
   go_wp2_with (at_next; refine wpList_next_E _ rfl _ rfl f2.NO r f2.no d rfl HRd.out ?_ ?_)
   ·intro hperm
    obtain ⟨m3, hm3⟩ : ∃ m3, m3 = m + f2.no.length := ⟨_, rfl⟩
    have HM3 := hid hm3
    have hall := HSl.out.all hperm
    rw [← hm3] at hall
    have HSm0 := hid (sl2_0 hall HSl.out.fr)
    have HPm := hid hperm
    have HUg := hid HPr.out.ft.hG.uq
    have hgk2 : ∀ x ∈ f2.go, (getE f2.se x.t.p).isSome = true := HGk.out
    have HGk3 := hid (HSl.out.gk hgk2)
    have c7 := HPr.out.ft.c7
    have hFF : f3.F = f.F := by rw [HE3.out]; exact HF2F.out
    rw [hFF] at c7
    have HFF := hid hFF
    clear hall hperm hFF hm3 hgk2
    go_wp2_with (at_range; refine wpList_range_E _ rfl _ rfl f3.GO f3.go rfl HPr.out.ft.hG ?_; intro w7 hr7 hb7 hs7)
    clear c7
    have HSM0 := hid (show SM NB B R w R2 m3 wr.heap.size f3 w7 from ⟨[], f3, hr7.out, HPr.out.on hb7.out, HSm0.out⟩)
    have HRm := hid (HPr.out.ft.not_new (Nat.le_refl wr.heap.size))
    have HRx := hid (show w.heap.size ≤ wr.heap.size from HPr.out.kq.size)
    obtain ⟨r2, hr2⟩ : ∃ r2, r2 = wr.heap.size := ⟨_, rfl⟩
    rw [← hr2] at HSM0 HRm HRx ⊢
    clear hr2 hr7 hb7 hs7
    simp only [layR]
    go_loopw [12, 95] (fun _ _ wr => Hid (SM NB B R w R2 m3 r2 f3 wr)) (fun _ _ wr => wr.rangeLeft f3.GO r2)
    case atStart => exact HSM0.out
    case round =>
     obtain ⟨d2, f4, hrd, hpr, hsl⟩ := hrel.out
     have HRd2 := hid hrd
     have HPr2 := hid hpr
     have HSl2 := hid hsl
     have HE4 := hid hsl.eq
     clear hrel hrd hpr hsl
     go_wp2_with (at_next; refine wpList_next_E _ rfl _ rfl f3.GO r2 f3.go d2 rfl HRd2.out ?_ ?_)
     ·intro hperm2
      have HPm2 := hid hperm2
      have HF4 := hid (show f4.F = f.F by rw [HE4.out]; exact HFF.out)
      clear hperm2
      go_upto_region 25 with fail
      have hmm := @run_makeMap Tryz.prog
      obtain ⟨W20, hW20⟩ : ∃ W20, W20 = (wr.alloc (.map #[] 0)).alloc (.map #[] 0) := ⟨_, rfl⟩
      have hb20 : Below wr.heap.size wr W20 := by rw [hW20]; exact ((Below.refl _ _).alloc (Nat.le_refl _) _).alloc (by simp) _
      have hft20 := HPr2.out.ft.on hb20
      have c6 := hft20.c6
      have c7 := hft20.c7
      have z6 := hft20.frz 6
      have z7 := hft20.frz 7
      rw [HF4.out] at c6 c7 z6 z7
      obtain ⟨W21, hW21⟩ : ∃ W21, W21 = (W20.setCell ⟨f.F, 6, none⟩ (.map (some wr.heap.size))).setCell ⟨f.F, 7, none⟩ (.map (some (wr.heap.size + 1))) := ⟨_, rfl⟩
      obtain ⟨f5, hf5⟩ : ∃ f5, f5 = ({ f4 with NO := wr.heap.size, GO := wr.heap.size + 1, no := [], go := [] } : Fm) := ⟨_, rfl⟩
      have hfr21 : FtR NB B R2 wr W21 f5 := by
       refine HPr2.out.ft.swap hb20 ?_ ?_ (by rw [hf5]) (by rw [hf5]) (by rw [hf5]) (by rw [hf5]) (by rw [hf5]) (.inr ?_) (.inr ?_) (.inl (by rw [hf5]; exact ⟨rfl, rfl⟩)) (by rw [hf5]; show wr.heap.size ≠ wr.heap.size + 1; omega) (fun q hq => ?_)
       ·rw [hW21, ← HF4.out]
        have h1 : Kq (fun q => q = f4.F) W20 (W20.setCell ⟨f4.F, 6, none⟩ (.map (some wr.heap.size))) := Kq.one ⟨f4.F, 6, none⟩ _
        have h2 : Kq (fun q => q = f4.F) (W20.setCell ⟨f4.F, 6, none⟩ (.map (some wr.heap.size))) ((W20.setCell ⟨f4.F, 6, none⟩ (.map (some wr.heap.size))).setCell ⟨f4.F, 7, none⟩ (.map (some (wr.heap.size + 1)))) := Kq.one ⟨f4.F, 7, none⟩ _
        exact h1.trans h2
       ·rw [hW21, ← HF4.out]
        have h1 := (hft20.hF.set 6 (.map (some wr.heap.size))).set 7 (.map (some (wr.heap.size + 1)))
        have h2 : ((fmA NB f4).setIfInBounds 6 (.map (some wr.heap.size))).setIfInBounds 7 (.map (some (wr.heap.size + 1))) = fmA NB f5 := by rw [hf5]; unfold fmA; simp
        rw [h2] at h1
        exact h1
       ·rw [hf5, hW20]
        exact ⟨Nat.le_refl _, (MapE.made wr).alloc _⟩
       ·rw [hf5, hW20]
        have h1 := MapE.made (wr.alloc (.map #[] 0))
        rw [World.size_alloc] at h1
        exact ⟨Nat.le_succ _, h1⟩
       ·have h1 : q < wr.heap.size := HPr2.out.ft.hiT (by rw [hf5] at hq; exact hq)
        rw [hf5]
        show q ≠ wr.heap.size ∧ q ≠ wr.heap.size + 1
        omega
      have HPr21 := hid (HPr2.out.step hfr21)
      have HF5 := hid hf5
      clear hb20 hft20 hfr21 hf5
      rw [hW20] at c6 c7 z6 z7
      go_upto_region 26 with fail
      rw [← hW20, ← hW21]
      clear hW20 hW21 c6 c7 z6 z7 hmm
      have hep5 : f5.ep = f.ep := by rw [HF5.out, HE4.out, HE3.out, HF2.out, HFa.out]; exact HSm.out.ep
      have hF5 : f5.F = f.F := by rw [HF5.out]; exact HF4.out
      have c9 := HPr21.out.ft.c9
      have z9 := HPr21.out.ft.frz 9
      rw [hF5] at c9 z9
      rw [hep5] at c9
      have hep : f.ep ≤ 1000000 := by have := HC.out.sq; have := HSq.out; omega
      have hm22 := HPr21.out.ft.setF 9 (.int .u64 ((f.ep : Int) + 1)) { f5 with ep := f.ep + 1 } (by unfold fmA; simp) rfl rfl rfl rfl rfl rfl rfl rfl rfl rfl rfl
      have hk22 : Kq (Up R2 wr W21) W21 (W21.setCell ⟨f5.F, 9, none⟩ (.int .u64 ((f.ep : Int) + 1))) := (Kq.one ⟨f5.F, 9, none⟩ _).mono fun q e => e ▸ HPr21.out.ft.inF
      have HPr22 := hid (HPr21.out.same hm22 hk22)
      rw [show (⟨f5.F, 9, none⟩ : Addr) = ⟨f.F, 9, none⟩ by rw [hF5]] at HPr22
      have HX22 := hid (show Bytes (W21.setCell ⟨f.F, 9, none⟩ (.int .u64 ((f.ep : Int) + 1))) w.heap.size a 56 tx from (HX.out.kq (Nat.le_refl _) HPr22.out.kq HAp.out))
      have HF5F := hid hF5
      clear hm22 hk22 hF5 hep5
      go_wp2_with fail
      refine (clone_calls a 56 c tx _ (HX22.out.mono HPr22.out.kq.size)).mono ?_
      rintro e9 W23 ⟨⟨v9, rfl, ho9⟩, hb9⟩
      obtain ⟨a9, k9, rfl, hk9⟩ := ho9.formN HX22.out.len
      have HZ9 := hid z9
      clear z9 hep
      have c4 := (HPr22.out.ft.on hb9).c4
      have z4 := (HPr22.out.ft.on hb9).frz 4
      have hF9 := (HPr22.out.ft.on hb9).hF
      have c4 : W23.cell? ⟨f5.F, 4, none⟩ = some f5.tv := c4
      have z4 : W23.frozen? ⟨f5.F, 4, none⟩ = false := z4
      have hsw : FtR NB B (Up R2 wr W21) (W21.setCell ⟨f.F, 9, none⟩ (.int .u64 ((f.ep : Int) + 1))) (W23.setCell ⟨f5.F, 4, none⟩ (.slice a9 56 k9)) { f5 with ep := f.ep + 1, tv := (.slice a9 56 k9), tx := tx } := by
       refine HPr22.out.ft.swap hb9 (Kq.one ⟨f5.F, 4, none⟩ (.slice a9 56 k9)) ?_ rfl rfl rfl rfl rfl (.inl ⟨rfl, rfl⟩) (.inl ⟨rfl, rfl⟩) (.inr ho9) HPr22.out.ft.dis.2.2 (fun q hq => ?_)
       ·have h1 := hF9.set 4 (.slice a9 56 k9)
        have h2 : (fmA NB { f5 with ep := f.ep + 1 }).setIfInBounds 4 (.slice a9 56 k9) = fmA NB { f5 with ep := f.ep + 1, tv := (.slice a9 56 k9), tx := tx } := by unfold fmA; simp
        rw [h2] at h1
        exact h1
       ·have h1 := (ho9.blockLt q hq).1
        have h2 := HPr22.out.ft.hN.lt
        have h3 := HPr22.out.ft.hG.lt
        exact ⟨fun e => absurd h2 (by show ¬ f5.NO < _; rw [show f5.NO = q from e.symm]; omega), fun e => absurd h3 (by show ¬ f5.GO < _; rw [show f5.GO = q from e.symm]; omega)⟩
      have hend := (HPr22.out.step hsw).fin HB0
      rw [HF5F.out] at c4 z4
      rw [show (⟨f5.F, 4, none⟩ : Addr) = ⟨f.F, 4, none⟩ by rw [HF5F.out]] at hend
      have HEnd := hid hend
      clear hend hsw hF9 ho9 hb9
      go_wp2
      go_ret
      have h2 := HSl2.out
      rw [HM3.out] at h2
      refine ⟨rfl, _, HEnd.out, sld HC.out HSm.out (by rw [HF2.out, HFa.out]) HMm.out HSl.out HPm.out h2 HPm2.out HUf1.out HUn.out HUg.out HPr2.out.ft.hS.uq hnb.2 ?_ ?_ HCp.out HF5F.out ?_ ?_ ?_ ?_ ?_ rfl rfl ?_⟩
      ·rw [HPg.out.C]; exact HSm.out.C
      ·rw [HPg.out.gh]; exact HSm.out.gh
      ·show f5.g = f4.g; rw [HF5.out]
      ·show f5.se = f4.se; rw [HF5.out]
      ·show f5.no = []; rw [HF5.out]
      ·show f5.go = []; rw [HF5.out]
      ·show f5.seq = f.seq + 1; rw [HF5.out, HE4.out, HE3.out, HF2.out, HFa.out]
      ·show f5.ov = f.ov; rw [HF5.out, HE4.out, HE3.out, HF2.out, HFa.out]; exact HSm.out.ov
     ·intro e w6 he hr6 hg6 hs6 hl6 hen
      rw [plV_eq] at hen ⊢
      have HKe := hid (HPr.out.ft.hG.key he.out.1)
      have hk6 : Kq (fun q => q = r2) wr w6 := (Kq.grown hg6.out).mono fun q e => (Option.some.inj e).symm
      have HPr6 := hid (HPr2.out.mine hk6 fun q hq => by subst hq; exact ⟨HRx.out, HRm.out⟩)
      obtain ⟨hU2, e0, he0⟩ := HSl2.out.old HUg.out HGk3.out HRd2.out.rest he.out.1 he.out.2
      obtain ⟨he0m, hep⟩ := getE_mem he0
      have hfd : Fi NB (m3 + d2.length) (e0.b :: []) f4.g (delE f4.se e.t.p) := by
       have h1 := HSl2.out.fi.del (delE_perm HPr2.out.ft.hS.uq he0m)
       rw [hep] at h1
       exact h1
      have HFd := hid hfd
      have HU2 := hid hU2
      have HDr := hid (fDrop2_calls (HPr6.out.ft.on (below_drew w6)) hfd)
      have hsv : plO (getE f4.se e.t.p) = .agg #[.int .i64 (e0.b : Int), .int .i64 (e0.i : Int)] := by rw [he0]; rfl
      have HF4 := hid (show f4.F = f.F by rw [HE4.out]; exact HFF.out)
      have HS4 := hid (show f4.SE = f3.SE by rw [HE4.out])
      have HNg := hid (show f3.GO ≠ f4.g.ML by have := HPr2.out.ft.neML.2.1; rw [show f4.GO = f3.GO by rw [HE4.out]] at this; exact this)
      have HNr := hid (show r2 ≠ f4.g.ML from fun h1 => HRm.out (h1 ▸ by have := HPr2.out.ft; obtain ⟨S, _, h2, _⟩ := this; exact h2 _ (.inr (.inr (.inl rfl)))))
      obtain ⟨S7, hS7⟩ : ∃ S7 : World → Prop, S7 = fun W' => ∃ f5, FtM NB B R2 W' f5 ∧ f5.F = f.F ∧ f5.SE = f4.SE ∧ f5.se = f4.se ∧ f5.g.M = f4.g.M := ⟨_, rfl⟩
      have HLs := hid (fun (W' : World) (hW : S7 W') => show (Instr.lookup 135 (.map (some f4.SE)) (.int .u32 (e.t.p : Int)) false).run Tryz.prog W' = .ok (.agg #[.int .i64 (e0.b : Int), .int .i64 (e0.i : Int)]) W' by
       rw [hS7] at hW
       obtain ⟨f5, e1, e2, e3, e4, e5⟩ := hW
       have := e1.hS.look HKe.out false
       rw [e4, e3, hsv] at this
       exact this)
      have HD1 := hid (fun (W' : World) (hW : S7 W') => show W'.cell? ⟨f.F, 1, none⟩ = some (.pointer (some ⟨f4.g.M, 0, none⟩)) by
       rw [hS7] at hW
       obtain ⟨f5, e1, e2, e3, e4, e5⟩ := hW
       rw [← e2, ← e5]; exact e1.c1)
      have HD5 := hid (fun (W' : World) (hW : S7 W') => show W'.cell? ⟨f.F, 5, none⟩ = some (.map (some f4.SE)) by
       rw [hS7] at hW
       obtain ⟨f5, e1, e2, e3, e4, e5⟩ := hW
       rw [← e2, ← e3]; exact e1.c5)
      have hS70 : S7 w6.drew := by rw [hS7]; exact ⟨f4, HPr6.out.ft.on (below_drew w6), HF4.out, rfl, rfl, rfl⟩
      have HS71 := hid (fun (W' : World) (f5 : Fm) (h1 : FtM NB B R2 W' f5) (h2 : f5.F = f.F ∧ f5.SE = f4.SE ∧ f5.se = f4.se ∧ f5.g.M = f4.g.M) => show S7 W' by rw [hS7]; exact ⟨f5, h1, h2⟩)
      clear hk6 hfd hU2 hsv he0 he0m hep hS7
      go_upto_region 23 with fail
      refine wp_region_noPanic ?_
      refine wp_region_held_drew (S := S7) (by kernel_rfl) hS70 (fun hS0 => ?_)
      refine tk 0 ((.pointer (some ⟨f.F, 0, none⟩))) rfl (fun _ _ => rfl) ?_
      try simp only [layR]
      refine tk 1 ((.pointer (some ⟨f.F, 0, none⟩))) rfl (fun _ _ => rfl) ?_
      try simp only [layR]
      refine tk 2 ((.pointer (some ⟨f.F, 1, none⟩))) rfl (fun W hSw => ?_) ?_
      ·skip
       go_simp
      try simp only [layR]
      refine tk 3 ((.pointer (some ⟨f4.g.M, 0, none⟩))) rfl (fun W hSw => ?_) ?_
      ·have y9 := HD1.out _ hSw
       go_simp
      try simp only [layR]
      refine tk 4 ((.pointer (some ⟨f.F, 0, none⟩))) rfl (fun _ _ => rfl) ?_
      try simp only [layR]
      refine tk 5 ((.pointer (some ⟨f.F, 0, none⟩))) rfl (fun _ _ => rfl) ?_
      try simp only [layR]
      refine tk 6 ((.pointer (some ⟨f.F, 5, none⟩))) rfl (fun W hSw => ?_) ?_
      ·skip
       go_simp
      try simp only [layR]
      refine tk 7 ((.map (some f4.SE))) rfl (fun W hSw => ?_) ?_
      ·have y9 := HD5.out _ hSw
       go_simp
      try simp only [layR]
      refine tk 8 ((.int .u32 (e.t.p : Int))) rfl (fun _ _ => rfl) ?_
      try simp only [layR]
      refine tk 9 ((.agg #[.int .i64 (e0.b : Int), .int .i64 (e0.i : Int)])) rfl (fun W hSw => ?_) ?_
      ·have y9 := HLs.out _ hSw
       go_simp
      try simp only [layR]
      refine tk 10 ((.int .i64 (e0.b : Int))) rfl (fun _ _ => rfl) ?_
      try simp only [layR]
      refine rd 11 rfl (fun K' hK => ?_)
      go_simp
      refine HDr.out.mono ?_
      rintro e9 W10 ⟨rfl, hm10, hk10, hl10⟩
      have hS71 := HS71.out W10 _ hm10 ⟨HF4.out, rfl, rfl, rfl⟩
      obtain ⟨f4b, hf4b⟩ : ∃ f4b, f4b = ({ f4 with g := { f4.g with l := f4.g.l.set e0.b (dropB (Gc.at_ f4.g.l e0.b)) } } : Fm) := ⟨_, rfl⟩
      have HFin := hid (show ∀ f5 : Fm, f5.g = f4b.g → f5.se = delE f4b.se e.t.p → f5 = { f4b with g := f5.g, se := f5.se } → Sl2 NB m3 f3 f5 (d2 ++ [e]) from fun f5 h1 h2 h4 => by
       subst hf4b
       refine HSl2.out.fin HU2.out ?_ ?_ h2 h4 (by rw [h1]) (by rw [h1]) (by rw [h1]) (by rw [h1])
       ·rw [h1]
        exact HFd.out.drop
       ·rw [h1]
        show 3 ≤ Gc.count 0 (f4.g.l.set e0.b (dropB (Gc.at_ f4.g.l e0.b)))
        rw [count_dropB (HFd.out.lenl (by simp)) HFd.out.notFree]
        exact HSl2.out.fr)
      have HSb := hid (show f4b.SE = f3.SE by rw [hf4b]; exact HS4.out)
      have HFb := hid (show f4b.F = f.F by rw [hf4b]; exact HF4.out)
      have HPr10 : Hid (Pr NB B R w R2 W10 f4b) := by rw [hf4b]; exact (HPr6.out.on (below_drew w6)).same hm10 hk10
      have hr10 := (hr6.out.on (below_drew w6)).kq hl10 (HNg.out) (HNr.out)
      have HR10 := hid hr10.1
      have HL10 := hid (show W10.rangeLeft f3.GO r2 < wr.rangeLeft f3.GO r2 by rw [hr10.2, hr6.out.1.left_on (below_drew w6)]; exact hl6.out)
      refine hK.out _ _ hS71 (fun hS72 => ?_)
      refine wpAnyH_done (by kernel_rfl) ?_ _
      refine NoPanic.normal ?_
      clear hS0 hS70 hS71 hS72 HS71 HD1 HD5 HLs HDr hm10 hk10 hl10 hr10 hf4b
      have c5 := HPr10.out.ft.c5
      rw [HFb.out] at c5
      obtain ⟨o12, hrun12, hm12, hk12⟩ := HPr10.out.ft.delS HKe.out 0
      have hrun12 : ∀ ty, (Builtin.delete_ #[135, 100] ty #[.map (some f4b.SE), .int .u32 (e.t.p : Int)]).run Tryz.prog W10 = .ok (.tuple #[]) (setBlock W10 f4b.SE o12) := fun ty => hrun12
      have hne1 : f4b.SE ≠ f3.GO := by rw [HSb.out]; exact HPr.out.ft.dis.2.1
      have hne2 : f4b.SE ≠ r2 := fun h1 => HRm.out (h1 ▸ by have := HPr10.out.ft; obtain ⟨S, _, h2, _⟩ := this; exact h2 _ (.inl (.inr (.inl rfl))))
      have hr12 := HR10.out.put HPr10.out.ft.hS hne1 hne2 o12
      have HR12 := hid hr12.1
      have HL12 := hid (show (setBlock W10 f4b.SE o12).rangeLeft f3.GO r2 < wr.rangeLeft f3.GO r2 by rw [hr12.2]; exact HL10.out)
      have HPr12 := hid (HPr10.out.same hm12 hk12)
      have HSL12 := hid (HFin.out { f4b with se := delE f4b.se e.t.p } rfl rfl rfl)
      clear hm12 hk12 hr12 hne1 hne2
      go_wp2_with fail
      go_roundw
      case rel => exact ⟨_, _, HR12.out, HPr12.out, HSL12.out⟩
      case measure => exact HL12.out
   ·intro e w6 he hr6 hg6 hs6 hl6 hen
    rw [plV_eq] at hen ⊢
    have HKe := hid (HPr3.out.ft.hN.key he.out.1)
    have hk6 : Kq (fun q => q = r) wr w6 := (Kq.grown hg6.out).mono fun q e => (Option.some.inj e).symm
    have HPr6 := hid (HPr.out.mine hk6 fun q hq => by subst hq; exact ⟨HRw.out, HRn.out⟩)
    have hb7 := (Below.refl w6.heap.size w6).alloc (Nat.le_refl _) (.cells #[.int .i64 (e.b : Int), .int .i64 (e.i : Int)] 184)
    have HPr7 := hid (HPr6.out.on hb7)
    have HT7 := hid (Blk.new w6 184 #[.int .i64 (e.b : Int), .int .i64 (e.i : Int)])
    have HT9n := hid (HPr6.out.ft.not_new (Nat.le_refl w6.heap.size))
    have HR7 := hid (hr6.out.on hb7)
    have HL7 := hid (show (w6.alloc (.cells #[.int .i64 (e.b : Int), .int .i64 (e.i : Int)] 184)).rangeLeft f2.NO r < wr.rangeLeft f2.NO r by rw [hr6.out.1.left_on hb7]; exact hl6.out)
    have c5 := HPr7.out.ft.c5
    have hFF : f3.F = f.F := by rw [HE3.out]; exact HF2F.out
    rw [hFF] at c5
    have HFF := hid hFF
    obtain ⟨b2, i2, e2⟩ := plO_form (getE f3.se e.t.p)
    obtain ⟨old, hold⟩ : ∃ old, (getE f3.se e.t.p).isSome = old := ⟨_, rfl⟩
    have hl7 := HPr7.out.ft.hS.lookT HKe.out rfl e2 hold
    have hb8 := (Below.refl _ _).alloc (Nat.le_refl (w6.alloc (.cells #[.int .i64 (e.b : Int), .int .i64 (e.i : Int)] 184)).heap.size) (.cells #[.int .i64 (b2 : Int), .int .i64 (i2 : Int)] 184)
    have HPr8 := hid (HPr7.out.on hb8)
    have HT8 := hid (HT7.out.belowHere hb8)
    have HR8 := hid (HR7.out.on hb8)
    have hL8 := HR7.out.1.left_on hb8
    have HO8 := hid (Blk.new (w6.alloc (.cells #[.int .i64 (e.b : Int), .int .i64 (e.i : Int)] 184)) 184 #[.int .i64 (b2 : Int), .int .i64 (i2 : Int)])
    have HOn := hid (HPr7.out.ft.not_new (Nat.le_refl (w6.alloc (.cells #[.int .i64 (e.b : Int), .int .i64 (e.i : Int)] 184)).heap.size))
    have HE2 := hid e2
    have HOld := hid hold
    have HLe8 := hid hL8
    clear hk6 hb7 hFF e2 hold hb8 hL8
    go_upto_region 16 with fail
    clear c5 hl7
    obtain ⟨T9, hT9⟩ : ∃ T9, T9 = wr.heap.size := ⟨_, rfl⟩
    have hT9' : w6.heap.size = T9 := hs6.trans hT9.symm
    obtain ⟨W8, hW8⟩ : ∃ W8, W8 = (w6.alloc (.cells #[.int .i64 (e.b : Int), .int .i64 (e.i : Int)] 184)).alloc (.cells #[.int .i64 (b2 : Int), .int .i64 (i2 : Int)] 184) := ⟨_, rfl⟩
    have HL8 := hid (show W8.rangeLeft f2.NO r < wr.rangeLeft f2.NO r by rw [hW8, HLe8.out]; exact HL7.out)
    rw [World.size_alloc] at HO8 HOn
    rw [← hW8] at HPr8 HT8 HR8 HO8 ⊢
    rw [hT9'] at HT8 HT9n HO8 HOn
    rw [← hT9] at ⊢
    clear hW8 hT9 hT9' HLe8 HL7
    have HUs := hid HPr8.out.ft.hS.uq
    cases old
    ·have hno : getE f3.se e.t.p = none := by have := HOld.out; cases hg : getE f3.se e.t.p with | none => rfl | some e => rw [hg] at this; cases this
     obtain ⟨f3b, hf3b⟩ : ∃ f3b, f3b = f3 := ⟨_, rfl⟩
     have HFin := hid (show ∀ f4 : Fm, f4.g = f3b.g → f4.se = putE f3b.se e → f4.go = delE f3b.go e.t.p → f4 = { f3b with g := f4.g, se := f4.se, go := f4.go } → Sl1 NB m f2 f4 (d ++ [e]) from fun f4 h1 h2 h3 h4 => by
      subst hf3b
      refine HSl.out.fin HUn.out HUs.out he.out.1 he.out.2 (fun rest' q1 q2 => ?_) (by rw [h1]; exact HSl.out.fr) h2 h3 h4 (by rw [h1]) (by rw [h1]) (by rw [h1]) (by rw [h1])
      rw [h1, putE_new fun x hx => getE_none hno x hx, List.append_assoc]
      exact q2.le (by omega))
     have HSE := hid (show f3b.SE = f2.SE by rw [hf3b, HE3.out])
     have HGO := hid (show f3b.GO = f2.GO by rw [hf3b, HE3.out])
     have HF3b := hid (show f3b.F = f.F by rw [hf3b]; exact HFF.out)
     have HPr10 : Hid (Pr NB B R w R2 W8 f3b) := by rw [hf3b]; exact HPr8
     have HR10 := HR8
     have HL10 := HL8
     have HT9 := HT8
     clear hf3b hno HPr8 HR8 HL8 HT8
     obtain ⟨W10, hW10⟩ : ∃ W10, W10 = W8 := ⟨_, rfl⟩
     subst hW10
     have hpn := (HPr10.out.ft.on (below_drew W10)).putS e HKe.out
     obtain ⟨o11, hrun, hm11, hk11⟩ := hpn
     have hrun : (Instr.mapUpdate 135 (.map (some f3b.SE)) (.int .u32 (e.t.p : Int)) (.agg #[.int .i64 (e.b : Int), .int .i64 (e.i : Int)])).run Tryz.prog W10.drew = .ok () (setBlock W10.drew f3b.SE o11) := hrun
     have hne1 : f3b.SE ≠ f2.NO := by rw [HSE.out]; exact HPr3.out.ft.dis.1
     have hne2 : f3b.SE ≠ r := fun h1 => HRn.out (h1 ▸ by have := HPr10.out.ft; obtain ⟨S, _, h2, _⟩ := this; exact h2 _ (.inl (.inr (.inl rfl))))
     have hr11 := (HR10.out.on (below_drew W10)).put ((HPr10.out.ft.on (below_drew W10)).hS) hne1 hne2 o11
     have HR11 := hid hr11.1
     have HL11 := hid (show (setBlock W10.drew f3b.SE o11).rangeLeft f2.NO r < wr.rangeLeft f2.NO r by rw [hr11.2]; exact HL10.out)
     have HPr11 := hid ((HPr10.out.on (below_drew W10)).same hm11 hk11)
     have hS10 : W10.drew.cell? ⟨f.F, 5, none⟩ = some (.map (some f3b.SE)) ∧ W10.drew.cell? ⟨T9, 0, none⟩ = some (.int .i64 (e.b : Int)) ∧ W10.drew.cell? ⟨T9, 1, none⟩ = some (.int .i64 (e.i : Int)) := by
      refine ⟨by rw [← HF3b.out]; exact (HPr10.out.ft.on (below_drew W10)).c5, HT9.out.drew.cellv (i := 0) rfl, HT9.out.drew.cellv (i := 1) rfl⟩
     have hS11 : (setBlock W10.drew f3b.SE o11).cell? ⟨f.F, 5, none⟩ = some (.map (some f3b.SE)) ∧ (setBlock W10.drew f3b.SE o11).cell? ⟨T9, 0, none⟩ = some (.int .i64 (e.b : Int)) ∧ (setBlock W10.drew f3b.SE o11).cell? ⟨T9, 1, none⟩ = some (.int .i64 (e.i : Int)) := by
      have hT := HT9.out.drew.kq hk11 HT9n.out
      exact ⟨by rw [← HF3b.out]; exact hm11.c5, hT.cellv (i := 0) rfl, hT.cellv (i := 1) rfl⟩
     have HS10 := hid hS10
     have HS11 := hid hS11
     clear hm11 hk11 hS10 hS11 hr11 hne1 hne2
     go_upto_region 18 with fail
     refine wp_region_noPanic ?_
     refine wp_region_held_drew (S := (fun W' => W'.cell? ⟨f.F, 5, none⟩ = some (.map (some f3b.SE)) ∧ W'.cell? ⟨T9, 0, none⟩ = some (.int .i64 (e.b : Int)) ∧ W'.cell? ⟨T9, 1, none⟩ = some (.int .i64 (e.i : Int)))) (by kernel_rfl) HS10.out (fun hS0 => ?_)
     refine tk 0 ((.pointer (some ⟨f.F, 0, none⟩))) rfl (fun _ _ => rfl) ?_
     try simp only [layR]
     refine tk 1 ((.pointer (some ⟨f.F, 0, none⟩))) rfl (fun _ _ => rfl) ?_
     try simp only [layR]
     refine tk 2 ((.pointer (some ⟨f.F, 5, none⟩))) rfl (fun W hSw => ?_) ?_
     ·skip
      go_simp
     try simp only [layR]
     refine tk 3 ((.map (some f3b.SE))) rfl (fun W hSw => ?_) ?_
     ·obtain ⟨y7, y8, y9⟩ := hSw
      go_simp
     try simp only [layR]
     refine tk 4 ((.int .u32 (e.t.p : Int))) rfl (fun _ _ => rfl) ?_
     try simp only [layR]
     refine tk 5 ((.agg #[.int .i64 (e.b : Int), .int .i64 (e.i : Int)])) rfl (fun W hSw => ?_) ?_
     ·obtain ⟨y7, y8, y9⟩ := hSw
      go_simp
     try simp only [layR]
     refine rd 6 rfl (fun K' hK => ?_)
     go_simp
     refine hK.out _ _ HS11.out (fun hS12 => ?_)
     refine wpAnyH_done (by kernel_rfl) ?_ _
     refine NoPanic.normal ?_
     clear hrun hS0 hS12 HS10 HS11
     obtain ⟨W11, hW11⟩ : ∃ W11, W11 = setBlock W10.drew f3b.SE o11 := ⟨_, rfl⟩
     rw [← hW11] at HPr11 HR11 HL11 ⊢
     clear hW11
     have c7 := HPr11.out.ft.c7
     have c7 : W11.cell? ⟨f3b.F, 7, none⟩ = some (.map (some f3b.GO)) := c7
     rw [HF3b.out] at c7
     obtain ⟨o12, hrun12, hm12, hk12⟩ := HPr11.out.ft.delG HKe.out 0
     have hrun12 : ∀ ty, (Builtin.delete_ #[135, 100] ty #[.map (some f3b.GO), .int .u32 (e.t.p : Int)]).run Tryz.prog W11 = .ok (.tuple #[]) (setBlock W11 f3b.GO o12) := fun ty => hrun12
     have hne1 : f3b.GO ≠ f2.NO := by rw [HGO.out]; exact Ne.symm HPr3.out.ft.dis.2.2
     have hne2 : f3b.GO ≠ r := fun h1 => HRn.out (h1 ▸ by have := HPr10.out.ft; obtain ⟨S, _, h2, _⟩ := this; exact h2 _ (.inl (.inr (.inr (.inr (.inl rfl))))))
     have hr12 := HR11.out.put HPr11.out.ft.hG hne1 hne2 o12
     have HR12 := hid hr12.1
     have HL12 := hid (show (setBlock W11 f3b.GO o12).rangeLeft f2.NO r < wr.rangeLeft f2.NO r by rw [hr12.2]; exact HL11.out)
     have HPr12 := hid (HPr11.out.same hm12 hk12)
     have HSL12 := hid (HFin.out { f3b with se := putE f3b.se e, go := delE f3b.go e.t.p } rfl rfl rfl rfl)
     clear hm12 hk12 hr12 hne1 hne2
     go_wp2_with fail
     go_roundw
     case rel => exact ⟨_, _, HR12.out, HPr12.out, HSL12.out⟩
     case measure => exact HL12.out

    ·obtain ⟨e0, hno⟩ : ∃ e0, getE f3.se e.t.p = some e0 := by have := HOld.out; cases hg : getE f3.se e.t.p with | none => rw [hg] at this; cases this | some e => exact ⟨e, rfl⟩
     obtain ⟨he0, hep⟩ := getE_mem hno
     have hb20 : b2 = e0.b := by
      have := HE2.out
      rw [hno] at this
      have h9 : plV e0.b e0.i = .agg #[.int .i64 (b2 : Int), .int .i64 (i2 : Int)] := this
      unfold plV at h9
      simp only [Value.agg.injEq, Array.mk.injEq, List.cons.injEq, Value.int.injEq, true_and, and_true] at h9
      omega
     have HDl := hid (show ∀ rest', Fi NB (m + d.length) [] f3.g (f3.se ++ e :: rest') → Fi NB (m + d.length) (b2 :: []) f3.g (putE f3.se e ++ rest') from fun rest' q => by rw [hb20]; exact q.del (putE_move HUs.out he0 hep))
     obtain ⟨_, _, rest0, _, q0⟩ := HSl.out.not HUn.out he.out.1 he.out.2
     have HFd := hid (HDl.out rest0 q0)
     have HDr := hid (fDrop2_calls (HPr8.out.ft.on (below_drew W8)) HFd.out)
     have hS0a : W8.drew.cell? ⟨f.F, 1, none⟩ = some (.pointer (some ⟨f3.g.M, 0, none⟩)) ∧ W8.drew.cell? ⟨T9 + 1, 0, none⟩ = some (.int .i64 (b2 : Int)) := ⟨by rw [← HFF.out]; exact (HPr8.out.ft.on (below_drew W8)).c1, HO8.out.drew.cellv (i := 0) rfl⟩
     have HS0a := hid hS0a
     have HML := hid (show f2.NO ≠ f3.g.ML ∧ r ≠ f3.g.ML from ⟨by have h1 := HPr8.out.ft.neML.1; rw [show f3.NO = f2.NO by rw [HE3.out]] at h1; exact h1, fun h1 => HRn.out (h1 ▸ by have := HPr8.out.ft; obtain ⟨S, _, h2, _⟩ := this; exact h2 _ (.inr (.inr (.inl rfl))))⟩)
     clear hno he0 hep hb20 q0 hS0a
     go_upto_region 17 with fail
     refine wp_region_noPanic ?_
     refine wp_region_held_drew (S := (fun W' => W'.cell? ⟨f.F, 1, none⟩ = some (.pointer (some ⟨f3.g.M, 0, none⟩)) ∧ W'.cell? ⟨T9 + 1, 0, none⟩ = some (.int .i64 (b2 : Int)))) (by kernel_rfl) HS0a.out (fun hS0 => ?_)
     refine tk 0 ((.pointer (some ⟨f.F, 0, none⟩))) rfl (fun _ _ => rfl) ?_
     try simp only [layR]
     refine tk 1 ((.pointer (some ⟨f.F, 0, none⟩))) rfl (fun _ _ => rfl) ?_
     try simp only [layR]
     refine tk 2 ((.pointer (some ⟨f.F, 1, none⟩))) rfl (fun W hSw => ?_) ?_
     ·skip
      go_simp
     try simp only [layR]
     refine tk 3 ((.pointer (some ⟨f3.g.M, 0, none⟩))) rfl (fun W hSw => ?_) ?_
     ·obtain ⟨y8, y9⟩ := hSw
      go_simp
     try simp only [layR]
     refine tk 4 ((.pointer (some ⟨T9 + 1, 0, none⟩))) rfl (fun W hSw => ?_) ?_
     ·skip
      go_simp
     try simp only [layR]
     refine tk 5 ((.int .i64 (b2 : Int))) rfl (fun W hSw => ?_) ?_
     ·obtain ⟨y8, y9⟩ := hSw
      go_simp
     try simp only [layR]
     refine rd 6 rfl (fun K' hK => ?_)
     go_simp
     refine HDr.out.mono ?_
     rintro e9 W10 ⟨rfl, hm10, hk10, hl10⟩
     obtain ⟨f3b, hf3b⟩ : ∃ f3b, f3b = ({ f3 with g := { f3.g with l := f3.g.l.set b2 (dropB (Gc.at_ f3.g.l b2)) } } : Fm) := ⟨_, rfl⟩
     have hS1 : W10.cell? ⟨f.F, 1, none⟩ = some (.pointer (some ⟨f3.g.M, 0, none⟩)) ∧ W10.cell? ⟨T9 + 1, 0, none⟩ = some (.int .i64 (b2 : Int)) := by
      refine ⟨?_, (HO8.out.drew.kq hk10 HOn.out).cellv (i := 0) rfl⟩
      have h9 := hm10.c1
      have h9 : W10.cell? ⟨f3.F, 1, none⟩ = some (.pointer (some ⟨f3.g.M, 0, none⟩)) := h9
      rw [HFF.out] at h9
      exact h9
     have HFin := hid (show ∀ f4 : Fm, f4.g = f3b.g → f4.se = putE f3b.se e → f4.go = delE f3b.go e.t.p → f4 = { f3b with g := f4.g, se := f4.se, go := f4.go } → Sl1 NB m f2 f4 (d ++ [e]) from fun f4 h1 h2 h3 h4 => by
      subst hf3b
      refine HSl.out.fin HUn.out HUs.out he.out.1 he.out.2 (fun rest' q1 q2 => ?_) ?_ h2 h3 h4 (by rw [h1]) (by rw [h1]) (by rw [h1]) (by rw [h1])
      ·rw [h1]
       exact (HDl.out rest' q2).drop
      ·rw [h1]
       show 3 ≤ Gc.count 0 (f3.g.l.set b2 (dropB (Gc.at_ f3.g.l b2)))
       rw [count_dropB (HFd.out.lenl (by simp)) HFd.out.notFree]
       exact HSl.out.fr)
     have HSE := hid (show f3b.SE = f2.SE by rw [hf3b, HE3.out])
     have HGO := hid (show f3b.GO = f2.GO by rw [hf3b, HE3.out])
     have HF3b := hid (show f3b.F = f.F by rw [hf3b]; exact HFF.out)
     have HPr10 : Hid (Pr NB B R w R2 W10 f3b) := by rw [hf3b]; exact (HPr8.out.on (below_drew W8)).same hm10 hk10
     have hr10 := (HR8.out.on (below_drew W8)).kq hl10 HML.out.1 HML.out.2
     have HR10 := hid hr10.1
     have HL10 := hid (show W10.rangeLeft f2.NO r < wr.rangeLeft f2.NO r by rw [hr10.2]; exact HL8.out)
     have HT9 := hid (HT8.out.drew.kq hk10 HT9n.out)
     clear hm10 hk10 hl10 hf3b hr10
     refine hK.out _ _ hS1 (fun hS2 => ?_)
     refine wpAnyH_done (by kernel_rfl) ?_ _
     refine NoPanic.normal ?_
     clear hS0 hS1 hS2 HS0a HDr HPr8 HR8 HL8 HT8
     have hpn := (HPr10.out.ft.on (below_drew W10)).putS e HKe.out
     obtain ⟨o11, hrun, hm11, hk11⟩ := hpn
     have hrun : (Instr.mapUpdate 135 (.map (some f3b.SE)) (.int .u32 (e.t.p : Int)) (.agg #[.int .i64 (e.b : Int), .int .i64 (e.i : Int)])).run Tryz.prog W10.drew = .ok () (setBlock W10.drew f3b.SE o11) := hrun
     have hne1 : f3b.SE ≠ f2.NO := by rw [HSE.out]; exact HPr3.out.ft.dis.1
     have hne2 : f3b.SE ≠ r := fun h1 => HRn.out (h1 ▸ by have := HPr10.out.ft; obtain ⟨S, _, h2, _⟩ := this; exact h2 _ (.inl (.inr (.inl rfl))))
     have hr11 := (HR10.out.on (below_drew W10)).put ((HPr10.out.ft.on (below_drew W10)).hS) hne1 hne2 o11
     have HR11 := hid hr11.1
     have HL11 := hid (show (setBlock W10.drew f3b.SE o11).rangeLeft f2.NO r < wr.rangeLeft f2.NO r by rw [hr11.2]; exact HL10.out)
     have HPr11 := hid ((HPr10.out.on (below_drew W10)).same hm11 hk11)
     have hS10 : W10.drew.cell? ⟨f.F, 5, none⟩ = some (.map (some f3b.SE)) ∧ W10.drew.cell? ⟨T9, 0, none⟩ = some (.int .i64 (e.b : Int)) ∧ W10.drew.cell? ⟨T9, 1, none⟩ = some (.int .i64 (e.i : Int)) := by
      refine ⟨by rw [← HF3b.out]; exact (HPr10.out.ft.on (below_drew W10)).c5, HT9.out.drew.cellv (i := 0) rfl, HT9.out.drew.cellv (i := 1) rfl⟩
     have hS11 : (setBlock W10.drew f3b.SE o11).cell? ⟨f.F, 5, none⟩ = some (.map (some f3b.SE)) ∧ (setBlock W10.drew f3b.SE o11).cell? ⟨T9, 0, none⟩ = some (.int .i64 (e.b : Int)) ∧ (setBlock W10.drew f3b.SE o11).cell? ⟨T9, 1, none⟩ = some (.int .i64 (e.i : Int)) := by
      have hT := HT9.out.drew.kq hk11 HT9n.out
      exact ⟨by rw [← HF3b.out]; exact hm11.c5, hT.cellv (i := 0) rfl, hT.cellv (i := 1) rfl⟩
     have HS10 := hid hS10
     have HS11 := hid hS11
     clear hm11 hk11 hS10 hS11 hr11 hne1 hne2
     go_upto_region 18 with fail
     refine wp_region_noPanic ?_
     refine wp_region_held_drew (S := (fun W' => W'.cell? ⟨f.F, 5, none⟩ = some (.map (some f3b.SE)) ∧ W'.cell? ⟨T9, 0, none⟩ = some (.int .i64 (e.b : Int)) ∧ W'.cell? ⟨T9, 1, none⟩ = some (.int .i64 (e.i : Int)))) (by kernel_rfl) HS10.out (fun hS0 => ?_)
     refine tk 0 ((.pointer (some ⟨f.F, 0, none⟩))) rfl (fun _ _ => rfl) ?_
     try simp only [layR]
     refine tk 1 ((.pointer (some ⟨f.F, 0, none⟩))) rfl (fun _ _ => rfl) ?_
     try simp only [layR]
     refine tk 2 ((.pointer (some ⟨f.F, 5, none⟩))) rfl (fun W hSw => ?_) ?_
     ·skip
      go_simp
     try simp only [layR]
     refine tk 3 ((.map (some f3b.SE))) rfl (fun W hSw => ?_) ?_
     ·obtain ⟨y7, y8, y9⟩ := hSw
      go_simp
     try simp only [layR]
     refine tk 4 ((.int .u32 (e.t.p : Int))) rfl (fun _ _ => rfl) ?_
     try simp only [layR]
     refine tk 5 ((.agg #[.int .i64 (e.b : Int), .int .i64 (e.i : Int)])) rfl (fun W hSw => ?_) ?_
     ·obtain ⟨y7, y8, y9⟩ := hSw
      go_simp
     try simp only [layR]
     refine rd 6 rfl (fun K' hK => ?_)
     go_simp
     refine hK.out _ _ HS11.out (fun hS12 => ?_)
     refine wpAnyH_done (by kernel_rfl) ?_ _
     refine NoPanic.normal ?_
     clear hrun hS0 hS12 HS10 HS11
     obtain ⟨W11, hW11⟩ : ∃ W11, W11 = setBlock W10.drew f3b.SE o11 := ⟨_, rfl⟩
     rw [← hW11] at HPr11 HR11 HL11 ⊢
     clear hW11
     have c7 := HPr11.out.ft.c7
     have c7 : W11.cell? ⟨f3b.F, 7, none⟩ = some (.map (some f3b.GO)) := c7
     rw [HF3b.out] at c7
     obtain ⟨o12, hrun12, hm12, hk12⟩ := HPr11.out.ft.delG HKe.out 0
     have hrun12 : ∀ ty, (Builtin.delete_ #[135, 100] ty #[.map (some f3b.GO), .int .u32 (e.t.p : Int)]).run Tryz.prog W11 = .ok (.tuple #[]) (setBlock W11 f3b.GO o12) := fun ty => hrun12
     have hne1 : f3b.GO ≠ f2.NO := by rw [HGO.out]; exact Ne.symm HPr3.out.ft.dis.2.2
     have hne2 : f3b.GO ≠ r := fun h1 => HRn.out (h1 ▸ by have := HPr10.out.ft; obtain ⟨S, _, h2, _⟩ := this; exact h2 _ (.inl (.inr (.inr (.inr (.inl rfl))))))
     have hr12 := HR11.out.put HPr11.out.ft.hG hne1 hne2 o12
     have HR12 := hid hr12.1
     have HL12 := hid (show (setBlock W11 f3b.GO o12).rangeLeft f2.NO r < wr.rangeLeft f2.NO r by rw [hr12.2]; exact HL11.out)
     have HPr12 := hid (HPr11.out.same hm12 hk12)
     have HSL12 := hid (HFin.out { f3b with se := putE f3b.se e, go := delE f3b.go e.t.p } rfl rfl rfl rfl)
     clear hm12 hk12 hr12 hne1 hne2
     go_wp2_with fail
     go_roundw
     case rel => exact ⟨_, _, HR12.out, HPr12.out, HSL12.out⟩
     case measure => exact HL12.out
end
end Go.Proofs.YtcppkaphlcflgaaGreat
