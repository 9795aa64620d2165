/-
  A seal's payload.
-/
/-
  The law's page.
-/
import Derived.Test.YtiipnpfaaghekaaGreatFtlWr
import Derived.Test.YtiipnpfaaghekaaGreatBytes
import Derived.Test.YtiipnpfaaghekaaGreatFtlSld
import Derived.Test.YtiipnpfaaghekaaGreatFtlNew
import Derived.Deep.DeepCutAuto
import Derived.Test.YtiipnpfaaghekaaGreatFtlFmt0
import Derived.Test.YtiipnpfaaghekaaGreatFtlBad
import Derived.Test.YtiipnpfaaghekaaGreatTopAwake
import Derived.Test.YtiipnpfaaghekaaGreatSlCopy0
import Derived.Test.YtiipnpfaaghekaaGreatChMem
import Derived.Test.YtiipnpfaaghekaaGreatNandRight
/-
  A chip is formatted.
-/
/-
  All that is there now is sealed.
-/
namespace Go.Proofs.YtiipnpfaaghekaaGreat
open Go.RowKit Ftl

theorem mk8of64 (u : World) : (Instr.makeSlice 22 (.int .i64 8) (.int .i64 64)).run Tryz.prog u = .ok (.slice (some ⟨u.heap.size, 0, none⟩) 8 64) (u.alloc (.cells (Array.replicate 64 (.int .u8 0)) 5)) := by kernel_rfl
theorem Own.cutTo {α : Type} {f : α → Value} {e : TypeId} {w : World} {base : Nat} {a : Option Addr} {n c : Nat} {xs : List α} (h : Own f e w base (.slice a n c) xs) {k : Nat} (hk : k ≤ n) : Own f e w base (.slice a k c) (xs.take k) := by
  refine ⟨by simp, ?_⟩
  rcases h.2 with ⟨hv, hn⟩ | ⟨g, cap, cur, hv, hgb, hg, hc, hm, hs, ht⟩
  · injection hv with h1 h2 h3
    subst h1 h2 h3
    obtain rfl : k = 0 := by omega
    exact .inl ⟨rfl, by simp⟩
  · injection hv with h1 h2 h3
    subst h1 h2 h3
    have hl : (xs.take k).length = k := by rw [List.length_take]; omega
    refine .inr ⟨g, c, cur, by rw [hl], hgb, hg, by rw [hl]; omega, hm, hs, ?_⟩
    rw [hl, List.map_take, ← ht, List.take_take]
    congr 1
    omega
set_option maxHeartbeats 4000000 in
theorem head_calls (a : Option Addr) (c : Nat) (tx : List UInt8) (w : World) (hx : Bytes w w.heap.size a 56 tx) :
    Calls Tryz.prog 27 #[.int .i64 2, .int .i64 0, .slice a 56 c] w fun e w' => (∃ a' c', e = .returned (.slice a' 64 c') ∧ Own byteV 5 w' w.heap.size (.slice a' 64 c') ([2, 0, 0, 0, 0, 0, 0, 0] ++ tx)) ∧ Below w.heap.size w w' := by
  have hmk := mk8of64
  have hl := hx.len
  have ho := (ownMadeZ w w.heap.size 64 (Nat.le_refl _) (by omega)).cutTo (k := 8) (by omega)
  have hb := (Below.refl w.heap.size w).alloc (Nat.le_refl _) (.cells (Array.replicate 64 (.int .u8 0)) 5)
  have HX := Lib.hid (hx.on hb)
  have ho : Own byteV 5 (w.alloc (.cells (Array.replicate 64 (.int .u8 0)) 5)) w.heap.size (.slice (some ⟨w.heap.size, 0, none⟩) 8 64) [0, 0, 0, 0, 0, 0, 0, 0] := ho
  generalize hw1 : w.alloc (.cells (Array.replicate 64 (.int .u8 0)) 5) = w1 at *
  obtain ⟨c0, f0⟩ := ho.cellg (k := 0) (by simp)
  have h0 := ho.set 0 2
  obtain ⟨c1, f1⟩ := h0.cellg (k := 1) (by simp)
  have h1 := h0.set 1 0
  obtain ⟨c2, f2⟩ := h1.cellg (k := 2) (by simp)
  have h2 := h1.set 2 0
  obtain ⟨c3, f3⟩ := h2.cellg (k := 3) (by simp)
  have h3 := h2.set 3 0
  have h3 : Own byteV 5 ((((w1.setCell ⟨w.heap.size, 0, none⟩ (.int .u8 2)).setCell ⟨w.heap.size, 1, none⟩ (.int .u8 0)).setCell ⟨w.heap.size, 2, none⟩ (.int .u8 0)).setCell ⟨w.heap.size, 3, none⟩ (.int .u8 0)) w.heap.size (.slice (some ⟨w.heap.size, 0, none⟩) 8 64) [2, 0, 0, 0, 0, 0, 0, 0] := h3
  have hb3 := (((hb.setCell (p := ⟨w.heap.size, 0, none⟩) (Nat.le_refl _) (.int .u8 2)).setCell (p := ⟨w.heap.size, 1, none⟩) (Nat.le_refl _) (.int .u8 0)).setCell (p := ⟨w.heap.size, 2, none⟩) (Nat.le_refl _) (.int .u8 0)).setCell (p := ⟨w.heap.size, 3, none⟩) (Nat.le_refl _) (.int .u8 0)
  have HO := Lib.hid h3
  have HB := Lib.hid hb3
  have HX3 := Lib.hid (hx.on hb3)
  have c0 : w1.cell? ⟨w.heap.size, 0, none⟩ = some (.int .u8 0) := c0
  have c1 : (w1.setCell ⟨w.heap.size, 0, none⟩ (.int .u8 2)).cell? ⟨w.heap.size, 1, none⟩ = some (.int .u8 0) := c1
  have f1 : (w1.setCell ⟨w.heap.size, 0, none⟩ (.int .u8 2)).frozen? ⟨w.heap.size, 1, none⟩ = false := f1
  have c2 : ((w1.setCell ⟨w.heap.size, 0, none⟩ (.int .u8 2)).setCell ⟨w.heap.size, 1, none⟩ (.int .u8 0)).cell? ⟨w.heap.size, 2, none⟩ = some (.int .u8 0) := c2
  have f2 : ((w1.setCell ⟨w.heap.size, 0, none⟩ (.int .u8 2)).setCell ⟨w.heap.size, 1, none⟩ (.int .u8 0)).frozen? ⟨w.heap.size, 2, none⟩ = false := f2
  have c3 : (((w1.setCell ⟨w.heap.size, 0, none⟩ (.int .u8 2)).setCell ⟨w.heap.size, 1, none⟩ (.int .u8 0)).setCell ⟨w.heap.size, 2, none⟩ (.int .u8 0)).cell? ⟨w.heap.size, 3, none⟩ = some (.int .u8 0) := c3
  have f3 : (((w1.setCell ⟨w.heap.size, 0, none⟩ (.int .u8 2)).setCell ⟨w.heap.size, 1, none⟩ (.int .u8 0)).setCell ⟨w.heap.size, 2, none⟩ (.int .u8 0)).frozen? ⟨w.heap.size, 3, none⟩ = false := f3
  clear hx hl ho hb h0 h1 h2 h3 hb3 HX
  go_enter Tryz.func27, Tryz.ntmps27
  go_upto_region 2 with fail
  clear hw1
  go_upto_region 3 with fail
  clear c0 c1 c2 c3 f0 f1 f2 f3
  go_wp2_with (at_builtin; refine wpList_ontoB rfl _ _ rfl w.heap.size _ [2, 0, 0, 0, 0, 0, 0, 0] rfl HO.out _ a 56 c tx rfl HX3.out (by simp) (by have := HB.out.size; exact this) ?_; intro v4 w4 HO4 HB4)
  go_ret
  obtain ⟨a4, c4, rfl, _⟩ := HO4.out.formN (n := 64) (by rw [List.length_append, HX3.out.len]; rfl)
  exact ⟨⟨a4, c4, rfl, HO4.out⟩, HB.out.trans HB4.out⟩
end Go.Proofs.YtiipnpfaaghekaaGreat
namespace Go.Proofs.YtiipnpfaaghekaaGreat
open Go.RowKit Ftl Go.ChangeMaps Go.Maps

section
variable {NB B n : Nat} {R : Nat → Prop} {w : World} {f : Fm}
theorem RngE.put {w : World} {b r c : Nat} {l d l' : List En} (h : RngE w b r l d) (hm : MapE w c l') (h1 : c ≠ b) (h2 : c ≠ r) (o : Obj) : RngE (setBlock w c o) b r l d ∧ (setBlock w c o).rangeLeft b r = w.rangeLeft b r := by
  have hg := setBlock_grown hm o
  have q1 := hg.block b h.ltb fun e => h1 (Option.some.inj e).symm
  have q2 := hg.block r h.ltr fun e => h2 (Option.some.inj e).symm
  exact ⟨h.same q1 q2, left_same q1 q2⟩
theorem FtM.hiT (h : FtM NB B R w f) {q : Nat} (hq : f.tv.ownBlock = some q) : q < w.heap.size := by
  obtain ⟨S, a1, _⟩ := h
  exact a1.hi (.inr (.inr (.inr (.inr (.inr hq)))))
theorem RngE.kq {T : Nat → Prop} {w w' : World} {b r : Nat} {l d : List En} (h : RngE w b r l d) (hk : Kq T w w') (h1 : ¬ T b) (h2 : ¬ T r) : RngE w' b r l d ∧ w'.rangeLeft b r = w.rangeLeft b r := by
  have q1 := hk.block b h.ltb h1
  have q2 := hk.block r h.ltr h2
  exact ⟨h.same q1 q2, left_same q1 q2⟩
/-- What the seal's page leaves. -/
def SOut (NB B : Nat) (R : Nat → Prop) (w : World) (f : Fm) (tx : List UInt8) (W : World) (Z : Nat) : Prop :=
  ∃ (k i : Nat) (f1 : Fm) (g' : Mg) (R2 : Nat → Prop), Pr NB B R w R2 W { f1 with g := g', seq := f.seq + 1 } ∧ Same f f1 ∧ Pgd NB f1.g g' k i (Tg.page (sealT f) (headL tx)) ∧ Fi NB (100000 * f.seq + 17 * (NB + 1) + 1) [k] g' (f1.se ++ f1.no) ∧ 3 ≤ Gc.count 0 g'.l ∧ Blk W Z 52 #[.int .i64 (k : Int), .int .i64 (i : Int)] ∧ ¬ R2 Z ∧ w.heap.size ≤ Z
/-- The state of the first loop. -/
def SL (NB B : Nat) (R : Nat → Prop) (w : World) (R2 : Nat → Prop) (m r : Nat) (f2 : Fm) (W : World) : Prop := ∃ d f3, RngE W f2.NO r f2.no d ∧ Pr NB B R w R2 W f3 ∧ Sl1 NB m f2 f3 d
/-- The state of the second loop. -/
def SM (NB B : Nat) (R : Nat → Prop) (w : World) (R2 : Nat → Prop) (m r : Nat) (f3 : Fm) (W : World) : Prop := ∃ d f4, RngE W f3.GO r f3.go d ∧ Pr NB B R w R2 W f4 ∧ Sl2 NB m f3 f4 d
set_option maxRecDepth 100000 in
set_option maxHeartbeats 16000000 in
theorem fSeal_calls (h : FtM NB B R w f) (hc : Fc NB f) (hsq : f.seq ≤ 1000000) (a : Option Addr) (c : Nat) (tx : List UInt8) (hgh : f.g.gh (Tg.page (sealT f) (headL tx))) (hx : Bytes w w.heap.size a 56 tx) (hap : ∀ b o, a = some ⟨b, o, none⟩ → ¬ R b) (hcp : (getE f.se 0).isSome = true ∨ (f.se ++ f.no).length + 3 ≤ 8 * (NB - 3)) :
    Calls Tryz.prog 8 #[.pointer (some ⟨f.F, 0, none⟩), .slice a 56 c] w fun e w' => e = .returned (.int .i64 0) ∧ ∃ f', FtR NB B R w w' f' ∧ Sld NB f f' tx := by
  have HB0 := h.base
  have hnb := hc.fi.nb
  have HRy := Lib.hid (fready_calls h)
  have HSz := Lib.hid (fsize_calls h)
  have HH := Lib.hid h
  have HC := Lib.hid hc
  have HX := Lib.hid hx
  have HAp := Lib.hid hap
  have HSq := Lib.hid hsq
  have HCp := Lib.hid hcp
  have HAb := Lib.hid (show ∀ b o, a = some ⟨b, o, none⟩ → b < w.heap.size from fun b o e => by obtain ⟨b', o', e', hlt, _⟩ := hx.2.2 (by omega); rw [e] at e'; injection e' with e'; injection e' with e'; omega)
  have hcs := placeCells
  have HGh := Lib.hid hgh
  clear hgh h hc hx hap hsq hcp
  go_enter Tryz.func8, Tryz.ntmps8
  go_wp2_with fail
  refine (HRy.out).mono ?_
  rintro e w_ ⟨rfl, rfl⟩
  go_wp2_with fail
  refine HSz.out.mono ?_
  rintro e w1 ⟨rfl, hb1⟩
  have H1 := Lib.hid (HH.out.on hb1)
  have HB1 := Lib.hid hb1
  clear hb1
  go_wp2_with fail
  refine (fReadOnly_calls H1.out HC.out.fi HC.out.ov).mono ?_
  rintro e w2 ⟨rfl, hb2⟩
  have HB2 := Lib.hid (HB1.out.then_ hb2)
  have H2 := Lib.hid (H1.out.on hb2)
  clear hb2
  go_upto_region 8 with fail
  have hLt := Lib.hid hnb
  have HRes := Lib.hid HC.out.fi.res
  have HBad := Lib.hid HC.out.fi.bad
  go_cut [6, 7] (fun v6 v7 wx => v7 = .int .i64 0 ∧ ∃ Z, v6 = .pointer (some ⟨Z, 0, none⟩) ∧ Hid (SOut NB B R w f tx wx Z))
  case first =>
    have HHd := Lib.hid (fun (W : World) (hW : Below w.heap.size w W) => head_calls a c tx W (HX.out.on hW))
    have HPt := Lib.hid (fun (W : World) (hW : Below w.heap.size w W) (a4 : Option Addr) (c4 : Nat) (h4 : Bytes W W.heap.size a4 64 (headL tx)) (h5 : ∀ b o, a4 = some ⟨b, o, none⟩ → ¬ R b) => show Calls Tryz.prog 24 #[.pointer (some ⟨f.F, 0, none⟩), .agg #[.int .i64 2, .int .u32 0, .int .u64 0, .int .u64 0], .slice a4 64 c4] W (Ptd NB B R (100000 * f.seq) f (sealT f) (headL tx) W) from
      fput_calls (HH.out.on hW) HC.out.fi HC.out.fr HC.out.cap (by have := HSq.out; omega) 2 0 (.inr rfl) (by omega) ⟨by have := HC.out.sq; omega, by have := HSq.out; omega⟩ ⟨by have := HC.out.sq; omega, by have := HC.out.sq; have := HSq.out; omega⟩ a4 c4 (headL tx) HGh.out h4 h5)
    have hS0 : w2.drew.cell? ⟨f.F, 2, none⟩ = some (.int .i64 2) ∧ w2.drew.cell? ⟨f.F, 3, none⟩ = some (.int .i64 0) := by
      have h1 := (H2.out.on (below_drew w2)).c2
      have h2 := (H2.out.on (below_drew w2)).c3
      rw [HRes.out] at h1
      rw [HBad.out] at h2
      exact ⟨h1, h2⟩
    have HS0 := Lib.hid hS0
    have HSb := Lib.hid (fun (W W' : World) (hW : Below W.heap.size W W') (h1 : W.cell? ⟨f.F, 2, none⟩ = some (.int .i64 2) ∧ W.cell? ⟨f.F, 3, none⟩ = some (.int .i64 0)) => (⟨cell_on h1.1 hW, cell_on h1.2 hW⟩ : W'.cell? ⟨f.F, 2, none⟩ = some (.int .i64 2) ∧ W'.cell? ⟨f.F, 3, none⟩ = some (.int .i64 0)))
    have HB3 := Lib.hid (HB2.out.then_ (below_drew w2))
    clear hS0
    refine wp_region_noPanic ?_
    refine wp_region_held_drew (S := (fun W' => W'.cell? ⟨f.F, 2, none⟩ = some (.int .i64 2) ∧ W'.cell? ⟨f.F, 3, none⟩ = some (.int .i64 0))) (by kernel_rfl) HS0.out (fun hS0 => ?_)
    generalize w2.drew = W at *
    clear HS0
    refine takeV 0 (v := (.pointer (some ⟨f.F, 0, none⟩))) rfl (by kernel_rfl) (by kernel_rfl) (by kernel_rfl) (fun _ _ _ h => h) (by rfl) (fun _ _ => rfl) (by assumption) ?_
    try simp only [layR]
    refine takeV 1 (v := (.agg #[.int .i64 2, .int .u32 0, .int .u64 0, .int .u64 0])) rfl (by kernel_rfl) (by kernel_rfl) (by kernel_rfl) (fun _ _ _ h => h) (by rfl) (fun W hSw => ?_) (by assumption) ?_
    · skip
      go_simp
    try simp only [layR]
    refine takeV 2 (v := (.pointer (some ⟨f.F, 0, none⟩))) rfl (by kernel_rfl) (by kernel_rfl) (by kernel_rfl) (fun _ _ _ h => h) (by rfl) (fun _ _ => rfl) (by assumption) ?_
    try simp only [layR]
    refine takeV 3 (v := (.pointer (some ⟨f.F, 0, none⟩))) rfl (by kernel_rfl) (by kernel_rfl) (by kernel_rfl) (fun _ _ _ h => h) (by rfl) (fun W hSw => ?_) (by assumption) ?_
    · skip
      go_simp
    try simp only [layR]
    refine takeV 4 (v := (.pointer (some ⟨f.F, 2, none⟩))) rfl (by kernel_rfl) (by kernel_rfl) (by kernel_rfl) (fun _ _ _ h => h) (by rfl) (fun W hSw => ?_) (by assumption) ?_
    · skip
      go_simp
    try simp only [layR]
    refine takeV 5 (v := (.int .i64 2)) rfl (by kernel_rfl) (by kernel_rfl) (by kernel_rfl) (fun _ _ _ h => h) (by rfl) (fun W hSw => ?_) (by assumption) ?_
    · obtain ⟨y8, y9⟩ := hSw
      go_simp
    try simp only [layR]
    refine takeV 6 (v := (.pointer (some ⟨f.F, 0, none⟩))) rfl (by kernel_rfl) (by kernel_rfl) (by kernel_rfl) (fun _ _ _ h => h) (by rfl) (fun _ _ => rfl) (by assumption) ?_
    try simp only [layR]
    refine takeV 7 (v := (.pointer (some ⟨f.F, 0, none⟩))) rfl (by kernel_rfl) (by kernel_rfl) (by kernel_rfl) (fun _ _ _ h => h) (by rfl) (fun W hSw => ?_) (by assumption) ?_
    · skip
      go_simp
    try simp only [layR]
    refine takeV 8 (v := (.pointer (some ⟨f.F, 3, none⟩))) rfl (by kernel_rfl) (by kernel_rfl) (by kernel_rfl) (fun _ _ _ h => h) (by rfl) (fun W hSw => ?_) (by assumption) ?_
    · skip
      go_simp
    try simp only [layR]
    refine takeV 9 (v := (.int .i64 0)) rfl (by kernel_rfl) (by kernel_rfl) (by kernel_rfl) (fun _ _ _ h => h) (by rfl) (fun W hSw => ?_) (by assumption) ?_
    · obtain ⟨y8, y9⟩ := hSw
      go_simp
    try simp only [layR]
    refine takeV 10 (v := (.slice a 56 c)) rfl (by kernel_rfl) (by kernel_rfl) (by kernel_rfl) (fun _ _ _ h => h) (by rfl) (fun _ _ => rfl) (by assumption) ?_
    try simp only [layR]
    refine wpAnyH_ready (rs := [11, 16]) (by kernel_rfl) (by simp) ?_
    refine AllReadyH.cons rfl (fun K' hK => ?_) (AllReadyH.cons rfl (fun K' hK => ?_) AllReadyH.nil)
    · go_simp
      refine (HHd.out W HB3.out).mono ?_
      rintro e W4 ⟨⟨a4, c4, rfl, ho4⟩, hb4⟩
      have hS1 := HSb.out W W4 hb4 hS0
      have hB4 := HB3.out.then_ hb4
      refine hK.out _ _ hS1 (fun hS2 => ?_)
      try simp only [layR]
      refine wpAnyH_ready (rs := [12, 16]) (by kernel_rfl) (by simp) ?_
      refine AllReadyH.cons rfl (fun K' hK => ?_) (AllReadyH.cons rfl (fun K' hK => ?_) AllReadyH.nil)
      · go_simp
        refine (HPt.out W4 hB4 _ _ (ho4.arr (by rw [List.length_append, HX.out.len]; simp)) fun b o e h1 => by
          have h2 := (HH.out.bnd b h1).2
          have h3 := (ho4.blockLt b (by rw [e]; rfl)).1
          have h4 := HB3.out.size
          omega).mono ?_
        rintro e W6 ⟨k, i, f1, g', rfl, h6, hsame, hpg, hfi, hfr⟩
        have hS6 : W6.cell? ⟨f.F, 2, none⟩ = some (.int .i64 2) ∧ W6.cell? ⟨f.F, 3, none⟩ = some (.int .i64 0) := by
          have q1 := h6.1.c2
          have q2 := h6.1.c3
          rw [show ({ f1 with g := g', seq := f.seq + 1 } : Fm).F = f.F from hsame.F] at q1 q2
          rw [show ({ f1 with g := g', seq := f.seq + 1 } : Fm).g.res = 2 from hfi.res] at q1
          rw [show ({ f1 with g := g', seq := f.seq + 1 } : Fm).g.bad = 0 from hfi.bad] at q2
          exact ⟨q1, q2⟩
        refine hK.out _ _ hS6 (fun hS7 => ?_)
        try simp only [layR]
        refine takeV 13 (v := (.tuple #[.agg #[.int .i64 (k : Int), .int .i64 (i : Int)], .int .i64 0])) rfl (by kernel_rfl) (by kernel_rfl) (by kernel_rfl) (fun _ _ _ h => h) (by rfl) (fun _ _ => rfl) (by assumption) ?_
        try simp only [layR]
        refine takeV 14 (v := (.agg #[.int .i64 (k : Int), .int .i64 (i : Int)])) rfl (by kernel_rfl) (by kernel_rfl) (by kernel_rfl) (fun _ _ _ h => h) (by rfl) (fun _ _ => rfl) (by assumption) ?_
        try simp only [layR]
        refine takeV 15 (v := (.int .i64 0)) rfl (by kernel_rfl) (by kernel_rfl) (by kernel_rfl) (fun _ _ _ h => h) (by rfl) (fun _ _ => rfl) (by assumption) ?_
        try simp only [layR]

        refine wpAnyH_ready (rs := [16]) (by kernel_rfl) (by simp) ?_
        refine AllReadyH.cons rfl (fun K' hK => ?_) AllReadyH.nil
        go_simp
        have hS8 := HSb.out W6 _ ((Below.refl _ _).alloc (Nat.le_refl _) (.cells #[.int .i64 0, .int .i64 0] 52)) hS6
        refine hK.out _ _ hS8 (fun hS9 => ?_)
        try simp only [layR]
        refine wpAnyH_ready (rs := [17]) (by kernel_rfl) (by simp) ?_
        refine AllReadyH.cons rfl (fun K' hK => ?_) AllReadyH.nil
        go_simp
        have hb10 := (Below.refl W6.heap.size W6).alloc (Nat.le_refl _) (.cells #[.int .i64 (k : Int), .int .i64 (i : Int)] 52)
        have hS10 := HSb.out W6 _ hb10 hS6
        have hOut : SOut NB B R w f tx (W6.alloc (.cells #[.int .i64 (k : Int), .int .i64 (i : Int)] 52)) W6.heap.size := by
          have hp := ((Pr.start HH.out).on hB4).step h6
          exact ⟨k, i, f1, g', _, hp.on hb10, hsame, hpg, hfi, hfr, Blk.new W6 _ _, hp.ft.not_new (Nat.le_refl _), Nat.le_trans hB4.size h6.2.size⟩
        refine hK.out _ _ hS10 (fun hS11 => ?_)
        refine takeV 18 (v := (.int .i64 0)) rfl (by kernel_rfl) (by kernel_rfl) (by kernel_rfl) (fun _ _ _ h => h) (by rfl) (fun _ _ => rfl) (by assumption) ?_
        try simp only [layR]
        refine wpAnyH_done (by kernel_rfl) ?_ _
        refine NoPanic.normal ?_
        have HOut := Lib.hid hOut
        clear hOut
        go_wp2_with fail
        go_meet
        case rel => exact ⟨rfl, _, rfl, HOut.out⟩
      · go_simp
        have hbz := (Below.refl W4.heap.size W4).alloc (Nat.le_refl _) (.cells #[.int .i64 0, .int .i64 0] 52)
        have hS5 := HSb.out W4 _ hbz hS1
        have hz := Blk.new W4 52 #[.int .i64 0, .int .i64 0]
        have hzn := HH.out.not_new (show w.heap.size ≤ W4.heap.size from hB4.size)
        have hB5 := hB4.then_ hbz
        have ho5 := ho4.on hbz
        refine hK.out _ _ hS5 (fun hS5b => ?_)
        try simp only [layR]
        refine wpAnyH_ready (rs := [12]) (by kernel_rfl) (by simp) ?_
        refine AllReadyH.cons rfl (fun K' hK => ?_) AllReadyH.nil
        go_simp
        refine (HPt.out _ hB5 _ _ (ho5.arr (by rw [List.length_append, HX.out.len]; simp)) fun b o e h1 => by
          have h2 := (HH.out.bnd b h1).2
          have h3 := (ho5.blockLt b (by rw [e]; rfl)).1
          have h4 := HB3.out.size
          omega).mono ?_
        rintro e W6 ⟨k, i, f1, g', rfl, h6, hsame, hpg, hfi, hfr⟩
        have hS6 : W6.cell? ⟨f.F, 2, none⟩ = some (.int .i64 2) ∧ W6.cell? ⟨f.F, 3, none⟩ = some (.int .i64 0) := by
          have q1 := h6.1.c2
          have q2 := h6.1.c3
          rw [show ({ f1 with g := g', seq := f.seq + 1 } : Fm).F = f.F from hsame.F] at q1 q2
          rw [show ({ f1 with g := g', seq := f.seq + 1 } : Fm).g.res = 2 from hfi.res] at q1
          rw [show ({ f1 with g := g', seq := f.seq + 1 } : Fm).g.bad = 0 from hfi.bad] at q2
          exact ⟨q1, q2⟩
        refine hK.out _ _ hS6 (fun hS7 => ?_)
        try simp only [layR]
        refine takeV 13 (v := (.tuple #[.agg #[.int .i64 (k : Int), .int .i64 (i : Int)], .int .i64 0])) rfl (by kernel_rfl) (by kernel_rfl) (by kernel_rfl) (fun _ _ _ h => h) (by rfl) (fun _ _ => rfl) (by assumption) ?_
        try simp only [layR]
        refine takeV 14 (v := (.agg #[.int .i64 (k : Int), .int .i64 (i : Int)])) rfl (by kernel_rfl) (by kernel_rfl) (by kernel_rfl) (fun _ _ _ h => h) (by rfl) (fun _ _ => rfl) (by assumption) ?_
        try simp only [layR]
        refine takeV 15 (v := (.int .i64 0)) rfl (by kernel_rfl) (by kernel_rfl) (by kernel_rfl) (fun _ _ _ h => h) (by rfl) (fun _ _ => rfl) (by assumption) ?_
        try simp only [layR]
        have hzk := h6.blk hz hzn
        obtain ⟨k0, k1, f0, f1', q0, q1⟩ := plZ hzk k i
        refine wpAnyH_ready (rs := [17]) (by kernel_rfl) (by simp) ?_
        refine AllReadyH.cons rfl (fun K' hK => ?_) AllReadyH.nil
        go_simp
        have hkz : Kq (fun q => q = W4.heap.size) W6 ((W6.setCell ⟨W4.heap.size, 0, none⟩ (.int .i64 (k : Int))).setCell ⟨W4.heap.size, 1, none⟩ (.int .i64 (i : Int))) := ((Kq.refl (fun q => q = W4.heap.size) W6).setCell (p := ⟨W4.heap.size, 0, none⟩) (.inl rfl) _).setCell (p := ⟨W4.heap.size, 1, none⟩) (.inl rfl) _
        have hFz : f.F ≠ W4.heap.size := fun e => hzn (e ▸ HH.out.inF)
        have hS10 : ((W6.setCell ⟨W4.heap.size, 0, none⟩ (.int .i64 (k : Int))).setCell ⟨W4.heap.size, 1, none⟩ (.int .i64 (i : Int))).cell? ⟨f.F, 2, none⟩ = some (.int .i64 2) ∧ ((W6.setCell ⟨W4.heap.size, 0, none⟩ (.int .i64 (k : Int))).setCell ⟨W4.heap.size, 1, none⟩ (.int .i64 (i : Int))).cell? ⟨f.F, 3, none⟩ = some (.int .i64 0) := by
          have hb := hkz.block f.F (by have := h6.1.ltF; rw [show ({ f1 with g := g', seq := f.seq + 1 } : Fm).F = f.F from hsame.F] at this; exact this) hFz
          exact ⟨(World.cell?_of_block (a := ⟨f.F, 2, none⟩) hb).trans hS6.1, (World.cell?_of_block (a := ⟨f.F, 3, none⟩) hb).trans hS6.2⟩
        have hOut : SOut NB B R w f tx ((W6.setCell ⟨W4.heap.size, 0, none⟩ (.int .i64 (k : Int))).setCell ⟨W4.heap.size, 1, none⟩ (.int .i64 (i : Int))) (W4.heap.size) := by
          have hp := ((Pr.start HH.out).on hB5).step h6
          have hzn2 := h6.far hzn (Blk.lt hz)
          exact ⟨k, i, f1, g', _, hp.mine hkz fun q hq => by subst hq; exact ⟨hB4.size, hzn2⟩, hsame, hpg, hfi, hfr, (hzk.set 0 (.int .i64 (k : Int))).set 1 (.int .i64 (i : Int)), hzn2, hB4.size⟩
        refine hK.out _ _ hS10 (fun hS11 => ?_)
        refine takeV 18 (v := (.int .i64 0)) rfl (by kernel_rfl) (by kernel_rfl) (by kernel_rfl) (fun _ _ _ h => h) (by rfl) (fun _ _ => rfl) (by assumption) ?_
        try simp only [layR]
        refine wpAnyH_done (by kernel_rfl) ?_ _
        refine NoPanic.normal ?_
        have HOut := Lib.hid hOut
        clear hOut
        go_wp2_with fail
        go_meet
        case rel => exact ⟨rfl, _, rfl, HOut.out⟩
    · go_simp
      have hbz := (Below.refl W.heap.size W).alloc (Nat.le_refl _) (.cells #[.int .i64 0, .int .i64 0] 52)
      have hS5 := HSb.out W _ hbz hS0
      have hz0 := Blk.new W 52 #[.int .i64 0, .int .i64 0]
      have hzn := HH.out.not_new (show w.heap.size ≤ W.heap.size from HB3.out.size)
      have hB5 := HB3.out.then_ hbz
      refine hK.out _ _ hS5 (fun hS5b => ?_)
      try simp only [layR]
      refine wpAnyH_ready (rs := [11]) (by kernel_rfl) (by simp) ?_
      refine AllReadyH.cons rfl (fun K' hK => ?_) AllReadyH.nil
      go_simp
      refine (HHd.out _ hB5).mono ?_
      rintro e W4 ⟨⟨a4, c4, rfl, ho4⟩, hb4⟩
      have hS1 := HSb.out _ W4 hb4 hS5
      have hB4 := hB5.then_ hb4
      have hz := hz0.belowHere hb4
      refine hK.out _ _ hS1 (fun hS2 => ?_)
      try simp only [layR]
      refine wpAnyH_ready (rs := [12]) (by kernel_rfl) (by simp) ?_
      refine AllReadyH.cons rfl (fun K' hK => ?_) AllReadyH.nil
      go_simp
      refine (HPt.out W4 hB4 _ _ (ho4.arr (by rw [List.length_append, HX.out.len]; simp)) fun b o e h1 => by
        have h2 := (HH.out.bnd b h1).2
        have h3 := (ho4.blockLt b (by rw [e]; rfl)).1
        have h4 := hB5.size
        omega).mono ?_
      rintro e W6 ⟨k, i, f1, g', rfl, h6, hsame, hpg, hfi, hfr⟩
      have hS6 : W6.cell? ⟨f.F, 2, none⟩ = some (.int .i64 2) ∧ W6.cell? ⟨f.F, 3, none⟩ = some (.int .i64 0) := by
        have q1 := h6.1.c2
        have q2 := h6.1.c3
        rw [show ({ f1 with g := g', seq := f.seq + 1 } : Fm).F = f.F from hsame.F] at q1 q2
        rw [show ({ f1 with g := g', seq := f.seq + 1 } : Fm).g.res = 2 from hfi.res] at q1
        rw [show ({ f1 with g := g', seq := f.seq + 1 } : Fm).g.bad = 0 from hfi.bad] at q2
        exact ⟨q1, q2⟩
      refine hK.out _ _ hS6 (fun hS7 => ?_)
      try simp only [layR]
      refine takeV 13 (v := (.tuple #[.agg #[.int .i64 (k : Int), .int .i64 (i : Int)], .int .i64 0])) rfl (by kernel_rfl) (by kernel_rfl) (by kernel_rfl) (fun _ _ _ h => h) (by rfl) (fun _ _ => rfl) (by assumption) ?_
      try simp only [layR]
      refine takeV 14 (v := (.agg #[.int .i64 (k : Int), .int .i64 (i : Int)])) rfl (by kernel_rfl) (by kernel_rfl) (by kernel_rfl) (fun _ _ _ h => h) (by rfl) (fun _ _ => rfl) (by assumption) ?_
      try simp only [layR]
      refine takeV 15 (v := (.int .i64 0)) rfl (by kernel_rfl) (by kernel_rfl) (by kernel_rfl) (fun _ _ _ h => h) (by rfl) (fun _ _ => rfl) (by assumption) ?_
      try simp only [layR]
      have hzk := h6.blk hz hzn
      obtain ⟨k0, k1, f0, f1', q0, q1⟩ := plZ hzk k i
      refine wpAnyH_ready (rs := [17]) (by kernel_rfl) (by simp) ?_
      refine AllReadyH.cons rfl (fun K' hK => ?_) AllReadyH.nil
      go_simp
      have hkz : Kq (fun q => q = W.heap.size) W6 ((W6.setCell ⟨W.heap.size, 0, none⟩ (.int .i64 (k : Int))).setCell ⟨W.heap.size, 1, none⟩ (.int .i64 (i : Int))) := ((Kq.refl (fun q => q = W.heap.size) W6).setCell (p := ⟨W.heap.size, 0, none⟩) (.inl rfl) _).setCell (p := ⟨W.heap.size, 1, none⟩) (.inl rfl) _
      have hFz : f.F ≠ W.heap.size := fun e => hzn (e ▸ HH.out.inF)
      have hS10 : ((W6.setCell ⟨W.heap.size, 0, none⟩ (.int .i64 (k : Int))).setCell ⟨W.heap.size, 1, none⟩ (.int .i64 (i : Int))).cell? ⟨f.F, 2, none⟩ = some (.int .i64 2) ∧ ((W6.setCell ⟨W.heap.size, 0, none⟩ (.int .i64 (k : Int))).setCell ⟨W.heap.size, 1, none⟩ (.int .i64 (i : Int))).cell? ⟨f.F, 3, none⟩ = some (.int .i64 0) := by
        have hb := hkz.block f.F (by have := h6.1.ltF; rw [show ({ f1 with g := g', seq := f.seq + 1 } : Fm).F = f.F from hsame.F] at this; exact this) hFz
        exact ⟨(World.cell?_of_block (a := ⟨f.F, 2, none⟩) hb).trans hS6.1, (World.cell?_of_block (a := ⟨f.F, 3, none⟩) hb).trans hS6.2⟩
      have hOut : SOut NB B R w f tx ((W6.setCell ⟨W.heap.size, 0, none⟩ (.int .i64 (k : Int))).setCell ⟨W.heap.size, 1, none⟩ (.int .i64 (i : Int))) (W.heap.size) := by
        have hp := ((Pr.start HH.out).on hB4).step h6
        have hzn2 := h6.far hzn (Blk.lt hz)
        exact ⟨k, i, f1, g', _, hp.mine hkz fun q hq => by subst hq; exact ⟨HB3.out.size, hzn2⟩, hsame, hpg, hfi, hfr, (hzk.set 0 (.int .i64 (k : Int))).set 1 (.int .i64 (i : Int)), hzn2, HB3.out.size⟩
      refine hK.out _ _ hS10 (fun hS11 => ?_)
      refine takeV 18 (v := (.int .i64 0)) rfl (by kernel_rfl) (by kernel_rfl) (by kernel_rfl) (fun _ _ _ h => h) (by rfl) (fun _ _ => rfl) (by assumption) ?_
      try simp only [layR]
      refine wpAnyH_done (by kernel_rfl) ?_ _
      refine NoPanic.normal ?_
      have HOut := Lib.hid hOut
      clear hOut
      go_wp2_with fail
      go_meet
      case rel => exact ⟨rfl, _, rfl, HOut.out⟩
  case rest =>
    obtain ⟨rfl, Z, rfl, hOut⟩ := hcut
    obtain ⟨k, i, f1, g', R2, hpr, hsame, hpg, hfi, hfr, hz, hzn, hzw⟩ := hOut.out
    have HSm := Lib.hid hsame
    have HPg := Lib.hid hpg
    have HFi := Lib.hid hfi
    have HFr := Lib.hid hfr
    have HZn := Lib.hid hzn
    have HZw := Lib.hid hzw
    have HUf1 := Lib.hid (show Uq f1.no from hpr.ft.hN.uq)
    obtain ⟨fa, hfa⟩ : ∃ fa, fa = ({ f1 with g := g', seq := f.seq + 1 } : Fm) := ⟨_, rfl⟩
    rw [← hfa] at hpr
    have hFa : fa.F = f.F := by rw [hfa]; exact hsame.F
    have hmb := hpr.ft.on (below_drew wc)
    obtain ⟨o3, hrun, hm3, hk3⟩ := hmb.putN ⟨sealT f, headL tx, k, i⟩ (by show (0 : Nat) < _; omega)
    have hrun : (Instr.mapUpdate 55 (.map (some fa.NO)) (.int .u32 0) (.agg #[.int .i64 (k : Int), .int .i64 (i : Int)])).run Tryz.prog wc.drew = .ok () (setBlock wc.drew fa.NO o3) := hrun
    have hS3 : wc.drew.cell? ⟨f.F, 6, none⟩ = some (.map (some fa.NO)) ∧ wc.drew.cell? ⟨Z, 0, none⟩ = some (.int .i64 (k : Int)) ∧ wc.drew.cell? ⟨Z, 1, none⟩ = some (.int .i64 (i : Int)) := ⟨by rw [← hFa]; exact hmb.c6, hz.drew.cellv (i := 0) rfl, hz.drew.cellv (i := 1) rfl⟩
    have hz3 := hz.drew.kq hk3 hzn
    have hS4 : (setBlock wc.drew fa.NO o3).cell? ⟨f.F, 6, none⟩ = some (.map (some fa.NO)) ∧ (setBlock wc.drew fa.NO o3).cell? ⟨Z, 0, none⟩ = some (.int .i64 (k : Int)) ∧ (setBlock wc.drew fa.NO o3).cell? ⟨Z, 1, none⟩ = some (.int .i64 (i : Int)) := ⟨by rw [← hFa]; exact hm3.c6, hz3.cellv (i := 0) rfl, hz3.cellv (i := 1) rfl⟩
    have HS3 := Lib.hid hS3
    have HS4 := Lib.hid hS4
    have HPr3 := Lib.hid ((hpr.on (below_drew wc)).same hm3 hk3)
    have HFa := Lib.hid hfa
    have HFaF := Lib.hid hFa
    clear hpr hsame hpg hfi hfr hz hzn hzw hOut hmb hm3 hk3 hS3 hS4 hz3 hfa hFa
    go_upto_region 11 with fail
    refine wp_region_noPanic ?_
    refine wp_region_held_drew (S := (fun W' => W'.cell? ⟨f.F, 6, none⟩ = some (.map (some fa.NO)) ∧ W'.cell? ⟨Z, 0, none⟩ = some (.int .i64 (k : Int)) ∧ W'.cell? ⟨Z, 1, none⟩ = some (.int .i64 (i : Int)))) (by kernel_rfl) HS3.out (fun hS0 => ?_)
    refine takeV 0 (v := (.pointer (some ⟨f.F, 0, none⟩))) rfl (by kernel_rfl) (by kernel_rfl) (by kernel_rfl) (fun _ _ _ h => h) (by rfl) (fun _ _ => rfl) (by assumption) ?_
    try simp only [layR]
    refine takeV 1 (v := (.pointer (some ⟨f.F, 0, none⟩))) rfl (by kernel_rfl) (by kernel_rfl) (by kernel_rfl) (fun _ _ _ h => h) (by rfl) (fun _ _ => rfl) (by assumption) ?_
    try simp only [layR]
    refine takeV 2 (v := (.pointer (some ⟨f.F, 6, none⟩))) rfl (by kernel_rfl) (by kernel_rfl) (by kernel_rfl) (fun _ _ _ h => h) (by rfl) (fun W hSw => ?_) (by assumption) ?_
    · skip
      go_simp
    try simp only [layR]
    refine takeV 3 (v := (.map (some fa.NO))) rfl (by kernel_rfl) (by kernel_rfl) (by kernel_rfl) (fun _ _ _ h => h) (by rfl) (fun W hSw => ?_) (by assumption) ?_
    · obtain ⟨y7, y8, y9⟩ := hSw
      go_simp
    try simp only [layR]
    refine takeV 4 (v := (.agg #[.int .i64 (k : Int), .int .i64 (i : Int)])) rfl (by kernel_rfl) (by kernel_rfl) (by kernel_rfl) (fun _ _ _ h => h) (by rfl) (fun W hSw => ?_) (by assumption) ?_
    · obtain ⟨y7, y8, y9⟩ := hSw
      go_simp
    try simp only [layR]
    refine wpAnyH_ready (rs := [5]) (by kernel_rfl) (by simp) ?_
    refine AllReadyH.cons rfl (fun K' hK => ?_) AllReadyH.nil
    go_simp
    refine hK.out _ _ HS4.out (fun hS5 => ?_)
    refine wpAnyH_done (by kernel_rfl) ?_ _
    refine NoPanic.normal ?_
    clear hrun hS0 hS5 HS3 HS4
    obtain ⟨W3, hW3⟩ : ∃ W3, W3 = setBlock wc.drew fa.NO o3 := ⟨_, rfl⟩
    rw [← hW3] at HPr3 ⊢
    clear hW3
    obtain ⟨f2, hf2⟩ : ∃ f2, f2 = ({ fa with no := putE fa.no ⟨sealT f, headL tx, k, i⟩ } : Fm) := ⟨_, rfl⟩
    rw [← hf2] at HPr3
    have HF2 := Lib.hid hf2
    have HF2F := Lib.hid (show f2.F = f.F by rw [hf2]; exact HFaF.out)
    have hn0 : getE f1.no 0 = none := by
      have := getE_some HSm.out.no 0
      rw [HC.out.n0] at this
      cases hg : getE f1.no 0 with
      | none => rfl
      | some e => rw [hg] at this; cases this
    have hfi2 : Fi NB (100000 * f.seq + 17 * (NB + 1) + 1) [] f2.g (f2.se ++ f2.no) := by
      rw [hf2, HFa.out]
      refine HFi.out.add HPg.out.gp ⟨⟨.inr rfl, by show (0 : Nat) < _; omega, by show 1 ≤ f.seq; have := HC.out.sq; omega, by show f.seq < _; have := HSq.out; omega, by show 1 ≤ f.ep; have := HC.out.sq; omega, by show f.ep < _; have := HC.out.sq; have := HSq.out; omega⟩, by show (headL tx).length = 64; unfold headL; rw [List.length_append, HX.out.len]; rfl⟩ ?_
      show (f1.se ++ putE f1.no ⟨sealT f, headL tx, k, i⟩).Perm (⟨sealT f, headL tx, k, i⟩ :: (f1.se ++ f1.no))
      rw [putE_new fun x hx => getE_none hn0 x hx, ← List.append_assoc]
      exact (List.perm_append_comm (l₁ := f1.se ++ f1.no))
    have HGk := Lib.hid (show ∀ x ∈ f2.go, (getE f2.se x.t.p).isSome = true from fun x hx => by
      rw [hf2, HFa.out] at hx ⊢
      have hx : x ∈ f1.go := hx
      show (getE f1.se x.t.p).isSome = true
      rw [getE_some HSm.out.se]
      have h1 : x.t.p ∈ f1.go.map fun e => e.t.p := List.mem_map.2 ⟨x, hx, rfl⟩
      rw [HSm.out.go] at h1
      obtain ⟨y, hy, e⟩ := List.mem_map.1 h1
      rw [← e]
      exact HC.out.gk y hy)
    have hfr2 : 3 ≤ Gc.count 0 f2.g.l := by rw [hf2, HFa.out]; exact HFr.out
    obtain ⟨m, hm⟩ : ∃ m, m = 100000 * f.seq + 17 * (NB + 1) + 1 := ⟨_, rfl⟩
    rw [← hm] at hfi2
    have HMm := Lib.hid hm
    have HSl0 := Lib.hid (sl1_0 hfi2 hfr2)
    have HN0 := Lib.hid hn0
    have HUn := Lib.hid HPr3.out.ft.hN.uq
    have c6 := HPr3.out.ft.c6
    rw [HF2F.out] at c6
    clear hf2 hn0 hfi2 hfr2 hm
    go_wp2_with (at_range; refine wpList_range_E _ rfl _ rfl f2.NO f2.no rfl HPr3.out.ft.hN ?_; intro w4 hr4 hb4 hs4)
    clear c6
    have HSL0 := Lib.hid (show SL NB B R w R2 m W3.heap.size f2 w4 from ⟨[], f2, hr4.out, HPr3.out.on hb4.out, HSl0.out⟩)
    have HRn := Lib.hid (HPr3.out.ft.not_new (Nat.le_refl W3.heap.size))
    have HRw := Lib.hid (show w.heap.size ≤ W3.heap.size from HPr3.out.kq.size)
    obtain ⟨r, hr⟩ : ∃ r, r = W3.heap.size := ⟨_, rfl⟩
    rw [← hr] at HSL0 HRn HRw ⊢
    clear hr hr4 hb4 hs4
    go_loopw [8, 9, 10, 11, 57] (fun _ _ _ _ _ wr => Hid (SL NB B R w R2 m r f2 wr)) (fun _ _ _ _ _ wr => wr.rangeLeft f2.NO r)
    case atStart => exact HSL0.out
    case round =>
      obtain ⟨d, f3, hrd, hpr, hsl⟩ := hrel.out
      have HRd := Lib.hid hrd
      have HPr := Lib.hid hpr
      have HSl := Lib.hid hsl
      have HE3 := Lib.hid hsl.eq
      clear hrel hrd hpr hsl
      go_wp2_with (at_next; refine wpList_next_E _ rfl _ rfl f2.NO r f2.no d rfl HRd.out ?_ ?_)
      · intro hperm
        obtain ⟨m3, hm3⟩ : ∃ m3, m3 = m + f2.no.length := ⟨_, rfl⟩
        have HM3 := Lib.hid hm3
        have hall := HSl.out.all hperm
        rw [← hm3] at hall
        have HSm0 := Lib.hid (sl2_0 hall HSl.out.fr)
        have HPm := Lib.hid hperm
        have HUg := Lib.hid HPr.out.ft.hG.uq
        have hgk2 : ∀ x ∈ f2.go, (getE f2.se x.t.p).isSome = true := HGk.out
        have HGk3 := Lib.hid (HSl.out.gk hgk2)
        have c7 := HPr.out.ft.c7
        have hFF : f3.F = f.F := by rw [HE3.out]; exact HF2F.out
        rw [hFF] at c7
        have HFF := Lib.hid hFF
        clear hall hperm hFF hm3 hgk2
        go_wp2_with (at_range; refine wpList_range_E _ rfl _ rfl f3.GO f3.go rfl HPr.out.ft.hG ?_; intro w7 hr7 hb7 hs7)
        clear c7
        have HSM0 := Lib.hid (show SM NB B R w R2 m3 wr.heap.size f3 w7 from ⟨[], f3, hr7.out, HPr.out.on hb7.out, HSm0.out⟩)
        have HRm := Lib.hid (HPr.out.ft.not_new (Nat.le_refl wr.heap.size))
        have HRx := Lib.hid (show w.heap.size ≤ wr.heap.size from HPr.out.kq.size)
        obtain ⟨r2, hr2⟩ : ∃ r2, r2 = wr.heap.size := ⟨_, rfl⟩
        rw [← hr2] at HSM0 HRm HRx ⊢
        clear hr2 hr7 hb7 hs7
        simp only [layR]
        go_loopw [12, 95] (fun _ _ wr => Hid (SM NB B R w R2 m3 r2 f3 wr)) (fun _ _ wr => wr.rangeLeft f3.GO r2)
        case atStart => exact HSM0.out
        case round =>
          obtain ⟨d2, f4, hrd, hpr, hsl⟩ := hrel.out
          have HRd2 := Lib.hid hrd
          have HPr2 := Lib.hid hpr
          have HSl2 := Lib.hid hsl
          have HE4 := Lib.hid hsl.eq
          clear hrel hrd hpr hsl
          go_wp2_with (at_next; refine wpList_next_E _ rfl _ rfl f3.GO r2 f3.go d2 rfl HRd2.out ?_ ?_)
          · intro hperm2
            have HPm2 := Lib.hid hperm2
            have HF4 := Lib.hid (show f4.F = f.F by rw [HE4.out]; exact HFF.out)
            clear hperm2
            go_upto_region 25 with fail
            have hmm := @run_makeMap Tryz.prog
            obtain ⟨W20, hW20⟩ : ∃ W20, W20 = (wr.alloc (.map #[] 0)).alloc (.map #[] 0) := ⟨_, rfl⟩
            have hb20 : Below wr.heap.size wr W20 := by rw [hW20]; exact ((Below.refl _ _).alloc (Nat.le_refl _) _).alloc (by simp) _
            have hft20 := HPr2.out.ft.on hb20
            have c6 := hft20.c6
            have c7 := hft20.c7
            have z6 := hft20.frz 6
            have z7 := hft20.frz 7
            rw [HF4.out] at c6 c7 z6 z7
            obtain ⟨W21, hW21⟩ : ∃ W21, W21 = (W20.setCell ⟨f.F, 6, none⟩ (.map (some wr.heap.size))).setCell ⟨f.F, 7, none⟩ (.map (some (wr.heap.size + 1))) := ⟨_, rfl⟩
            obtain ⟨f5, hf5⟩ : ∃ f5, f5 = ({ f4 with NO := wr.heap.size, GO := wr.heap.size + 1, no := [], go := [] } : Fm) := ⟨_, rfl⟩
            have hfr21 : FtR NB B R2 wr W21 f5 := by
              refine HPr2.out.ft.swap hb20 ?_ ?_ (by rw [hf5]) (by rw [hf5]) (by rw [hf5]) (by rw [hf5]) (by rw [hf5]) (.inr ?_) (.inr ?_) (.inl (by rw [hf5]; exact ⟨rfl, rfl⟩)) (by rw [hf5]; show wr.heap.size ≠ wr.heap.size + 1; omega) (fun q hq => ?_)
              · rw [hW21, ← HF4.out]
                have h1 : Kq (fun q => q = f4.F) W20 (W20.setCell ⟨f4.F, 6, none⟩ (.map (some wr.heap.size))) := Kq.one ⟨f4.F, 6, none⟩ _
                have h2 : Kq (fun q => q = f4.F) (W20.setCell ⟨f4.F, 6, none⟩ (.map (some wr.heap.size))) ((W20.setCell ⟨f4.F, 6, none⟩ (.map (some wr.heap.size))).setCell ⟨f4.F, 7, none⟩ (.map (some (wr.heap.size + 1)))) := Kq.one ⟨f4.F, 7, none⟩ _
                exact h1.trans h2
              · rw [hW21, ← HF4.out]
                have h1 := (hft20.hF.set 6 (.map (some wr.heap.size))).set 7 (.map (some (wr.heap.size + 1)))
                have h2 : ((fmA NB f4).setIfInBounds 6 (.map (some wr.heap.size))).setIfInBounds 7 (.map (some (wr.heap.size + 1))) = fmA NB f5 := by rw [hf5]; unfold fmA; simp
                rw [h2] at h1
                exact h1
              · rw [hf5, hW20]
                exact ⟨Nat.le_refl _, (MapE.made wr).alloc _⟩
              · rw [hf5, hW20]
                have h1 := MapE.made (wr.alloc (.map #[] 0))
                rw [World.size_alloc] at h1
                exact ⟨Nat.le_succ _, h1⟩
              · have h1 : q < wr.heap.size := HPr2.out.ft.hiT (by rw [hf5] at hq; exact hq)
                rw [hf5]
                show q ≠ wr.heap.size ∧ q ≠ wr.heap.size + 1
                omega
            have HPr21 := Lib.hid (HPr2.out.step hfr21)
            have HF5 := Lib.hid hf5
            clear hb20 hft20 hfr21 hf5
            rw [hW20] at c6 c7 z6 z7
            go_upto_region 26 with fail
            rw [← hW20, ← hW21]
            clear hW20 hW21 c6 c7 z6 z7 hmm
            have hep5 : f5.ep = f.ep := by rw [HF5.out, HE4.out, HE3.out, HF2.out, HFa.out]; exact HSm.out.ep
            have hF5 : f5.F = f.F := by rw [HF5.out]; exact HF4.out
            have c9 := HPr21.out.ft.c9
            have z9 := HPr21.out.ft.frz 9
            rw [hF5] at c9 z9
            rw [hep5] at c9
            have hep : f.ep ≤ 1000000 := by have := HC.out.sq; have := HSq.out; omega
            have hm22 := HPr21.out.ft.setF 9 (.int .u64 ((f.ep : Int) + 1)) { f5 with ep := f.ep + 1 } (by unfold fmA; simp) rfl rfl rfl rfl rfl rfl rfl rfl rfl rfl rfl
            have hk22 : Kq (Up R2 wr W21) W21 (W21.setCell ⟨f5.F, 9, none⟩ (.int .u64 ((f.ep : Int) + 1))) := (Kq.one ⟨f5.F, 9, none⟩ _).mono fun q e => e ▸ HPr21.out.ft.inF
            have HPr22 := Lib.hid (HPr21.out.same hm22 hk22)
            rw [show (⟨f5.F, 9, none⟩ : Addr) = ⟨f.F, 9, none⟩ by rw [hF5]] at HPr22
            have HX22 := Lib.hid (show Bytes (W21.setCell ⟨f.F, 9, none⟩ (.int .u64 ((f.ep : Int) + 1))) w.heap.size a 56 tx from (HX.out.kq (Nat.le_refl _) HPr22.out.kq HAp.out))
            have HF5F := Lib.hid hF5
            clear hm22 hk22 hF5 hep5
            go_wp2_with fail
            refine (clone_calls a 56 c tx _ (HX22.out.mono HPr22.out.kq.size)).mono ?_
            rintro e9 W23 ⟨⟨v9, rfl, ho9⟩, hb9⟩
            obtain ⟨a9, k9, rfl, hk9⟩ := ho9.formN HX22.out.len
            have HZ9 := Lib.hid z9
            clear z9 hep
            have c4 := (HPr22.out.ft.on hb9).c4
            have z4 := (HPr22.out.ft.on hb9).frz 4
            have hF9 := (HPr22.out.ft.on hb9).hF
            have c4 : W23.cell? ⟨f5.F, 4, none⟩ = some f5.tv := c4
            have z4 : W23.frozen? ⟨f5.F, 4, none⟩ = false := z4
            have hsw : FtR NB B (Up R2 wr W21) (W21.setCell ⟨f.F, 9, none⟩ (.int .u64 ((f.ep : Int) + 1))) (W23.setCell ⟨f5.F, 4, none⟩ (.slice a9 56 k9)) { f5 with ep := f.ep + 1, tv := (.slice a9 56 k9), tx := tx } := by
              refine HPr22.out.ft.swap hb9 (Kq.one ⟨f5.F, 4, none⟩ (.slice a9 56 k9)) ?_ rfl rfl rfl rfl rfl (.inl ⟨rfl, rfl⟩) (.inl ⟨rfl, rfl⟩) (.inr ho9) HPr22.out.ft.dis.2.2 (fun q hq => ?_)
              · have h1 := hF9.set 4 (.slice a9 56 k9)
                have h2 : (fmA NB { f5 with ep := f.ep + 1 }).setIfInBounds 4 (.slice a9 56 k9) = fmA NB { f5 with ep := f.ep + 1, tv := (.slice a9 56 k9), tx := tx } := by unfold fmA; simp
                rw [h2] at h1
                exact h1
              · have h1 := (ho9.blockLt q hq).1
                have h2 := HPr22.out.ft.hN.lt
                have h3 := HPr22.out.ft.hG.lt
                exact ⟨fun e => absurd h2 (by show ¬ f5.NO < _; rw [show f5.NO = q from e.symm]; omega), fun e => absurd h3 (by show ¬ f5.GO < _; rw [show f5.GO = q from e.symm]; omega)⟩
            have hend := (HPr22.out.step hsw).fin HB0
            rw [HF5F.out] at c4 z4
            rw [show (⟨f5.F, 4, none⟩ : Addr) = ⟨f.F, 4, none⟩ by rw [HF5F.out]] at hend
            have HEnd := Lib.hid hend
            clear hend hsw hF9 ho9 hb9
            go_wp2
            go_ret
            have h2 := HSl2.out
            rw [HM3.out] at h2
            refine ⟨rfl, _, HEnd.out, sld HC.out HSm.out (by rw [HF2.out, HFa.out]) HMm.out HSl.out HPm.out h2 HPm2.out HUf1.out HUn.out HUg.out HPr2.out.ft.hS.uq hnb.2 ?_ ?_ HCp.out HF5F.out ?_ ?_ ?_ ?_ ?_ rfl rfl ?_⟩
            · rw [HPg.out.C]; exact HSm.out.C
            · rw [HPg.out.gh]; exact HSm.out.gh
            · show f5.g = f4.g; rw [HF5.out]
            · show f5.se = f4.se; rw [HF5.out]
            · show f5.no = []; rw [HF5.out]
            · show f5.go = []; rw [HF5.out]
            · show f5.seq = f.seq + 1; rw [HF5.out, HE4.out, HE3.out, HF2.out, HFa.out]
            · show f5.ov = f.ov; rw [HF5.out, HE4.out, HE3.out, HF2.out, HFa.out]; exact HSm.out.ov
          · intro e w6 he hr6 hg6 hs6 hl6 hen
            rw [plV_eq] at hen ⊢
            have HKe := Lib.hid (HPr.out.ft.hG.key he.out.1)
            have hk6 : Kq (fun q => q = r2) wr w6 := (Kq.grown hg6.out).mono fun q e => (Option.some.inj e).symm
            have HPr6 := Lib.hid (HPr2.out.mine hk6 fun q hq => by subst hq; exact ⟨HRx.out, HRm.out⟩)
            obtain ⟨hU2, e0, he0⟩ := HSl2.out.old HUg.out HGk3.out HRd2.out.rest he.out.1 he.out.2
            obtain ⟨he0m, hep⟩ := getE_mem he0
            have hfd : Fi NB (m3 + d2.length) (e0.b :: []) f4.g (delE f4.se e.t.p) := by
              have h1 := HSl2.out.fi.del (delE_perm HPr2.out.ft.hS.uq he0m)
              rw [hep] at h1
              exact h1
            have HFd := Lib.hid hfd
            have HU2 := Lib.hid hU2
            have HDr := Lib.hid (fDrop2_calls (HPr6.out.ft.on (below_drew w6)) hfd)
            have hsv : plO (getE f4.se e.t.p) = .agg #[.int .i64 (e0.b : Int), .int .i64 (e0.i : Int)] := by rw [he0]; rfl
            have HF4 := Lib.hid (show f4.F = f.F by rw [HE4.out]; exact HFF.out)
            have HS4 := Lib.hid (show f4.SE = f3.SE by rw [HE4.out])
            have HNg := Lib.hid (show f3.GO ≠ f4.g.ML by have := HPr2.out.ft.neML.2.1; rw [show f4.GO = f3.GO by rw [HE4.out]] at this; exact this)
            have HNr := Lib.hid (show r2 ≠ f4.g.ML from fun h1 => HRm.out (h1 ▸ by have := HPr2.out.ft; obtain ⟨S, _, h2, _⟩ := this; exact h2 _ (.inr (.inr (.inl rfl)))))
            obtain ⟨S7, hS7⟩ : ∃ S7 : World → Prop, S7 = fun W' => ∃ f5, FtM NB B R2 W' f5 ∧ f5.F = f.F ∧ f5.SE = f4.SE ∧ f5.se = f4.se ∧ f5.g.M = f4.g.M := ⟨_, rfl⟩
            have HLs := Lib.hid (fun (W' : World) (hW : S7 W') => show (Instr.lookup 55 (.map (some f4.SE)) (.int .u32 (e.t.p : Int)) false).run Tryz.prog W' = .ok (.agg #[.int .i64 (e0.b : Int), .int .i64 (e0.i : Int)]) W' by
              rw [hS7] at hW
              obtain ⟨f5, e1, e2, e3, e4, e5⟩ := hW
              have := e1.hS.look HKe.out false
              rw [e4, e3, hsv] at this
              exact this)
            have HD1 := Lib.hid (fun (W' : World) (hW : S7 W') => show W'.cell? ⟨f.F, 1, none⟩ = some (.pointer (some ⟨f4.g.M, 0, none⟩)) by
              rw [hS7] at hW
              obtain ⟨f5, e1, e2, e3, e4, e5⟩ := hW
              rw [← e2, ← e5]; exact e1.c1)
            have HD5 := Lib.hid (fun (W' : World) (hW : S7 W') => show W'.cell? ⟨f.F, 5, none⟩ = some (.map (some f4.SE)) by
              rw [hS7] at hW
              obtain ⟨f5, e1, e2, e3, e4, e5⟩ := hW
              rw [← e2, ← e3]; exact e1.c5)
            have hS70 : S7 w6.drew := by rw [hS7]; exact ⟨f4, HPr6.out.ft.on (below_drew w6), HF4.out, rfl, rfl, rfl⟩
            have HS71 := Lib.hid (fun (W' : World) (f5 : Fm) (h1 : FtM NB B R2 W' f5) (h2 : f5.F = f.F ∧ f5.SE = f4.SE ∧ f5.se = f4.se ∧ f5.g.M = f4.g.M) => show S7 W' by rw [hS7]; exact ⟨f5, h1, h2⟩)
            clear hk6 hfd hU2 hsv he0 he0m hep hS7
            go_upto_region 23 with fail
            refine wp_region_noPanic ?_
            refine wp_region_held_drew (S := S7) (by kernel_rfl) hS70 (fun hS0 => ?_)
            refine takeV 0 (v := (.pointer (some ⟨f.F, 0, none⟩))) rfl (by kernel_rfl) (by kernel_rfl) (by kernel_rfl) (fun _ _ _ h => h) (by rfl) (fun _ _ => rfl) (by assumption) ?_
            try simp only [layR]
            refine takeV 1 (v := (.pointer (some ⟨f.F, 0, none⟩))) rfl (by kernel_rfl) (by kernel_rfl) (by kernel_rfl) (fun _ _ _ h => h) (by rfl) (fun _ _ => rfl) (by assumption) ?_
            try simp only [layR]
            refine takeV 2 (v := (.pointer (some ⟨f.F, 1, none⟩))) rfl (by kernel_rfl) (by kernel_rfl) (by kernel_rfl) (fun _ _ _ h => h) (by rfl) (fun W hSw => ?_) (by assumption) ?_
            · skip
              go_simp
            try simp only [layR]
            refine takeV 3 (v := (.pointer (some ⟨f4.g.M, 0, none⟩))) rfl (by kernel_rfl) (by kernel_rfl) (by kernel_rfl) (fun _ _ _ h => h) (by rfl) (fun W hSw => ?_) (by assumption) ?_
            · have y9 := HD1.out _ hSw
              go_simp
            try simp only [layR]
            refine takeV 4 (v := (.pointer (some ⟨f.F, 0, none⟩))) rfl (by kernel_rfl) (by kernel_rfl) (by kernel_rfl) (fun _ _ _ h => h) (by rfl) (fun _ _ => rfl) (by assumption) ?_
            try simp only [layR]
            refine takeV 5 (v := (.pointer (some ⟨f.F, 0, none⟩))) rfl (by kernel_rfl) (by kernel_rfl) (by kernel_rfl) (fun _ _ _ h => h) (by rfl) (fun _ _ => rfl) (by assumption) ?_
            try simp only [layR]
            refine takeV 6 (v := (.pointer (some ⟨f.F, 5, none⟩))) rfl (by kernel_rfl) (by kernel_rfl) (by kernel_rfl) (fun _ _ _ h => h) (by rfl) (fun W hSw => ?_) (by assumption) ?_
            · skip
              go_simp
            try simp only [layR]
            refine takeV 7 (v := (.map (some f4.SE))) rfl (by kernel_rfl) (by kernel_rfl) (by kernel_rfl) (fun _ _ _ h => h) (by rfl) (fun W hSw => ?_) (by assumption) ?_
            · have y9 := HD5.out _ hSw
              go_simp
            try simp only [layR]
            refine takeV 8 (v := (.int .u32 (e.t.p : Int))) rfl (by kernel_rfl) (by kernel_rfl) (by kernel_rfl) (fun _ _ _ h => h) (by rfl) (fun _ _ => rfl) (by assumption) ?_
            try simp only [layR]
            refine takeV 9 (v := (.agg #[.int .i64 (e0.b : Int), .int .i64 (e0.i : Int)])) rfl (by kernel_rfl) (by kernel_rfl) (by kernel_rfl) (fun _ _ _ h => h) (by rfl) (fun W hSw => ?_) (by assumption) ?_
            · have y9 := HLs.out _ hSw
              go_simp
            try simp only [layR]
            refine takeV 10 (v := (.int .i64 (e0.b : Int))) rfl (by kernel_rfl) (by kernel_rfl) (by kernel_rfl) (fun _ _ _ h => h) (by rfl) (fun _ _ => rfl) (by assumption) ?_
            try simp only [layR]
            refine wpAnyH_ready (rs := [11]) (by kernel_rfl) (by simp) ?_
            refine AllReadyH.cons rfl (fun K' hK => ?_) AllReadyH.nil
            go_simp
            refine HDr.out.mono ?_
            rintro e9 W10 ⟨rfl, hm10, hk10, hl10⟩
            have hS71 := HS71.out W10 _ hm10 ⟨HF4.out, rfl, rfl, rfl⟩
            obtain ⟨f4b, hf4b⟩ : ∃ f4b, f4b = ({ f4 with g := { f4.g with l := f4.g.l.set e0.b (dropB (Gc.at_ f4.g.l e0.b)) } } : Fm) := ⟨_, rfl⟩
            have HFin := Lib.hid (show ∀ f5 : Fm, f5.g = f4b.g → f5.se = delE f4b.se e.t.p → f5 = { f4b with g := f5.g, se := f5.se } → Sl2 NB m3 f3 f5 (d2 ++ [e]) from fun f5 h1 h2 h4 => by
              subst hf4b
              refine HSl2.out.fin HU2.out ?_ ?_ h2 h4 (by rw [h1]) (by rw [h1]) (by rw [h1]) (by rw [h1])
              · rw [h1]
                exact HFd.out.drop
              · rw [h1]
                show 3 ≤ Gc.count 0 (f4.g.l.set e0.b (dropB (Gc.at_ f4.g.l e0.b)))
                rw [count_dropB (HFd.out.lenl (by simp)) HFd.out.notFree]
                exact HSl2.out.fr)
            have HSb := Lib.hid (show f4b.SE = f3.SE by rw [hf4b]; exact HS4.out)
            have HFb := Lib.hid (show f4b.F = f.F by rw [hf4b]; exact HF4.out)
            have HPr10 : Hid (Pr NB B R w R2 W10 f4b) := by rw [hf4b]; exact (HPr6.out.on (below_drew w6)).same hm10 hk10
            have hr10 := (hr6.out.on (below_drew w6)).kq hl10 (HNg.out) (HNr.out)
            have HR10 := Lib.hid hr10.1
            have HL10 := Lib.hid (show W10.rangeLeft f3.GO r2 < wr.rangeLeft f3.GO r2 by rw [hr10.2, hr6.out.1.left_on (below_drew w6)]; exact hl6.out)
            refine hK.out _ _ hS71 (fun hS72 => ?_)
            refine wpAnyH_done (by kernel_rfl) ?_ _
            refine NoPanic.normal ?_
            clear hS0 hS70 hS71 hS72 HS71 HD1 HD5 HLs HDr hm10 hk10 hl10 hr10 hf4b
            have c5 := HPr10.out.ft.c5
            rw [HFb.out] at c5
            obtain ⟨o12, hrun12, hm12, hk12⟩ := HPr10.out.ft.delS HKe.out 0
            have hrun12 : ∀ ty, (Builtin.delete_ #[55, 30] ty #[.map (some f4b.SE), .int .u32 (e.t.p : Int)]).run Tryz.prog W10 = .ok (.tuple #[]) (setBlock W10 f4b.SE o12) := fun ty => hrun12
            have hne1 : f4b.SE ≠ f3.GO := by rw [HSb.out]; exact HPr.out.ft.dis.2.1
            have hne2 : f4b.SE ≠ r2 := fun h1 => HRm.out (h1 ▸ by have := HPr10.out.ft; obtain ⟨S, _, h2, _⟩ := this; exact h2 _ (.inl (.inr (.inl rfl))))
            have hr12 := HR10.out.put HPr10.out.ft.hS hne1 hne2 o12
            have HR12 := Lib.hid hr12.1
            have HL12 := Lib.hid (show (setBlock W10 f4b.SE o12).rangeLeft f3.GO r2 < wr.rangeLeft f3.GO r2 by rw [hr12.2]; exact HL10.out)
            have HPr12 := Lib.hid (HPr10.out.same hm12 hk12)
            have HSL12 := Lib.hid (HFin.out { f4b with se := delE f4b.se e.t.p } rfl rfl rfl)
            clear hm12 hk12 hr12 hne1 hne2
            go_wp2_with fail
            go_roundw
            case rel => exact ⟨_, _, HR12.out, HPr12.out, HSL12.out⟩
            case measure => exact HL12.out
      · intro e w6 he hr6 hg6 hs6 hl6 hen
        rw [plV_eq] at hen ⊢
        have HKe := Lib.hid (HPr3.out.ft.hN.key he.out.1)
        have hk6 : Kq (fun q => q = r) wr w6 := (Kq.grown hg6.out).mono fun q e => (Option.some.inj e).symm
        have HPr6 := Lib.hid (HPr.out.mine hk6 fun q hq => by subst hq; exact ⟨HRw.out, HRn.out⟩)
        have hb7 := (Below.refl w6.heap.size w6).alloc (Nat.le_refl _) (.cells #[.int .i64 (e.b : Int), .int .i64 (e.i : Int)] 52)
        have HPr7 := Lib.hid (HPr6.out.on hb7)
        have HT7 := Lib.hid (Blk.new w6 52 #[.int .i64 (e.b : Int), .int .i64 (e.i : Int)])
        have HT9n := Lib.hid (HPr6.out.ft.not_new (Nat.le_refl w6.heap.size))
        have HR7 := Lib.hid (hr6.out.on hb7)
        have HL7 := Lib.hid (show (w6.alloc (.cells #[.int .i64 (e.b : Int), .int .i64 (e.i : Int)] 52)).rangeLeft f2.NO r < wr.rangeLeft f2.NO r by rw [hr6.out.1.left_on hb7]; exact hl6.out)
        have c5 := HPr7.out.ft.c5
        have hFF : f3.F = f.F := by rw [HE3.out]; exact HF2F.out
        rw [hFF] at c5
        have HFF := Lib.hid hFF
        obtain ⟨b2, i2, e2⟩ := plO_form (getE f3.se e.t.p)
        obtain ⟨old, hold⟩ : ∃ old, (getE f3.se e.t.p).isSome = old := ⟨_, rfl⟩
        have hl7 := HPr7.out.ft.hS.lookT HKe.out rfl e2 hold
        have hb8 := (Below.refl _ _).alloc (Nat.le_refl (w6.alloc (.cells #[.int .i64 (e.b : Int), .int .i64 (e.i : Int)] 52)).heap.size) (.cells #[.int .i64 (b2 : Int), .int .i64 (i2 : Int)] 52)
        have HPr8 := Lib.hid (HPr7.out.on hb8)
        have HT8 := Lib.hid (HT7.out.belowHere hb8)
        have HR8 := Lib.hid (HR7.out.on hb8)
        have hL8 := HR7.out.1.left_on hb8
        have HO8 := Lib.hid (Blk.new (w6.alloc (.cells #[.int .i64 (e.b : Int), .int .i64 (e.i : Int)] 52)) 52 #[.int .i64 (b2 : Int), .int .i64 (i2 : Int)])
        have HOn := Lib.hid (HPr7.out.ft.not_new (Nat.le_refl (w6.alloc (.cells #[.int .i64 (e.b : Int), .int .i64 (e.i : Int)] 52)).heap.size))
        have HE2 := Lib.hid e2
        have HOld := Lib.hid hold
        have HLe8 := Lib.hid hL8
        clear hk6 hb7 hFF e2 hold hb8 hL8
        go_upto_region 16 with fail
        clear c5 hl7
        obtain ⟨T9, hT9⟩ : ∃ T9, T9 = wr.heap.size := ⟨_, rfl⟩
        have hT9' : w6.heap.size = T9 := hs6.trans hT9.symm
        obtain ⟨W8, hW8⟩ : ∃ W8, W8 = (w6.alloc (.cells #[.int .i64 (e.b : Int), .int .i64 (e.i : Int)] 52)).alloc (.cells #[.int .i64 (b2 : Int), .int .i64 (i2 : Int)] 52) := ⟨_, rfl⟩
        have HL8 := Lib.hid (show W8.rangeLeft f2.NO r < wr.rangeLeft f2.NO r by rw [hW8, HLe8.out]; exact HL7.out)
        rw [World.size_alloc] at HO8 HOn
        rw [← hW8] at HPr8 HT8 HR8 HO8 ⊢
        rw [hT9'] at HT8 HT9n HO8 HOn
        rw [← hT9] at ⊢
        clear hW8 hT9 hT9' HLe8 HL7
        have HUs := Lib.hid HPr8.out.ft.hS.uq
        cases old
        · have hno : getE f3.se e.t.p = none := by have := HOld.out; cases hg : getE f3.se e.t.p with | none => rfl | some e => rw [hg] at this; cases this
          obtain ⟨f3b, hf3b⟩ : ∃ f3b, f3b = f3 := ⟨_, rfl⟩
          have HFin := Lib.hid (show ∀ f4 : Fm, f4.g = f3b.g → f4.se = putE f3b.se e → f4.go = delE f3b.go e.t.p → f4 = { f3b with g := f4.g, se := f4.se, go := f4.go } → Sl1 NB m f2 f4 (d ++ [e]) from fun f4 h1 h2 h3 h4 => by
            subst hf3b
            refine HSl.out.fin HUn.out HUs.out he.out.1 he.out.2 (fun rest' q1 q2 => ?_) (by rw [h1]; exact HSl.out.fr) h2 h3 h4 (by rw [h1]) (by rw [h1]) (by rw [h1]) (by rw [h1])
            rw [h1, putE_new fun x hx => getE_none hno x hx, List.append_assoc]
            exact q2.le (by omega))
          have HSE := Lib.hid (show f3b.SE = f2.SE by rw [hf3b, HE3.out])
          have HGO := Lib.hid (show f3b.GO = f2.GO by rw [hf3b, HE3.out])
          have HF3b := Lib.hid (show f3b.F = f.F by rw [hf3b]; exact HFF.out)
          have HPr10 : Hid (Pr NB B R w R2 W8 f3b) := by rw [hf3b]; exact HPr8
          have HR10 := HR8
          have HL10 := HL8
          have HT9 := HT8
          clear hf3b hno HPr8 HR8 HL8 HT8
          obtain ⟨W10, hW10⟩ : ∃ W10, W10 = W8 := ⟨_, rfl⟩
          subst hW10
          have hpn := (HPr10.out.ft.on (below_drew W10)).putS e HKe.out
          obtain ⟨o11, hrun, hm11, hk11⟩ := hpn
          have hrun : (Instr.mapUpdate 55 (.map (some f3b.SE)) (.int .u32 (e.t.p : Int)) (.agg #[.int .i64 (e.b : Int), .int .i64 (e.i : Int)])).run Tryz.prog W10.drew = .ok () (setBlock W10.drew f3b.SE o11) := hrun
          have hne1 : f3b.SE ≠ f2.NO := by rw [HSE.out]; exact HPr3.out.ft.dis.1
          have hne2 : f3b.SE ≠ r := fun h1 => HRn.out (h1 ▸ by have := HPr10.out.ft; obtain ⟨S, _, h2, _⟩ := this; exact h2 _ (.inl (.inr (.inl rfl))))
          have hr11 := (HR10.out.on (below_drew W10)).put ((HPr10.out.ft.on (below_drew W10)).hS) hne1 hne2 o11
          have HR11 := Lib.hid hr11.1
          have HL11 := Lib.hid (show (setBlock W10.drew f3b.SE o11).rangeLeft f2.NO r < wr.rangeLeft f2.NO r by rw [hr11.2]; exact HL10.out)
          have HPr11 := Lib.hid ((HPr10.out.on (below_drew W10)).same hm11 hk11)
          have hS10 : W10.drew.cell? ⟨f.F, 5, none⟩ = some (.map (some f3b.SE)) ∧ W10.drew.cell? ⟨T9, 0, none⟩ = some (.int .i64 (e.b : Int)) ∧ W10.drew.cell? ⟨T9, 1, none⟩ = some (.int .i64 (e.i : Int)) := by
            refine ⟨by rw [← HF3b.out]; exact (HPr10.out.ft.on (below_drew W10)).c5, HT9.out.drew.cellv (i := 0) rfl, HT9.out.drew.cellv (i := 1) rfl⟩
          have hS11 : (setBlock W10.drew f3b.SE o11).cell? ⟨f.F, 5, none⟩ = some (.map (some f3b.SE)) ∧ (setBlock W10.drew f3b.SE o11).cell? ⟨T9, 0, none⟩ = some (.int .i64 (e.b : Int)) ∧ (setBlock W10.drew f3b.SE o11).cell? ⟨T9, 1, none⟩ = some (.int .i64 (e.i : Int)) := by
            have hT := HT9.out.drew.kq hk11 HT9n.out
            exact ⟨by rw [← HF3b.out]; exact hm11.c5, hT.cellv (i := 0) rfl, hT.cellv (i := 1) rfl⟩
          have HS10 := Lib.hid hS10
          have HS11 := Lib.hid hS11
          clear hm11 hk11 hS10 hS11 hr11 hne1 hne2
          go_upto_region 18 with fail
          refine wp_region_noPanic ?_
          refine wp_region_held_drew (S := (fun W' => W'.cell? ⟨f.F, 5, none⟩ = some (.map (some f3b.SE)) ∧ W'.cell? ⟨T9, 0, none⟩ = some (.int .i64 (e.b : Int)) ∧ W'.cell? ⟨T9, 1, none⟩ = some (.int .i64 (e.i : Int)))) (by kernel_rfl) HS10.out (fun hS0 => ?_)
          refine takeV 0 (v := (.pointer (some ⟨f.F, 0, none⟩))) rfl (by kernel_rfl) (by kernel_rfl) (by kernel_rfl) (fun _ _ _ h => h) (by rfl) (fun _ _ => rfl) (by assumption) ?_
          try simp only [layR]
          refine takeV 1 (v := (.pointer (some ⟨f.F, 0, none⟩))) rfl (by kernel_rfl) (by kernel_rfl) (by kernel_rfl) (fun _ _ _ h => h) (by rfl) (fun _ _ => rfl) (by assumption) ?_
          try simp only [layR]
          refine takeV 2 (v := (.pointer (some ⟨f.F, 5, none⟩))) rfl (by kernel_rfl) (by kernel_rfl) (by kernel_rfl) (fun _ _ _ h => h) (by rfl) (fun W hSw => ?_) (by assumption) ?_
          · skip
            go_simp
          try simp only [layR]
          refine takeV 3 (v := (.map (some f3b.SE))) rfl (by kernel_rfl) (by kernel_rfl) (by kernel_rfl) (fun _ _ _ h => h) (by rfl) (fun W hSw => ?_) (by assumption) ?_
          · obtain ⟨y7, y8, y9⟩ := hSw
            go_simp
          try simp only [layR]
          refine takeV 4 (v := (.int .u32 (e.t.p : Int))) rfl (by kernel_rfl) (by kernel_rfl) (by kernel_rfl) (fun _ _ _ h => h) (by rfl) (fun _ _ => rfl) (by assumption) ?_
          try simp only [layR]
          refine takeV 5 (v := (.agg #[.int .i64 (e.b : Int), .int .i64 (e.i : Int)])) rfl (by kernel_rfl) (by kernel_rfl) (by kernel_rfl) (fun _ _ _ h => h) (by rfl) (fun W hSw => ?_) (by assumption) ?_
          · obtain ⟨y7, y8, y9⟩ := hSw
            go_simp
          try simp only [layR]
          refine wpAnyH_ready (rs := [6]) (by kernel_rfl) (by simp) ?_
          refine AllReadyH.cons rfl (fun K' hK => ?_) AllReadyH.nil
          go_simp
          refine hK.out _ _ HS11.out (fun hS12 => ?_)
          refine wpAnyH_done (by kernel_rfl) ?_ _
          refine NoPanic.normal ?_
          clear hrun hS0 hS12 HS10 HS11
          obtain ⟨W11, hW11⟩ : ∃ W11, W11 = setBlock W10.drew f3b.SE o11 := ⟨_, rfl⟩
          rw [← hW11] at HPr11 HR11 HL11 ⊢
          clear hW11
          have c7 := HPr11.out.ft.c7
          have c7 : W11.cell? ⟨f3b.F, 7, none⟩ = some (.map (some f3b.GO)) := c7
          rw [HF3b.out] at c7
          obtain ⟨o12, hrun12, hm12, hk12⟩ := HPr11.out.ft.delG HKe.out 0
          have hrun12 : ∀ ty, (Builtin.delete_ #[55, 30] ty #[.map (some f3b.GO), .int .u32 (e.t.p : Int)]).run Tryz.prog W11 = .ok (.tuple #[]) (setBlock W11 f3b.GO o12) := fun ty => hrun12
          have hne1 : f3b.GO ≠ f2.NO := by rw [HGO.out]; exact Ne.symm HPr3.out.ft.dis.2.2
          have hne2 : f3b.GO ≠ r := fun h1 => HRn.out (h1 ▸ by have := HPr10.out.ft; obtain ⟨S, _, h2, _⟩ := this; exact h2 _ (.inl (.inr (.inr (.inr (.inl rfl))))))
          have hr12 := HR11.out.put HPr11.out.ft.hG hne1 hne2 o12
          have HR12 := Lib.hid hr12.1
          have HL12 := Lib.hid (show (setBlock W11 f3b.GO o12).rangeLeft f2.NO r < wr.rangeLeft f2.NO r by rw [hr12.2]; exact HL11.out)
          have HPr12 := Lib.hid (HPr11.out.same hm12 hk12)
          have HSL12 := Lib.hid (HFin.out { f3b with se := putE f3b.se e, go := delE f3b.go e.t.p } rfl rfl rfl rfl)
          clear hm12 hk12 hr12 hne1 hne2
          go_wp2_with fail
          go_roundw
          case rel => exact ⟨_, _, HR12.out, HPr12.out, HSL12.out⟩
          case measure => exact HL12.out

        · obtain ⟨e0, hno⟩ : ∃ e0, getE f3.se e.t.p = some e0 := by have := HOld.out; cases hg : getE f3.se e.t.p with | none => rw [hg] at this; cases this | some e => exact ⟨e, rfl⟩
          obtain ⟨he0, hep⟩ := getE_mem hno
          have hb20 : b2 = e0.b := by
            have := HE2.out
            rw [hno] at this
            have h9 : plV e0.b e0.i = .agg #[.int .i64 (b2 : Int), .int .i64 (i2 : Int)] := this
            unfold plV at h9
            simp only [Value.agg.injEq, Array.mk.injEq, List.cons.injEq, Value.int.injEq, true_and, and_true] at h9
            omega
          have HDl := Lib.hid (show ∀ rest', Fi NB (m + d.length) [] f3.g (f3.se ++ e :: rest') → Fi NB (m + d.length) (b2 :: []) f3.g (putE f3.se e ++ rest') from fun rest' q => by rw [hb20]; exact q.del (putE_move HUs.out he0 hep))
          obtain ⟨_, _, rest0, _, q0⟩ := HSl.out.not HUn.out he.out.1 he.out.2
          have HFd := Lib.hid (HDl.out rest0 q0)
          have HDr := Lib.hid (fDrop2_calls (HPr8.out.ft.on (below_drew W8)) HFd.out)
          have hS0a : W8.drew.cell? ⟨f.F, 1, none⟩ = some (.pointer (some ⟨f3.g.M, 0, none⟩)) ∧ W8.drew.cell? ⟨T9 + 1, 0, none⟩ = some (.int .i64 (b2 : Int)) := ⟨by rw [← HFF.out]; exact (HPr8.out.ft.on (below_drew W8)).c1, HO8.out.drew.cellv (i := 0) rfl⟩
          have HS0a := Lib.hid hS0a
          have HML := Lib.hid (show f2.NO ≠ f3.g.ML ∧ r ≠ f3.g.ML from ⟨by have h1 := HPr8.out.ft.neML.1; rw [show f3.NO = f2.NO by rw [HE3.out]] at h1; exact h1, fun h1 => HRn.out (h1 ▸ by have := HPr8.out.ft; obtain ⟨S, _, h2, _⟩ := this; exact h2 _ (.inr (.inr (.inl rfl))))⟩)
          clear hno he0 hep hb20 q0 hS0a
          go_upto_region 17 with fail
          refine wp_region_noPanic ?_
          refine wp_region_held_drew (S := (fun W' => W'.cell? ⟨f.F, 1, none⟩ = some (.pointer (some ⟨f3.g.M, 0, none⟩)) ∧ W'.cell? ⟨T9 + 1, 0, none⟩ = some (.int .i64 (b2 : Int)))) (by kernel_rfl) HS0a.out (fun hS0 => ?_)
          refine takeV 0 (v := (.pointer (some ⟨f.F, 0, none⟩))) rfl (by kernel_rfl) (by kernel_rfl) (by kernel_rfl) (fun _ _ _ h => h) (by rfl) (fun _ _ => rfl) (by assumption) ?_
          try simp only [layR]
          refine takeV 1 (v := (.pointer (some ⟨f.F, 0, none⟩))) rfl (by kernel_rfl) (by kernel_rfl) (by kernel_rfl) (fun _ _ _ h => h) (by rfl) (fun _ _ => rfl) (by assumption) ?_
          try simp only [layR]
          refine takeV 2 (v := (.pointer (some ⟨f.F, 1, none⟩))) rfl (by kernel_rfl) (by kernel_rfl) (by kernel_rfl) (fun _ _ _ h => h) (by rfl) (fun W hSw => ?_) (by assumption) ?_
          · skip
            go_simp
          try simp only [layR]
          refine takeV 3 (v := (.pointer (some ⟨f3.g.M, 0, none⟩))) rfl (by kernel_rfl) (by kernel_rfl) (by kernel_rfl) (fun _ _ _ h => h) (by rfl) (fun W hSw => ?_) (by assumption) ?_
          · obtain ⟨y8, y9⟩ := hSw
            go_simp
          try simp only [layR]
          refine takeV 4 (v := (.pointer (some ⟨T9 + 1, 0, none⟩))) rfl (by kernel_rfl) (by kernel_rfl) (by kernel_rfl) (fun _ _ _ h => h) (by rfl) (fun W hSw => ?_) (by assumption) ?_
          · skip
            go_simp
          try simp only [layR]
          refine takeV 5 (v := (.int .i64 (b2 : Int))) rfl (by kernel_rfl) (by kernel_rfl) (by kernel_rfl) (fun _ _ _ h => h) (by rfl) (fun W hSw => ?_) (by assumption) ?_
          · obtain ⟨y8, y9⟩ := hSw
            go_simp
          try simp only [layR]
          refine wpAnyH_ready (rs := [6]) (by kernel_rfl) (by simp) ?_
          refine AllReadyH.cons rfl (fun K' hK => ?_) AllReadyH.nil
          go_simp
          refine HDr.out.mono ?_
          rintro e9 W10 ⟨rfl, hm10, hk10, hl10⟩
          obtain ⟨f3b, hf3b⟩ : ∃ f3b, f3b = ({ f3 with g := { f3.g with l := f3.g.l.set b2 (dropB (Gc.at_ f3.g.l b2)) } } : Fm) := ⟨_, rfl⟩
          have hS1 : W10.cell? ⟨f.F, 1, none⟩ = some (.pointer (some ⟨f3.g.M, 0, none⟩)) ∧ W10.cell? ⟨T9 + 1, 0, none⟩ = some (.int .i64 (b2 : Int)) := by
            refine ⟨?_, (HO8.out.drew.kq hk10 HOn.out).cellv (i := 0) rfl⟩
            have h9 := hm10.c1
            have h9 : W10.cell? ⟨f3.F, 1, none⟩ = some (.pointer (some ⟨f3.g.M, 0, none⟩)) := h9
            rw [HFF.out] at h9
            exact h9
          have HFin := Lib.hid (show ∀ f4 : Fm, f4.g = f3b.g → f4.se = putE f3b.se e → f4.go = delE f3b.go e.t.p → f4 = { f3b with g := f4.g, se := f4.se, go := f4.go } → Sl1 NB m f2 f4 (d ++ [e]) from fun f4 h1 h2 h3 h4 => by
            subst hf3b
            refine HSl.out.fin HUn.out HUs.out he.out.1 he.out.2 (fun rest' q1 q2 => ?_) ?_ h2 h3 h4 (by rw [h1]) (by rw [h1]) (by rw [h1]) (by rw [h1])
            · rw [h1]
              exact (HDl.out rest' q2).drop
            · rw [h1]
              show 3 ≤ Gc.count 0 (f3.g.l.set b2 (dropB (Gc.at_ f3.g.l b2)))
              rw [count_dropB (HFd.out.lenl (by simp)) HFd.out.notFree]
              exact HSl.out.fr)
          have HSE := Lib.hid (show f3b.SE = f2.SE by rw [hf3b, HE3.out])
          have HGO := Lib.hid (show f3b.GO = f2.GO by rw [hf3b, HE3.out])
          have HF3b := Lib.hid (show f3b.F = f.F by rw [hf3b]; exact HFF.out)
          have HPr10 : Hid (Pr NB B R w R2 W10 f3b) := by rw [hf3b]; exact (HPr8.out.on (below_drew W8)).same hm10 hk10
          have hr10 := (HR8.out.on (below_drew W8)).kq hl10 HML.out.1 HML.out.2
          have HR10 := Lib.hid hr10.1
          have HL10 := Lib.hid (show W10.rangeLeft f2.NO r < wr.rangeLeft f2.NO r by rw [hr10.2]; exact HL8.out)
          have HT9 := Lib.hid (HT8.out.drew.kq hk10 HT9n.out)
          clear hm10 hk10 hl10 hf3b hr10
          refine hK.out _ _ hS1 (fun hS2 => ?_)
          refine wpAnyH_done (by kernel_rfl) ?_ _
          refine NoPanic.normal ?_
          clear hS0 hS1 hS2 HS0a HDr HPr8 HR8 HL8 HT8
          have hpn := (HPr10.out.ft.on (below_drew W10)).putS e HKe.out
          obtain ⟨o11, hrun, hm11, hk11⟩ := hpn
          have hrun : (Instr.mapUpdate 55 (.map (some f3b.SE)) (.int .u32 (e.t.p : Int)) (.agg #[.int .i64 (e.b : Int), .int .i64 (e.i : Int)])).run Tryz.prog W10.drew = .ok () (setBlock W10.drew f3b.SE o11) := hrun
          have hne1 : f3b.SE ≠ f2.NO := by rw [HSE.out]; exact HPr3.out.ft.dis.1
          have hne2 : f3b.SE ≠ r := fun h1 => HRn.out (h1 ▸ by have := HPr10.out.ft; obtain ⟨S, _, h2, _⟩ := this; exact h2 _ (.inl (.inr (.inl rfl))))
          have hr11 := (HR10.out.on (below_drew W10)).put ((HPr10.out.ft.on (below_drew W10)).hS) hne1 hne2 o11
          have HR11 := Lib.hid hr11.1
          have HL11 := Lib.hid (show (setBlock W10.drew f3b.SE o11).rangeLeft f2.NO r < wr.rangeLeft f2.NO r by rw [hr11.2]; exact HL10.out)
          have HPr11 := Lib.hid ((HPr10.out.on (below_drew W10)).same hm11 hk11)
          have hS10 : W10.drew.cell? ⟨f.F, 5, none⟩ = some (.map (some f3b.SE)) ∧ W10.drew.cell? ⟨T9, 0, none⟩ = some (.int .i64 (e.b : Int)) ∧ W10.drew.cell? ⟨T9, 1, none⟩ = some (.int .i64 (e.i : Int)) := by
            refine ⟨by rw [← HF3b.out]; exact (HPr10.out.ft.on (below_drew W10)).c5, HT9.out.drew.cellv (i := 0) rfl, HT9.out.drew.cellv (i := 1) rfl⟩
          have hS11 : (setBlock W10.drew f3b.SE o11).cell? ⟨f.F, 5, none⟩ = some (.map (some f3b.SE)) ∧ (setBlock W10.drew f3b.SE o11).cell? ⟨T9, 0, none⟩ = some (.int .i64 (e.b : Int)) ∧ (setBlock W10.drew f3b.SE o11).cell? ⟨T9, 1, none⟩ = some (.int .i64 (e.i : Int)) := by
            have hT := HT9.out.drew.kq hk11 HT9n.out
            exact ⟨by rw [← HF3b.out]; exact hm11.c5, hT.cellv (i := 0) rfl, hT.cellv (i := 1) rfl⟩
          have HS10 := Lib.hid hS10
          have HS11 := Lib.hid hS11
          clear hm11 hk11 hS10 hS11 hr11 hne1 hne2
          go_upto_region 18 with fail
          refine wp_region_noPanic ?_
          refine wp_region_held_drew (S := (fun W' => W'.cell? ⟨f.F, 5, none⟩ = some (.map (some f3b.SE)) ∧ W'.cell? ⟨T9, 0, none⟩ = some (.int .i64 (e.b : Int)) ∧ W'.cell? ⟨T9, 1, none⟩ = some (.int .i64 (e.i : Int)))) (by kernel_rfl) HS10.out (fun hS0 => ?_)
          refine takeV 0 (v := (.pointer (some ⟨f.F, 0, none⟩))) rfl (by kernel_rfl) (by kernel_rfl) (by kernel_rfl) (fun _ _ _ h => h) (by rfl) (fun _ _ => rfl) (by assumption) ?_
          try simp only [layR]
          refine takeV 1 (v := (.pointer (some ⟨f.F, 0, none⟩))) rfl (by kernel_rfl) (by kernel_rfl) (by kernel_rfl) (fun _ _ _ h => h) (by rfl) (fun _ _ => rfl) (by assumption) ?_
          try simp only [layR]
          refine takeV 2 (v := (.pointer (some ⟨f.F, 5, none⟩))) rfl (by kernel_rfl) (by kernel_rfl) (by kernel_rfl) (fun _ _ _ h => h) (by rfl) (fun W hSw => ?_) (by assumption) ?_
          · skip
            go_simp
          try simp only [layR]
          refine takeV 3 (v := (.map (some f3b.SE))) rfl (by kernel_rfl) (by kernel_rfl) (by kernel_rfl) (fun _ _ _ h => h) (by rfl) (fun W hSw => ?_) (by assumption) ?_
          · obtain ⟨y7, y8, y9⟩ := hSw
            go_simp
          try simp only [layR]
          refine takeV 4 (v := (.int .u32 (e.t.p : Int))) rfl (by kernel_rfl) (by kernel_rfl) (by kernel_rfl) (fun _ _ _ h => h) (by rfl) (fun _ _ => rfl) (by assumption) ?_
          try simp only [layR]
          refine takeV 5 (v := (.agg #[.int .i64 (e.b : Int), .int .i64 (e.i : Int)])) rfl (by kernel_rfl) (by kernel_rfl) (by kernel_rfl) (fun _ _ _ h => h) (by rfl) (fun W hSw => ?_) (by assumption) ?_
          · obtain ⟨y7, y8, y9⟩ := hSw
            go_simp
          try simp only [layR]
          refine wpAnyH_ready (rs := [6]) (by kernel_rfl) (by simp) ?_
          refine AllReadyH.cons rfl (fun K' hK => ?_) AllReadyH.nil
          go_simp
          refine hK.out _ _ HS11.out (fun hS12 => ?_)
          refine wpAnyH_done (by kernel_rfl) ?_ _
          refine NoPanic.normal ?_
          clear hrun hS0 hS12 HS10 HS11
          obtain ⟨W11, hW11⟩ : ∃ W11, W11 = setBlock W10.drew f3b.SE o11 := ⟨_, rfl⟩
          rw [← hW11] at HPr11 HR11 HL11 ⊢
          clear hW11
          have c7 := HPr11.out.ft.c7
          have c7 : W11.cell? ⟨f3b.F, 7, none⟩ = some (.map (some f3b.GO)) := c7
          rw [HF3b.out] at c7
          obtain ⟨o12, hrun12, hm12, hk12⟩ := HPr11.out.ft.delG HKe.out 0
          have hrun12 : ∀ ty, (Builtin.delete_ #[55, 30] ty #[.map (some f3b.GO), .int .u32 (e.t.p : Int)]).run Tryz.prog W11 = .ok (.tuple #[]) (setBlock W11 f3b.GO o12) := fun ty => hrun12
          have hne1 : f3b.GO ≠ f2.NO := by rw [HGO.out]; exact Ne.symm HPr3.out.ft.dis.2.2
          have hne2 : f3b.GO ≠ r := fun h1 => HRn.out (h1 ▸ by have := HPr10.out.ft; obtain ⟨S, _, h2, _⟩ := this; exact h2 _ (.inl (.inr (.inr (.inr (.inl rfl))))))
          have hr12 := HR11.out.put HPr11.out.ft.hG hne1 hne2 o12
          have HR12 := Lib.hid hr12.1
          have HL12 := Lib.hid (show (setBlock W11 f3b.GO o12).rangeLeft f2.NO r < wr.rangeLeft f2.NO r by rw [hr12.2]; exact HL11.out)
          have HPr12 := Lib.hid (HPr11.out.same hm12 hk12)
          have HSL12 := Lib.hid (HFin.out { f3b with se := putE f3b.se e, go := delE f3b.go e.t.p } rfl rfl rfl rfl)
          clear hm12 hk12 hr12 hne1 hne2
          go_wp2_with fail
          go_roundw
          case rel => exact ⟨_, _, HR12.out, HPr12.out, HSL12.out⟩
          case measure => exact HL12.out
end
end Go.Proofs.YtiipnpfaaghekaaGreat
namespace Go.Proofs.YtiipnpfaaghekaaGreat
open Go.RowKit Ftl Go.ChangeMaps Go.Maps

/-- Between two erasures. -/
structure FmI (B : Nat) (S : Nat → Prop) (w : World) (C BL G gb k : Nat) (S' : Nat → Prop) (ps' : Nat → Nat) (wr : World) : Prop where
  hc : ChM 16 B S' wr C BL ps' (once k)
  hG : Blk wr G 48 #[.int .i64 16, .int .i64 8, .int .i64 64]
  ho : Own bolV 4 wr w.heap.size (.slice (some ⟨gb, 0, none⟩) 16 16) (truB k)
  hk : Kq S w wr
  up : ∀ q, S' q → Up S w wr q
  nG : ¬ S' G
  nb : ¬ S' gb
  lG : w.heap.size ≤ G
  lb : w.heap.size ≤ gb
  ne : gb ≠ G
section
variable {B C BL G gb k : Nat} {S S' : Nat → Prop} {w wr w' : World} {ps ps' ps2 : Nat → Nat}
theorem FmI.on (h : FmI B S w C BL G gb k S' ps' wr) (hb : Below wr.heap.size wr w') : FmI B S w C BL G gb k S' ps' w' :=
  ⟨h.hc.on hb, h.hG.belowHere hb, h.ho.on hb, h.hk.on hb, fun q hq => by rcases h.up q hq with e | e; exact .inl e; exact .inr ⟨e.1, by have := hb.size; omega⟩, h.nG, h.nb, h.lG, h.lb, h.ne⟩
theorem FmI.erase (h : FmI B S w C BL G gb k S' ps' wr) (hc : ChM 16 B (Up S' wr w') w' C BL ps2 (upd (once k) k (fresh 1))) (hq : Kq S' wr w') (hk : k < 16) :
    w'.cell? ⟨gb, k, none⟩ = some (.bool ((truB k)[k]'(by rw [truB_len (by omega)]; exact hk))) ∧ w'.frozen? ⟨gb, k, none⟩ = false ∧ FmI B S w C BL G gb (k + 1) (Up S' wr w') ps2 (w'.setCell ⟨gb, k, none⟩ (.bool true)) := by
  have hs := hq.size
  have lG := h.hG.lt
  have lb := (h.ho.blockLt gb rfl).2
  have ho := h.ho.kq hq fun q e => by obtain rfl := own_of _ _ _ _ e; exact h.nb
  have hG := h.hG.kq hq h.nG
  obtain ⟨c1, c2⟩ := ho.cellg (k := k) (by rw [truB_len (by omega)]; exact hk)
  have ho2 := ho.set k true
  rw [truB_set hk] at ho2
  rw [once_upd] at hc
  have nG : ¬ Up S' wr w' G := fun e => h.nG (up_of e lG)
  have nb : ¬ Up S' wr w' gb := fun e => h.nb (up_of e lb)
  refine ⟨c1, c2, hc.kq (Kq.one ⟨gb, k, none⟩ (.bool true)) (fun q hq e => nb (by obtain rfl : q = gb := e; exact hq)), hG.far (by simpa using Ne.symm h.ne) _, ho2, ?_, fun q hq => ?_, nG, nb, h.lG, h.lb, h.ne⟩
  · refine (h.hk.then_ hq fun q hq => ?_).setCell (.inr h.lb) _
    rcases h.up q hq with e | e
    · exact .inl e
    · exact .inr e.1
  · rw [show Up S w (w'.setCell ⟨gb, k, none⟩ (.bool true)) q = Up S w w' q by unfold Up; rw [World.size_setCell]]
    rcases hq with e | e
    · rcases h.up q e with e | e
      · exact .inl e
      · exact .inr ⟨e.1, by omega⟩
    · exact .inr ⟨by have := h.hk.size; omega, e.2⟩
/-- What Format lays before the manager is opened. -/
def fmA0 (C s : Nat) : Array Value := #[.pointer (some ⟨C, 0, none⟩), .pointer none, .int .i64 2, .int .i64 0, .slice none 0 0, .map (some s), .map (some (s + 1)), .map (some (s + 1 + 1)), .int .u64 1, .int .u64 1, .slice (some ⟨s + 1 + 1 + 1, 0, none⟩) 16 16, .bool false]
def fmW (w : World) (C : Nat) : World := ((((w.alloc (.map #[] 0)).alloc (.map #[] 0)).alloc (.map #[] 0)).alloc (.cells ((List.replicate 16 false).map bolV).toArray 4)).alloc (.cells (fmA0 C w.heap.size) 59)
theorem fmW_size (w : World) (C : Nat) : (fmW w C).heap.size = w.heap.size + 1 + 1 + 1 + 1 + 1 := by unfold fmW; simp
theorem fmW_below (w : World) (C : Nat) : Below w.heap.size w (fmW w C) := by
  unfold fmW
  exact (((((Below.refl _ _).alloc (Nat.le_refl _) _).alloc (by simp) _).alloc (by simp; omega) _).alloc (by simp; omega) _).alloc (by simp; omega) _
theorem fmt_ft {w8 w11 : World} {P : List UInt8 → Prop} {M ML cap s : Nat} (hSB : ∀ q, S q → B ≤ q ∧ q < w.heap.size) (hB0 : B ≤ w.heap.size) (hs : s = w8.heap.size) (hi : FmI B S w C BL G gb 16 S' ps' w8) (hb : Below (fmW w8 C).heap.size (fmW w8 C) w11) (hM : (fmW w8 C).heap.size ≤ M) (hML : (fmW w8 C).heap.size ≤ ML) (hg : MgM 16 B S' w11 (fmG M ML C BL cap ps' P)) :
    w11.cell? ⟨s + 1 + 1 + 1 + 1, 1, none⟩ = some (.pointer none) ∧ w11.frozen? ⟨s + 1 + 1 + 1 + 1, 1, none⟩ = false ∧ FtR 16 B S w (w11.setCell ⟨s + 1 + 1 + 1 + 1, 1, none⟩ (.pointer (some ⟨M, 0, none⟩))) (fm0 (s + 1 + 1 + 1 + 1) s (s + 1) (s + 1 + 1) (s + 1 + 1 + 1) (fmG M ML C BL cap ps' P)) := by
  have hsz := fmW_size w8 C
  rw [← hs] at hsz
  have hF9 : Blk (fmW w8 C) (s + 1 + 1 + 1 + 1) 59 (fmA0 C s) := by
    have h1 := Blk.new ((((w8.alloc (.map #[] 0)).alloc (.map #[] 0)).alloc (.map #[] 0)).alloc (.cells ((List.replicate 16 false).map bolV).toArray 4)) 59 (fmA0 C w8.heap.size)
    simp only [World.size_alloc] at h1
    rw [hs]
    exact h1
  have hF := hF9.belowHere hb
  have hold : ∀ q, q < s + 1 + 1 + 1 + 1 → (w11.setCell ⟨s + 1 + 1 + 1 + 1, 1, none⟩ (.pointer (some ⟨M, 0, none⟩))).heap[q]? = (fmW w8 C).heap[q]? := fun q hq => (heap_setCell_other _ _ _ _ (by show q ≠ s + 1 + 1 + 1 + 1; omega)).trans (hb.block q (by omega))
  have hq1 : Kq (fun q => q = s + 1 + 1 + 1 + 1) w11 (w11.setCell ⟨s + 1 + 1 + 1 + 1, 1, none⟩ (.pointer (some ⟨M, 0, none⟩))) := Kq.one ⟨_, _, none⟩ _
  have hS' : ∀ q, S' q → B ≤ q ∧ q < s := fun q hq => ⟨hi.hc.lo q hq, by rw [hs]; exact hi.hc.hi q hq⟩
  have hw := hi.hk.size
  have hBs : B ≤ w8.heap.size := hi.hc.base
  have hsz11 := hb.size
  have hkw : Kq S w (w11.setCell ⟨s + 1 + 1 + 1 + 1, 1, none⟩ (.pointer (some ⟨M, 0, none⟩))) := ((hi.hk.on (fmW_below w8 C)).on hb).setCell (p := ⟨s + 1 + 1 + 1 + 1, 1, none⟩) (.inr (by show w.heap.size ≤ s + 1 + 1 + 1 + 1; omega)) _
  have hMlt : M < w11.heap.size := hg.hi M (.inl rfl)
  have hMLlt : ML < w11.heap.size := hg.hi ML (.inr (.inl rfl))
  have hBw : ∀ q, Up S w (w11.setCell ⟨s + 1 + 1 + 1 + 1, 1, none⟩ (.pointer (some ⟨M, 0, none⟩))) q → B ≤ q ∧ q < (w11.setCell ⟨s + 1 + 1 + 1 + 1, 1, none⟩ (.pointer (some ⟨M, 0, none⟩))).heap.size := fun q hq => by
    rw [World.size_setCell] at *
    rcases hq with e | e
    · have := hSB q e
      omega
    · rw [World.size_setCell] at e
      omega
  refine ⟨hF.cellv rfl, hF.frozen 1, ft_made (S := S') ?_ ?_ ?_ ?_ ?_ rfl rfl ?_ ?_ ?_ ?_ hBw, hkw⟩
  · exact hF.set 1 _
  · refine MapE.same (w := fmW w8 C) ?_ (hold s (by omega))
    have h1 := ((((MapE.made w8).alloc (.map #[] 0)).alloc (.map #[] 0)).alloc (.cells ((List.replicate 16 false).map bolV).toArray 4)).alloc (.cells (fmA0 C w8.heap.size) 59)
    rw [hs]
    exact h1
  · refine MapE.same (w := fmW w8 C) ?_ (hold (s + 1) (by omega))
    have h1 := (((MapE.made (w8.alloc (.map #[] 0))).alloc (.map #[] 0)).alloc (.cells ((List.replicate 16 false).map bolV).toArray 4)).alloc (.cells (fmA0 C w8.heap.size) 59)
    simp only [World.size_alloc] at h1
    rw [hs]
    exact h1
  · refine MapE.same (w := fmW w8 C) ?_ (hold (s + 1 + 1) (by omega))
    have h1 := ((MapE.made ((w8.alloc (.map #[] 0)).alloc (.map #[] 0))).alloc (.cells ((List.replicate 16 false).map bolV).toArray 4)).alloc (.cells (fmA0 C w8.heap.size) 59)
    simp only [World.size_alloc] at h1
    rw [hs]
    exact h1
  · have h1 := Own.made (f := bolV) (e := 4) (w := ((w8.alloc (.map #[] 0)).alloc (.map #[] 0)).alloc (.map #[] 0)) (base := 0) (xs := List.replicate 16 false) (Nat.zero_le _) (by simp [maxLen])
    have h2 := h1.alloc (.cells (fmA0 C w8.heap.size) 59)
    simp only [World.size_alloc, List.length_replicate] at h2
    have h3 : Own bolV 4 (fmW w8 C) 0 (.slice (some ⟨s + 1 + 1 + 1, 0, none⟩) 16 16) (List.replicate 16 false) := by rw [hs]; exact h2
    exact (h3.on hb).kq hq1 fun q e => by obtain rfl := own_of _ _ _ _ e; omega
  · refine hg.kq hq1 fun q hq e => ?_
    rcases hq with e1 | e1 | e1
    · have : q = M := e1
      omega
    · have : q = ML := e1
      omega
    · have := hS' q e1
      omega
  · simp [fm0]; omega
  · intro q hq
    simp only [fm0, List.mem_cons, List.not_mem_nil, or_false] at hq
    refine ⟨fun h1 => ?_, by omega, .inr ⟨by omega, by rw [World.size_setCell]; omega⟩⟩
    rcases h1 with e1 | e1 | e1
    · have : q = M := e1
      omega
    · have : q = ML := e1
      omega
    · have := hS' q e1
      omega
  · intro q hq
    rcases hq with e1 | e1 | e1
    · have : q = M := e1
      exact .inr ⟨by omega, by rw [World.size_setCell]; omega⟩
    · have : q = ML := e1
      exact .inr ⟨by omega, by rw [World.size_setCell]; omega⟩
    · rcases hi.up q e1 with e2 | e2
      · exact .inl e2
      · exact .inr ⟨e2.1, by rw [World.size_setCell]; omega⟩
/-- The one page that is on a chip that was formatted. -/
def sealP (tx : List UInt8) (L : List UInt8) : Prop := L = Tg.page ⟨2, 0, 1, 1⟩ (headL tx)
/-- What Format leaves. -/
def Fmtd (B : Nat) (S : Nat → Prop) (C : Nat) (tx : List UInt8) (w : World) (e : Ending) (w' : World) : Prop :=
  ∃ f, e = .returned (.tuple #[.pointer (some ⟨f.F, 0, none⟩), .int .i64 0]) ∧ FtR 16 B S w w' f ∧ f.g.C = C ∧ Fmd f tx ∧ f.g.gh = sealP tx
set_option maxRecDepth 100000 in
set_option maxHeartbeats 16000000 in
theorem fFormat_calls (h : ChM 16 B S w C BL ps (fun _ => fresh 0)) (a : Option Addr) (c : Nat) (tx : List UInt8) (hx : Bytes w w.heap.size a 56 tx) (hap : ∀ b o, a = some ⟨b, o, none⟩ → ¬ S b) :
    Calls Tryz.prog 20 #[.pointer (some ⟨C, 0, none⟩), .int .i64 2, .slice a 56 c] w (Fmtd B S C tx w) := by
  rw [← once_zero] at h
  have HU := Lib.hid (chUp_calls h)
  have HH := Lib.hid h
  have HG := Lib.hid (fun (W : World) (hW : Below w.heap.size w W) => chGeo_calls (h.on hW))
  have HX := Lib.hid hx
  have HAp := Lib.hid hap
  have HAb := Lib.hid (show ∀ b o, a = some ⟨b, o, none⟩ → b < w.heap.size from fun b o e => by obtain ⟨b', o', e', hlt, _⟩ := hx.2.2 (by omega); rw [e] at e'; injection e' with e'; injection e' with e'; omega)
  have hf2 := geoF2 (.int .i64 16) (.int .i64 8) (.int .i64 64)
  have hcs := geoCells
  have HBa := Lib.hid (fun (W : World) (hW : Below w.heap.size w W) => badBlocks_calls (h.on hW) (by decide) (fun k _ => once_bad 0 k))
  have HDa := Lib.hid (fun (W : World) => show Calls Tryz.prog 38 #[.agg #[.int .i64 16, .int .i64 8, .int .i64 64], .int .i64 2, .int .i64 0] W fun e w' => e = .returned (.int .i64 13) ∧ Below W.heap.size W w' from fdataBlocks_calls (w := W) (NB := 16) (by decide))
  clear h hx hap
  go_enter Tryz.func20, Tryz.ntmps20
  go_wp2_with fail
  refine (HU.out).mono ?_
  rintro e w_ ⟨rfl, rfl⟩
  go_wp2_with fail
  refine (HG.out w (Below.refl _ _)).mono ?_
  rintro e w1 ⟨rfl, hb1⟩
  have HB1 := Lib.hid hb1
  clear hb1
  unfold geoV
  go_wp2_with fail
  refine (HG.out w1 HB1.out).mono ?_
  rintro e w2 ⟨rfl, hb2⟩
  have hb3 := (HB1.out.then_ hb2).alloc (HB1.out.then_ hb2).size (.cells #[.int .i64 16, .int .i64 8, .int .i64 64] 48)
  have HB2 := Lib.hid hb3
  have HGb := Lib.hid (Blk.new w2 48 #[.int .i64 16, .int .i64 8, .int .i64 64])
  have HG2 := Lib.hid (HB1.out.then_ hb2).size
  clear hb2 hb3
  unfold geoV
  go_upto_region 8 with fail
  have HSz := Lib.hid (fun q (e : S q) => HH.out.hi q e)
  generalize w2.alloc (.cells #[.int .i64 16, .int .i64 8, .int .i64 64] 48) = w3 at *
  generalize w2.heap.size = G at *
  have HBw := Lib.hid (HB2.out.then_ (below_drew w3))
  have HGd := Lib.hid (show Blk w3.drew G 48 #[.int .i64 16, .int .i64 8, .int .i64 64] from HGb.out.belowHere (below_drew w3))
  refine wp_region_noPanic ?_
  refine wp_region_held_drew (S := (fun W' => Blk W' G 48 #[.int .i64 16, .int .i64 8, .int .i64 64])) (by kernel_rfl) HGd.out (fun hS0 => ?_)
  generalize w3.drew = W at *
  refine takeV 0 (v := (.agg #[.int .i64 16, .int .i64 8, .int .i64 64])) rfl (by kernel_rfl) (by kernel_rfl) (by kernel_rfl) (fun _ _ _ h => h) (by rfl) (fun W hSw => ?_) (by assumption) ?_
  · have y0 := hSw.cellv (i := 0) rfl; have y1 := hSw.cellv (i := 1) rfl; have y2 := hSw.cellv (i := 2) rfl
    go_simp
  try simp only [layR]
  refine takeV 1 (v := (.int .i64 2)) rfl (by kernel_rfl) (by kernel_rfl) (by kernel_rfl) (fun _ _ _ h => h) (by rfl) (fun _ _ => rfl) (by assumption) ?_
  try simp only [layR]
  refine takeV 2 (v := (.pointer (some ⟨C, 0, none⟩))) rfl (by kernel_rfl) (by kernel_rfl) (by kernel_rfl) (fun _ _ _ h => h) (by rfl) (fun _ _ => rfl) (by assumption) ?_
  try simp only [layR]
  refine wpAnyH_ready (rs := [3]) (by kernel_rfl) (by simp) ?_
  refine AllReadyH.cons rfl (fun K' hK => ?_) AllReadyH.nil
  go_simp
  refine (HBa.out W HBw.out).mono ?_
  rintro e w4 ⟨rfl, hb4⟩
  have hS4 := hS0.belowHere hb4
  have HB4 := Lib.hid (HBw.out.then_ hb4)
  clear hb4
  refine hK.out _ _ hS4 (fun hS5 => ?_)
  try simp only [layR]
  refine wpAnyH_ready (rs := [4]) (by kernel_rfl) (by simp) ?_
  refine AllReadyH.cons rfl (fun K' hK => ?_) AllReadyH.nil
  go_simp
  refine (HDa.out w4).mono ?_
  rintro e w5 ⟨rfl, hb5⟩
  have hS6 := hS5.belowHere hb5
  have HB5 := Lib.hid (HB4.out.then_ hb5)
  clear hb5
  refine hK.out _ _ hS6 (fun hS7 => ?_)
  try simp only [layR]
  refine takeV 5 (v := (.bool false)) rfl (by kernel_rfl) (by kernel_rfl) (by kernel_rfl) (fun _ _ _ h => h) (by rfl) (fun W hSw => ?_) (by assumption) ?_
  · skip
    go_simp
  try simp only [layR]
  refine wpAnyH_done (by kernel_rfl) ?_ _
  refine NoPanic.normal ?_
  have HG5 := Lib.hid hS6
  have g0 := hS6.cellv (i := 0) (v := .int .i64 16) rfl
  clear hS0 hS4 hS5 hS6 hS7 HGd HGb HBw HB2 HB4 HB1
  have hmk := fmBools
  go_upto_region 11 with fail
  generalize hwa : w5.alloc _ = w6
  have HF0 := Lib.hid (show FmI B S w C BL G w5.heap.size 0 S ps w6 from by
    rw [← hwa]
    have hb6 := (Below.refl w5.heap.size w5).alloc (Nat.le_refl _) (.cells ((List.replicate 16 false).map bolV).toArray 4)
    have hs5 := HB5.out.size
    have hg := HG5.out.lt
    have hg2 := HG2.out
    exact ⟨HH.out.on (HB5.out.then_ hb6), HG5.out.belowHere hb6, Own.made (f := bolV) (e := 4) (w := w5) (base := w.heap.size) (xs := List.replicate 16 false) hs5 (by simp [maxLen]), Kq.of (HB5.out.then_ hb6), fun q hq => .inl hq, fun e => by have := HSz.out _ e; omega, fun e => by have := HSz.out _ e; omega, hg2, hs5, by omega⟩)
  generalize w5.heap.size = gb at *
  clear hwa g0 hmk HG5 HB5 HBa
  go_wp2_with fail
  go_loopw [10, 11, 51] (fun _ _ i wr => ∃ (k : Nat) (S' : Nat → Prop) (ps' : Nat → Nat), k ≤ 16 ∧ i = .int .i64 (k : Int) ∧ FmI B S w C BL G gb k S' ps' wr) (fun _ _ i _ => 16 - (intOf i).toNat)
  case atStart => exact ⟨0, S, ps, by omega, rfl, HF0.out⟩
  case round =>
    obtain ⟨k, S', ps', hk, rfl, hi⟩ := hrel
    clear HF0
    by_cases hlt : k < 16
    · have hk0 : (0 : Int) ≤ (k : Int) := by omega
      have hk1 : (k : Int) < 16 := by omega
      have hba := chBad_calls hi.hc hlt
      have her := chErase_calls hi.hc hlt (once_at k).1 (by rw [(once_at k).2]; decide)
      rw [(once_at k).1] at hba
      rw [(once_at k).2] at her
      have HBad := Lib.hid hba
      have HEr := Lib.hid her
      have HI := Lib.hid hi
      clear hba her hi
      go_wp2_with fail
      refine HBad.out.mono ?_
      rintro e w_ ⟨rfl, rfl⟩
      go_wp2_with fail
      refine HEr.out.mono ?_
      rintro e w7 ⟨rfl, ⟨ps2, hc⟩, hq⟩
      obtain ⟨c1, c2, h2⟩ := HI.out.erase hc hq hlt
      have H2 := Lib.hid h2
      clear hc hq h2
      generalize (truB k)[k]'(by rw [truB_len (by omega)]; exact hlt) = bk at *
      go_wp2_with fail
      go_roundw
      case rel => exact ⟨k + 1, _, _, by omega, by go_num, H2.out⟩
      case measure => simp [intOf]; omega
    · obtain rfl : k = 16 := by omega
      have HI := Lib.hid hi
      have HBad := Lib.hid (badBlocks_calls hi.hc (by decide) (fun k _ => once_bad 16 k))
      clear hi
      go_wp2_with fail
      refine HBad.out.mono ?_
      rintro e w7 ⟨rfl, hb7⟩
      have HI7 := Lib.hid (HI.out.on hb7)
      clear hb7
      have g0 := HI7.out.hG.cellv (i := 0) (v := .int .i64 16) rfl
      have g1 := HI7.out.hG.cellv (i := 1) (v := .int .i64 8) rfl
      have g2 := HI7.out.hG.cellv (i := 2) (v := .int .i64 64) rfl
      go_wp2_with fail
      refine (HDa.out w7).mono ?_
      rintro e w8 ⟨rfl, hb8⟩
      have HI8 := Lib.hid (HI7.out.on hb8)
      clear hb8 g0 g1 g2
      have g0 : (((w8.alloc (.map #[] 0)).alloc (.map #[] 0)).alloc (.map #[] 0)).cell? ⟨G, 0, none⟩ = some (.int .i64 16) := (((HI8.out.hG.alloc _).alloc _).alloc _).cellv rfl
      have hmk := fmBools
      have hmm := @run_makeMap Tryz.prog
      go_upto_region 27 with fail
      generalize hw9 : World.alloc _ _ = w9
      have hw9' : w9 = fmW w8 C := hw9.symm
      obtain ⟨s, hs⟩ : ∃ s, s = w8.heap.size := ⟨_, rfl⟩
      rw [← hs]
      have HW9 := Lib.hid hw9'
      have HSs := Lib.hid hs
      clear hw9 hw9' hs g0 hmk hmm
      have hb9 : Below w8.heap.size w8 w9 := by rw [HW9.out]; exact fmW_below w8 C
      have HB9 := Lib.hid hb9
      have g0 := (HI8.out.hG.belowHere hb9).cellv (i := 0) (v := .int .i64 16) rfl
      clear hb9
      have hmi := fmInts w9
      have HLv := Lib.hid (show Own naV 3 (w9.alloc (.cells ((List.replicate 16 0).map naV).toArray 3)) w9.heap.size (.slice (some ⟨w9.heap.size, 0, none⟩) 16 16) (List.replicate 16 0) from Own.made (f := naV) (e := 3) (w := w9) (base := w9.heap.size) (xs := List.replicate 16 0) (Nat.le_refl _) (by simp [maxLen]))
      have HBl := Lib.hid ((Below.refl w9.heap.size w9).alloc (Nat.le_refl _) (.cells ((List.replicate 16 0).map naV).toArray 3))
      generalize hcz : (Obj.cells ((List.replicate 16 0).map naV).toArray 3) = oz at *
      clear hcz
      go_wp2_with fail
      have HI10 := Lib.hid ((HI8.out.on HB9.out).on HBl.out)
      refine (bOpen_calls HI10.out.hc (by decide) (by decide) (fun k _ => Nat.le_trans (once_wear 16 k) (by decide)) _ 16 (truB 16) (HI10.out.ho.arr (by rw [truB_len (Nat.le_refl _)]; decide)) _ 16 _ (HLv.out.arr (by simp)) (fun k hk => by
        have e : (List.replicate 16 0).getD k 0 = 0 := by rw [List.getD_eq_getElem?_getD, List.getElem?_replicate]; split <;> rfl
        rw [e]; exact ⟨by omega, fun _ => rfl⟩) 2 0).mono ?_
      rintro e w11 ⟨M, ML, cap, rfl, hM, hML, hm, hb⟩
      rw [show (⟨M, ML, C, BL, cap, ps', once 16, openL (once 16) (truB 16) (List.replicate 16 0) 16, -1, ((2 : Nat) : Int), ((0 : Nat) : Int), decide (4 < (Gc.greatest (openL (once 16) (truB 16) (List.replicate 16 0) 16) : Int) - Gc.least (openL (once 16) (truB 16) (List.replicate 16 0) 16)), fun _ => True⟩ : Mg) = fmG M ML C BL cap ps' (fun _ => True) from fmG_of] at hm
      have hm : MgM 16 B S' w11 (fmG M ML C BL cap ps' (sealP tx)) := hm.ghost (sealP tx)
      have hsz := HBl.out.size
      obtain ⟨c1, z1, h12⟩ := fmt_ft (fun q hq => ⟨HH.out.lo q hq, HH.out.hi q hq⟩) HH.out.base HSs.out HI8.out (w11 := w11) (M := M) (ML := ML) (cap := cap) (by rw [← HW9.out]; exact HBl.out.then_ hb) (by rw [← HW9.out]; omega) (by rw [← HW9.out]; omega) hm
      have H12 := Lib.hid h12
      clear hb hm hM hML hsz h12 hmi g0 HLv HI10 HBl
      have HFc := Lib.hid (fm0_fc (s + 1 + 1 + 1 + 1) s (s + 1) (s + 1 + 1) (s + 1 + 1 + 1) M ML C BL cap ps' (sealP tx))
      generalize hf0 : fm0 (s + 1 + 1 + 1 + 1) s (s + 1) (s + 1 + 1) (s + 1 + 1 + 1) (fmG M ML C BL cap ps' (sealP tx)) = f0 at *
      have HF0 := Lib.hid hf0.symm
      have hfF : f0.F = s + 1 + 1 + 1 + 1 := by rw [← hf0]; rfl
      clear hf0
      have HX12 := Lib.hid ((HX.out.kq (Nat.le_refl _) H12.out.2 HAp.out).mono H12.out.2.size)
      have hse := fSeal_calls H12.out.1 HFc.out (by rw [HF0.out]; exact (show 1 ≤ 1000000 by decide)) a c tx (by rw [HF0.out]; exact rfl) HX12.out (fun b o e h1 => HAp.out b o e (up_of h1 (HAb.out b o e))) (.inr (by rw [HF0.out]; exact (show (0 : Nat) + 3 ≤ 8 * (16 - 3) by decide)))
      rw [hfF] at hse
      have HSe := Lib.hid hse
      clear hse
      go_wp2_with fail
      refine HSe.out.mono ?_
      rintro e w13 ⟨rfl, f', hfr, hsd⟩
      rw [HF0.out] at hsd
      obtain ⟨q1, q2, q3, q4⟩ := fmd hsd
      have HQ4 := Lib.hid q4
      have H13 := Lib.hid (H12.out.then_ hfr)
      have HQ := Lib.hid q1
      have HQ3 := Lib.hid q3
      have HQ2 := Lib.hid q2
      clear q1 q2 q3 q4 hfr hsd
      go_wp2_with fail
      go_ret2
      exact ⟨f', by rw [HQ2.out]; rfl, H13.out, HQ3.out, HQ.out, HQ4.out⟩
end
end Go.Proofs.YtiipnpfaaghekaaGreat
/-
  A new chip, all its blocks.
-/
namespace Go.Proofs.YtiipnpfaaghekaaGreat
open Go.RowKit

/-- 64 bytes that begin so. -/
def pageL (b : List UInt8) : List UInt8 := b.take 64 ++ (List.replicate 64 (0 : UInt8)).drop b.length
theorem pageL_len (b : List UInt8) : (pageL b).length = 64 := by simp [pageL]; omega
set_option maxHeartbeats 4000000 in
theorem page_calls (a : Option Addr) (n c : Nat) (b : List UInt8) (w : World) (hx : Bytes w w.heap.size a n b) :
    Calls Tryz.prog 7 #[.slice a n c] w fun e w' => (∃ a' c', e = .returned (.slice a' 64 c') ∧ Own byteV 5 w' w.heap.size (.slice a' 64 c') (pageL b)) ∧ Below w.heap.size w w' := by
  have hmk := mk64
  have HO := Lib.hid (ownMadeZ w w.heap.size 64 (Nat.le_refl _) (by omega))
  have HB := Lib.hid ((Below.refl w.heap.size w).alloc (Nat.le_refl _) (.cells (Array.replicate 64 (.int .u8 0)) 5))
  have HX := Lib.hid (hx.alloc (.cells (Array.replicate 64 (.int .u8 0)) 5))
  have hl := hx.len
  clear hx
  go_enter Tryz.func7, Tryz.ntmps7
  go_wp2_with (with_reducible refine wpList_copy0 rfl _ _ rfl w.heap.size w.heap.size 64 64 _ rfl HO.out _ a n c b rfl HX.out ?_; intro w2 HO2 HB2)
  go_ret
  refine ⟨⟨_, _, rfl, ?_⟩, HB.out.trans HB2.out⟩
  have h5 := HO2.out
  unfold pageL
  rw [hl]
  exact h5
end Go.Proofs.YtiipnpfaaghekaaGreat
/-
  A translation on a new small chip.
-/
namespace Go.Proofs.YtiipnpfaaghekaaGreat
open Go.RowKit

def rowJ (ps : Nat → Nat) (k j : Nat) : Bv := if j < k then pbV (ps j) (fresh 0) else bv0
/-- The first k blocks have their rows of pages. -/
structure BlJ (g : Nat) (w wr : World) (k : Nat) (ps : Nat → Nat) : Prop where
  hG : Blk wr g 48 #[.int .i64 16, .int .i64 8, .int .i64 64]
  hC : Blk wr (g + 2) 94 (chQ 16 (g + 1) 0 0 0)
  hB : OwnM 5 bvL 90 wr g (.slice (some ⟨g + 1, 0, none⟩) 16 16) ((List.range 16).map (rowJ ps k))
  hP : ∀ j, j < k → Own vId 22 wr g (.slice (some ⟨ps j, 0, none⟩) 8 8) nil8 ∧ g + 2 < ps j ∧ ps j < wr.heap.size
  inj : ∀ i j, i < k → j < k → ps i = ps j → i = j
  hb : Below g w wr
theorem BlJ.on {g k : Nat} {w wr w' : World} {ps : Nat → Nat} (h : BlJ g w wr k ps) (hb : Below wr.heap.size wr w') : BlJ g w w' k ps := by
  obtain ⟨h1, h2, h3, h4, h5, h6⟩ := h
  exact ⟨h1.belowHere hb, h2.belowHere hb, h3.on hb, fun j hj => ⟨(h4 j hj).1.on hb, (h4 j hj).2.1, Nat.lt_of_lt_of_le (h4 j hj).2.2 hb.size⟩, h5, h6.trans (hb.mono (Nat.le_of_lt h1.lt))⟩
theorem BlJ.step {g k : Nat} {w wr : World} {ps : Nat → Nat} (h : BlJ g w wr k ps) (hk : k < 16) :
    BlJ g w ((wr.alloc (.cells (nil8.map vId).toArray 22)).setCell ⟨g + 1, k * 5, none⟩ (.slice (some ⟨wr.heap.size, 0, none⟩) 8 8)) (k + 1) (upd ps k wr.heap.size) := by
  have hlt := h.hC.lt
  have hbe := h.hb
  have ho := ownPgs wr g (by omega)
  have hold := fun j hj => (h.hP j hj).2.2
  have hinj := h.inj
  have hsz : (wr.alloc (.cells (nil8.map vId).toArray 22)).heap.size = wr.heap.size + 1 := by simp
  obtain ⟨h1, h2, h3, h4, h5, h6⟩ := h.on ((Below.refl wr.heap.size wr).alloc (Nat.le_refl _) (.cells (nil8.map vId).toArray 22))
  generalize wr.alloc (.cells (nil8.map vId).toArray 22) = wp at *
  have hset := h3.set (i := k) (j := 0) (u := .slice (some ⟨wr.heap.size, 0, none⟩) 8 8) (y := pbV wr.heap.size (fresh 0)) (by simpa using hk) (by omega) (by
    rw [List.getElem_map, List.getElem_range, rowJ, if_neg (Nat.lt_irrefl _)]; rfl)
  refine ⟨h1.far (by simp) _, h2.far (by simp) _, ?_, fun j hj => ?_, fun i j hi hj e => ?_, h6.setCell (p := ⟨g + 1, k * 5, none⟩) (by simp) _⟩
  · have e : ((List.range 16).map (rowJ ps k)).set k (pbV wr.heap.size (fresh 0)) = (List.range 16).map (rowJ (upd ps k wr.heap.size) (k + 1)) := by
      apply List.ext_getElem
      · simp
      · intro i g1 g2
        rw [List.getElem_set]
        simp only [List.getElem_map, List.getElem_range, rowJ]
        by_cases e : k = i
        · subst e; rw [if_pos rfl, if_pos (by omega), upd_same]
        · rw [if_neg e, upd_other _ _ (Ne.symm e)]
          by_cases e2 : i < k
          · rw [if_pos e2, if_pos (by omega)]
          · rw [if_neg e2, if_neg (by omega)]
    rw [e] at hset
    exact hset
  · by_cases e : j = k
    · subst e
      rw [upd_same]
      exact ⟨ho.far (by simp [Value.ownBlock]; omega) _, hlt, by rw [World.size_setCell]; omega⟩
    · rw [upd_other _ _ e]
      obtain ⟨p1, p2, p3⟩ := h4 j (by omega)
      exact ⟨p1.far (by simp [Value.ownBlock]; omega) _, p2, by rw [World.size_setCell]; exact p3⟩
  · by_cases e1 : i = k
    · by_cases e2 : j = k
      · rw [e1, e2]
      · rw [e1, upd_same, upd_other _ _ e2] at e
        have := hold j (by omega); omega
    · by_cases e2 : j = k
      · rw [e2, upd_same, upd_other _ _ e1] at e
        have := hold i (by omega); omega
      · rw [upd_other _ _ e1, upd_other _ _ e2] at e
        exact hinj i j (by omega) (by omega) e
set_option maxRecDepth 100000 in
set_option maxHeartbeats 4000000 in
theorem blankJ_calls (w : World) :
    Calls Tryz.prog 47 #[.agg #[.int .i64 16, .int .i64 8, .int .i64 64]] w fun e w' => e = .returned (.pointer (some ⟨w.heap.size + 2, 0, none⟩)) ∧ ∃ ps, BlJ w.heap.size w w' 16 ps := by
  have B1 := Blk.new w 48 #[.int .i64 16, .int .i64 8, .int .i64 64]
  have hb := (Below.refl w.heap.size w).alloc (Nat.le_refl _) (.cells #[.int .i64 16, .int .i64 8, .int .i64 64] 48)
  obtain ⟨w1, hw1⟩ : ∃ w1, w1 = w.alloc (.cells #[.int .i64 16, .int .i64 8, .int .i64 64] 48) := ⟨_, rfl⟩
  obtain ⟨g, hg⟩ : ∃ g, g = w.heap.size := ⟨_, rfl⟩
  have hs1 : w1.heap.size = g + 1 := by rw [hw1, hg]; simp
  rw [← hw1] at B1 hb
  rw [← hg] at B1 hb ⊢
  have HBd := Lib.hid (show Blk w1.drew g 48 #[.int .i64 16, .int .i64 8, .int .i64 64] from B1)
  have HB := Lib.hid hb
  have HS1 := Lib.hid hs1
  have hmk := makeBlk w1.drew
  have HBg := Lib.hid B1
  have hC0 := Blk.new (w1.alloc (.cells (bvs0.flatMap bvL).toArray 90)) 94 (chQ 16 (g + 1) 0 0 0)
  have hG0 := (B1.alloc (.cells (bvs0.flatMap bvL).toArray 90)).alloc (.cells (chQ 16 (g + 1) 0 0 0) 94)
  have hO0 := (ownBlk w1 g (by omega)).alloc (.cells (chQ 16 (g + 1) 0 0 0) 94)
  have hB0 := (hb.alloc (by omega) (.cells (bvs0.flatMap bvL).toArray 90)).alloc (by simp; omega) (.cells (chQ 16 (g + 1) 0 0 0) 94)
  rw [World.size_alloc, hs1] at hC0
  rw [hs1] at hO0
  have HI := Lib.hid (show BlJ g w ((w1.alloc (.cells (bvs0.flatMap bvL).toArray 90)).alloc (.cells (chQ 16 (g + 1) 0 0 0) 94)) 0 (fun _ => 0) from ⟨hG0, hC0, hO0, fun _ h => absurd h (by omega), fun _ _ h => absurd h (by omega), hB0⟩)
  clear B1 hb hC0 hG0 hO0 hB0
  go_enter Tryz.func47, Tryz.ntmps47
  go_wp2_with fail
  rw [← hw1, ← hg]
  clear hw1 hg hs1
  refine wp_region_noPanic ?_
  refine wp_region_held_drew (S := (fun W' => Blk W' g 48 #[.int .i64 16, .int .i64 8, .int .i64 64])) (by kernel_rfl) HBd.out (fun hS0 => ?_)
  refine takeV 0 (v := (.agg #[.int .i64 16, .int .i64 8, .int .i64 64])) rfl (by kernel_rfl) (by kernel_rfl) (by kernel_rfl) (fun _ _ _ h => h) (by rfl) (fun W hSw => ?_) (by assumption) ?_
  · have y0 := hSw.cellv (i := 0) rfl; have y1 := hSw.cellv (i := 1) rfl; have y2 := hSw.cellv (i := 2) rfl
    go_simp
  try simp only [layR]
  refine takeV 1 (v := (.pointer (some ⟨g, 0, none⟩))) rfl (by kernel_rfl) (by kernel_rfl) (by kernel_rfl) (fun _ _ _ h => h) (by rfl) (fun W hSw => ?_) (by assumption) ?_
  · skip
    go_simp
  try simp only [layR]
  refine takeV 2 (v := (.int .i64 16)) rfl (by kernel_rfl) (by kernel_rfl) (by kernel_rfl) (fun _ _ _ h => h) (by rfl) (fun W hSw => ?_) (by assumption) ?_
  · have y0 := hSw.cellv (i := 0) rfl
    go_simp
  try simp only [layR]
  refine wpAnyH_ready (rs := [3]) (by kernel_rfl) (by simp) ?_
  refine AllReadyH.cons rfl (fun K' hK => ?_) AllReadyH.nil
  go_simp
  refine hK.out _ _ (HBg.out.alloc _).drew (fun hS1 => ?_)
  try simp only [layR]
  refine takeV 4 (v := (.agg #[.int .i64 16, .int .i64 8, .int .i64 64, .slice (some ⟨w1.heap.size, 0, none⟩) 16 16, .slice none 0 0, .int .i64 0, .bool false, .int .i64 0, .int .i64 0])) rfl (by kernel_rfl) (by kernel_rfl) (by kernel_rfl) (fun _ _ _ h => h) (by rfl) (fun W hSw => ?_) (by assumption) ?_
  · skip
    go_simp
  try simp only [layR]
  refine wpAnyH_ready (rs := [5]) (by kernel_rfl) (by simp) ?_
  refine AllReadyH.cons rfl (fun K' hK => ?_) AllReadyH.nil
  go_simp
  refine hK.out _ _ ((HBg.out.alloc _).alloc _).drew (fun hS2 => ?_)
  try simp only [layR]
  refine takeV 6 (v := (.pointer (some ⟨w1.heap.size + 1, 0, none⟩))) rfl (by kernel_rfl) (by kernel_rfl) (by kernel_rfl) (fun _ _ _ h => h) (by rfl) (fun _ _ => rfl) (by assumption) ?_
  try simp only [layR]
  refine wpAnyH_done (by kernel_rfl) ?_ _
  refine NoPanic.normal ?_
  clear hS0 hS1 hS2 hmk
  rw [HS1.out]
  change Exit.then _ _ _ _ ((w1.alloc (.cells (bvs0.flatMap bvL).toArray 90)).alloc (.cells (chQ 16 (g + 1) 0 0 0) 94)).drew
  have HI3 := HI.out.on (below_drew _)
  generalize ((w1.alloc (.cells (bvs0.flatMap bvL).toArray 90)).alloc (.cells (chQ 16 (g + 1) 0 0 0) 94)).drew = w3 at *
  have c3 : w3.cell? ⟨g + 1 + 1, 3, none⟩ = some (.slice (some ⟨g + 1, 0, none⟩) 16 16) := HI3.hC.cellv rfl
  have HJ := Lib.hid HI3
  clear HI HI3 HB HBd HBg HS1
  go_wp2_with fail
  go_loopw [4, 16] (fun _ i wr => ∃ k : Nat, k ≤ 16 ∧ i = .int .i64 k ∧ ∃ ps, BlJ g w wr k ps) (fun _ i _ => 16 - (intOf i).toNat)
  case atStart => exact ⟨0, by omega, rfl, _, HJ.out⟩
  case round =>
    obtain ⟨k, hk, rfl, ps, hI⟩ := hrel
    have HI := Lib.hid hI
    clear HJ
    by_cases hlt : k < 16
    · have hst := (hI.step hlt).on (below_drew _)
      have HSt := Lib.hid hst
      have hmk := makePgs wr.drew
      have k0 : (0 : Int) ≤ (k : Int) := by omega
      have k1 : (k : Int) < 16 := by omega
      have e3 : wr.drew.cell? ⟨g + 1 + 1, 3, none⟩ = some (.slice (some ⟨g + 1, 0, none⟩) 16 16) := (hI.on (below_drew _)).hC.cellv rfl
      have e1 : wr.drew.cell? ⟨g, 1, none⟩ = some (.int .i64 8) := (hI.on (below_drew _)).hG.cellv rfl
      have hgl := hI.hC.lt
      have HA := Lib.hid (hI.on (((Below.refl wr.heap.size wr).alloc (Nat.le_refl _) (.cells (nil8.map vId).toArray 22)).drew))
      obtain ⟨z1, z2⟩ := HA.out.hB.cellg (i := k) (j := 0) (by simpa using hlt) (by omega)
      obtain ⟨vz, z3⟩ : ∃ vz, ((wr.alloc (.cells (nil8.map vId).toArray 22)).drew).cell? ⟨g + 1, k * 5, none⟩ = some vz := ⟨_, z1⟩
      have z4 : ((wr.alloc (.cells (nil8.map vId).toArray 22)).drew).frozen? ⟨g + 1, k * 5, none⟩ = false := z2
      clear hst z1 z2 hI
      go_upto_region 5 with fail
      refine wp_region_noPanic ?_
      refine wp_region_held_drew (S := (fun W' => W'.cell? ⟨g + 1 + 1, 3, none⟩ = some (.slice (some ⟨g + 1, 0, none⟩) 16 16) ∧ W'.cell? ⟨g, 1, none⟩ = some (.int .i64 8))) (by kernel_rfl) ⟨e3, e1⟩ (fun hS0 => ?_)
      refine takeV 0 (v := (.pointer (some ⟨g + 1 + 1, 0, none⟩))) rfl (by kernel_rfl) (by kernel_rfl) (by kernel_rfl) (fun _ _ _ h => h) (by rfl) (fun _ _ => rfl) (by assumption) ?_
      try simp only [layR]
      refine takeV 1 (v := (.pointer (some ⟨g + 1 + 1, 0, none⟩))) rfl (by kernel_rfl) (by kernel_rfl) (by kernel_rfl) (fun _ _ _ h => h) (by rfl) (fun W hSw => ?_) (by assumption) ?_
      · skip
        go_simp
      try simp only [layR]
      refine takeV 2 (v := (.pointer (some ⟨g + 1 + 1, 3, none⟩))) rfl (by kernel_rfl) (by kernel_rfl) (by kernel_rfl) (fun _ _ _ h => h) (by rfl) (fun W hSw => ?_) (by assumption) ?_
      · skip
        go_simp
      try simp only [layR]
      refine takeV 3 (v := (.slice (some ⟨g + 1, 0, none⟩) 16 16)) rfl (by kernel_rfl) (by kernel_rfl) (by kernel_rfl) (fun _ _ _ h => h) (by rfl) (fun W hSw => ?_) (by assumption) ?_
      · have c9 := hSw.1
        go_simp
      try simp only [layR]
      refine takeV 4 (v := (.int .i64 (k : Int))) rfl (by kernel_rfl) (by kernel_rfl) (by kernel_rfl) (fun _ _ _ h => h) (by rfl) (fun _ _ => rfl) (by assumption) ?_
      try simp only [layR]
      refine takeV 5 (v := (.pointer (some ⟨g, 1, none⟩))) rfl (by kernel_rfl) (by kernel_rfl) (by kernel_rfl) (fun _ _ _ h => h) (by rfl) (fun W hSw => ?_) (by assumption) ?_
      · skip
        go_simp
      try simp only [layR]
      refine takeV 6 (v := (.int .i64 8)) rfl (by kernel_rfl) (by kernel_rfl) (by kernel_rfl) (fun _ _ _ h => h) (by rfl) (fun W hSw => ?_) (by assumption) ?_
      · have c9 := hSw.2
        go_simp
      try simp only [layR]
      refine wpAnyH_ready (rs := [7]) (by kernel_rfl) (by simp) ?_
      refine AllReadyH.cons rfl (fun K' hK => ?_) AllReadyH.nil
      go_simp
      have hlC : g + 1 + 1 < wr.drew.heap.size := hgl
      have hlG : g < wr.drew.heap.size := by show g < wr.heap.size; omega
      have hba := (Below.refl wr.drew.heap.size wr.drew).alloc (Nat.le_refl _) (.cells (nil8.map vId).toArray 22)
      refine hK.out _ _ ⟨(hba.cell (p := ⟨g + 1 + 1, 3, none⟩) hlC).trans hS0.1, (hba.cell (p := ⟨g, 1, none⟩) hlG).trans hS0.2⟩ (fun hS1 => ?_)
      try simp only [layR]
      refine takeV 8 (v := (.pointer (some ⟨g + 1, k * 5, none⟩))) rfl (by kernel_rfl) (by kernel_rfl) (by kernel_rfl) (fun _ _ _ h => h) (by rfl) (fun W hSw => ?_) (by assumption) ?_
      · skip
        go_simp
      try simp only [layR]
      refine takeV 9 (v := (.pointer (some ⟨g + 1, k * 5, none⟩))) rfl (by kernel_rfl) (by kernel_rfl) (by kernel_rfl) (fun _ _ _ h => h) (by rfl) (fun W hSw => ?_) (by assumption) ?_
      · skip
        go_simp
      try simp only [layR]
      refine wpAnyH_ready (rs := [10]) (by kernel_rfl) (by simp) ?_
      refine AllReadyH.cons rfl (fun K' hK => ?_) AllReadyH.nil
      go_simp
      refine hK.out _ _ ⟨(World.cell?_setCell_far _ _ _ _ (by simp)).trans hS1.1, (World.cell?_setCell_far _ _ _ _ (by simp)).trans hS1.2⟩ (fun hS2 => ?_)
      try simp only [layR]
      refine wpAnyH_done (by kernel_rfl) ?_ _
      refine NoPanic.normal ?_
      clear hS0 hS1 hS2 hmk hba
      go_wp2_with fail
      go_roundw
      case rel => exact ⟨k + 1, by omega, by go_num, _, HSt.out⟩
      case measure => simp [intOf]; omega
    · obtain rfl : k = 16 := by omega
      clear hI
      go_wp2_with fail
      go_ret
      exact ⟨rfl, _, HI.out⟩
/-- All that was made is the chip's own. -/
theorem BlJ.chm {g B : Nat} {w wr : World} {ps : Nat → Nat} (h : BlJ g w wr 16 ps) (hB : B ≤ g) : ChM 16 B (fun q => g ≤ q ∧ q < wr.heap.size) wr (g + 2) (g + 1) ps (fun _ => fresh 0) := by
  obtain ⟨h1, h2, h3, h4, h5, h6⟩ := h
  have hlt := h2.lt
  have e : (List.range 16).map (rowJ ps 16) = (List.range 16).map fun k => pbV (ps k) (fresh 0) := List.map_congr_left fun j hj => by rw [rowJ, if_pos (List.mem_range.1 hj)]
  rw [e] at h3
  refine ⟨⟨0, 0, 0, h2⟩, h3.mono (Nat.zero_le _), fun k hk => ⟨nil8, rfl, (h4 k hk).1.mono (Nat.zero_le _), fun i hi => ?_⟩, ⟨by omega, fun j hj => ?_, fun j hj => ?_, h5⟩, fun q hq => ?_, fun q hq => by omega, fun q hq => hq.2⟩
  · exact List.eq_of_mem_replicate (n := 8) (List.getElem_mem hi)
  · have := (h4 j hj).2.1; omega
  · have := (h4 j hj).2.1; omega
  · rcases hq with rfl | rfl | ⟨j, hj, rfl⟩
    · exact ⟨by omega, hlt⟩
    · exact ⟨by omega, by omega⟩
    · exact ⟨by have := (h4 j hj).2.1; omega, (h4 j hj).2.2⟩
set_option maxRecDepth 100000 in
set_option maxHeartbeats 4000000 in
theorem chNew_calls (w : World) :
    Calls Tryz.prog 18 #[.agg #[.int .i64 16, .int .i64 8, .int .i64 64], .slice none 0 0] w fun e w' => (∃ S C BL ps, e = .returned (.tuple #[.pointer (some ⟨C, 0, none⟩), .int .i64 0]) ∧ ChM 16 w.heap.size S w' C BL ps (fun _ => fresh 0)) ∧ Below w.heap.size w w' := by
  have B1 := Lib.hid (Blk.new w 48 #[.int .i64 16, .int .i64 8, .int .i64 64])
  have HB0 := Lib.hid ((Below.refl w.heap.size w).alloc (Nat.le_refl _) (.cells #[.int .i64 16, .int .i64 8, .int .i64 64] 48))
  go_enter Tryz.func18, Tryz.ntmps18
  have c0 := B1.out.cellv (i := 0) rfl
  have c1 := B1.out.cellv (i := 1) rfl
  have c2 := B1.out.cellv (i := 2) rfl
  go_wp2_with fail
  refine (right_calls _).mono ?_
  rintro e w1 ⟨rfl, hb⟩
  have HB1 := Lib.hid (HB0.out.then_ hb)
  have B2 := B1.out.belowHere hb
  clear hb c0 c1 c2 HB0 B1
  have c0 := B2.cellv (i := 0) rfl
  have c1 := B2.cellv (i := 1) rfl
  have c2 := B2.cellv (i := 2) rfl
  clear B2
  go_wp2_with fail
  refine (blankJ_calls _).mono ?_
  rintro e w2 ⟨rfl, ps, hI⟩
  have HB2 := Lib.hid (HB1.out.then_ hI.hb)
  have HC := Lib.hid (hI.chm (B := w.heap.size) HB1.out.size)
  generalize w1.heap.size = g at *
  clear hI c0 c1 c2
  go_wp2
  go_loopw [8, 16] (fun _ i wr => i = .int .i64 0 ∧ wr = w2) (fun _ _ _ => 0)
  case atStart => exact ⟨rfl, rfl⟩
  case round =>
    obtain ⟨rfl, rfl⟩ := hrel
    go_wp2
    go_ret2
    exact ⟨⟨_, _, _, _, rfl, HC.out⟩, HB2.out⟩
end Go.Proofs.YtiipnpfaaghekaaGreat
namespace Go.Proofs.YtiipnpfaaghekaaGreat
open Go.RowKit Ftl

theorem mk56 (u : World) : (Instr.makeSlice 22 (.int .i64 56) (.int .i64 56)).run Tryz.prog u = .ok (.slice (some ⟨u.heap.size, 0, none⟩) 56 56) (u.alloc (.cells (Array.replicate 56 (.int .u8 0)) 5)) := makeZ 56 (by omega) u
/-- What made leaves. -/
def Maded (P : List UInt8 → Prop) (w : World) (e : Ending) (w' : World) : Prop :=
  ∃ B R f, e = .returned (.tuple #[.pointer (some ⟨f.F, 0, none⟩), .pointer (some ⟨f.g.C, 0, none⟩)]) ∧ w.heap.size ≤ B ∧ FtM 16 B R w' f ∧ Fmd f (List.replicate 56 0) ∧ f.g.gh = P ∧ Below w.heap.size w w'
set_option maxRecDepth 100000 in
set_option maxHeartbeats 4000000 in
theorem made0_calls (w : World) : Calls Tryz.prog 5 #[] w (Maded (sealP (List.replicate 56 0)) w) := by
  have hmk := mk56
  go_enter Tryz.func5, Tryz.ntmps5
  go_wp2_with fail
  refine (small_calls _).mono ?_
  rintro e w1 ⟨rfl, h_⟩
  have HB1 := Lib.hid h_
  clear h_
  go_wp2_with fail
  refine (chNew_calls w1).mono ?_
  rintro e w2 ⟨⟨S, C, BL, ps, rfl, hc⟩, hb2⟩
  have hb3 := (Below.refl w2.heap.size w2).alloc (Nat.le_refl _) (.cells (Array.replicate 56 (.int .u8 0)) 5)
  have HC := Lib.hid (hc.on hb3)
  have HB2 := Lib.hid ((HB1.out.then_ hb2).then_ hb3)
  have HX := Lib.hid ((ownMadeZ w2 w2.heap.size 56 (Nat.le_refl _) (by omega)).arr (by simp))
  have HSn := Lib.hid (show ∀ b o, (some ⟨w2.heap.size, 0, none⟩ : Option Addr) = some ⟨b, o, none⟩ → ¬ S b from fun b o e h => by
    have := hc.hi b h
    injection e with e
    injection e with e
    omega)
  have HBs := Lib.hid HB1.out.size
  clear hc hb2 hb3
  go_wp2_with fail
  refine (fFormat_calls HC.out _ 56 (List.replicate 56 0) HX.out HSn.out).mono ?_
  rintro e w4 ⟨f, rfl, hfr, hfc, hfd, hgh⟩
  have HGh := Lib.hid hgh
  have HF := Lib.hid hfr
  have HD := Lib.hid hfd
  have HCC := Lib.hid hfc
  have HB4 := Lib.hid (HB2.out.trans (hfr.2.below (fun q hq => by have := HC.out.lo q hq; have := HBs.out; omega) HB2.out.size))
  clear hfr hfd hfc hgh
  go_wp2_with fail
  go_ret2
  exact ⟨w1.heap.size, _, f, by rw [HCC.out]; rfl, HBs.out, HF.out.1, HD.out, HGh.out, HB4.out⟩
/-- The same; nothing is said of the chip's pages. -/
theorem made_calls (w : World) : Calls Tryz.prog 5 #[] w (Maded (fun _ => True) w) := by
  refine (made0_calls w).mono ?_
  rintro e w' ⟨B, R, f, rfl, hB, hf, hd, _, hb⟩
  exact ⟨B, R, gsF f fun _ => True, rfl, hB, hf.ghost _, hd.ghost fun _ _ => trivial, rfl, hb⟩
end Go.Proofs.YtiipnpfaaghekaaGreat
