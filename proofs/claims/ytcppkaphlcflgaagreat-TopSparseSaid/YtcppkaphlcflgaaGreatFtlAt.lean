import Derived.Test.YtcppkaphlcflgaaGreatFtlCopy
import Derived.Deep.QuietTactic
import Derived.BigQuiet
namespace Go.Proofs.YtcppkaphlcflgaaGreat
open Go.RowKit Ftl

namespace Ftl
structure Fc (NB : Nat) (f : Fm) : Prop where
 fi : Fi NB (100000 * f.seq) [] f.g (f.se ++ f.no)
 fr : 3 ≤ Gc.count 0 f.g.l
 cap : (f.se ++ f.no).length + 2 ≤ 8 * (NB - 3)
 ov : f.ov = false
 sq : 1 ≤ f.ep ∧ f.ep ≤ f.seq
 gk : ∀ x ∈ f.go, (getE f.se x.t.p).isSome = true
 n0 : getE f.no 0 = none
 g0 : getE f.go 0 = none
def curE (f : Fm) (p : Nat) : Option En := match getE f.no p with
 | some e => some e
 | none => if (getE f.go p).isSome then none else getE f.se p
theorem plO_form (o : Option En) : ∃ b i : Nat, plO o = .agg #[.int .i64 (b : Int), .int .i64 (i : Int)] := by
 cases o with
 | none => exact ⟨0, 0, rfl⟩
 | some e => exact ⟨e.b, e.i, rfl⟩
end Ftl
section
variable {NB B n : Nat} {R : Nat → Prop} {w : World} {f : Fm} {x : List Nat} {E : List En}
set_option maxRecDepth 100000 in
theorem fready_calls (h : FtM NB B R w f) :
  Calls Tryz.prog 112 #[.pointer (some ⟨f.F, 0, none⟩)] w fun e w' => e = .returned (.int .i64 0) ∧ w = w' := by
 have c0 := h.c0
 have HU := Lib.hid (fUp_calls h)
 clear h
 go_enter Tryz.func112, Tryz.ntmps112
 go_wp2_with fail
 refine (HU.out).mono ?_
 rintro e w_ ⟨rfl, rfl⟩
 go_wp2
 go_ret
 exact ⟨rfl, rfl⟩
set_option maxRecDepth 100000 in
theorem fsize_calls (h : FtM NB B R w f) :
  Calls Tryz.prog 113 #[.pointer (some ⟨f.F, 0, none⟩)] w fun e w' => e = .returned (.int .i64 64) ∧ Below w.heap.size w w' := by
 have c0 := h.c0
 have HU := Lib.hid (fGeo_calls h)
 clear h
 go_enter Tryz.func113, Tryz.ntmps113
 go_wp2_with fail
 refine HU.out.mono ?_
 rintro e w1 ⟨rfl, hb⟩
 have HB := Lib.hid hb
 clear hb c0
 have hf := geoF2 (.int .i64 (NB : Int)) (.int .i64 8) (.int .i64 64)
 unfold geoV
 go_wp2
 go_ret
 exact ⟨rfl, HB.out⟩
set_option maxRecDepth 100000 in
theorem fdataBlocks_calls (hn : 5 ≤ NB ∧ NB ≤ 1000) :
  Calls Tryz.prog 63 #[.agg #[.int .i64 (NB : Int), .int .i64 8, .int .i64 64], .int .i64 2, .int .i64 0] w fun e w' => e = .returned (.int .i64 ((NB : Int) - 3)) ∧ Below w.heap.size w w' := by
 have i1 := IntWalk.i64_in ((NB : Int)) ⟨by omega, by omega⟩
 have i2 := IntWalk.i64_in ((NB : Int) - 2) ⟨by omega, by omega⟩
 have i3 := IntWalk.i64_in ((NB : Int) - 3) ⟨by omega, by omega⟩
 have e3 : (NB : Int) - 2 - 1 = (NB : Int) - 3 := by omega
 have hcs := geoCells
 have HB := Lib.hid ((Below.refl w.heap.size w).alloc (Nat.le_refl _) (.cells #[.int .i64 (NB : Int), .int .i64 8, .int .i64 64] 66))
 clear hn
 go_enter Tryz.func63, Tryz.ntmps63
 go_wp2
 go_ret
 exact ⟨rfl, HB.out⟩
set_option maxRecDepth 100000 in
set_option maxHeartbeats 4000000 in
theorem fCapacity_calls (h : FtM NB B R w f) (hi : Fi NB n x f.g E) :
  Calls Tryz.prog 26 #[.pointer (some ⟨f.F, 0, none⟩)] w fun e w' => e = .returned (.int .i64 (((NB : Int) - 3) * 8 - 2)) ∧ Below w.heap.size w w' := by
 have c0 := h.c0
 have HH := Lib.hid h
 have HU := Lib.hid (fGeo_calls h)
 have HNb := Lib.hid hi.nb
 have HD := Lib.hid (fun (W : World) => fdataBlocks_calls (w := W) hi.nb)
 have hres := Lib.hid hi.res
 have hbad := Lib.hid hi.bad
 have i1 := IntWalk.i64_in (((NB : Int) - 3) * 8) ⟨by have := HNb.out; omega, by have := HNb.out; omega⟩
 have i2 := IntWalk.i64_in (((NB : Int) - 3) * 8 - 2) ⟨by have := HNb.out; omega, by have := HNb.out; omega⟩
 have hcs := geoCells
 clear h hi
 go_enter Tryz.func26, Tryz.ntmps26
 go_wp2_with fail
 refine HU.out.mono ?_
 rintro e w1 ⟨rfl, hb⟩
 have HB1 := Lib.hid (hb.alloc hb.size (.cells #[.int .i64 (NB : Int), .int .i64 8, .int .i64 64] 66))
 have HK := Lib.hid (Blk.new w1 66 #[.int .i64 (NB : Int), .int .i64 8, .int .i64 64])
 clear hb c0
 unfold geoV
 go_upto_region 4 with fail
 generalize w1.alloc (.cells #[.int .i64 (NB : Int), .int .i64 8, .int .i64 64] 66) = w2 at *
 generalize w1.heap.size = Q at *
 have HS0 := Lib.hid (show Below w2.heap.size w2 w2.drew from below_drew w2)
 have HHo := Lib.hid (fun (W' : World) (hW : Below w2.heap.size w2 W') => (HH.out.on HB1.out).on hW)
 have HKo := Lib.hid (fun (W' : World) (hW : Below w2.heap.size w2 W') => Blk.belowHere HK.out hW)
 refine wp_region_noPanic ?_
 refine wp_region_held_drew (S := (fun W' => Below w2.heap.size w2 W')) (by kernel_rfl) HS0.out (fun hS0 => ?_)
 refine takeV 0 (v := (.agg #[.int .i64 (NB : Int), .int .i64 8, .int .i64 64])) rfl (by kernel_rfl) (by kernel_rfl) (by kernel_rfl) (fun _ _ _ h => h) (by rfl) (fun W hSw => ?_) (by assumption) ?_
 ·have y0 := Blk.cellv (i := 0) (HKo.out W hSw) rfl; have y1 := Blk.cellv (i := 1) (HKo.out W hSw) rfl; have y2 := Blk.cellv (i := 2) (HKo.out W hSw) rfl
  go_simp
 try simp only [layR]
 refine takeV 1 (v := (.pointer (some ⟨f.F, 0, none⟩))) rfl (by kernel_rfl) (by kernel_rfl) (by kernel_rfl) (fun _ _ _ h => h) (by rfl) (fun _ _ => rfl) (by assumption) ?_
 try simp only [layR]
 refine takeV 2 (v := (.pointer (some ⟨f.F, 0, none⟩))) rfl (by kernel_rfl) (by kernel_rfl) (by kernel_rfl) (fun _ _ _ h => h) (by rfl) (fun W hSw => ?_) (by assumption) ?_
 ·skip
  go_simp
 try simp only [layR]
 refine takeV 3 (v := (.pointer (some ⟨f.F, 2, none⟩))) rfl (by kernel_rfl) (by kernel_rfl) (by kernel_rfl) (fun _ _ _ h => h) (by rfl) (fun W hSw => ?_) (by assumption) ?_
 ·skip
  go_simp
 try simp only [layR]
 refine takeV 4 (v := (.int .i64 2)) rfl (by kernel_rfl) (by kernel_rfl) (by kernel_rfl) (fun _ _ _ h => h) (by rfl) (fun W hSw => ?_) (by assumption) ?_
 ·have y9 := (HHo.out W hSw).c2; rw [hres.out] at y9
  go_simp
 try simp only [layR]
 refine takeV 5 (v := (.pointer (some ⟨f.F, 0, none⟩))) rfl (by kernel_rfl) (by kernel_rfl) (by kernel_rfl) (fun _ _ _ h => h) (by rfl) (fun _ _ => rfl) (by assumption) ?_
 try simp only [layR]
 refine takeV 6 (v := (.pointer (some ⟨f.F, 0, none⟩))) rfl (by kernel_rfl) (by kernel_rfl) (by kernel_rfl) (fun _ _ _ h => h) (by rfl) (fun W hSw => ?_) (by assumption) ?_
 ·skip
  go_simp
 try simp only [layR]
 refine takeV 7 (v := (.pointer (some ⟨f.F, 3, none⟩))) rfl (by kernel_rfl) (by kernel_rfl) (by kernel_rfl) (fun _ _ _ h => h) (by rfl) (fun W hSw => ?_) (by assumption) ?_
 ·skip
  go_simp
 try simp only [layR]
 refine takeV 8 (v := (.int .i64 0)) rfl (by kernel_rfl) (by kernel_rfl) (by kernel_rfl) (fun _ _ _ h => h) (by rfl) (fun W hSw => ?_) (by assumption) ?_
 ·have y9 := (HHo.out W hSw).c3; rw [hbad.out] at y9
  go_simp
 try simp only [layR]
 refine takeV 10 (v := (.pointer (some ⟨Q, 1, none⟩))) rfl (by kernel_rfl) (by kernel_rfl) (by kernel_rfl) (fun _ _ _ h => h) (by rfl) (fun W hSw => ?_) (by assumption) ?_
 ·skip
  go_simp
 try simp only [layR]
 refine takeV 11 (v := (.int .i64 8)) rfl (by kernel_rfl) (by kernel_rfl) (by kernel_rfl) (fun _ _ _ h => h) (by rfl) (fun W hSw => ?_) (by assumption) ?_
 ·have y1 := Blk.cellv (i := 1) (HKo.out W hSw) rfl
  go_simp
 try simp only [layR]
 refine wpAnyH_ready (rs := [9]) (by kernel_rfl) (by simp) ?_
 refine AllReadyH.cons rfl (fun K' hK => ?_) AllReadyH.nil
 go_simp
 refine (HD.out _).mono ?_
 rintro e w3 ⟨rfl, hb3⟩
 have hS1 := hS0.then_ hb3
 clear hb3
 refine hK.out _ _ hS1 (fun hS2 => ?_)
 try simp only [layR]
 refine takeV 12 (v := (.int .i64 (((NB : Int) - 3) * 8))) rfl (by kernel_rfl) (by kernel_rfl) (by kernel_rfl) (fun _ _ _ h => h) (by rfl) (fun W hSw => ?_) (by assumption) ?_
 ·skip
  go_simp
 try simp only [layR]
 refine takeV 13 (v := (.int .i64 (((NB : Int) - 3) * 8 - 2))) rfl (by kernel_rfl) (by kernel_rfl) (by kernel_rfl) (fun _ _ _ h => h) (by rfl) (fun W hSw => ?_) (by assumption) ?_
 ·skip
  go_simp
 try simp only [layR]
 refine takeV 14 (v := (.int .i64 (((NB : Int) - 3) * 8 - 2))) rfl (by kernel_rfl) (by kernel_rfl) (by kernel_rfl) (fun _ _ _ h => h) (by rfl) (fun _ _ => rfl) (by assumption) ?_
 try simp only [layR]
 refine wpAnyH_done (by kernel_rfl) ?_ _
 refine NoPanic.normal ?_
 have HB3 := Lib.hid (HB1.out.then_ hS2)
 clear hS0 hS1 hS2
 go_wp2
 go_ret
 exact ⟨rfl, HB3.out⟩
set_option maxRecDepth 100000 in
set_option maxHeartbeats 4000000 in
theorem fReadOnly_calls (h : FtM NB B R w f) (hi : Fi NB n x f.g E) (ho : f.ov = false) :
  Calls Tryz.prog 114 #[.pointer (some ⟨f.F, 0, none⟩)] w fun e w' => e = .returned (.bool false) ∧ Below w.heap.size w w' := by
 have HL := Lib.hid (fLeft_calls h hi)
 have c1 := h.c1
 have c11 := h.c11
 rw [ho] at c11
 clear h hi ho
 go_enter Tryz.func114, Tryz.ntmps114
 go_wp2_with fail
 refine HL.out.mono ?_
 rintro e w1 ⟨rfl, hb⟩
 have HB := Lib.hid hb
 clear hb c1 c11
 go_wp2
 go_ret
 exact ⟨rfl, HB.out⟩
set_option maxRecDepth 100000 in
set_option maxHeartbeats 4000000 in
theorem flogical_calls (h : FtM NB B R w f) (hi : Fi NB n x f.g E) (p : Nat) (hp : p < 4294967296) :
  Calls Tryz.prog 122 #[.pointer (some ⟨f.F, 0, none⟩), .int .u32 (p : Int)] w fun e w' => e = .returned (.int .i64 (if p = 0 ∨ ((NB : Int) - 3) * 8 - 2 ≤ (p : Int) then 1 else 0)) ∧ Below w.heap.size w w' := by
 have HR := Lib.hid (fready_calls h)
 have HC := Lib.hid (fCapacity_calls h hi)
 clear h hi
 by_cases h0 : p = 0
 ·subst h0
  rw [if_pos (.inl rfl)]
  go_enter Tryz.func122, Tryz.ntmps122
  go_wp2_with fail
  refine (HR.out).mono ?_
  rintro e w_ ⟨rfl, rfl⟩
  go_wp2
  go_ret
  exact ⟨rfl, Below.refl _ _⟩
 ·have hz : ((p : Int) == 0) = false := by rw [beq_eq_false_iff_ne]; omega
  have iw := IntWalk.i64_in (p : Int) ⟨by omega, by omega⟩
  obtain ⟨C, hC⟩ : ∃ C, C = ((NB : Int) - 3) * 8 - 2 := ⟨_, rfl⟩
  rw [← hC] at HC ⊢
  clear hC
  by_cases h1 : C ≤ (p : Int)
  ·rw [if_pos (.inr h1)]
   go_enter Tryz.func122, Tryz.ntmps122
   go_wp2_with fail
   refine (HR.out).mono ?_
   rintro e w_ ⟨rfl, rfl⟩
   go_wp2_with fail
   refine HC.out.mono ?_
   rintro e w1 ⟨rfl, hb⟩
   have HB := Lib.hid hb
   clear hb
   go_wp2
   go_ret
   exact ⟨rfl, HB.out⟩
  ·rw [if_neg (by rintro (e | e); exact h0 e; exact h1 e)]
   go_enter Tryz.func122, Tryz.ntmps122
   go_wp2_with fail
   refine (HR.out).mono ?_
   rintro e w_ ⟨rfl, rfl⟩
   go_wp2_with fail
   refine HC.out.mono ?_
   rintro e w1 ⟨rfl, hb⟩
   have HB := Lib.hid hb
   clear hb
   go_wp2
   go_ret
   exact ⟨rfl, HB.out⟩
end
end Go.Proofs.YtcppkaphlcflgaaGreat
namespace Go.Proofs.YtcppkaphlcflgaaGreat
open Go.RowKit Ftl

section
variable {NB B n : Nat} {R : Nat → Prop} {w : World} {f : Fm}
structure PlZ (w : World) (Z : Nat) (b i : Nat) : Prop where
 k0 : w.cell? ⟨Z, 0, none⟩ = some (.int .i64 0)
 k1 : w.cell? ⟨Z, 1, none⟩ = some (.int .i64 0)
 f0 : w.frozen? ⟨Z, 0, none⟩ = false
 f1 : w.frozen? ⟨Z, 1, none⟩ = false
 q0 : ((w.setCell ⟨Z, 0, none⟩ (.int .i64 (b : Int))).setCell ⟨Z, 1, none⟩ (.int .i64 (i : Int))).cell? ⟨Z, 0, none⟩ = some (.int .i64 (b : Int))
 q1 : ((w.setCell ⟨Z, 0, none⟩ (.int .i64 (b : Int))).setCell ⟨Z, 1, none⟩ (.int .i64 (i : Int))).cell? ⟨Z, 1, none⟩ = some (.int .i64 (i : Int))
theorem plZ {Z : Nat} (h : Blk w Z 184 #[.int .i64 0, .int .i64 0]) (b i : Nat) : PlZ w Z b i := by
 have hs := (h.set 0 (.int .i64 (b : Int))).set 1 (.int .i64 (i : Int))
 exact ⟨h.cellv rfl, h.cellv rfl, h.frozen 0, h.frozen 1, hs.cellv (i := 0) rfl, hs.cellv (i := 1) rfl⟩
theorem MapE.lookT {b : Nat} {l : List En} (h : MapE w b l) {p : Nat} (hp : p < 4294967296) {o : Option En} (e1 : getE l p = o) {x y : Nat} (e2 : plO o = .agg #[.int .i64 (x : Int), .int .i64 (y : Int)]) {t : Bool} (e3 : o.isSome = t) :
  (Instr.lookup 135 (.map (some b)) (.int .u32 (p : Int)) true).run Tryz.prog w = .ok (.tuple #[.agg #[.int .i64 (x : Int), .int .i64 (y : Int)], .bool t]) w := by
 have := h.look hp true
 rw [e1, e2, e3] at this
 exact this
set_option maxRecDepth 100000 in
set_option maxHeartbeats 4000000 in
theorem fat_calls (h : FtM NB B R w f) (p : Nat) (hp : p < 4294967296) :
  Calls Tryz.prog 123 #[.pointer (some ⟨f.F, 0, none⟩), .int .u32 (p : Int)] w fun e w' => e = .returned (.tuple #[plO (curE f p), .bool (curE f p).isSome]) ∧ Below w.heap.size w w' := by
 have hcs := placeCells
 have hb0 := (Below.refl w.heap.size w).alloc (Nat.le_refl _) (.cells #[.int .i64 0, .int .i64 0] 184)
 have H1 := Lib.hid (h.on hb0)
 have HZ := Lib.hid (Blk.new w 184 #[.int .i64 0, .int .i64 0])
 have HB0 := Lib.hid hb0
 clear h hb0
 have HC := Lib.hid (show curE f p = match getE f.no p with
  | some e => some e
  | none => if (getE f.go p).isSome then none else getE f.se p from rfl)
 go_enter Tryz.func123, Tryz.ntmps123
 go_upto_region 1 with fail
 generalize w.alloc (.cells #[.int .i64 0, .int .i64 0] 184) = w1 at *
 obtain ⟨Z, hZ⟩ : ∃ Z, Z = w.heap.size := ⟨_, rfl⟩
 rw [← hZ] at HZ ⊢
 have HZe := Lib.hid hZ
 clear hZ
 have c6 := H1.out.c6
 obtain ⟨b1, i1, e1⟩ := plO_form (getE f.no p)
 have hb1 := (Below.refl w1.heap.size w1).alloc (Nat.le_refl _) (.cells #[.int .i64 (b1 : Int), .int .i64 (i1 : Int)] 184)
 have HK1 := Lib.hid (Blk.new w1 184 #[.int .i64 (b1 : Int), .int .i64 (i1 : Int)])
 have H2 := Lib.hid (H1.out.on hb1)
 have HZ2 := Lib.hid (HZ.out.belowHere hb1)
 have HB1 := Lib.hid (HB0.out.then_ hb1)
 clear hb1
 cases hno : getE f.no p with
 | some e =>
  have hl1 := H1.out.hN.lookT hp hno (by rw [← hno]; exact e1) rfl
  rw [hno] at HC e1
  have HE := Lib.hid e1
  clear hno e1
  have hl1 : (Instr.lookup 135 (.map (some f.NO)) (.int .u32 (p : Int)) true).run Tryz.prog w1 = .ok (.tuple #[.agg #[.int .i64 (b1 : Int), .int .i64 (i1 : Int)], .bool true]) w1 := hl1
  go_upto_region 2 with fail
  generalize w1.alloc (.cells #[.int .i64 (b1 : Int), .int .i64 (i1 : Int)] 184) = w2 at *
  obtain ⟨k0, k1, f0, f1, q0, q1⟩ := plZ HZ2.out b1 i1
  have y0 := Blk.cellv (i := 0) HK1.out rfl
  have y1 := Blk.cellv (i := 1) HK1.out rfl
  have HF := Lib.hid ((HB1.out.setCell (p := ⟨Z, 0, none⟩) (by rw [HZe.out]; exact Nat.le_refl _) (.int .i64 (b1 : Int))).setCell (p := ⟨Z, 1, none⟩) (by rw [HZe.out]; exact Nat.le_refl _) (.int .i64 (i1 : Int)))
  go_wp2_with fail
  refine bodyPost_ret (v := .tuple #[.agg #[.int .i64 (b1 : Int), .int .i64 (i1 : Int)], .bool true]) (by simp [results, Tryz.results123, go_sem, q0, q1]) rfl ⟨?_, HF.out⟩
  rw [HC.out]
  show _ = Ending.returned (.tuple #[plO (some e), .bool true])
  rw [HE.out]
 | none =>
  have hl1 := H1.out.hN.lookT hp hno (by rw [← hno]; exact e1) rfl
  rw [hno] at HC
  clear hno e1
  have hl1 : (Instr.lookup 135 (.map (some f.NO)) (.int .u32 (p : Int)) true).run Tryz.prog w1 = .ok (.tuple #[.agg #[.int .i64 (b1 : Int), .int .i64 (i1 : Int)], .bool false]) w1 := hl1
  go_upto_region 2 with fail
  generalize w1.alloc (.cells #[.int .i64 (b1 : Int), .int .i64 (i1 : Int)] 184) = w2 at *
  clear hl1 c6
  have c7 := H2.out.c7
  obtain ⟨b2, i2, e2⟩ := plO_form (getE f.go p)
  have hb2 := (Below.refl w2.heap.size w2).alloc (Nat.le_refl _) (.cells #[.int .i64 (b2 : Int), .int .i64 (i2 : Int)] 184)
  have H3 := Lib.hid (H2.out.on hb2)
  have HZ3 := Lib.hid (HZ2.out.belowHere hb2)
  have HB2 := Lib.hid (HB1.out.then_ hb2)
  clear hb2
  cases hgo : getE f.go p with
  | some e =>
   have hl2 := H2.out.hG.lookT hp hgo (by rw [← hgo]; exact e2) rfl
   rw [hgo] at HC
   clear hgo e2
   have hl2 : (Instr.lookup 135 (.map (some f.GO)) (.int .u32 (p : Int)) true).run Tryz.prog w2 = .ok (.tuple #[.agg #[.int .i64 (b2 : Int), .int .i64 (i2 : Int)], .bool true]) w2 := hl2
   go_upto_region 5 with fail
   generalize w2.alloc (.cells #[.int .i64 (b2 : Int), .int .i64 (i2 : Int)] 184) = w3 at *
   clear hl2 c7
   obtain ⟨k0, k1, f0, f1, q0, q1⟩ := plZ HZ3.out 0 0
   have q0 : ((w3.setCell ⟨Z, 0, none⟩ (.int .i64 0)).setCell ⟨Z, 1, none⟩ (.int .i64 0)).cell? ⟨Z, 0, none⟩ = some (.int .i64 0) := q0
   have q1 : ((w3.setCell ⟨Z, 0, none⟩ (.int .i64 0)).setCell ⟨Z, 1, none⟩ (.int .i64 0)).cell? ⟨Z, 1, none⟩ = some (.int .i64 0) := q1
   have HF := Lib.hid ((HB2.out.setCell (p := ⟨Z, 0, none⟩) (by rw [HZe.out]; exact Nat.le_refl _) (.int .i64 0)).setCell (p := ⟨Z, 1, none⟩) (by rw [HZe.out]; exact Nat.le_refl _) (.int .i64 0))
   go_wp2_with fail
   refine bodyPost_ret (v := .tuple #[.agg #[.int .i64 0, .int .i64 0], .bool false]) (by simp [results, Tryz.results123, go_sem, q0, q1]) rfl ⟨?_, HF.out⟩
   rw [HC.out]
   rfl
  | none =>
   have hl2 := H2.out.hG.lookT hp hgo (by rw [← hgo]; exact e2) rfl
   rw [hgo] at HC
   clear hgo e2
   have hl2 : (Instr.lookup 135 (.map (some f.GO)) (.int .u32 (p : Int)) true).run Tryz.prog w2 = .ok (.tuple #[.agg #[.int .i64 (b2 : Int), .int .i64 (i2 : Int)], .bool false]) w2 := hl2
   go_upto_region 5 with fail
   generalize w2.alloc (.cells #[.int .i64 (b2 : Int), .int .i64 (i2 : Int)] 184) = w3 at *
   clear hl2 c7
   have c5 := H3.out.c5
   obtain ⟨b3, i3, e3⟩ := plO_form (getE f.se p)
   obtain ⟨sf, hsf⟩ : ∃ sf, (getE f.se p).isSome = sf := ⟨_, rfl⟩
   have hl3 := H3.out.hS.lookT hp rfl e3 hsf
   have hb3 := (Below.refl w3.heap.size w3).alloc (Nat.le_refl _) (.cells #[.int .i64 (b3 : Int), .int .i64 (i3 : Int)] 184)
   have HK3 := Lib.hid (Blk.new w3 184 #[.int .i64 (b3 : Int), .int .i64 (i3 : Int)])
   have HZ4 := Lib.hid (HZ3.out.belowHere hb3)
   have HB3 := Lib.hid (HB2.out.then_ hb3)
   have HE := Lib.hid e3
   have HSf := Lib.hid hsf
   clear hb3 e3 hsf
   go_upto_region 8 with fail
   generalize w3.alloc (.cells #[.int .i64 (b3 : Int), .int .i64 (i3 : Int)] 184) = w4 at *
   clear hl3 c5
   obtain ⟨k0, k1, f0, f1, q0, q1⟩ := plZ HZ4.out b3 i3
   have y0 := Blk.cellv (i := 0) HK3.out rfl
   have y1 := Blk.cellv (i := 1) HK3.out rfl
   have HF := Lib.hid ((HB3.out.setCell (p := ⟨Z, 0, none⟩) (by rw [HZe.out]; exact Nat.le_refl _) (.int .i64 (b3 : Int))).setCell (p := ⟨Z, 1, none⟩) (by rw [HZe.out]; exact Nat.le_refl _) (.int .i64 (i3 : Int)))
   go_wp2_with fail
   refine bodyPost_ret (v := .tuple #[.agg #[.int .i64 (b3 : Int), .int .i64 (i3 : Int)], .bool sf]) (by simp [results, Tryz.results123, go_sem, q0, q1]) rfl ⟨?_, HF.out⟩
   rw [HC.out]
   show _ = Ending.returned (.tuple #[plO (getE f.se p), .bool (getE f.se p).isSome])
   rw [HE.out, HSf.out]
end
end Go.Proofs.YtcppkaphlcflgaaGreat
