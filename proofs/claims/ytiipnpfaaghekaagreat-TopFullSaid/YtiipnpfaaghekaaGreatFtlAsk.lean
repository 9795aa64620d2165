/-
  What a translation is asked: ready, size, Capacity, Used, ReadOnly, logical, at.
-/
import Derived.Test.YtiipnpfaaghekaaGreatFtlOps
import Derived.Deep.QuietTactic
import Derived.BigQuiet
namespace Go.Proofs.YtiipnpfaaghekaaGreat
open Go.RowKit Ftl

namespace Ftl
/-- Between two calls. -/
structure Fc (NB : Nat) (f : Fm) : Prop where
  fi : Fi NB (100000 * f.seq) [] f.g (f.se ++ f.no)
  fr : 3 ≤ Gc.count 0 f.g.l
  cap : (f.se ++ f.no).length + 2 ≤ 8 * (NB - 3)
  ov : f.ov = false
  sq : 1 ≤ f.ep ∧ f.ep ≤ f.seq
  gk : ∀ x ∈ f.go, (getE f.se x.t.p).isSome = true
  n0 : getE f.no 0 = none
  g0 : getE f.go 0 = none
/-- Where a page is now. -/
def curE (f : Fm) (p : Nat) : Option En := match getE f.no p with
  | some e => some e
  | none => if (getE f.go p).isSome then none else getE f.se p
theorem plO_form (o : Option En) : ∃ b i : Nat, plO o = .agg #[.int .i64 (b : Int), .int .i64 (i : Int)] := by
  cases o with
  | none => exact ⟨0, 0, rfl⟩
  | some e => exact ⟨e.b, e.i, rfl⟩
end Ftl
section
variable {NB B n : Nat} {R : Nat → Prop} {w : World} {f : Fm} {x : List Nat} {E : List En}
set_option maxRecDepth 100000 in
theorem fready_calls (h : FtM NB B R w f) :
    Calls Tryz.prog 26 #[.pointer (some ⟨f.F, 0, none⟩)] w fun e w' => e = .returned (.int .i64 0) ∧ w = w' := by
  have c0 := h.c0
  have HU := Lib.hid (fUp_calls h)
  clear h
  go_enter Tryz.func26, Tryz.ntmps26
  go_wp2_with fail
  refine (HU.out).mono ?_
  rintro e w_ ⟨rfl, rfl⟩
  go_wp2
  go_ret
  exact ⟨rfl, rfl⟩
set_option maxRecDepth 100000 in
theorem fsize_calls (h : FtM NB B R w f) :
    Calls Tryz.prog 22 #[.pointer (some ⟨f.F, 0, none⟩)] w fun e w' => e = .returned (.int .i64 64) ∧ Below w.heap.size w w' := by
  have c0 := h.c0
  have HU := Lib.hid (fGeo_calls h)
  clear h
  go_enter Tryz.func22, Tryz.ntmps22
  go_wp2_with fail
  refine HU.out.mono ?_
  rintro e w1 ⟨rfl, hb⟩
  have HB := Lib.hid hb
  clear hb c0
  have hf := geoF2 (.int .i64 (NB : Int)) (.int .i64 8) (.int .i64 64)
  unfold geoV
  go_wp2
  go_ret
  exact ⟨rfl, HB.out⟩
set_option maxRecDepth 100000 in
theorem fdataBlocks_calls (hn : 5 ≤ NB ∧ NB ≤ 1000) :
    Calls Tryz.prog 38 #[.agg #[.int .i64 (NB : Int), .int .i64 8, .int .i64 64], .int .i64 2, .int .i64 0] w fun e w' => e = .returned (.int .i64 ((NB : Int) - 3)) ∧ Below w.heap.size w w' := by
  have i1 := IntWalk.i64_in ((NB : Int)) ⟨by omega, by omega⟩
  have i2 := IntWalk.i64_in ((NB : Int) - 2) ⟨by omega, by omega⟩
  have i3 := IntWalk.i64_in ((NB : Int) - 3) ⟨by omega, by omega⟩
  have e3 : (NB : Int) - 2 - 1 = (NB : Int) - 3 := by omega
  have hcs := geoCells
  have HB := Lib.hid ((Below.refl w.heap.size w).alloc (Nat.le_refl _) (.cells #[.int .i64 (NB : Int), .int .i64 8, .int .i64 64] 48))
  clear hn
  go_enter Tryz.func38, Tryz.ntmps38
  go_wp2
  go_ret
  exact ⟨rfl, HB.out⟩
set_option maxRecDepth 100000 in
set_option maxHeartbeats 4000000 in
theorem fCapacity_calls (h : FtM NB B R w f) (hi : Fi NB n x f.g E) :
    Calls Tryz.prog 14 #[.pointer (some ⟨f.F, 0, none⟩)] w fun e w' => e = .returned (.int .i64 (((NB : Int) - 3) * 8 - 2)) ∧ Below w.heap.size w w' := by
  have c0 := h.c0
  have HH := Lib.hid h
  have HU := Lib.hid (fGeo_calls h)
  have HNb := Lib.hid hi.nb
  have HD := Lib.hid (fun (W : World) => fdataBlocks_calls (w := W) hi.nb)
  have hres := Lib.hid hi.res
  have hbad := Lib.hid hi.bad
  have i1 := IntWalk.i64_in (((NB : Int) - 3) * 8) ⟨by have := HNb.out; omega, by have := HNb.out; omega⟩
  have i2 := IntWalk.i64_in (((NB : Int) - 3) * 8 - 2) ⟨by have := HNb.out; omega, by have := HNb.out; omega⟩
  have hcs := geoCells
  clear h hi
  go_enter Tryz.func14, Tryz.ntmps14
  go_wp2_with fail
  refine HU.out.mono ?_
  rintro e w1 ⟨rfl, hb⟩
  have HB1 := Lib.hid (hb.alloc hb.size (.cells #[.int .i64 (NB : Int), .int .i64 8, .int .i64 64] 48))
  have HK := Lib.hid (Blk.new w1 48 #[.int .i64 (NB : Int), .int .i64 8, .int .i64 64])
  clear hb c0
  unfold geoV
  go_upto_region 4 with fail
  generalize w1.alloc (.cells #[.int .i64 (NB : Int), .int .i64 8, .int .i64 64] 48) = w2 at *
  generalize w1.heap.size = Q at *
  have HS0 := Lib.hid (show Below w2.heap.size w2 w2.drew from below_drew w2)
  have HHo := Lib.hid (fun (W' : World) (hW : Below w2.heap.size w2 W') => (HH.out.on HB1.out).on hW)
  have HKo := Lib.hid (fun (W' : World) (hW : Below w2.heap.size w2 W') => Blk.belowHere HK.out hW)
  refine wp_region_noPanic ?_
  refine wp_region_held_drew (S := (fun W' => Below w2.heap.size w2 W')) (by kernel_rfl) HS0.out (fun hS0 => ?_)
  refine takeV 0 (v := (.agg #[.int .i64 (NB : Int), .int .i64 8, .int .i64 64])) rfl (by kernel_rfl) (by kernel_rfl) (by kernel_rfl) (fun _ _ _ h => h) (by rfl) (fun W hSw => ?_) (by assumption) ?_
  · have y0 := Blk.cellv (i := 0) (HKo.out W hSw) rfl; have y1 := Blk.cellv (i := 1) (HKo.out W hSw) rfl; have y2 := Blk.cellv (i := 2) (HKo.out W hSw) rfl
    go_simp
  try simp only [layR]
  refine takeV 1 (v := (.pointer (some ⟨f.F, 0, none⟩))) rfl (by kernel_rfl) (by kernel_rfl) (by kernel_rfl) (fun _ _ _ h => h) (by rfl) (fun _ _ => rfl) (by assumption) ?_
  try simp only [layR]
  refine takeV 2 (v := (.pointer (some ⟨f.F, 0, none⟩))) rfl (by kernel_rfl) (by kernel_rfl) (by kernel_rfl) (fun _ _ _ h => h) (by rfl) (fun W hSw => ?_) (by assumption) ?_
  · skip
    go_simp
  try simp only [layR]
  refine takeV 3 (v := (.pointer (some ⟨f.F, 2, none⟩))) rfl (by kernel_rfl) (by kernel_rfl) (by kernel_rfl) (fun _ _ _ h => h) (by rfl) (fun W hSw => ?_) (by assumption) ?_
  · skip
    go_simp
  try simp only [layR]
  refine takeV 4 (v := (.int .i64 2)) rfl (by kernel_rfl) (by kernel_rfl) (by kernel_rfl) (fun _ _ _ h => h) (by rfl) (fun W hSw => ?_) (by assumption) ?_
  · have y9 := (HHo.out W hSw).c2; rw [hres.out] at y9
    go_simp
  try simp only [layR]
  refine takeV 5 (v := (.pointer (some ⟨f.F, 0, none⟩))) rfl (by kernel_rfl) (by kernel_rfl) (by kernel_rfl) (fun _ _ _ h => h) (by rfl) (fun _ _ => rfl) (by assumption) ?_
  try simp only [layR]
  refine takeV 6 (v := (.pointer (some ⟨f.F, 0, none⟩))) rfl (by kernel_rfl) (by kernel_rfl) (by kernel_rfl) (fun _ _ _ h => h) (by rfl) (fun W hSw => ?_) (by assumption) ?_
  · skip
    go_simp
  try simp only [layR]
  refine takeV 7 (v := (.pointer (some ⟨f.F, 3, none⟩))) rfl (by kernel_rfl) (by kernel_rfl) (by kernel_rfl) (fun _ _ _ h => h) (by rfl) (fun W hSw => ?_) (by assumption) ?_
  · skip
    go_simp
  try simp only [layR]
  refine takeV 8 (v := (.int .i64 0)) rfl (by kernel_rfl) (by kernel_rfl) (by kernel_rfl) (fun _ _ _ h => h) (by rfl) (fun W hSw => ?_) (by assumption) ?_
  · have y9 := (HHo.out W hSw).c3; rw [hbad.out] at y9
    go_simp
  try simp only [layR]
  refine takeV 10 (v := (.pointer (some ⟨Q, 1, none⟩))) rfl (by kernel_rfl) (by kernel_rfl) (by kernel_rfl) (fun _ _ _ h => h) (by rfl) (fun W hSw => ?_) (by assumption) ?_
  · skip
    go_simp
  try simp only [layR]
  refine takeV 11 (v := (.int .i64 8)) rfl (by kernel_rfl) (by kernel_rfl) (by kernel_rfl) (fun _ _ _ h => h) (by rfl) (fun W hSw => ?_) (by assumption) ?_
  · have y1 := Blk.cellv (i := 1) (HKo.out W hSw) rfl
    go_simp
  try simp only [layR]
  refine wpAnyH_ready (rs := [9]) (by kernel_rfl) (by simp) ?_
  refine AllReadyH.cons rfl (fun K' hK => ?_) AllReadyH.nil
  go_simp
  refine (HD.out _).mono ?_
  rintro e w3 ⟨rfl, hb3⟩
  have hS1 := hS0.then_ hb3
  clear hb3
  refine hK.out _ _ hS1 (fun hS2 => ?_)
  try simp only [layR]
  refine takeV 12 (v := (.int .i64 (((NB : Int) - 3) * 8))) rfl (by kernel_rfl) (by kernel_rfl) (by kernel_rfl) (fun _ _ _ h => h) (by rfl) (fun W hSw => ?_) (by assumption) ?_
  · skip
    go_simp
  try simp only [layR]
  refine takeV 13 (v := (.int .i64 (((NB : Int) - 3) * 8 - 2))) rfl (by kernel_rfl) (by kernel_rfl) (by kernel_rfl) (fun _ _ _ h => h) (by rfl) (fun W hSw => ?_) (by assumption) ?_
  · skip
    go_simp
  try simp only [layR]
  refine takeV 14 (v := (.int .i64 (((NB : Int) - 3) * 8 - 2))) rfl (by kernel_rfl) (by kernel_rfl) (by kernel_rfl) (fun _ _ _ h => h) (by rfl) (fun _ _ => rfl) (by assumption) ?_
  try simp only [layR]
  refine wpAnyH_done (by kernel_rfl) ?_ _
  refine NoPanic.normal ?_
  have HB3 := Lib.hid (HB1.out.then_ hS2)
  clear hS0 hS1 hS2
  go_wp2
  go_ret
  exact ⟨rfl, HB3.out⟩
theorem run_lenE {b : Nat} {l : List En} (h : MapE w b l) (ty : TypeId) : (Builtin.len_ #[55] ty #[.map (some b)]).run Tryz.prog w = .ok (.int .i64 (l.length : Int)) w := by
  obtain ⟨es, clock, h1, h2⟩ := h.size
  rw [← h2]
  simp [Builtin.len_, run_underlying Tryz.underlying55, MapKept.run_getObj_map h1, goInt]
set_option maxRecDepth 100000 in
set_option maxHeartbeats 4000000 in
theorem fUsed_calls (h : FtM NB B R w f) (hl : (f.se ++ f.no).length ≤ 1000000) :
    Calls Tryz.prog 23 #[.pointer (some ⟨f.F, 0, none⟩)] w fun e w' => e = .returned (.int .i64 ((f.se ++ f.no).length : Int)) ∧ Below w.heap.size w w' := by
  have HH := Lib.hid h
  rw [List.length_append] at hl ⊢
  obtain ⟨a, ha⟩ : ∃ a, a = f.se.length := ⟨_, rfl⟩
  obtain ⟨b, hb⟩ : ∃ b, b = f.no.length := ⟨_, rfl⟩
  rw [← ha, ← hb] at hl ⊢
  have HA := Lib.hid ha
  have HB := Lib.hid hb
  have i1 := IntWalk.i64_in ((a : Int) + (b : Int)) ⟨by omega, by omega⟩
  clear h hl ha hb
  go_enter Tryz.func23, Tryz.ntmps23
  go_upto_region 3 with fail
  have HS0 := Lib.hid (show Below w.heap.size w w.drew from below_drew w)
  refine wp_region_noPanic ?_
  refine wp_region_held_drew (S := (fun W' => Below w.heap.size w W')) (by kernel_rfl) HS0.out (fun hS0 => ?_)
  refine takeV 0 (v := (.pointer (some ⟨f.F, 0, none⟩))) rfl (by kernel_rfl) (by kernel_rfl) (by kernel_rfl) (fun _ _ _ h => h) (by rfl) (fun _ _ => rfl) (by assumption) ?_
  try simp only [layR]
  refine takeV 1 (v := (.pointer (some ⟨f.F, 0, none⟩))) rfl (by kernel_rfl) (by kernel_rfl) (by kernel_rfl) (fun _ _ _ h => h) (by rfl) (fun W hSw => ?_) (by assumption) ?_
  · skip
    go_simp
  try simp only [layR]
  refine takeV 2 (v := (.pointer (some ⟨f.F, 5, none⟩))) rfl (by kernel_rfl) (by kernel_rfl) (by kernel_rfl) (fun _ _ _ h => h) (by rfl) (fun W hSw => ?_) (by assumption) ?_
  · skip
    go_simp
  try simp only [layR]
  refine takeV 3 (v := (.map (some f.SE))) rfl (by kernel_rfl) (by kernel_rfl) (by kernel_rfl) (fun _ _ _ h => h) (by rfl) (fun W hSw => ?_) (by assumption) ?_
  · have y9 := (HH.out.on hSw).c5
    go_simp
  try simp only [layR]
  refine takeV 4 (v := (.int .i64 (a : Int))) rfl (by kernel_rfl) (by kernel_rfl) (by kernel_rfl) (fun _ _ _ h => h) (by rfl) (fun W hSw => ?_) (by assumption) ?_
  · have y9 := fun ty => run_lenE (HH.out.on hSw).hS ty; rw [← HA.out] at y9
    go_simp
  try simp only [layR]
  refine takeV 5 (v := (.pointer (some ⟨f.F, 0, none⟩))) rfl (by kernel_rfl) (by kernel_rfl) (by kernel_rfl) (fun _ _ _ h => h) (by rfl) (fun _ _ => rfl) (by assumption) ?_
  try simp only [layR]
  refine takeV 6 (v := (.pointer (some ⟨f.F, 0, none⟩))) rfl (by kernel_rfl) (by kernel_rfl) (by kernel_rfl) (fun _ _ _ h => h) (by rfl) (fun W hSw => ?_) (by assumption) ?_
  · skip
    go_simp
  try simp only [layR]
  refine takeV 7 (v := (.pointer (some ⟨f.F, 6, none⟩))) rfl (by kernel_rfl) (by kernel_rfl) (by kernel_rfl) (fun _ _ _ h => h) (by rfl) (fun W hSw => ?_) (by assumption) ?_
  · skip
    go_simp
  try simp only [layR]
  refine takeV 8 (v := (.map (some f.NO))) rfl (by kernel_rfl) (by kernel_rfl) (by kernel_rfl) (fun _ _ _ h => h) (by rfl) (fun W hSw => ?_) (by assumption) ?_
  · have y9 := (HH.out.on hSw).c6
    go_simp
  try simp only [layR]
  refine takeV 9 (v := (.int .i64 (b : Int))) rfl (by kernel_rfl) (by kernel_rfl) (by kernel_rfl) (fun _ _ _ h => h) (by rfl) (fun W hSw => ?_) (by assumption) ?_
  · have y9 := fun ty => run_lenE (HH.out.on hSw).hN ty; rw [← HB.out] at y9
    go_simp
  try simp only [layR]
  refine takeV 10 (v := (.int .i64 ((a : Int) + (b : Int)))) rfl (by kernel_rfl) (by kernel_rfl) (by kernel_rfl) (fun _ _ _ h => h) (by rfl) (fun W hSw => ?_) (by assumption) ?_
  · skip
    go_simp
  try simp only [layR]
  refine takeV 11 (v := (.int .i64 ((a : Int) + (b : Int)))) rfl (by kernel_rfl) (by kernel_rfl) (by kernel_rfl) (fun _ _ _ h => h) (by rfl) (fun _ _ => rfl) (by assumption) ?_
  try simp only [layR]
  refine wpAnyH_done (by kernel_rfl) ?_ _
  refine NoPanic.normal ?_
  clear hS0
  go_wp2
  go_ret
  exact ⟨by rw [Int.natCast_add]; rfl, HS0.out⟩
set_option maxRecDepth 100000 in
set_option maxHeartbeats 4000000 in
theorem fReadOnly_calls (h : FtM NB B R w f) (hi : Fi NB n x f.g E) (ho : f.ov = false) :
    Calls Tryz.prog 12 #[.pointer (some ⟨f.F, 0, none⟩)] w fun e w' => e = .returned (.bool false) ∧ Below w.heap.size w w' := by
  have HL := Lib.hid (fLeft_calls h hi)
  have c1 := h.c1
  have c11 := h.c11
  rw [ho] at c11
  clear h hi ho
  go_enter Tryz.func12, Tryz.ntmps12
  go_wp2_with fail
  refine HL.out.mono ?_
  rintro e w1 ⟨rfl, hb⟩
  have HB := Lib.hid hb
  clear hb c1 c11
  go_wp2
  go_ret
  exact ⟨rfl, HB.out⟩
set_option maxRecDepth 100000 in
set_option maxHeartbeats 4000000 in
theorem flogical_calls (h : FtM NB B R w f) (hi : Fi NB n x f.g E) (p : Nat) (hp : p < 4294967296) :
    Calls Tryz.prog 21 #[.pointer (some ⟨f.F, 0, none⟩), .int .u32 (p : Int)] w fun e w' => e = .returned (.int .i64 (if p = 0 ∨ ((NB : Int) - 3) * 8 - 2 ≤ (p : Int) then 1 else 0)) ∧ Below w.heap.size w w' := by
  have HR := Lib.hid (fready_calls h)
  have HC := Lib.hid (fCapacity_calls h hi)
  clear h hi
  by_cases h0 : p = 0
  · subst h0
    rw [if_pos (.inl rfl)]
    go_enter Tryz.func21, Tryz.ntmps21
    go_wp2_with fail
    refine (HR.out).mono ?_
    rintro e w_ ⟨rfl, rfl⟩
    go_wp2
    go_ret
    exact ⟨rfl, Below.refl _ _⟩
  · have hz : ((p : Int) == 0) = false := by rw [beq_eq_false_iff_ne]; omega
    have iw := IntWalk.i64_in (p : Int) ⟨by omega, by omega⟩
    obtain ⟨C, hC⟩ : ∃ C, C = ((NB : Int) - 3) * 8 - 2 := ⟨_, rfl⟩
    rw [← hC] at HC ⊢
    clear hC
    by_cases h1 : C ≤ (p : Int)
    · rw [if_pos (.inr h1)]
      go_enter Tryz.func21, Tryz.ntmps21
      go_wp2_with fail
      refine (HR.out).mono ?_
      rintro e w_ ⟨rfl, rfl⟩
      go_wp2_with fail
      refine HC.out.mono ?_
      rintro e w1 ⟨rfl, hb⟩
      have HB := Lib.hid hb
      clear hb
      go_wp2
      go_ret
      exact ⟨rfl, HB.out⟩
    · rw [if_neg (by rintro (e | e); exact h0 e; exact h1 e)]
      go_enter Tryz.func21, Tryz.ntmps21
      go_wp2_with fail
      refine (HR.out).mono ?_
      rintro e w_ ⟨rfl, rfl⟩
      go_wp2_with fail
      refine HC.out.mono ?_
      rintro e w1 ⟨rfl, hb⟩
      have HB := Lib.hid hb
      clear hb
      go_wp2
      go_ret
      exact ⟨rfl, HB.out⟩
end
end Go.Proofs.YtiipnpfaaghekaaGreat
