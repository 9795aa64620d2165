/-
  The manager's small functions: ready, pages, there, idle, Drop.
-/
import Derived.Test.YtiipnpfaaghekaaGreatBlkMem
import Derived.Deep.DeepCutAuto
namespace Go.Proofs.YtiipnpfaaghekaaGreat
open Go.RowKit

theorem geoF0 (a b c : Value) : ∀ u : World, (Instr.field 48 (.agg #[a, b, c]) 0).run Tryz.prog u = .ok a u := fun u => by kernel_rfl
theorem geoF1 (a b c : Value) : ∀ u : World, (Instr.field 48 (.agg #[a, b, c]) 1).run Tryz.prog u = .ok b u := fun u => by kernel_rfl
theorem geoF2 (a b c : Value) : ∀ u : World, (Instr.field 48 (.agg #[a, b, c]) 2).run Tryz.prog u = .ok c u := fun u => by kernel_rfl
section
variable {NB B : Nat} {S : Nat → Prop} {w : World} {g : Mg}
theorem bready_calls (h : MgM NB B S w g) :
    Calls Tryz.prog 101 #[.pointer (some ⟨g.M, 0, none⟩)] w fun e w' => e = .returned (.int .i64 0) ∧ w = w' := by
  have m0 := h.m0
  have HU := Lib.hid (chUp_calls h.hc)
  clear h
  go_enter Tryz.func101, Tryz.ntmps101
  go_wp2_with fail
  refine (HU.out).mono ?_
  rintro e w_ ⟨rfl, rfl⟩
  go_wp2
  go_ret
  exact ⟨rfl, rfl⟩
set_option maxRecDepth 100000 in
theorem bpages_calls (h : MgM NB B S w g) :
    Calls Tryz.prog 100 #[.pointer (some ⟨g.M, 0, none⟩)] w fun e w' => e = .returned (.int .i64 8) ∧ Below w.heap.size w w' := by
  have m0 := h.m0
  have HU := Lib.hid (chGeo_calls h.hc)
  clear h
  go_enter Tryz.func100, Tryz.ntmps100
  go_wp2_with fail
  refine HU.out.mono ?_
  rintro e w1 ⟨rfl, hb⟩
  have HB := Lib.hid hb
  clear hb m0
  have hf := geoF1 (.int .i64 (NB : Int)) (.int .i64 8) (.int .i64 64)
  unfold geoV
  go_wp2
  go_ret
  exact ⟨rfl, HB.out⟩
set_option maxRecDepth 100000 in
theorem bthere_calls (h : MgM NB B S w g) {k : Nat} (hk : k < NB) :
    Calls Tryz.prog 55 #[.pointer (some ⟨g.M, 0, none⟩), .int .i64 (k : Int)] w fun e w' => e = .returned (.bool (Gc.good (Gc.at_ g.l k))) ∧ w = w' := by
  have m1 := h.m1
  have r0 := (h.r0 hk).1
  have g1 : (0 : Int) ≤ (k : Int) := by omega
  have g2 : (k : Int) < (NB : Int) := by omega
  clear h hk
  go_enter Tryz.func55, Tryz.ntmps55
  go_wp2
  go_ret
  exact ⟨rfl, rfl⟩
set_option maxRecDepth 100000 in
theorem bidle_calls (h : MgM NB B S w g) {k : Nat} (hk : k < NB) (hg : Gc.good (Gc.at_ g.l k) = true) (hv : (Gc.at_ g.l k).live = 0) :
    Calls Tryz.prog 124 #[.pointer (some ⟨g.M, 0, none⟩), .int .i64 (k : Int)] w fun e w' => e = .returned (.int .i64 0) ∧ w = w' := by
  have HR := Lib.hid (bready_calls h)
  have HT := Lib.hid (bthere_calls h hk)
  rw [hg] at HT
  have m1 := h.m1
  have r1 := (h.r1 hk).1
  rw [hv] at r1
  have g1 : (0 : Int) ≤ (k : Int) := by omega
  have g2 : (k : Int) < (NB : Int) := by omega
  clear h hk hg hv
  go_enter Tryz.func124, Tryz.ntmps124
  go_wp2_with fail
  refine (HR.out).mono ?_
  rintro e w_ ⟨rfl, rfl⟩
  go_wp2_with fail
  refine (HT.out).mono ?_
  rintro e w_ ⟨rfl, rfl⟩
  go_wp2
  go_ret
  exact ⟨rfl, rfl⟩
/-- A block of which one page less is needed. -/
def dropB (x : Bk) : Bk := ⟨if x.st = 2 ∧ x.live - 1 = 0 then 3 else x.st, x.live - 1, x.wear, x.nx⟩
set_option maxRecDepth 100000 in
set_option maxHeartbeats 2000000 in
theorem bDrop_calls (h : MgM NB B S w g) {k : Nat} (hk : k < NB) (hg : Gc.good (Gc.at_ g.l k) = true) (hv : 0 < (Gc.at_ g.l k).live) (hv2 : (Gc.at_ g.l k).live ≤ 1000) :
    Calls Tryz.prog 25 #[.pointer (some ⟨g.M, 0, none⟩), .int .i64 (k : Int)] w fun e w' => e = .returned (.int .i64 0) ∧ MgM NB B S w' { g with l := g.l.set k (dropB (Gc.at_ g.l k)) } ∧ Kq (fun q => q = g.ML) w w' := by
  have HT := Lib.hid (bthere_calls h hk)
  rw [hg] at HT
  have hlen := h.len
  have m1 := h.m1
  have r1 := (h.r1 hk).1
  have f1 := (h.r1 hk).2
  obtain ⟨x, hx⟩ : ∃ x, x = Gc.at_ g.l k := ⟨_, rfl⟩
  rw [← hx] at r1 hv hv2 ⊢
  have h1 := h.setL hk (j := 1) (by omega) (.int .i64 ((x.live - 1 : Nat) : Int)) { x with live := x.live - 1 } (by rw [← hx]; rfl)
  have m1' := h1.m1
  have s0 := h1.r0 hk
  have s1 := (h1.r1 hk).1
  rw [at_set _ _ (by omega)] at s0 s1
  obtain ⟨s0, t0⟩ := s0
  have k1 : Kq (fun q => q = g.ML) w (w.setCell ⟨g.ML, k * 4 + 1, none⟩ (.int .i64 ((x.live - 1 : Nat) : Int))) := Kq.one ⟨_, _, none⟩ _
  have h2 := h1.setL hk (j := 0) (by omega) (.int .i64 3) ⟨3, x.live - 1, x.wear, x.nx⟩ (by rw [at_set _ _ (by omega)]; rfl)
  have k2 := k1.setCell (p := ⟨g.ML, k * 4 + 0, none⟩) (.inl rfl) (.int .i64 3)
  have e2 : (g.l.set k { x with live := x.live - 1 }).set k ⟨3, x.live - 1, x.wear, x.nx⟩ = g.l.set k ⟨3, x.live - 1, x.wear, x.nx⟩ := List.set_set ..
  simp only [e2, Nat.add_zero] at h2 k2
  have H1 := Lib.hid h1
  have H2 := Lib.hid h2
  have HK1 := Lib.hid k1
  have HK2 := Lib.hid k2
  have hd : decide ((x.live : Int) = 0) = false := decide_eq_false (by omega)
  have hd2 : ((x.live : Int) == 0) = false := by rw [beq_eq_false_iff_ne]; omega
  have e1 : ((x.live - 1 : Nat) : Int) = (x.live : Int) - 1 := by omega
  rw [e1] at H1 H2 HK1 HK2 m1' s0 s1 t0
  have g1 : (0 : Int) ≤ (k : Int) := by omega
  have g2 : (k : Int) < (NB : Int) := by omega
  have i1 := IntWalk.i64_in ((x.live : Int) - 1) ⟨by omega, by omega⟩
  have HX := Lib.hid hx
  have HE1 := Lib.hid e1
  clear h hg h1 h2 k1 k2 hx e2 e1
  simp only at m1' s0 s1
  go_enter Tryz.func25, Tryz.ntmps25
  go_wp2_with fail
  refine (HT.out).mono ?_
  rintro e w_ ⟨rfl, rfl⟩
  go_upto_region 6 with fail
  generalize w.setCell ⟨g.ML, k * 4 + 1, none⟩ (.int .i64 ((x.live : Int) - 1)) = w1 at *
  clear m1 r1 f1
  by_cases hs : x.st = 2
  · by_cases hz : x.live = 1
    · have e3 : dropB x = ⟨3, x.live - 1, x.wear, x.nx⟩ := by unfold dropB; rw [if_pos ⟨hs, by omega⟩]
      have E3 := Lib.hid e3
      rw [hs] at s0
      rw [hz] at s1
      clear hs hz e3
      go_wp2_with fail
      go_ret
      exact ⟨rfl, by rw [E3.out]; exact H2.out, HK2.out⟩
    · have e3 : dropB x = { x with live := x.live - 1 } := by unfold dropB; rw [if_neg (fun h => by have := h.2; omega)]
      have hz2 : ((x.live : Int) - 1 == 0) = false := by rw [beq_eq_false_iff_ne]; omega
      have E3 := Lib.hid e3
      rw [hs] at s0
      clear hs hz e3
      go_wp2_with fail
      go_ret
      exact ⟨rfl, by rw [E3.out]; exact H1.out, HK1.out⟩
  · have e3 : dropB x = { x with live := x.live - 1 } := by unfold dropB; rw [if_neg (fun h => hs h.1)]
    have hs2 : ((x.st : Int) == 2) = false := by rw [beq_eq_false_iff_ne]; omega
    have E3 := Lib.hid e3
    clear hs e3
    go_wp2_with fail
    go_ret
    exact ⟨rfl, by rw [E3.out]; exact H1.out, HK1.out⟩
end
end Go.Proofs.YtiipnpfaaghekaaGreat
