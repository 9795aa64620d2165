/-
  The manager erases a block.
-/
import Derived.Test.YtkkkggeagjgbeaaBlkBegin
namespace Go.Proofs.Ytkkkggeagjgbeaa
open Go.RowKit

section
variable {NB B : Nat} {S : Nat → Prop} {w : World} {g : Mg}
theorem MgM.upup {w0 w1 : World} (h : MgM NB B (Up S w0 w1) w g) (h0 : B ≤ w0.heap.size) (hM : g.M < w0.heap.size) (hL : g.ML < w0.heap.size) (hs : w1.heap.size ≤ w.heap.size) : MgM NB B (Up S w0 w) w g :=
  ⟨h.hM, h.hL, h.hc.upup h0 hs, h.ne, fun h1 => h.sM (.inl (up_of h1 hM)), fun h1 => h.sL (.inl (up_of h1 hL)), h.bM, h.bL, h.nb⟩
theorem MgM.re {w0 wa wb : World} (h : MgM NB B (Up S wa wb) w g) (h0 : B ≤ w0.heap.size) (hM : g.M < w0.heap.size) (hL : g.ML < w0.heap.size) (h1 : w0.heap.size ≤ wa.heap.size) (hs : wb.heap.size ≤ w.heap.size) : MgM NB B (Up S w0 w) w g :=
  ⟨h.hM, h.hL, h.hc.re h0 h1 hs, h.ne, fun h2 => h.sM (.inl (up_of h2 hM)), fun h2 => h.sL (.inl (up_of h2 hL)), h.bM, h.bL, h.nb⟩
/-- The manager behind an erasing. -/
def erG (g : Mg) (k : Nat) (ps' : Nat → Nat) : Mg := { g with ps := ps', bl := upd g.bl k (fresh ((g.bl k).wear + 1)), l := g.l.set k ⟨0, 0, (g.bl k).wear + 1, 0⟩, opn := if g.opn = (k : Int) then -1 else g.opn }
set_option maxRecDepth 100000 in
set_option maxHeartbeats 8000000 in
theorem bErase_calls (h : MgM NB B S w g) {k : Nat} (hk : k < NB) (hg : Gc.good (Gc.at_ g.l k) = true) (hv : (Gc.at_ g.l k).live = 0) (hn : ¬ ((Gc.at_ g.l k).st = 1 ∧ 0 < (Gc.at_ g.l k).nx)) (hb : (g.bl k).bad = false) (hw : (g.bl k).wear ≤ 1099511627776) :
    Calls Try.prog 10 #[.pointer (some ⟨g.M, 0, none⟩), .int .i64 (k : Int)] w fun e w' => e = .returned (.int .i64 0) ∧ (∃ ps', MgM NB B (Up S w w') w' (erG g k ps')) ∧ Kq (Sm g S) w w' := by
  have HI := Lib.hid (bidle_calls h hk hg hv)
  have HE := Lib.hid (chErase_calls h.hc hk hb hw)
  have m0 := h.m0
  have m1 := h.m1
  have r0 := (h.r0 hk).1
  have r3 := (h.r3 hk).1
  have g1 : (0 : Int) ≤ (k : Int) := by omega
  have g2 : (k : Int) < (NB : Int) := by omega
  have HH := Lib.hid h
  have hlen := h.len
  generalize hx : Gc.at_ g.l k = x at *
  have HX := Lib.hid hx
  have HN := Lib.hid hn
  clear h hg hv hb hw hx hn
  go_enter Try.func10, Try.ntmps10
  go_wp2_with fail
  refine (HI.out).mono ?_
  rintro e w_ ⟨rfl, rfl⟩
  go_upto_region 4 with fail
  go_cut [32] (fun v wx => v = .bool false ∧ w = wx)
  case first =>
    cases hs : ((x.st : Int) == 1)
    · go_wp2_with fail
      go_meet
      exact ⟨rfl, rfl⟩
    · have hz : x.nx = 0 := by
        have := HN.out
        rw [beq_iff_eq] at hs
        omega
      rw [hz] at r3
      go_wp2_with fail
      go_meet
      exact ⟨rfl, rfl⟩
  case rest =>
    obtain ⟨rfl, hw⟩ := hcut
    subst hw
    clear r0 r3
    go_wp2_with fail
    refine HE.out.mono ?_
    rintro e w1 ⟨rfl, ⟨ps', h1⟩, hk1⟩
    have hg1 := HH.out.chip (ps' := ps') h1 hk1 (fun q hq => hq)
    have HS1 := Lib.hid hk1.size
    have HK1 := Lib.hid ((hk1.mono (T' := Sm g S) fun q hq => .inr (.inr hq)).on (below_drew w1))
    have HG1 := Lib.hid (hg1.on (below_drew w1))
    have n0 := HG1.out.m0
    have n1 := HG1.out.m1
    have HBn := Lib.hid HH.out.base
    have HM := Lib.hid HH.out.ltM
    have HL := Lib.hid HH.out.ltL
    have hne := HH.out.ne
    clear h1 hk1 hg1 m0 m1 HE HI
    simp only at n0 n1
    generalize hr : (g.bl k).wear = r at *
    have HR := Lib.hid hr
    clear hr
    go_upto_region 7 with fail
    refine wp_region_noPanic ?_
    refine wp_region_held_drew (S := (fun W' => W'.cell? ⟨g.M, 0, none⟩ = some (.pointer (some ⟨g.C, 0, none⟩)) ∧ W'.cell? ⟨g.M, 1, none⟩ = some (.slice (some ⟨g.ML, 0, none⟩) NB g.cap))) (by kernel_rfl) ⟨n0, n1⟩ (fun hS0 => ?_)
    generalize hw2 : w1.drew = w2 at *
    have HS2 := Lib.hid (show w.heap.size ≤ w2.heap.size from hw2 ▸ HS1.out)
    have HUp := Lib.hid (show w1.heap.size = w2.heap.size from hw2 ▸ rfl)
    clear hw2
    have HW := Lib.hid (show Calls Try.prog 21 #[.pointer (some ⟨g.C, 0, none⟩), .int .i64 (k : Int)] w2 fun e w' => e = .returned (.int .i64 ((r + 1 : Nat) : Int)) ∧ w2 = w' by
      have t := chWear_calls HG1.out.hc hk
      have e : (upd g.bl k (fresh (r + 1)) k).wear = r + 1 := by rw [upd_same]; rfl
      rw [← e]
      exact t)
    refine takeV 0 (v := (.pointer (some ⟨g.M, 0, none⟩))) rfl (by kernel_rfl) (by kernel_rfl) (by kernel_rfl) (fun _ _ _ h => h) (by rfl) (fun _ _ => rfl) (by assumption) ?_
    try simp only [layR]
    refine takeV 1 (v := (.pointer (some ⟨g.M, 0, none⟩))) rfl (by kernel_rfl) (by kernel_rfl) (by kernel_rfl) (fun _ _ _ h => h) (by rfl) (fun W hSw => ?_) (by assumption) ?_
    · skip
      go_simp
    try simp only [layR]
    refine takeV 2 (v := (.pointer (some ⟨g.M, 1, none⟩))) rfl (by kernel_rfl) (by kernel_rfl) (by kernel_rfl) (fun _ _ _ h => h) (by rfl) (fun W hSw => ?_) (by assumption) ?_
    · skip
      go_simp
    try simp only [layR]
    refine takeV 3 (v := (.slice (some ⟨g.ML, 0, none⟩) NB g.cap)) rfl (by kernel_rfl) (by kernel_rfl) (by kernel_rfl) (fun _ _ _ h => h) (by rfl) (fun W hSw => ?_) (by assumption) ?_
    · have y9 := hSw.2
      go_simp
    try simp only [layR]
    refine takeV 4 (v := (.int .i64 (k : Int))) rfl (by kernel_rfl) (by kernel_rfl) (by kernel_rfl) (fun _ _ _ h => h) (by rfl) (fun _ _ => rfl) (by assumption) ?_
    try simp only [layR]
    refine takeV 5 (v := (.pointer (some ⟨g.M, 0, none⟩))) rfl (by kernel_rfl) (by kernel_rfl) (by kernel_rfl) (fun _ _ _ h => h) (by rfl) (fun _ _ => rfl) (by assumption) ?_
    try simp only [layR]
    refine takeV 6 (v := (.pointer (some ⟨g.M, 0, none⟩))) rfl (by kernel_rfl) (by kernel_rfl) (by kernel_rfl) (fun _ _ _ h => h) (by rfl) (fun W hSw => ?_) (by assumption) ?_
    · skip
      go_simp
    try simp only [layR]
    refine takeV 7 (v := (.pointer (some ⟨g.M, 0, none⟩))) rfl (by kernel_rfl) (by kernel_rfl) (by kernel_rfl) (fun _ _ _ h => h) (by rfl) (fun W hSw => ?_) (by assumption) ?_
    · skip
      go_simp
    try simp only [layR]
    refine takeV 8 (v := (.pointer (some ⟨g.C, 0, none⟩))) rfl (by kernel_rfl) (by kernel_rfl) (by kernel_rfl) (fun _ _ _ h => h) (by rfl) (fun W hSw => ?_) (by assumption) ?_
    · have y9 := hSw.1
      go_simp
    try simp only [layR]
    refine takeV 9 (v := (.int .i64 (k : Int))) rfl (by kernel_rfl) (by kernel_rfl) (by kernel_rfl) (fun _ _ _ h => h) (by rfl) (fun _ _ => rfl) (by assumption) ?_
    try simp only [layR]
    refine wpAnyH_ready (rs := [10]) (by kernel_rfl) (by simp) ?_
    refine AllReadyH.cons rfl (fun K' hK => ?_) AllReadyH.nil
    go_simp
    refine HW.out.mono ?_
    rintro e w_ ⟨rfl, rfl⟩
    refine hK.out _ _ hS0 (fun hS1 => ?_)
    try simp only [layR]
    refine takeV 11 (v := (.pointer (some ⟨g.ML, k * 4, none⟩))) rfl (by kernel_rfl) (by kernel_rfl) (by kernel_rfl) (fun _ _ _ h => h) (by rfl) (fun W hSw => ?_) (by assumption) ?_
    · skip
      go_simp
    try simp only [layR]
    refine takeV 12 (v := (.pointer (some ⟨g.ML, k * 4 + 2, none⟩))) rfl (by kernel_rfl) (by kernel_rfl) (by kernel_rfl) (fun _ _ _ h => h) (by rfl) (fun W hSw => ?_) (by assumption) ?_
    · skip
      go_simp
    try simp only [layR]
    obtain ⟨x2, y2⟩ := HG1.out.r2 hk
    have hs2 := HG1.out.setL hk (j := 2) (by omega) (.int .i64 ((r + 1 : Nat) : Int)) { Gc.at_ g.l k with wear := r + 1 } rfl
    have hk2 := HK1.out.setCell (p := ⟨g.ML, k * 4 + 2, none⟩) (.inl (.inr (.inl rfl))) (.int .i64 ((r + 1 : Nat) : Int))
    have e1 : ((r + 1 : Nat) : Int) = (r : Int) + 1 := by omega
    rw [e1] at hs2 hk2
    have HG2 := Lib.hid hs2
    have HK2 := Lib.hid hk2
    have p0 := hs2.m0
    have p1 := hs2.m1
    simp only at p0 p1
    clear hs2 hk2 e1
    refine wpAnyH_ready (rs := [13]) (by kernel_rfl) (by simp) ?_
    refine AllReadyH.cons rfl (fun K' hK => ?_) AllReadyH.nil
    go_simp
    refine hK.out _ _ ⟨p0, p1⟩ (fun hS2 => ?_)
    try simp only [layR]
    refine wpAnyH_done (by kernel_rfl) ?_ _
    refine NoPanic.normal ?_
    clear hS0 hS1 hS2 n0 n1 p0 p1 x2 y2
    have HUp2 := Lib.hid (show w1.heap.size = (w2.setCell ⟨g.ML, k * 4 + 2, none⟩ (.int .i64 ((r : Int) + 1))).heap.size by rw [World.size_setCell]; exact HUp.out)
    generalize w2.setCell ⟨g.ML, k * 4 + 2, none⟩ (.int .i64 ((r : Int) + 1)) = w3 at *
    go_upto_region 11 with fail
    have HG3 := Lib.hid (HG2.out.on (below_drew w3))
    have HK3 := Lib.hid (HK2.out.on (below_drew w3))
    have n0 := HG3.out.m0
    have n1 := HG3.out.m1
    simp only at n0 n1
    refine wp_region_noPanic ?_
    refine wp_region_held_drew (S := (fun W' => W'.cell? ⟨g.M, 0, none⟩ = some (.pointer (some ⟨g.C, 0, none⟩)) ∧ W'.cell? ⟨g.M, 1, none⟩ = some (.slice (some ⟨g.ML, 0, none⟩) NB g.cap))) (by kernel_rfl) ⟨n0, n1⟩ (fun hS0 => ?_)
    have HUp3 := Lib.hid (show w1.heap.size = w3.drew.heap.size from HUp2.out)
    generalize w3.drew = w4 at *
    have HW2 := Lib.hid (show Calls Try.prog 21 #[.pointer (some ⟨g.C, 0, none⟩), .int .i64 (k : Int)] w4 fun e w' => e = .returned (.int .i64 ((r + 1 : Nat) : Int)) ∧ w4 = w' by
      have t := chWear_calls HG3.out.hc hk
      have e : (upd g.bl k (fresh (r + 1)) k).wear = r + 1 := by rw [upd_same]; rfl
      rw [← e]
      exact t)
    refine takeV 0 (v := (.pointer (some ⟨g.M, 0, none⟩))) rfl (by kernel_rfl) (by kernel_rfl) (by kernel_rfl) (fun _ _ _ h => h) (by rfl) (fun _ _ => rfl) (by assumption) ?_
    try simp only [layR]
    refine takeV 1 (v := (.pointer (some ⟨g.M, 0, none⟩))) rfl (by kernel_rfl) (by kernel_rfl) (by kernel_rfl) (fun _ _ _ h => h) (by rfl) (fun W hSw => ?_) (by assumption) ?_
    · skip
      go_simp
    try simp only [layR]
    refine takeV 2 (v := (.pointer (some ⟨g.M, 1, none⟩))) rfl (by kernel_rfl) (by kernel_rfl) (by kernel_rfl) (fun _ _ _ h => h) (by rfl) (fun W hSw => ?_) (by assumption) ?_
    · skip
      go_simp
    try simp only [layR]
    refine takeV 3 (v := (.slice (some ⟨g.ML, 0, none⟩) NB g.cap)) rfl (by kernel_rfl) (by kernel_rfl) (by kernel_rfl) (fun _ _ _ h => h) (by rfl) (fun W hSw => ?_) (by assumption) ?_
    · have y9 := hSw.2
      go_simp
    try simp only [layR]
    refine takeV 4 (v := (.int .i64 (k : Int))) rfl (by kernel_rfl) (by kernel_rfl) (by kernel_rfl) (fun _ _ _ h => h) (by rfl) (fun _ _ => rfl) (by assumption) ?_
    try simp only [layR]
    refine takeV 5 (v := (.pointer (some ⟨g.M, 0, none⟩))) rfl (by kernel_rfl) (by kernel_rfl) (by kernel_rfl) (fun _ _ _ h => h) (by rfl) (fun _ _ => rfl) (by assumption) ?_
    try simp only [layR]
    refine takeV 6 (v := (.pointer (some ⟨g.M, 0, none⟩))) rfl (by kernel_rfl) (by kernel_rfl) (by kernel_rfl) (fun _ _ _ h => h) (by rfl) (fun W hSw => ?_) (by assumption) ?_
    · skip
      go_simp
    try simp only [layR]
    refine takeV 7 (v := (.pointer (some ⟨g.M, 0, none⟩))) rfl (by kernel_rfl) (by kernel_rfl) (by kernel_rfl) (fun _ _ _ h => h) (by rfl) (fun W hSw => ?_) (by assumption) ?_
    · skip
      go_simp
    try simp only [layR]
    refine takeV 8 (v := (.pointer (some ⟨g.C, 0, none⟩))) rfl (by kernel_rfl) (by kernel_rfl) (by kernel_rfl) (fun _ _ _ h => h) (by rfl) (fun W hSw => ?_) (by assumption) ?_
    · have y9 := hSw.1
      go_simp
    try simp only [layR]
    refine takeV 9 (v := (.int .i64 (k : Int))) rfl (by kernel_rfl) (by kernel_rfl) (by kernel_rfl) (fun _ _ _ h => h) (by rfl) (fun _ _ => rfl) (by assumption) ?_
    try simp only [layR]
    refine wpAnyH_ready (rs := [10]) (by kernel_rfl) (by simp) ?_
    refine AllReadyH.cons rfl (fun K' hK => ?_) AllReadyH.nil
    go_simp
    refine HW2.out.mono ?_
    rintro e w_ ⟨rfl, rfl⟩
    refine hK.out _ _ hS0 (fun hS1 => ?_)
    try simp only [layR]
    refine takeV 11 (v := (.agg #[.int .i64 0, .int .i64 0, .int .i64 ((r : Int) + 1), .int .i64 0])) rfl (by kernel_rfl) (by kernel_rfl) (by kernel_rfl) (fun _ _ _ h => h) (by rfl) (fun W hSw => ?_) (by assumption) ?_
    · skip
      go_simp
    try simp only [layR]
    refine takeV 12 (v := (.pointer (some ⟨g.ML, k * 4, none⟩))) rfl (by kernel_rfl) (by kernel_rfl) (by kernel_rfl) (fun _ _ _ h => h) (by rfl) (fun W hSw => ?_) (by assumption) ?_
    · skip
      go_simp
    try simp only [layR]
    have hs5 := HG3.out.setRow hk ⟨0, 0, r + 1, 0⟩
    simp only [List.set_set] at hs5
    have HG5 := Lib.hid (show MgM NB B _ ((((w4.setCell ⟨g.ML, k * 4, none⟩ (.int .i64 0)).setCell ⟨g.ML, k * 4 + 1, none⟩ (.int .i64 0)).setCell ⟨g.ML, k * 4 + 2, none⟩ (.int .i64 ((r : Int) + 1))).setCell ⟨g.ML, k * 4 + 3, none⟩ (.int .i64 0)) { g with ps := ps', bl := upd g.bl k (fresh (r + 1)), l := g.l.set k ⟨0, 0, r + 1, 0⟩ } from hs5)
    have HK5 := Lib.hid (show Kq (Sm g S) w ((((w4.setCell ⟨g.ML, k * 4, none⟩ (.int .i64 0)).setCell ⟨g.ML, k * 4 + 1, none⟩ (.int .i64 0)).setCell ⟨g.ML, k * 4 + 2, none⟩ (.int .i64 ((r : Int) + 1))).setCell ⟨g.ML, k * 4 + 3, none⟩ (.int .i64 0)) from kq_row HK3.out (.inr (.inl rfl)) ⟨0, 0, r + 1, 0⟩)
    obtain ⟨x0, y0⟩ := HG3.out.r0 hk
    obtain ⟨x1, y1⟩ := HG3.out.r1 hk
    obtain ⟨x2, y2⟩ := HG3.out.r2 hk
    obtain ⟨x3, y3⟩ := HG3.out.r3 hk
    have p0 := HG5.out.m0
    have p1 := HG5.out.m1
    have p2 := HG5.out.m2
    have p3 := HG5.out.frzM 2
    simp only at p0 p1 p2 p3 x0 x1 x2 x3 y0 y1 y2 y3
    clear hs5
    refine wpAnyH_ready (rs := [13]) (by kernel_rfl) (by simp) ?_
    refine AllReadyH.cons rfl (fun K' hK => ?_) AllReadyH.nil
    go_simp
    refine hK.out _ _ ⟨p0, p1⟩ (fun hS2 => ?_)
    try simp only [layR]
    refine wpAnyH_done (by kernel_rfl) ?_ _
    refine NoPanic.normal ?_
    clear hS0 hS1 hS2 n0 n1 p0 p1 x0 x1 x2 x3 y0 y1 y2 y3
    have HUp5 := Lib.hid (show w1.heap.size = ((((w4.setCell ⟨g.ML, k * 4, none⟩ (.int .i64 0)).setCell ⟨g.ML, k * 4 + 1, none⟩ (.int .i64 0)).setCell ⟨g.ML, k * 4 + 2, none⟩ (.int .i64 ((r : Int) + 1))).setCell ⟨g.ML, k * 4 + 3, none⟩ (.int .i64 0)).heap.size by simp only [World.size_setCell]; exact HUp3.out)
    generalize ((((w4.setCell ⟨g.ML, k * 4, none⟩ (.int .i64 0)).setCell ⟨g.ML, k * 4 + 1, none⟩ (.int .i64 0)).setCell ⟨g.ML, k * 4 + 2, none⟩ (.int .i64 ((r : Int) + 1))).setCell ⟨g.ML, k * 4 + 3, none⟩ (.int .i64 0)) = w5 at *
    by_cases ho : g.opn = (k : Int)
    · have HG6 := Lib.hid (HG5.out.setO (-1))
      have HK6 := Lib.hid (HK5.out.setCell (p := ⟨g.M, 2, none⟩) (.inl (.inl rfl)) (.int .i64 (-1)))
      have HO := Lib.hid ho
      have ho2 : ((k : Int) == g.opn) = true := by rw [beq_iff_eq, ho]
      clear ho
      go_wp2_with fail
      go_ret
      refine ⟨rfl, ⟨ps', ?_⟩, HK6.out⟩
      unfold erG
      rw [if_pos HO.out, HR.out]
      exact HG6.out.upup HBn.out HM.out HL.out (by rw [World.size_setCell]; exact Nat.le_of_eq HUp5.out)
    · have HO := Lib.hid ho
      have ho2 : ((k : Int) == g.opn) = false := by rw [beq_eq_false_iff_ne]; exact Ne.symm ho
      clear ho
      go_wp2_with fail
      go_ret
      refine ⟨rfl, ⟨ps', ?_⟩, HK5.out⟩
      unfold erG
      rw [if_neg HO.out, HR.out]
      exact HG5.out.upup HBn.out HM.out HL.out (Nat.le_of_eq HUp5.out)
end
end Go.Proofs.Ytkkkggeagjgbeaa
