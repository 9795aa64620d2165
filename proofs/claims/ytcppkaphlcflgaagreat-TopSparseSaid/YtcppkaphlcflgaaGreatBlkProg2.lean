import Derived.Test.YtcppkaphlcflgaaGreatBlkBegin
namespace Go.Proofs.YtcppkaphlcflgaaGreat
open Go.RowKit

section
variable {NB B : Nat} {S : Nat → Prop} {w : World} {g : Mg}
theorem MgM.upup {w0 w1 : World} (h : MgM NB B (Up S w0 w1) w g) (h0 : B ≤ w0.heap.size) (hM : g.M < w0.heap.size) (hL : g.ML < w0.heap.size) (hs : w1.heap.size ≤ w.heap.size) : MgM NB B (Up S w0 w) w g :=
 ⟨h.hM, h.hL, h.hc.upup h0 hs, h.ne, fun h1 => h.sM (.inl (up_of h1 hM)), fun h1 => h.sL (.inl (up_of h1 hL)), h.bM, h.bL, h.nb⟩
theorem MgM.re {w0 wa wb : World} (h : MgM NB B (Up S wa wb) w g) (h0 : B ≤ w0.heap.size) (hM : g.M < w0.heap.size) (hL : g.ML < w0.heap.size) (h1 : w0.heap.size ≤ wa.heap.size) (hs : wb.heap.size ≤ w.heap.size) : MgM NB B (Up S w0 w) w g :=
 ⟨h.hM, h.hL, h.hc.re h0 h1 hs, h.ne, fun h2 => h.sM (.inl (up_of h2 hM)), fun h2 => h.sL (.inl (up_of h2 hL)), h.bM, h.bL, h.nb⟩
def erG (g : Mg) (k : Nat) (ps' : Nat → Nat) : Mg := { g with ps := ps', bl := upd g.bl k (fresh ((g.bl k).wear + 1)), l := g.l.set k ⟨0, 0, (g.bl k).wear + 1, 0⟩, opn := if g.opn = (k : Int) then -1 else g.opn }
set_option maxRecDepth 100000 in
set_option maxHeartbeats 8000000 in
theorem bErase_calls (h : MgM NB B S w g) {k : Nat} (hk : k < NB) (hg : Gc.good (Gc.at_ g.l k) = true) (hv : (Gc.at_ g.l k).live = 0) (hn : ¬ ((Gc.at_ g.l k).st = 1 ∧ 0 < (Gc.at_ g.l k).nx)) (hb : (g.bl k).bad = false) (hw : (g.bl k).wear ≤ 1099511627776) :
  Calls Tryz.prog 202 #[.pointer (some ⟨g.M, 0, none⟩), .int .i64 (k : Int)] w fun e w' => e = .returned (.int .i64 0) ∧ (∃ ps', MgM NB B (Up S w w') w' (erG g k ps')) ∧ Kq (Sm g S) w w' := by
 have HI := Lib.hid (bidle_calls h hk hg hv)
 have HE := Lib.hid (chErase_calls h.hc hk hb hw)
 have m0 := h.m0
 have m1 := h.m1
 have r0 := (h.r0 hk).1
 have r3 := (h.r3 hk).1
 have g1 : (0 : Int) ≤ (k : Int) := by omega
 have g2 : (k : Int) < (NB : Int) := by omega
 have HH := Lib.hid h
 have hlen := h.len
 generalize hx : Gc.at_ g.l k = x at *
 have HX := Lib.hid hx
 have HN := Lib.hid hn
 clear h hg hv hb hw hx hn
 go_enter Tryz.func202, Tryz.ntmps202
 go_wp2_with fail
 refine (HI.out).mono ?_
 rintro e w_ ⟨rfl, rfl⟩
 go_upto_region 4 with fail
 go_cut [32] (fun v wx => v = .bool false ∧ w = wx)
 case first =>
  cases hs : ((x.st : Int) == 1)
  ·go_wp2_with fail
   go_meet
   exact ⟨rfl, rfl⟩
  ·have hz : x.nx = 0 := by
    have := HN.out
    rw [beq_iff_eq] at hs
    omega
   rw [hz] at r3
   go_wp2_with fail
   go_meet
   exact ⟨rfl, rfl⟩
 case rest =>
  obtain ⟨rfl, hw⟩ := hcut
  subst hw
  clear r0 r3
  go_wp2_with fail
  refine HE.out.mono ?_
  rintro e w1 ⟨rfl, ⟨ps', h1⟩, hk1⟩
  have hg1 := HH.out.chip (ps' := ps') h1 hk1 (fun q hq => hq)
  have HS1 := Lib.hid hk1.size
  have HK1 := Lib.hid ((hk1.mono (T' := Sm g S) fun q hq => .inr (.inr hq)).on (below_drew w1))
  have HG1 := Lib.hid (hg1.on (below_drew w1))
  have n0 := HG1.out.m0
  have n1 := HG1.out.m1
  have HBn := Lib.hid HH.out.base
  have HM := Lib.hid HH.out.ltM
  have HL := Lib.hid HH.out.ltL
  have hne := HH.out.ne
  clear h1 hk1 hg1 m0 m1 HE HI
  simp only at n0 n1
  generalize hr : (g.bl k).wear = r at *
  have HR := Lib.hid hr
  clear hr
  go_upto_region 7 with fail
  refine wp_region_noPanic ?_
  refine wp_region_held_drew (S := (fun W' => W'.cell? ⟨g.M, 0, none⟩ = some (.pointer (some ⟨g.C, 0, none⟩)) ∧ W'.cell? ⟨g.M, 1, none⟩ = some (.slice (some ⟨g.ML, 0, none⟩) NB g.cap))) (by kernel_rfl) ⟨n0, n1⟩ (fun hS0 => ?_)
  generalize hw2 : w1.drew = w2 at *
  have HS2 := Lib.hid (show w.heap.size ≤ w2.heap.size from hw2 ▸ HS1.out)
  have HUp := Lib.hid (show w1.heap.size = w2.heap.size from hw2 ▸ rfl)
  clear hw2
  have HW := Lib.hid (show Calls Tryz.prog 109 #[.pointer (some ⟨g.C, 0, none⟩), .int .i64 (k : Int)] w2 fun e w' => e = .returned (.int .i64 ((r + 1 : Nat) : Int)) ∧ w2 = w' by
   have t := chWear_calls HG1.out.hc hk
   have e : (upd g.bl k (fresh (r + 1)) k).wear = r + 1 := by rw [upd_same]; rfl
   rw [← e]
   exact t)
  refine takeV 0 (v := (.pointer (some ⟨g.M, 0, none⟩))) rfl (by kernel_rfl) (by kernel_rfl) (by kernel_rfl) (fun _ _ _ h => h) (by rfl) (fun _ _ => rfl) (by assumption) ?_
  try simp only [layR]
  refine takeV 1 (v := (.pointer (some ⟨g.M, 0, none⟩))) rfl (by kernel_rfl) (by kernel_rfl) (by kernel_rfl) (fun _ _ _ h => h) (by rfl) (fun W hSw => ?_) (by assumption) ?_
  ·skip
   go_simp
  try simp only [layR]
  refine takeV 2 (v := (.pointer (some ⟨g.M, 1, none⟩))) rfl (by kernel_rfl) (by kernel_rfl) (by kernel_rfl) (fun _ _ _ h => h) (by rfl) (fun W hSw => ?_) (by assumption) ?_
  ·skip
   go_simp
  try simp only [layR]
  refine takeV 3 (v := (.slice (some ⟨g.ML, 0, none⟩) NB g.cap)) rfl (by kernel_rfl) (by kernel_rfl) (by kernel_rfl) (fun _ _ _ h => h) (by rfl) (fun W hSw => ?_) (by assumption) ?_
  ·have y9 := hSw.2
   go_simp
  try simp only [layR]
  refine takeV 4 (v := (.int .i64 (k : Int))) rfl (by kernel_rfl) (by kernel_rfl) (by kernel_rfl) (fun _ _ _ h => h) (by rfl) (fun _ _ => rfl) (by assumption) ?_
  try simp only [layR]
  refine takeV 5 (v := (.pointer (some ⟨g.M, 0, none⟩))) rfl (by kernel_rfl) (by kernel_rfl) (by kernel_rfl) (fun _ _ _ h => h) (by rfl) (fun _ _ => rfl) (by assumption) ?_
  try simp only [layR]
  refine takeV 6 (v := (.pointer (some ⟨g.M, 0, none⟩))) rfl (by kernel_rfl) (by kernel_rfl) (by kernel_rfl) (fun _ _ _ h => h) (by rfl) (fun W hSw => ?_) (by assumption) ?_
  ·skip
   go_simp
  try simp only [layR]
  refine takeV 7 (v := (.pointer (some ⟨g.M, 0, none⟩))) rfl (by kernel_rfl) (by kernel_rfl) (by kernel_rfl) (fun _ _ _ h => h) (by rfl) (fun W hSw => ?_) (by assumption) ?_
  ·skip
   go_simp
  try simp only [layR]
  refine takeV 8 (v := (.pointer (some ⟨g.C, 0, none⟩))) rfl (by kernel_rfl) (by kernel_rfl) (by kernel_rfl) (fun _ _ _ h => h) (by rfl) (fun W hSw => ?_) (by assumption) ?_
  ·have y9 := hSw.1
   go_simp
  try simp only [layR]
  refine takeV 9 (v := (.int .i64 (k : Int))) rfl (by kernel_rfl) (by kernel_rfl) (by kernel_rfl) (fun _ _ _ h => h) (by rfl) (fun _ _ => rfl) (by assumption) ?_
  try simp only [layR]
  refine wpAnyH_ready (rs := [10]) (by kernel_rfl) (by simp) ?_
  refine AllReadyH.cons rfl (fun K' hK => ?_) AllReadyH.nil
  go_simp
  refine HW.out.mono ?_
  rintro e w_ ⟨rfl, rfl⟩
  refine hK.out _ _ hS0 (fun hS1 => ?_)
  try simp only [layR]
  refine takeV 11 (v := (.pointer (some ⟨g.ML, k * 4, none⟩))) rfl (by kernel_rfl) (by kernel_rfl) (by kernel_rfl) (fun _ _ _ h => h) (by rfl) (fun W hSw => ?_) (by assumption) ?_
  ·skip
   go_simp
  try simp only [layR]
  refine takeV 12 (v := (.pointer (some ⟨g.ML, k * 4 + 2, none⟩))) rfl (by kernel_rfl) (by kernel_rfl) (by kernel_rfl) (fun _ _ _ h => h) (by rfl) (fun W hSw => ?_) (by assumption) ?_
  ·skip
   go_simp
  try simp only [layR]
  obtain ⟨x2, y2⟩ := HG1.out.r2 hk
  have hs2 := HG1.out.setL hk (j := 2) (by omega) (.int .i64 ((r + 1 : Nat) : Int)) { Gc.at_ g.l k with wear := r + 1 } rfl
  have hk2 := HK1.out.setCell (p := ⟨g.ML, k * 4 + 2, none⟩) (.inl (.inr (.inl rfl))) (.int .i64 ((r + 1 : Nat) : Int))
  have e1 : ((r + 1 : Nat) : Int) = (r : Int) + 1 := by omega
  rw [e1] at hs2 hk2
  have HG2 := Lib.hid hs2
  have HK2 := Lib.hid hk2
  have p0 := hs2.m0
  have p1 := hs2.m1
  simp only at p0 p1
  clear hs2 hk2 e1
  refine wpAnyH_ready (rs := [13]) (by kernel_rfl) (by simp) ?_
  refine AllReadyH.cons rfl (fun K' hK => ?_) AllReadyH.nil
  go_simp
  refine hK.out _ _ ⟨p0, p1⟩ (fun hS2 => ?_)
  try simp only [layR]
  refine wpAnyH_done (by kernel_rfl) ?_ _
  refine NoPanic.normal ?_
  clear hS0 hS1 hS2 n0 n1 p0 p1 x2 y2
  have HUp2 := Lib.hid (show w1.heap.size = (w2.setCell ⟨g.ML, k * 4 + 2, none⟩ (.int .i64 ((r : Int) + 1))).heap.size by rw [World.size_setCell]; exact HUp.out)
  generalize w2.setCell ⟨g.ML, k * 4 + 2, none⟩ (.int .i64 ((r : Int) + 1)) = w3 at *
  go_upto_region 11 with fail
  have HG3 := Lib.hid (HG2.out.on (below_drew w3))
  have HK3 := Lib.hid (HK2.out.on (below_drew w3))
  have n0 := HG3.out.m0
  have n1 := HG3.out.m1
  simp only at n0 n1
  refine wp_region_noPanic ?_
  refine wp_region_held_drew (S := (fun W' => W'.cell? ⟨g.M, 0, none⟩ = some (.pointer (some ⟨g.C, 0, none⟩)) ∧ W'.cell? ⟨g.M, 1, none⟩ = some (.slice (some ⟨g.ML, 0, none⟩) NB g.cap))) (by kernel_rfl) ⟨n0, n1⟩ (fun hS0 => ?_)
  have HUp3 := Lib.hid (show w1.heap.size = w3.drew.heap.size from HUp2.out)
  generalize w3.drew = w4 at *
  have HW2 := Lib.hid (show Calls Tryz.prog 109 #[.pointer (some ⟨g.C, 0, none⟩), .int .i64 (k : Int)] w4 fun e w' => e = .returned (.int .i64 ((r + 1 : Nat) : Int)) ∧ w4 = w' by
   have t := chWear_calls HG3.out.hc hk
   have e : (upd g.bl k (fresh (r + 1)) k).wear = r + 1 := by rw [upd_same]; rfl
   rw [← e]
   exact t)
  refine takeV 0 (v := (.pointer (some ⟨g.M, 0, none⟩))) rfl (by kernel_rfl) (by kernel_rfl) (by kernel_rfl) (fun _ _ _ h => h) (by rfl) (fun _ _ => rfl) (by assumption) ?_
  try simp only [layR]
  refine takeV 1 (v := (.pointer (some ⟨g.M, 0, none⟩))) rfl (by kernel_rfl) (by kernel_rfl) (by kernel_rfl) (fun _ _ _ h => h) (by rfl) (fun W hSw => ?_) (by assumption) ?_
  ·skip
   go_simp
  try simp only [layR]
  refine takeV 2 (v := (.pointer (some ⟨g.M, 1, none⟩))) rfl (by kernel_rfl) (by kernel_rfl) (by kernel_rfl) (fun _ _ _ h => h) (by rfl) (fun W hSw => ?_) (by assumption) ?_
  ·skip
   go_simp
  try simp only [layR]
  refine takeV 3 (v := (.slice (some ⟨g.ML, 0, none⟩) NB g.cap)) rfl (by kernel_rfl) (by kernel_rfl) (by kernel_rfl) (fun _ _ _ h => h) (by rfl) (fun W hSw => ?_) (by assumption) ?_
  ·have y9 := hSw.2
   go_simp
  try simp only [layR]
  refine takeV 4 (v := (.int .i64 (k : Int))) rfl (by kernel_rfl) (by kernel_rfl) (by kernel_rfl) (fun _ _ _ h => h) (by rfl) (fun _ _ => rfl) (by assumption) ?_
  try simp only [layR]
  refine takeV 5 (v := (.pointer (some ⟨g.M, 0, none⟩))) rfl (by kernel_rfl) (by kernel_rfl) (by kernel_rfl) (fun _ _ _ h => h) (by rfl) (fun _ _ => rfl) (by assumption) ?_
  try simp only [layR]
  refine takeV 6 (v := (.pointer (some ⟨g.M, 0, none⟩))) rfl (by kernel_rfl) (by kernel_rfl) (by kernel_rfl) (fun _ _ _ h => h) (by rfl) (fun W hSw => ?_) (by assumption) ?_
  ·skip
   go_simp
  try simp only [layR]
  refine takeV 7 (v := (.pointer (some ⟨g.M, 0, none⟩))) rfl (by kernel_rfl) (by kernel_rfl) (by kernel_rfl) (fun _ _ _ h => h) (by rfl) (fun W hSw => ?_) (by assumption) ?_
  ·skip
   go_simp
  try simp only [layR]
  refine takeV 8 (v := (.pointer (some ⟨g.C, 0, none⟩))) rfl (by kernel_rfl) (by kernel_rfl) (by kernel_rfl) (fun _ _ _ h => h) (by rfl) (fun W hSw => ?_) (by assumption) ?_
  ·have y9 := hSw.1
   go_simp
  try simp only [layR]
  refine takeV 9 (v := (.int .i64 (k : Int))) rfl (by kernel_rfl) (by kernel_rfl) (by kernel_rfl) (fun _ _ _ h => h) (by rfl) (fun _ _ => rfl) (by assumption) ?_
  try simp only [layR]
  refine wpAnyH_ready (rs := [10]) (by kernel_rfl) (by simp) ?_
  refine AllReadyH.cons rfl (fun K' hK => ?_) AllReadyH.nil
  go_simp
  refine HW2.out.mono ?_
  rintro e w_ ⟨rfl, rfl⟩
  refine hK.out _ _ hS0 (fun hS1 => ?_)
  try simp only [layR]
  refine takeV 11 (v := (.agg #[.int .i64 0, .int .i64 0, .int .i64 ((r : Int) + 1), .int .i64 0])) rfl (by kernel_rfl) (by kernel_rfl) (by kernel_rfl) (fun _ _ _ h => h) (by rfl) (fun W hSw => ?_) (by assumption) ?_
  ·skip
   go_simp
  try simp only [layR]
  refine takeV 12 (v := (.pointer (some ⟨g.ML, k * 4, none⟩))) rfl (by kernel_rfl) (by kernel_rfl) (by kernel_rfl) (fun _ _ _ h => h) (by rfl) (fun W hSw => ?_) (by assumption) ?_
  ·skip
   go_simp
  try simp only [layR]
  have hs5 := HG3.out.setRow hk ⟨0, 0, r + 1, 0⟩
  simp only [List.set_set] at hs5
  have HG5 := Lib.hid (show MgM NB B _ ((((w4.setCell ⟨g.ML, k * 4, none⟩ (.int .i64 0)).setCell ⟨g.ML, k * 4 + 1, none⟩ (.int .i64 0)).setCell ⟨g.ML, k * 4 + 2, none⟩ (.int .i64 ((r : Int) + 1))).setCell ⟨g.ML, k * 4 + 3, none⟩ (.int .i64 0)) { g with ps := ps', bl := upd g.bl k (fresh (r + 1)), l := g.l.set k ⟨0, 0, r + 1, 0⟩ } from hs5)
  have HK5 := Lib.hid (show Kq (Sm g S) w ((((w4.setCell ⟨g.ML, k * 4, none⟩ (.int .i64 0)).setCell ⟨g.ML, k * 4 + 1, none⟩ (.int .i64 0)).setCell ⟨g.ML, k * 4 + 2, none⟩ (.int .i64 ((r : Int) + 1))).setCell ⟨g.ML, k * 4 + 3, none⟩ (.int .i64 0)) from kq_row HK3.out (.inr (.inl rfl)) ⟨0, 0, r + 1, 0⟩)
  obtain ⟨x0, y0⟩ := HG3.out.r0 hk
  obtain ⟨x1, y1⟩ := HG3.out.r1 hk
  obtain ⟨x2, y2⟩ := HG3.out.r2 hk
  obtain ⟨x3, y3⟩ := HG3.out.r3 hk
  have p0 := HG5.out.m0
  have p1 := HG5.out.m1
  have p2 := HG5.out.m2
  have p3 := HG5.out.frzM 2
  simp only at p0 p1 p2 p3 x0 x1 x2 x3 y0 y1 y2 y3
  clear hs5
  refine wpAnyH_ready (rs := [13]) (by kernel_rfl) (by simp) ?_
  refine AllReadyH.cons rfl (fun K' hK => ?_) AllReadyH.nil
  go_simp
  refine hK.out _ _ ⟨p0, p1⟩ (fun hS2 => ?_)
  try simp only [layR]
  refine wpAnyH_done (by kernel_rfl) ?_ _
  refine NoPanic.normal ?_
  clear hS0 hS1 hS2 n0 n1 p0 p1 x0 x1 x2 x3 y0 y1 y2 y3
  have HUp5 := Lib.hid (show w1.heap.size = ((((w4.setCell ⟨g.ML, k * 4, none⟩ (.int .i64 0)).setCell ⟨g.ML, k * 4 + 1, none⟩ (.int .i64 0)).setCell ⟨g.ML, k * 4 + 2, none⟩ (.int .i64 ((r : Int) + 1))).setCell ⟨g.ML, k * 4 + 3, none⟩ (.int .i64 0)).heap.size by simp only [World.size_setCell]; exact HUp3.out)
  generalize ((((w4.setCell ⟨g.ML, k * 4, none⟩ (.int .i64 0)).setCell ⟨g.ML, k * 4 + 1, none⟩ (.int .i64 0)).setCell ⟨g.ML, k * 4 + 2, none⟩ (.int .i64 ((r : Int) + 1))).setCell ⟨g.ML, k * 4 + 3, none⟩ (.int .i64 0)) = w5 at *
  by_cases ho : g.opn = (k : Int)
  ·have HG6 := Lib.hid (HG5.out.setO (-1))
   have HK6 := Lib.hid (HK5.out.setCell (p := ⟨g.M, 2, none⟩) (.inl (.inl rfl)) (.int .i64 (-1)))
   have HO := Lib.hid ho
   have ho2 : ((k : Int) == g.opn) = true := by rw [beq_iff_eq, ho]
   clear ho
   go_wp2_with fail
   go_ret
   refine ⟨rfl, ⟨ps', ?_⟩, HK6.out⟩
   unfold erG
   rw [if_pos HO.out, HR.out]
   exact HG6.out.upup HBn.out HM.out HL.out (by rw [World.size_setCell]; exact Nat.le_of_eq HUp5.out)
  ·have HO := Lib.hid ho
   have ho2 : ((k : Int) == g.opn) = false := by rw [beq_eq_false_iff_ne]; exact Ne.symm ho
   clear ho
   go_wp2_with fail
   go_ret
   refine ⟨rfl, ⟨ps', ?_⟩, HK5.out⟩
   unfold erG
   rw [if_neg HO.out, HR.out]
   exact HG5.out.upup HBn.out HM.out HL.out (Nat.le_of_eq HUp5.out)
end
end Go.Proofs.YtcppkaphlcflgaaGreat
namespace Go.Proofs.YtcppkaphlcflgaaGreat
open Go.RowKit

section
variable {NB B : Nat} {S : Nat → Prop} {w : World} {g : Mg}
def prG (g : Mg) (k i : Nat) (bs : List UInt8) : Mg := { g with bl := upd g.bl k (pbNext (g.bl k) i bs), l := g.l.set k ⟨if i + 1 = 8 then 2 else (Gc.at_ g.l k).st, (Gc.at_ g.l k).live + 1, (Gc.at_ g.l k).wear, i + 1⟩, opn := if i + 1 = 8 then -1 else g.opn }
def Put (NB B : Nat) (S : Nat → Prop) (g : Mg) (w : World) (k i : Nat) (bs : List UInt8) (e : Ending) (w' : World) : Prop :=
 e = .returned (.tuple #[.int .i64 (k : Int), .int .i64 (i : Int), .int .i64 0]) ∧ MgM NB B (Up S w w') w' (prG g k i bs) ∧ Kq (Sm g S) w w'
set_option maxRecDepth 100000 in
set_option maxHeartbeats 16000000 in
theorem bProgram_open (h : MgM NB B S w g) {k i : Nat} (hk : k < NB) (ho : g.opn = (k : Int)) (hi : i < 8) (hx : (Gc.at_ g.l k).nx = i) (hx2 : (Gc.at_ g.l k).live ≤ 1000) (hn : (g.bl k).nx = i) (hb1 : (g.bl k).bad = false) (hb2 : (g.bl k).broken = false)
  (a : Option Addr) (c : Nat) (bs : List UInt8) (hbs : Own byteV 5 w 0 (.slice a 96 c) bs) (hap : ∀ q, Value.ownBlock (.slice a 96 c) = some q → ¬ S q) :
  Calls Tryz.prog 180 #[.pointer (some ⟨g.M, 0, none⟩), .slice a 96 c] w (Put NB B S g w k i bs) := by
 have HR := Lib.hid (bready_calls h)
 have HG := Lib.hid (chGeo_calls h.hc)
 have HH := Lib.hid h
 have HX := Lib.hid hbs
 have HAp := Lib.hid hap
 have HN := Lib.hid hn
 have HB1 := Lib.hid hb1
 have HB2 := Lib.hid hb2
 have HXn := Lib.hid hx
 have HXl := Lib.hid hx2
 have HO := Lib.hid ho
 have m0 := h.m0
 have g1 : (0 : Int) ≤ (k : Int) := by omega
 have g2 : (k : Int) < (NB : Int) := by omega
 clear h hbs hap hn hb1 hb2 hx hx2 ho
 go_enter Tryz.func180, Tryz.ntmps180
 go_wp2
 go_step3
 go_wp2_with fail
 refine (HR.out).mono ?_
 rintro e w_ ⟨rfl, rfl⟩
 go_wp2_with fail
 refine HG.out.mono ?_
 rintro e w1 ⟨rfl, hb⟩
 have hf := geoF2 (.int .i64 (NB : Int)) (.int .i64 8) (.int .i64 64)
 have HH1 := Lib.hid (HH.out.on hb)
 have HK1 := Lib.hid hb
 have n2 := HH1.out.m2
 rw [HO.out] at n2
 have hno : ((k : Int) != -1) = true := by rw [bne_iff_ne]; omega
 have r3 := (HH1.out.r3 hk).1
 rw [HXn.out] at r3
 have n0 := HH1.out.m0
 have n1 := HH1.out.m1
 clear hb m0
 unfold geoV
 go_wp2_with fail
 go_step3
 go_wp2_with fail
 go_loopw [8, 9, 10, 11] (fun v8 v9 v10 _ wr => v8 = .int .i64 0 ∧ v9 = .int .i64 0 ∧ v10 = .int .i64 40 ∧ wr = w1) (fun _ _ _ _ _ => 0)
 case atStart => exact ⟨rfl, rfl, rfl, rfl⟩
 case round =>
  obtain ⟨rfl, rfl, rfl, hw⟩ := hrel
  subst hw
  have HX1 := Lib.hid (HX.out.on HK1.out)
  go_wp2_with fail
  refine (chProgram_calls HH1.out.hc hk hi HN.out HB1.out HB2.out a c bs HX1.out HAp.out).mono ?_
  rintro e w2 ⟨rfl, h2, hk2⟩
  have HG2 := Lib.hid (HH1.out.chip (ps' := g.ps) h2 hk2 (fun q hq => hq))
  have HK2 := Lib.hid ((Kq.of HK1.out).trans (hk2.mono (T' := Sm g S) fun q hq => .inr (.inr hq)))
  clear h2 hk2 n2 r3 n0 n1 hno
  have r1 := HG2.out.r1 hk
  have r3 := HG2.out.r3 hk
  simp only at r1 r3
  rw [HXn.out] at r3
  obtain ⟨r1, f1⟩ := r1
  obtain ⟨r3, f3⟩ := r3
  have hxl := HXl.out
  generalize hx : Gc.at_ g.l k = x at *
  have i1 := IntWalk.i64_in ((i : Int) + 1) ⟨by omega, by omega⟩
  have i2 := IntWalk.i64_in ((x.live : Int) + 1) ⟨by omega, by omega⟩
  go_upto_region 19 with fail
  have HXe := Lib.hid hx
  have hl2 := HG2.out.len
  simp only at hl2
  have q3 := HG2.out.setL hk (j := 3) (by omega) (.int .i64 ((i + 1 : Nat) : Int)) { x with nx := i + 1 } (by simp only [hx]; rfl)
  have q4 := q3.setL hk (j := 1) (by omega) (.int .i64 ((x.live + 1 : Nat) : Int)) ⟨x.st, x.live + 1, x.wear, i + 1⟩ (by rw [at_set _ _ (show k < g.l.length by omega)]; rfl)
  simp only [List.set_set] at q4
  have e1 : ((i + 1 : Nat) : Int) = (i : Int) + 1 := by omega
  have e2 : ((x.live + 1 : Nat) : Int) = (x.live : Int) + 1 := by omega
  rw [e1, e2] at q4
  have HG4 := Lib.hid q4
  have HK4 := Lib.hid ((HK2.out.setCell (p := ⟨g.ML, k * 4 + 3, none⟩) (.inl (.inr (.inl rfl))) (.int .i64 ((i : Int) + 1))).setCell (p := ⟨g.ML, k * 4 + 1, none⟩) (.inl (.inr (.inl rfl))) (.int .i64 ((x.live : Int) + 1)))
  clear q3 q4 e1 e2 r1 f1 r3 f3 hx
  have HSz := Lib.hid (show w2.heap.size = ((w2.setCell ⟨g.ML, k * 4 + 3, none⟩ (.int .i64 ((i : Int) + 1))).setCell ⟨g.ML, k * 4 + 1, none⟩ (.int .i64 ((x.live : Int) + 1))).heap.size by simp only [World.size_setCell])
  generalize ((w2.setCell ⟨g.ML, k * 4 + 3, none⟩ (.int .i64 ((i : Int) + 1))).setCell ⟨g.ML, k * 4 + 1, none⟩ (.int .i64 ((x.live : Int) + 1))) = w4 at *
  have HG5 := Lib.hid (HG4.out.on (below_drew w4))
  have HK5 := Lib.hid (HK4.out.on (below_drew w4))
  have n3 := (HG5.out.r3 hk).1
  rw [at_set _ _ (show k < g.l.length by omega)] at n3
  have n3 : w4.drew.cell? ⟨g.ML, k * 4 + 3, none⟩ = some (.int .i64 ((i : Int) + 1)) := n3
  refine wp_region_noPanic ?_
  refine wp_region_held_drew (S := (fun W' => W'.cell? ⟨g.ML, k * 4 + 3, none⟩ = some (.int .i64 ((i : Int) + 1)))) (by kernel_rfl) n3 (fun hS0 => ?_)
  have HSz5 := Lib.hid (show w2.heap.size = w4.drew.heap.size from HSz.out)
  generalize w4.drew = w5 at *
  refine takeV 0 (v := (.pointer (some ⟨g.ML, k * 4, none⟩))) rfl (by kernel_rfl) (by kernel_rfl) (by kernel_rfl) (fun _ _ _ h => h) (by rfl) (fun _ _ => rfl) (by assumption) ?_
  try simp only [layR]
  refine takeV 1 (v := (.pointer (some ⟨g.ML, k * 4, none⟩))) rfl (by kernel_rfl) (by kernel_rfl) (by kernel_rfl) (fun _ _ _ h => h) (by rfl) (fun W hSw => ?_) (by assumption) ?_
  ·skip
   go_simp
  try simp only [layR]
  refine takeV 2 (v := (.pointer (some ⟨g.ML, k * 4 + 3, none⟩))) rfl (by kernel_rfl) (by kernel_rfl) (by kernel_rfl) (fun _ _ _ h => h) (by rfl) (fun W hSw => ?_) (by assumption) ?_
  ·skip
   go_simp
  try simp only [layR]
  refine takeV 3 (v := (.int .i64 ((i : Int) + 1))) rfl (by kernel_rfl) (by kernel_rfl) (by kernel_rfl) (fun _ _ _ h => h) (by rfl) (fun W hSw => ?_) (by assumption) ?_
  ·skip
   go_simp
  try simp only [layR]
  refine takeV 4 (v := (.pointer (some ⟨g.M, 0, none⟩))) rfl (by kernel_rfl) (by kernel_rfl) (by kernel_rfl) (fun _ _ _ h => h) (by rfl) (fun _ _ => rfl) (by assumption) ?_
  try simp only [layR]
  refine wpAnyH_ready (rs := [5]) (by kernel_rfl) (by simp) ?_
  refine AllReadyH.cons rfl (fun K' hK => ?_) AllReadyH.nil
  go_simp
  refine (bpages_calls HG5.out).mono ?_
  rintro e w6 ⟨rfl, hb⟩
  have HG6 := Lib.hid (HG5.out.on hb)
  have HK6 := Lib.hid (HK5.out.on hb)
  have HSz6 := Lib.hid (Nat.le_trans (Nat.le_of_eq HSz5.out) hb.size)
  have n6 := cell_on n3 hb
  clear hb
  refine hK.out _ _ n6 (fun hS1 => ?_)
  try simp only [layR]
  refine takeV 6 (v := (.bool ((i : Int) + 1 == 8))) rfl (by kernel_rfl) (by kernel_rfl) (by kernel_rfl) (fun _ _ _ h => h) (by rfl) (fun W hSw => ?_) (by assumption) ?_
  ·skip
   go_simp
  try simp only [layR]
  refine wpAnyH_done (by kernel_rfl) ?_ _
  refine NoPanic.normal ?_
  clear hS0 hS1 n3 n6
  cases he : ((i : Int) + 1 == 8)
  ·have hne : ¬ (i + 1 = 8) := by rw [beq_eq_false_iff_ne] at he; omega
   have HNe := Lib.hid hne
   clear hne
   go_wp2_with fail
   refine bodyPost_ret (v := .tuple #[.int .i64 (k : Int), .int .i64 (i : Int), .int .i64 0]) (by simp [results, Tryz.results180, go_sem]) rfl ⟨rfl, ?_, HK6.out⟩
   have hp := HG6.out.re HH.out.base HH.out.ltM HH.out.ltL HK1.out.size HSz6.out
   unfold prG
   rw [if_neg HNe.out, if_neg HNe.out, HXe.out]
   exact hp
  ·have hne : i + 1 = 8 := by rw [beq_iff_eq] at he; omega
   have HNe := Lib.hid hne
   clear hne
   go_wp2_with fail
   refine (bClose_calls HG6.out hk (by rw [at_set _ _ (show k < g.l.length by omega)]; show 0 < x.live + 1; omega) HO.out).mono ?_
   rintro e w7 ⟨rfl, h7, hk7⟩
   have HG7 := Lib.hid h7
   have HK7 := Lib.hid (HK6.out.trans (hk7.mono (T' := Sm g S) fun q hq => by rcases hq with h | h; exact .inl h; exact .inr (.inl h)))
   have HSz7 := Lib.hid (Nat.le_trans HSz6.out hk7.size)
   clear h7 hk7
   go_wp2_with fail
   refine bodyPost_ret (v := .tuple #[.int .i64 (k : Int), .int .i64 (i : Int), .int .i64 0]) (by simp [results, Tryz.results180, go_sem]) rfl ⟨rfl, ?_, HK7.out⟩
   have hp := HG7.out.re HH.out.base HH.out.ltM HH.out.ltL HK1.out.size HSz7.out
   rw [at_set _ _ (show k < g.l.length by omega)] at hp
   simp only [List.set_set] at hp
   unfold prG
   rw [if_pos HNe.out, if_pos HNe.out, HXe.out]
   exact hp
end
end Go.Proofs.YtcppkaphlcflgaaGreat
namespace Go.Proofs.YtcppkaphlcflgaaGreat
open Go.RowKit

section
variable {NB B : Nat} {S : Nat → Prop} {w : World} {g : Mg}
def beG (g : Mg) (a : Nat) : Mg := { g with l := g.l.set a ⟨1, 0, (Gc.at_ g.l a).wear, 0⟩, opn := (a : Int) }
set_option maxRecDepth 100000 in
set_option maxHeartbeats 16000000 in
theorem bProgram_begin (h : MgM NB B S w g) {k : Nat} (hbs2 : Gc.best isFree Gc.worn g.l NB = some k) (ho : g.opn = -1) (hn : (g.bl k).nx = 0) (hb1 : (g.bl k).bad = false) (hb2 : (g.bl k).broken = false)
  (a : Option Addr) (c : Nat) (bs : List UInt8) (hbs : Own byteV 5 w 0 (.slice a 96 c) bs) (hap : ∀ q, Value.ownBlock (.slice a 96 c) = some q → ¬ Sm g S q) :
  Calls Tryz.prog 180 #[.pointer (some ⟨g.M, 0, none⟩), .slice a 96 c] w (Put NB B S (beG g k) w k 0 bs) := by
 have hk := (Gc.best_some hbs2).1
 have HR := Lib.hid (bready_calls h)
 have HG := Lib.hid (chGeo_calls h.hc)
 have HH := Lib.hid h
 have HX := Lib.hid hbs
 have HAp := Lib.hid hap
 have HN := Lib.hid hn
 have HB1 := Lib.hid hb1
 have HB2 := Lib.hid hb2
 have HBs := Lib.hid hbs2
 have HBg := Lib.hid (show beG g k = { g with l := g.l.set k ⟨1, 0, (Gc.at_ g.l k).wear, 0⟩, opn := (k : Int) } from rfl)
 have HO := Lib.hid ho
 have m0 := h.m0
 have g1 : (0 : Int) ≤ (k : Int) := by omega
 have g2 : (k : Int) < (NB : Int) := by omega
 clear h hbs hap hn hb1 hb2 hbs2 ho
 go_enter Tryz.func180, Tryz.ntmps180
 go_wp2
 go_step3
 go_wp2_with fail
 refine (HR.out).mono ?_
 rintro e w_ ⟨rfl, rfl⟩
 go_wp2_with fail
 refine HG.out.mono ?_
 rintro e w1 ⟨rfl, hb⟩
 have hf := geoF2 (.int .i64 (NB : Int)) (.int .i64 8) (.int .i64 64)
 have HH1 := Lib.hid (HH.out.on hb)
 have HK1 := Lib.hid hb
 have n2 := HH1.out.m2
 rw [HO.out] at n2
 have n0 := HH1.out.m0
 have n1 := HH1.out.m1
 clear hb m0
 unfold geoV
 go_wp2_with fail
 go_step3
 go_wp2_with fail
 go_loopw [8, 9, 10, 11] (fun v8 v9 v10 _ wr => v8 = .int .i64 0 ∧ v9 = .int .i64 0 ∧ v10 = .int .i64 40 ∧ wr = w1) (fun _ _ _ _ _ => 0)
 case atStart => exact ⟨rfl, rfl, rfl, rfl⟩
 case round =>
  obtain ⟨rfl, rfl, rfl, hw⟩ := hrel
  subst hw
  have HX1 := Lib.hid (HX.out.on HK1.out)
  go_wp2_with fail
  refine (bBegin_calls HH1.out).mono ?_
  unfold Began
  rw [HBs.out]
  rintro e w1 ⟨rfl, h1, hk1⟩
  have HGb := Lib.hid (show MgM NB B S w1 (beG g k) from h1)
  have HKb := Lib.hid ((Kq.of HK1.out).trans (hk1.mono (T' := Sm g S) fun q hq => by rcases hq with h | h; exact .inl h; exact .inr (.inl h)))
  have HX2 := Lib.hid (HX1.out.kq hk1 fun q hq hm => HAp.out q hq (by rcases hm with h | h; exact .inl h; exact .inr (.inl h)))
  clear h1 hk1 n2 n0 n1
  have n0 := HGb.out.m0
  have n1 := HGb.out.m1
  have n2 := HGb.out.m2
  have r3 := (HGb.out.r3 hk).1
  unfold beG at n0 n1 n2 r3
  simp only at n0 n1 n2 r3
  rw [at_set _ _ (by rw [HH.out.len]; exact hk)] at r3
  have r3 : w1.cell? ⟨g.ML, k * 4 + 3, none⟩ = some (.int .i64 0) := r3
  go_wp2_with fail
  refine (chProgram_calls HGb.out.hc hk (i := 0) (by omega) HN.out HB1.out HB2.out a c bs HX2.out (fun q hq hs => HAp.out q hq (.inr (.inr hs)))).mono ?_
  rintro e w2 ⟨rfl, h2, hk2⟩
  have HG2 := Lib.hid (HGb.out.chip (ps' := g.ps) h2 hk2 (fun q hq => hq))
  have HK2 := Lib.hid (HKb.out.trans (hk2.mono (T' := Sm g S) fun q hq => .inr (.inr hq)))
  have hl2 := HH.out.len
  have hat : Gc.at_ (g.l.set k ⟨1, 0, (Gc.at_ g.l k).wear, 0⟩) k = ⟨1, 0, (Gc.at_ g.l k).wear, 0⟩ := at_set _ _ (by omega)
  have HAt := Lib.hid hat
  have r3 := HG2.out.r3 hk
  have r1 := HG2.out.r1 hk
  unfold beG at r1 r3
  simp only at r1 r3
  rw [hat] at r1 r3
  obtain ⟨r1, f1⟩ := r1
  obtain ⟨r3, f3⟩ := r3
  have r1 : w2.cell? ⟨g.ML, k * 4 + 1, none⟩ = some (.int .i64 0) := r1
  have r3 : w2.cell? ⟨g.ML, k * 4 + 3, none⟩ = some (.int .i64 0) := r3
  generalize hwr : (Gc.at_ g.l k).wear = wv at *
  have HWv := Lib.hid hwr
  have q3 := HG2.out.setL hk (j := 3) (by omega) (.int .i64 1) ⟨1, 0, wv, 1⟩ (by unfold beG; simp only [hwr]; rw [hat]; rfl)
  have q4 := q3.setL hk (j := 1) (by omega) (.int .i64 1) ⟨1, 1, wv, 1⟩ (by rw [at_set _ _ (by unfold beG; simp only [List.length_set]; omega)]; rfl)
  have HSz := Lib.hid (show w2.heap.size = ((w2.setCell ⟨g.ML, k * 4 + 3, none⟩ (.int .i64 1)).setCell ⟨g.ML, k * 4 + 1, none⟩ (.int .i64 1)).heap.size by simp only [World.size_setCell])
  have HK4 := Lib.hid ((HK2.out.setCell (p := ⟨g.ML, k * 4 + 3, none⟩) (.inl (.inr (.inl rfl))) (.int .i64 1)).setCell (p := ⟨g.ML, k * 4 + 1, none⟩) (.inl (.inr (.inl rfl))) (.int .i64 1))
  have HG4 := Lib.hid (show MgM NB B (Up S w1 w2) ((w2.setCell ⟨g.ML, k * 4 + 3, none⟩ (.int .i64 1)).setCell ⟨g.ML, k * 4 + 1, none⟩ (.int .i64 1)) { g with bl := upd g.bl k (pbNext (g.bl k) 0 bs), l := g.l.set k ⟨1, 1, wv, 1⟩, opn := (k : Int) } by unfold beG at q4; simp only [List.set_set] at q4; exact q4)
  clear q3 q4 h2 hk2 hat hwr n0 n1 n2
  go_upto_region 19 with fail
  clear r1 f1 r3 f3
  generalize ((w2.setCell ⟨g.ML, k * 4 + 3, none⟩ (.int .i64 1)).setCell ⟨g.ML, k * 4 + 1, none⟩ (.int .i64 1)) = w4 at *
  have HG5 := Lib.hid (HG4.out.on (below_drew w4))
  have HK5 := Lib.hid (HK4.out.on (below_drew w4))
  have n3 := (HG5.out.r3 hk).1
  rw [at_set _ _ (show k < g.l.length by omega)] at n3
  have n3 : w4.drew.cell? ⟨g.ML, k * 4 + 3, none⟩ = some (.int .i64 1) := n3
  refine wp_region_noPanic ?_
  refine wp_region_held_drew (S := (fun W' => W'.cell? ⟨g.ML, k * 4 + 3, none⟩ = some (.int .i64 1))) (by kernel_rfl) n3 (fun hS0 => ?_)
  have HSz5 := Lib.hid (show w2.heap.size = w4.drew.heap.size from HSz.out)
  generalize w4.drew = w5 at *
  refine takeV 0 (v := (.pointer (some ⟨g.ML, k * 4, none⟩))) rfl (by kernel_rfl) (by kernel_rfl) (by kernel_rfl) (fun _ _ _ h => h) (by rfl) (fun _ _ => rfl) (by assumption) ?_
  try simp only [layR]
  refine takeV 1 (v := (.pointer (some ⟨g.ML, k * 4, none⟩))) rfl (by kernel_rfl) (by kernel_rfl) (by kernel_rfl) (fun _ _ _ h => h) (by rfl) (fun W hSw => ?_) (by assumption) ?_
  ·skip
   go_simp
  try simp only [layR]
  refine takeV 2 (v := (.pointer (some ⟨g.ML, k * 4 + 3, none⟩))) rfl (by kernel_rfl) (by kernel_rfl) (by kernel_rfl) (fun _ _ _ h => h) (by rfl) (fun W hSw => ?_) (by assumption) ?_
  ·skip
   go_simp
  try simp only [layR]
  refine takeV 3 (v := (.int .i64 1)) rfl (by kernel_rfl) (by kernel_rfl) (by kernel_rfl) (fun _ _ _ h => h) (by rfl) (fun W hSw => ?_) (by assumption) ?_
  ·skip
   go_simp
  try simp only [layR]
  refine takeV 4 (v := (.pointer (some ⟨g.M, 0, none⟩))) rfl (by kernel_rfl) (by kernel_rfl) (by kernel_rfl) (fun _ _ _ h => h) (by rfl) (fun _ _ => rfl) (by assumption) ?_
  try simp only [layR]
  refine wpAnyH_ready (rs := [5]) (by kernel_rfl) (by simp) ?_
  refine AllReadyH.cons rfl (fun K' hK => ?_) AllReadyH.nil
  go_simp
  refine (bpages_calls HG5.out).mono ?_
  rintro e w6 ⟨rfl, hb⟩
  have HG6 := Lib.hid (HG5.out.on hb)
  have HK6 := Lib.hid (HK5.out.on hb)
  have HSz6 := Lib.hid (Nat.le_trans (Nat.le_of_eq HSz5.out) hb.size)
  have n6 := cell_on n3 hb
  clear hb
  refine hK.out _ _ n6 (fun hS1 => ?_)
  try simp only [layR]
  refine takeV 6 (v := (.bool false)) rfl (by kernel_rfl) (by kernel_rfl) (by kernel_rfl) (fun _ _ _ h => h) (by rfl) (fun W hSw => ?_) (by assumption) ?_
  ·skip
   go_simp
  try simp only [layR]
  refine wpAnyH_done (by kernel_rfl) ?_ _
  refine NoPanic.normal ?_
  clear hS0 hS1 n3 n6
  go_wp2_with fail
  refine bodyPost_ret (v := .tuple #[.int .i64 (k : Int), .int .i64 0, .int .i64 0]) (by simp [results, Tryz.results180, go_sem]) rfl ⟨rfl, ?_, HK6.out⟩
  have hs1 := HKb.out.size
  have hp := HG6.out.re HH.out.base HH.out.ltM HH.out.ltL hs1 HSz6.out
  unfold prG beG
  simp only [HWv.out, HAt.out, List.set_set]
  exact hp
end
end Go.Proofs.YtcppkaphlcflgaaGreat
