import Derived.Test.YtcppkaphlcflgaaGreatGcAct
namespace Go.Proofs.YtcppkaphlcflgaaGreat
open Lib (hid)
set_option maxRecDepth 100000
set_option maxHeartbeats 16000000
open Go.RowKit

section
variable {NB B : Nat} {S : Nat → Prop} {w : World} {g : Mg}
def rowSt (w : World) (ML k : Nat) (y : Bk) : World := (((w.setCell ⟨ML, k * 4, none⟩ (.int .i64 (y.st : Int))).setCell ⟨ML, k * 4 + 1, none⟩ (.int .i64 (y.live : Int))).setCell ⟨ML, k * 4 + 2, none⟩ (.int .i64 (y.wear : Int))).setCell ⟨ML, k * 4 + 3, none⟩ (.int .i64 (y.nx : Int))
theorem MgM.setRow (h : MgM NB B S w g) {k : Nat} (hk : k < NB) (y : Bk) : MgM NB B S (rowSt w g.ML k y) { g with l := g.l.set k y } := by
 have hl := h.len
 have h0 := h.setL hk (j := 0) (by omega) (.int .i64 (y.st : Int)) { Gc.at_ g.l k with st := y.st } rfl
 have h1 := h0.setL hk (j := 1) (by omega) (.int .i64 (y.live : Int)) { Gc.at_ g.l k with st := y.st, live := y.live } (by rw [at_set _ _ (by omega)]; rfl)
 simp only [List.set_set] at h1
 have h2 := h1.setL hk (j := 2) (by omega) (.int .i64 (y.wear : Int)) { y with nx := (Gc.at_ g.l k).nx } (by rw [at_set _ _ (by omega)]; rfl)
 simp only [List.set_set] at h2
 have h3 := h2.setL hk (j := 3) (by omega) (.int .i64 (y.nx : Int)) y (by rw [at_set _ _ (by omega)]; rfl)
 simp only [List.set_set] at h3
 exact h3
theorem kq_row {T : Nat → Prop} {a b : World} (h : Kq T a b) {ML k : Nat} (hT : T ML) (y : Bk) : Kq T a (rowSt b ML k y) :=
 (((h.setCell (p := ⟨ML, k * 4, none⟩) (.inl hT) _).setCell (p := ⟨ML, k * 4 + 1, none⟩) (.inl hT) _).setCell (p := ⟨ML, k * 4 + 2, none⟩) (.inl hT) _).setCell (p := ⟨ML, k * 4 + 3, none⟩) (.inl hT) _
theorem bClose_calls (h : MgM NB B S w g) {k : Nat} (hk : k < NB) (hv : 0 < (Gc.at_ g.l k).live) (ho : g.opn = (k : Int)) :
  Calls Tryz.prog 197 #[.pointer (some ⟨g.M, 0, none⟩), .int .i64 (k : Int)] w fun e w' => e = .returned (.tuple #[]) ∧ MgM NB B S w' { g with l := g.l.set k { Gc.at_ g.l k with st := 2 }, opn := -1 } ∧ Kq (fun q => q = g.M ∨ q = g.ML) w w' := by
 have hlen := h.len
 have m1 := h.m1
 have r0 := (h.r0 hk).1
 have f0 := (h.r0 hk).2
 have h1 := h.setL hk (j := 0) (by omega) (.int .i64 2) { Gc.at_ g.l k with st := 2 } rfl
 have k1 : Kq (fun q => q = g.M ∨ q = g.ML) w (w.setCell ⟨g.ML, k * 4 + 0, none⟩ (.int .i64 2)) := (Kq.refl _ w).setCell (p := ⟨g.ML, k * 4 + 0, none⟩) (.inl (.inr rfl)) _
 have n1 := h1.m1
 have n2 := h1.m2
 have f2 := h1.frzM 2
 have s1 := (h1.r1 hk).1
 rw [at_set _ _ (by omega)] at s1
 have h2 := h1.setO (-1)
 have k2 := k1.setCell (p := ⟨g.M, 2, none⟩) (.inl (.inl rfl)) (.int .i64 (-1))
 simp only [Nat.add_zero] at h1 h2 k2 n1 n2 f2 s1
 rw [ho] at n2
 have hz : (((Gc.at_ g.l k).live : Int) == 0) = false := by rw [beq_eq_false_iff_ne]; omega
 generalize hx : Gc.at_ g.l k = x at *
 have g1 : (0 : Int) ≤ (k : Int) := by omega
 have g2 : (k : Int) < (NB : Int) := by omega
 have H2 := hid h2
 have HK2 := hid k2
 clear h h1 h2 k1 k2 hx ho
 go_enter Tryz.func197, Tryz.ntmps197
 go_upto_region 1 with fail
 generalize w.setCell ⟨g.ML, k * 4, none⟩ (.int .i64 2) = w1 at *
 clear m1 r0 f0
 go_wp2
 go_end0
 exact ⟨rfl, H2.out, HK2.out⟩
def isFree (x : Bk) : Bool := (x.st : Int) == 0
def Began (NB B : Nat) (S : Nat → Prop) (g : Mg) (w : World) (o : Option Nat) (e : Ending) (w' : World) : Prop := match o with
 | none => e = .returned (.bool false) ∧ Below w.heap.size w w'
 | some a => e = .returned (.bool true) ∧ MgM NB B S w' { g with l := g.l.set a ⟨1, 0, (Gc.at_ g.l a).wear, 0⟩, opn := (a : Int) } ∧ Kq (fun q => q = g.M ∨ q = g.ML) w w'
theorem bBegin_calls (h : MgM NB B S w g) :
  Calls Tryz.prog 196 #[.pointer (some ⟨g.M, 0, none⟩)] w (Began NB B S g w (Gc.best isFree Gc.worn g.l NB)) := by
 have HH := hid h
 have hlen := h.len
 have hnb := h.nb
 have hcs := bkCells
 have m1 := h.m1
 clear h
 go_enter Tryz.func196, Tryz.ntmps196
 go_wp2
 go_loopw [3, 4, 5, 11] (fun v _ _ i wr => ∃ k : Nat, k ≤ NB ∧ i = .int .i64 (k : Int) ∧ v = .int .i64 (Gc.oI (Gc.best isFree Gc.worn g.l k)) ∧ Below w.heap.size w wr) (fun _ _ _ i _ => NB - (intOf i).toNat)
 case atStart => exact ⟨0, by omega, rfl, rfl, Below.refl _ _⟩
 case round =>
  obtain ⟨k, hk, rfl, rfl, hb⟩ := hrel
  have HBr := hid hb
  clear hb m1
  by_cases hlt : k < NB
  ·have hr := HH.out.on HBr.out
   have c0 := (hr.r0 hlt).1
   have c1 := (hr.r1 hlt).1
   have c2 := (hr.r2 hlt).1
   have c3 := (hr.r3 hlt).1
   have hk0 : (0 : Int) ≤ (k : Int) := by omega
   have hk1 : (k : Int) < (NB : Int) := by omega
   clear hr
   have hE : Gc.best isFree Gc.worn g.l (k + 1) = match Gc.best isFree Gc.worn g.l k with
    | none => if isFree (Gc.at_ g.l k) then some k else none
    | some a => if isFree (Gc.at_ g.l k) && Gc.worn (Gc.at_ g.l k) (Gc.at_ g.l a) then some k else some a := rfl
   generalize Gc.at_ g.l k = x at *
   go_upto_region 5 with fail
   have HBx := hid (Blk.new wr 180 #[.int .i64 (x.st : Int), .int .i64 (x.live : Int), .int .i64 (x.wear : Int), .int .i64 (x.nx : Int)])
   have HB1 := hid (HBr.out.alloc HBr.out.size (.cells #[.int .i64 (x.st : Int), .int .i64 (x.live : Int), .int .i64 (x.wear : Int), .int .i64 (x.nx : Int)] 180))
   generalize wr.heap.size = gx at *
   generalize wr.alloc _ = w1 at *
   have HS0 := hid (show Below w.heap.size w w1.drew ∧ Blk w1.drew gx 180 #[.int .i64 (x.st : Int), .int .i64 (x.live : Int), .int .i64 (x.wear : Int), .int .i64 (x.nx : Int)] from ⟨HB1.out.drew, HBx.out⟩)
   clear c0 c1 c2 c3
   cases hp : isFree x
   ·have HE := hid (show Gc.best isFree Gc.worn g.l (k + 1) = Gc.best isFree Gc.worn g.l k by rw [hE, hp]; cases Gc.best isFree Gc.worn g.l k <;> rfl)
    have hpe : ((x.st : Int) == 0) = false := hp
    clear hE hp
    refine wp_region_noPanic ?_
    refine wp_region_held_drew (S := (fun W' => Below w.heap.size w W' ∧ Blk W' gx 180 #[.int .i64 (x.st : Int), .int .i64 (x.live : Int), .int .i64 (x.wear : Int), .int .i64 (x.nx : Int)])) (by kernel_rfl) HS0.out (fun hS0 => ?_)
    refine tk 0 ((.pointer (some ⟨gx, 0, none⟩))) rfl (fun W hSw => ?_) ?_
    ·skip
     go_simp
    try simp only [layR]
    refine tk 1 ((.int .i64 (x.st : Int))) rfl (fun W hSw => ?_) ?_
    ·have y0 := hSw.2.cellv (i := 0) rfl
     go_simp
    try simp only [layR]
    refine tk 2 ((.bool false)) rfl (fun W hSw => ?_) ?_
    ·skip
     go_simp
    try simp only [layR]
    refine tk 3 ((.bool false)) rfl (fun W hSw => ?_) ?_
    ·skip
     go_simp
    try simp only [layR]
    refine tn 4 rfl ?_
    try simp only [layR]
    refine tn 5 rfl ?_
    try simp only [layR]
    refine tn 6 rfl ?_
    try simp only [layR]
    refine tn 7 rfl ?_
    try simp only [layR]
    refine tn 8 rfl ?_
    try simp only [layR]
    refine tn 9 rfl ?_
    try simp only [layR]
    refine tn 10 rfl ?_
    try simp only [layR]
    refine tn 11 rfl ?_
    try simp only [layR]
    refine tn 12 rfl ?_
    try simp only [layR]
    refine tn 13 rfl ?_
    try simp only [layR]
    refine tn 14 rfl ?_
    try simp only [layR]
    refine tn 15 rfl ?_
    try simp only [layR]
    refine tn 16 rfl ?_
    try simp only [layR]
    refine tn 17 rfl ?_
    try simp only [layR]
    refine tn 18 rfl ?_
    try simp only [layR]
    refine tk 19 ((.bool false)) rfl (fun W hSw => ?_) ?_
    ·skip
     go_simp
    try simp only [layR]
    refine wpAnyH_done (by kernel_rfl) ?_ _
    refine NoPanic.normal ?_
    have HBf := hid hS0.1
    clear hS0
    go_wp2_with fail
    go_roundw
    case rel => exact ⟨k + 1, by omega, by go_num, (congrArg (fun o => Value.int .i64 (Gc.oI o)) HE.out).symm, HBf.out⟩
    case measure => simp [intOf]; omega
   ·have hpe : ((x.st : Int) == 0) = true := hp
    cases ho : Gc.best isFree Gc.worn g.l k with
    | none =>
     have HE := hid (show Gc.best isFree Gc.worn g.l (k + 1) = some k by rw [hE, hp, ho]; rfl)
     clear hE
     have hneg : Gc.oI none = -1 := rfl
     rw [hneg]
     refine wp_region_noPanic ?_
     refine wp_region_held_drew (S := (fun W' => Below w.heap.size w W' ∧ Blk W' gx 180 #[.int .i64 (x.st : Int), .int .i64 (x.live : Int), .int .i64 (x.wear : Int), .int .i64 (x.nx : Int)])) (by kernel_rfl) HS0.out (fun hS0 => ?_)
     refine tk 0 ((.pointer (some ⟨gx, 0, none⟩))) rfl (fun W hSw => ?_) ?_
     ·skip
      go_simp
     try simp only [layR]
     refine tk 1 ((.int .i64 (x.st : Int))) rfl (fun W hSw => ?_) ?_
     ·have y0 := hSw.2.cellv (i := 0) rfl
      go_simp
     try simp only [layR]
     refine tk 2 ((.bool true)) rfl (fun W hSw => ?_) ?_
     ·skip
      go_simp
     try simp only [layR]
     refine tk 3 ((.bool true)) rfl (fun W hSw => ?_) ?_
     ·skip
      go_simp
     try simp only [layR]
     refine tk 4 ((.int .i64 (-1))) rfl (fun W hSw => ?_) ?_
     ·skip
      go_simp
     try simp only [layR]
     refine tk 5 ((.bool true)) rfl (fun W hSw => ?_) ?_
     ·skip
      go_simp
     try simp only [layR]
     refine tk 6 ((.bool true)) rfl (fun W hSw => ?_) ?_
     ·skip
      go_simp
     try simp only [layR]
     refine tn 7 rfl ?_
     try simp only [layR]
     refine tn 8 rfl ?_
     try simp only [layR]
     refine tn 9 rfl ?_
     try simp only [layR]
     refine tn 10 rfl ?_
     try simp only [layR]
     refine tn 11 rfl ?_
     try simp only [layR]
     refine tn 12 rfl ?_
     try simp only [layR]
     refine tn 13 rfl ?_
     try simp only [layR]
     refine tn 14 rfl ?_
     try simp only [layR]
     refine tn 15 rfl ?_
     try simp only [layR]
     refine tn 16 rfl ?_
     try simp only [layR]
     refine tn 17 rfl ?_
     try simp only [layR]
     refine tk 18 ((.bool true)) rfl (fun W hSw => ?_) ?_
     ·skip
      go_simp
     try simp only [layR]
     refine tk 19 ((.bool true)) rfl (fun W hSw => ?_) ?_
     ·skip
      go_simp
     try simp only [layR]
     refine wpAnyH_done (by kernel_rfl) ?_ _
     refine NoPanic.normal ?_
     have HBf := hid hS0.1
     clear hS0
     go_wp2_with fail
     go_roundw
     case rel => exact ⟨k + 1, by omega, by go_num, (congrArg (fun o => Value.int .i64 (Gc.oI o)) HE.out).symm, HBf.out⟩
     case measure => simp [intOf]; omega
    | some q =>
     have hq : q < k := (Gc.best_some ho).1
     have hpos : Gc.oI (some q) = (q : Int) := rfl
     have hnn : ((q : Int) == -1) = false := by rw [beq_eq_false_iff_ne]; omega
     have hq0 : (0 : Int) ≤ (q : Int) := by omega
     have hq1 : (q : Int) < (NB : Int) := by omega
     have HY := hid (fun (W' : World) (hW : Below w.heap.size w W') => ((HH.out.on hW).r2 (k := q) (by omega)).1)
     rw [hpos]
     have hE2 : Gc.best isFree Gc.worn g.l (k + 1) = if Gc.worn x (Gc.at_ g.l q) then some k else some q := by rw [hE, hp, ho]; show (if (true && Gc.worn x (Gc.at_ g.l q)) = true then some k else some q) = _; rw [Bool.true_and]
     generalize Gc.at_ g.l q = y at *
     have HE := hid hE2
     clear hE hE2
     refine wp_region_noPanic ?_
     refine wp_region_held_drew (S := (fun W' => Below w.heap.size w W' ∧ Blk W' gx 180 #[.int .i64 (x.st : Int), .int .i64 (x.live : Int), .int .i64 (x.wear : Int), .int .i64 (x.nx : Int)])) (by kernel_rfl) HS0.out (fun hS0 => ?_)
     refine tk 0 ((.pointer (some ⟨gx, 0, none⟩))) rfl (fun W hSw => ?_) ?_
     ·skip
      go_simp
     try simp only [layR]
     refine tk 1 ((.int .i64 (x.st : Int))) rfl (fun W hSw => ?_) ?_
     ·have y0 := hSw.2.cellv (i := 0) rfl
      go_simp
     try simp only [layR]
     refine tk 2 ((.bool true)) rfl (fun W hSw => ?_) ?_
     ·skip
      go_simp
     try simp only [layR]
     refine tk 3 ((.bool true)) rfl (fun W hSw => ?_) ?_
     ·skip
      go_simp
     try simp only [layR]
     refine tk 4 ((.int .i64 (q : Int))) rfl (fun W hSw => ?_) ?_
     ·skip
      go_simp
     try simp only [layR]
     refine tk 5 ((.bool false)) rfl (fun W hSw => ?_) ?_
     ·skip
      go_simp
     try simp only [layR]
     refine tk 6 ((.bool false)) rfl (fun W hSw => ?_) ?_
     ·skip
      go_simp
     try simp only [layR]
     refine tk 7 ((.pointer (some ⟨gx, 2, none⟩))) rfl (fun W hSw => ?_) ?_
     ·skip
      go_simp
     try simp only [layR]
     refine tk 8 ((.int .i64 (x.wear : Int))) rfl (fun W hSw => ?_) ?_
     ·have y0 := hSw.2.cellv (i := 2) rfl
      go_simp
     try simp only [layR]
     refine tk 9 ((.pointer (some ⟨g.M, 0, none⟩))) rfl (fun _ _ => rfl) ?_
     try simp only [layR]
     refine tk 10 ((.pointer (some ⟨g.M, 0, none⟩))) rfl (fun W hSw => ?_) ?_
     ·skip
      go_simp
     try simp only [layR]
     refine tk 11 ((.pointer (some ⟨g.M, 1, none⟩))) rfl (fun W hSw => ?_) ?_
     ·skip
      go_simp
     try simp only [layR]
     refine tk 12 ((.slice (some ⟨g.ML, 0, none⟩) NB g.cap)) rfl (fun W hSw => ?_) ?_
     ·have y0 := (HH.out.on hSw.1).m1
      go_simp
     try simp only [layR]
     refine tk 13 ((.int .i64 (q : Int))) rfl (fun _ _ => rfl) ?_
     try simp only [layR]
     refine tk 14 ((.pointer (some ⟨g.ML, q * 4, none⟩))) rfl (fun W hSw => ?_) ?_
     ·skip
      go_simp
     try simp only [layR]
     refine tk 15 ((.pointer (some ⟨g.ML, q * 4 + 2, none⟩))) rfl (fun W hSw => ?_) ?_
     ·skip
      go_simp
     try simp only [layR]
     refine tk 16 ((.int .i64 (y.wear : Int))) rfl (fun W hSw => ?_) ?_
     ·have y0 := HY.out _ hSw.1
      go_simp
     try simp only [layR]
     refine tk 17 ((.bool (decide (x.wear < y.wear)))) rfl (fun W hSw => ?_) ?_
     ·skip
      go_simp
     try simp only [layR]
     refine tk 18 ((.bool (decide (x.wear < y.wear)))) rfl (fun W hSw => ?_) ?_
     ·skip
      go_simp
     try simp only [layR]
     refine tk 19 ((.bool (decide (x.wear < y.wear)))) rfl (fun W hSw => ?_) ?_
     ·skip
      go_simp
     try simp only [layR]
     refine wpAnyH_done (by kernel_rfl) ?_ _
     refine NoPanic.normal ?_
     have HBf := hid hS0.1
     clear hS0
     have HW := hid (show Gc.worn x y = decide (x.wear < y.wear) from rfl)
     cases hl : decide (x.wear < y.wear)
     ·rw [HW.out, hl, if_neg (by simp)] at HE
      clear HW
      go_wp2_with fail
      go_roundw
      case rel => exact ⟨k + 1, by omega, by go_num, (congrArg (fun o => Value.int .i64 (Gc.oI o)) HE.out).symm, HBf.out⟩
      case measure => simp [intOf]; omega
     ·rw [HW.out, hl, if_pos rfl] at HE
      clear HW
      go_wp2_with fail
      go_roundw
      case rel => exact ⟨k + 1, by omega, by go_num, (congrArg (fun o => Value.int .i64 (Gc.oI o)) HE.out).symm, HBf.out⟩
      case measure => simp [intOf]; omega
  ·obtain rfl : k = NB := by omega
   have hr := HH.out.on HBr.out
   have HR := hid hr
   clear hr
   cases ho : Gc.best isFree Gc.worn g.l k with
   | none =>
    have hneg : Gc.oI none = -1 := rfl
    rw [hneg]
    have HO := hid ho
    clear ho
    go_wp2_with fail
    go_ret
    unfold Began
    rw [HO.out]
    exact ⟨rfl, HBr.out⟩
   | some a =>
    have hq : a < k := (Gc.best_some ho).1
    have hpos : Gc.oI (some a) = (a : Int) := rfl
    have hnn : ((a : Int) == -1) = false := by rw [beq_eq_false_iff_ne]; omega
    have hq0 : (0 : Int) ≤ (a : Int) := by omega
    have hq1 : (a : Int) < (k : Int) := by omega
    rw [hpos]
    have HO := hid ho
    clear ho
    go_upto_region 10 with fail
    have hd := HR.out.on (below_drew wr)
    have m1 := hd.m1
    have r2 := (hd.r2 hq).1
    have hx : ∃ x, x = Gc.at_ g.l a := ⟨_, rfl⟩
    obtain ⟨x, hx⟩ := hx
    rw [← hx] at r2
    have HX := hid hx
    have HD := hid hd
    have HK0 := hid (((Kq.of HBr.out).mono (T := fun q => q = g.M ∨ q = g.ML) (T' := fun q => q = g.M ∨ q = g.ML) fun _ h => h).on (below_drew wr))
    clear hd hx
    refine wp_region_noPanic ?_
    refine wp_region_held_drew (S := (fun W' => W'.cell? ⟨g.M, 1, none⟩ = some (.slice (some ⟨g.ML, 0, none⟩) k g.cap) ∧ W'.cell? ⟨g.ML, a * 4 + 2, none⟩ = some (.int .i64 (x.wear : Int)))) (by kernel_rfl) ⟨m1, r2⟩ (fun hS0 => ?_)
    generalize wr.drew = w2 at *
    have HS := hid (show MgM k B S ((((w2.setCell ⟨g.ML, a * 4, none⟩ (.int .i64 1)).setCell ⟨g.ML, a * 4 + 1, none⟩ (.int .i64 0)).setCell ⟨g.ML, a * 4 + 2, none⟩ (.int .i64 (x.wear : Int))).setCell ⟨g.ML, a * 4 + 3, none⟩ (.int .i64 0)) { g with l := g.l.set a ⟨1, 0, x.wear, 0⟩ } from HD.out.setRow hq ⟨1, 0, x.wear, 0⟩)
    have HK := hid (show Kq (fun q => q = g.M ∨ q = g.ML) w ((((w2.setCell ⟨g.ML, a * 4, none⟩ (.int .i64 1)).setCell ⟨g.ML, a * 4 + 1, none⟩ (.int .i64 0)).setCell ⟨g.ML, a * 4 + 2, none⟩ (.int .i64 (x.wear : Int))).setCell ⟨g.ML, a * 4 + 3, none⟩ (.int .i64 0)) from kq_row HK0.out (.inr rfl) ⟨1, 0, x.wear, 0⟩)
    have n1 := HS.out.m1
    have n2 := (HS.out.r2 hq).1
    rw [at_set _ _ (by omega)] at n2
    have n3 := HS.out.m2
    have n4 := HS.out.frzM 2
    obtain ⟨x0, y0⟩ := HD.out.r0 hq
    obtain ⟨x1, y1⟩ := HD.out.r1 hq
    obtain ⟨x2, y2⟩ := HD.out.r2 hq
    obtain ⟨x3, y3⟩ := HD.out.r3 hq
    rw [← HX.out] at x0 x1 x2 x3
    refine tk 0 ((.pointer (some ⟨g.M, 0, none⟩))) rfl (fun _ _ => rfl) ?_
    try simp only [layR]
    refine tk 1 ((.pointer (some ⟨g.M, 0, none⟩))) rfl (fun W hSw => ?_) ?_
    ·skip
     go_simp
    try simp only [layR]
    refine tk 2 ((.pointer (some ⟨g.M, 1, none⟩))) rfl (fun W hSw => ?_) ?_
    ·skip
     go_simp
    try simp only [layR]
    refine tk 3 ((.slice (some ⟨g.ML, 0, none⟩) k g.cap)) rfl (fun W hSw => ?_) ?_
    ·have y9 := hSw.1
     go_simp
    try simp only [layR]
    refine tk 4 ((.int .i64 (a : Int))) rfl (fun _ _ => rfl) ?_
    try simp only [layR]
    refine tk 5 ((.pointer (some ⟨g.M, 0, none⟩))) rfl (fun _ _ => rfl) ?_
    try simp only [layR]
    refine tk 6 ((.pointer (some ⟨g.M, 0, none⟩))) rfl (fun W hSw => ?_) ?_
    ·skip
     go_simp
    try simp only [layR]
    refine tk 7 ((.pointer (some ⟨g.M, 1, none⟩))) rfl (fun W hSw => ?_) ?_
    ·skip
     go_simp
    try simp only [layR]
    refine tk 8 ((.slice (some ⟨g.ML, 0, none⟩) k g.cap)) rfl (fun W hSw => ?_) ?_
    ·have y9 := hSw.1
     go_simp
    try simp only [layR]
    refine tk 9 ((.int .i64 (a : Int))) rfl (fun _ _ => rfl) ?_
    try simp only [layR]
    refine tk 10 ((.pointer (some ⟨g.ML, a * 4, none⟩))) rfl (fun W hSw => ?_) ?_
    ·skip
     go_simp
    try simp only [layR]
    refine tk 11 ((.pointer (some ⟨g.ML, a * 4 + 2, none⟩))) rfl (fun W hSw => ?_) ?_
    ·skip
     go_simp
    try simp only [layR]
    refine tk 12 ((.int .i64 (x.wear : Int))) rfl (fun W hSw => ?_) ?_
    ·have y9 := hSw.2
     go_simp
    try simp only [layR]
    refine tk 13 ((.agg #[.int .i64 1, .int .i64 0, .int .i64 (x.wear : Int), .int .i64 0])) rfl (fun W hSw => ?_) ?_
    ·skip
     go_simp
    try simp only [layR]
    refine tk 14 ((.pointer (some ⟨g.ML, a * 4, none⟩))) rfl (fun W hSw => ?_) ?_
    ·skip
     go_simp
    try simp only [layR]
    refine rd 15 rfl (fun K' hK => ?_)
    go_simp
    refine hK.out _ _ ⟨n1, n2⟩ (fun hS1 => ?_)
    try simp only [layR]
    refine wpAnyH_done (by kernel_rfl) ?_ _
    refine NoPanic.normal ?_
    clear hS0 hS1 m1 r2 x0 x1 x2 x3 y0 y1 y2 y3 n1 n2
    generalize (((w2.setCell ⟨g.ML, a * 4, none⟩ (.int .i64 1)).setCell ⟨g.ML, a * 4 + 1, none⟩ (.int .i64 0)).setCell ⟨g.ML, a * 4 + 2, none⟩ (.int .i64 (x.wear : Int))).setCell ⟨g.ML, a * 4 + 3, none⟩ (.int .i64 0) = w3 at *
    have HS2 := hid (HS.out.setO (a : Int))
    have HK2 := hid (HK.out.setCell (p := ⟨g.M, 2, none⟩) (.inl (.inl rfl)) (.int .i64 (a : Int)))
    go_wp2
    go_ret
    unfold Began
    rw [HO.out]
    have hs := HS2.out
    rw [HX.out] at hs
    exact ⟨rfl, hs, HK2.out⟩
end
end Go.Proofs.YtcppkaphlcflgaaGreat
