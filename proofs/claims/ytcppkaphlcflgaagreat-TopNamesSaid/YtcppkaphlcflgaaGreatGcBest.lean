import Derived.Test.YtcppkaphlcflgaaGreatBlkSmall
import Derived.StillTailTactics
import Derived.Deep.DeepCutAuto
namespace Go.Proofs.YtcppkaphlcflgaaGreat
open Lib (hid)
set_option maxRecDepth 100000
set_option maxHeartbeats 16000000
open Go.RowKit

theorem best_calls (p : Bk → Bool) (lt : Bk → Bk → Bool) (F G : Value) (fm fb : Nat) (cm cb : Array Value) (hF : F = .func (.func fm) #[] cm) (hG : G = .func (.func fb) #[] cb) (a : Option Addr) (n c : Nat) (l : List Bk) (w : World) (hx : ArrM 4 bkL w w.heap.size a n l) (hn : n ≤ 1000)
  (i1 : ∀ args w, (callFunc fm args).run Tryz.prog w = .ok (.enter fm args) w) (i2 : ∀ args w, (callFunc fb args).run Tryz.prog w = .ok (.enter fb args) w)
  (hm : ∀ w' x, Below w.heap.size w w' → x ∈ l → Calls Tryz.prog fm (#[bkV x] ++ cm) w' fun e w'' => e = .returned (.bool (p x)) ∧ Below w'.heap.size w' w'')
  (hb : ∀ w' x y, Below w.heap.size w w' → x ∈ l → y ∈ l → Calls Tryz.prog fb (#[bkV x, bkV y] ++ cb) w' fun e w'' => e = .returned (.bool (lt x y)) ∧ Below w'.heap.size w' w'') :
  Calls Tryz.prog 149 #[.slice a n c, F, G] w fun e w' => e = .returned (.int .i64 (Gc.oI (Gc.best p lt l n))) ∧ Below w.heap.size w w' := by
 have HM := hid hm
 have HB := hid hb
 have HX := hid hx
 have hlen := hx.len
 subst hF hG
 clear hm hb hx
 have hcs := bkCells
 go_enter Tryz.func149, Tryz.ntmps149
 go_wp2
 go_loopw [7, 8, 9, 12] (fun v _ _ i wr => ∃ k : Nat, k ≤ n ∧ i = .int .i64 (k : Int) ∧ v = .int .i64 (Gc.oI (Gc.best p lt l k)) ∧ Below w.heap.size w wr) (fun _ _ _ i _ => n - (intOf i).toNat)
 case atStart => exact ⟨0, by omega, rfl, rfl, Below.refl _ _⟩
 case round =>
  obtain ⟨k, hk, rfl, rfl, hb⟩ := hrel
  have HBr := hid hb
  clear hb
  by_cases hlt : k < n
  ·obtain ⟨b, o, rfl, hbl, c0, c1, c2, c3⟩ := bk_at (HX.out.below HBr.out) (k := k) hlt
   have hk0 : (0 : Int) ≤ (k : Int) := by omega
   have hk1 : (k : Int) < (n : Int) := by omega
   have hmem := getD_mem (l := l) (k := k) (by omega)
   generalize hXe : Gc.at_ l k = x at *
   go_upto_region 5 with fail
   have HBx := hid (Blk.new wr 180 #[.int .i64 (x.st : Int), .int .i64 (x.live : Int), .int .i64 (x.wear : Int), .int .i64 (x.nx : Int)])
   have HB1 := hid (HBr.out.alloc HBr.out.size (.cells #[.int .i64 (x.st : Int), .int .i64 (x.live : Int), .int .i64 (x.wear : Int), .int .i64 (x.nx : Int)] 180))
   generalize wr.heap.size = g at *
   generalize wr.alloc _ = w1 at *
   have HS0 := hid (show Below w.heap.size w w1.drew ∧ Blk w1.drew g 180 #[.int .i64 (x.st : Int), .int .i64 (x.live : Int), .int .i64 (x.wear : Int), .int .i64 (x.nx : Int)] from ⟨HB1.out.drew, HBx.out⟩)
   clear c0 c1 c2 c3
   have hE : Gc.best p lt l (k + 1) = match Gc.best p lt l k with
    | none => if p x then some k else none
    | some a => if p x && lt x (Gc.at_ l a) then some k else some a := by subst hXe; rfl
   cases hp : p x
   ·have HE := hid (show Gc.best p lt l (k + 1) = Gc.best p lt l k by rw [hE, hp]; cases Gc.best p lt l k <;> rfl)
    clear hE
    refine wp_region_noPanic ?_
    refine wp_region_held_drew (S := (fun W' => Below w.heap.size w W' ∧ Blk W' g 180 #[.int .i64 (x.st : Int), .int .i64 (x.live : Int), .int .i64 (x.wear : Int), .int .i64 (x.nx : Int)])) (by kernel_rfl) HS0.out (fun hS0 => ?_)
    refine tk 0 ((.func (.func fm) #[] cm)) rfl (fun _ _ => rfl) ?_
    try simp only [layR]
    refine tk 1 ((bkV x)) rfl (fun W hSw => ?_) ?_
    ·have y0 := hSw.2.cellv (i := 0) rfl; have y1 := hSw.2.cellv (i := 1) rfl; have y2 := hSw.2.cellv (i := 2) rfl; have y3 := hSw.2.cellv (i := 3) rfl
     go_simp
    try simp only [layR]
    refine rd 2 rfl (fun K' hK => ?_)
    go_simp
    refine (HM.out w1.drew x HS0.out.1 hmem).mono ?_
    rintro e w2 ⟨rfl, hb2⟩
    rw [hp]
    have hS1 : Below w.heap.size w w2 ∧ Blk w2 g 180 #[.int .i64 (x.st : Int), .int .i64 (x.live : Int), .int .i64 (x.wear : Int), .int .i64 (x.nx : Int)] := ⟨HS0.out.1.then_ hb2, HS0.out.2.belowHere hb2⟩
    refine hK.out _ _ hS1 (fun hS2 => ?_)
    try simp only [layR]
    refine tk 3 ((.bool false)) rfl (fun W hSw => ?_) ?_
    ·skip
     go_simp
    try simp only [layR]
    refine tn 4 rfl ?_
    try simp only [layR]
    refine tn 5 rfl ?_
    try simp only [layR]
    refine tn 6 rfl ?_
    try simp only [layR]
    refine tn 7 rfl ?_
    try simp only [layR]
    refine tn 8 rfl ?_
    try simp only [layR]
    refine tn 9 rfl ?_
    try simp only [layR]
    refine tn 10 rfl ?_
    try simp only [layR]
    refine tn 11 rfl ?_
    try simp only [layR]
    refine tn 12 rfl ?_
    try simp only [layR]
    refine tn 13 rfl ?_
    try simp only [layR]
    refine tn 14 rfl ?_
    try simp only [layR]
    refine tk 15 ((.bool false)) rfl (fun W hSw => ?_) ?_
    ·skip
     go_simp
    try simp only [layR]
    refine wpAnyH_done (by kernel_rfl) ?_ _
    refine NoPanic.normal ?_
    have HBf := hid hS2.1
    clear hS0 hS1 hS2
    go_wp2_with fail
    go_roundw
    case rel => exact ⟨k + 1, by omega, by go_num, (congrArg (fun o => Value.int .i64 (Gc.oI o)) HE.out).symm, HBf.out⟩
    case measure => simp [intOf]; omega
   ·cases ho : Gc.best p lt l k with
    | none =>
     have HE := hid (show Gc.best p lt l (k + 1) = some k by rw [hE, hp, ho]; rfl)
     clear hE
     have hneg : Gc.oI none = -1 := rfl
     rw [hneg]
     refine wp_region_noPanic ?_
     refine wp_region_held_drew (S := (fun W' => Below w.heap.size w W' ∧ Blk W' g 180 #[.int .i64 (x.st : Int), .int .i64 (x.live : Int), .int .i64 (x.wear : Int), .int .i64 (x.nx : Int)])) (by kernel_rfl) HS0.out (fun hS0 => ?_)
     refine tk 0 ((.func (.func fm) #[] cm)) rfl (fun _ _ => rfl) ?_
     try simp only [layR]
     refine tk 1 ((bkV x)) rfl (fun W hSw => ?_) ?_
     ·have y0 := hSw.2.cellv (i := 0) rfl; have y1 := hSw.2.cellv (i := 1) rfl; have y2 := hSw.2.cellv (i := 2) rfl; have y3 := hSw.2.cellv (i := 3) rfl
      go_simp
     try simp only [layR]
     refine rd 2 rfl (fun K' hK => ?_)
     go_simp
     refine (HM.out w1.drew x HS0.out.1 hmem).mono ?_
     rintro e w2 ⟨rfl, hb2⟩
     rw [hp]
     have hS1 : Below w.heap.size w w2 ∧ Blk w2 g 180 #[.int .i64 (x.st : Int), .int .i64 (x.live : Int), .int .i64 (x.wear : Int), .int .i64 (x.nx : Int)] := ⟨HS0.out.1.then_ hb2, HS0.out.2.belowHere hb2⟩
     refine hK.out _ _ hS1 (fun hS2 => ?_)
     try simp only [layR]
     refine tk 3 ((.bool true)) rfl (fun W hSw => ?_) ?_
     ·skip
      go_simp
     try simp only [layR]
     refine tk 4 ((.int .i64 (-1))) rfl (fun W hSw => ?_) ?_
     ·skip
      go_simp
     try simp only [layR]
     refine tk 5 ((.bool true)) rfl (fun W hSw => ?_) ?_
     ·skip
      go_simp
     try simp only [layR]
     refine tk 6 ((.bool true)) rfl (fun W hSw => ?_) ?_
     ·skip
      go_simp
     try simp only [layR]
     refine tn 7 rfl ?_
     try simp only [layR]
     refine tn 8 rfl ?_
     try simp only [layR]
     refine tn 9 rfl ?_
     try simp only [layR]
     refine tn 10 rfl ?_
     try simp only [layR]
     refine tn 11 rfl ?_
     try simp only [layR]
     refine tn 12 rfl ?_
     try simp only [layR]
     refine tn 13 rfl ?_
     try simp only [layR]
     refine tk 14 ((.bool true)) rfl (fun W hSw => ?_) ?_
     ·skip
      go_simp
     try simp only [layR]
     refine tk 15 ((.bool true)) rfl (fun W hSw => ?_) ?_
     ·skip
      go_simp
     try simp only [layR]
     refine wpAnyH_done (by kernel_rfl) ?_ _
     refine NoPanic.normal ?_
     have HBf := hid hS2.1
     clear hS0 hS1 hS2
     go_wp2_with fail
     go_roundw
     case rel => exact ⟨k + 1, by omega, by go_num, (congrArg (fun o => Value.int .i64 (Gc.oI o)) HE.out).symm, HBf.out⟩
     case measure => simp [intOf]; omega
    | some q =>
     have hq : q < k := (Gc.best_some ho).1
     have hpos : Gc.oI (some q) = (q : Int) := rfl
     have hnn : decide ((q : Int) < 0) = false := decide_eq_false (by omega)
     have hq0 : (0 : Int) ≤ (q : Int) := by omega
     have hq1 : (q : Int) < (n : Int) := by omega
     have HY := hid (fun (W' : World) (hW : Below w.heap.size w W') => bk_at (HX.out.below hW) (k := q) (by omega))
     have hmy := getD_mem (l := l) (k := q) (by omega)
     rw [hpos]
     generalize hYe : Gc.at_ l q = y at *
     have hE2 : Gc.best p lt l (k + 1) = if lt x y then some k else some q := by rw [hE, hp, ho]; show (if (true && lt x (Gc.at_ l q)) = true then some k else some q) = _; rw [hYe, Bool.true_and]
     have HE := hid hE2
     clear hE hE2
     refine wp_region_noPanic ?_
     refine wp_region_held_drew (S := (fun W' => Below w.heap.size w W' ∧ Blk W' g 180 #[.int .i64 (x.st : Int), .int .i64 (x.live : Int), .int .i64 (x.wear : Int), .int .i64 (x.nx : Int)])) (by kernel_rfl) HS0.out (fun hS0 => ?_)
     refine tk 0 ((.func (.func fm) #[] cm)) rfl (fun _ _ => rfl) ?_
     try simp only [layR]
     refine tk 1 ((bkV x)) rfl (fun W hSw => ?_) ?_
     ·have y0 := hSw.2.cellv (i := 0) rfl; have y1 := hSw.2.cellv (i := 1) rfl; have y2 := hSw.2.cellv (i := 2) rfl; have y3 := hSw.2.cellv (i := 3) rfl
      go_simp
     try simp only [layR]
     refine rd 2 rfl (fun K' hK => ?_)
     go_simp
     refine (HM.out w1.drew x HS0.out.1 hmem).mono ?_
     rintro e w2 ⟨rfl, hb2⟩
     rw [hp]
     have hS1 : Below w.heap.size w w2 ∧ Blk w2 g 180 #[.int .i64 (x.st : Int), .int .i64 (x.live : Int), .int .i64 (x.wear : Int), .int .i64 (x.nx : Int)] := ⟨HS0.out.1.then_ hb2, HS0.out.2.belowHere hb2⟩
     refine hK.out _ _ hS1 (fun hS2 => ?_)
     try simp only [layR]
     refine tk 3 ((.bool true)) rfl (fun W hSw => ?_) ?_
     ·skip
      go_simp
     try simp only [layR]
     refine tk 4 ((.int .i64 (q : Int))) rfl (fun W hSw => ?_) ?_
     ·skip
      go_simp
     try simp only [layR]
     refine tk 5 ((.bool false)) rfl (fun W hSw => ?_) ?_
     ·skip
      go_simp
     try simp only [layR]
     refine tk 6 ((.bool false)) rfl (fun W hSw => ?_) ?_
     ·skip
      go_simp
     try simp only [layR]
     refine tk 7 ((.func (.func fb) #[] cb)) rfl (fun _ _ => rfl) ?_
     try simp only [layR]
     refine tk 8 ((bkV x)) rfl (fun W hSw => ?_) ?_
     ·have y0 := hSw.2.cellv (i := 0) rfl; have y1 := hSw.2.cellv (i := 1) rfl; have y2 := hSw.2.cellv (i := 2) rfl; have y3 := hSw.2.cellv (i := 3) rfl
      go_simp
     try simp only [layR]
     refine tk 9 ((.slice (some ⟨b, o, none⟩) n c)) rfl (fun _ _ => rfl) ?_
     try simp only [layR]
     refine tk 10 ((.int .i64 (q : Int))) rfl (fun _ _ => rfl) ?_
     try simp only [layR]
     refine tk 11 ((.pointer (some ⟨b, o + q * 4, none⟩))) rfl (fun W hSw => ?_) ?_
     ·skip
      go_simp
     try simp only [layR]
     refine tk 12 ((bkV y)) rfl (fun W hSw => ?_) ?_
     ·obtain ⟨b', o', he, _, y0, y1, y2, y3⟩ := HY.out _ hSw.1; injection he with he; injection he with he1 he2; subst he1 he2
      go_simp
     try simp only [layR]
     refine rd 13 rfl (fun K' hK => ?_)
     go_simp
     refine (HB.out w2 x y hS2.1 hmem hmy).mono ?_
     rintro e w3 ⟨rfl, hb3⟩
     have hS3 : Below w.heap.size w w3 ∧ Blk w3 g 180 #[.int .i64 (x.st : Int), .int .i64 (x.live : Int), .int .i64 (x.wear : Int), .int .i64 (x.nx : Int)] := ⟨hS2.1.then_ hb3, hS2.2.belowHere hb3⟩
     refine hK.out _ _ hS3 (fun hS4 => ?_)
     try simp only [layR]
     refine tk 14 ((.bool (lt x y))) rfl (fun W hSw => ?_) ?_
     ·skip
      go_simp
     try simp only [layR]
     refine tk 15 ((.bool (lt x y))) rfl (fun W hSw => ?_) ?_
     ·skip
      go_simp
     try simp only [layR]
     refine wpAnyH_done (by kernel_rfl) ?_ _
     refine NoPanic.normal ?_
     have HBf := hid hS4.1
     clear hS0 hS1 hS2 hS3 hS4
     cases hl : lt x y
     ·rw [hl, if_neg (by simp)] at HE
      go_wp2_with fail
      go_roundw
      case rel => exact ⟨k + 1, by omega, by go_num, (congrArg (fun o => Value.int .i64 (Gc.oI o)) HE.out).symm, HBf.out⟩
      case measure => simp [intOf]; omega
     ·rw [hl, if_pos rfl] at HE
      go_wp2_with fail
      go_roundw
      case rel => exact ⟨k + 1, by omega, by go_num, (congrArg (fun o => Value.int .i64 (Gc.oI o)) HE.out).symm, HBf.out⟩
      case measure => simp [intOf]; omega
  ·obtain rfl : k = n := by omega
   go_wp2_with fail
   go_ret
   exact ⟨rfl, HBr.out⟩
end Go.Proofs.YtcppkaphlcflgaaGreat
