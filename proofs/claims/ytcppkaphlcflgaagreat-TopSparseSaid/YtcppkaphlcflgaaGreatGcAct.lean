import Derived.Test.YtcppkaphlcflgaaGreatGcBest
import Derived.Deep.CutBlock
import Derived.Laws.EntriesVeiled
namespace Go.Proofs.YtcppkaphlcflgaaGreat
open Go.RowKit

theorem callEnter {f : FuncId} {fn : Func} {c : Code} (hf : Tryz.prog.funcs[f]? = some fn) (hname : (fn.name == "runtime.NumGoroutine") = false) (hb : fn.body = some c) (args : Array Value) (w : World) :
  (callFunc f args).run Tryz.prog w = .ok (.enter f args) w := by
 have h1 : fn.name ≠ "runtime.NumGoroutine" := by simpa using hname
 simp [callFunc, hf, h1, hb]
set_option maxHeartbeats 2000000 in
theorem least_calls (a : Option Addr) (n c : Nat) (l : List Bk) (w : World) (hx : ArrM 4 bkL w w.heap.size a n l) (hn : n ≤ 1000) :
  Calls Tryz.prog 111 #[.slice a n c] w fun e w' => e = .returned (.int .i64 (Gc.least l : Int)) ∧ Below w.heap.size w w' := by
 have HC := Lib.hid (best_calls Gc.good Gc.worn _ _ 150 152 #[] #[] rfl rfl a n c l w hx hn (callEnter Tryz.func150 (by kernel_rfl) rfl) (callEnter Tryz.func152 (by kernel_rfl) rfl)
  (fun w' x _ _ => ggood_calls x w') (fun w' x y _ _ _ => gleastF_calls x y w'))
 have hl := hx.len
 have HX := Lib.hid hx
 have HL := Lib.hid (show Gc.least l = Gc.wearOf l (Gc.best Gc.good Gc.worn l n) by rw [← hl]; rfl)
 clear hx
 go_enter Tryz.func111, Tryz.ntmps111
 go_wp2_with fail
 refine HC.out.mono ?_
 rintro e w1 ⟨rfl, hb⟩
 have HB := Lib.hid hb
 clear hb
 cases ho : Gc.best Gc.good Gc.worn l n with
 | none =>
  rw [ho] at HL
  have e0 : Gc.oI none = -1 := rfl
  rw [e0]
  go_wp2
  go_ret
  exact ⟨by rw [HL.out]; rfl, HB.out⟩
 | some k =>
  rw [ho] at HL
  have hk := (Gc.best_some ho).1
  have e0 : Gc.oI (some k) = (k : Int) := rfl
  have e1 : decide ((k : Int) < 0) = false := decide_eq_false (by omega)
  have e2 : (0 : Int) ≤ (k : Int) := by omega
  have e3 : (k : Int) < (n : Int) := by omega
  obtain ⟨b, o, rfl, _, _, _, c2, _⟩ := bk_at (HX.out.below HB.out) (k := k) hk
  rw [e0]
  clear ho e0
  go_wp2
  go_ret
  exact ⟨by rw [HL.out]; rfl, HB.out⟩
set_option maxHeartbeats 2000000 in
theorem greatest_calls (a : Option Addr) (n c : Nat) (l : List Bk) (w : World) (hx : ArrM 4 bkL w w.heap.size a n l) (hn : n ≤ 1000) :
  Calls Tryz.prog 110 #[.slice a n c] w fun e w' => e = .returned (.int .i64 (Gc.greatest l : Int)) ∧ Below w.heap.size w w' := by
 have HC := Lib.hid (best_calls Gc.good Gc.more _ _ 150 151 #[] #[] rfl rfl a n c l w hx hn (callEnter Tryz.func150 (by kernel_rfl) rfl) (callEnter Tryz.func151 (by kernel_rfl) rfl)
  (fun w' x _ _ => ggood_calls x w') (fun w' x y _ _ _ => gmostF_calls x y w'))
 have hl := hx.len
 have HX := Lib.hid hx
 have HL := Lib.hid (show Gc.greatest l = Gc.wearOf l (Gc.best Gc.good Gc.more l n) by rw [← hl]; rfl)
 clear hx
 go_enter Tryz.func110, Tryz.ntmps110
 go_wp2_with fail
 refine HC.out.mono ?_
 rintro e w1 ⟨rfl, hb⟩
 have HB := Lib.hid hb
 clear hb
 cases ho : Gc.best Gc.good Gc.more l n with
 | none =>
  rw [ho] at HL
  have e0 : Gc.oI none = -1 := rfl
  rw [e0]
  go_wp2
  go_ret
  exact ⟨by rw [HL.out]; rfl, HB.out⟩
 | some k =>
  rw [ho] at HL
  have hk := (Gc.best_some ho).1
  have e0 : Gc.oI (some k) = (k : Int) := rfl
  have e1 : decide ((k : Int) < 0) = false := decide_eq_false (by omega)
  have e2 : (0 : Int) ≤ (k : Int) := by omega
  have e3 : (k : Int) < (n : Int) := by omega
  obtain ⟨b, o, rfl, _, _, _, c2, _⟩ := bk_at (HX.out.below HB.out) (k := k) hk
  rw [e0]
  clear ho e0
  go_wp2
  go_ret
  exact ⟨by rw [HL.out]; rfl, HB.out⟩
namespace Gc
def count (s : Nat) (l : List Bk) : Nat := (l.filter fun x => decide (x.st = s)).length
theorem count_le (s : Nat) (l : List Bk) : count s l ≤ l.length := List.length_filter_le _ _
theorem count_snoc (s : Nat) (l : List Bk) {k : Nat} (hk : k < l.length) : count s (l.take (k + 1)) = count s (l.take k) + if (at_ l k).st = s then 1 else 0 := by
 unfold count
 rw [List.take_add_one, List.getElem?_eq_getElem hk, List.filter_append, List.length_append, at_, List.getD_eq_getElem?_getD, List.getElem?_eq_getElem hk]
 show _ + (List.filter _ [l[k]]).length = _ + if l[k].st = s then 1 else 0
 by_cases h : l[k].st = s
 ·rw [if_pos h, List.filter_cons_of_pos (by simpa using h)]; rfl
 ·rw [if_neg h, List.filter_cons_of_neg (by simpa using h)]; rfl
end Gc
set_option maxHeartbeats 2000000 in
theorem count_calls (s : Nat) (a : Option Addr) (n c : Nat) (l : List Bk) (w : World) (hx : ArrM 4 bkL w w.heap.size a n l) (hn : n ≤ 1000) :
  Calls Tryz.prog 174 #[.slice a n c, .int .i64 (s : Int)] w fun e w' => e = .returned (.int .i64 (Gc.count s l : Int)) ∧ Below w.heap.size w w' := by
 have HX := Lib.hid hx
 have hl := hx.len
 have hcs := bkCells
 clear hx
 go_enter Tryz.func174, Tryz.ntmps174
 go_wp2
 go_loopw [5, 7, 10] (fun m _ i wr => ∃ k : Nat, k ≤ n ∧ i = .int .i64 (k : Int) ∧ m = .int .i64 (Gc.count s (l.take k) : Int) ∧ Below w.heap.size w wr) (fun _ _ i _ => n - (intOf i).toNat)
 case atStart => exact ⟨0, by omega, rfl, rfl, Below.refl _ _⟩
 case round =>
  obtain ⟨k, hk, rfl, rfl, hb⟩ := hrel
  have HBr := Lib.hid hb
  clear hb
  by_cases hlt : k < n
  ·obtain ⟨b, o, rfl, hbl, c0, c1, c2, c3⟩ := bk_at (HX.out.below HBr.out) (k := k) hlt
   have hk0 : (0 : Int) ≤ (k : Int) := by omega
   have hk1 : (k : Int) < (n : Int) := by omega
   have HC := Lib.hid (Gc.count_snoc s l (k := k) (by omega))
   have hcl := Nat.le_trans (Gc.count_le s (l.take k)) (by rw [List.length_take]; exact Nat.min_le_left _ _)
   generalize Gc.at_ l k = x at *
   generalize Gc.count s (l.take k) = q at *
   by_cases he : x.st = s
   ·have he2 : ((x.st : Int) == (s : Int)) = true := by rw [beq_iff_eq, he]
    have HE := Lib.hid he
    clear he
    go_wp2_with fail
    go_roundw
    case rel => exact ⟨k + 1, by omega, by go_num, by rw [HC.out, if_pos HE.out]; go_num, HBr.out.alloc HBr.out.size _⟩
    case measure => simp [intOf]; omega
   ·have he2 : ((x.st : Int) == (s : Int)) = false := by rw [beq_eq_false_iff_ne]; omega
    have HE := Lib.hid he
    clear he
    go_wp2_with fail
    go_roundw
    case rel => exact ⟨k + 1, by omega, by go_num, by rw [HC.out, if_neg HE.out]; rfl, HBr.out.alloc HBr.out.size _⟩
    case measure => simp [intOf]; omega
  ·obtain rfl : k = n := by omega
   go_wp2_with fail
   go_ret
   exact ⟨by rw [List.take_of_length_le (by omega)]; rfl, HBr.out⟩
theorem bright_calls (x : Bk) (pages : Nat) (h : Gc.Ok pages x) (w : World) :
  Calls Tryz.prog 227 #[bkV x, .int .i64 (pages : Int)] w fun e w' => e = .returned (.bool true) ∧ Below w.heap.size w w' := by
 obtain ⟨hb, c0, c1, c2, c3⟩ := boxed x w
 have HB := Lib.hid hb
 unfold bkA at c0 c1 c2 c3 HB
 obtain ⟨s, l, r, n⟩ := x
 obtain ⟨h1, h2, h3, h4, h5⟩ := h
 simp only at h1 h2 h3 h4 h5
 have i2 : (l : Int) ≤ (pages : Int) := by omega
 have i3 : (n : Int) ≤ (pages : Int) := by omega
 have i4 : (r : Int) ≤ 1099511627776 := by omega
 clear hb h2 h3 h4
 have hs : s = 0 ∨ s = 1 ∨ s = 2 ∨ s = 3 ∨ s = 4 := by omega
 rcases hs with rfl | rfl | rfl | rfl | rfl
 ·obtain rfl : l = 0 := h5 (by decide)
  clear h1 h5
  go_enter Tryz.func227, Tryz.ntmps227
  go_wp2
  go_ret
  exact ⟨rfl, HB.out⟩
 ·clear h1 h5
  go_enter Tryz.func227, Tryz.ntmps227
  go_wp2
  go_ret
  exact ⟨rfl, HB.out⟩
 ·clear h1 h5
  go_enter Tryz.func227, Tryz.ntmps227
  go_wp2
  go_ret
  exact ⟨rfl, HB.out⟩
 ·obtain rfl : l = 0 := h5 (by decide)
  clear h1 h5
  go_enter Tryz.func227, Tryz.ntmps227
  go_wp2
  go_ret
  exact ⟨rfl, HB.out⟩
 ·obtain rfl : l = 0 := h5 (by decide)
  clear h1 h5
  go_enter Tryz.func227, Tryz.ntmps227
  go_wp2
  go_ret
  exact ⟨rfl, HB.out⟩
set_option maxHeartbeats 2000000 in
theorem gright_calls (a : Option Addr) (n c : Nat) (l : List Bk) (pages : Nat) (w : World) (hx : ArrM 4 bkL w w.heap.size a n l) (hn : n ≤ 1000) (hp1 : 1 ≤ pages) (hp : pages ≤ 32) (h : ∀ k, k < n → Gc.Ok pages (Gc.at_ l k)) :
  Calls Tryz.prog 203 #[.slice a n c, .int .i64 (pages : Int)] w fun e w' => e = .returned (.bool true) ∧ Below w.heap.size w w' := by
 have HX := Lib.hid hx
 have HO := Lib.hid h
 have hl := hx.len
 have hcs := bkCells
 have hd1 : decide ((pages : Int) < 1) = false := decide_eq_false (by omega)
 have hd2 : decide ((32 : Int) < (pages : Int)) = false := decide_eq_false (by omega)
 clear hx h
 go_enter Tryz.func203, Tryz.ntmps203
 go_wp2
 go_step3
 go_wp2_with fail
 go_step3
 go_wp2_with fail
 go_loopw [5, 7, 16] (fun g _ i wr => ∃ k : Nat, k ≤ n ∧ i = .int .i64 (k : Int) ∧ g = .bool true ∧ Below w.heap.size w wr) (fun _ _ i _ => n - (intOf i).toNat)
 case atStart => exact ⟨0, by omega, rfl, rfl, Below.refl _ _⟩
 case round =>
  obtain ⟨k, hk, rfl, rfl, hb⟩ := hrel
  have HBr := Lib.hid hb
  clear hb
  by_cases hlt : k < n
  ·obtain ⟨b, o, rfl, hbl, c0, c1, c2, c3⟩ := bk_at (HX.out.below HBr.out) (k := k) hlt
   have hk0 : (0 : Int) ≤ (k : Int) := by omega
   have hk1 : (k : Int) < (n : Int) := by omega
   have HOk := Lib.hid (HO.out k hlt)
   generalize Gc.at_ l k = x at *
   go_wp2_with fail
   refine (bright_calls x pages HOk.out _).mono ?_
   rintro e w1 ⟨rfl, hb⟩
   have HB1 := Lib.hid ((HBr.out.alloc HBr.out.size _).then_ hb)
   clear hb c0 c1 c2 c3
   go_wp2_with fail
   go_roundw
   case rel => exact ⟨k + 1, by omega, by go_num, rfl, HB1.out⟩
   case measure => simp [intOf]; omega
  ·obtain rfl : k = n := by omega
   go_wp2_with fail
   rw [Exit.noGoto_ret]
   go_ret
   exact ⟨rfl, HBr.out⟩
end Go.Proofs.YtcppkaphlcflgaaGreat
namespace Go.Proofs.YtcppkaphlcflgaaGreat
open Go.RowKit

namespace Gc
def p2 (room : Bool) (x : Bk) : Bool := room && ((x.st : Int) == 2)
def p3 (l : Nat) (x : Bk) : Bool := stale x && may l x
def p4 (room : Bool) (l pages : Nat) (x : Bk) : Bool := p2 room x && may l x && decide (x.live < pages)
def p5 (l : Nat) (x : Bk) : Bool := ((x.wear : Int) == l) && (((x.st : Int) == 0) || ((x.st : Int) == 1) && ((x.nx : Int) == 0))
def p6 (room : Bool) (l : Nat) (x : Bk) : Bool := p2 room x && ((x.wear : Int) == l)
def p7 (room : Bool) (pages : Nat) (x : Bk) : Bool := p2 room x && decide (x.live < pages)
end Gc
theorem boxK (x : Bk) (w : World) : Blk (w.alloc (.cells (bkA x) 180)) w.heap.size 180 (bkA x) := Blk.new w _ _
theorem next2_calls (x : Bk) (RB : Nat) (room : Bool) (w : World) (hr : w.cell? ⟨RB, 0, none⟩ = some (.bool room)) :
  Calls Tryz.prog 205 #[bkV x, .pointer (some ⟨RB, 0, none⟩)] w fun e w' => e = .returned (.bool (Gc.p2 room x)) ∧ Below w.heap.size w w' := by
 obtain ⟨hb, c0, c1, c2, c3⟩ := boxed x w
 have r0 := cell_on hr hb
 have HB := Lib.hid hb
 unfold bkA at c0 c1 c2 c3 HB r0
 clear hb hr
 cases room
 ·go_enter Tryz.func205, Tryz.ntmps205
  go_wp2
  go_ret
  exact ⟨rfl, HB.out⟩
 ·go_enter Tryz.func205, Tryz.ntmps205
  go_wp2
  go_ret
  exact ⟨rfl, HB.out⟩
theorem next3_calls (x : Bk) (SB LB : Nat) (l : Nat) (hl : l ≤ 2199023255552) (hx : x.wear ≤ 2199023255552) (w : World) (hs : w.cell? ⟨SB, 0, none⟩ = some (.func (.func 204) #[] #[])) (h2 : w.cell? ⟨LB, 0, none⟩ = some (.int .i64 (l : Int))) :
  Calls Tryz.prog 206 #[bkV x, .pointer (some ⟨SB, 0, none⟩), .pointer (some ⟨LB, 0, none⟩)] w fun e w' => e = .returned (.bool (Gc.p3 l x)) ∧ Below w.heap.size w w' := by
 obtain ⟨hb, c0, c1, c2, c3⟩ := boxed x w
 have s0 := cell_on hs hb
 have l0 := cell_on h2 hb
 have hk := boxK x w
 have HB := Lib.hid hb
 have HK := Lib.hid hk
 have hcs := bkCells
 unfold bkA at c0 c1 c2 c3 HB HK s0 l0
 have HL := Lib.hid l0
 clear hb hs h2 hk l0
 go_enter Tryz.func206, Tryz.ntmps206
 go_wp2_with fail
 refine (gstale_calls x _).mono ?_
 rintro e w1 ⟨rfl, hb⟩
 have l0 := cell_on HL.out hb
 have HB1 := Lib.hid (HB.out.then_ hb)
 have HK1 := HK.out.belowHere hb
 clear hb c0 c1 c2 c3 s0
 have c0 := HK1.cellv (i := 0) rfl
 have c1 := HK1.cellv (i := 1) rfl
 have c2 := HK1.cellv (i := 2) rfl
 have c3 := HK1.cellv (i := 3) rfl
 clear HK1
 have HE := Lib.hid (show Gc.p3 l x = (Gc.stale x && Gc.may l x) from rfl)
 cases hst : Gc.stale x
 ·rw [hst] at HE
  go_wp2_with fail
  go_ret
  exact ⟨by rw [HE.out]; rfl, HB1.out⟩
 ·rw [hst] at HE
  go_wp2_with fail
  refine (gmay_calls x l _ hl hx).mono ?_
  rintro e w2 ⟨rfl, hb⟩
  have HB2 := Lib.hid (HB1.out.then_ hb)
  clear hb
  go_wp2_with fail
  go_ret
  exact ⟨by rw [HE.out]; rfl, HB2.out⟩
theorem next4_calls (x : Bk) (FB RB LB PB : Nat) (room : Bool) (l pages : Nat) (hl : l ≤ 2199023255552) (hx : x.wear ≤ 2199023255552) (w : World) (hf : w.cell? ⟨FB, 0, none⟩ = some (.func (.func 205) #[] #[.pointer (some ⟨RB, 0, none⟩)])) (hr : w.cell? ⟨RB, 0, none⟩ = some (.bool room)) (h2 : w.cell? ⟨LB, 0, none⟩ = some (.int .i64 (l : Int))) (hp : w.cell? ⟨PB, 0, none⟩ = some (.int .i64 (pages : Int))) :
  Calls Tryz.prog 209 #[bkV x, .pointer (some ⟨FB, 0, none⟩), .pointer (some ⟨LB, 0, none⟩), .pointer (some ⟨PB, 0, none⟩)] w fun e w' => e = .returned (.bool (Gc.p4 room l pages x)) ∧ Below w.heap.size w w' := by
 obtain ⟨hb, c0, c1, c2, c3⟩ := boxed x w
 have f0 := cell_on hf hb
 have l0 := cell_on h2 hb
 have r0 := cell_on hr hb
 have p0 := cell_on hp hb
 have hk := boxK x w
 have HB := Lib.hid hb
 have HK := Lib.hid hk
 have hcs := bkCells
 unfold bkA at c0 c1 c2 c3 HB HK f0 l0 r0 p0
 have HL := Lib.hid l0
 have HP := Lib.hid p0
 have HR := Lib.hid r0
 clear hb hf h2 hk l0 p0 r0 hr hp
 go_enter Tryz.func209, Tryz.ntmps209
 go_wp2_with fail
 refine (next2_calls x RB room _ HR.out).mono ?_
 rintro e w1 ⟨rfl, hb⟩
 have l0 := cell_on HL.out hb
 have HP1 := Lib.hid (cell_on HP.out hb)
 have HB1 := Lib.hid (HB.out.then_ hb)
 have HK1 := Lib.hid (HK.out.belowHere hb)
 clear hb c0 c1 c2 c3 f0
 have c0 := HK1.out.cellv (i := 0) rfl
 have c1 := HK1.out.cellv (i := 1) rfl
 have c2 := HK1.out.cellv (i := 2) rfl
 have c3 := HK1.out.cellv (i := 3) rfl
 have HE := Lib.hid (show Gc.p4 room l pages x = (Gc.p2 room x && Gc.may l x && decide (x.live < pages)) from rfl)
 cases hst : Gc.p2 room x
 ·rw [hst] at HE
  go_wp2_with fail
  go_ret
  exact ⟨by rw [HE.out]; rfl, HB1.out⟩
 ·rw [hst] at HE
  go_wp2_with fail
  refine (gmay_calls x l _ hl hx).mono ?_
  rintro e w2 ⟨rfl, hb⟩
  have HB2 := Lib.hid (HB1.out.then_ hb)
  have p0 := cell_on HP1.out hb
  have d1 := (HK1.out.belowHere hb).cellv (i := 1) rfl
  clear hb c0 c1 c2 c3 l0
  cases hm : Gc.may l x
  ·rw [hm] at HE
   go_wp2_with fail
   go_ret
   exact ⟨by rw [HE.out]; rfl, HB2.out⟩
  ·rw [hm] at HE
   go_wp2_with fail
   go_ret
   exact ⟨by rw [HE.out]; simp, HB2.out⟩
theorem next5_calls (x : Bk) (LB : Nat) (l : Nat) (w : World) (h2 : w.cell? ⟨LB, 0, none⟩ = some (.int .i64 (l : Int))) :
  Calls Tryz.prog 212 #[bkV x, .pointer (some ⟨LB, 0, none⟩)] w fun e w' => e = .returned (.bool (Gc.p5 l x)) ∧ Below w.heap.size w w' := by
 obtain ⟨hb, c0, c1, c2, c3⟩ := boxed x w
 have l0 := cell_on h2 hb
 have HB := Lib.hid hb
 unfold bkA at c0 c1 c2 c3 HB l0
 clear hb h2
 have HE := Lib.hid (show Gc.p5 l x = (((x.wear : Int) == l) && (((x.st : Int) == 0) || ((x.st : Int) == 1) && ((x.nx : Int) == 0))) from rfl)
 cases e1 : ((x.wear : Int) == (l : Int))
 ·rw [e1] at HE
  go_enter Tryz.func212, Tryz.ntmps212
  go_wp2
  go_ret
  exact ⟨by rw [HE.out]; rfl, HB.out⟩
 ·cases e2 : ((x.st : Int) == 0)
  ·cases e3 : ((x.st : Int) == 1)
   ·rw [e1, e2, e3] at HE
    go_enter Tryz.func212, Tryz.ntmps212
    go_wp2
    go_ret
    exact ⟨by rw [HE.out]; rfl, HB.out⟩
   ·rw [e1, e2, e3] at HE
    go_enter Tryz.func212, Tryz.ntmps212
    go_wp2
    go_ret
    exact ⟨by rw [HE.out]; simp, HB.out⟩
  ·rw [e1, e2] at HE
   go_enter Tryz.func212, Tryz.ntmps212
   go_wp2
   go_ret
   exact ⟨by rw [HE.out]; simp, HB.out⟩
theorem next6_calls (x : Bk) (FB RB LB : Nat) (room : Bool) (l : Nat) (w : World) (hf : w.cell? ⟨FB, 0, none⟩ = some (.func (.func 205) #[] #[.pointer (some ⟨RB, 0, none⟩)])) (hr : w.cell? ⟨RB, 0, none⟩ = some (.bool room)) (h2 : w.cell? ⟨LB, 0, none⟩ = some (.int .i64 (l : Int))) :
  Calls Tryz.prog 213 #[bkV x, .pointer (some ⟨FB, 0, none⟩), .pointer (some ⟨LB, 0, none⟩)] w fun e w' => e = .returned (.bool (Gc.p6 room l x)) ∧ Below w.heap.size w w' := by
 obtain ⟨hb, c0, c1, c2, c3⟩ := boxed x w
 have f0 := cell_on hf hb
 have l0 := cell_on h2 hb
 have r0 := cell_on hr hb
 have hk := boxK x w
 have HB := Lib.hid hb
 have HK := Lib.hid hk
 have hcs := bkCells
 unfold bkA at c0 c1 c2 c3 HB HK f0 l0 r0
 have HL := Lib.hid l0
 have HR := Lib.hid r0
 clear hb hf h2 hk l0 r0 hr
 go_enter Tryz.func213, Tryz.ntmps213
 go_wp2_with fail
 refine (next2_calls x RB room _ HR.out).mono ?_
 rintro e w1 ⟨rfl, hb⟩
 have l0 := cell_on HL.out hb
 have HB1 := Lib.hid (HB.out.then_ hb)
 have d2 := (HK.out.belowHere hb).cellv (i := 2) rfl
 clear hb c0 c1 c2 c3 f0
 have HE := Lib.hid (show Gc.p6 room l x = (Gc.p2 room x && ((x.wear : Int) == l)) from rfl)
 cases hst : Gc.p2 room x
 ·rw [hst] at HE
  go_wp2_with fail
  go_ret
  exact ⟨by rw [HE.out]; rfl, HB1.out⟩
 ·rw [hst] at HE
  go_wp2_with fail
  go_ret
  exact ⟨by rw [HE.out]; simp, HB1.out⟩
theorem next7_calls (x : Bk) (FB RB PB : Nat) (room : Bool) (pages : Nat) (w : World) (hf : w.cell? ⟨FB, 0, none⟩ = some (.func (.func 205) #[] #[.pointer (some ⟨RB, 0, none⟩)])) (hr : w.cell? ⟨RB, 0, none⟩ = some (.bool room)) (h2 : w.cell? ⟨PB, 0, none⟩ = some (.int .i64 (pages : Int))) :
  Calls Tryz.prog 215 #[bkV x, .pointer (some ⟨FB, 0, none⟩), .pointer (some ⟨PB, 0, none⟩)] w fun e w' => e = .returned (.bool (Gc.p7 room pages x)) ∧ Below w.heap.size w w' := by
 obtain ⟨hb, c0, c1, c2, c3⟩ := boxed x w
 have f0 := cell_on hf hb
 have l0 := cell_on h2 hb
 have r0 := cell_on hr hb
 have hk := boxK x w
 have HB := Lib.hid hb
 have HK := Lib.hid hk
 have hcs := bkCells
 unfold bkA at c0 c1 c2 c3 HB HK f0 l0 r0
 have HL := Lib.hid l0
 have HR := Lib.hid r0
 clear hb hf h2 hk l0 r0 hr
 go_enter Tryz.func215, Tryz.ntmps215
 go_wp2_with fail
 refine (next2_calls x RB room _ HR.out).mono ?_
 rintro e w1 ⟨rfl, hb⟩
 have l0 := cell_on HL.out hb
 have HB1 := Lib.hid (HB.out.then_ hb)
 have d2 := (HK.out.belowHere hb).cellv (i := 1) rfl
 clear hb c0 c1 c2 c3 f0
 have HE := Lib.hid (show Gc.p7 room pages x = (Gc.p2 room x && decide (x.live < pages)) from rfl)
 cases hst : Gc.p2 room x
 ·rw [hst] at HE
  go_wp2_with fail
  go_ret
  exact ⟨by rw [HE.out]; rfl, HB1.out⟩
 ·rw [hst] at HE
  go_wp2_with fail
  go_ret
  exact ⟨by rw [HE.out]; simp, HB1.out⟩
namespace Gc
def ff (_ _ : Bk) : Bool := false
theorem ff_stay {p : Bk → Bool} {l : List Bk} {k a : Nat} (h : best p ff l k = some a) : ∀ m, k ≤ m → best p ff l m = some a := by
 intro m hm
 induction m with
 | zero =>
  obtain rfl : k = 0 := by omega
  exact h
 | succ m ih =>
  by_cases e : k = m + 1
  ·subst e; exact h
  ·unfold best
   rw [ih (by omega)]
   simp [ff]
end Gc
set_option maxHeartbeats 2000000 in
theorem gindex_calls (p : Bk → Bool) (F : Value) (fm : Nat) (cm : Array Value) (hF : F = .func (.func fm) #[] cm) (a : Option Addr) (n c : Nat) (l : List Bk) (w : World) (hx : ArrM 4 bkL w w.heap.size a n l) (hn : n ≤ 1000)
  (i1 : ∀ args w, (callFunc fm args).run Tryz.prog w = .ok (.enter fm args) w)
  (hm : ∀ w' x, Below w.heap.size w w' → x ∈ l → Calls Tryz.prog fm (#[bkV x] ++ cm) w' fun e w'' => e = .returned (.bool (p x)) ∧ Below w'.heap.size w' w'') :
  Calls Tryz.prog 211 #[.slice a n c, F] w fun e w' => e = .returned (.int .i64 (Gc.oI (Gc.best p Gc.ff l n))) ∧ Below w.heap.size w w' := by
 have HM := Lib.hid hm
 have HX := Lib.hid hx
 have hlen := hx.len
 subst hF
 clear hm hx
 have hcs := bkCells
 go_enter Tryz.func211, Tryz.ntmps211
 go_wp2
 go_loopw [5, 8] (fun _ i wr => ∃ k : Nat, k ≤ n ∧ i = .int .i64 (k : Int) ∧ Gc.best p Gc.ff l k = none ∧ Below w.heap.size w wr) (fun _ i _ => n - (intOf i).toNat)
 case atStart => exact ⟨0, by omega, rfl, rfl, Below.refl _ _⟩
 case round =>
  obtain ⟨k, hk, rfl, hno, hb⟩ := hrel
  have HBr := Lib.hid hb
  have HNo := Lib.hid hno
  clear hb hno
  by_cases hlt : k < n
  ·obtain ⟨b, o, rfl, hbl, c0, c1, c2, c3⟩ := bk_at (HX.out.below HBr.out) (k := k) hlt
   have hk0 : (0 : Int) ≤ (k : Int) := by omega
   have hk1 : (k : Int) < (n : Int) := by omega
   have hmem := getD_mem (l := l) (k := k) (by omega)
   have HE := Lib.hid (show Gc.best p Gc.ff l (k + 1) = if p (Gc.at_ l k) then some k else none by unfold Gc.best; rw [HNo.out])
   generalize Gc.at_ l k = x at *
   go_wp2_with fail
   refine (HM.out wr x HBr.out hmem).mono ?_
   rintro e w1 ⟨rfl, hb⟩
   have HB1 := Lib.hid (HBr.out.then_ hb)
   clear hb c0 c1 c2 c3
   cases hp : p x
   ·rw [hp, if_neg (by simp)] at HE
    go_wp2_with fail
    go_roundw
    case rel => exact ⟨k + 1, by omega, by go_num, HE.out, HB1.out⟩
    case measure => simp [intOf]; omega
   ·rw [hp, if_pos rfl] at HE
    go_wp2_with fail
    go_ret
    exact ⟨by rw [Gc.ff_stay HE.out n (by omega)]; rfl, HB1.out⟩
  ·obtain rfl : k = n := by omega
   go_wp2_with fail
   go_ret
   exact ⟨by rw [HNo.out]; rfl, HBr.out⟩
end Go.Proofs.YtcppkaphlcflgaaGreat
namespace Go.Proofs.YtcppkaphlcflgaaGreat
open Go.RowKit

namespace Gc
def forced (room : Bool) (pages : Nat) (l : List Bk) : Int × Int :=
 match best stale worn l l.length with
 | some k => (4, k)
 | none => match best (p7 room pages) emptier l l.length with
  | some k => (4, k)
  | none => (0, -1)
def next (l : List Bk) (pages : Nat) (room : Bool) : Int × Int :=
 match best (p3 (least l)) worn l l.length with
 | some k => (1, k)
 | none => match best (p4 room (least l) pages) emptier l l.length with
  | some k => (2, k)
  | none => match best (p5 (least l)) ff l l.length with
   | some k => (3, k)
   | none => match best (p6 room (least l)) emptier l l.length with
    | some k => (2, k)
    | none => forced room pages l
end Gc
def acV (a : Int × Int) : Value := .agg #[.int .i64 a.1, .int .i64 a.2]
set_option maxHeartbeats 2000000 in
theorem forced_calls (FB RB PB : Nat) (room : Bool) (pages : Nat) (a : Option Addr) (n c : Nat) (l : List Bk) (w : World) (hx : ArrM 4 bkL w w.heap.size a n l) (hn : n ≤ 1000)
  (hf : w.cell? ⟨FB, 0, none⟩ = some (.func (.func 205) #[] #[.pointer (some ⟨RB, 0, none⟩)])) (hr : w.cell? ⟨RB, 0, none⟩ = some (.bool room)) (h2 : w.cell? ⟨PB, 0, none⟩ = some (.int .i64 (pages : Int))) :
  Calls Tryz.prog 214 #[.slice a n c, .func (.func 204) #[] #[], .func (.func 215) #[] #[.pointer (some ⟨FB, 0, none⟩), .pointer (some ⟨PB, 0, none⟩)]] w fun e w' => e = .returned (acV (Gc.forced room pages l)) ∧ Below w.heap.size w w' := by
 have hl := hx.len
 have hb0 := (Below.refl w.heap.size w).alloc (Nat.le_refl _) (.cells #[.int .i64 0, .int .i64 0] 239)
 have HB0 := Lib.hid hb0
 have hk0 := Blk.new w 239 #[.int .i64 0, .int .i64 0]
 have HK0 := Lib.hid hk0
 have HX := Lib.hid (hx.on hb0)
 have HF := Lib.hid (cell_on hf hb0)
 have HR := Lib.hid (cell_on hr hb0)
 have HP := Lib.hid (cell_on h2 hb0)
 have HG := Lib.hid (show Gc.forced room pages l = (match Gc.best Gc.stale Gc.worn l n with
  | some k => (4, (k : Int))
  | none => match Gc.best (Gc.p7 room pages) Gc.emptier l n with
   | some k => (4, (k : Int))
   | none => (0, -1)) by unfold Gc.forced; rw [hl])
 clear hx hb0 hk0 hf hr h2
 go_enter Tryz.func214, Tryz.ntmps214
 go_wp2_with fail
 refine (best_calls Gc.stale Gc.worn _ _ 204 208 #[] #[] rfl rfl a n c l _ HX.out hn (callEnter Tryz.func204 (by kernel_rfl) rfl) (callEnter Tryz.func208 (by kernel_rfl) rfl)
  (fun w' x _ _ => gstale_calls x w') (fun w' x y _ _ _ => gworn_calls x y w')).mono ?_
 rintro e w1 ⟨rfl, hb⟩
 have HB1 := Lib.hid (HB0.out.then_ hb)
 have HK1 := Lib.hid (HK0.out.belowHere hb)
 have HX1 := Lib.hid (HX.out.on hb)
 have HF1 := Lib.hid (cell_on HF.out hb)
 have HR1 := Lib.hid (cell_on HR.out hb)
 have HP1 := Lib.hid (cell_on HP.out hb)
 clear hb
 cases ho : Gc.best Gc.stale Gc.worn l n with
 | some k =>
  rw [ho] at HG
  have e0 : Gc.oI (some k) = (k : Int) := rfl
  have e1 : decide ((k : Int) ≥ 0) = true := decide_eq_true (by omega)
  have e2 : (0 : Int) ≤ (k : Int) := by omega
  rw [e0]
  have k0 := HK1.out.cellv (i := 0) rfl
  have k1 := HK1.out.cellv (i := 1) rfl
  have f0 := HK1.out.frozen 0
  have f1 := HK1.out.frozen 1
  have hs := (HK1.out.set 0 (.int .i64 4)).set 1 (.int .i64 k)
  have q0 := hs.cellv (i := 0) (v := .int .i64 4) rfl
  have q1 := hs.cellv (i := 1) (v := .int .i64 k) rfl
  have HBf := Lib.hid ((HB1.out.setCell (p := ⟨w.heap.size, 0, none⟩) (Nat.le_refl _) (.int .i64 4)).setCell (p := ⟨w.heap.size, 1, none⟩) (Nat.le_refl _) (.int .i64 k))
  clear hs
  go_wp2_with fail
  refine bodyPost_ret (v := .agg #[.int .i64 4, .int .i64 k]) (by simp [results, Tryz.results214, go_sem, q0, q1]) rfl ⟨by rw [HG.out]; rfl, HBf.out⟩
 | none =>
  rw [ho] at HG
  have e0 : Gc.oI none = -1 := rfl
  rw [e0]
  clear ho e0
  go_wp2_with fail
  refine (best_calls (Gc.p7 room pages) Gc.emptier _ _ 215 210 #[.pointer (some ⟨FB, 0, none⟩), .pointer (some ⟨PB, 0, none⟩)] #[] rfl rfl a n c l _ HX1.out hn (callEnter Tryz.func215 (by kernel_rfl) rfl) (callEnter Tryz.func210 (by kernel_rfl) rfl)
   (fun w' x hw _ => next7_calls x FB RB PB room pages w' (cell_on HF1.out hw) (cell_on HR1.out hw) (cell_on HP1.out hw)) (fun w' x y _ _ _ => gemptier_calls x y w')).mono ?_
  rintro e w2 ⟨rfl, hb⟩
  have HB2 := Lib.hid (HB1.out.then_ hb)
  have HK2 := Lib.hid (HK1.out.belowHere hb)
  clear hb
  cases ho : Gc.best (Gc.p7 room pages) Gc.emptier l n with
  | some k =>
   rw [ho] at HG
   have e0 : Gc.oI (some k) = (k : Int) := rfl
   have e1 : decide ((k : Int) ≥ 0) = true := decide_eq_true (by omega)
   have e2 : (0 : Int) ≤ (k : Int) := by omega
   rw [e0]
   have k0 := HK2.out.cellv (i := 0) rfl
   have k1 := HK2.out.cellv (i := 1) rfl
   have f0 := HK2.out.frozen 0
   have f1 := HK2.out.frozen 1
   have hs := (HK2.out.set 0 (.int .i64 4)).set 1 (.int .i64 k)
   have q0 := hs.cellv (i := 0) (v := .int .i64 4) rfl
   have q1 := hs.cellv (i := 1) (v := .int .i64 k) rfl
   have HBf := Lib.hid ((HB2.out.setCell (p := ⟨w.heap.size, 0, none⟩) (Nat.le_refl _) (.int .i64 4)).setCell (p := ⟨w.heap.size, 1, none⟩) (Nat.le_refl _) (.int .i64 k))
   clear hs
   go_wp2_with fail
   refine bodyPost_ret (v := .agg #[.int .i64 4, .int .i64 k]) (by simp [results, Tryz.results214, go_sem, q0, q1]) rfl ⟨by rw [HG.out]; rfl, HBf.out⟩
  | none =>
   rw [ho] at HG
   have e0 : Gc.oI none = -1 := rfl
   rw [e0]
   clear ho e0
   have k0 := HK2.out.cellv (i := 0) rfl
   have k1 := HK2.out.cellv (i := 1) rfl
   have f0 := HK2.out.frozen 0
   have f1 := HK2.out.frozen 1
   have hs := (HK2.out.set 0 (.int .i64 0)).set 1 (.int .i64 (-1))
   have q0 := hs.cellv (i := 0) (v := .int .i64 0) rfl
   have q1 := hs.cellv (i := 1) (v := .int .i64 (-1)) rfl
   have HBf := Lib.hid ((HB2.out.setCell (p := ⟨w.heap.size, 0, none⟩) (Nat.le_refl _) (.int .i64 0)).setCell (p := ⟨w.heap.size, 1, none⟩) (Nat.le_refl _) (.int .i64 (-1)))
   clear hs
   go_wp2_with fail
   refine bodyPost_ret (v := .agg #[.int .i64 0, .int .i64 (-1)]) (by simp [results, Tryz.results214, go_sem, q0, q1]) rfl ⟨by rw [HG.out]; rfl, HBf.out⟩
structure NxE (w : World) (PB RB GB LB SB FB : Nat) (pages : Nat) (room : Bool) (l : Nat) : Prop where
 pb : w.cell? ⟨PB, 0, none⟩ = some (.int .i64 (pages : Int))
 rb : w.cell? ⟨RB, 0, none⟩ = some (.bool room)
 gb : Blk w GB 239 #[.int .i64 0, .int .i64 0]
 lb : w.cell? ⟨LB, 0, none⟩ = some (.int .i64 (l : Int))
 sb : w.cell? ⟨SB, 0, none⟩ = some (.func (.func 204) #[] #[])
 fb : w.cell? ⟨FB, 0, none⟩ = some (.func (.func 205) #[] #[.pointer (some ⟨RB, 0, none⟩)])
theorem NxE.on {w w' : World} {PB RB GB LB SB FB pages : Nat} {room : Bool} {l : Nat} (h : NxE w PB RB GB LB SB FB pages room l) (hb : Below w.heap.size w w') : NxE w' PB RB GB LB SB FB pages room l :=
 ⟨cell_on h.pb hb, cell_on h.rb hb, h.gb.belowHere hb, cell_on h.lb hb, cell_on h.sb hb, cell_on h.fb hb⟩
theorem gc_least_le {l : List Bk} {n pages : Nat} (hl : l.length = n) (h : ∀ k, k < n → Gc.Ok pages (Gc.at_ l k)) : Gc.least l ≤ 2199023255552 := by
 unfold Gc.least
 cases ho : Gc.best Gc.good Gc.worn l l.length with
 | none => show 0 ≤ _; omega
 | some k =>
  have hk := (Gc.best_some ho).1
  have := (h k (by omega)).wear
  show (Gc.at_ l k).wear ≤ _
  omega
set_option maxHeartbeats 4000000 in
theorem gnext_calls (room : Bool) (pages : Nat) (a : Option Addr) (n c : Nat) (l : List Bk) (w : World) (hx : ArrM 4 bkL w w.heap.size a n l) (hn : n ≤ 1000) (hp1 : 1 ≤ pages) (hp : pages ≤ 32) (h : ∀ k, k < n → Gc.Ok pages (Gc.at_ l k)) :
  Calls Tryz.prog 193 #[.slice a n c, .int .i64 (pages : Int), .bool room] w fun e w' => e = .returned (acV (Gc.next l pages room)) ∧ Below w.heap.size w w' := by
 have hl := hx.len
 have HLe := Lib.hid (gc_least_le hl h)
 have HOk := Lib.hid h
 have HX := Lib.hid hx
 have HG := Lib.hid (show Gc.next l pages room = (match Gc.best (Gc.p3 (Gc.least l)) Gc.worn l n with
  | some k => (1, (k : Int))
  | none => match Gc.best (Gc.p4 room (Gc.least l) pages) Gc.emptier l n with
   | some k => (2, (k : Int))
   | none => match Gc.best (Gc.p5 (Gc.least l)) Gc.ff l n with
    | some k => (3, (k : Int))
    | none => match Gc.best (Gc.p6 room (Gc.least l)) Gc.emptier l n with
     | some k => (2, (k : Int))
     | none => Gc.forced room pages l) by unfold Gc.next; rw [hl])
 have HWr := Lib.hid (show ∀ x ∈ l, x.wear ≤ 2199023255552 from fun x hm => by
  obtain ⟨i, hi, rfl⟩ := List.getElem_of_mem hm
  have := (h i (by omega)).wear
  have e : Gc.at_ l i = l[i] := by rw [Gc.at_, List.getD_eq_getElem?_getD, List.getElem?_eq_getElem hi]; rfl
  rw [e] at this
  omega)
 clear hx h
 have p0 := (Blk.new w 3 #[.int .i64 (pages : Int)]).cellv (i := 0) (v := .int .i64 (pages : Int)) rfl
 have HB3 := Lib.hid ((((Below.refl w.heap.size w).alloc (Nat.le_refl _) (.cells #[.int .i64 (pages : Int)] 3)).alloc (by simp) (.cells #[.bool room] 4)).alloc (by simp; omega) (.cells #[.int .i64 0, .int .i64 0] 239))
 have kp3 := ((Blk.new w 3 #[.int .i64 (pages : Int)]).alloc (.cells #[.bool room] 4)).alloc (.cells #[.int .i64 0, .int .i64 0] 239)
 have kr3 := (Blk.new (w.alloc (.cells #[.int .i64 (pages : Int)] 3)) 4 #[.bool room]).alloc (.cells #[.int .i64 0, .int .i64 0] 239)
 have kg3 := Blk.new ((w.alloc (.cells #[.int .i64 (pages : Int)] 3)).alloc (.cells #[.bool room] 4)) 239 #[.int .i64 0, .int .i64 0]
 rw [World.size_alloc] at kr3 kg3
 rw [World.size_alloc] at kg3
 have KP := Lib.hid kp3
 have KR := Lib.hid kr3
 have KG := Lib.hid kg3
 clear kp3 kr3 kg3
 have hgb : w.heap.size ≤ w.heap.size + 1 + 1 := by omega
 go_enter Tryz.func193, Tryz.ntmps193
 go_wp2_with fail
 clear p0
 generalize hGB : w.heap.size + 1 + 1 = GB at *
 generalize hRB : w.heap.size + 1 = RB at *
 generalize hPB : w.heap.size = PB at KP ⊢
 generalize hw3 : ((w.alloc (.cells #[.int .i64 (pages : Int)] 3)).alloc (.cells #[.bool room] 4)).alloc (.cells #[.int .i64 0, .int .i64 0] 239) = w3 at *
 clear hRB hGB hw3
 refine (gright_calls a n c l pages _ (HX.out.on HB3.out) hn hp1 hp HOk.out).mono ?_
 rintro e w4 ⟨rfl, hb⟩
 have HB4 := Lib.hid (HB3.out.then_ hb)
 have KP4 := Lib.hid (KP.out.belowHere hb)
 have KR4 := Lib.hid (KR.out.belowHere hb)
 have KG4 := Lib.hid (KG.out.belowHere hb)
 clear hb KP KR KG HB3
 go_wp2_with fail
 refine (least_calls a n c l _ (HX.out.on HB4.out) hn).mono ?_
 rintro e w5 ⟨rfl, hb⟩
 have HB5 := Lib.hid (HB4.out.then_ hb)
 have KP5 := Lib.hid (KP4.out.belowHere hb)
 have KR5 := Lib.hid (KR4.out.belowHere hb)
 have KG5 := Lib.hid (KG4.out.belowHere hb)
 clear hb KP4 KR4 KG4 HB4
 generalize Gc.least l = lst at *
 have hb6 := (((Below.refl w5.heap.size w5).alloc (Nat.le_refl _) (.cells #[.int .i64 (lst : Int)] 3)).alloc (by simp) (.cells #[.func (.func 204) #[] #[]] 218)).alloc (by simp; omega) (.cells #[.func (.func 205) #[] #[.pointer (some ⟨RB, 0, none⟩)]] 218)
 have e2 := Blk.new (w5.alloc (.cells #[.int .i64 (lst : Int)] 3)) 218 #[.func (.func 204) #[] #[]]
 have e3 := Blk.new ((w5.alloc (.cells #[.int .i64 (lst : Int)] 3)).alloc (.cells #[.func (.func 204) #[] #[]] 218)) 218 #[.func (.func 205) #[] #[.pointer (some ⟨RB, 0, none⟩)]]
 rw [World.size_alloc] at e2 e3
 rw [World.size_alloc] at e3
 have hN : NxE (((w5.alloc (.cells #[.int .i64 (lst : Int)] 3)).alloc (.cells #[.func (.func 204) #[] #[]] 218)).alloc (.cells #[.func (.func 205) #[] #[.pointer (some ⟨RB, 0, none⟩)]] 218)) PB RB GB w5.heap.size (w5.heap.size + 1) (w5.heap.size + 1 + 1) pages room lst :=
  ⟨(KP5.out.belowHere hb6).cellv (i := 0) rfl, (KR5.out.belowHere hb6).cellv (i := 0) rfl, KG5.out.belowHere hb6, (((Blk.new w5 3 #[.int .i64 (lst : Int)]).alloc (.cells #[.func (.func 204) #[] #[]] 218)).alloc (.cells #[.func (.func 205) #[] #[.pointer (some ⟨RB, 0, none⟩)]] 218)).cellv (i := 0) rfl, (e2.alloc (.cells #[.func (.func 205) #[] #[.pointer (some ⟨RB, 0, none⟩)]] 218)).cellv (i := 0) rfl, e3.cellv (i := 0) rfl⟩
 have HN := Lib.hid hN
 have HBn := Lib.hid (HB5.out.then_ hb6)
 have HW5 := Lib.hid (HX.out.on (HB5.out.then_ hb6))
 have l0 := (Blk.new w5 3 #[.int .i64 (lst : Int)]).cellv (i := 0) (v := .int .i64 (lst : Int)) rfl
 clear hb6 e2 e3 hN KP5 KR5 KG5 HB5
 go_wp2_with fail
 clear l0
 generalize ((w5.alloc (.cells #[.int .i64 (lst : Int)] 3)).alloc (.cells #[.func (.func 204) #[] #[]] 218)).alloc (.cells #[.func (.func 205) #[] #[.pointer (some ⟨RB, 0, none⟩)]] 218) = w6 at *
 generalize w5.heap.size + 1 + 1 = FB at *
 generalize w5.heap.size + 1 = SB at *
 generalize w5.heap.size = LB at *
 clear hPB
 refine (best_calls (Gc.p3 lst) Gc.worn _ _ 206 208 #[.pointer (some ⟨SB, 0, none⟩), .pointer (some ⟨LB, 0, none⟩)] #[] rfl rfl a n c l _ HW5.out hn (callEnter Tryz.func206 (by kernel_rfl) rfl) (callEnter Tryz.func208 (by kernel_rfl) rfl)
  (fun w' x hw hx => next3_calls x SB LB lst HLe.out (HWr.out x hx) w' (HN.out.on hw).sb (HN.out.on hw).lb) (fun w' x y _ _ _ => gworn_calls x y w')).mono ?_
 rintro e w7 ⟨rfl, hb⟩
 replace HN := Lib.hid (HN.out.on hb)
 replace HBn := Lib.hid (HBn.out.then_ hb)
 replace HW5 := Lib.hid (HW5.out.on hb)
 clear hb
 cases ho : Gc.best (Gc.p3 lst) Gc.worn l n with
 | some k =>
  rw [ho] at HG
  have e0 : Gc.oI (some k) = (k : Int) := rfl
  have e1 : decide ((k : Int) ≥ 0) = true := decide_eq_true (by omega)
  have e2 : (0 : Int) ≤ (k : Int) := by omega
  rw [e0]
  have k0 := HN.out.gb.cellv (i := 0) rfl
  have k1 := HN.out.gb.cellv (i := 1) rfl
  have f0 := HN.out.gb.frozen 0
  have f1 := HN.out.gb.frozen 1
  have hs := (HN.out.gb.set 0 (.int .i64 1)).set 1 (.int .i64 k)
  have q0 := hs.cellv (i := 0) (v := .int .i64 1) rfl
  have q1 := hs.cellv (i := 1) (v := .int .i64 k) rfl
  have HBf := Lib.hid ((HBn.out.setCell (p := ⟨GB, 0, none⟩) hgb (.int .i64 1)).setCell (p := ⟨GB, 1, none⟩) hgb (.int .i64 k))
  clear hs
  go_wp2_with fail
  refine bodyPost_ret (v := .agg #[.int .i64 1, .int .i64 k]) (by simp [results, Tryz.results193, go_sem, q0, q1]) rfl ⟨by rw [HG.out]; rfl, HBf.out⟩
 | none =>
  rw [ho] at HG
  have e0 : Gc.oI none = -1 := rfl
  rw [e0]
  clear ho e0
  go_wp2_with fail
  refine (best_calls (Gc.p4 room lst pages) Gc.emptier _ _ 209 210 #[.pointer (some ⟨FB, 0, none⟩), .pointer (some ⟨LB, 0, none⟩), .pointer (some ⟨PB, 0, none⟩)] #[] rfl rfl a n c l _ HW5.out hn (callEnter Tryz.func209 (by kernel_rfl) rfl) (callEnter Tryz.func210 (by kernel_rfl) rfl)
   (fun w' x hw hx => next4_calls x FB RB LB PB room lst pages HLe.out (HWr.out x hx) w' (HN.out.on hw).fb (HN.out.on hw).rb (HN.out.on hw).lb (HN.out.on hw).pb) (fun w' x y _ _ _ => gemptier_calls x y w')).mono ?_
  rintro e w8 ⟨rfl, hb⟩
  replace HN := Lib.hid (HN.out.on hb)
  replace HBn := Lib.hid (HBn.out.then_ hb)
  replace HW5 := Lib.hid (HW5.out.on hb)
  clear hb
  cases ho : Gc.best (Gc.p4 room lst pages) Gc.emptier l n with
  | some k =>
   rw [ho] at HG
   have e0 : Gc.oI (some k) = (k : Int) := rfl
   have e1 : decide ((k : Int) ≥ 0) = true := decide_eq_true (by omega)
   have e2 : (0 : Int) ≤ (k : Int) := by omega
   rw [e0]
   have k0 := HN.out.gb.cellv (i := 0) rfl
   have k1 := HN.out.gb.cellv (i := 1) rfl
   have f0 := HN.out.gb.frozen 0
   have f1 := HN.out.gb.frozen 1
   have hs := (HN.out.gb.set 0 (.int .i64 2)).set 1 (.int .i64 k)
   have q0 := hs.cellv (i := 0) (v := .int .i64 2) rfl
   have q1 := hs.cellv (i := 1) (v := .int .i64 k) rfl
   have HBf := Lib.hid ((HBn.out.setCell (p := ⟨GB, 0, none⟩) hgb (.int .i64 2)).setCell (p := ⟨GB, 1, none⟩) hgb (.int .i64 k))
   clear hs
   go_wp2_with fail
   refine bodyPost_ret (v := .agg #[.int .i64 2, .int .i64 k]) (by simp [results, Tryz.results193, go_sem, q0, q1]) rfl ⟨by rw [HG.out]; rfl, HBf.out⟩
  | none =>
   rw [ho] at HG
   have e0 : Gc.oI none = -1 := rfl
   rw [e0]
   clear ho e0
   go_wp2_with fail
   refine (gindex_calls (Gc.p5 lst) _ 212 #[.pointer (some ⟨LB, 0, none⟩)] rfl a n c l _ HW5.out hn (callEnter Tryz.func212 (by kernel_rfl) rfl)
    (fun w' x hw _ => next5_calls x LB lst w' (HN.out.on hw).lb)).mono ?_
   rintro e w9 ⟨rfl, hb⟩
   replace HN := Lib.hid (HN.out.on hb)
   replace HBn := Lib.hid (HBn.out.then_ hb)
   replace HW5 := Lib.hid (HW5.out.on hb)
   clear hb
   cases ho : Gc.best (Gc.p5 lst) Gc.ff l n with
   | some k =>
    rw [ho] at HG
    have e0 : Gc.oI (some k) = (k : Int) := rfl
    have e1 : decide ((k : Int) ≥ 0) = true := decide_eq_true (by omega)
    have e2 : (0 : Int) ≤ (k : Int) := by omega
    rw [e0]
    have k0 := HN.out.gb.cellv (i := 0) rfl
    have k1 := HN.out.gb.cellv (i := 1) rfl
    have f0 := HN.out.gb.frozen 0
    have f1 := HN.out.gb.frozen 1
    have hs := (HN.out.gb.set 0 (.int .i64 3)).set 1 (.int .i64 k)
    have q0 := hs.cellv (i := 0) (v := .int .i64 3) rfl
    have q1 := hs.cellv (i := 1) (v := .int .i64 k) rfl
    have HBf := Lib.hid ((HBn.out.setCell (p := ⟨GB, 0, none⟩) hgb (.int .i64 3)).setCell (p := ⟨GB, 1, none⟩) hgb (.int .i64 k))
    clear hs
    go_wp2_with fail
    refine bodyPost_ret (v := .agg #[.int .i64 3, .int .i64 k]) (by simp [results, Tryz.results193, go_sem, q0, q1]) rfl ⟨by rw [HG.out]; rfl, HBf.out⟩
   | none =>
    rw [ho] at HG
    have e0 : Gc.oI none = -1 := rfl
    rw [e0]
    clear ho e0
    go_wp2_with fail
    refine (best_calls (Gc.p6 room lst) Gc.emptier _ _ 213 210 #[.pointer (some ⟨FB, 0, none⟩), .pointer (some ⟨LB, 0, none⟩)] #[] rfl rfl a n c l _ HW5.out hn (callEnter Tryz.func213 (by kernel_rfl) rfl) (callEnter Tryz.func210 (by kernel_rfl) rfl)
     (fun w' x hw hx => next6_calls x FB RB LB room lst w' (HN.out.on hw).fb (HN.out.on hw).rb (HN.out.on hw).lb) (fun w' x y _ _ _ => gemptier_calls x y w')).mono ?_
    rintro e w10 ⟨rfl, hb⟩
    replace HN := Lib.hid (HN.out.on hb)
    replace HBn := Lib.hid (HBn.out.then_ hb)
    replace HW5 := Lib.hid (HW5.out.on hb)
    clear hb
    cases ho : Gc.best (Gc.p6 room lst) Gc.emptier l n with
    | some k =>
     rw [ho] at HG
     have e0 : Gc.oI (some k) = (k : Int) := rfl
     have e1 : decide ((k : Int) ≥ 0) = true := decide_eq_true (by omega)
     have e2 : (0 : Int) ≤ (k : Int) := by omega
     rw [e0]
     have k0 := HN.out.gb.cellv (i := 0) rfl
     have k1 := HN.out.gb.cellv (i := 1) rfl
     have f0 := HN.out.gb.frozen 0
     have f1 := HN.out.gb.frozen 1
     have hs := (HN.out.gb.set 0 (.int .i64 2)).set 1 (.int .i64 k)
     have q0 := hs.cellv (i := 0) (v := .int .i64 2) rfl
     have q1 := hs.cellv (i := 1) (v := .int .i64 k) rfl
     have HBf := Lib.hid ((HBn.out.setCell (p := ⟨GB, 0, none⟩) hgb (.int .i64 2)).setCell (p := ⟨GB, 1, none⟩) hgb (.int .i64 k))
     clear hs
     go_wp2_with fail
     refine bodyPost_ret (v := .agg #[.int .i64 2, .int .i64 k]) (by simp [results, Tryz.results193, go_sem, q0, q1]) rfl ⟨by rw [HG.out]; rfl, HBf.out⟩
    | none =>
     rw [ho] at HG
     have e0 : Gc.oI none = -1 := rfl
     rw [e0]
     clear ho e0
     have s0 := HN.out.sb
     go_wp2_with fail
     clear s0
     refine (forced_calls FB RB PB room pages a n c l _ HW5.out hn HN.out.fb HN.out.rb HN.out.pb).mono ?_
     rintro e w11 ⟨rfl, hb⟩
     replace HN := Lib.hid (HN.out.on hb)
     replace HBn := Lib.hid (HBn.out.then_ hb)
     clear hb
     generalize hfo : Gc.forced room pages l = fo at *
     obtain ⟨kd, bn⟩ := fo
     clear hfo
     rw [show acV (kd, bn) = .agg #[.int .i64 kd, .int .i64 bn] from rfl]
     have k0 := HN.out.gb.cellv (i := 0) rfl
     have k1 := HN.out.gb.cellv (i := 1) rfl
     have f0 := HN.out.gb.frozen 0
     have f1 := HN.out.gb.frozen 1
     have hs := (HN.out.gb.set 0 (.int .i64 kd)).set 1 (.int .i64 bn)
     have q0 := hs.cellv (i := 0) (v := .int .i64 kd) rfl
     have q1 := hs.cellv (i := 1) (v := .int .i64 bn) rfl
     have HBf := Lib.hid ((HBn.out.setCell (p := ⟨GB, 0, none⟩) hgb (.int .i64 kd)).setCell (p := ⟨GB, 1, none⟩) hgb (.int .i64 bn))
     clear hs
     go_wp2_with fail
     refine bodyPost_ret (v := .agg #[.int .i64 kd, .int .i64 bn]) (by simp [results, Tryz.results193, go_sem, q0, q1]) rfl ⟨by rw [HG.out]; rfl, HBf.out⟩
end Go.Proofs.YtcppkaphlcflgaaGreat
