import Derived.Test.YtcppkaphlcflgaaGreatGcBest
import Derived.Deep.CutBlock
import Derived.Laws.EntriesVeiled
namespace Go.Proofs.YtcppkaphlcflgaaGreat
open Lib (hid)
set_option maxRecDepth 100000
set_option maxHeartbeats 16000000
section
open Go.RowKit

theorem callEnter {f : FuncId} {fn : Func} {c : Code} (hf : Tryz.prog.funcs[f]? = some fn) (hname : (fn.name == "runtime.NumGoroutine") = false) (hb : fn.body = some c) (args : Array Value) (w : World) :
  (callFunc f args).run Tryz.prog w = .ok (.enter f args) w := by
 have h1 : fn.name ≠ "runtime.NumGoroutine" := by simpa using hname
 simp [callFunc, hf, h1, hb]
theorem least_calls (a : Option Addr) (n c : Nat) (l : List Bk) (w : World) (hx : ArrM 4 bkL w w.heap.size a n l) (hn : n ≤ 1000) :
  Calls Tryz.prog 111 #[.slice a n c] w fun e w' => e = .returned (.int .i64 (Gc.least l : Int)) ∧ Below w.heap.size w w' := by
 have HC := hid (best_calls Gc.good Gc.worn _ _ 150 152 #[] #[] rfl rfl a n c l w hx hn (callEnter Tryz.func150 (by kernel_rfl) rfl) (callEnter Tryz.func152 (by kernel_rfl) rfl)
  (fun w' x _ _ => ggood_calls x w') (fun w' x y _ _ _ => gleastF_calls x y w'))
 have hl := hx.len
 have HX := hid hx
 have HL := hid (show Gc.least l = Gc.wearOf l (Gc.best Gc.good Gc.worn l n) by rw [← hl]; rfl)
 clear hx
 go_enter Tryz.func111, Tryz.ntmps111
 go_wp2_with fail
 refine HC.out.mono ?_
 rintro e w1 ⟨rfl, hb⟩
 have HB := hid hb
 clear hb
 cases ho : Gc.best Gc.good Gc.worn l n with
 | none =>
  rw [ho] at HL
  have e0 : Gc.oI none = -1 := rfl
  rw [e0]
  go_wp2
  go_ret
  exact ⟨by rw [HL.out]; rfl, HB.out⟩
 | some k =>
  rw [ho] at HL
  have hk := (Gc.best_some ho).1
  have e0 : Gc.oI (some k) = (k : Int) := rfl
  have e1 : decide ((k : Int) < 0) = false := decide_eq_false (by omega)
  have e2 : (0 : Int) ≤ (k : Int) := by omega
  have e3 : (k : Int) < (n : Int) := by omega
  obtain ⟨b, o, rfl, _, _, _, c2, _⟩ := bk_at (HX.out.below HB.out) (k := k) hk
  rw [e0]
  clear ho e0
  go_wp2
  go_ret
  exact ⟨by rw [HL.out]; rfl, HB.out⟩
theorem greatest_calls (a : Option Addr) (n c : Nat) (l : List Bk) (w : World) (hx : ArrM 4 bkL w w.heap.size a n l) (hn : n ≤ 1000) :
  Calls Tryz.prog 110 #[.slice a n c] w fun e w' => e = .returned (.int .i64 (Gc.greatest l : Int)) ∧ Below w.heap.size w w' := by
 have HC := hid (best_calls Gc.good Gc.more _ _ 150 151 #[] #[] rfl rfl a n c l w hx hn (callEnter Tryz.func150 (by kernel_rfl) rfl) (callEnter Tryz.func151 (by kernel_rfl) rfl)
  (fun w' x _ _ => ggood_calls x w') (fun w' x y _ _ _ => gmostF_calls x y w'))
 have hl := hx.len
 have HX := hid hx
 have HL := hid (show Gc.greatest l = Gc.wearOf l (Gc.best Gc.good Gc.more l n) by rw [← hl]; rfl)
 clear hx
 go_enter Tryz.func110, Tryz.ntmps110
 go_wp2_with fail
 refine HC.out.mono ?_
 rintro e w1 ⟨rfl, hb⟩
 have HB := hid hb
 clear hb
 cases ho : Gc.best Gc.good Gc.more l n with
 | none =>
  rw [ho] at HL
  have e0 : Gc.oI none = -1 := rfl
  rw [e0]
  go_wp2
  go_ret
  exact ⟨by rw [HL.out]; rfl, HB.out⟩
 | some k =>
  rw [ho] at HL
  have hk := (Gc.best_some ho).1
  have e0 : Gc.oI (some k) = (k : Int) := rfl
  have e1 : decide ((k : Int) < 0) = false := decide_eq_false (by omega)
  have e2 : (0 : Int) ≤ (k : Int) := by omega
  have e3 : (k : Int) < (n : Int) := by omega
  obtain ⟨b, o, rfl, _, _, _, c2, _⟩ := bk_at (HX.out.below HB.out) (k := k) hk
  rw [e0]
  clear ho e0
  go_wp2
  go_ret
  exact ⟨by rw [HL.out]; rfl, HB.out⟩
namespace Gc
def count (s : Nat) (l : List Bk) : Nat := (l.filter fun x => decide (x.st = s)).length
theorem count_le (s : Nat) (l : List Bk) : count s l ≤ l.length := List.length_filter_le _ _
theorem count_snoc (s : Nat) (l : List Bk) {k : Nat} (hk : k < l.length) : count s (l.take (k + 1)) = count s (l.take k) + if (at_ l k).st = s then 1 else 0 := by
 unfold count
 rw [List.take_add_one, List.getElem?_eq_getElem hk, List.filter_append, List.length_append, at_, List.getD_eq_getElem?_getD, List.getElem?_eq_getElem hk]
 show _ + (List.filter _ [l[k]]).length = _ + if l[k].st = s then 1 else 0
 by_cases h : l[k].st = s
 ·rw [if_pos h, List.filter_cons_of_pos (by simpa using h)]; rfl
 ·rw [if_neg h, List.filter_cons_of_neg (by simpa using h)]; rfl
end Gc
theorem count_calls (s : Nat) (a : Option Addr) (n c : Nat) (l : List Bk) (w : World) (hx : ArrM 4 bkL w w.heap.size a n l) (hn : n ≤ 1000) :
  Calls Tryz.prog 174 #[.slice a n c, .int .i64 (s : Int)] w fun e w' => e = .returned (.int .i64 (Gc.count s l : Int)) ∧ Below w.heap.size w w' := by
 have HX := hid hx
 have hl := hx.len
 have hcs := bkCells
 clear hx
 go_enter Tryz.func174, Tryz.ntmps174
 go_wp2
 go_loopw [5, 7, 10] (fun m _ i wr => ∃ k : Nat, k ≤ n ∧ i = .int .i64 (k : Int) ∧ m = .int .i64 (Gc.count s (l.take k) : Int) ∧ Below w.heap.size w wr) (fun _ _ i _ => n - (intOf i).toNat)
 case atStart => exact ⟨0, by omega, rfl, rfl, Below.refl _ _⟩
 case round =>
  obtain ⟨k, hk, rfl, rfl, hb⟩ := hrel
  have HBr := hid hb
  clear hb
  by_cases hlt : k < n
  ·obtain ⟨b, o, rfl, hbl, c0, c1, c2, c3⟩ := bk_at (HX.out.below HBr.out) (k := k) hlt
   have hk0 : (0 : Int) ≤ (k : Int) := by omega
   have hk1 : (k : Int) < (n : Int) := by omega
   have HC := hid (Gc.count_snoc s l (k := k) (by omega))
   have hcl := Nat.le_trans (Gc.count_le s (l.take k)) (by rw [List.length_take]; exact Nat.min_le_left _ _)
   generalize Gc.at_ l k = x at *
   generalize Gc.count s (l.take k) = q at *
   by_cases he : x.st = s
   ·have he2 : ((x.st : Int) == (s : Int)) = true := by rw [beq_iff_eq, he]
    have HE := hid he
    clear he
    go_wp2_with fail
    go_roundw
    case rel => exact ⟨k + 1, by omega, by go_num, by rw [HC.out, if_pos HE.out]; go_num, HBr.out.alloc HBr.out.size _⟩
    case measure => simp [intOf]; omega
   ·have he2 : ((x.st : Int) == (s : Int)) = false := by rw [beq_eq_false_iff_ne]; omega
    have HE := hid he
    clear he
    go_wp2_with fail
    go_roundw
    case rel => exact ⟨k + 1, by omega, by go_num, by rw [HC.out, if_neg HE.out]; rfl, HBr.out.alloc HBr.out.size _⟩
    case measure => simp [intOf]; omega
  ·obtain rfl : k = n := by omega
   go_wp2_with fail
   go_ret
   exact ⟨by rw [List.take_of_length_le (by omega)]; rfl, HBr.out⟩
end
section
open Go.RowKit

namespace Gc
end Gc
namespace Gc
end Gc
end
section
open Go.RowKit

namespace Gc
end Gc
end
end Go.Proofs.YtcppkaphlcflgaaGreat
