import Derived.Test.YtcppkaphlcflgaaGreatSlClone
import Derived.Test.YtcppkaphlcflgaaGreatInoPtsM
import Derived.Laws.BytesArg
import Derived.Laws.BytesString
import Derived.Lib.SlicesS
namespace Go.Proofs.YtcppkaphlcflgaaGreat
open Go.RowKit Go

theorem convB {w : World} {B : Nat} {a : Option Addr} {n c : Nat} {xs : List UInt8} (hx : Bytes w B a n xs) :
  (convert 40 9 (.slice a n c)).run Tryz.prog w = .ok (.string (strL xs)) w := by
 have hl := hx.len
 by_cases hn : n = 0
 ·subst hn
  obtain rfl : xs = [] := List.eq_nil_of_length_eq_zero hl
  rw [run_convert_bytes_string w _ _ _ a 0 c Tryz.underlying40 Tryz.underlying5 Tryz.underlying9]
  cases a with
  | none => rfl
  | some a =>
   have h := run_loadCells_list (P := Tryz.prog) w a [] (fun j v hj => by simp at hj)
   exact run_bytesToString w a 0 c [] h
 ·obtain ⟨b, o, _, rfl, _, _⟩ := hx.at_ (k := 0) (by omega)
  have h := run_convert_bytes_arg (P := Tryz.prog) w 40 5 Tryz.underlying40 Tryz.underlying5 b o n c (xs.map fun x => (x.toNat : Int)) (by simp [hl])
   (fun i hi => by
    obtain ⟨b', o', hi', hb, _, hc⟩ := hx.at_ hi
    simp only [Option.some.injEq, Addr.mk.injEq, and_true] at hb
    obtain ⟨rfl, rfl⟩ := hb
    rw [hc]
    simp [List.getD, hi']) 9 Tryz.underlying9
  have e : (xs.map fun x => (x.toNat : Int)).map (fun n => UInt8.ofNat n.toNat) = xs := by
   rw [List.map_map]
   conv => rhs; rw [← List.map_id xs]
   apply List.map_congr_left
   intro x _
   simp
  have e2 : strOfNums (xs.map fun x => (x.toNat : Int)) = strL xs := by
   unfold strOfNums strL
   rw [e]
  rw [e2] at h
  exact h
theorem strL_beq (xs ys : List UInt8) : ((strL xs).toList == (strL ys).toList) = decide (xs = ys) := by
 by_cases h : xs = ys
 ·rw [h]; simp
 ·rw [decide_eq_false h]
  exact (Lib.bytes_beq_false_iff _ _).2 (fun e => h (strL_inj e))
theorem same_calls (a b : Option Addr) (n c m d : Nat) (xs ys : List UInt8) (w : World) (hx : Bytes w w.heap.size a n xs) (hy : Bytes w w.heap.size b m ys) :
  Calls Tryz.prog 13 #[.slice a n c, .slice b m d] w fun e w' => e = .returned (.bool (decide (xs = ys))) ∧ w = w' := by
 have h1 := convB (c := c) hx
 have h2 := convB (c := d) hy
 go_enter Tryz.func13, Tryz.ntmps13
 go_wp2_with fail
 rw [strL_beq]
 go_ret
 exact ⟨rfl, rfl⟩
theorem same_yes (a b : Option Addr) (n c m d : Nat) (xs : List UInt8) (w : World) (hx : Bytes w w.heap.size a n xs) (hy : Bytes w w.heap.size b m xs) :
  Calls Tryz.prog 13 #[.slice a n c, .slice b m d] w fun e w' => e = .returned (.bool true) ∧ w = w' := by
 refine (same_calls a b n c m d xs xs w hx hy).mono ?_
 rintro e w' ⟨rfl, rfl⟩
 exact ⟨by simp, rfl⟩
end Go.Proofs.YtcppkaphlcflgaaGreat
