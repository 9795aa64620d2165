/-
  strings.Cut at a slash.
-/
import Derived.Test.YtlnjfnpoabcllaaStrs
import Derived.Test.YtlnjfnpoabcllaaPathCutM
import Derived.Laws.Externs
import Derived.Deep.QuietTactic
import Derived.BigQuiet
namespace Go.Proofs.Ytlnjfnpoabcllaa
open Go.RowKit

set_option maxRecDepth 100000 in
theorem indexByte_calls (l : List UInt8) (w : World) :
    Calls Try.prog 52 #[.string (strL l), .int .u8 47] w fun e w' => e = .returned (.int .i64 (Lib.indexByte l 47)) ∧ w = w' := by
  go_enter Try.func52, Try.ntmps52
  go_wp2
  rw [run_callFunc_extern Try.func56 (by kernel_rfl) (by kernel_rfl) (by kernel_rfl) (e := Extern.BytealgIndexByte.indexByte) (by kernel_rfl), Lib.run_indexByteString]
  simp only [Result.andThen]
  rw [Oper.upon_value]
  go_wp2
  go_ret
  exact ⟨rfl, rfl⟩
set_option maxHeartbeats 2000000 in
set_option maxRecDepth 100000 in
theorem index_calls (l : List UInt8) (w : World) :
    Calls Try.prog 51 #[.string (strL l), .string ⟨#[47]⟩] w fun e w' => e = .returned (.int .i64 (Lib.indexByte l 47)) ∧ w = w' := by
  have hc := Lib.hid (indexByte_calls l w)
  by_cases h : l = [47]
  · have g : ([47] == l) = true := by rw [h]; rfl
    have hv : Lib.indexByte l 47 = 0 := by rw [h]; rfl
    rw [hv]
    clear h hv
    go_enter Try.func51, Try.ntmps51
    go_wp2_with (go_at_call 52; refine hc.out.mono ?_; rintro e w' ⟨rfl, rfl⟩)
    go_ret
    exact ⟨rfl, rfl⟩
  · have g : ([47] == l) = false := by rw [beq_eq_false_iff_ne]; exact fun e => h e.symm
    clear h
    go_enter Try.func51, Try.ntmps51
    go_wp2_with (go_at_call 52; refine hc.out.mono ?_; rintro e w' ⟨rfl, rfl⟩)
    go_ret
    exact ⟨rfl, rfl⟩
theorem strL_cut (l : List UInt8) (a b : Nat) : (strL l).extract a b = strL ((l.drop a).take (b - a)) := by
  apply ByteArray.ext
  rw [ByteArray.data_extract]
  simp [strL]
set_option maxHeartbeats 1000000 in
theorem cut0_calls (l : List UInt8) (w : World) (hl : l.length ≤ 140737488351232) :
    Calls Try.prog 48 #[.string (strL l), .string ⟨#[47]⟩] w fun e w' => (∃ b, e = .returned (.tuple #[.string (strL (Pth.ahead l)), .string (strL (Pth.behind l)), .bool b])) ∧ Below w.heap.size w w' := by
  have hc := Lib.hid (index_calls l w)
  rw [Pth.index_ahead] at hc
  have hle := Pth.ahead_le l
  by_cases h : (Pth.ahead l).length < l.length
  · rw [if_pos h] at hc
    have HA := Lib.hid (Pth.ahead_take l)
    have HB := Lib.hid (show Pth.behind l = l.drop ((Pth.ahead l).length + 1) from rfl)
    generalize Pth.behind l = B at *
    generalize hn : (Pth.ahead l).length = n at *
    clear hn
    have w1 : IntKind.i64.wrap ((n : Int) + 1) = (n : Int) + 1 := IntWalk.i64_in _ ⟨by omega, by omega⟩
    have w2 : ((n : Int) + 1).toNat = n + 1 := by omega
    have w3 : (0 : Int) ≤ (n : Int) + 1 := by omega
    have w4 : (n : Int) + 1 ≤ (l.length : Int) := by omega
    have w5 : (n : Int) ≤ (l.length : Int) := by omega
    go_enter Try.func48, Try.ntmps48
    go_wp2_with (go_at_call 51; refine hc.out.mono ?_; rintro e w' ⟨rfl, rfl⟩)
    go_quiet (fail)
    go_wp2
    go_ret3
    refine ⟨⟨true, ?_⟩, ⟨rfl, rfl, rfl, Nat.le_refl _, fun _ _ => rfl⟩⟩
    have e1 : (strL l).extract 0 n = strL (Pth.ahead l) := by rw [strL_cut, ← HA.out]; rfl
    have e2 : (strL l).extract (n + 1) l.length = strL B := by rw [strL_cut, HB.out, List.take_of_length_le (by simp)]
    rw [← e1, ← e2]
    rfl
  · rw [if_neg h] at hc
    have HA := Lib.hid (Pth.ahead_whole l h)
    have HB := Lib.hid (Pth.behind_none l h)
    clear h hle
    go_enter Try.func48, Try.ntmps48
    go_wp2_with (go_at_call 51; refine hc.out.mono ?_; rintro e w' ⟨rfl, rfl⟩)
    go_ret3
    rw [HA.out, HB.out]
    exact ⟨⟨false, rfl⟩, Below.refl _ _⟩
theorem cut_calls (l : List UInt8) (w : World) (hl : l.length ≤ 140737488351232) :
    Calls Try.prog 38 #[.string (strL l), .string ⟨#[47]⟩] w fun e w' => (∃ b, e = .returned (.tuple #[.string (strL (Pth.ahead l)), .string (strL (Pth.behind l)), .bool b])) ∧ Below w.heap.size w w' := by
  go_enter Try.func38, Try.ntmps38
  go_wp2_with fail
  refine (cut0_calls l w hl).mono ?_
  rintro e w1 ⟨⟨b, rfl⟩, hb⟩
  have HB := Lib.hid hb
  clear hb
  go_wp2
  go_ret3
  exact ⟨⟨b, rfl⟩, HB.out⟩
end Go.Proofs.Ytlnjfnpoabcllaa
