/-
  slices.Clone at bytes: a slice of the call's own with the same bytes.
-/
import Derived.Test.YtiipnpfaaghekaaGreatBytes
import Derived.Lib.SliceRun
namespace Go.Proofs.YtiipnpfaaghekaaGreat
open Go.RowKit

theorem clone_calls (a : Option Addr) (n c : Nat) (xs : List UInt8) (w : World) (hx : Bytes w w.heap.size a n xs) :
    Calls Tryz.prog 28 #[.slice a n c] w fun e w' => (∃ v, e = .returned v ∧ Own byteV 5 w' w.heap.size v xs) ∧ Below w.heap.size w w' := by
  have HX := Lib.hid hx
  have hroom := hx.room
  have hnil := fun w => Lib.run_eql_slice_nil (P := Tryz.prog) w 22 5 a n c 0 0 Tryz.underlying22
  cases a with
  | none =>
    have hn : xs = [] := by
      have hl := hx.len
      by_cases h0 : n = 0
      · subst h0; exact List.eq_nil_of_length_eq_zero hl
      · obtain ⟨b, o, _, ha, _⟩ := hx.atv (k := 0) (by omega); cases ha
    subst hn
    simp only [Option.isNone_none] at hnil
    clear hx
    go_enter Tryz.func28, Tryz.ntmps28
    go_wp2
    go_ret
    exact ⟨⟨_, rfl, Own.nil _ _⟩, Below.refl _ _⟩
  | some p =>
    simp only [Option.isNone_some] at hnil
    have ho := Lib.hid (Own.made (f := byteV) (e := 5) (w := w) (base := w.heap.size) (xs := ([] : List UInt8)) (Nat.le_refl _) (by simp))
    have hx1 := Lib.hid (HX.out.alloc (.cells #[] 5))
    have hb1 := Lib.hid ((Below.refl w.heap.size w).alloc (Nat.le_refl _) (.cells #[] 5))
    clear hx
    go_enter Tryz.func28, Tryz.ntmps28
    go_wp2_with (at_builtin; refine wpList_ontoB rfl _ _ rfl w.heap.size _ [] rfl ho.out _ _ n _ xs rfl hx1.out (by simp only [List.length_nil]; omega) (by simp) ?_; intro v1 w1 HO1 hb2)
    go_ret
    refine ⟨⟨_, rfl, ?_⟩, hb1.out.trans hb2.out⟩
    have h := HO1.out
    rw [List.nil_append] at h
    exact h
end Go.Proofs.YtiipnpfaaghekaaGreat
