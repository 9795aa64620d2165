/-
  The reference's marks: arrays of 256 truths.
-/
import Derived.Test.YtlnjfnpoabcllaaGlbMk
import Derived.Test.YtlnjfnpoabcllaaMany
namespace Go.Proofs.Ytlnjfnpoabcllaa
open Go.RowKit

def stL (f : Nat → Bool) : List Value := (List.range 256).map fun i => Value.bool (f i)
def stA (f : Nat → Bool) : Array Value := (stL f).toArray
theorem stL_len (f : Nat → Bool) : (stL f).length = 256 := by simp [stL]
theorem stA_at (f : Nat → Bool) (i : Nat) (h : i < 256) : (stA f)[i]? = some (.bool (f i)) := by simp [stA, stL, h]
theorem stA_set (f : Nat → Bool) (k : Nat) (x : Bool) : (stA f).setIfInBounds k (.bool x) = stA (fun i => if i = k then x else f i) := by
  simp only [stA, stL, List.setIfInBounds_toArray]
  congr 1
  apply List.ext_getElem (by simp)
  intro i h1 h2
  rw [List.getElem_set]
  simp only [List.getElem_map, List.getElem_range]
  by_cases h : k = i
  · rw [if_pos h, if_pos h.symm]
  · rw [if_neg h, if_neg (fun e => h (Eq.symm e))]
theorem stA_congr {f g : Nat → Bool} (h : ∀ i, i < 256 → f i = g i) : stA f = stA g := by
  unfold stA stL
  congr 1
  apply List.map_congr_left
  intro i hi
  rw [h i (List.mem_range.1 hi)]
theorem stA_one (f : Nat → Bool) : (stA f).all (·.oneCell') = true := by
  rw [Array.all_eq_true_iff_forall_mem]
  intro v hv
  simp only [stA, stL, List.mem_toArray, List.mem_map] at hv
  obtain ⟨i, _, rfl⟩ := hv
  rfl
/-- The document's mark. -/
structure Rm where
  many : Bool
  st : Nat → Bool
def rmL (m : Rm) : List Value := .bool m.many :: stL m.st
def rmA (m : Rm) : Array Value := (rmL m).toArray
set_option maxRecDepth 100000 in
theorem zero83 (w : World) : (zeroValue 83).run Try.prog w = .ok (.agg (stA fun _ => false)) w := by kernel_rfl
set_option maxRecDepth 100000 in
theorem zero85 (w : World) : (zeroValue 85).run Try.prog w = .ok (.agg (rmA ⟨false, fun _ => false⟩)) w := by kernel_rfl
theorem stA_size (f : Nat → Bool) : (stA f).size = 256 := by simp [stA, stL]
attribute [local go_sem] zero83 zero85 stA_size
theorem Blk.two (w : World) (t t' : TypeId) (cs cs' : Array Value) : Blk ((w.alloc (.cells cs t)).alloc (.cells cs' t')) (w.heap.size + 1) t' cs' := by
  have := Blk.new (w.alloc (.cells cs t)) t' cs'
  rw [World.size_alloc] at this
  exact this
set_option maxRecDepth 100000 in
set_option maxHeartbeats 4000000 in
theorem all_calls (w : World) :
    Calls Try.prog 44 #[] w fun e w' => e = .returned (.agg (stA fun _ => true)) ∧ Below w.heap.size w w' := by
  go_enter Try.func44, Try.ntmps44
  have H0 := Lib.hid (((Blk.new w 83 (stA fun _ => false)).alloc (.cells (stA fun _ => false) 83)).rowFar (g' := w.heap.size + 1) (by omega) (stA fun _ => false))
  have H1 := Lib.hid (Blk.two w 83 83 (stA fun _ => false) (stA fun _ => false))
  have HB := Lib.hid ((((Below.refl w.heap.size w).alloc (Nat.le_refl _) (.cells (stA fun _ => false) 83)).alloc (by simp) (.cells (stA fun _ => false) 83)).setRow_ (show w.heap.size ≤ w.heap.size + 1 by omega) (stA fun _ => false))
  go_wp2_with (refine wpList_store_blk rfl rfl _ _ _ rfl (w.heap.size + 1) _ rfl rfl 83 (stA fun _ => false) H1.out rfl (by rw [stA_size]; kernel_rfl) (stA_one _) ?_)
  have H2 := Lib.hid (H1.out.row (stA fun _ => false))
  generalize World.setRow _ (w.heap.size + 1) (stA fun _ => false) = w1 at *
  clear H1
  go_loopw [2] (fun i wr => ∃ k : Nat, k ≤ 256 ∧ i = .int .i64 k ∧ Blk wr w.heap.size 83 (stA fun _ => false) ∧ Blk wr (w.heap.size + 1) 83 (stA fun i => decide (i < k)) ∧ Below w.heap.size w wr) (fun i _ => 256 - (intOf i).toNat)
  case atStart => exact ⟨0, by omega, rfl, H0.out, by simpa using H2.out, HB.out⟩
  case round =>
    obtain ⟨k, hk, rfl, h0, h1, hb⟩ := hrel
    have HH0 := Lib.hid h0
    have HH1 := Lib.hid h1
    have HHB := Lib.hid hb
    clear h0 h1 hb H0 H2 HB
    by_cases hlt : k < 256
    · have hf := HH1.out.frozen k
      have hc := HH1.out.cellv (stA_at _ k hlt)
      go_wp2
      go_roundw
      case rel =>
        refine ⟨k + 1, by omega, by go_num, HH0.out.far (by simp) _, ?_, HHB.out.setCell (by simp) _⟩
        have h3 := HH1.out.set k (.bool true)
        rw [stA_set] at h3
        have e : (stA fun i => if i = k then true else decide (i < k)) = stA fun i => decide (i < k + 1) := by
          refine stA_congr fun i _ => ?_
          by_cases hik : i = k
          · subst hik; simp
          · rw [if_neg hik]
            by_cases hl : i < k
            · rw [decide_eq_true hl, decide_eq_true (by omega)]
            · rw [decide_eq_false hl, decide_eq_false (by omega)]
        rw [e] at h3
        exact h3
      case measure => simp [intOf]; omega
    · obtain rfl : k = 256 := by omega
      have e : (stA fun i => decide (i < 256)) = stA fun _ => true := stA_congr fun i hi => decide_eq_true hi
      rw [e] at HH1
      clear e
      go_wp2_with (first | refine wpList_load_blk rfl _ _ rfl (w.heap.size + 1) rfl 83 (stA fun _ => true) _ HH1.out Try.underlying83 rfl (by rw [stA_size]; kernel_rfl) ?_ | refine wpList_store_blk rfl rfl _ _ _ rfl w.heap.size _ rfl rfl 83 (stA fun _ => false) HH0.out rfl (by rw [stA_size]; kernel_rfl) (stA_one _) ?_)
      refine bodyPost_ret (results_cell_row rfl _ _ w.heap.size _ _ _ _ rfl (HH0.out.row _) Try.underlying83 rfl (by rw [stA_size]; kernel_rfl)) rfl ⟨rfl, HHB.out.setRow_ (Nat.le_refl _) _⟩
end Go.Proofs.Ytlnjfnpoabcllaa
