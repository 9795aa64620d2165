/-
  append at spans, marks and parts.
-/
import Derived.Test.YtlnjfnpoabcllaaGlbMem
import Derived.Test.YtlnjfnpoabcllaaStr
import Derived.Test.YtlnjfnpoabcllaaPathCut
namespace Go.Proofs.Ytlnjfnpoabcllaa
open Go.RowKit

theorem infoSpan : (Try.prog.info? 91).map (fun i => (i.zero, i.size, i.bytes)) = some (some (.agg #[.int .u8 0, .int .u8 0]), 2, 2) := by kernel_rfl
theorem infoMark : (Try.prog.info? 74).map (fun i => (i.zero, i.size, i.bytes)) = some (some (.agg #[.int .i64 0, .int .u8 0, .bool false, .slice none 0 0]), 4, 40) := by kernel_rfl
theorem infoPart : (Try.prog.info? 48).map (fun i => (i.zero, i.size, i.bytes)) = some (some (.agg #[.bool false, .slice none 0 0]), 2, 32) := by kernel_rfl
/-- A part as its two cells. -/
structure Pv where
  all : Bool
  a : Option Addr
  n : Nat
  cp : Nat
def pvC (x : Pv) : List Value := [.bool x.all, .slice x.a x.n x.cp]
theorem span_one : ∀ (x : UInt8 × UInt8), ∀ u ∈ spanC x, u.oneCell' = true := fun x u hu => by
  simp only [spanC, List.mem_cons, List.not_mem_nil, or_false] at hu
  rcases hu with rfl | rfl <;> rfl
theorem mark_one : ∀ (x : Mv), ∀ u ∈ mvC x, u.oneCell' = true := fun x u hu => by
  simp only [mvC, List.mem_cons, List.not_mem_nil, or_false] at hu
  rcases hu with rfl | rfl | rfl | rfl <;> rfl
theorem part_one : ∀ (x : Pv), ∀ u ∈ pvC x, u.oneCell' = true := fun x u hu => by
  simp only [pvC, List.mem_cons, List.not_mem_nil, or_false] at hu
  rcases hu with rfl | rfl <;> rfl
section
variable {w : World} {ops : Array Oper} {rest : List Oper} {o : Oper} {ac : Act} {Q : Exit → Act → World → Prop} {cs : Array Value}
theorem wpList_litSpan (hgd : o.guard = none) (s x : Operand) (ho : o.op = .call { callee := .builtin .append, args := #[s, x], argTypes := #[72, 72] }) (base : Nat)
    (v : Value) (xs : List (UInt8 × UInt8)) (hs : ac.eval s = v) (hown : OwnM 2 spanC 91 w base v xs) (y : UInt8 × UInt8) (g : Nat) (hx : ac.eval x = .slice (some ⟨g, 0, none⟩) 1 1) (hg : g = w.heap.size) (hcs : cs = (spanC y).toArray)
    (hbytes : xs.length ≤ 900000000) (hbase : base ≤ w.heap.size)
    (h : ∀ v' w', Hid (OwnM 2 spanC 91 w' base v' (xs ++ [y])) → Hid (Below base w w') → wpList Try.prog ops Q rest (ac.put o.dst v') w') : wpList Try.prog ops Q (o :: rest) ac (w.alloc (.cells cs 91)) := by
  subst hg
  obtain ⟨i0, hi, hz0, hz1, hz2⟩ := info_parts infoSpan
  have hb2 : base ≤ (w.alloc (.cells cs 91)).heap.size := by simp; omega
  exact wpList_append_OwnM hgd s x 72 ho base 91 i0 _ 2 Try.underlying72 hi hz0 hz1 hz2 rfl (by decide) span_one v xs hs (hown.alloc _) _ _ 1 1 [y] hx (ArrM.lit1 w 91 y hcs) (by omega) (by simp only [maxLen]; omega) hb2 fun v' w' h1 h2 _ =>
    h v' w' (Lib.hid h1) (Lib.hid (((Below.refl base w).alloc hbase _).trans (below_ownM (Below.refl base _) (hown.alloc _) h2 hb2)))
theorem wpList_litMark (hgd : o.guard = none) (s x : Operand) (ho : o.op = .call { callee := .builtin .append, args := #[s, x], argTypes := #[46, 46] }) (base : Nat)
    (v : Value) (xs : List Mv) (hs : ac.eval s = v) (hown : OwnM 4 mvC 74 w base v xs) (y : Mv) (g : Nat) (hx : ac.eval x = .slice (some ⟨g, 0, none⟩) 1 1) (hg : g = w.heap.size) (hcs : cs = (mvC y).toArray)
    (hbytes : xs.length ≤ 900000000) (hbase : base ≤ w.heap.size)
    (h : ∀ v' w', Hid (OwnM 4 mvC 74 w' base v' (xs ++ [y])) → Hid (w.grownBy w' v.ownBlock) → Hid (v'.ownBlock = v.ownBlock ∨ ∃ k, v'.ownBlock = some k ∧ w.heap.size ≤ k) → wpList Try.prog ops Q rest (ac.put o.dst v') w') : wpList Try.prog ops Q (o :: rest) ac (w.alloc (.cells cs 74)) := by
  subst hg
  obtain ⟨i0, hi, hz0, hz1, hz2⟩ := info_parts infoMark
  have hb2 : base ≤ (w.alloc (.cells cs 74)).heap.size := by simp; omega
  exact wpList_append_OwnM hgd s x 46 ho base 74 i0 _ 40 Try.underlying46 hi hz0 hz1 hz2 rfl (by decide) mark_one v xs hs (hown.alloc _) _ _ 1 1 [y] hx (ArrM.lit1 w 74 y hcs) (by omega) (by simp only [maxLen]; omega) hb2 fun v' w' h1 h2 h3 =>
    h v' w' (Lib.hid h1) (Lib.hid ⟨h2.os, h2.tape, h2.output, Nat.le_trans (by simp) h2.size, fun i hi hr => (h2.block i (by simp; omega) hr).trans (Below.heap_alloc w _ i hi)⟩) (Lib.hid (h3.imp id fun h => ⟨_, h, by simp⟩))
theorem wpList_litPart (hgd : o.guard = none) (s x : Operand) (ho : o.op = .call { callee := .builtin .append, args := #[s, x], argTypes := #[43, 43] }) (base : Nat)
    (v : Value) (xs : List Pv) (hs : ac.eval s = v) (hown : OwnM 2 pvC 48 w base v xs) (y : Pv) (g : Nat) (hx : ac.eval x = .slice (some ⟨g, 0, none⟩) 1 1) (hg : g = w.heap.size) (hcs : cs = (pvC y).toArray)
    (hbytes : xs.length ≤ 900000000) (hbase : base ≤ w.heap.size)
    (h : ∀ v' w', Hid (OwnM 2 pvC 48 w' base v' (xs ++ [y])) → Hid (w.grownBy w' v.ownBlock) → Hid (v'.ownBlock = v.ownBlock ∨ ∃ k, v'.ownBlock = some k ∧ w.heap.size ≤ k) → wpList Try.prog ops Q rest (ac.put o.dst v') w') : wpList Try.prog ops Q (o :: rest) ac (w.alloc (.cells cs 48)) := by
  subst hg
  obtain ⟨i0, hi, hz0, hz1, hz2⟩ := info_parts infoPart
  have hb2 : base ≤ (w.alloc (.cells cs 48)).heap.size := by simp; omega
  exact wpList_append_OwnM hgd s x 43 ho base 48 i0 _ 32 Try.underlying43 hi hz0 hz1 hz2 rfl (by decide) part_one v xs hs (hown.alloc _) _ _ 1 1 [y] hx (ArrM.lit1 w 48 y hcs) (by omega) (by simp only [maxLen]; omega) hb2 fun v' w' h1 h2 h3 =>
    h v' w' (Lib.hid h1) (Lib.hid ⟨h2.os, h2.tape, h2.output, Nat.le_trans (by simp) h2.size, fun i hi hr => (h2.block i (by simp; omega) hr).trans (Below.heap_alloc w _ i hi)⟩) (Lib.hid (h3.imp id fun h => ⟨_, h, by simp⟩))
theorem step_litSpan {K : Act → World → Prop} {E : Prop} (hgd : o.guard = none) (s x : Operand) (ho : o.op = .call { callee := .builtin .append, args := #[s, x], argTypes := #[72, 72] }) (base : Nat)
    (v : Value) (xs : List (UInt8 × UInt8)) (hs : ac.eval s = v) (hown : OwnM 2 spanC 91 w base v xs) (y : UInt8 × UInt8) (g : Nat) (hx : ac.eval x = .slice (some ⟨g, 0, none⟩) 1 1) (hg : g = w.heap.size) (hcs : cs = (spanC y).toArray)
    (hbytes : xs.length ≤ 900000000) (hbase : base ≤ w.heap.size)
    (h : ∀ v' w', Hid (OwnM 2 spanC 91 w' base v' (xs ++ [y])) → Hid (Below base w w') → K (ac.put o.dst v') w') : if Region.wanted o (yielded ops ac.tmps) = true then Oper.wp Try.prog o ac (w.alloc (.cells cs 91)) K Q else E := by
  have hw : Region.wanted o (yielded ops ac.tmps) = true := by simp [Region.wanted, hgd]
  rw [if_pos hw]
  subst hg
  obtain ⟨i0, hi, hz0, hz1, hz2⟩ := info_parts infoSpan
  have hb2 : base ≤ (w.alloc (.cells cs 91)).heap.size := by simp; omega
  exact wp_append_OwnM s x 72 ho base 91 i0 _ 2 Try.underlying72 hi hz0 hz1 hz2 rfl (by decide) span_one v xs hs (hown.alloc _) _ _ 1 1 [y] hx (ArrM.lit1 w 91 y hcs) (by omega) (by simp only [maxLen]; omega) hb2 fun v' w' h1 h2 _ =>
    h v' w' (Lib.hid h1) (Lib.hid (((Below.refl base w).alloc hbase _).trans (below_ownM (Below.refl base _) (hown.alloc _) h2 hb2)))
theorem step_litMark {K : Act → World → Prop} {E : Prop} (hgd : o.guard = none) (s x : Operand) (ho : o.op = .call { callee := .builtin .append, args := #[s, x], argTypes := #[46, 46] }) (base : Nat)
    (v : Value) (xs : List Mv) (hs : ac.eval s = v) (hown : OwnM 4 mvC 74 w base v xs) (y : Mv) (g : Nat) (hx : ac.eval x = .slice (some ⟨g, 0, none⟩) 1 1) (hg : g = w.heap.size) (hcs : cs = (mvC y).toArray)
    (hbytes : xs.length ≤ 900000000) (hbase : base ≤ w.heap.size)
    (h : ∀ v' w', Hid (OwnM 4 mvC 74 w' base v' (xs ++ [y])) → Hid (w.grownBy w' v.ownBlock) → Hid (v'.ownBlock = v.ownBlock ∨ ∃ k, v'.ownBlock = some k ∧ w.heap.size ≤ k) → K (ac.put o.dst v') w') : if Region.wanted o (yielded ops ac.tmps) = true then Oper.wp Try.prog o ac (w.alloc (.cells cs 74)) K Q else E := by
  have hw : Region.wanted o (yielded ops ac.tmps) = true := by simp [Region.wanted, hgd]
  rw [if_pos hw]
  subst hg
  obtain ⟨i0, hi, hz0, hz1, hz2⟩ := info_parts infoMark
  have hb2 : base ≤ (w.alloc (.cells cs 74)).heap.size := by simp; omega
  exact wp_append_OwnM s x 46 ho base 74 i0 _ 40 Try.underlying46 hi hz0 hz1 hz2 rfl (by decide) mark_one v xs hs (hown.alloc _) _ _ 1 1 [y] hx (ArrM.lit1 w 74 y hcs) (by omega) (by simp only [maxLen]; omega) hb2 fun v' w' h1 h2 h3 =>
    h v' w' (Lib.hid h1) (Lib.hid ⟨h2.os, h2.tape, h2.output, Nat.le_trans (by simp) h2.size, fun i hi hr => (h2.block i (by simp; omega) hr).trans (Below.heap_alloc w _ i hi)⟩) (Lib.hid (h3.imp id fun h => ⟨_, h, by simp⟩))
theorem step_litPart {K : Act → World → Prop} {E : Prop} (hgd : o.guard = none) (s x : Operand) (ho : o.op = .call { callee := .builtin .append, args := #[s, x], argTypes := #[43, 43] }) (base : Nat)
    (v : Value) (xs : List Pv) (hs : ac.eval s = v) (hown : OwnM 2 pvC 48 w base v xs) (y : Pv) (g : Nat) (hx : ac.eval x = .slice (some ⟨g, 0, none⟩) 1 1) (hg : g = w.heap.size) (hcs : cs = (pvC y).toArray)
    (hbytes : xs.length ≤ 900000000) (hbase : base ≤ w.heap.size)
    (h : ∀ v' w', Hid (OwnM 2 pvC 48 w' base v' (xs ++ [y])) → Hid (w.grownBy w' v.ownBlock) → Hid (v'.ownBlock = v.ownBlock ∨ ∃ k, v'.ownBlock = some k ∧ w.heap.size ≤ k) → K (ac.put o.dst v') w') : if Region.wanted o (yielded ops ac.tmps) = true then Oper.wp Try.prog o ac (w.alloc (.cells cs 48)) K Q else E := by
  have hw : Region.wanted o (yielded ops ac.tmps) = true := by simp [Region.wanted, hgd]
  rw [if_pos hw]
  subst hg
  obtain ⟨i0, hi, hz0, hz1, hz2⟩ := info_parts infoPart
  have hb2 : base ≤ (w.alloc (.cells cs 48)).heap.size := by simp; omega
  exact wp_append_OwnM s x 43 ho base 48 i0 _ 32 Try.underlying43 hi hz0 hz1 hz2 rfl (by decide) part_one v xs hs (hown.alloc _) _ _ 1 1 [y] hx (ArrM.lit1 w 48 y hcs) (by omega) (by simp only [maxLen]; omega) hb2 fun v' w' h1 h2 h3 =>
    h v' w' (Lib.hid h1) (Lib.hid ⟨h2.os, h2.tape, h2.output, Nat.le_trans (by simp) h2.size, fun i hi hr => (h2.block i (by simp; omega) hr).trans (Below.heap_alloc w _ i hi)⟩) (Lib.hid (h3.imp id fun h => ⟨_, h, by simp⟩))
end
end Go.Proofs.Ytlnjfnpoabcllaa
