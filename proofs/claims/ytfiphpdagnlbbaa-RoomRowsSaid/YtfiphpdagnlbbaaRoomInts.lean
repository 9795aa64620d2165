/-
  []int in this program: append and cuts, in the form that the walks take.
-/
import Derived.Test.YtfiphpdagnlbbaaRoomOwn
import Derived.Test.YtfiphpdagnlbbaaRows
namespace Go.Proofs.Ytfiphpdagnlbbaa
open Go.RowKit

section
variable {w : World} {ops : Array Oper} {rest : List Oper} {o : Oper} {ac : Act} {Q : Exit → Act → World → Prop}
theorem wp_appI {K : Act → World → Prop} (s x : Operand)
    (ho : o.op = .call { callee := .builtin .append, args := #[s, x], argTypes := #[32, 32] }) (base : Nat)
    (v : Value) (xs : List Int) (hs : ac.eval s = v) (hown : Own intV 3 w base v xs) (B : Nat) (a : Option Addr) (m c : Nat) (ys : List Int) (hx : ac.eval x = .slice a m c) (hy : Arr intV w B a m ys)
    (hbytes : xs.length + m ≤ 10000000) (hbase : base ≤ w.heap.size)
    (h : ∀ v' w', Own intV 3 w' base v' (xs ++ ys) → w.grownBy w' v.ownBlock → (v'.ownBlock = v.ownBlock ∨ v'.ownBlock = some w.heap.size) → K (ac.put o.dst v') w') : o.wp Try.prog ac w K Q := by
  obtain ⟨i0, hi, hz0, hz1, hz2⟩ := info_parts infoI
  exact wp_append_Own s x 32 ho base 3 i0 _ 8 Try.underlying32 hi hz0 hz1 hz2 rfl intV_one v xs hs hown B a m c ys hx hy (by omega) (by simp only [maxLen]; omega) hbase h
/-- append onto ints of the call's own, at a plain region's list. -/
theorem wpList_ontoI (hgd : o.guard = none) (s x : Operand)
    (ho : o.op = .call { callee := .builtin .append, args := #[s, x], argTypes := #[32, 32] }) (base : Nat)
    (v : Value) (xs : List Int) (hs : ac.eval s = v) (hown : Own intV 3 w base v xs) (B : Nat) (a : Option Addr) (m c : Nat) (ys : List Int) (hx : ac.eval x = .slice a m c) (hy : Arr intV w B a m ys)
    (hbytes : xs.length + m ≤ 10000000) (hbase : base ≤ w.heap.size)
    (h : ∀ v' w', Hid (Own intV 3 w' base v' (xs ++ ys)) → Hid (Below base w w') → wpList Try.prog ops Q rest (ac.put o.dst v') w') : wpList Try.prog ops Q (o :: rest) ac w :=
  wpList_plain hgd fun _ hK => wp_appI s x ho base v xs hs hown B a m c ys hx hy hbytes hbase fun v' w' h1 h2 _ => hK _ _ (h v' w' (Lib.hid h1) (Lib.hid (below_own (Below.refl base w) hown h2 hbase)))
/-- One number, appended. -/
theorem wpList_litI {cs : Array Value} (hgd : o.guard = none) (s x : Operand)
    (ho : o.op = .call { callee := .builtin .append, args := #[s, x], argTypes := #[32, 32] }) (base : Nat)
    (v : Value) (xs : List Int) (hs : ac.eval s = v) (hown : Own intV 3 w base v xs) (y : Int) (hx : ac.eval x = .slice (some ⟨w.heap.size, 0, none⟩) 1 1) (hcs : cs = #[.int .i64 y])
    (hbytes : xs.length ≤ 1000000) (hbase : base ≤ w.heap.size)
    (h : ∀ v' w', Hid (Own intV 3 w' base v' (xs ++ [y])) → Hid (Below base w w') → wpList Try.prog ops Q rest (ac.put o.dst v') w') : wpList Try.prog ops Q (o :: rest) ac (w.alloc (.cells cs 3)) :=
  wpList_ontoI hgd s x ho base v xs hs (hown.alloc _) _ _ 1 1 [y] hx (Arr.lit w 3 [y] 1 rfl (by omega) hcs) (by omega) (by simp; omega) fun v' w' h1 h2 =>
    h v' w' h1 (Lib.hid (((Below.refl base w).alloc hbase _).trans h2.out))
/-- append at a step of a region that draws its order. -/
theorem step_appI {K : Act → World → Prop} {E : Prop} (hgd : o.guard = none) (s x : Operand)
    (ho : o.op = .call { callee := .builtin .append, args := #[s, x], argTypes := #[32, 32] }) (base : Nat)
    (v : Value) (xs : List Int) (hs : ac.eval s = v) (hown : Own intV 3 w base v xs) (B : Nat) (ad : Option Addr) (m c : Nat) (ys : List Int) (hx : ac.eval x = .slice ad m c) (hy : Arr intV w B ad m ys)
    (hbytes : xs.length + m ≤ 10000000) (hbase : base ≤ w.heap.size)
    (h : ∀ v' w', Hid (Own intV 3 w' base v' (xs ++ ys)) → Hid (Below base w w') → K (ac.put o.dst v') w') :
    if Region.wanted o (yielded ops ac.tmps) = true then Oper.wp Try.prog o ac w K Q else E := by
  have hw : Region.wanted o (yielded ops ac.tmps) = true := by simp [Region.wanted, hgd]
  rw [if_pos hw]
  exact wp_appI s x ho base v xs hs hown B ad m c ys hx hy hbytes hbase fun v' w' h1 h2 _ => h v' w' (Lib.hid h1) (Lib.hid (below_own (Below.refl base w) hown h2 hbase))
/-- append onto nothing, at a step of a region that draws its order: old blocks are as they were. -/
theorem step_newI {K : Act → World → Prop} {E : Prop} (hgd : o.guard = none) (s x : Operand)
    (ho : o.op = .call { callee := .builtin .append, args := #[s, x], argTypes := #[32, 32] }) (base : Nat)
    (hs : ac.eval s = .slice none 0 0) (B : Nat) (ad : Option Addr) (m c : Nat) (ys : List Int) (hx : ac.eval x = .slice ad m c) (hy : Arr intV w B ad m ys)
    (hbytes : m ≤ 10000000) (hbase : base ≤ w.heap.size)
    (h : ∀ v' w', Hid (Own intV 3 w' base v' ys) → Hid (Below w.heap.size w w') → K (ac.put o.dst v') w') :
    if Region.wanted o (yielded ops ac.tmps) = true then Oper.wp Try.prog o ac w K Q else E := by
  have hw : Region.wanted o (yielded ops ac.tmps) = true := by simp [Region.wanted, hgd]
  rw [if_pos hw]
  refine wp_appI s x ho base _ [] hs (Own.nil _ _) B ad m c ys hx hy (by simp only [List.length_nil]; omega) hbase fun v' w' h1 h2 _ => h v' w' (Lib.hid ?_) (Lib.hid ⟨h2.os, h2.tape, h2.output, h2.size, fun k hk => h2.block k hk (by simp [Value.ownBlock])⟩)
  rw [List.nil_append] at h1
  exact h1
end
theorem cutI_from (a : Option Addr) (n c l : Nat) (hl : l ≤ n) (w : World) : (Instr.slice 32 (.slice a n c) (some (.int .i64 (l : Int))) none none).run Try.prog w = .ok (.slice (cutA a c l) (n - l) (c - l)) w := by
  obtain ⟨i0, hi, hz0, hz1, hz2⟩ := info_parts infoI
  exact run_cut_from Try.underlying32 hi hz1 a n c l hl w
theorem cutI_to (a : Option Addr) (n c h : Nat) (hl : h ≤ c) (w : World) : (Instr.slice 32 (.slice a n c) none (some (.int .i64 (h : Int))) none).run Try.prog w = .ok (.slice a h c) w := by
  obtain ⟨i0, hi, hz0, hz1, hz2⟩ := info_parts infoI
  exact run_cut_to Try.underlying32 hi a n c h hl w
/-- A slice of numbers, one number of it. -/
theorem Arr.atI {w : World} {B : Nat} {a : Option Addr} {n : Nat} {xs : List Int} (h : Arr intV w B a n xs) {k : Nat} (hk : k < n) :
    ∃ b o, ∃ h' : k < xs.length, a = some ⟨b, o, none⟩ ∧ b < B ∧ w.cell? ⟨b, o + k, none⟩ = some (.int .i64 xs[k]) := h.atv hk
end Go.Proofs.Ytfiphpdagnlbbaa
