/-
  []int in this program: append, in the form that the walks take.
-/
import Derived.Test.YtkkkggeagjgbeaaRows
import Derived.Test.YtkkkggeagjgbeaaMem
namespace Go.Proofs.Ytkkkggeagjgbeaa
open Go.RowKit

theorem infoI : (Try.prog.info? 3).map (fun i => (i.zero, i.size, i.bytes)) = some (some (.int .i64 0), 1, 8) := by kernel_rfl
/-- A literal's elements, appended to a slice of ints of the call's own. -/
theorem wpList_litI {w : World} {cs : Array Value} {ops : Array Oper} {rest : List Oper} {o : Oper} {ac : Act} {Q : Exit → Act → World → Prop} (hgd : o.guard = none) (s x : Operand)
    (ho : o.op = .call { callee := .builtin .append, args := #[s, x], argTypes := #[34, 34] }) (base : Nat)
    (v : Value) (xs : List Int) (hs : ac.eval s = v) (hown : Own intV 3 w base v xs) (m : Nat) (ys : List Int) (hx : ac.eval x = .slice (some ⟨w.heap.size, 0, none⟩) m m) (hm : ys.length = m) (hcs : cs = (ys.map intV).toArray)
    (hbytes : (xs.length + m) * 8 ≤ 140737488351232) (hbase : base ≤ w.heap.size)
    (h : ∀ v' w', Hid (Own intV 3 w' base v' (xs ++ ys)) → Hid (Below base w w') → wpList Try.prog ops Q rest (ac.put o.dst v') w') : wpList Try.prog ops Q (o :: rest) ac (w.alloc (.cells cs 3)) := by
  obtain ⟨i0, hi, hz0, hz1, hz2⟩ := info_parts infoI
  exact wpList_append_Own hgd s x 34 ho base 3 i0 _ 8 Try.underlying34 hi hz0 hz1 hz2 rfl intV_one v xs hs (hown.alloc _) _ _ m m ys hx (Arr.lit w 3 ys m hm (by omega) hcs) (by omega) (by simp only [maxLen]; omega) (by simp; omega) fun v' w' h1 h2 _ =>
    h v' w' (Lib.hid h1) (Lib.hid (((Below.refl base w).alloc hbase _).trans (below_own (Below.refl base _) (hown.alloc _) h2 (by simp; omega))))
end Go.Proofs.Ytkkkggeagjgbeaa
