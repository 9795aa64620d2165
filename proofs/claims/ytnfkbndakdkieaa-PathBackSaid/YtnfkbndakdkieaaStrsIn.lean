/-
  append of a string, in a round.
-/
import Derived.Test.YtnfkbndakdkieaaStrs
import Derived.Test.YtnfkbndakdkieaaIterOwn
namespace Go.Proofs.Ytnfkbndakdkieaa
open Go.RowKit

theorem wpListIn_litS {F : Fence} {fuel : Nat} {w : World} {ops : Array Oper} {rest : List Oper} {o : Oper} {ac : Act} {Q : Exit → Act → World → Prop} {cs : Array Value} (hgd : o.guard = none) (s x : Operand)
    (ho : o.op = .call { callee := .builtin .append, args := #[s, x], argTypes := #[24, 24] }) (base : Nat)
    (v : Value) (xs : List (List UInt8)) (hs : ac.eval s = v) (hown : Own strV 9 w base v xs) (m g : Nat) (ys : List (List UInt8)) (hx : ac.eval x = .slice (some ⟨g, 0, none⟩) m m) (hgg : g = w.heap.size) (hm : ys.length = m) (hcs : cs = (ys.map strV).toArray)
    (hbytes : (xs.length + m) * 16 ≤ 140737488351232) (hbase : base ≤ w.heap.size)
    (h : ∀ v' w', Hid (Own strV 9 w' base v' (xs ++ ys)) → Hid (Below base w w') → Hid ((w.alloc (.cells cs 9)).grownBy w' v.ownBlock) → wpListIn F fuel Try.prog ops Q rest (ac.put o.dst v') w') : wpListIn F fuel Try.prog ops Q (o :: rest) ac (w.alloc (.cells cs 9)) := by
  subst hgg
  obtain ⟨i0, hi, hz0, hz1, hz2⟩ := info_parts infoS
  exact wpListIn_append_Own hgd s x 24 ho base 9 i0 _ 16 Try.underlying24 hi hz0 hz1 hz2 rfl strV_one v xs hs (hown.alloc _) _ _ m m ys hx (Arr.lit w 9 ys m hm (by omega) hcs) (by omega) (by simp only [maxLen]; omega) (by simp; omega) fun v' w' h1 h2 _ =>
    h v' w' (Lib.hid h1) (Lib.hid (((Below.refl base w).alloc hbase _).trans (below_own (Below.refl base _) (hown.alloc _) h2 (by simp; omega)))) (Lib.hid h2)
end Go.Proofs.Ytnfkbndakdkieaa
