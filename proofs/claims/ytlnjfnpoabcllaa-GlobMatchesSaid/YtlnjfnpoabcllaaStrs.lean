/-
  []string in this program: the elements as lists of bytes; append.
-/
import Derived.Test.YtlnjfnpoabcllaaStr
namespace Go.Proofs.Ytlnjfnpoabcllaa
open Go.RowKit

theorem infoS : (Try.prog.info? 9).map (fun i => (i.zero, i.size, i.bytes)) = some (some (.string ByteArray.empty), 1, 16) := by kernel_rfl
section
variable {w : World} {ops : Array Oper} {rest : List Oper} {o : Oper} {ac : Act} {Q : Exit → Act → World → Prop}
/-- append onto strings of the call's own, at a plain region's list. -/
theorem wpList_ontoS (hgd : o.guard = none) (s x : Operand)
    (ho : o.op = .call { callee := .builtin .append, args := #[s, x], argTypes := #[22, 22] }) (base : Nat)
    (v : Value) (xs : List (List UInt8)) (hs : ac.eval s = v) (hown : Own strV 9 w base v xs) (B : Nat) (a : Option Addr) (m c : Nat) (ys : List (List UInt8)) (hx : ac.eval x = .slice a m c) (hy : Arr strV w B a m ys)
    (hbytes : (xs.length + m) * 16 ≤ 140737488355328) (hbase : base ≤ w.heap.size)
    (h : ∀ v' w', Hid (Own strV 9 w' base v' (xs ++ ys)) → Hid (Below base w w') → wpList Try.prog ops Q rest (ac.put o.dst v') w') : wpList Try.prog ops Q (o :: rest) ac w := by
  obtain ⟨i0, hi, hz0, hz1, hz2⟩ := info_parts infoS
  exact wpList_append_Own hgd s x 22 ho base 9 i0 _ 16 Try.underlying22 hi hz0 hz1 hz2 rfl strV_one v xs hs hown B a m c ys hx hy (by omega) (by simp only [maxLen]; omega) hbase fun v' w' h1 h2 _ =>
    h v' w' (Lib.hid h1) (Lib.hid (below_own (Below.refl base w) hown h2 hbase))
theorem wpList_litS {cs : Array Value} (hgd : o.guard = none) (s x : Operand)
    (ho : o.op = .call { callee := .builtin .append, args := #[s, x], argTypes := #[22, 22] }) (base : Nat)
    (v : Value) (xs : List (List UInt8)) (hs : ac.eval s = v) (hown : Own strV 9 w base v xs) (m : Nat) (ys : List (List UInt8)) (hx : ac.eval x = .slice (some ⟨w.heap.size, 0, none⟩) m m) (hm : ys.length = m) (hcs : cs = (ys.map strV).toArray)
    (hbytes : (xs.length + m) * 16 ≤ 140737488351232) (hbase : base ≤ w.heap.size)
    (h : ∀ v' w', Hid (Own strV 9 w' base v' (xs ++ ys)) → Hid (Below base w w') → wpList Try.prog ops Q rest (ac.put o.dst v') w') : wpList Try.prog ops Q (o :: rest) ac (w.alloc (.cells cs 9)) :=
  wpList_ontoS hgd s x ho base v xs hs (hown.alloc _) _ _ m m ys hx (Arr.lit w 9 ys m hm (by omega) hcs) (by omega) (by simp; omega) fun v' w' h1 h2 =>
    h v' w' h1 (Lib.hid (((Below.refl base w).alloc hbase _).trans h2.out))
end
theorem cutS_to (a : Option Addr) (n c h : Nat) (hl : h ≤ c) (w : World) : (Instr.slice 22 (.slice a n c) none (some (.int .i64 (h : Int))) none).run Try.prog w = .ok (.slice a h c) w := by
  obtain ⟨i0, hi, hz0, hz1, hz2⟩ := info_parts infoS
  exact run_cut_to Try.underlying22 hi a n c h hl w
end Go.Proofs.Ytlnjfnpoabcllaa
