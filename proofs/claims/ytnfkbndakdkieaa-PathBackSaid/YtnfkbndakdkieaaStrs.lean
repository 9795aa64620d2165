/-
  []string in this program: the elements as lists of bytes; append.
-/
import Derived.Test.YtnfkbndakdkieaaRows
import Derived.Test.YtnfkbndakdkieaaMem
import Derived.Test.YtnfkbndakdkieaaNumMath
import Derived.TacticsIn
import Derived.Lib.Strings
import Derived.Lib.SlicesS
namespace Go.Proofs.Ytnfkbndakdkieaa
open Go.RowKit

def strV (l : List UInt8) : Value := .string (strL l)
theorem strV_eq (l : List UInt8) : strV l = .string (strL l) := rfl
theorem strV_one (l : List UInt8) : (strV l).oneCell' = true := rfl
theorem strL_list (s : ByteArray) : strL s.data.toList = s := by simp [strL]
theorem strL_of (s : ByteArray) : ∃ l, s = strL l := ⟨_, (strL_list s).symm⟩
theorem strL_toList (l : List UInt8) : (strL l).toList = l := by rw [Lib.toList_data]; rfl
theorem strL_data (l : List UInt8) : (strL l).data.toList = l := rfl
theorem strL_size (l : List UInt8) : (strL l).size = l.length := rfl
theorem strL_append (a b : List UInt8) : strL a ++ strL b = strL (a ++ b) := by
  apply ByteArray.ext
  rw [ByteArray.data_append]
  simp [strL]
theorem strL_get (l : List UInt8) (i : Nat) (h : i < (strL l).size) : (strL l)[i] = l[i]'(by rw [strL_size] at h; exact h) := by
  show (strL l).data[i] = _
  simp [strL]
attribute [go_sem] strV_eq strL_size strL_toList strL_append strL_get
theorem infoS : (Try.prog.info? 9).map (fun i => (i.zero, i.size, i.bytes)) = some (some (.string ByteArray.empty), 1, 16) := by kernel_rfl
section
variable {w : World} {ops : Array Oper} {rest : List Oper} {o : Oper} {ac : Act} {Q : Exit → Act → World → Prop}
/-- append onto strings of the call's own, at a plain region's list. -/
theorem wpList_ontoS (hgd : o.guard = none) (s x : Operand)
    (ho : o.op = .call { callee := .builtin .append, args := #[s, x], argTypes := #[24, 24] }) (base : Nat)
    (v : Value) (xs : List (List UInt8)) (hs : ac.eval s = v) (hown : Own strV 9 w base v xs) (B : Nat) (a : Option Addr) (m c : Nat) (ys : List (List UInt8)) (hx : ac.eval x = .slice a m c) (hy : Arr strV w B a m ys)
    (hbytes : (xs.length + m) * 16 ≤ 140737488355328) (hbase : base ≤ w.heap.size)
    (h : ∀ v' w', Hid (Own strV 9 w' base v' (xs ++ ys)) → Hid (Below base w w') → wpList Try.prog ops Q rest (ac.put o.dst v') w') : wpList Try.prog ops Q (o :: rest) ac w := by
  obtain ⟨i0, hi, hz0, hz1, hz2⟩ := info_parts infoS
  exact wpList_append_Own hgd s x 24 ho base 9 i0 _ 16 Try.underlying24 hi hz0 hz1 hz2 rfl strV_one v xs hs hown B a m c ys hx hy (by omega) (by simp only [maxLen]; omega) hbase fun v' w' h1 h2 _ =>
    h v' w' (Lib.hid h1) (Lib.hid (below_own (Below.refl base w) hown h2 hbase))
theorem wpList_litS {cs : Array Value} (hgd : o.guard = none) (s x : Operand)
    (ho : o.op = .call { callee := .builtin .append, args := #[s, x], argTypes := #[24, 24] }) (base : Nat)
    (v : Value) (xs : List (List UInt8)) (hs : ac.eval s = v) (hown : Own strV 9 w base v xs) (m : Nat) (ys : List (List UInt8)) (hx : ac.eval x = .slice (some ⟨w.heap.size, 0, none⟩) m m) (hm : ys.length = m) (hcs : cs = (ys.map strV).toArray)
    (hbytes : (xs.length + m) * 16 ≤ 140737488351232) (hbase : base ≤ w.heap.size)
    (h : ∀ v' w', Hid (Own strV 9 w' base v' (xs ++ ys)) → Hid (Below base w w') → wpList Try.prog ops Q rest (ac.put o.dst v') w') : wpList Try.prog ops Q (o :: rest) ac (w.alloc (.cells cs 9)) :=
  wpList_ontoS hgd s x ho base v xs hs (hown.alloc _) _ _ m m ys hx (Arr.lit w 9 ys m hm (by omega) hcs) (by omega) (by simp; omega) fun v' w' h1 h2 =>
    h v' w' h1 (Lib.hid (((Below.refl base w).alloc hbase _).trans h2.out))
end
theorem cutS_to (a : Option Addr) (n c h : Nat) (hl : h ≤ c) (w : World) : (Instr.slice 24 (.slice a n c) none (some (.int .i64 (h : Int))) none).run Try.prog w = .ok (.slice a h c) w := by
  obtain ⟨i0, hi, hz0, hz1, hz2⟩ := info_parts infoS
  exact run_cut_to Try.underlying24 hi a n c h hl w
end Go.Proofs.Ytnfkbndakdkieaa
