/-
  copy from a string, into bytes of the call's own.
-/
import Derived.Test.YtlnomkkamopieaaBytes
import Derived.Test.YtlnomkkamopieaaSlCopy
import Derived.Test.YtlnomkkamopieaaStr
import Derived.Lib.BufferWrite
namespace Go.Proofs.Ytlnomkkamopieaa
open Go.RowKit

theorem byteCells_eq (l : List UInt8) : Lib.byteCells l = l.map byteV := rfl
theorem own_splice {w : World} {base g L C off : Nat} {xs : List UInt8} (hown : Own byteV 5 w base (.slice (some ⟨g, 0, none⟩) L C) xs) (ys : List UInt8) (hm : off + ys.length ≤ L) :
    ∃ cur : Array Value, w.heap[g]? = some (.cells cur 5 (0, 0)) ∧ cur.size = C ∧ L ≤ C ∧ Own byteV 5 (w.setRow g (cur.toList.take off ++ ys.map byteV ++ cur.toList.drop (off + ys.length)).toArray) base (.slice (some ⟨g, 0, none⟩) L C) (xs.take off ++ ys ++ xs.drop (off + ys.length)) ∧ base ≤ g := by
  rcases hown.2 with ⟨hv, _⟩ | ⟨g', cap, cur, hv, hgb, hg, hcap, hmx, hsz, ht⟩
  · cases hv
  · injection hv with e1 e2 e3
    injection e1 with e1
    injection e1 with e1
    subst e1 e3
    have hxl : xs.length = L := e2.symm
    have hcl : cur.toList.length = C := by simpa using hsz
    rw [hxl] at hcap ht
    have hcs : (ys.map byteV).length = ys.length := List.length_map _
    refine ⟨cur, hg, by simpa using hsz, hcap, ?_, hgb⟩
    have hlen : (xs.take off ++ ys ++ xs.drop (off + ys.length)).length = L := by simp only [List.length_append, List.length_take, List.length_drop, hxl]; omega
    have hsp : cur.toList.take off ++ ys.map byteV ++ cur.toList.drop (off + ys.length) = splice cur.toList off (ys.map byteV) := by
      unfold splice; rw [hcs, List.append_assoc]
    rw [hsp]
    refine ⟨by rw [List.length_map, Nat.mul_one], .inr ⟨g, C, (splice cur.toList off (ys.map byteV)).toArray, by rw [hlen], hgb, setRow_heap w g cur _ 5 _ hg, by rw [hlen]; exact hcap, hmx, ?_, ?_⟩⟩
    · rw [List.size_toArray, length_splice _ _ _ (by rw [hcs, hcl]; omega), hcl, Nat.mul_one]
    · rw [hlen]
      show (splice cur.toList off (ys.map byteV)).take (L * 1) = _
      rw [Nat.mul_one, splice_take _ _ _ _ (by rw [hcs]; omega) (by rw [hcl]; omega)]
      have ht' : cur.toList.take L = xs.map byteV := by simpa using ht
      rw [ht', hcs, List.map_append, List.map_append, List.map_take, List.map_drop]
theorem step_copyS {w : World} {ops : Array Oper} {o : Oper} {a : Act} {K : Act → World → Prop} {Q : Exit → Act → World → Prop} {E : Prop} (hgd : o.guard = none) (d s : Operand)
    (ho : o.op = .call { callee := .builtin .copy, args := #[d, s], argTypes := #[24, 9] }) (base g L C off l c : Nat) (xs : List UInt8)
    (hd : a.eval d = .slice (some ⟨g, off, none⟩) l c) (hown : Own byteV 5 w base (.slice (some ⟨g, 0, none⟩) L C) xs)
    (ys : List UInt8) (hs : a.eval s = .string (strL ys)) (hm : off + ys.length ≤ L) (hl : ys.length ≤ l)
    (h : ∀ w', Hid (Own byteV 5 w' base (.slice (some ⟨g, 0, none⟩) L C) (xs.take off ++ ys ++ xs.drop (off + ys.length))) → Hid (Below base w w') → K (a.put o.dst (goInt ys.length)) w') :
    if Region.wanted o (yielded ops a.tmps) = true then Oper.wp Try.prog o a w K Q else E := by
  have hw : Region.wanted o (yielded ops a.tmps) = true := by simp [Region.wanted, hgd]
  rw [if_pos hw]
  obtain ⟨cur, hg, hsz, hLC, hown', hgb⟩ := own_splice hown ys hm
  have hrun := Lib.run_copy_row_string (P := Try.prog) w 24 9 o.type 5 g off l c (strL ys) cur 5 Try.underlying24 u8size hg (by rw [strL_size]; exact hl) (by rw [strL_size]; omega)
  rw [strL_size, strL_data, byteCells_eq] at hrun
  unfold Oper.wp
  simp [execOp, ho, resolve, invoke, builtin, hd, hs, hrun, Result.andThen]
  refine h _ (Lib.hid ?_) (Lib.hid (below_setRow (Below.refl _ _) hgb _))
  simpa using hown'
end Go.Proofs.Ytlnomkkamopieaa
