/-
  []byte in this program: make, cuts, append, in the form that the walks take.
-/
import Derived.Test.YtcppkaphlcflgaaGreatRows
import Derived.Test.YtcppkaphlcflgaaGreatMem
namespace Go.Proofs.YtcppkaphlcflgaaGreat
open Go.RowKit

theorem infoB : (Tryz.prog.info? 5).map (fun i => (i.zero, i.size, i.bytes)) = some (some (.int .u8 0), 1, 1) := by kernel_rfl
theorem madeCells_one (v : Value) (n : Nat) : madeCells #[v] n = (List.replicate n v).toArray := by
  unfold madeCells
  apply Array.ext (by simp)
  intro i h1 h2
  simp [Nat.mod_one]
theorem makeB (n : Nat) (h : n ≤ 140737488355328) (u : World) : (Instr.makeSlice 40 (.int .i64 (n : Int)) (.int .i64 (n : Int))).run Tryz.prog u =
    .ok (.slice (some ⟨u.heap.size, 0, none⟩) n n) (u.alloc (.cells ((List.replicate n (0 : UInt8)).map byteV).toArray 5)) := by
  obtain ⟨i0, hi, hz0, hz1, hz2⟩ := info_parts infoB
  have h := run_make (P := Tryz.prog) u 40 5 i0 (.int .u8 0) Tryz.underlying40 hi hz0 .i64 .i64 (n : Int) (n : Int) (by omega) (Int.le_refl _) (by rw [hz2]; omega) (by omega)
  rw [Int.toNat_natCast, hz1, Nat.mul_one] at h
  rw [List.map_replicate]
  exact h.trans (by rw [show Value.cells (.int .u8 0) = #[.int .u8 0] from rfl, madeCells_one]; rfl)
theorem ownMade (w : World) (base n : Nat) (hb : base ≤ w.heap.size) (hn : n ≤ 140737488355328) :
    Own byteV 5 (w.alloc (.cells ((List.replicate n (0 : UInt8)).map byteV).toArray 5)) base (.slice (some ⟨w.heap.size, 0, none⟩) n n) (List.replicate n (0 : UInt8)) := by
  have h := Own.made (f := byteV) (e := 5) (w := w) (xs := List.replicate n (0 : UInt8)) hb (by rw [List.length_replicate]; simp only [maxLen]; omega)
  rw [List.length_replicate] at h
  exact h
theorem rep_bytes (n : Nat) : ((List.replicate n (0 : UInt8)).map byteV).toArray = Array.replicate n (.int .u8 0) := by
  rw [List.map_replicate, List.toArray_replicate]; rfl
/-- A new block with room, nothing in it yet. -/
theorem makeC (n : Nat) (h : n ≤ 140737488355328) (u : World) : (Instr.makeSlice 40 (.int .i64 0) (.int .i64 (n : Int))).run Tryz.prog u =
    .ok (.slice (some ⟨u.heap.size, 0, none⟩) 0 n) (u.alloc (.cells (Array.replicate n (.int .u8 0)) 5)) := by
  obtain ⟨i0, hi, hz0, hz1, hz2⟩ := info_parts infoB
  have h := run_make (P := Tryz.prog) u 40 5 i0 (.int .u8 0) Tryz.underlying40 hi hz0 .i64 .i64 0 (n : Int) (by omega) (by omega) (by rw [hz2]; omega) (by omega)
  rw [Int.toNat_natCast, hz1, Nat.mul_one] at h
  rw [← rep_bytes, List.map_replicate]
  exact h.trans (by rw [show Value.cells (.int .u8 0) = #[.int .u8 0] from rfl, madeCells_one]; rfl)
theorem ownMadeC (w : World) (base n : Nat) (hb : base ≤ w.heap.size) (hn : n ≤ 140737488355328) :
    Own byteV 5 (w.alloc (.cells (Array.replicate n (.int .u8 0)) 5)) base (.slice (some ⟨w.heap.size, 0, none⟩) 0 n) ([] : List UInt8) :=
  ⟨by simp, .inr ⟨w.heap.size, n, _, rfl, hb, heap_alloc_new w _, by simp, by simp only [maxLen]; omega, by simp, by simp⟩⟩
/-- make([]byte, n), its zeros in the walk's own spelling. -/
theorem makeZ (n : Nat) (h : n ≤ 140737488355328) (u : World) : (Instr.makeSlice 40 (.int .i64 (n : Int)) (.int .i64 (n : Int))).run Tryz.prog u =
    .ok (.slice (some ⟨u.heap.size, 0, none⟩) n n) (u.alloc (.cells (Array.replicate n (.int .u8 0)) 5)) := by
  rw [makeB n h u, rep_bytes]
theorem ownMadeZ (w : World) (base n : Nat) (hb : base ≤ w.heap.size) (hn : n ≤ 140737488355328) :
    Own byteV 5 (w.alloc (.cells (Array.replicate n (.int .u8 0)) 5)) base (.slice (some ⟨w.heap.size, 0, none⟩) n n) (List.replicate n (0 : UInt8)) := by
  rw [← rep_bytes]; exact ownMade w base n hb hn
theorem cutB_from (a : Option Addr) (n c l : Nat) (hl : l ≤ n) (w : World) : (Instr.slice 40 (.slice a n c) (some (.int .i64 (l : Int))) none none).run Tryz.prog w = .ok (.slice (cutA a c l) (n - l) (c - l)) w := by
  obtain ⟨i0, hi, hz0, hz1, hz2⟩ := info_parts infoB
  exact run_cut_from Tryz.underlying40 hi hz1 a n c l hl w
theorem cutB_to (a : Option Addr) (n c h : Nat) (hl : h ≤ c) (w : World) : (Instr.slice 40 (.slice a n c) none (some (.int .i64 (h : Int))) none).run Tryz.prog w = .ok (.slice a h c) w := by
  obtain ⟨i0, hi, hz0, hz1, hz2⟩ := info_parts infoB
  exact run_cut_to Tryz.underlying40 hi a n c h hl w
theorem cutB_mid (a : Option Addr) (n c l h : Nat) (hl : l ≤ h) (hh : h ≤ c) (w : World) : (Instr.slice 40 (.slice a n c) (some (.int .i64 (l : Int))) (some (.int .i64 (h : Int))) none).run Tryz.prog w = .ok (.slice (cutA a c l) (h - l) (c - l)) w := by
  obtain ⟨i0, hi, hz0, hz1, hz2⟩ := info_parts infoB
  exact run_cut_mid Tryz.underlying40 hi hz1 a n c l h hl hh w
/-- append onto bytes of the call's own, at a plain region's list. -/
theorem wpList_appB {w : World} {ops : Array Oper} {rest : List Oper} {o : Oper} {ac : Act} {Q : Exit → Act → World → Prop} (hgd : o.guard = none) (s x : Operand)
    (ho : o.op = .call { callee := .builtin .append, args := #[s, x], argTypes := #[40, 40] }) (base : Nat)
    (v : Value) (xs : List UInt8) (hs : ac.eval s = v) (hown : Own byteV 5 w base v xs) (B : Nat) (a : Option Addr) (m c : Nat) (ys : List UInt8) (hx : ac.eval x = .slice a m c) (hy : Bytes w B a m ys)
    (hbytes : xs.length + m ≤ 140737488355328) (hbase : base ≤ w.heap.size)
    (h : ∀ v' w', Own byteV 5 w' base v' (xs ++ ys) → w.grownBy w' v.ownBlock → (v'.ownBlock = v.ownBlock ∨ v'.ownBlock = some w.heap.size) → wpList Tryz.prog ops Q rest (ac.put o.dst v') w') : wpList Tryz.prog ops Q (o :: rest) ac w := by
  obtain ⟨i0, hi, hz0, hz1, hz2⟩ := info_parts infoB
  exact wpList_append_Own hgd s x 40 ho base 5 i0 _ 1 Tryz.underlying40 hi hz0 hz1 hz2 rfl byteV_one v xs hs hown B a m c ys hx hy (by omega) (by simp only [maxLen]; omega) hbase h
/-- The same, what it leaves in two hidden facts. -/
theorem wpList_ontoB {w : World} {ops : Array Oper} {rest : List Oper} {o : Oper} {ac : Act} {Q : Exit → Act → World → Prop} (hgd : o.guard = none) (s x : Operand)
    (ho : o.op = .call { callee := .builtin .append, args := #[s, x], argTypes := #[40, 40] }) (base : Nat)
    (v : Value) (xs : List UInt8) (hs : ac.eval s = v) (hown : Own byteV 5 w base v xs) (B : Nat) (a : Option Addr) (m c : Nat) (ys : List UInt8) (hx : ac.eval x = .slice a m c) (hy : Bytes w B a m ys)
    (hbytes : xs.length + m ≤ 140737488355328) (hbase : base ≤ w.heap.size)
    (h : ∀ v' w', Hid (Own byteV 5 w' base v' (xs ++ ys)) → Hid (Below base w w') → wpList Tryz.prog ops Q rest (ac.put o.dst v') w') : wpList Tryz.prog ops Q (o :: rest) ac w :=
  wpList_appB hgd s x ho base v xs hs hown B a m c ys hx hy hbytes hbase fun v' w' h1 h2 _ => h v' w' (Lib.hid h1) (Lib.hid (below_own (Below.refl base w) hown h2 hbase))
/-- A literal's elements, appended. -/
theorem wpList_litB {w : World} {cs : Array Value} {ops : Array Oper} {rest : List Oper} {o : Oper} {ac : Act} {Q : Exit → Act → World → Prop} (hgd : o.guard = none) (s x : Operand)
    (ho : o.op = .call { callee := .builtin .append, args := #[s, x], argTypes := #[40, 40] }) (base : Nat)
    (v : Value) (xs : List UInt8) (hs : ac.eval s = v) (hown : Own byteV 5 w base v xs) (m : Nat) (ys : List UInt8) (hx : ac.eval x = .slice (some ⟨w.heap.size, 0, none⟩) m m) (hm : ys.length = m) (hcs : cs = (ys.map byteV).toArray)
    (hbytes : xs.length + m ≤ 140737488351232) (hbase : base ≤ w.heap.size)
    (h : ∀ v' w', Hid (Own byteV 5 w' base v' (xs ++ ys)) → Hid (Below base w w') → wpList Tryz.prog ops Q rest (ac.put o.dst v') w') : wpList Tryz.prog ops Q (o :: rest) ac (w.alloc (.cells cs 5)) :=
  wpList_appB hgd s x ho base v xs hs (hown.alloc _) _ _ m m ys hx (Arr.lit w 5 ys m hm (by omega) hcs) (by omega) (by simp; omega) fun v' w' h1 h2 _ =>
    h v' w' (Lib.hid h1) (Lib.hid (((Below.refl base w).alloc hbase _).trans (below_own (Below.refl base _) (hown.alloc _) h2 (by simp; omega))))
theorem wp_appB {w : World} {o : Oper} {ac : Act} {K : Act → World → Prop} {Q : Exit → Act → World → Prop} (s x : Operand)
    (ho : o.op = .call { callee := .builtin .append, args := #[s, x], argTypes := #[40, 40] }) (base : Nat)
    (v : Value) (xs : List UInt8) (hs : ac.eval s = v) (hown : Own byteV 5 w base v xs) (B : Nat) (a : Option Addr) (m c : Nat) (ys : List UInt8) (hx : ac.eval x = .slice a m c) (hy : Bytes w B a m ys)
    (hbytes : xs.length + m ≤ 140737488355328) (hbase : base ≤ w.heap.size)
    (h : ∀ v' w', Own byteV 5 w' base v' (xs ++ ys) → w.grownBy w' v.ownBlock → (v'.ownBlock = v.ownBlock ∨ v'.ownBlock = some w.heap.size) → K (ac.put o.dst v') w') : o.wp Tryz.prog ac w K Q := by
  obtain ⟨i0, hi, hz0, hz1, hz2⟩ := info_parts infoB
  exact wp_append_Own s x 40 ho base 5 i0 _ 1 Tryz.underlying40 hi hz0 hz1 hz2 rfl byteV_one v xs hs hown B a m c ys hx hy (by omega) (by simp only [maxLen]; omega) hbase h
/-- append at a step of a region that draws its order. -/
theorem step_appB {w : World} {ops : Array Oper} {o : Oper} {a : Act} {K : Act → World → Prop} {Q : Exit → Act → World → Prop} {E : Prop} (hgd : o.guard = none) (s x : Operand)
    (ho : o.op = .call { callee := .builtin .append, args := #[s, x], argTypes := #[40, 40] }) (base : Nat)
    (v : Value) (xs : List UInt8) (hs : a.eval s = v) (hown : Own byteV 5 w base v xs) (B : Nat) (ad : Option Addr) (m c : Nat) (ys : List UInt8) (hx : a.eval x = .slice ad m c) (hy : Bytes w B ad m ys)
    (hbytes : xs.length + m ≤ 140737488355328) (hbase : base ≤ w.heap.size)
    (h : ∀ v' w', Hid (Own byteV 5 w' base v' (xs ++ ys)) → Hid (Below base w w') → K (a.put o.dst v') w') :
    if Region.wanted o (yielded ops a.tmps) = true then Oper.wp Tryz.prog o a w K Q else E := by
  have hw : Region.wanted o (yielded ops a.tmps) = true := by simp [Region.wanted, hgd]
  rw [if_pos hw]
  exact wp_appB s x ho base v xs hs hown B ad m c ys hx hy hbytes hbase fun v' w' h1 h2 _ => h v' w' (Lib.hid h1) (Lib.hid (below_own (Below.refl base w) hown h2 hbase))
end Go.Proofs.YtcppkaphlcflgaaGreat
