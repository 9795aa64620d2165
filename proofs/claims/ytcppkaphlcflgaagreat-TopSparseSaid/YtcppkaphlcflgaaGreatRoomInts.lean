import Derived.Shelf.Small.Bits
import Derived.Shelf.Small.Wraps
import Derived.Shelf.Strconv.Itoa0
import Derived.Shelf.Sort.Plain
import Derived.Shelf.Bits.Mul64
import Derived.Shelf.Slices.Turned
import Derived.Shelf.Slices.Reverse
import Derived.Ground.Names2Prog
import Derived.Shelf.Slices.Clone
import Derived.Shelf.Slices.CompactI
import Derived.Shelf.Slices.SearchI
import Derived.Shelf.Slices.Cells
import Derived.Shelf.Slices.In.SortNone
import Derived.Ground.SlgnProg
import Derived.Shelf.SlicesE.Reverse
import Derived.Shelf.SlicesE.Clone
import Derived.Test.YtcppkaphlcflgaaGreatProg
import Derived.Test.YtcppkaphlcflgaaGreatMem
import Derived.Test.YtcppkaphlcflgaaGreatRows
namespace Go.Proofs
open Go.Shelf
end Go.Proofs
namespace Go.Proofs.YtcppkaphlcflgaaGreat
open Go.RowKit

theorem Own.cut {α : Type} {f : α → Value} {e : TypeId} {w : World} {base g n c m : Nat} {xs : List α} (h : Own f e w base (.slice (some ⟨g, 0, none⟩) n c) xs) (hm : m ≤ xs.length) : Own f e w base (.slice (some ⟨g, 0, none⟩) m c) (xs.take m) := by
 rcases h.2 with ⟨hv, _⟩ | ⟨g', cap, cur, hv, hgb, hg, hcap, hmx, hsz, ht⟩
 ·cases hv
 ·injection hv with e1 e2 e3
  injection e1 with e1
  injection e1 with e1
  subst e1 e3
  have hl : (xs.take m).length = m := by rw [List.length_take]; omega
  refine ⟨by rw [List.length_map, Nat.mul_one], .inr ⟨g, c, cur, by rw [hl], hgb, hg, by rw [hl]; omega, hmx, hsz, ?_⟩⟩
  rw [hl, List.map_take, ← ht, List.take_take]
  congr 1
  omega
theorem Own.relaid {α : Type} [Inhabited α] {f : α → Value} {e : TypeId} {w : World} {base g n c k : Nat} {xs : List α} (h : Own f e w base (.slice (some ⟨g, 0, none⟩) n c) xs) (ys : List α) (hl : ys.length = xs.length) (os : Array Obj) :
  Own f e (Sort.grow (Sort.putRow f (Sort.ahead w k) g 0 ys.toArray) os) base (.slice (some ⟨g, 0, none⟩) n c) ys ∧ Below base w (Sort.grow (Sort.putRow f (Sort.ahead w k) g 0 ys.toArray) os) := by
 rcases h.2 with ⟨hv, _⟩ | ⟨g', cap, cur, hv, hgb, hg, hcap, hmx, hsz, ht⟩
 ·cases hv
 ·injection hv with e1 e2 e3
  injection e1 with e1
  injection e1 with e1
  subst e1 e3
  have hlt : g < w.heap.size := by
   rcases Nat.lt_or_ge g w.heap.size with hlt | hge
   ·exact hlt
   ·rw [Array.getElem?_eq_none hge] at hg; cases hg
  have hblk : ∀ j, (Sort.grow (Sort.putRow f (Sort.ahead w k) g 0 ys.toArray) os).heap[j]? = if j < w.heap.size then (if g = j then w.heap[j]?.map (Sort.onCells (Sort.putCells f 0 ys.toArray)) else w.heap[j]?) else os[j - w.heap.size]? := fun j => by
   simp only [Sort.grow, Sort.putRow, Sort.mapBlock, Sort.ahead, Array.getElem?_append, Array.size_modify, Array.getElem?_modify]
  refine ⟨⟨by rw [List.length_map, Nat.mul_one], .inr ⟨g, c, Sort.putCells f 0 ys.toArray cur, by rw [hl, e2], hgb, ?_, by rw [hl]; exact hcap, hmx, ?_, ?_⟩⟩, ?_⟩
  ·rw [hblk g, if_pos hlt, if_pos rfl, hg]; rfl
  ·simp [Sort.putCells, hsz]
  ·apply List.ext_getElem?
   intro i
   rw [List.getElem?_take, List.getElem?_map]
   by_cases hi : i < ys.length
   ·rw [if_pos (by omega)]
    have hic : i < cur.size := by omega
    simp [Sort.putCells, hi, hic]
   ·rw [if_neg (by omega), List.getElem?_eq_none (by omega)]
    rfl
  ·refine ⟨rfl, rfl, rfl, by simp, fun j hj => ?_⟩
   rw [hblk j, if_pos (by omega), if_neg (by omega)]
theorem own_holds {w : World} {base g n c : Nat} {xs : List Int} (h : Own intV 3 w base (.slice (some ⟨g, 0, none⟩) n c) xs) : Sort.Holds (Value.int .i64) w g 0 xs.toArray := fun j hj => by
 have hj' : j < xs.length := by simpa using hj
 obtain ⟨h1, h2⟩ := h.cellg hj'
 rw [Nat.zero_add]
 refine ⟨?_, h2⟩
 rw [h1, getElem!_pos _ j hj]
 rfl
def sortL (xs : List Int) : List Int := xs.mergeSort fun x y => decide (x ≤ y)
theorem sortL_len (xs : List Int) : (sortL xs).length = xs.length := List.length_mergeSort ..
theorem sort_calls (v : Value) (xs : List Int) (base : Nat) (w : World) (h : Own intV 3 w base v xs) (hl : xs.length ≤ 1000000) :
  Calls Tryz.prog 39 #[v] w fun e w' => e = .returned (.tuple #[]) ∧ Own intV 3 w' base v (sortL xs) ∧ Below base w w' := by
 obtain ⟨a, c, rfl, _⟩ := h.formN (n := xs.length) rfl
 by_cases h0 : xs.length = 0
 ·have hx : xs = [] := List.eq_nil_of_length_eq_zero h0
  subst hx
  exact (Tryz.slices_Sort_int_none a c w).mono fun e w' ⟨he, hw⟩ => ⟨he, by rw [hw, show sortL [] = [] by simp [sortL]]; exact h, by rw [hw]; exact Below.refl _ _⟩
 ·obtain ⟨g, rfl, hgb, hgl⟩ := h.addr (by omega)
  refine (Tryz.slices_Sort_int g 0 c xs w (own_holds h) hgl (by omega)).mono ?_
  rintro e w' ⟨he, k, os, rfl⟩
  exact ⟨he, h.relaid _ (sortL_len xs) os⟩
theorem compact_len (xs : List Int) : (Lib.compact xs).length ≤ xs.length := by
 unfold Lib.compact Lib.compactUpTo
 rw [List.length_map]
 have h := List.length_filter_le (Lib.keeps xs.toArray) (List.range xs.length)
 rw [List.length_range] at h
 exact h
theorem compact_calls (v : Value) (xs : List Int) (base : Nat) (w : World) (h : Own intV 3 w base v xs) (hl : xs.length ≤ 1000000) :
  Calls Tryz.prog 40 #[v] w fun e w' => ∃ v', e = .returned v' ∧ Own intV 3 w' base v' (Lib.compact xs) ∧ Below base w w' := by
 obtain ⟨a, c, rfl, hc⟩ := h.formN (n := xs.length) rfl
 by_cases h0 : xs.length = 0
 ·have hx : xs = [] := List.eq_nil_of_length_eq_zero h0
  subst hx
  exact (Tryz.slices_Compact_int_empty a c w).mono fun e w' ⟨he, hw⟩ => ⟨_, he, by rw [hw]; exact h, by rw [hw]; exact Below.refl _ _⟩
 ·obtain ⟨g, rfl, hgb, hgl⟩ := h.addr (by omega)
  refine (Tryz.slices_Compact_int g 0 c xs w (own_holds h) (by omega) hc).mono ?_
  rintro e w' ⟨he, k, rfl⟩
  have hcl := compact_len xs
  have hr := h.relaid (k := k) (Lib.compact xs ++ List.replicate (xs.length - (Lib.compact xs).length) 0) (by rw [List.length_append, List.length_replicate]; omega) #[]
  rw [Sort.grow_empty] at hr
  refine ⟨_, he, ?_, hr.2⟩
  have := hr.1.cut (m := (Lib.compact xs).length) (by rw [List.length_append]; omega)
  rw [List.take_left'] at this
  ·exact this
  ·rfl
theorem infoI : (Tryz.prog.info? 3).map (fun i => (i.zero, i.size, i.bytes)) = some (some (.int .i64 0), 1, 8) := by kernel_rfl
theorem cloneI_calls (a : Option Addr) (n c : Nat) (xs : List Int) (w : World) (hx : Arr intV w w.heap.size a n xs) (hn : n ≤ 1000000) :
  Calls Tryz.prog 38 #[.slice a n c] w fun e w' => (∃ v, e = .returned v ∧ Own intV 3 w' w.heap.size v xs) ∧ Below w.heap.size w w' := by
 have hl := hx.len
 cases a with
 | none =>
  have hn : xs = [] := by
   by_cases h0 : n = 0
   ·subst h0; exact List.eq_nil_of_length_eq_zero hl
   ·obtain ⟨b, o, _, ha, _⟩ := hx.atv (k := 0) (by omega); cases ha
  subst hn
  exact (Tryz.slices_Clone_int_nil n c w).mono fun e w' ⟨he, hw⟩ => ⟨⟨_, he, Own.nil _ _⟩, by rw [hw]; exact Below.refl _ _⟩
 | some p =>
  by_cases h0 : n = 0
  ·subst h0
   have hx0 : xs = [] := List.eq_nil_of_length_eq_zero hl
   subst hx0
   exact (Tryz.slices_Clone_int_zero p c w).mono fun e w' ⟨v', he, ho, _, hb⟩ => ⟨⟨_, he, ho⟩, hb⟩
  ·obtain ⟨b, o, ha, _, hc⟩ := hx.2.2 h0
   injection ha with ha
   subst ha
   refine (Tryz.slices_Clone_int b o n c xs w (by omega) (by omega) (fun j hj => by rw [hc j hj, List.getD_eq_getElem?_getD, List.getElem?_eq_getElem hj]; rfl)).mono ?_
   rintro e w' ⟨v', he, ho, _, hb⟩
   rw [List.take_of_length_le (by omega)] at ho
   refine ⟨⟨v', he, ?_⟩, hb⟩
   unfold Own
   rw [hl]
   exact ho
end Go.Proofs.YtcppkaphlcflgaaGreat
namespace Go.Proofs.YtcppkaphlcflgaaGreat
open Go.RowKit

section
variable {w : World} {ops : Array Oper} {rest : List Oper} {o : Oper} {ac : Act} {Q : Exit → Act → World → Prop}
theorem wp_appI {K : Act → World → Prop} (s x : Operand)
  (ho : o.op = .call { callee := .builtin .append, args := #[s, x], argTypes := #[36, 36] }) (base : Nat)
  (v : Value) (xs : List Int) (hs : ac.eval s = v) (hown : Own intV 3 w base v xs) (B : Nat) (a : Option Addr) (m c : Nat) (ys : List Int) (hx : ac.eval x = .slice a m c) (hy : Arr intV w B a m ys)
  (hbytes : xs.length + m ≤ 10000000) (hbase : base ≤ w.heap.size)
  (h : ∀ v' w', Own intV 3 w' base v' (xs ++ ys) → w.grownBy w' v.ownBlock → (v'.ownBlock = v.ownBlock ∨ v'.ownBlock = some w.heap.size) → K (ac.put o.dst v') w') : o.wp Tryz.prog ac w K Q := by
 obtain ⟨i0, hi, hz0, hz1, hz2⟩ := info_parts infoI
 exact wp_append_Own s x 36 ho base 3 i0 _ 8 Tryz.underlying36 hi hz0 hz1 hz2 rfl intV_one v xs hs hown B a m c ys hx hy (by omega) (by simp only [maxLen]; omega) hbase h
theorem wpList_ontoI (hgd : o.guard = none) (s x : Operand)
  (ho : o.op = .call { callee := .builtin .append, args := #[s, x], argTypes := #[36, 36] }) (base : Nat)
  (v : Value) (xs : List Int) (hs : ac.eval s = v) (hown : Own intV 3 w base v xs) (B : Nat) (a : Option Addr) (m c : Nat) (ys : List Int) (hx : ac.eval x = .slice a m c) (hy : Arr intV w B a m ys)
  (hbytes : xs.length + m ≤ 10000000) (hbase : base ≤ w.heap.size)
  (h : ∀ v' w', Hid (Own intV 3 w' base v' (xs ++ ys)) → Hid (Below base w w') → wpList Tryz.prog ops Q rest (ac.put o.dst v') w') : wpList Tryz.prog ops Q (o :: rest) ac w :=
 wpList_plain hgd fun _ hK => wp_appI s x ho base v xs hs hown B a m c ys hx hy hbytes hbase fun v' w' h1 h2 _ => hK _ _ (h v' w' (Lib.hid h1) (Lib.hid (below_own (Below.refl base w) hown h2 hbase)))
theorem wpList_litI {cs : Array Value} (hgd : o.guard = none) (s x : Operand)
  (ho : o.op = .call { callee := .builtin .append, args := #[s, x], argTypes := #[36, 36] }) (base : Nat)
  (v : Value) (xs : List Int) (hs : ac.eval s = v) (hown : Own intV 3 w base v xs) (y : Int) (hx : ac.eval x = .slice (some ⟨w.heap.size, 0, none⟩) 1 1) (hcs : cs = #[.int .i64 y])
  (hbytes : xs.length ≤ 1000000) (hbase : base ≤ w.heap.size)
  (h : ∀ v' w', Hid (Own intV 3 w' base v' (xs ++ [y])) → Hid (Below base w w') → wpList Tryz.prog ops Q rest (ac.put o.dst v') w') : wpList Tryz.prog ops Q (o :: rest) ac (w.alloc (.cells cs 3)) :=
 wpList_ontoI hgd s x ho base v xs hs (hown.alloc _) _ _ 1 1 [y] hx (Arr.lit w 3 [y] 1 rfl (by omega) hcs) (by omega) (by simp; omega) fun v' w' h1 h2 =>
  h v' w' h1 (Lib.hid (((Below.refl base w).alloc hbase _).trans h2.out))
end
theorem Arr.atI {w : World} {B : Nat} {a : Option Addr} {n : Nat} {xs : List Int} (h : Arr intV w B a n xs) {k : Nat} (hk : k < n) :
  ∃ b o, ∃ h' : k < xs.length, a = some ⟨b, o, none⟩ ∧ b < B ∧ w.cell? ⟨b, o + k, none⟩ = some (.int .i64 xs[k]) := h.atv hk
end Go.Proofs.YtcppkaphlcflgaaGreat
