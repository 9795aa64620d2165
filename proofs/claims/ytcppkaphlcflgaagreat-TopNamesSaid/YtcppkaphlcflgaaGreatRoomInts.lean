import Derived.Shelf.Small.Bits
import Derived.Shelf.Small.Wraps
import Derived.Shelf.Strconv.Itoa0
import Derived.Shelf.Sort.Plain
import Derived.Shelf.Bits.Mul64
import Derived.Shelf.Slices.Turned
import Derived.Shelf.Slices.Reverse
import Derived.Ground.Names2Prog
import Derived.Shelf.Slices.Clone
import Derived.Shelf.Slices.CompactI
import Derived.Shelf.Slices.SearchI
import Derived.Shelf.Slices.Cells
import Derived.Shelf.Slices.In.SortNone
import Derived.Ground.SlgnProg
import Derived.Shelf.SlicesE.Reverse
import Derived.Shelf.SlicesE.Clone
import Derived.Test.YtcppkaphlcflgaaGreatProg
import Derived.Test.YtcppkaphlcflgaaGreatMem
import Derived.Test.YtcppkaphlcflgaaGreatRows
namespace Go.Proofs
open Go.Shelf
def Tryz.lays189_ren : Go.Shelf.Ren := ⟨fun | 189 => 39 | 125 => 81 | 257 => 80 | 128 => 135 | 129 => 136 | 294 => 126 | 295 => 127 | 296 => 128 | 297 => 129 | 298 => 130 | 299 => 131 | 216 => 132 | 300 => 133 | 301 => 134 | 328 => 163 | 329 => 164 | 330 => 165 | 331 => 166 | 332 => 167 | 215 => 168 | 343 => 183 | n => n, fun | 28 => 36 | 3 => 3 | 46 => 151 | 0 => 0 | 51 => 100 | 53 => 101 | 4 => 4 | 183 => 200 | 182 => 199 | 131 => 75 | 5 => 5 | 9 => 9 | 218 => 222 | 222 => 226 | 228 => 242 | 229 => 115 | n => n, fun | n => n⟩
theorem Tryz.lays189 : Go.Proofs.Lays.n189 Tryz.prog Tryz.lays189_ren := {
 mixed := by kernel_rfl
 f125 := Tryz.func81.trans (congrArg some (by kernel_rfl))
 f128 := Tryz.func135.trans (congrArg some (by kernel_rfl))
 f129 := Tryz.func136.trans (congrArg some (by kernel_rfl))
 f189 := Tryz.func39.trans (congrArg some (by kernel_rfl))
 f215 := Tryz.func168.trans (congrArg some (by kernel_rfl))
 f216 := Tryz.func132.trans (congrArg some (by kernel_rfl))
 f257 := Tryz.func80.trans (congrArg some (by kernel_rfl))
 f294 := Tryz.func126.trans (congrArg some (by kernel_rfl))
 f295 := Tryz.func127.trans (congrArg some (by kernel_rfl))
 f296 := Tryz.func128.trans (congrArg some (by kernel_rfl))
 f297 := Tryz.func129.trans (congrArg some (by kernel_rfl))
 f298 := Tryz.func130.trans (congrArg some (by kernel_rfl))
 f299 := Tryz.func131.trans (congrArg some (by kernel_rfl))
 f300 := Tryz.func133.trans (congrArg some (by kernel_rfl))
 f301 := Tryz.func134.trans (congrArg some (by kernel_rfl))
 f328 := Tryz.func163.trans (congrArg some (by kernel_rfl))
 f329 := Tryz.func164.trans (congrArg some (by kernel_rfl))
 f330 := Tryz.func165.trans (congrArg some (by kernel_rfl))
 f331 := Tryz.func166.trans (congrArg some (by kernel_rfl))
 f332 := Tryz.func167.trans (congrArg some (by kernel_rfl))
 f343 := Tryz.func183.trans (congrArg some (by kernel_rfl))
 t0 := Tryz.underlying0
 a0 := Tryz.isAgg0
 z0 := Tryz.sizeOf0
 v0 := Tryz.zeroValue0
 t3 := Tryz.underlying3
 a3 := Tryz.isAgg3
 z3 := Tryz.sizeOf3
 v3 := Tryz.zeroValue3
 t4 := Tryz.underlying4
 a4 := Tryz.isAgg4
 z4 := Tryz.sizeOf4
 v4 := Tryz.zeroValue4
 t5 := Tryz.underlying5
 a5 := Tryz.isAgg5
 z5 := Tryz.sizeOf5
 v5 := Tryz.zeroValue5
 t9 := Tryz.underlying9
 a9 := Tryz.isAgg9
 z9 := Tryz.sizeOf9
 v9 := Tryz.zeroValue9
 t28 := Tryz.underlying36
 a28 := Tryz.isAgg36
 z28 := Tryz.sizeOf36
 v28 := Tryz.zeroValue36
 t46 := Tryz.underlying151
 a46 := Tryz.isAgg151
 z46 := Tryz.sizeOf151
 v46 := Tryz.zeroValue151
 t51 := Tryz.underlying100
 a51 := Tryz.isAgg100
 z51 := Tryz.sizeOf100
 v51 := Tryz.zeroValue100
 t53 := Tryz.underlying101
 a53 := Tryz.isAgg101
 z53 := Tryz.sizeOf101
 v53 := Tryz.zeroValue101
 t131 := Tryz.underlying75
 a131 := Tryz.isAgg75
 z131 := Tryz.sizeOf75
 v131 := Tryz.zeroValue75
 t182 := Tryz.underlying199
 a182 := Tryz.isAgg199
 z182 := Tryz.sizeOf199
 v182 := Tryz.zeroValue199
 t183 := Tryz.underlying200
 a183 := Tryz.isAgg200
 z183 := Tryz.sizeOf200
 v183 := Tryz.zeroValue200
 t218 := Tryz.underlying222
 a218 := Tryz.isAgg222
 z218 := Tryz.sizeOf222
 v218 := Tryz.zeroValue222
 t222 := Tryz.underlying226
 a222 := Tryz.isAgg226
 z222 := Tryz.sizeOf226
 v222 := Tryz.zeroValue226
 t228 := Tryz.underlying242
 a228 := Tryz.isAgg242
 z228 := Tryz.sizeOf242
 v228 := Tryz.zeroValue242
 t229 := Tryz.underlying115
 a229 := Tryz.isAgg115
 z229 := Tryz.sizeOf115
 v229 := Tryz.zeroValue115 }
open Go.Sort Go.RowKit in
theorem Tryz.slices_Sort_int (blk off cap : Nat) (zs : List Int) (w : World) (hH : Holds (Value.int .i64) w blk off zs.toArray) (hblk : blk < w.heap.size) (hsz : zs.length < 4611686018427387904) :
  Calls Tryz.prog 39 #[.slice (some ⟨blk, off, none⟩) zs.length cap] w fun e w' =>
   e = .returned (.tuple #[]) ∧ ∃ n os, w' = grow (putRow (Value.int .i64) (Sort.ahead w n) blk off (zs.mergeSort fun x y => decide (x ≤ y)).toArray) os := Any.slices_Sort_int Tryz.lays189 blk off cap zs w hH hblk hsz
def Tryz.lays112_ren : Go.Shelf.Ren := ⟨fun | 112 => 102 | n => n, fun | 28 => 36 | 3 => 3 | 4 => 4 | 0 => 0 | n => n, fun | n => n⟩
theorem Tryz.lays112 : Go.Proofs.Lays.n112 Tryz.prog Tryz.lays112_ren := {
 mixed := by kernel_rfl
 f112 := Tryz.func102.trans (congrArg some (by kernel_rfl))
 t0 := Tryz.underlying0
 a0 := Tryz.isAgg0
 z0 := Tryz.sizeOf0
 v0 := Tryz.zeroValue0
 t3 := Tryz.underlying3
 a3 := Tryz.isAgg3
 z3 := Tryz.sizeOf3
 v3 := Tryz.zeroValue3
 t4 := Tryz.underlying4
 a4 := Tryz.isAgg4
 z4 := Tryz.sizeOf4
 v4 := Tryz.zeroValue4
 t28 := Tryz.underlying36
 a28 := Tryz.isAgg36
 z28 := Tryz.sizeOf36
 v28 := Tryz.zeroValue36 }
open Go.RowKit Go.Lib Go.Sort in
theorem Tryz.slices_Reverse_int (blk off cap : Nat) (zs : List Int) (w : World) (hH : Holds (Value.int .i64) w blk off zs.toArray) (hsz : zs.length ≤ 9223372036854775807) :
  Calls Tryz.prog 102 #[.slice (some ⟨blk, off, none⟩) zs.length cap] w fun e w' => e = .returned (.tuple #[]) ∧ ∃ n, w' = putRow (Value.int .i64) (Sort.ahead w n) blk off zs.reverse.toArray := Any.slices_Reverse_int Tryz.lays112 blk off cap zs w hH hsz
open Go.RowKit Go.Lib Go.Sort in
theorem Tryz.slices_Reverse_int_empty (a : Option Addr) (cap : Nat) (w : World) :
  Calls Tryz.prog 102 #[.slice a 0 cap] w fun e w' => e = .returned (.tuple #[]) ∧ w' = w := Any.slices_Reverse_int_empty Tryz.lays112 a cap w
def Tryz.laysNm215_ren : Go.Shelf.Ren := ⟨fun | 15 => 38 | n => n, fun | 22 => 36 | 3 => 3 | 4 => 4 | n => n, fun | n => n⟩
theorem Tryz.laysNm215 : Go.Proofs.Lays2.n15 Tryz.prog Tryz.laysNm215_ren := {
 mixed := by kernel_rfl
 f15 := Tryz.func38.trans (congrArg some (by kernel_rfl))
 t3 := Tryz.underlying3
 a3 := Tryz.isAgg3
 z3 := Tryz.sizeOf3
 v3 := Tryz.zeroValue3
 t4 := Tryz.underlying4
 a4 := Tryz.isAgg4
 z4 := Tryz.sizeOf4
 v4 := Tryz.zeroValue4
 t22 := Tryz.underlying36
 a22 := Tryz.isAgg36
 z22 := Tryz.sizeOf36
 v22 := Tryz.zeroValue36
 i3 := by kernel_rfl }
open Go.RowKit Go.Lib in
theorem Tryz.slices_Clone_int (b off n c : Nat) (zs : List Int) (w : World) (hz : n ≤ zs.length) (hbig : n * 8 ≤ 140737488355328) (hc : ∀ j, j < zs.length → w.cell? ⟨b, off + j, none⟩ = some (.int .i64 (zs.getD j 0))) :
  Calls Tryz.prog 38 #[.slice (some ⟨b, off, none⟩) n c] w fun e w' => ∃ v', e = .returned v' ∧ w'.ownsRow w.heap.size 3 1 v' n ((zs.take n).map (Value.int .i64)) ∧ v' ≠ .slice none 0 0 ∧ Below w.heap.size w w' := Any.slices_Clone_int Tryz.laysNm215 b off n c zs w hz hbig hc
open Go.RowKit Go.Lib in
theorem Tryz.slices_Clone_int_nil (n c : Nat) (w : World) :
  Calls Tryz.prog 38 #[.slice none n c] w fun e w' => e = .returned (.slice none 0 0) ∧ w' = w := Any.slices_Clone_int_nil Tryz.laysNm215 n c w
open Go.RowKit Go.Lib in
theorem Tryz.slices_Clone_int_zero (a : Addr) (c : Nat) (w : World) :
  Calls Tryz.prog 38 #[.slice (some a) 0 c] w fun e w' => ∃ v', e = .returned v' ∧ w'.ownsRow w.heap.size 3 1 v' 0 [] ∧ v' ≠ .slice none 0 0 ∧ Below w.heap.size w w' := Any.slices_Clone_int_zero Tryz.laysNm215 a c w
def Tryz.laysNm220_ren : Go.Shelf.Ren := ⟨fun | 20 => 40 | n => n, fun | 22 => 36 | 3 => 3 | 4 => 4 | 0 => 0 | n => n, fun | n => n⟩
theorem Tryz.laysNm220 : Go.Proofs.Lays2.n20 Tryz.prog Tryz.laysNm220_ren := {
 mixed := by kernel_rfl
 f20 := Tryz.func40.trans (congrArg some (by kernel_rfl))
 t0 := Tryz.underlying0
 a0 := Tryz.isAgg0
 z0 := Tryz.sizeOf0
 v0 := Tryz.zeroValue0
 t3 := Tryz.underlying3
 a3 := Tryz.isAgg3
 z3 := Tryz.sizeOf3
 v3 := Tryz.zeroValue3
 t4 := Tryz.underlying4
 a4 := Tryz.isAgg4
 z4 := Tryz.sizeOf4
 v4 := Tryz.zeroValue4
 t22 := Tryz.underlying36
 a22 := Tryz.isAgg36
 z22 := Tryz.sizeOf36
 v22 := Tryz.zeroValue36
 i3 := by kernel_rfl }
open Go.RowKit Go.Lib Go.Sort in
theorem Tryz.slices_Compact_int (blk off cap : Nat) (zs : List Int) (w : World) (hH : Holds (Value.int .i64) w blk off zs.toArray) (hsz : zs.length ≤ 9223372036854775807) (hcap : zs.length ≤ cap) :
  Calls Tryz.prog 40 #[.slice (some ⟨blk, off, none⟩) zs.length cap] w fun e w' => e = .returned (.slice (some ⟨blk, off, none⟩) (Lib.compact zs).length cap) ∧ ∃ q, w' = putRow (Value.int .i64) (Sort.ahead w q) blk off (Lib.compact zs ++ List.replicate (zs.length - (Lib.compact zs).length) 0).toArray := Any.slices_Compact_int Tryz.laysNm220 blk off cap zs w hH hsz hcap
open Go.RowKit Go.Lib Go.Sort in
theorem Tryz.slices_Compact_int_empty (a : Option Addr) (cap : Nat) (w : World) :
  Calls Tryz.prog 40 #[.slice a 0 cap] w fun e w' => e = .returned (.slice a 0 cap) ∧ w' = w := Any.slices_Compact_int_empty Tryz.laysNm220 a cap w
open Go.RowKit Go.Sort in
theorem Tryz.slices_Sort_int_none (p : Option Addr) (cap : Nat) (w : World) :
  Calls Tryz.prog 39 #[.slice p 0 cap] w fun e w' => e = .returned (.tuple #[]) ∧ w' = w := Any.slices_Sort_int_none Tryz.lays189 p cap w
end Go.Proofs
namespace Go.Proofs.YtcppkaphlcflgaaGreat
open Go.RowKit

theorem Own.cut {α : Type} {f : α → Value} {e : TypeId} {w : World} {base g n c m : Nat} {xs : List α} (h : Own f e w base (.slice (some ⟨g, 0, none⟩) n c) xs) (hm : m ≤ xs.length) : Own f e w base (.slice (some ⟨g, 0, none⟩) m c) (xs.take m) := by
 rcases h.2 with ⟨hv, _⟩ | ⟨g', cap, cur, hv, hgb, hg, hcap, hmx, hsz, ht⟩
 ·cases hv
 ·injection hv with e1 e2 e3
  injection e1 with e1
  injection e1 with e1
  subst e1 e3
  have hl : (xs.take m).length = m := by rw [List.length_take]; omega
  refine ⟨by rw [List.length_map, Nat.mul_one], .inr ⟨g, c, cur, by rw [hl], hgb, hg, by rw [hl]; omega, hmx, hsz, ?_⟩⟩
  rw [hl, List.map_take, ← ht, List.take_take]
  congr 1
  omega
theorem Own.relaid {α : Type} [Inhabited α] {f : α → Value} {e : TypeId} {w : World} {base g n c k : Nat} {xs : List α} (h : Own f e w base (.slice (some ⟨g, 0, none⟩) n c) xs) (ys : List α) (hl : ys.length = xs.length) (os : Array Obj) :
  Own f e (Sort.grow (Sort.putRow f (Sort.ahead w k) g 0 ys.toArray) os) base (.slice (some ⟨g, 0, none⟩) n c) ys ∧ Below base w (Sort.grow (Sort.putRow f (Sort.ahead w k) g 0 ys.toArray) os) := by
 rcases h.2 with ⟨hv, _⟩ | ⟨g', cap, cur, hv, hgb, hg, hcap, hmx, hsz, ht⟩
 ·cases hv
 ·injection hv with e1 e2 e3
  injection e1 with e1
  injection e1 with e1
  subst e1 e3
  have hlt : g < w.heap.size := by
   rcases Nat.lt_or_ge g w.heap.size with hlt | hge
   ·exact hlt
   ·rw [Array.getElem?_eq_none hge] at hg; cases hg
  have hblk : ∀ j, (Sort.grow (Sort.putRow f (Sort.ahead w k) g 0 ys.toArray) os).heap[j]? = if j < w.heap.size then (if g = j then w.heap[j]?.map (Sort.onCells (Sort.putCells f 0 ys.toArray)) else w.heap[j]?) else os[j - w.heap.size]? := fun j => by
   simp only [Sort.grow, Sort.putRow, Sort.mapBlock, Sort.ahead, Array.getElem?_append, Array.size_modify, Array.getElem?_modify]
  refine ⟨⟨by rw [List.length_map, Nat.mul_one], .inr ⟨g, c, Sort.putCells f 0 ys.toArray cur, by rw [hl, e2], hgb, ?_, by rw [hl]; exact hcap, hmx, ?_, ?_⟩⟩, ?_⟩
  ·rw [hblk g, if_pos hlt, if_pos rfl, hg]; rfl
  ·simp [Sort.putCells, hsz]
  ·apply List.ext_getElem?
   intro i
   rw [List.getElem?_take, List.getElem?_map]
   by_cases hi : i < ys.length
   ·rw [if_pos (by omega)]
    have hic : i < cur.size := by omega
    simp [Sort.putCells, hi, hic]
   ·rw [if_neg (by omega), List.getElem?_eq_none (by omega)]
    rfl
  ·refine ⟨rfl, rfl, rfl, by simp, fun j hj => ?_⟩
   rw [hblk j, if_pos (by omega), if_neg (by omega)]
theorem own_holds {w : World} {base g n c : Nat} {xs : List Int} (h : Own intV 3 w base (.slice (some ⟨g, 0, none⟩) n c) xs) : Sort.Holds (Value.int .i64) w g 0 xs.toArray := fun j hj => by
 have hj' : j < xs.length := by simpa using hj
 obtain ⟨h1, h2⟩ := h.cellg hj'
 rw [Nat.zero_add]
 refine ⟨?_, h2⟩
 rw [h1, getElem!_pos _ j hj]
 rfl
def sortL (xs : List Int) : List Int := xs.mergeSort fun x y => decide (x ≤ y)
theorem sortL_len (xs : List Int) : (sortL xs).length = xs.length := List.length_mergeSort ..
theorem sort_calls (v : Value) (xs : List Int) (base : Nat) (w : World) (h : Own intV 3 w base v xs) (hl : xs.length ≤ 1000000) :
  Calls Tryz.prog 39 #[v] w fun e w' => e = .returned (.tuple #[]) ∧ Own intV 3 w' base v (sortL xs) ∧ Below base w w' := by
 obtain ⟨a, c, rfl, _⟩ := h.formN (n := xs.length) rfl
 by_cases h0 : xs.length = 0
 ·have hx : xs = [] := List.eq_nil_of_length_eq_zero h0
  subst hx
  exact (Tryz.slices_Sort_int_none a c w).mono fun e w' ⟨he, hw⟩ => ⟨he, by rw [hw, show sortL [] = [] by simp [sortL]]; exact h, by rw [hw]; exact Below.refl _ _⟩
 ·obtain ⟨g, rfl, hgb, hgl⟩ := h.addr (by omega)
  refine (Tryz.slices_Sort_int g 0 c xs w (own_holds h) hgl (by omega)).mono ?_
  rintro e w' ⟨he, k, os, rfl⟩
  exact ⟨he, h.relaid _ (sortL_len xs) os⟩
theorem compact_len (xs : List Int) : (Lib.compact xs).length ≤ xs.length := by
 unfold Lib.compact Lib.compactUpTo
 rw [List.length_map]
 have h := List.length_filter_le (Lib.keeps xs.toArray) (List.range xs.length)
 rw [List.length_range] at h
 exact h
theorem compact_calls (v : Value) (xs : List Int) (base : Nat) (w : World) (h : Own intV 3 w base v xs) (hl : xs.length ≤ 1000000) :
  Calls Tryz.prog 40 #[v] w fun e w' => ∃ v', e = .returned v' ∧ Own intV 3 w' base v' (Lib.compact xs) ∧ Below base w w' := by
 obtain ⟨a, c, rfl, hc⟩ := h.formN (n := xs.length) rfl
 by_cases h0 : xs.length = 0
 ·have hx : xs = [] := List.eq_nil_of_length_eq_zero h0
  subst hx
  exact (Tryz.slices_Compact_int_empty a c w).mono fun e w' ⟨he, hw⟩ => ⟨_, he, by rw [hw]; exact h, by rw [hw]; exact Below.refl _ _⟩
 ·obtain ⟨g, rfl, hgb, hgl⟩ := h.addr (by omega)
  refine (Tryz.slices_Compact_int g 0 c xs w (own_holds h) (by omega) hc).mono ?_
  rintro e w' ⟨he, k, rfl⟩
  have hcl := compact_len xs
  have hr := h.relaid (k := k) (Lib.compact xs ++ List.replicate (xs.length - (Lib.compact xs).length) 0) (by rw [List.length_append, List.length_replicate]; omega) #[]
  rw [Sort.grow_empty] at hr
  refine ⟨_, he, ?_, hr.2⟩
  have := hr.1.cut (m := (Lib.compact xs).length) (by rw [List.length_append]; omega)
  rw [List.take_left'] at this
  ·exact this
  ·rfl
theorem infoI : (Tryz.prog.info? 3).map (fun i => (i.zero, i.size, i.bytes)) = some (some (.int .i64 0), 1, 8) := by kernel_rfl
theorem cloneI_calls (a : Option Addr) (n c : Nat) (xs : List Int) (w : World) (hx : Arr intV w w.heap.size a n xs) (hn : n ≤ 1000000) :
  Calls Tryz.prog 38 #[.slice a n c] w fun e w' => (∃ v, e = .returned v ∧ Own intV 3 w' w.heap.size v xs) ∧ Below w.heap.size w w' := by
 have hl := hx.len
 cases a with
 | none =>
  have hn : xs = [] := by
   by_cases h0 : n = 0
   ·subst h0; exact List.eq_nil_of_length_eq_zero hl
   ·obtain ⟨b, o, _, ha, _⟩ := hx.atv (k := 0) (by omega); cases ha
  subst hn
  exact (Tryz.slices_Clone_int_nil n c w).mono fun e w' ⟨he, hw⟩ => ⟨⟨_, he, Own.nil _ _⟩, by rw [hw]; exact Below.refl _ _⟩
 | some p =>
  by_cases h0 : n = 0
  ·subst h0
   have hx0 : xs = [] := List.eq_nil_of_length_eq_zero hl
   subst hx0
   exact (Tryz.slices_Clone_int_zero p c w).mono fun e w' ⟨v', he, ho, _, hb⟩ => ⟨⟨_, he, ho⟩, hb⟩
  ·obtain ⟨b, o, ha, _, hc⟩ := hx.2.2 h0
   injection ha with ha
   subst ha
   refine (Tryz.slices_Clone_int b o n c xs w (by omega) (by omega) (fun j hj => by rw [hc j hj, List.getD_eq_getElem?_getD, List.getElem?_eq_getElem hj]; rfl)).mono ?_
   rintro e w' ⟨v', he, ho, _, hb⟩
   rw [List.take_of_length_le (by omega)] at ho
   refine ⟨⟨v', he, ?_⟩, hb⟩
   unfold Own
   rw [hl]
   exact ho
end Go.Proofs.YtcppkaphlcflgaaGreat
namespace Go.Proofs.YtcppkaphlcflgaaGreat
open Go.RowKit
theorem reverse_calls (v : Value) (xs : List Int) (base : Nat) (w : World) (h : Own intV 3 w base v xs) (hl : xs.length ≤ 1000000) :
  Calls Tryz.prog 102 #[v] w fun e w' => e = .returned (.tuple #[]) ∧ Own intV 3 w' base v xs.reverse ∧ Below base w w' := by
 obtain ⟨a, c, rfl, _⟩ := h.formN (n := xs.length) rfl
 by_cases h0 : xs.length = 0
 ·have hx : xs = [] := List.eq_nil_of_length_eq_zero h0
  subst hx
  exact (Tryz.slices_Reverse_int_empty a c w).mono fun e w' ⟨he, hw⟩ => ⟨he, by rw [hw]; exact h, by rw [hw]; exact Below.refl _ _⟩
 ·obtain ⟨g, rfl, hgb, hgl⟩ := h.addr (by omega)
  refine (Tryz.slices_Reverse_int g 0 c xs w (own_holds h) (by omega)).mono ?_
  rintro e w' ⟨he, k, rfl⟩
  have hr := h.relaid (k := k) xs.reverse (by rw [List.length_reverse]) #[]
  rw [Sort.grow_empty] at hr
  exact ⟨he, hr⟩
end Go.Proofs.YtcppkaphlcflgaaGreat
namespace Go.Proofs.YtcppkaphlcflgaaGreat
open Go.RowKit

section
variable {w : World} {ops : Array Oper} {rest : List Oper} {o : Oper} {ac : Act} {Q : Exit → Act → World → Prop}
theorem wp_appI {K : Act → World → Prop} (s x : Operand)
  (ho : o.op = .call { callee := .builtin .append, args := #[s, x], argTypes := #[36, 36] }) (base : Nat)
  (v : Value) (xs : List Int) (hs : ac.eval s = v) (hown : Own intV 3 w base v xs) (B : Nat) (a : Option Addr) (m c : Nat) (ys : List Int) (hx : ac.eval x = .slice a m c) (hy : Arr intV w B a m ys)
  (hbytes : xs.length + m ≤ 10000000) (hbase : base ≤ w.heap.size)
  (h : ∀ v' w', Own intV 3 w' base v' (xs ++ ys) → w.grownBy w' v.ownBlock → (v'.ownBlock = v.ownBlock ∨ v'.ownBlock = some w.heap.size) → K (ac.put o.dst v') w') : o.wp Tryz.prog ac w K Q := by
 obtain ⟨i0, hi, hz0, hz1, hz2⟩ := info_parts infoI
 exact wp_append_Own s x 36 ho base 3 i0 _ 8 Tryz.underlying36 hi hz0 hz1 hz2 rfl intV_one v xs hs hown B a m c ys hx hy (by omega) (by simp only [maxLen]; omega) hbase h
theorem wpList_ontoI (hgd : o.guard = none) (s x : Operand)
  (ho : o.op = .call { callee := .builtin .append, args := #[s, x], argTypes := #[36, 36] }) (base : Nat)
  (v : Value) (xs : List Int) (hs : ac.eval s = v) (hown : Own intV 3 w base v xs) (B : Nat) (a : Option Addr) (m c : Nat) (ys : List Int) (hx : ac.eval x = .slice a m c) (hy : Arr intV w B a m ys)
  (hbytes : xs.length + m ≤ 10000000) (hbase : base ≤ w.heap.size)
  (h : ∀ v' w', Hid (Own intV 3 w' base v' (xs ++ ys)) → Hid (Below base w w') → wpList Tryz.prog ops Q rest (ac.put o.dst v') w') : wpList Tryz.prog ops Q (o :: rest) ac w :=
 wpList_plain hgd fun _ hK => wp_appI s x ho base v xs hs hown B a m c ys hx hy hbytes hbase fun v' w' h1 h2 _ => hK _ _ (h v' w' (Lib.hid h1) (Lib.hid (below_own (Below.refl base w) hown h2 hbase)))
theorem wpList_litI {cs : Array Value} (hgd : o.guard = none) (s x : Operand)
  (ho : o.op = .call { callee := .builtin .append, args := #[s, x], argTypes := #[36, 36] }) (base : Nat)
  (v : Value) (xs : List Int) (hs : ac.eval s = v) (hown : Own intV 3 w base v xs) (y : Int) (hx : ac.eval x = .slice (some ⟨w.heap.size, 0, none⟩) 1 1) (hcs : cs = #[.int .i64 y])
  (hbytes : xs.length ≤ 1000000) (hbase : base ≤ w.heap.size)
  (h : ∀ v' w', Hid (Own intV 3 w' base v' (xs ++ [y])) → Hid (Below base w w') → wpList Tryz.prog ops Q rest (ac.put o.dst v') w') : wpList Tryz.prog ops Q (o :: rest) ac (w.alloc (.cells cs 3)) :=
 wpList_ontoI hgd s x ho base v xs hs (hown.alloc _) _ _ 1 1 [y] hx (Arr.lit w 3 [y] 1 rfl (by omega) hcs) (by omega) (by simp; omega) fun v' w' h1 h2 =>
  h v' w' h1 (Lib.hid (((Below.refl base w).alloc hbase _).trans h2.out))
end
theorem Arr.atI {w : World} {B : Nat} {a : Option Addr} {n : Nat} {xs : List Int} (h : Arr intV w B a n xs) {k : Nat} (hk : k < n) :
  ∃ b o, ∃ h' : k < xs.length, a = some ⟨b, o, none⟩ ∧ b < B ∧ w.cell? ⟨b, o + k, none⟩ = some (.int .i64 xs[k]) := h.atv hk
end Go.Proofs.YtcppkaphlcflgaaGreat
