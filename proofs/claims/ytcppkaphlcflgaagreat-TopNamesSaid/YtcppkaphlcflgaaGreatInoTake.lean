import Derived.Test.YtcppkaphlcflgaaGreatRows
import Derived.Test.YtcppkaphlcflgaaGreatMem
import Derived.WalkKit
namespace Go.Proofs.YtcppkaphlcflgaaGreat
open Lib (hid)
set_option maxRecDepth 100000
set_option maxHeartbeats 16000000
section
open Go.RowKit

theorem infoB : (Tryz.prog.info? 5).map (fun i => (i.zero, i.size, i.bytes)) = some (some (.int .u8 0), 1, 1) := by kernel_rfl
theorem madeCells_one (v : Value) (n : Nat) : madeCells #[v] n = (List.replicate n v).toArray := by
 unfold madeCells
 apply Array.ext (by simp)
 intro i h1 h2
 simp [Nat.mod_one]
theorem makeB (n : Nat) (h : n ≤ 140737488355328) (u : World) : (Instr.makeSlice 40 (.int .i64 (n : Int)) (.int .i64 (n : Int))).run Tryz.prog u =
  .ok (.slice (some ⟨u.heap.size, 0, none⟩) n n) (u.alloc (.cells ((List.replicate n (0 : UInt8)).map byteV).toArray 5)) := by
 obtain ⟨i0, hi, hz0, hz1, hz2⟩ := info_parts infoB
 have h := run_make (P := Tryz.prog) u 40 5 i0 (.int .u8 0) Tryz.underlying40 hi hz0 .i64 .i64 (n : Int) (n : Int) (by omega) (Int.le_refl _) (by rw [hz2]; omega) (by omega)
 rw [Int.toNat_natCast, hz1, Nat.mul_one] at h
 rw [List.map_replicate]
 exact h.trans (by rw [show Value.cells (.int .u8 0) = #[.int .u8 0] from rfl, madeCells_one]; rfl)
theorem ownMade (w : World) (base n : Nat) (hb : base ≤ w.heap.size) (hn : n ≤ 140737488355328) :
  Own byteV 5 (w.alloc (.cells ((List.replicate n (0 : UInt8)).map byteV).toArray 5)) base (.slice (some ⟨w.heap.size, 0, none⟩) n n) (List.replicate n (0 : UInt8)) := by
 have h := Own.made (f := byteV) (e := 5) (w := w) (xs := List.replicate n (0 : UInt8)) hb (by rw [List.length_replicate]; simp only [maxLen]; omega)
 rw [List.length_replicate] at h
 exact h
theorem rep_bytes (n : Nat) : ((List.replicate n (0 : UInt8)).map byteV).toArray = Array.replicate n (.int .u8 0) := by
 rw [List.map_replicate, List.toArray_replicate]; rfl
theorem makeC (n : Nat) (h : n ≤ 140737488355328) (u : World) : (Instr.makeSlice 40 (.int .i64 0) (.int .i64 (n : Int))).run Tryz.prog u =
  .ok (.slice (some ⟨u.heap.size, 0, none⟩) 0 n) (u.alloc (.cells (Array.replicate n (.int .u8 0)) 5)) := by
 obtain ⟨i0, hi, hz0, hz1, hz2⟩ := info_parts infoB
 have h := run_make (P := Tryz.prog) u 40 5 i0 (.int .u8 0) Tryz.underlying40 hi hz0 .i64 .i64 0 (n : Int) (by omega) (by omega) (by rw [hz2]; omega) (by omega)
 rw [Int.toNat_natCast, hz1, Nat.mul_one] at h
 rw [← rep_bytes, List.map_replicate]
 exact h.trans (by rw [show Value.cells (.int .u8 0) = #[.int .u8 0] from rfl, madeCells_one]; rfl)
theorem ownMadeC (w : World) (base n : Nat) (hb : base ≤ w.heap.size) (hn : n ≤ 140737488355328) :
  Own byteV 5 (w.alloc (.cells (Array.replicate n (.int .u8 0)) 5)) base (.slice (some ⟨w.heap.size, 0, none⟩) 0 n) ([] : List UInt8) :=
 ⟨by simp, .inr ⟨w.heap.size, n, _, rfl, hb, heap_alloc_new w _, by simp, by simp only [maxLen]; omega, by simp, by simp⟩⟩
theorem makeZ (n : Nat) (h : n ≤ 140737488355328) (u : World) : (Instr.makeSlice 40 (.int .i64 (n : Int)) (.int .i64 (n : Int))).run Tryz.prog u =
  .ok (.slice (some ⟨u.heap.size, 0, none⟩) n n) (u.alloc (.cells (Array.replicate n (.int .u8 0)) 5)) := by
 rw [makeB n h u, rep_bytes]
theorem ownMadeZ (w : World) (base n : Nat) (hb : base ≤ w.heap.size) (hn : n ≤ 140737488355328) :
  Own byteV 5 (w.alloc (.cells (Array.replicate n (.int .u8 0)) 5)) base (.slice (some ⟨w.heap.size, 0, none⟩) n n) (List.replicate n (0 : UInt8)) := by
 rw [← rep_bytes]; exact ownMade w base n hb hn
theorem cutB_from (a : Option Addr) (n c l : Nat) (hl : l ≤ n) (w : World) : (Instr.slice 40 (.slice a n c) (some (.int .i64 (l : Int))) none none).run Tryz.prog w = .ok (.slice (cutA a c l) (n - l) (c - l)) w := by
 obtain ⟨i0, hi, hz0, hz1, hz2⟩ := info_parts infoB
 exact run_cut_from Tryz.underlying40 hi hz1 a n c l hl w
theorem cutB_to (a : Option Addr) (n c h : Nat) (hl : h ≤ c) (w : World) : (Instr.slice 40 (.slice a n c) none (some (.int .i64 (h : Int))) none).run Tryz.prog w = .ok (.slice a h c) w := by
 obtain ⟨i0, hi, hz0, hz1, hz2⟩ := info_parts infoB
 exact run_cut_to Tryz.underlying40 hi a n c h hl w
theorem cutB_mid (a : Option Addr) (n c l h : Nat) (hl : l ≤ h) (hh : h ≤ c) (w : World) : (Instr.slice 40 (.slice a n c) (some (.int .i64 (l : Int))) (some (.int .i64 (h : Int))) none).run Tryz.prog w = .ok (.slice (cutA a c l) (h - l) (c - l)) w := by
 obtain ⟨i0, hi, hz0, hz1, hz2⟩ := info_parts infoB
 exact run_cut_mid Tryz.underlying40 hi hz1 a n c l h hl hh w
theorem wpList_appB {w : World} {ops : Array Oper} {rest : List Oper} {o : Oper} {ac : Act} {Q : Exit → Act → World → Prop} (hgd : o.guard = none) (s x : Operand)
  (ho : o.op = .call { callee := .builtin .append, args := #[s, x], argTypes := #[40, 40] }) (base : Nat)
  (v : Value) (xs : List UInt8) (hs : ac.eval s = v) (hown : Own byteV 5 w base v xs) (B : Nat) (a : Option Addr) (m c : Nat) (ys : List UInt8) (hx : ac.eval x = .slice a m c) (hy : Bytes w B a m ys)
  (hbytes : xs.length + m ≤ 140737488355328) (hbase : base ≤ w.heap.size)
  (h : ∀ v' w', Own byteV 5 w' base v' (xs ++ ys) → w.grownBy w' v.ownBlock → (v'.ownBlock = v.ownBlock ∨ v'.ownBlock = some w.heap.size) → wpList Tryz.prog ops Q rest (ac.put o.dst v') w') : wpList Tryz.prog ops Q (o :: rest) ac w := by
 obtain ⟨i0, hi, hz0, hz1, hz2⟩ := info_parts infoB
 exact wpList_append_Own hgd s x 40 ho base 5 i0 _ 1 Tryz.underlying40 hi hz0 hz1 hz2 rfl byteV_one v xs hs hown B a m c ys hx hy (by omega) (by simp only [maxLen]; omega) hbase h
theorem wpList_ontoB {w : World} {ops : Array Oper} {rest : List Oper} {o : Oper} {ac : Act} {Q : Exit → Act → World → Prop} (hgd : o.guard = none) (s x : Operand)
  (ho : o.op = .call { callee := .builtin .append, args := #[s, x], argTypes := #[40, 40] }) (base : Nat)
  (v : Value) (xs : List UInt8) (hs : ac.eval s = v) (hown : Own byteV 5 w base v xs) (B : Nat) (a : Option Addr) (m c : Nat) (ys : List UInt8) (hx : ac.eval x = .slice a m c) (hy : Bytes w B a m ys)
  (hbytes : xs.length + m ≤ 140737488355328) (hbase : base ≤ w.heap.size)
  (h : ∀ v' w', Hid (Own byteV 5 w' base v' (xs ++ ys)) → Hid (Below base w w') → wpList Tryz.prog ops Q rest (ac.put o.dst v') w') : wpList Tryz.prog ops Q (o :: rest) ac w :=
 wpList_appB hgd s x ho base v xs hs hown B a m c ys hx hy hbytes hbase fun v' w' h1 h2 _ => h v' w' (hid h1) (hid (below_own (Below.refl base w) hown h2 hbase))
theorem wpList_litB {w : World} {cs : Array Value} {ops : Array Oper} {rest : List Oper} {o : Oper} {ac : Act} {Q : Exit → Act → World → Prop} (hgd : o.guard = none) (s x : Operand)
  (ho : o.op = .call { callee := .builtin .append, args := #[s, x], argTypes := #[40, 40] }) (base : Nat)
  (v : Value) (xs : List UInt8) (hs : ac.eval s = v) (hown : Own byteV 5 w base v xs) (m : Nat) (ys : List UInt8) (hx : ac.eval x = .slice (some ⟨w.heap.size, 0, none⟩) m m) (hm : ys.length = m) (hcs : cs = (ys.map byteV).toArray)
  (hbytes : xs.length + m ≤ 140737488351232) (hbase : base ≤ w.heap.size)
  (h : ∀ v' w', Hid (Own byteV 5 w' base v' (xs ++ ys)) → Hid (Below base w w') → wpList Tryz.prog ops Q rest (ac.put o.dst v') w') : wpList Tryz.prog ops Q (o :: rest) ac (w.alloc (.cells cs 5)) :=
 wpList_appB hgd s x ho base v xs hs (hown.alloc _) _ _ m m ys hx (Arr.lit w 5 ys m hm (by omega) hcs) (by omega) (by simp; omega) fun v' w' h1 h2 _ =>
  h v' w' (hid h1) (hid (((Below.refl base w).alloc hbase _).trans (below_own (Below.refl base _) (hown.alloc _) h2 (by simp; omega))))
theorem wp_appB {w : World} {o : Oper} {ac : Act} {K : Act → World → Prop} {Q : Exit → Act → World → Prop} (s x : Operand)
  (ho : o.op = .call { callee := .builtin .append, args := #[s, x], argTypes := #[40, 40] }) (base : Nat)
  (v : Value) (xs : List UInt8) (hs : ac.eval s = v) (hown : Own byteV 5 w base v xs) (B : Nat) (a : Option Addr) (m c : Nat) (ys : List UInt8) (hx : ac.eval x = .slice a m c) (hy : Bytes w B a m ys)
  (hbytes : xs.length + m ≤ 140737488355328) (hbase : base ≤ w.heap.size)
  (h : ∀ v' w', Own byteV 5 w' base v' (xs ++ ys) → w.grownBy w' v.ownBlock → (v'.ownBlock = v.ownBlock ∨ v'.ownBlock = some w.heap.size) → K (ac.put o.dst v') w') : o.wp Tryz.prog ac w K Q := by
 obtain ⟨i0, hi, hz0, hz1, hz2⟩ := info_parts infoB
 exact wp_append_Own s x 40 ho base 5 i0 _ 1 Tryz.underlying40 hi hz0 hz1 hz2 rfl byteV_one v xs hs hown B a m c ys hx hy (by omega) (by simp only [maxLen]; omega) hbase h
theorem step_appB {w : World} {ops : Array Oper} {o : Oper} {a : Act} {K : Act → World → Prop} {Q : Exit → Act → World → Prop} {E : Prop} (hgd : o.guard = none) (s x : Operand)
  (ho : o.op = .call { callee := .builtin .append, args := #[s, x], argTypes := #[40, 40] }) (base : Nat)
  (v : Value) (xs : List UInt8) (hs : a.eval s = v) (hown : Own byteV 5 w base v xs) (B : Nat) (ad : Option Addr) (m c : Nat) (ys : List UInt8) (hx : a.eval x = .slice ad m c) (hy : Bytes w B ad m ys)
  (hbytes : xs.length + m ≤ 140737488355328) (hbase : base ≤ w.heap.size)
  (h : ∀ v' w', Hid (Own byteV 5 w' base v' (xs ++ ys)) → Hid (Below base w w') → K (a.put o.dst v') w') :
  if Region.wanted o (yielded ops a.tmps) = true then Oper.wp Tryz.prog o a w K Q else E := by
 have hw : Region.wanted o (yielded ops a.tmps) = true := by simp [Region.wanted, hgd]
 rw [if_pos hw]
 exact wp_appB s x ho base v xs hs hown B ad m c ys hx hy hbytes hbase fun v' w' h1 h2 _ => h v' w' (hid h1) (hid (below_own (Below.refl base w) hown h2 hbase))
end
section

def bigL (X n : Nat) : List UInt8 := (List.range n).map fun i => UInt8.ofNat (X / 256 ^ i)
theorem bigL_len (X n : Nat) : (bigL X n).length = n := by simp [bigL]
theorem bigL_snoc (X k : Nat) : bigL X (k + 1) = bigL X k ++ [UInt8.ofNat (X / 256 ^ k)] := by simp [bigL, List.range_succ]
def numL : List UInt8 → Nat
 | [] => 0
 | b :: bs => b.toNat + 256 * numL bs
theorem numL_lt (xs : List UInt8) : numL xs < 256 ^ xs.length := by
 induction xs with
 | nil => simp [numL]
 | cons b bs ih =>
  have := b.toNat_lt
  simp only [numL, List.length_cons, Nat.pow_succ]
  omega
theorem bigL_cons (X n : Nat) : bigL X (n + 1) = UInt8.ofNat X :: bigL (X / 256) n := by
 simp only [bigL, List.range_succ_eq_map, List.map_cons, List.map_map, Nat.pow_zero, Nat.div_one]
 congr 1
 apply List.map_congr_left
 intro i _
 simp only [Function.comp_apply, Nat.pow_succ, Nat.div_div_eq_div_mul, Nat.mul_comm]
theorem numL_bigL (X n : Nat) : numL (bigL X n) = X % 256 ^ n := by
 induction n generalizing X with
 | zero => simp [bigL, numL, Nat.mod_one]
 | succ n ih =>
  have h := Nat.mod_mul (x := X) (a := 256) (b := 256 ^ n)
  have e : 256 ^ (n + 1) = 256 * 256 ^ n := by rw [Nat.pow_succ, Nat.mul_comm]
  rw [bigL_cons, numL, ih, UInt8.toNat_ofNat', e, h]
theorem numL_big_lt {X n : Nat} (h : X < 256 ^ n) : numL (bigL X n) = X := by rw [numL_bigL, Nat.mod_eq_of_lt h]
theorem bigL_numL (xs : List UInt8) : bigL (numL xs) xs.length = xs := by
 induction xs with
 | nil => rfl
 | cons b bs ih =>
  have hb := b.toNat_lt
  rw [List.length_cons, bigL_cons, numL]
  have h1 : (b.toNat + 256 * numL bs) / 256 = numL bs := by omega
  have h2 : UInt8.ofNat (b.toNat + 256 * numL bs) = b := by
   apply UInt8.toNat_inj.1
   rw [UInt8.toNat_ofNat']
   omega
  rw [h1, ih, h2]
def strL (xs : List UInt8) : ByteArray := ⟨xs.toArray⟩
end
section
open Go.RowKit

end
section
open Go.RowKit

theorem iput_calls (v0 : Value) (xs : List UInt8) (X n base : Nat) (w : World) (hX : X < 9223372036854775808) (hn : n ≤ 1000) (hl : xs.length ≤ 1000000) (h0 : Own byteV 5 w base v0 xs) (hbase : base ≤ w.heap.size) :
  Calls Tryz.prog 170 #[v0, .int .i64 X, .int .i64 n] w fun e w' => (∃ v, e = .returned v ∧ Own byteV 5 w' base v (xs ++ bigL X n)) ∧ Below base w w' := by
 have H0 := hid h0
 clear h0
 go_enter Tryz.func170, Tryz.ntmps170
 go_wp2
 go_loopw [0, 1, 8] (fun v x i wr => ∃ k : Nat, k ≤ n ∧ i = .int .i64 k ∧ x = .int .i64 (X / 256 ^ k : Nat) ∧ Own byteV 5 wr base v (xs ++ bigL X k) ∧ Below base w wr) (fun _ _ i _ => n - (intOf i).toNat)
 case atStart =>
  exact ⟨0, by omega, rfl, by simp, by simpa [bigL] using H0.out, Below.refl _ _⟩
 case round =>
  obtain ⟨k, hk, rfl, rfl, ho, hb⟩ := hrel
  have HO := hid ho
  have HB := hid hb
  have hsz := hb.size
  have hlt0 : X / 256 ^ k < 9223372036854775808 := Nat.lt_of_le_of_lt (Nat.div_le_self _ _) hX
  have hnext := hid (show X / 256 ^ k / 256 = X / 256 ^ (k + 1) by rw [Nat.div_div_eq_div_mul, Nat.pow_succ])
  have hbyte := hid (show (UInt8.ofNat (X / 256 ^ k)).toNat = X / 256 ^ k % 256 by rw [UInt8.toNat_ofNat'])
  generalize hY : X / 256 ^ k = Y at *
  have HY := hid hY
  clear ho hb hY
  by_cases hlt : k < n
  ·have hlit := hid (show #[Value.int .u8 ((Y : Int) % 256)] = ([UInt8.ofNat Y].map byteV).toArray by
    rw [show ((Y : Int) % 256) = ((Y % 256 : Nat) : Int) by omega, ← hbyte.out]; rfl)
   go_wp2_with (at_builtin; refine wpList_appB rfl _ _ rfl base _ (xs ++ bigL X k) rfl (HO.out.alloc _) _ _ _ _ [UInt8.ofNat Y] rfl (Arr.lit wr 5 [UInt8.ofNat Y] 1 rfl (by omega) hlit.out) (by rw [List.length_append, bigL_len]; omega) (by simp; omega) ?_; intro v1 w1 hown1 hg1 hat1)
   go_roundw
   case rel =>
    refine ⟨k + 1, by omega, by go_num, ?_, ?_, ?_⟩
    ·rw [← hnext.out]; exact congrArg (Value.int .i64) (by omega)
    ·rw [bigL_snoc, HY.out, ← List.append_assoc]; exact hown1
    ·exact below_own (HB.out.alloc (by omega) _) (HO.out.alloc _) hg1 (by simp; omega)
   case measure => simp [intOf]; omega
  ·obtain rfl : k = n := by omega
   go_wp2
   go_ret
   exact ⟨⟨_, rfl, HO.out⟩, HB.out⟩
theorem putI_calls (v0 : Value) (xs : List UInt8) (x : Int) (n base : Nat) (w : World) (h1 : 0 ≤ x) (h2 : x ≤ 9223372036854775807) (hn : n ≤ 1000) (hl : xs.length ≤ 1000000) (h0 : Own byteV 5 w base v0 xs) (hbase : base ≤ w.heap.size) :
  Calls Tryz.prog 170 #[v0, .int .i64 x, .int .i64 n] w fun e w' => (∃ v, e = .returned v ∧ Own byteV 5 w' base v (xs ++ bigL x.toNat n)) ∧ Below base w w' := by
 have h := iput_calls v0 xs x.toNat n base w (by omega) hn hl h0 hbase
 rw [Int.toNat_of_nonneg h1] at h
 exact h
end
section
open Go.RowKit

theorem numL_drop (xs : List UInt8) (k : Nat) (h : k < xs.length) : numL (xs.drop k) = xs[k].toNat + 256 * numL (xs.drop (k + 1)) := by
 rw [List.drop_eq_getElem_cons h, numL]
theorem numL_drop_lt {xs : List UInt8} {n : Nat} (hn : n ≤ 8) (hl : xs.length = n) (k : Nat) (hk : 0 < k) (hkn : k ≤ n) : numL (xs.drop k) * 256 ≤ 18446744073709551360 := by
 have h := numL_lt (xs.drop k)
 rw [List.length_drop, hl] at h
 have h2 : (256 : Nat) ^ (n - k) ≤ 256 ^ 7 := Nat.pow_le_pow_right (by omega) (by omega)
 have h3 : (256 : Nat) ^ 7 = 72057594037927936 := by decide
 omega
end
section
open Go.RowKit

end
section
open Go.RowKit

theorem i64_or_low (X b : Nat) (hX : X < 36028797018963968) (hb : b < 256) : bits .or .i64 ((X : Int) * 256) (b : Int) = ((X * 256 + b : Nat) : Int) := by
 have h1 : X * 256 ||| b = X * 256 + b := by
  have := Nat.two_pow_add_eq_or_of_lt (i := 8) (b := b) hb X
  rw [Nat.mul_comm X 256]
  exact this.symm
 have e : (X : Int) * 256 = ((X * 256 : Nat) : Int) := by omega
 rw [e]
 unfold bits
 have a1 : (BitVec.ofInt 64 ((X * 256 : Nat) : Int)).toNat = X * 256 := ofInt_i64 _ (by omega)
 have a2 : (BitVec.ofInt 64 (b : Int)).toNat = b := ofInt_i64 _ (by omega)
 show IntKind.i64.wrap ((BitVec.ofInt 64 ((X * 256 : Nat) : Int) ||| BitVec.ofInt 64 (b : Int)).toNat : Int) = _
 rw [BitVec.toNat_or, a1, a2, h1]
 exact IntWalk.i64_in _ ⟨by omega, by omega⟩
theorem numL_drop_lt7 {ys : List UInt8} {k : Nat} (hk : k ≤ 7) (hl : ys.length = k) (j : Nat) (h0 : 0 < j) (hj : j ≤ k) : numL (ys.drop j) < 281474976710656 := by
 have h := numL_lt (ys.drop j)
 rw [List.length_drop, hl] at h
 have h2 : (256 : Nat) ^ (k - j) ≤ 256 ^ 6 := Nat.pow_le_pow_right (by omega) (by omega)
 have h3 : (256 : Nat) ^ 6 = 281474976710656 := by decide
 omega
theorem take_calls (R B : Nat) (a : Option Addr) (n c : Nat) (xs : List UInt8) (k : Nat) (w : World) (hR : Blk w R 40 #[.slice a n c]) (hx : Bytes w B a n xs) (hk : k ≤ n) (hk7 : k ≤ 7) :
  Calls Tryz.prog 145 #[.int .i64 k, .pointer (some ⟨R, 0, none⟩)] w fun e w' => e = .returned (.int .i64 (numL (xs.take k) : Nat)) ∧ w' = w.setCell ⟨R, 0, none⟩ (.slice (cutA a c k) (n - k : Nat) (c - k : Nat)) := by
 have hl := hx.len
 have hm := hid (hx.take hk)
 have hml : (xs.take k).length = k := by rw [List.length_take]; omega
 generalize hys : xs.take k = ys at *
 clear hys
 have HL := hid hml
 have c0 := hR.cellv (i := 0) rfl
 have f0 := hR.frozen 0
 clear hml hl
 go_enter Tryz.func145, Tryz.ntmps145
 go_wp2
 go_loop [4, 5] (fun x i => ∃ j : Nat, j ≤ k ∧ i = .int .i64 ((j : Int) - 1) ∧ x = .int .i64 (numL (ys.drop j) : Nat)) (fun _ i => (intOf i + 1).toNat)
 case atStart =>
  exact ⟨k, by omega, rfl, by rw [List.drop_of_length_le (by have := HL.out; omega)]; rfl⟩
 case round =>
  obtain ⟨j, hj, rfl, rfl⟩ := hrel
  by_cases hlt : 0 < j
  ·obtain ⟨b, o, hk', rfl, hb, hc⟩ := hm.out.at_ (k := j - 1) (by omega)
   have hd := numL_drop ys (j - 1) hk'
   rw [Nat.sub_add_cancel hlt] at hd
   have hlt2 := numL_drop_lt7 hk7 HL.out j hlt hj
   have hbl := (ys[j - 1]).toNat_lt
   have HD := hid hd
   clear hd
   have hor := i64_or_low (numL (ys.drop j)) (ys[j - 1]).toNat (by omega) hbl
   generalize hX : numL (ys.drop j) = X at *
   generalize hY : ys[j - 1] = y at *
   clear hX hY
   obtain ⟨i, rfl⟩ : ∃ i, j = i + 1 := ⟨j - 1, by omega⟩
   rw [Nat.add_sub_cancel] at hc
   rw [Nat.add_sub_cancel] at HD
   rw [show ((i + 1 : Nat) : Int) - 1 = (i : Int) by omega]
   go_wp2
   go_round
   case rel => exact ⟨i, by omega, by go_num, by rw [HD.out]; exact congrArg (Value.int .i64) (by omega)⟩
   case measure => simp [intOf]
  ·obtain rfl : j = 0 := by omega
   have hcut := cutB_from a n c k hk
   go_wp2
   go_ret
   exact ⟨rfl, rfl⟩
structure Taken (R B m : Nat) (ys : List UInt8) (w w' : World) : Prop where
 rest : ∃ a' c', Blk w' R 40 #[.slice a' m c'] ∧ Bytes w' B a' m ys ∧ m ≤ c'
 far : ∀ {g t cs}, g ≠ R → Blk w g t cs → Blk w' g t cs
 size : w'.heap.size = w.heap.size
 below : ∀ {D}, D ≤ R → Below D w w'
theorem take_next (R B : Nat) (a : Option Addr) (n c : Nat) (xs : List UInt8) (k m j i : Nat) (w : World) (hR : Blk w R 40 #[.slice a n c]) (hx : Bytes w B a n (xs.drop j)) (hnc : n ≤ c) (hB : B ≤ R) (hn : n = m + k) (hi : i = j + k) (hk7 : k ≤ 7) :
  Calls Tryz.prog 145 #[.int .i64 k, .pointer (some ⟨R, 0, none⟩)] w fun e w' => e = .returned (.int .i64 (numL ((xs.drop j).take k) : Nat)) ∧ Taken R B m (xs.drop i) w w' := by
 refine (take_calls R B a n c (xs.drop j) k w hR hx (by omega) hk7).mono ?_
 rintro e w' ⟨rfl, rfl⟩
 have h := (hx.drop (l := k) (by omega) hnc).below ((Below.refl B w).setCell (p := ⟨R, 0, none⟩) hB (.slice (cutA a c k) (n - k : Nat) (c - k : Nat)))
 have hr := hR.set 0 (.slice (cutA a c k) (n - k : Nat) (c - k : Nat))
 rw [List.drop_drop, ← hi] at h
 have e : n - k = m := by omega
 rw [e] at h hr ⊢
 exact ⟨rfl, ⟨_, _, hr, h, by omega⟩, fun hne hb => hb.far hne _, by simp, fun hD => (Below.refl _ _).setCell hD _⟩
end
end Go.Proofs.YtcppkaphlcflgaaGreat
