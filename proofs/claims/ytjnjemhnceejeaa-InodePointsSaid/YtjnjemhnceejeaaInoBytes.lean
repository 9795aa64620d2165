/-
  The walk of the law InodeBytes.
-/
import Derived.Test.YtjnjemhnceejeaaInoSmall
import Derived.Test.YtjnjemhnceejeaaInoWrite
import Derived.Test.YtjnjemhnceejeaaInoWrite2
import Derived.Test.YtjnjemhnceejeaaInoRead
import Derived.Test.YtjnjemhnceejeaaInoRead2
import Derived.Test.YtjnjemhnceejeaaNumSame
namespace Go.Proofs.Ytjnjemhnceejeaa
open Go.RowKit

theorem ilong_calls (a : Option Addr) (n c : Nat) (w : World) :
    Calls Try.prog 15 #[.slice a n c] w fun e w' => e = .returned (.bool (decide (1500 < n))) ∧ w = w' := by
  go_enter Try.func15, Try.ntmps15
  go_wp2
  go_ret
  exact ⟨congrArg (fun z => Ending.returned (Value.bool z)) (by simp; omega), rfl⟩
theorem read_calls (a : Option Addr) (n c : Nat) (xs : List UInt8) (w : World) (hx : Bytes w w.heap.size a n xs) (hc : n ≤ c) :
    Calls Try.prog 18 #[.slice a n c] w fun e w' => e = .returned (.tuple #[nodV (Nod.readN xs), .int .i64 (Nod.readE xs)]) ∧ Below w.heap.size w w' := by
  by_cases hn : n = 24
  · subst hn; exact read_right a c xs w hx hc
  · obtain ⟨r1, r2⟩ := Nod.read_short (xs := xs) (by rw [hx.len]; exact hn)
    rw [r1, r2]
    exact read_wrong a n c w hn
namespace Nod
def writeL (i : Nod) : List UInt8 := if Right i then i.bytes else []
def writeE (i : Nod) : Int := if Right i then 0 else 51
theorem write_yes {i : Nod} (h : Right i) : writeL i = i.bytes ∧ writeE i = 0 := by unfold writeL writeE; rw [if_pos h, if_pos h]; exact ⟨rfl, rfl⟩
theorem write_no {i : Nod} (h : ¬ Right i) : writeL i = [] ∧ writeE i = 51 := by unfold writeL writeE; rw [if_neg h, if_neg h]; exact ⟨rfl, rfl⟩
theorem writeL_len (i : Nod) : (writeL i).length ≤ 24 := by
  unfold writeL
  split
  · rw [bytes_len]; omega
  · simp
end Nod
/-- What writing an inode leaves. -/
def WroteN (i : Nod) (w : World) (e : Ending) (w' : World) : Prop := ∃ v, e = .returned (.tuple #[v, .int .i64 (Nod.writeE i)]) ∧ Own byteV 5 w' w.heap.size v (Nod.writeL i) ∧ Below w.heap.size w w'
theorem write_calls (i : Nod) (w : World) : Calls Try.prog 16 #[nodV i] w (WroteN i w) := by
  by_cases h : Nod.Right i
  · refine (write_good i w h).mono fun e w' ⟨⟨v, he, ho⟩, hb⟩ => ?_
    unfold WroteN
    rw [(Nod.write_yes h).1, (Nod.write_yes h).2]
    exact ⟨v, he, ho, hb⟩
  · refine (write_bad i w h).mono fun e w' ⟨he, hb⟩ => ?_
    unfold WroteN
    rw [(Nod.write_no h).1, (Nod.write_no h).2]
    exact ⟨_, he, Own.nil _ _, hb⟩
theorem refWrite_calls (i : Nod) (w : World) : Calls Try.prog 17 #[nodV i] w (WroteN i w) := by
  by_cases h : Nod.Right i
  · refine (refWrite_good i w h).mono fun e w' ⟨⟨v, he, ho⟩, hb⟩ => ?_
    unfold WroteN
    rw [(Nod.write_yes h).1, (Nod.write_yes h).2]
    exact ⟨v, he, ho, hb⟩
  · refine (refWrite_bad i w h).mono fun e w' ⟨he, hb⟩ => ?_
    unfold WroteN
    rw [(Nod.write_no h).1, (Nod.write_no h).2]
    exact ⟨_, he, Own.nil _ _, hb⟩
set_option maxHeartbeats 8000000 in
theorem inodeBytes_walk (i : Nod) (a : Option Addr) (n c : Nat) (xs : List UInt8) (size : Int) (w : World) (hx : Bytes w w.heap.size a n xs) (hnc : n ≤ c) (_ : c ≤ 140737488351232) (_ : -9223372036854775808 ≤ size) (_ : size ≤ 9223372036854775807) :
    Calls Try.prog 5 #[nodV i, .slice a n c, .int .i64 size] w fun e w' => e = .returned (.bool true) ∧ Below w.heap.size w w' := by
  have hbl := Lib.hid ((Below.refl w.heap.size w).alloc (Nat.le_refl _) (nodO i))
  by_cases hl : 1500 < n
  · have hd : decide (1500 < n) = true := decide_eq_true hl
    go_enter Try.func5, Try.ntmps5
    go_wp2_with fail
    refine (ilong_calls _ _ _ _).mono ?_
    rintro e w_ ⟨rfl, rfl⟩
    rw [hd]
    go_wp2_with fail
    refine (known_calls _).mono ?_
    rintro e wk ⟨rfl, hbk⟩
    go_wp2
    go_ret
    exact ⟨rfl, Below.then_ hbl.out hbk⟩
  have hd : decide (1500 < n) = false := decide_eq_false hl
  have HX := Lib.hid hx
  clear hx hl
  have BT := Lib.hid (Blk.new w 36 #[.int .i64 i.k, .int .i64 i.l, .int .i64 i.s, .int .i64 i.d0, .int .i64 i.d1, .int .i64 i.d2, .int .i64 i.d3, .int .i64 i.d4, .int .i64 i.d5, .int .i64 i.a, .int .i64 i.b])
  have HX1 := Lib.hid (HX.out.alloc (nodO i))
  go_enter Try.func5, Try.ntmps5
  go_wp2_with fail
  refine (ilong_calls _ _ _ _).mono ?_
  rintro e w_ ⟨rfl, rfl⟩
  rw [hd]
  clear hd
  go_wp2_with fail
  refine (write_calls i _).mono ?_
  rintro e w1 ⟨v1, rfl, ho, hb⟩
  have HB1 := Lib.hid (Below.then_ hbl.out hb)
  have BT1 := Lib.hid (BT.out.belowHere hb)
  have HX2 := Lib.hid (HX1.out.on hb)
  have hw1 := Nod.writeL_len i
  obtain ⟨a1, c1, rfl, hc1⟩ := ho.form
  have HO1 := Lib.hid (ho.arr (by omega))
  clear ho hb hbl HX1 BT
  have y0 := BT1.out.cellv (i := 0) rfl
  have y1 := BT1.out.cellv (i := 1) rfl
  have y2 := BT1.out.cellv (i := 2) rfl
  have y3 := BT1.out.cellv (i := 3) rfl
  have y4 := BT1.out.cellv (i := 4) rfl
  have y5 := BT1.out.cellv (i := 5) rfl
  have y6 := BT1.out.cellv (i := 6) rfl
  have y7 := BT1.out.cellv (i := 7) rfl
  have y8 := BT1.out.cellv (i := 8) rfl
  have y9 := BT1.out.cellv (i := 9) rfl
  have y10 := BT1.out.cellv (i := 10) rfl
  go_wp2_with fail
  refine (refWrite_calls i _).mono ?_
  rintro e w2 ⟨v2, rfl, ho, hb⟩
  have HB2 := Lib.hid (Below.then_ HB1.out hb)
  have BT2 := Lib.hid (BT1.out.belowHere hb)
  have HX3 := Lib.hid (HX2.out.on hb)
  obtain ⟨a2, c2, rfl, hc2⟩ := ho.form
  have HP2 := Lib.hid (HO1.out.on hb)
  have HO2 := Lib.hid (ho.arr (by omega))
  clear ho hb HX2 hw1 y0 y1 y2 y3 y4 y5 y6 y7 y8 y9 y10
  generalize (Nod.writeL i).length = L at *
  generalize Nod.writeL i = page at *
  generalize Nod.writeE i = er at *
  go_wp2_with fail
  refine (read_calls a n c xs _ HX3.out hnc).mono ?_
  rintro e w3 ⟨rfl, hb⟩
  obtain ⟨r, hr⟩ : ∃ r, r = Nod.readN xs := ⟨_, rfl⟩
  rw [← hr]
  have HR := Lib.hid hr
  clear hr
  have hb3 := (Below.refl w3.heap.size w3).alloc (Nat.le_refl _) (nodO r)
  have BR3 := Lib.hid (Blk.new w3 36 #[.int .i64 r.k, .int .i64 r.l, .int .i64 r.s, .int .i64 r.d0, .int .i64 r.d1, .int .i64 r.d2, .int .i64 r.d3, .int .i64 r.d4, .int .i64 r.d5, .int .i64 r.a, .int .i64 r.b])
  have HB3 := Lib.hid (Below.then_ (Below.then_ HB2.out hb) hb3)
  have BT3 := Lib.hid ((BT2.out.belowHere hb).belowHere hb3)
  have HX4 := Lib.hid ((HX3.out.on hb).on hb3)
  have HP3 := Lib.hid ((HP2.out.on hb).on hb3)
  have HO3 := Lib.hid ((HO2.out.on hb).on hb3)
  clear hb hb3 HX3
  go_wp2_with fail
  refine (refRead_calls a n c xs _ HX4.out hnc).mono ?_
  rintro e w4 ⟨rfl, hb⟩
  rw [← HR.out]
  have hb5 := (Below.refl w4.heap.size w4).alloc (Nat.le_refl _) (nodO r)
  have BQ5 := Lib.hid (Blk.new w4 36 #[.int .i64 r.k, .int .i64 r.l, .int .i64 r.s, .int .i64 r.d0, .int .i64 r.d1, .int .i64 r.d2, .int .i64 r.d3, .int .i64 r.d4, .int .i64 r.d5, .int .i64 r.a, .int .i64 r.b])
  have HB5 := Lib.hid ((HB3.out.trans (hb.mono HB3.out.size)).trans (hb5.mono (Nat.le_trans HB3.out.size hb.size)))
  have BT5 := Lib.hid ((BT3.out.belowHere hb).belowHere hb5)
  have BR5 := Lib.hid ((BR3.out.belowHere hb).belowHere hb5)
  have HP5 := Lib.hid ((HP3.out.on hb).on hb5)
  have HO5 := Lib.hid ((HO3.out.on hb).on hb5)
  clear hb hb5 HX4 BT3 BR3 HP3 HO3 HB3
  generalize Nod.readE xs = rr at *
  go_wp2_with fail
  generalize w4.alloc (nodO r) = w0 at *
  have hrefl := Lib.hid (nodEq_self r)
  refine wp_region_noPanic ?_
  refine wp_region_held_drew (S := (fun W' => Below w0.heap.size w0 W')) (by kernel_rfl) (Below.refl _ _).drew (fun hS0 => ?_)
  refine takeV 0 (v := (nodV i)) rfl (by kernel_rfl) (by kernel_rfl) (by kernel_rfl) (fun _ _ _ h => h) (by rfl) (fun W hSw => ?_) (by assumption) ?_
  · have q := BT5.out.belowHere hSw; have e0 := q.cellv (i := 0) rfl; have e1 := q.cellv (i := 1) rfl; have e2 := q.cellv (i := 2) rfl; have e3 := q.cellv (i := 3) rfl; have e4 := q.cellv (i := 4) rfl; have e5 := q.cellv (i := 5) rfl; have e6 := q.cellv (i := 6) rfl; have e7 := q.cellv (i := 7) rfl; have e8 := q.cellv (i := 8) rfl; have e9 := q.cellv (i := 9) rfl; have e10 := q.cellv (i := 10) rfl
    go_simp
  try simp only [layR]
  refine takeV 2 (v := (nodV i)) rfl (by kernel_rfl) (by kernel_rfl) (by kernel_rfl) (fun _ _ _ h => h) (by rfl) (fun W hSw => ?_) (by assumption) ?_
  · have q := BT5.out.belowHere hSw; have e0 := q.cellv (i := 0) rfl; have e1 := q.cellv (i := 1) rfl; have e2 := q.cellv (i := 2) rfl; have e3 := q.cellv (i := 3) rfl; have e4 := q.cellv (i := 4) rfl; have e5 := q.cellv (i := 5) rfl; have e6 := q.cellv (i := 6) rfl; have e7 := q.cellv (i := 7) rfl; have e8 := q.cellv (i := 8) rfl; have e9 := q.cellv (i := 9) rfl; have e10 := q.cellv (i := 10) rfl
    go_simp
  try simp only [layR]
  refine wpAnyH_ready (rs := [1]) (by kernel_rfl) (by simp) ?_
  refine AllReadyH.cons rfl (fun K' hK => ?_) AllReadyH.nil
  go_simp
  refine (right_calls i _).mono ?_
  rintro _ wn ⟨rfl, hb⟩
  have hS1 := Below.then_ hS0 hb
  clear hb hS0
  refine hK.out _ _ hS1 (fun hS0 => ?_)
  try simp only [layR]
  clear hS1
  refine wpAnyH_ready (rs := [3]) (by kernel_rfl) (by simp) ?_
  refine AllReadyH.cons rfl (fun K' hK => ?_) AllReadyH.nil
  go_simp
  refine (refRight_calls i _).mono ?_
  rintro _ wn ⟨rfl, hb⟩
  have hS1 := Below.then_ hS0 hb
  clear hb hS0
  refine hK.out _ _ hS1 (fun hS0 => ?_)
  try simp only [layR]
  clear hS1
  refine takeV 4 (v := .bool true) rfl (by kernel_rfl) (by kernel_rfl) (by kernel_rfl) (fun _ _ _ h => h) (by rfl) (fun W hSw => ?_) (by assumption) ?_
  · go_simp
  try simp only [layR]
  refine takeV 5 (v := .bool true) rfl (by kernel_rfl) (by kernel_rfl) (by kernel_rfl) (fun _ _ _ h => h) (by rfl) (fun _ _ => rfl) (by assumption) ?_
  try simp only [layR]
  refine takeV 6 (v := .slice a1 L c1) rfl (by kernel_rfl) (by kernel_rfl) (by kernel_rfl) (fun _ _ _ h => h) (by rfl) (fun _ _ => rfl) (by assumption) ?_
  try simp only [layR]
  refine takeV 7 (v := .slice a2 L c2) rfl (by kernel_rfl) (by kernel_rfl) (by kernel_rfl) (fun _ _ _ h => h) (by rfl) (fun _ _ => rfl) (by assumption) ?_
  try simp only [layR]
  refine wpAnyH_ready (rs := [8]) (by kernel_rfl) (by simp) ?_
  refine AllReadyH.cons rfl (fun K' hK => ?_) AllReadyH.nil
  go_simp
  refine (same_yes _ _ _ _ _ _ _ _ (HP5.out.on hS0) (HO5.out.on hS0)).mono ?_
  rintro _ wn ⟨rfl, rfl⟩
  refine hK.out _ _ hS0 (fun hS1 => ?_)
  try simp only [layR]
  clear hS1
  refine takeV 9 (v := .bool true) rfl (by kernel_rfl) (by kernel_rfl) (by kernel_rfl) (fun _ _ _ h => h) (by rfl) (fun _ _ => rfl) (by assumption) ?_
  try simp only [layR]
  refine takeV 10 (v := .bool true) rfl (by kernel_rfl) (by kernel_rfl) (by kernel_rfl) (fun _ _ _ h => h) (by rfl) (fun _ _ => rfl) (by assumption) ?_
  try simp only [layR]
  refine takeV 11 (v := .int .i64 er) rfl (by kernel_rfl) (by kernel_rfl) (by kernel_rfl) (fun _ _ _ h => h) (by rfl) (fun _ _ => rfl) (by assumption) ?_
  try simp only [layR]
  refine takeV 12 (v := .int .i64 er) rfl (by kernel_rfl) (by kernel_rfl) (by kernel_rfl) (fun _ _ _ h => h) (by rfl) (fun _ _ => rfl) (by assumption) ?_
  try simp only [layR]
  refine takeV 13 (v := .bool true) rfl (by kernel_rfl) (by kernel_rfl) (by kernel_rfl) (fun _ _ _ h => h) (by rfl) (fun W hSw => ?_) (by assumption) ?_
  · go_simp
  try simp only [layR]
  refine takeV 14 (v := .bool true) rfl (by kernel_rfl) (by kernel_rfl) (by kernel_rfl) (fun _ _ _ h => h) (by rfl) (fun _ _ => rfl) (by assumption) ?_
  try simp only [layR]
  refine takeV 15 (v := .bool true) rfl (by kernel_rfl) (by kernel_rfl) (by kernel_rfl) (fun _ _ _ h => h) (by rfl) (fun _ _ => rfl) (by assumption) ?_
  try simp only [layR]
  refine takeV 16 (v := (nodV r)) rfl (by kernel_rfl) (by kernel_rfl) (by kernel_rfl) (fun _ _ _ h => h) (by rfl) (fun W hSw => ?_) (by assumption) ?_
  · have q := BR5.out.belowHere hSw; have e0 := q.cellv (i := 0) rfl; have e1 := q.cellv (i := 1) rfl; have e2 := q.cellv (i := 2) rfl; have e3 := q.cellv (i := 3) rfl; have e4 := q.cellv (i := 4) rfl; have e5 := q.cellv (i := 5) rfl; have e6 := q.cellv (i := 6) rfl; have e7 := q.cellv (i := 7) rfl; have e8 := q.cellv (i := 8) rfl; have e9 := q.cellv (i := 9) rfl; have e10 := q.cellv (i := 10) rfl
    go_simp
  try simp only [layR]
  refine takeV 17 (v := (nodV r)) rfl (by kernel_rfl) (by kernel_rfl) (by kernel_rfl) (fun _ _ _ h => h) (by rfl) (fun W hSw => ?_) (by assumption) ?_
  · have q := BQ5.out.belowHere hSw; have e0 := q.cellv (i := 0) rfl; have e1 := q.cellv (i := 1) rfl; have e2 := q.cellv (i := 2) rfl; have e3 := q.cellv (i := 3) rfl; have e4 := q.cellv (i := 4) rfl; have e5 := q.cellv (i := 5) rfl; have e6 := q.cellv (i := 6) rfl; have e7 := q.cellv (i := 7) rfl; have e8 := q.cellv (i := 8) rfl; have e9 := q.cellv (i := 9) rfl; have e10 := q.cellv (i := 10) rfl
    go_simp
  try simp only [layR]
  refine takeV 18 (v := .bool true) rfl (by kernel_rfl) (by kernel_rfl) (by kernel_rfl) (fun _ _ _ h => h) (by rfl) (fun W hSw => ?_) (by assumption) ?_
  · have hq := hrefl.out
    go_simp
  try simp only [layR]
  refine takeV 19 (v := .bool true) rfl (by kernel_rfl) (by kernel_rfl) (by kernel_rfl) (fun _ _ _ h => h) (by rfl) (fun _ _ => rfl) (by assumption) ?_
  try simp only [layR]
  refine takeV 20 (v := .bool true) rfl (by kernel_rfl) (by kernel_rfl) (by kernel_rfl) (fun _ _ _ h => h) (by rfl) (fun _ _ => rfl) (by assumption) ?_
  try simp only [layR]
  refine takeV 21 (v := .int .i64 rr) rfl (by kernel_rfl) (by kernel_rfl) (by kernel_rfl) (fun _ _ _ h => h) (by rfl) (fun _ _ => rfl) (by assumption) ?_
  try simp only [layR]
  refine takeV 22 (v := .int .i64 rr) rfl (by kernel_rfl) (by kernel_rfl) (by kernel_rfl) (fun _ _ _ h => h) (by rfl) (fun _ _ => rfl) (by assumption) ?_
  try simp only [layR]
  refine takeV 23 (v := .bool true) rfl (by kernel_rfl) (by kernel_rfl) (by kernel_rfl) (fun _ _ _ h => h) (by rfl) (fun W hSw => ?_) (by assumption) ?_
  · go_simp
  try simp only [layR]
  refine takeV 24 (v := .bool true) rfl (by kernel_rfl) (by kernel_rfl) (by kernel_rfl) (fun _ _ _ h => h) (by rfl) (fun _ _ => rfl) (by assumption) ?_
  try simp only [layR]
  refine takeV 25 (v := .bool true) rfl (by kernel_rfl) (by kernel_rfl) (by kernel_rfl) (fun _ _ _ h => h) (by rfl) (fun _ _ => rfl) (by assumption) ?_
  try simp only [layR]
  refine takeV 26 (v := .int .i64 size) rfl (by kernel_rfl) (by kernel_rfl) (by kernel_rfl) (fun _ _ _ h => h) (by rfl) (fun _ _ => rfl) (by assumption) ?_
  try simp only [layR]
  refine takeV 28 (v := .int .i64 size) rfl (by kernel_rfl) (by kernel_rfl) (by kernel_rfl) (fun _ _ _ h => h) (by rfl) (fun _ _ => rfl) (by assumption) ?_
  try simp only [layR]
  refine wpAnyH_ready (rs := [27]) (by kernel_rfl) (by simp) ?_
  refine AllReadyH.cons rfl (fun K' hK => ?_) AllReadyH.nil
  go_simp
  refine (perPage_calls size _).mono ?_
  rintro _ wn ⟨rfl, rfl⟩
  refine hK.out _ _ hS0 (fun hS1 => ?_)
  try simp only [layR]
  clear hS1
  refine wpAnyH_ready (rs := [29]) (by kernel_rfl) (by simp) ?_
  refine AllReadyH.cons rfl (fun K' hK => ?_) AllReadyH.nil
  go_simp
  refine (refPerPage_calls size _).mono ?_
  rintro _ wn ⟨rfl, rfl⟩
  refine hK.out _ _ hS0 (fun hS1 => ?_)
  try simp only [layR]
  clear hS1
  refine takeV 30 (v := .bool true) rfl (by kernel_rfl) (by kernel_rfl) (by kernel_rfl) (fun _ _ _ h => h) (by rfl) (fun W hSw => ?_) (by assumption) ?_
  · go_simp
  try simp only [layR]
  refine takeV 31 (v := .bool true) rfl (by kernel_rfl) (by kernel_rfl) (by kernel_rfl) (fun _ _ _ h => h) (by rfl) (fun _ _ => rfl) (by assumption) ?_
  try simp only [layR]
  refine takeV 32 (v := .bool true) rfl (by kernel_rfl) (by kernel_rfl) (by kernel_rfl) (fun _ _ _ h => h) (by rfl) (fun _ _ => rfl) (by assumption) ?_
  try simp only [layR]
  refine wpAnyH_ready (rs := [33]) (by kernel_rfl) (by simp) ?_
  refine AllReadyH.cons rfl (fun K' hK => ?_) AllReadyH.nil
  go_simp
  refine (known_calls _).mono ?_
  rintro _ wn ⟨rfl, hb⟩
  have hS1 := Below.then_ hS0 hb
  clear hb hS0
  refine hK.out _ _ hS1 (fun hS0 => ?_)
  try simp only [layR]
  clear hS1
  refine takeV 34 (v := .bool true) rfl (by kernel_rfl) (by kernel_rfl) (by kernel_rfl) (fun _ _ _ h => h) (by rfl) (fun _ _ => rfl) (by assumption) ?_
  try simp only [layR]
  refine takeV 35 (v := .bool true) rfl (by kernel_rfl) (by kernel_rfl) (by kernel_rfl) (fun _ _ _ h => h) (by rfl) (fun _ _ => rfl) (by assumption) ?_
  try simp only [layR]
  refine wpAnyH_done (by kernel_rfl) ?_ _
  refine NoPanic.normal ?_
  go_wp2
  go_ret
  exact ⟨rfl, HB5.out.trans (hS0.mono HB5.out.size)⟩
end Go.Proofs.Ytjnjemhnceejeaa
