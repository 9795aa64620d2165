/-
  squeeze.Items: the iterator.
-/
import Derived.Test.YtpjjfehocibljaaSqzItem
import Derived.Test.YtpjjfehocibljaaIterG
import Derived.OwnWalkIn
import Derived.TacticsInMore
import Derived.LoopNIn
import Derived.LoopIn
namespace Go.Proofs.Ytpjjfehocibljaa
open Go.RowKit

attribute [local go_sem] Oper.semAt_some

def itemEnc (x : Nat × Nat × Nat) : Array Value := #[.int .i64 (x.1 : Int), .int .i64 (x.2.1 : Int)]
theorem grownC (w : World) (c o : Nat) (v : Value) : w.grownBy (w.setCell ⟨c, o, none⟩ v) (some c) :=
  have h := (Below.refl 0 w).setCell (p := ⟨c, o, none⟩) (Nat.zero_le _) v
  ⟨h.os, h.tape, h.output, h.size, fun k _ hk => heap_setCell_other w ⟨c, o, none⟩ k v (fun e => hk (by rw [e]))⟩
theorem grownN {W W' : World} (h : Below W.heap.size W W') : W.grownBy W' none := ⟨h.os, h.tape, h.output, h.size, fun k hk _ => h.block k hk⟩
open Classical in
noncomputable def leftLen (C : Nat) (W : World) : Nat := if h : ∃ a n c, W.cell? ⟨C, 0, none⟩ = some (.slice a n c) then Classical.choose (Classical.choose_spec h) else 0
theorem leftLen_eq {C : Nat} {W : World} {a : Option Addr} {n c : Nat} (h : W.cell? ⟨C, 0, none⟩ = some (.slice a n c)) : leftLen C W = n := by
  have hex : ∃ a n c, W.cell? ⟨C, 0, none⟩ = some (.slice a n c) := ⟨a, n, c, h⟩
  unfold leftLen
  rw [dif_pos hex]
  obtain ⟨c', h2⟩ := Classical.choose_spec (Classical.choose_spec hex)
  have h3 := h.symm.trans h2
  simp only [Option.some.injEq, Value.slice.injEq] at h3
  exact h3.2.1.symm
set_option maxRecDepth 100000 in
set_option maxHeartbeats 4000000 in
theorem items_iter (a : Option Addr) (n c C n0 : Nat) (b : List UInt8) (w : World) (hx : Bytes w n0 a n b) (hnc : n ≤ c) (hC : Blk w C 22 #[.slice a n c]) (hn0 : n0 ≤ w.heap.size) (hnC : n0 ≤ C) :
    IterG Try.prog 24 #[.pointer (some ⟨C, 0, none⟩)] itemEnc (Sqz.items b) [C] [C] n0 w := by
  intro lp J Jx W hW hJ hJx hY h0
  have HC := Lib.hid (hC.belowHere hW)
  have HX := Lib.hid (hx.below (hW.mono hn0))
  have HY := Lib.hid hY
  have HJ := Lib.hid hJ
  have H0 := Lib.hid h0
  have hnW : n0 ≤ W.heap.size := Nat.le_trans hn0 hW.size
  clear hY hJ h0 hW hC hx hn0
  refine callsIn_of_wp Try.func24 rfl trivial ?_ rfl
  simp only [Try.ntmps24, List.size_toArray, List.length_cons, List.length_nil, Nat.reduceAdd, Nat.reduceSub, Array.replicate_succ, Array.replicate_zero, List.push_toArray, List.append_toArray, List.nil_append, List.cons_append]
  gi_wp2
  gi_loopw [3] (fun _ wr => ∃ (a' : Option Addr) (n' c' : Nat) (r : List UInt8) (pre : List (Nat × Nat × Nat)), Blk wr C 22 #[.slice a' n' c'] ∧ Bytes wr n0 a' n' r ∧ n' ≤ c' ∧ Sqz.items b = pre ++ Sqz.items r ∧ J pre wr ∧ n0 ≤ wr.heap.size) (fun _ wr => leftLen C wr)
  case atStart => exact ⟨a, n, c, b, [], HC.out, HX.out, hnc, rfl, H0.out, hnW⟩
  case round =>
    obtain ⟨a', n', c', r, pre, hc, hxr, hnc', hit, hj, hnr⟩ := hrel
    have c0 := hc.cellv (i := 0) rfl
    have HC1 := Lib.hid hc
    have HX1 := Lib.hid hxr
    have HI := Lib.hid hit
    have HJ1 := Lib.hid hj
    have hrl := hxr.len
    by_cases h0 : n' = 0
    · subst h0
      obtain rfl : r = [] := List.eq_nil_of_length_eq_zero hrl
      have hend := Lib.hid (show J (Sqz.items b) wr by rw [HI.out, Sqz.items_nil, List.append_nil]; exact hj)
      clear hc hxr hit hj hrl
      gi_wp2
      go_end0
      exact ⟨⟨_, rfl⟩, .inl hend.out⟩
    have hrne : r ≠ [] := by intro e; rw [e] at hrl; simp at hrl; omega
    have hic := Lib.hid (callsIn_wide (n := 7) |>.2 (item_calls a' n' c' r wr (hxr.mono hnr) (by omega)))
    unfold ItemR at hic
    have hz := fun h => Sqz.item_size (b := r) h
    have HStop := Lib.hid (fun h => Sqz.items_end (b := r) h)
    have HStep := Lib.hid (fun h => Sqz.items_step (b := r) hrne h)
    have HBB := Lib.hid (fun (x : Nat × Nat × Nat) (h : Sqz.items r = x :: Sqz.items (r.drop x.2.2)) => (⟨Sqz.items (r.drop x.2.2), by rw [HI.out, h]; simp⟩ : (pre ++ [x]) <+: Sqz.items b))
    generalize hII : Sqz.item r = I at *
    obtain ⟨nn, far, sz⟩ := I
    dsimp only at *
    rw [hrl] at hz
    clear hc hxr hit hj hrl hrne hII
    by_cases hsz : sz = 0
    · have hend := Lib.hid (show Sqz.items b = pre by rw [HI.out, HStop.out hsz, List.append_nil])
      have q1 : ((sz : Int) == 0) = true := by rw [beq_iff_eq]; omega
      clear hz HStop HStep
      gi_wp2_with fail
      refine ⟨trivial, ?_⟩
      refine hic.out.mono ?_
      rintro e w2 ⟨rfl, hb2⟩
      have HJ2 := Lib.hid (HJ.out _ _ _ none HJ1.out (grownN hb2) (.inl rfl))
      clear hb2
      gi_wp2
      refine ⟨fun _ h => (by cases h), ?_⟩
      gi_wp2
      refine bodyPost_ret (results_none rfl _ _ _) rfl ?_
      exact ⟨⟨_, rfl⟩, .inl (by rw [hend.out]; exact HJ2.out)⟩
    · obtain ⟨hz1, hz2⟩ := hz hsz
      have q1 : ((sz : Int) == 0) = false := by rw [beq_eq_false_iff_ne]; omega
      have hst := Lib.hid (HStep.out hsz)
      have hpre := Lib.hid (HBB.out (nn, far, sz) hst.out)
      have hcf := cutB_from a' n' c' sz hz1
      have HNx := Lib.hid (show Sqz.items b = (pre ++ [(nn, far, sz)]) ++ Sqz.items (r.drop sz) by rw [HI.out, hst.out]; simp)
      clear hz HStop HStep HBB
      gi_wp2_with fail
      refine ⟨trivial, ?_⟩
      refine hic.out.mono ?_
      rintro e w2 ⟨rfl, hb2⟩
      have HJ2 := Lib.hid (HJ.out _ _ _ none HJ1.out (grownN hb2) (.inl rfl))
      have hcw := HC1.out.belowHere hb2
      have HC2 := Lib.hid hcw
      have HX2 := Lib.hid (HX1.out.below (hb2.mono hnr))
      have hs2 := hb2.size
      clear hb2 hcw
      obtain ⟨fn, tmps, assign, body, hy, hR⟩ := HY.out pre (nn, far, sz) w2 HJ2.out hpre.out
      unfold itemEnc at hy
      dsimp only at hy
      gi_wp2
      refine hR.mono ?_
      rintro e W3 (⟨rfl, hJ3, hb3, hc3⟩ | ⟨rfl, hJx3⟩)
      · have hcc := (hc3 C (by simp)).trans HC2.out
        have HC5 := Lib.hid (show Blk W3 C _ _ from hcc)
        have HX5 := Lib.hid (HX2.out.below hb3)
        have HJ3 := Lib.hid hJ3
        have c5 := HC5.out.cellv (i := 0) rfl
        have f5 := HC5.out.frozen 0
        have hs3 := hb3.size
        clear hJ3 hb3 hc3 hy hR hcc
        gi_wp2
        go_roundw
        case rel =>
          refine ⟨_, n' - sz, _, r.drop sz, pre ++ [(nn, far, sz)], HC5.out.set 0 _, ?_, by omega, HNx.out, HJ.out _ _ _ (some C) HJ3.out (grownC _ _ _ _) (.inr ⟨C, by simp, rfl⟩), by simp; omega⟩
          exact (HX5.out.drop (l := sz) hz1 hnc').below ((Below.refl n0 W3).setCell (p := ⟨C, 0, none⟩) hnC _)
        case measure =>
          rw [leftLen_eq (World.cell?_setCell_same' _ _ _ (by rw [c5]; rfl)), leftLen_eq c0]
          omega
      · gi_wp2
        refine bodyPost_ret (results_none rfl _ _ _) rfl ?_
        exact ⟨⟨_, rfl⟩, .inr ⟨_, hpre.out, hJx3⟩⟩
theorem itemsFn (a : Option Addr) (n c : Nat) (w : World) :
    Calls Try.prog 17 #[.slice a n c] w fun e w' => e = .returned (.func (.func 24) #[] #[.pointer (some ⟨w.heap.size, 0, none⟩)]) ∧ w.alloc (.cells #[.slice a n c] 22) = w' := by
  go_enter Try.func17, Try.ntmps17
  go_wp2
  go_ret
  exact ⟨rfl, rfl⟩
end Go.Proofs.Ytpjjfehocibljaa
