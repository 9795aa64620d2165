/-
  dirs.All: the iterator.
-/
import Derived.Test.YtlnomkkamopieaaDirCheck
import Derived.Test.YtlnomkkamopieaaIterOwn
import Derived.OwnWalkIn
import Derived.TacticsInMore
import Derived.LoopNIn
import Derived.LoopIn
namespace Go.Proofs.Ytlnomkkamopieaa
open Go.RowKit

attribute [local go_sem] Oper.semAt_some

namespace Dir
def entsTo (b : List UInt8) : Nat → List (Nat × Ent)
  | 0 => []
  | k + 1 => if (rd b k).2.1 = true then entsTo b k ++ [(k, (rd b k).1)] else entsTo b k
def ents (b : List UInt8) : List (Nat × Ent) := entsTo b (cnt b)
theorem entsTo_pre {b : List UInt8} {k m : Nat} (h : k ≤ m) : entsTo b k <+: entsTo b m := by
  induction m with
  | zero => obtain rfl : k = 0 := by omega
            exact List.prefix_refl _
  | succ m ih =>
    rcases Nat.lt_or_ge k (m + 1) with h2 | h2
    · refine (ih (by omega)).trans ?_
      rw [entsTo]
      split
      · exact List.prefix_append _ _
      · exact List.prefix_refl _
    · obtain rfl : k = m + 1 := by omega
      exact List.prefix_refl _
end Dir
def entEnc (x : Nat × Ent) : Array Value := #[.int .i64 (x.1 : Int), .agg #[.int .i64 x.2.i, .string (strL x.2.nm)]]
theorem grown_of_below' {c : Nat} {W W' : World} (h : Below W.heap.size W W') : W.grownBy W' (some c) := ⟨h.os, h.tape, h.output, h.size, fun k hk _ => h.block k hk⟩
set_option maxRecDepth 100000 in
set_option maxHeartbeats 4000000 in
theorem all_iter (a : Option Addr) (n c : Nat) (b : List UInt8) (C n0 : Nat) (w : World) (hnc : n ≤ c) (hx : Bytes w n0 a n b) (hC : Blk w C 24 #[.slice a n c]) (hn0 : n0 ≤ C) :
    Iter Try.prog 40 #[.pointer (some ⟨C, 0, none⟩)] entEnc (Dir.ents b) C n0 w := by
  intro lp J Jx W hW hJ hJx hY h0
  have hxW := hx.below (B := n0) (hW.mono (Nat.le_of_lt (Nat.lt_of_le_of_lt hn0 hC.lt)))
  have hCW := hC.belowHere hW
  have hroom := hx.room
  have hl := hx.len
  obtain ⟨S, hS⟩ : ∃ S, S = Dir.cnt b := ⟨_, rfl⟩
  have hSn : S = n / 16 := by rw [hS, Dir.cnt, hl]
  have HS := Lib.hid hSn
  have hsl := Lib.hid (fun W => slots_calls a n c W (by omega))
  rw [← hSn] at hsl
  have hSle : S ≤ 140737488351232 := by omega
  have HE := Lib.hid (show Dir.ents b = Dir.entsTo b S by rw [hS]; rfl)
  have HY := Lib.hid hY
  have HJ := Lib.hid hJ
  have HX := Lib.hid hxW
  have HC := Lib.hid hCW
  have H0 := Lib.hid h0
  have cc := hCW.cellv (i := 0) rfl
  have hsc := Lib.hid (callsIn_wide (n := 7) |>.2 (hsl.out W))
  clear hx hC hW hl hSn hS hY hJ hxW hCW h0 hsl
  refine callsIn_of_wp Try.func40 rfl trivial ?_ rfl
  simp only [Try.ntmps40, List.size_toArray, List.length_cons, List.length_nil, Nat.reduceAdd, Nat.reduceSub, Array.replicate_succ, Array.replicate_zero, List.push_toArray, List.append_toArray, List.nil_append, List.cons_append]
  gi_wp2_with fail
  refine ⟨trivial, ?_⟩
  refine hsc.out.mono ?_
  rintro e w_ ⟨rfl, rfl⟩
  gi_wp2
  gi_loopw [9] (fun i wr => ∃ k : Nat, k ≤ S ∧ i = .int .i64 k ∧ Bytes wr n0 a n b ∧ Blk wr C 24 #[.slice a n c] ∧ J (Dir.entsTo b k) wr) (fun i _ => S - (intOf i).toNat)
  case atStart => exact ⟨0, by omega, rfl, HX.out, HC.out, H0.out⟩
  case round =>
    obtain ⟨k, hk, rfl, hx, hc, hj⟩ := hrel
    have hszr : n0 ≤ wr.heap.size := Nat.le_of_lt (Nat.lt_of_le_of_lt hn0 hc.lt)
    have cc := hc.cellv (i := 0) rfl
    have HX := Lib.hid hx
    have HC := Lib.hid hc
    have HJ1 := Lib.hid hj
    clear hx hc hj
    by_cases hlt : k < S
    · have hst := Lib.hid (callsIn_wide (n := 7) |>.2 (slot_calls a n c k b wr (HX.out.mono hszr) hnc (by have := HS.out; omega)))
      have hent := Lib.hid (show Dir.entsTo b (k + 1) = if (Dir.rd b k).2.1 = true then Dir.entsTo b k ++ [(k, (Dir.rd b k).1)] else Dir.entsTo b k from rfl)
      have hpre := Lib.hid (show Dir.entsTo b (k + 1) <+: Dir.ents b by rw [HE.out]; exact Dir.entsTo_pre (by omega))
      gi_wp2_with fail
      refine ⟨trivial, ?_⟩
      refine hst.out.mono ?_
      rintro e w_ ⟨⟨a1, c1, rfl, hc1, ha1, hy⟩, rfl⟩
      clear ha1
      have hrd := Lib.hid (callsIn_wide (n := 7) |>.2 (read_calls a1 16 c1 (Dir.slotAt b k) wr hy hc1))
      unfold ReadR at hrd
      rw [show Dir.readR (Dir.slotAt b k) = Dir.rd b k from rfl] at hrd
      generalize Dir.rd b k = R at *
      obtain ⟨⟨i, nm⟩, u, er⟩ := R
      clear hy
      gi_wp2_with fail
      refine ⟨trivial, ?_⟩
      refine hrd.out.mono ?_
      rintro e w2 ⟨rfl, hb2⟩
      have hb3 := hb2.trans (((Below.refl w2.heap.size w2).alloc (Nat.le_refl _) (.cells #[.int .i64 i, .string (strL nm)] 23)).mono hb2.size)
      have HX3 := Lib.hid (HX.out.below (hb3.mono hszr))
      have HC3 := Lib.hid (HC.out.belowHere hb3)
      have HJ3 := Lib.hid (HJ.out _ _ _ HJ1.out (grown_of_below' hb3))
      clear hb2 hb3
      cases u
      · have hent2 := Lib.hid (show Dir.entsTo b (k + 1) = Dir.entsTo b k from hent.out)
        gi_wp2
        all_goals (refine ⟨fun _ h => (by cases h), ?_⟩; gi_wp2)
        go_roundw
        case rel => exact ⟨k + 1, by omega, by go_num, HX3.out, HC3.out, by rw [hent2.out]; exact HJ3.out⟩
        case measure => simp [intOf]; omega
      · have hent2 := Lib.hid (show Dir.entsTo b (k + 1) = Dir.entsTo b k ++ [(k, ⟨i, nm⟩)] from hent.out)
        obtain ⟨fn, tmps, assign, body, hy, hR⟩ := HY.out (Dir.entsTo b k) (k, ⟨i, nm⟩) _ HJ3.out (by rw [← hent2.out]; exact hpre.out)
        unfold entEnc at hy
        gi_wp2
        refine hR.mono ?_
        rintro e W3 (⟨rfl, hJ3, hb3, hc3⟩ | ⟨rfl, hJx3⟩)
        · have HX4 := Lib.hid (HX3.out.below hb3)
          have HC4 := Lib.hid (hc3.trans HC3.out)
          have HJ4 := Lib.hid hJ3
          clear hJ3 hb3 hc3
          gi_wp2
          go_roundw
          case rel => exact ⟨k + 1, by omega, by go_num, HX4.out, HC4.out, by rw [hent2.out]; exact HJ4.out⟩
          case measure => simp [intOf]; omega
        · gi_wp2
          refine bodyPost_ret (results_none rfl _ _ _) rfl ?_
          exact ⟨⟨_, rfl⟩, .inr ⟨_, by rw [← hent2.out]; exact hpre.out, hJx3⟩⟩
    · obtain rfl : k = S := by omega
      gi_wp2
      go_end0
      exact ⟨⟨_, rfl⟩, .inl (by rw [HE.out]; exact HJ1.out)⟩
end Go.Proofs.Ytlnomkkamopieaa
