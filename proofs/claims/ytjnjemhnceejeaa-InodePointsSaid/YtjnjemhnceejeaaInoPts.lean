/-
  inode.Pointers: the iterator.
-/
import Derived.Test.YtjnjemhnceejeaaInoPoint
import Derived.Test.YtjnjemhnceejeaaInoPtsM
import Derived.Test.YtjnjemhnceejeaaIterG
import Derived.OwnWalkIn
import Derived.TacticsInMore
import Derived.LoopNIn
import Derived.LoopIn
import Derived.BigRegionIn
import Derived.Sort.BigQuietIn
namespace Go.Proofs.Ytjnjemhnceejeaa
open Go.RowKit

attribute [local go_sem] Oper.semAt_some

theorem grownNone_of_below {W W' : World} (h : Below W.heap.size W W') : W.grownBy W' none := ⟨h.os, h.tape, h.output, h.size, fun k hk _ => h.block k hk⟩
def ptEnc (x : Nat × Nat) : Array Value := #[.int .i64 (x.1 : Int), .int .i64 (x.2 : Int)]
set_option maxRecDepth 100000 in
set_option maxHeartbeats 4000000 in
theorem pts_iter (a : Option Addr) (n c : Nat) (xs : List UInt8) (C n0 : Nat) (w : World) (hx : Bytes w n0 a n xs) (hC : Blk w C 37 #[.slice a n c]) (hn0 : n0 ≤ w.heap.size) :
    IterG Try.prog 48 #[.pointer (some ⟨C, 0, none⟩)] ptEnc (Pt.pts xs) [] [C] n0 w := by
  intro lp J Jx W hW hJ hJx hY h0
  have hxW := hx.below (B := n0) (hW.mono hn0)
  have hCW := hC.belowHere hW
  have hroom := hx.room
  have hl := hx.len
  obtain ⟨S, hS⟩ : ∃ S, S = if Ino.Sized n then n / 2 else 0 := ⟨_, rfl⟩
  have HE := Lib.hid (show Pt.pts xs = Pt.ptsTo xs S by
    unfold Pt.pts; rw [hl, hS]
    split
    · rfl
    · rfl)
  have HAS := Lib.hid (fun k : Nat => (show Pt.Has n (k : Int) ↔ k < S by
    unfold Pt.Has; rw [hS]
    by_cases h : Ino.Sized n
    · rw [if_pos h]; constructor
      · rintro ⟨_, _, h3⟩; omega
      · intro h3; exact ⟨h, by omega, by omega⟩
    · rw [if_neg h]; constructor
      · rintro ⟨h3, _, _⟩; exact absurd h3 h
      · intro h3; omega))
  have hSn : 2 * S ≤ n := by rw [hS]; split <;> omega
  have hszW : n0 ≤ W.heap.size := Nat.le_trans hn0 hW.size
  have HY := Lib.hid hY
  have HJ := Lib.hid hJ
  have HX := Lib.hid hxW
  have HC := Lib.hid hCW
  have H0 := Lib.hid h0
  have HL := Lib.hid hl
  clear hx hC hW hl hS hY hJ hxW hCW h0
  refine callsIn_of_wp Try.func48 rfl trivial ?_ rfl
  simp only [Try.ntmps48, List.size_toArray, List.length_cons, List.length_nil, Nat.reduceAdd, Nat.reduceSub, Array.replicate_succ, Array.replicate_zero, List.push_toArray, List.append_toArray, List.nil_append, List.cons_append]
  gi_wp2
  gi_loopw [3, 4] (fun i _ wr => ∃ k : Nat, k ≤ S ∧ i = .int .i64 k ∧ Bytes wr n0 a n xs ∧ n0 ≤ wr.heap.size ∧ Blk wr C 37 #[.slice a n c] ∧ J (Pt.ptsTo xs k) wr) (fun i _ _ => S - (intOf i).toNat)
  case atStart => exact ⟨0, by omega, rfl, HX.out, hszW, HC.out, H0.out⟩
  case round =>
    obtain ⟨k, hk, rfl, hx, hszr, hc, hj⟩ := hrel
    have cc := hc.cellv (i := 0) rfl
    have HX := Lib.hid hx
    have HC := Lib.hid hc
    have HJ1 := Lib.hid hj
    clear hx hc hj
    by_cases hlt : k < S
    · have hst := Lib.hid (callsIn_wide (n := 7) |>.2 (pointed_yes a n c k wr ((HAS.out k).2 hlt)))
      have hlt2 : 2 * k + 1 < xs.length := by rw [HL.out]; omega
      have hlen2 : 2 * k + 1 < n := by omega
      obtain ⟨b, o, hk0, rfl, hbb, hc0⟩ := HX.out.at_ (k := 2 * k) (by omega)
      obtain ⟨b', o', hk1, hab, _, hc1⟩ := HX.out.at_ (k := 2 * k + 1) (by omega)
      simp only [Option.some.injEq, Addr.mk.injEq, and_true] at hab
      obtain ⟨rfl, rfl⟩ := hab
      have h2 := Pt.two_eq (xs := xs) (j := k) (by omega)
      have x0l := (xs[2 * k]).toNat_lt
      have x1l := (xs[2 * k + 1]).toNat_lt
      have hent := Lib.hid (show Pt.ptsTo xs (k + 1) = if Pt.two xs k = 0 then Pt.ptsTo xs k else Pt.ptsTo xs k ++ [(k, Pt.two xs k)] from rfl)
      have hpre := Lib.hid (show Pt.ptsTo xs (k + 1) <+: Pt.pts xs by rw [HE.out]; exact Pt.ptsTo_pre (by omega))
      generalize xs[2 * k].toNat = x0 at *
      generalize xs[2 * k + 1].toNat = x1 at *
      have hor := i64_or_high x1 x0 (by omega) x0l
      obtain ⟨v, hv⟩ : ∃ v, v = Pt.two xs k := ⟨_, rfl⟩
      rw [← hv] at hent h2
      rw [show x1 * 256 + x0 = v by omega] at hor
      have hvl : v < 65536 := by omega
      have q1 : IntKind.i64.wrap (2 * (k : Int)) = 2 * (k : Int) := IntWalk.i64_in _ ⟨by omega, by omega⟩
      have q2 : (0 : Int) ≤ 2 * (k : Int) := by omega
      have q3 : 2 * (k : Int) < (n : Int) := by omega
      have q4 : (2 * (k : Int)).toNat = 2 * k := by omega
      have q5 : IntKind.i64.wrap (2 * (k : Int) + 1) = 2 * (k : Int) + 1 := IntWalk.i64_in _ ⟨by omega, by omega⟩
      have q6 : (0 : Int) ≤ 2 * (k : Int) + 1 := by omega
      have q7 : 2 * (k : Int) + 1 < (n : Int) := by omega
      have q8 : (2 * (k : Int) + 1).toNat = 2 * k + 1 := by omega
      have q9 : IntKind.i64.wrap (x0 : Int) = (x0 : Int) := IntWalk.i64_in _ ⟨by omega, by omega⟩
      have q10 : IntKind.i64.wrap (x1 : Int) = (x1 : Int) := IntWalk.i64_in _ ⟨by omega, by omega⟩
      have q11 : IntKind.i64.wrap ((x1 : Int) * 256) = (x1 : Int) * 256 := IntWalk.i64_in _ ⟨by omega, by omega⟩
      have HV := Lib.hid hv
      have HJ2 := Lib.hid (fun q => HJ.out _ _ _ none HJ1.out (grownNone_of_below (below_drewN wr q)) (.inl rfl))
      clear hv h2 hlt2 hk0 hk1
      gi_wp2_with fail
      refine ⟨trivial, ?_⟩
      refine hst.out.mono ?_
      rintro e w_ ⟨rfl, rfl⟩
      gi_wp2_with fail
      gi_big_quiet_th (fail)
      have HX3 := Lib.hid (HX.out.below (below_drewN (n0 := n0) wr nq))
      have HC3 := Lib.hid (HC.out.drewN nq)
      have HJ3 := Lib.hid (HJ2.out nq)
      have hsz3 : n0 ≤ (wr.drewN nq).heap.size := hszr
      clear q1 q2 q3 q4 q5 q6 q7 q8 q9 q10 q11 hor hc0 hc1 hst cc
      generalize wr.drewN nq = w3 at *
      by_cases hv0 : v = 0
      · have hent2 := Lib.hid (hent.out.trans (if_pos hv0))
        have z1 : ((v : Int) != 0) = false := by rw [bne_eq_false_iff_eq]; omega
        clear hv0
        gi_wp2
        refine ⟨(fun f h => by cases h), ?_⟩
        gi_wp2
        go_roundw
        case rel => exact ⟨k + 1, by omega, by go_num, HX3.out, hsz3, HC3.out, by rw [hent2.out]; exact HJ3.out⟩
        case measure => simp [intOf]; omega
      · have hent2 := Lib.hid (hent.out.trans (if_neg hv0))
        have z1 : ((v : Int) != 0) = true := by rw [bne_iff_ne]; omega
        obtain ⟨fn, tmps, assign, body, hy, hR⟩ := HY.out (Pt.ptsTo xs k) (k, v) w3 HJ3.out (by rw [← hent2.out]; exact hpre.out)
        unfold ptEnc at hy
        gi_wp2_with fail
        refine hR.mono ?_
        rintro ee w4 (⟨rfl, hJ4, hb4, hc4⟩ | ⟨rfl, hJx4⟩)
        · have HC5 := Lib.hid ((hc4 C (by simp)).trans HC3.out)
          have HX5 := Lib.hid (HX3.out.below hb4)
          have hs5 := hb4.size
          have HJ4 := Lib.hid hJ4
          clear hJ4 hb4 hc4 hy hR
          gi_wp2
          go_roundw
          case rel => exact ⟨k + 1, by omega, by go_num, HX5.out, by omega, HC5.out, by rw [hent2.out]; exact HJ4.out⟩
          case measure => simp [intOf]; omega
        · gi_wp2
          refine bodyPost_ret (results_none rfl _ _ _) rfl ?_
          exact ⟨⟨_, rfl⟩, .inr ⟨_, by rw [← hent2.out]; exact hpre.out, hJx4⟩⟩
    · obtain rfl : k = S := by omega
      have hst := Lib.hid (callsIn_wide (n := 7) |>.2 (pointed_no a n c k wr hroom (fun h => hlt ((HAS.out k).1 h))))
      gi_wp2_with fail
      refine ⟨trivial, ?_⟩
      refine hst.out.mono ?_
      rintro e w_ ⟨rfl, rfl⟩
      gi_wp2
      go_end0
      exact ⟨⟨_, rfl⟩, .inl (by rw [HE.out]; exact HJ1.out)⟩
end Go.Proofs.Ytjnjemhnceejeaa
