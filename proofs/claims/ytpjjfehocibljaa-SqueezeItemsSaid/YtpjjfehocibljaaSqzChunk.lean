/-
  slices.Chunk at bytes: the iterator.
-/
import Derived.Test.YtpjjfehocibljaaIterG
import Derived.Test.YtpjjfehocibljaaBytes
import Derived.OwnWalkIn
import Derived.TacticsInMore
import Derived.LoopNIn
import Derived.LoopIn
import Derived.BigRegionIn
import Derived.Sort.BigQuietIn
namespace Go.Proofs.Ytpjjfehocibljaa
open Go.RowKit

attribute [local go_sem] Oper.semAt_some

theorem cutB_max (a : Option Addr) (n c l h : Nat) (hl : l < h) (hh : h ≤ c) (w : World) :
    (Instr.slice 22 (.slice a n c) (some (.int .i64 (l : Int))) (some (.int .i64 (h : Int))) (some (.int .i64 (h : Int)))).run Try.prog w = .ok (.slice (a.map (·.add l)) (h - l) (h - l)) w := by
  obtain ⟨i0, hi, hz0, hz1, hz2⟩ := info_parts infoB
  have h0 : (0 : Int) ≤ (l : Int) := by omega
  have h2 : (h : Int) ≤ ((c : Nat) : Int) := by omega
  have h3 : (0 : Int) ≤ (h : Int) := by omega
  have h5 : ¬ h = l := by omega
  have h6 : l ≤ h := by omega
  simp [Instr.slice, run_underlying Try.underlying22, sizeOf, typeInfo, hi, hz1, Instr.sliceBounds, go_sem, h0, h2, h3, h5, h6]
/-- Chunk j of n bytes from a on. -/
def chunkEnc (a : Option Addr) (n : Nat) (j : Nat) : Array Value := #[.slice (a.map (·.add (128 * j))) (min 128 (n - 128 * j)) (min 128 (n - 128 * j))]
theorem grownNone_of_below {W W' : World} (h : Below W.heap.size W W') : W.grownBy W' none := ⟨h.os, h.tape, h.output, h.size, fun k hk _ => h.block k hk⟩
theorem range_pre {m N : Nat} (h : m < N) : List.range m ++ [m] <+: List.range N := by
  rw [← List.range_succ]
  exact ⟨(List.range (N - (m + 1))).map (m + 1 + ·), by rw [← List.range_add]; congr 1; omega⟩
set_option maxRecDepth 100000 in
set_option maxHeartbeats 4000000 in
theorem chunk_iter (a : Option Addr) (n c C1 C2 n0 : Nat) (w : World) (hnc : n ≤ c) (hroom : c ≤ 140737488351232) (hC1 : Blk w C1 22 #[.slice a n c]) (hC2 : Blk w C2 3 #[.int .i64 128]) :
    IterG Try.prog 29 #[.pointer (some ⟨C1, 0, none⟩), .pointer (some ⟨C2, 0, none⟩)] (chunkEnc a n) (List.range ((n + 127) / 128)) [] [C1, C2] n0 w := by
  intro lp J Jx W hW hJ hJx hY h0
  have HC1 := Lib.hid (hC1.belowHere hW)
  have HC2 := Lib.hid (hC2.belowHere hW)
  have HY := Lib.hid hY
  have HJ := Lib.hid hJ
  have H0 := Lib.hid h0
  clear hY hJ h0 hW hC1 hC2
  refine callsIn_of_wp Try.func29 rfl trivial ?_ rfl
  simp only [Try.ntmps29, List.size_toArray, List.length_cons, List.length_nil, Nat.reduceAdd, Nat.reduceSub, Array.replicate_succ, Array.replicate_zero, List.push_toArray, List.append_toArray, List.nil_append, List.cons_append]
  gi_wp2
  gi_loopw [4, 5] (fun s _ wr => ∃ j i : Nat, i = 128 * j ∧ i < n + 128 ∧ s = .int .i64 (i : Int) ∧ Blk wr C1 22 #[.slice a n c] ∧ Blk wr C2 3 #[.int .i64 128] ∧ J (List.range (min j ((n + 127) / 128))) wr) (fun s _ _ => n + 128 - (intOf s).toNat)
  case atStart => exact ⟨0, 0, rfl, by omega, rfl, HC1.out, HC2.out, by rw [Nat.zero_min]; exact H0.out⟩
  case round =>
    obtain ⟨j, i, hij, hi, rfl, hc1, hc2, hj⟩ := hrel
    have HI := Lib.hid hij
    have HJ1 := Lib.hid hj
    have c1 := hc1.cellv (i := 0) rfl
    have c2 := hc2.cellv (i := 0) rfl
    have HC1 := Lib.hid hc1
    have HC2 := Lib.hid hc2
    by_cases hlt : i < n
    · obtain ⟨r, hr⟩ : ∃ r, r = n - i := ⟨_, rfl⟩
      obtain ⟨e, he⟩ : ∃ e, e = min 128 r := ⟨_, rfl⟩
      have hmin : min j ((n + 127) / 128) = j := by omega
      have hjn : j < (n + 127) / 128 := by omega
      have hcut := cutB_from a n c i (by omega)
      rw [← hr] at hcut
      have hmax := cutB_max a n c i (i + e) (by omega) (by omega)
      rw [show i + e - i = e by omega, show ((i + e : Nat) : Int) = (i : Int) + (e : Int) by omega] at hmax
      rw [hmin] at hj
      have HJ2 := Lib.hid (fun q => HJ.out _ _ _ none hj (grownNone_of_below (below_drewN wr q)) (.inl rfl))
      have HEnc := Lib.hid (show chunkEnc a n j = #[.slice (a.map (·.add i)) e e] by unfold chunkEnc; rw [← hij, ← hr, ← he])
      have hpre := Lib.hid (show List.range j ++ [j] <+: List.range ((n + 127) / 128) from range_pre hjn)
      have HN := Lib.hid (show J (List.range j ++ [j]) = J (List.range (min (j + 1) ((n + 127) / 128))) by rw [show min (j + 1) ((n + 127) / 128) = j + 1 by omega, List.range_succ])
      have hi2 : i + 128 ≤ 140737488351360 := by omega
      have HNI := Lib.hid (show i + 128 = 128 * (j + 1) by omega)
      clear hij hj hc1 hc2 hmin hjn
      by_cases h128 : 128 ≤ r
      · obtain rfl : e = 128 := by omega
        rw [show ((128 : Nat) : Int) = 128 from rfl] at hmax
        clear he hr
        gi_wp2
        gi_big_quiet_th (fail)
        obtain ⟨fn, tmps, assign, body, hy, hR⟩ := HY.out (List.range j) j (wr.drewN nq) (HJ2.out nq) hpre.out
        rw [HEnc.out] at hy
        have HC3 := Lib.hid (HC1.out.drewN nq)
        have HC4 := Lib.hid (HC2.out.drewN nq)
        clear hcut
        generalize wr.drewN nq = W2 at *
        have c1 := HC3.out.cellv (i := 0) rfl
        have c2 := HC4.out.cellv (i := 0) rfl
        gi_wp2
        refine hR.mono ?_
        rintro e W3 (⟨rfl, hJ3, hb3, hc3⟩ | ⟨rfl, hJx3⟩)
        · have HC5 := Lib.hid ((hc3 C1 (by simp)).trans HC3.out)
          have HC6 := Lib.hid ((hc3 C2 (by simp)).trans HC4.out)
          have c5 := (show Blk W3 C1 _ _ from HC5.out).cellv (i := 0) rfl
          have c6 := (show Blk W3 C2 _ _ from HC6.out).cellv (i := 0) rfl
          have HJ3 := Lib.hid hJ3
          clear hJ3 hb3 hc3 hy hR c1 c2
          gi_wp2
          go_roundw
          case rel => exact ⟨j + 1, i + 128, HNI.out, by omega, by go_num, HC5.out, HC6.out, by rw [← HN.out]; exact HJ3.out⟩
          case measure => simp [intOf]; omega
        · gi_wp2
          refine bodyPost_ret (results_none rfl _ _ _) rfl ?_
          exact ⟨⟨_, rfl⟩, .inr ⟨_, hpre.out, hJx3⟩⟩
      · obtain rfl : e = r := by omega
        clear he hr
        gi_wp2
        gi_big_quiet_th (fail)
        obtain ⟨fn, tmps, assign, body, hy, hR⟩ := HY.out (List.range j) j (wr.drewN nq) (HJ2.out nq) hpre.out
        rw [HEnc.out] at hy
        have HC3 := Lib.hid (HC1.out.drewN nq)
        have HC4 := Lib.hid (HC2.out.drewN nq)
        clear hcut
        generalize wr.drewN nq = W2 at *
        have c1 := HC3.out.cellv (i := 0) rfl
        have c2 := HC4.out.cellv (i := 0) rfl
        gi_wp2
        refine hR.mono ?_
        rintro e W3 (⟨rfl, hJ3, hb3, hc3⟩ | ⟨rfl, hJx3⟩)
        · have HC5 := Lib.hid ((hc3 C1 (by simp)).trans HC3.out)
          have HC6 := Lib.hid ((hc3 C2 (by simp)).trans HC4.out)
          have c5 := (show Blk W3 C1 _ _ from HC5.out).cellv (i := 0) rfl
          have c6 := (show Blk W3 C2 _ _ from HC6.out).cellv (i := 0) rfl
          have HJ3 := Lib.hid hJ3
          clear hJ3 hb3 hc3 hy hR c1 c2
          gi_wp2
          go_roundw
          case rel => exact ⟨j + 1, i + 128, HNI.out, by omega, by go_num, HC5.out, HC6.out, by rw [← HN.out]; exact HJ3.out⟩
          case measure => simp [intOf]; omega
        · gi_wp2
          refine bodyPost_ret (results_none rfl _ _ _) rfl ?_
          exact ⟨⟨_, rfl⟩, .inr ⟨_, hpre.out, hJx3⟩⟩
    · have hmin := Lib.hid (show min j ((n + 127) / 128) = (n + 127) / 128 by omega)
      clear hij hj hc1 hc2
      gi_wp2
      go_end0
      exact ⟨⟨_, rfl⟩, .inl (by have h := HJ1.out; rw [hmin.out] at h; exact h)⟩
end Go.Proofs.Ytpjjfehocibljaa
