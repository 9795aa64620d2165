/-
  slices.Chunk at bytes, blocks of any size: the iterator.
-/
import Derived.Test.YtceoogpmcijlaaaIterG
import Derived.Test.YtceoogpmcijlaaaBytes
import Derived.Test.YtceoogpmcijlaaaEccRowsM
import Derived.OwnWalkIn
import Derived.TacticsInMore
import Derived.LoopNIn
import Derived.LoopIn
import Derived.BigRegionIn
import Derived.Sort.BigQuietIn
namespace Go.Proofs.Ytceoogpmcijlaaa
open Go.RowKit

attribute [local go_sem] Oper.semAt_some

theorem cutB_max (a : Option Addr) (n c l h : Nat) (hl : l < h) (hh : h ≤ c) (w : World) :
    (Instr.slice 22 (.slice a n c) (some (.int .i64 (l : Int))) (some (.int .i64 (h : Int))) (some (.int .i64 (h : Int)))).run Try.prog w = .ok (.slice (a.map (·.add l)) (h - l) (h - l)) w := by
  obtain ⟨i0, hi, hz0, hz1, hz2⟩ := info_parts infoB
  have h0 : (0 : Int) ≤ (l : Int) := by omega
  have h2 : (h : Int) ≤ ((c : Nat) : Int) := by omega
  have h3 : (0 : Int) ≤ (h : Int) := by omega
  have h5 : ¬ h = l := by omega
  have h6 : l ≤ h := by omega
  simp [Instr.slice, run_underlying Try.underlying22, sizeOf, typeInfo, hi, hz1, Instr.sliceBounds, go_sem, h0, h2, h3, h5, h6]
/-- Block j of k bytes, of n bytes from a on. -/
def chunkEnc (a : Option Addr) (n k : Nat) (j : Nat) : Array Value := #[.slice (a.map (·.add (k * j))) (min k (n - k * j)) (min k (n - k * j))]
theorem grownNone_of_below {W W' : World} (h : Below W.heap.size W W') : W.grownBy W' none := ⟨h.os, h.tape, h.output, h.size, fun k hk _ => h.block k hk⟩
theorem range_pre {m N : Nat} (h : m < N) : List.range m ++ [m] <+: List.range N := by
  rw [← List.range_succ]
  exact ⟨(List.range (N - (m + 1))).map (m + 1 + ·), by rw [← List.range_add]; congr 1; omega⟩
set_option maxRecDepth 100000 in
set_option maxHeartbeats 4000000 in
theorem chunk_iter (a : Option Addr) (n c k C1 C2 n0 : Nat) (w : World) (hnc : n ≤ c) (hroom : c ≤ 140737488351232) (hk : 1 ≤ k) (hk2 : k ≤ 4096) (hC1 : Blk w C1 22 #[.slice a n c]) (hC2 : Blk w C2 3 #[.int .i64 k]) :
    IterG Try.prog 42 #[.pointer (some ⟨C1, 0, none⟩), .pointer (some ⟨C2, 0, none⟩)] (chunkEnc a n k) (List.range (Ecc.blks n k)) [] [C1, C2] n0 w := by
  intro lp J Jx W hW hJ hJx hY h0
  have HC1 := Lib.hid (hC1.belowHere hW)
  have HC2 := Lib.hid (hC2.belowHere hW)
  have HJ := Lib.hid hJ
  have H0 := Lib.hid h0
  have HLT := Lib.hid (fun j => Ecc.lt_blks (l := n) (n := k) (j := j) hk)
  obtain ⟨m, hm⟩ : ∃ m, m = Ecc.blks n k := ⟨_, rfl⟩
  rw [← hm] at HLT hY ⊢
  have HY := Lib.hid hY
  have HBM := Lib.hid (fun j (h : j ≤ m) => Ecc.blks_mul (l := n) (n := k) (j := j) hk (by rw [← hm]; exact h))
  clear hY hJ h0 hW hC1 hC2 hm
  refine callsIn_of_wp Try.func42 rfl trivial ?_ rfl
  simp only [Try.ntmps42, List.size_toArray, List.length_cons, List.length_nil, Nat.reduceAdd, Nat.reduceSub, Array.replicate_succ, Array.replicate_zero, List.push_toArray, List.append_toArray, List.nil_append, List.cons_append]
  gi_wp2
  gi_loopw [4, 5] (fun s _ wr => ∃ j i : Nat, i = k * j ∧ j ≤ m ∧ s = .int .i64 (i : Int) ∧ Blk wr C1 22 #[.slice a n c] ∧ Blk wr C2 3 #[.int .i64 k] ∧ J (List.range j) wr) (fun s _ _ => n + k - (intOf s).toNat)
  case atStart => exact ⟨0, 0, by simp, by omega, rfl, HC1.out, HC2.out, H0.out⟩
  case round =>
    obtain ⟨j, i, hij, hjm, rfl, hc1, hc2, hj⟩ := hrel
    have HI := Lib.hid hij
    have HJ1 := Lib.hid hj
    have c1 := hc1.cellv (i := 0) rfl
    have c2 := hc2.cellv (i := 0) rfl
    have HC1 := Lib.hid hc1
    have HC2 := Lib.hid hc2
    have hjn : j < m ↔ i < n := by rw [hij]; exact HLT.out j
    have hilt : i < n + k := by rw [hij]; exact HBM.out j hjm
    by_cases hlt : i < n
    · obtain ⟨r, hr⟩ : ∃ r, r = n - i := ⟨_, rfl⟩
      obtain ⟨e, he⟩ : ∃ e, e = min k r := ⟨_, rfl⟩
      have hjlt : j < m := hjn.2 hlt
      have hcut := cutB_from a n c i (by omega)
      rw [← hr] at hcut
      have hmax := cutB_max a n c i (i + e) (by omega) (by omega)
      rw [show i + e - i = e by omega, show ((i + e : Nat) : Int) = (i : Int) + (e : Int) by omega] at hmax
      have HJ2 := Lib.hid (fun q => HJ.out _ _ _ none hj (grownNone_of_below (below_drewN wr q)) (.inl rfl))
      have HEnc := Lib.hid (show chunkEnc a n k j = #[.slice (a.map (·.add i)) e e] by unfold chunkEnc; rw [← hij, ← hr, ← he])
      have hpre := Lib.hid (show List.range j ++ [j] <+: List.range m from range_pre hjlt)
      have HN := Lib.hid (show J (List.range j ++ [j]) = J (List.range (j + 1)) by rw [List.range_succ])
      have hi2 : i + k ≤ 140737488355460 := by omega
      have HNI := Lib.hid (show i + k = k * (j + 1) by rw [hij, Nat.mul_succ])
      clear hij hj hc1 hc2 hjn
      have HLt := Lib.hid hjlt
      clear hjlt
      by_cases hkr : k ≤ r
      · obtain rfl : e = k := by omega
        have gmin : decide ((e : Int) ≤ (r : Int)) = true := decide_eq_true (by omega)
        clear he hr
        gi_wp2
        gi_big_quiet_th (fail)
        obtain ⟨fn, tmps, assign, body, hy, hR⟩ := HY.out (List.range j) j (wr.drewN nq) (HJ2.out nq) hpre.out
        rw [HEnc.out] at hy
        have HC3 := Lib.hid (HC1.out.drewN nq)
        have HC4 := Lib.hid (HC2.out.drewN nq)
        clear hcut
        generalize wr.drewN nq = W2 at *
        have c1 := HC3.out.cellv (i := 0) rfl
        have c2 := HC4.out.cellv (i := 0) rfl
        gi_wp2
        refine hR.mono ?_
        rintro ee W3 (⟨rfl, hJ3, hb3, hc3⟩ | ⟨rfl, hJx3⟩)
        · have HC5 := Lib.hid ((hc3 C1 (by simp)).trans HC3.out)
          have HC6 := Lib.hid ((hc3 C2 (by simp)).trans HC4.out)
          have c5 := (show Blk W3 C1 _ _ from HC5.out).cellv (i := 0) rfl
          have c6 := (show Blk W3 C2 _ _ from HC6.out).cellv (i := 0) rfl
          have HJ3 := Lib.hid hJ3
          clear hJ3 hb3 hc3 hy hR c1 c2
          gi_wp2
          go_roundw
          case rel => exact ⟨j + 1, i + e, HNI.out, by have := HLt.out; omega, by go_num, HC5.out, HC6.out, by rw [← HN.out]; exact HJ3.out⟩
          case measure => simp [intOf]; omega
        · gi_wp2
          refine bodyPost_ret (results_none rfl _ _ _) rfl ?_
          exact ⟨⟨_, rfl⟩, .inr ⟨_, hpre.out, hJx3⟩⟩
      · obtain rfl : e = r := by omega
        have gmin : decide ((k : Int) ≤ (e : Int)) = false := decide_eq_false (by omega)
        clear he hr
        gi_wp2
        gi_big_quiet_th (fail)
        obtain ⟨fn, tmps, assign, body, hy, hR⟩ := HY.out (List.range j) j (wr.drewN nq) (HJ2.out nq) hpre.out
        rw [HEnc.out] at hy
        have HC3 := Lib.hid (HC1.out.drewN nq)
        have HC4 := Lib.hid (HC2.out.drewN nq)
        clear hcut
        generalize wr.drewN nq = W2 at *
        have c1 := HC3.out.cellv (i := 0) rfl
        have c2 := HC4.out.cellv (i := 0) rfl
        gi_wp2
        refine hR.mono ?_
        rintro ee W3 (⟨rfl, hJ3, hb3, hc3⟩ | ⟨rfl, hJx3⟩)
        · have HC5 := Lib.hid ((hc3 C1 (by simp)).trans HC3.out)
          have HC6 := Lib.hid ((hc3 C2 (by simp)).trans HC4.out)
          have c5 := (show Blk W3 C1 _ _ from HC5.out).cellv (i := 0) rfl
          have c6 := (show Blk W3 C2 _ _ from HC6.out).cellv (i := 0) rfl
          have HJ3 := Lib.hid hJ3
          clear hJ3 hb3 hc3 hy hR c1 c2
          gi_wp2
          go_roundw
          case rel => exact ⟨j + 1, i + k, HNI.out, by have := HLt.out; omega, by go_num, HC5.out, HC6.out, by rw [← HN.out]; exact HJ3.out⟩
          case measure => simp [intOf]; omega
        · gi_wp2
          refine bodyPost_ret (results_none rfl _ _ _) rfl ?_
          exact ⟨⟨_, rfl⟩, .inr ⟨_, hpre.out, hJx3⟩⟩
    · obtain rfl : j = m := by omega
      clear hij hj hc1 hc2 hjn
      gi_wp2
      go_end0
      exact ⟨⟨_, rfl⟩, .inl HJ1.out⟩
end Go.Proofs.Ytceoogpmcijlaaa
