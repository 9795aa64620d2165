/-
  slices.Backward at []int: the iterator.
-/
import Derived.Test.YtpjjfehocibljaaSqzChunk
namespace Go.Proofs.Ytpjjfehocibljaa
open Go.RowKit

attribute [local go_sem] Oper.semAt_some

def natV (x : Nat) : Value := .int .i64 (x : Int)
theorem natV_eq (x : Nat) : natV x = .int .i64 (x : Int) := rfl
attribute [go_sem] natV_eq
theorem natV_one (x : Nat) : (natV x).oneCell' = true := rfl
/-- The first j of the indices below n, from the last one down. -/
def downs (n j : Nat) : List Nat := (List.range j).map fun t => n - 1 - t
theorem downs_succ (n j : Nat) : downs n (j + 1) = downs n j ++ [n - 1 - j] := by simp [downs, List.range_succ]
theorem downs_pre {n j : Nat} (h : j < n) : downs n j ++ [n - 1 - j] <+: downs n n := by
  rw [← downs_succ]
  obtain ⟨t, ht⟩ := range_pre h
  rw [← List.range_succ] at ht
  exact ⟨t.map fun t => n - 1 - t, by unfold downs; rw [← List.map_append, ht]⟩
theorem downs_of_pre {n : Nat} {pre : List Nat} {i : Nat} (h : pre ++ [i] <+: downs n n) : pre = downs n pre.length ∧ pre.length < n ∧ i = n - 1 - pre.length := by
  have hl := h.length_le
  simp [downs] at hl
  have h1 : ∀ k (hk : k < (pre ++ [i]).length), (pre ++ [i])[k] = n - 1 - k := by
    intro k hk
    rw [h.getElem hk]
    simp [downs]
  refine ⟨?_, by omega, ?_⟩
  · apply List.ext_getElem (by simp [downs])
    intro k hk _
    have := h1 k (by simp; omega)
    rw [List.getElem_append_left hk] at this
    rw [this]
    simp [downs]
  · have := h1 pre.length (by simp)
    rw [List.getElem_append_right (Nat.le_refl _)] at this
    simpa using this
def backEnc (l : List Nat) (i : Nat) : Array Value := #[.int .i64 (i : Int), .int .i64 ((l.getD i 0 : Nat) : Int)]
set_option maxRecDepth 100000 in
set_option maxHeartbeats 4000000 in
theorem backward_iter (a : Option Addr) (n c C n0 : Nat) (l : List Nat) (w : World) (hx : Arr natV w n0 a n l) (hC : Blk w C 53 #[.slice a n c]) (hn0 : n0 ≤ w.heap.size) :
    IterG Try.prog 28 #[.pointer (some ⟨C, 0, none⟩)] (backEnc l) (downs n n) [] [C] n0 w := by
  intro lp J Jx W hW hJ hJx hY h0
  have HC := Lib.hid (hC.belowHere hW)
  have HX := Lib.hid (hx.below (hW.mono hn0))
  have HL := Lib.hid hx.len
  have hroom := hx.room
  have HY := Lib.hid hY
  have HJ := Lib.hid hJ
  have H0 := Lib.hid h0
  have c0 := HC.out.cellv (i := 0) rfl
  clear hY hJ h0 hW hC hx
  refine callsIn_of_wp Try.func28 rfl trivial ?_ rfl
  simp only [Try.ntmps28, List.size_toArray, List.length_cons, List.length_nil, Nat.reduceAdd, Nat.reduceSub, Array.replicate_succ, Array.replicate_zero, List.push_toArray, List.append_toArray, List.nil_append, List.cons_append]
  gi_wp2
  gi_loopw [3] (fun s wr => ∃ (e : Int) (r j : Nat), r + j = n ∧ e + 1 ≤ r ∧ r ≤ e + 1 ∧ s = .int .i64 e ∧ Blk wr C 53 #[.slice a n c] ∧ Arr natV wr n0 a n l ∧ J (downs n j) wr) (fun s _ => (intOf s + 1).toNat)
  case atStart => exact ⟨(n : Int) - 1, n, 0, rfl, by omega, by omega, rfl, HC.out, HX.out, H0.out⟩
  case round =>
    obtain ⟨e, r, j, hrj, he1, he2, rfl, hc, hx, hj⟩ := hrel
    have HRJ := Lib.hid hrj
    have HJ1 := Lib.hid hj
    have c0 := hc.cellv (i := 0) rfl
    have HC := Lib.hid hc
    have HX := Lib.hid hx
    cases r with
    | zero =>
      obtain rfl : e = -1 := by omega
      obtain rfl : j = n := by omega
      clear hrj hj hc hx he1 he2
      gi_wp2
      go_end0
      exact ⟨⟨_, rfl⟩, .inl HJ1.out⟩
    | succ i =>
      obtain rfl : e = (i : Int) := by omega
      have hin : i < n := by omega
      have hij : i = n - 1 - j := by omega
      obtain ⟨b1, o1, hk1, rfl, hbl1, hc1⟩ := hx.atv hin
      rw [natV_eq] at hc1
      have HD := Lib.hid (show downs n (j + 1) = downs n j ++ [i] by rw [downs_succ, ← hij])
      have hpre := Lib.hid (show downs n j ++ [i] <+: downs n n by rw [hij]; exact downs_pre (by omega))
      obtain ⟨fn, tmps, assign, body, hy, hR⟩ := HY.out (downs n j) i wr hj hpre.out
      unfold backEnc at hy
      rw [List.getD_eq_getElem?_getD, List.getElem?_eq_getElem hk1, Option.getD_some] at hy
      generalize l[i] = x at *
      clear hrj hj hc hx he1 he2 hij
      gi_wp2
      refine hR.mono ?_
      rintro e W3 (⟨rfl, hJ3, hb3, hc3⟩ | ⟨rfl, hJx3⟩)
      · have HC5 := Lib.hid ((hc3 C (by simp)).trans HC.out)
        have HX5 := Lib.hid (HX.out.below hb3)
        have HJ3 := Lib.hid hJ3
        clear hJ3 hb3 hc3 hy hR c0 hc1
        gi_wp2
        go_roundw
        case rel => exact ⟨(i : Int) - 1, i, j + 1, by have := HRJ.out; omega, by omega, by omega, rfl, HC5.out, HX5.out, by rw [HD.out]; exact HJ3.out⟩
        case measure => simp [intOf]
      · gi_wp2
        refine bodyPost_ret (results_none rfl _ _ _) rfl ?_
        exact ⟨⟨_, rfl⟩, .inr ⟨_, hpre.out, hJx3⟩⟩
theorem backwardFn (a : Option Addr) (n c : Nat) (w : World) :
    Calls Try.prog 25 #[.slice a n c] w fun e w' => e = .returned (.func (.func 28) #[] #[.pointer (some ⟨w.heap.size, 0, none⟩)]) ∧ w.alloc (.cells #[.slice a n c] 53) = w' := by
  go_enter Try.func25, Try.ntmps25
  go_wp2
  go_ret
  exact ⟨rfl, rfl⟩
end Go.Proofs.Ytpjjfehocibljaa
