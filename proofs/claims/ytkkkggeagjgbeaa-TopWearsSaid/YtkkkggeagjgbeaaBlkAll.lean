/-
  The manager's blocks, one behind the other.
-/
import Derived.Test.YtkkkggeagjgbeaaBlkMem
import Derived.Test.YtkkkggeagjgbeaaIterMany
import Derived.Shelf.Abstract
namespace Go.Proofs.Ytkkkggeagjgbeaa
open Go.RowKit Go.Shelf

attribute [local go_sem] Oper.semAt_some

/-- The first k blocks, with their numbers. -/
def allTo (l : List Bk) (k : Nat) : List (Nat × Bk) := (List.range k).map fun i => (i, Gc.at_ l i)
theorem allTo_succ (l : List Bk) (k : Nat) : allTo l (k + 1) = allTo l k ++ [(k, Gc.at_ l k)] := by simp [allTo, List.range_succ]
theorem allTo_pre (l : List Bk) {k n : Nat} (h : k < n) : allTo l k ++ [(k, Gc.at_ l k)] <+: allTo l n := by
  rw [← allTo_succ]
  have : (List.range (k + 1)) <+: List.range n := by
    refine ⟨(List.range (n - (k + 1))).map (k + 1 + ·), ?_⟩
    rw [← List.range_add]
    congr 1
    omega
  obtain ⟨t, ht⟩ := this
  exact ⟨t.map fun i => (i, Gc.at_ l i), by unfold allTo; rw [← List.map_append, ht]⟩
def allEnc (x : Nat × Bk) : Array Value := #[.int .i64 (x.1 : Int), bkV x.2]
set_option maxRecDepth 100000 in
set_option maxHeartbeats 4000000 in
theorem all_iter (g : Mg) (NB C n0 : Nat) (w : World) (hM : Blk w g.M 60 (mgA NB g)) (hx : ArrM 4 bkL w n0 (some ⟨g.ML, 0, none⟩) NB g.l) (hC : Blk w C 31 #[.pointer (some ⟨g.M, 0, none⟩)]) (hn0 : n0 ≤ w.heap.size) (hnb : NB ≤ 1000) :
    IterG Try.prog 66 #[.pointer (some ⟨C, 0, none⟩)] allEnc (allTo g.l NB) [] [C] n0 w := by
  intro lp J Jx W hW hJ hJx hY h0
  have HC := Lib.hid (hC.belowHere hW)
  have HM := Lib.hid (hM.belowHere hW)
  have hsW := Nat.le_trans hn0 hW.size
  have HX := Lib.hid (hx.below (hW.mono hn0))
  have HY := Lib.hid hY
  have HJ := Lib.hid hJ
  have H0 := Lib.hid h0
  have c0 := HC.out.cellv (i := 0) rfl
  have m1 : W.cell? ⟨g.M, 1, none⟩ = some (.slice (some ⟨g.ML, 0, none⟩) NB g.cap) := HM.out.cellv rfl
  have hcs := bkCells
  clear hY hJ h0 hW hC hx hM
  refine callsIn_of_wp Try.func66 rfl trivial ?_ rfl
  simp only [Try.ntmps66, List.size_toArray, List.length_cons, List.length_nil, Nat.reduceAdd, Nat.reduceSub, Array.replicate_succ, Array.replicate_zero, List.push_toArray, List.append_toArray, List.nil_append, List.cons_append]
  gi_wp2
  gi_loopw [3, 4, 12] (fun _ _ i wr => ∃ k : Nat, k ≤ NB ∧ i = .int .i64 (k : Int) ∧ Blk wr C 31 #[.pointer (some ⟨g.M, 0, none⟩)] ∧ ArrM 4 bkL wr n0 (some ⟨g.ML, 0, none⟩) NB g.l ∧ n0 ≤ wr.heap.size ∧ J (allTo g.l k) wr) (fun _ _ i _ => NB - (intOf i).toNat)
  case atStart => exact ⟨0, by omega, rfl, HC.out, HX.out, hsW, H0.out⟩
  case round =>
    obtain ⟨k, hk, rfl, hc, hx, hsz, hj⟩ := hrel
    have HJ1 := Lib.hid hj
    have HC := Lib.hid hc
    have HX := Lib.hid hx
    clear hj hc hx
    by_cases hlt : k < NB
    · obtain ⟨b, o, ha, hbl, c0, c1, c2, c3⟩ := bk_at HX.out (k := k) hlt
      injection ha with ha
      injection ha with ha1 ha2
      subst ha1 ha2
      rw [Nat.zero_add] at c0 c1 c2 c3
      have hk0 : (0 : Int) ≤ (k : Int) := by omega
      have hk1 : (k : Int) < (NB : Int) := by omega
      have HD := Lib.hid (allTo_succ g.l k)
      have hpre := Lib.hid (allTo_pre g.l (k := k) (n := NB) hlt)
      have hba := (Below.refl wr.heap.size wr).alloc (Nat.le_refl _) (.cells #[.int .i64 ((Gc.at_ g.l k).st : Int), .int .i64 ((Gc.at_ g.l k).live : Int), .int .i64 ((Gc.at_ g.l k).wear : Int), .int .i64 ((Gc.at_ g.l k).nx : Int)] 47)
      have hj2 := HJ.out _ _ _ none HJ1.out (show wr.grownBy (wr.alloc (.cells #[.int .i64 ((Gc.at_ g.l k).st : Int), .int .i64 ((Gc.at_ g.l k).live : Int), .int .i64 ((Gc.at_ g.l k).wear : Int), .int .i64 ((Gc.at_ g.l k).nx : Int)] 47)) none from ⟨rfl, rfl, rfl, by simp, fun q hq _ => hba.block q hq⟩) (.inl rfl)
      have HC2 := Lib.hid (HC.out.belowHere hba)
      have HX2 := Lib.hid (HX.out.below (hba.mono hsz))
      have HS2 := Lib.hid (Nat.le_trans hsz hba.size)
      obtain ⟨fn, tmps, assign, body, hy, hR⟩ := HY.out (allTo g.l k) (k, Gc.at_ g.l k) _ hj2 hpre.out
      unfold allEnc bkV at hy
      clear hba hj2
      generalize Gc.at_ g.l k = x at *
      gi_wp2
      refine hR.mono ?_
      rintro e W3 (⟨rfl, hJ3, hb3, hc3⟩ | ⟨rfl, hJx3⟩)
      · have HC5 := Lib.hid ((hc3 C (by simp)).trans HC2.out)
        have HX5 := Lib.hid (HX2.out.below hb3)
        have HS5 := Lib.hid (Nat.le_trans HS2.out hb3.size)
        have HJ3 := Lib.hid hJ3
        clear hJ3 hb3 hc3 hy hR c0 c1 c2 c3
        gi_wp2
        go_roundw
        case rel => exact ⟨k + 1, by omega, by go_num, HC5.out, HX5.out, HS5.out, by rw [HD.out]; exact HJ3.out⟩
        case measure => simp [intOf]; omega
      · gi_wp2
        refine bodyPost_ret (results_none rfl _ _ _) rfl ?_
        exact ⟨⟨_, rfl⟩, .inr ⟨_, hpre.out, hJx3⟩⟩
    · obtain rfl : k = NB := by omega
      gi_wp2
      go_end0
      exact ⟨⟨_, rfl⟩, .inl HJ1.out⟩
theorem allFn (M : Nat) (w : World) :
    Calls Try.prog 37 #[.pointer (some ⟨M, 0, none⟩)] w fun e w' => e = .returned (.func (.func 66) #[] #[.pointer (some ⟨w.heap.size, 0, none⟩)]) ∧ w.alloc (.cells #[.pointer (some ⟨M, 0, none⟩)] 31) = w' := by
  go_enter Try.func37, Try.ntmps37
  go_wp2
  go_ret
  exact ⟨rfl, rfl⟩
end Go.Proofs.Ytkkkggeagjgbeaa
