/-
  path.Parts: the parts of a path, one behind the other.
-/
import Derived.Test.YtlnjfnpoabcllaaPathCut
import Derived.Test.YtlnjfnpoabcllaaIter
import Derived.OwnWalkIn
import Derived.TacticsInMore
import Derived.LoopNIn
import Derived.LoopIn
namespace Go.Proofs.Ytlnjfnpoabcllaa
open Go.RowKit

attribute [local go_sem] Oper.semAt_some

theorem cell_kept' {W W' : World} {b o : Nat} (h : W'.heap[b]? = W.heap[b]?) : W'.cell? ⟨b, o, none⟩ = W.cell? ⟨b, o, none⟩ := World.cell?_of_block h
theorem grown_of_below {w w' : World} {c : Nat} (h : Below w.heap.size w w') : w.grownBy w' (some c) := ⟨h.os, h.tape, h.output, h.size, fun k hk _ => h.block k hk⟩
theorem grown_setCell (w : World) (c o : Nat) (v : Value) : w.grownBy (w.setCell ⟨c, o, none⟩ v) (some c) :=
  have h := (Below.refl 0 w).setCell (p := ⟨c, o, none⟩) (Nat.zero_le _) v
  ⟨h.os, h.tape, h.output, h.size, fun k _ hk => heap_setCell_other w ⟨c, o, none⟩ k v (fun e => hk (by rw [e]))⟩
def partEnc (l : List UInt8) : Array Value := #[.string (strL l)]
open Classical in
noncomputable def restLen (c : Nat) (W : World) : Nat := if h : ∃ l, W.cell? ⟨c, 0, none⟩ = some (.string (strL l)) then (Classical.choose h).length else 0
theorem strL_inj' {xs ys : List UInt8} (h : strL xs = strL ys) : xs = ys := strL_inj h
theorem restLen_eq {c : Nat} {W : World} {l : List UInt8} (h : W.cell? ⟨c, 0, none⟩ = some (.string (strL l))) : restLen c W = l.length := by
  have hex : ∃ l, W.cell? ⟨c, 0, none⟩ = some (.string (strL l)) := ⟨l, h⟩
  unfold restLen
  rw [dif_pos hex]
  have h2 := h.symm.trans (Classical.choose_spec hex)
  simp only [Option.some.injEq, Value.string.injEq] at h2
  rw [← strL_inj h2]
set_option maxRecDepth 100000 in
set_option maxHeartbeats 2000000 in
theorem parts_iter (l : List UInt8) (c n0 : Nat) (w : World) (hl : l.length ≤ 140737488351232) (hc : w.cell? ⟨c, 0, none⟩ = some (.string (strL l))) (hf : w.frozen? ⟨c, 0, none⟩ = false) :
    Iter Try.prog 37 #[.pointer (some ⟨c, 0, none⟩)] partEnc (Pth.parts l) c n0 w := by
  intro lp J Jx W hW hJ hJx hY h0
  have hcl := block_lt_of_cell hc
  have hc' := (hW.cell (p := ⟨c, 0, none⟩) hcl).trans hc
  have hf' := (hW.frozen (p := ⟨c, 0, none⟩) hcl).trans hf
  clear hc hf hW hcl
  refine callsIn_of_wp Try.func37 rfl trivial ?_ rfl
  simp only [Try.ntmps37, List.size_toArray, List.length_cons, List.length_nil, Nat.reduceAdd, Nat.reduceSub, Array.replicate_succ, Array.replicate_zero, List.push_toArray, List.append_toArray, List.nil_append, List.cons_append]
  gi_wp2
  gi_loopw [3, 4, 5] (fun _ _ _ wr => ∃ pre r : _, Pth.parts l = pre ++ Pth.parts r ∧ r.length ≤ l.length ∧ wr.cell? ⟨c, 0, none⟩ = some (.string (strL r)) ∧ wr.frozen? ⟨c, 0, none⟩ = false ∧ J pre wr) (fun _ _ _ wr => restLen c wr)
  case atStart => exact ⟨[], l, rfl, Nat.le_refl _, hc', hf', h0⟩
  case round =>
    obtain ⟨pre, r, hp, hrl, hcell, hfr, hJ1⟩ := hrel
    have HP := Lib.hid hp
    have HJ1 := Lib.hid hJ1
    have HR := Lib.hid hcell
    clear hp hJ1
    by_cases h0 : r = []
    · subst h0
      gi_wp2
      go_end0
      refine ⟨⟨_, rfl⟩, .inl ?_⟩
      have hp := HP.out
      rw [Pth.parts_nil, List.append_nil] at hp
      rw [hp]; exact HJ1.out
    have g0 : r.isEmpty = false := by simpa using h0
    have g1 : (r == []) = false := by simpa using h0
    have HS := Lib.hid (Pth.parts_step r)
    have hlt := Pth.behind_lt r h0
    have hcc := Lib.hid (callsIn_wide (n := 7) |>.2 (cut_calls r wr (by omega)))
    have HIN := Lib.hid (fun x (h : Pth.opt (Pth.ahead r) = [x]) => (⟨Pth.parts (Pth.behind r), by rw [HP.out, HS.out, h, List.append_assoc]⟩ : (pre ++ [x]) <+: Pth.parts l))
    clear h0
    by_cases h1 : Pth.ahead r = []
    · have ho : Pth.opt (Pth.ahead r) = [] := by rw [h1]; rfl
      have HO := Lib.hid ho
      rw [h1] at hcc
      clear h1 ho HIN
      gi_wp2_with fail
      refine ⟨trivial, ?_⟩
      refine hcc.out.mono ?_
      rintro e w2 ⟨⟨b, rfl⟩, hb⟩
      have hcl2 := (hb.cell (p := ⟨c, 0, none⟩) (block_lt_of_cell HR.out)).trans HR.out
      have hfr2 := (hb.frozen (p := ⟨c, 0, none⟩) (block_lt_of_cell HR.out)).trans hfr
      have HJ2 := Lib.hid (hJ _ _ _ HJ1.out (grown_of_below hb))
      clear hb
      gi_wp2
      all_goals (refine ⟨fun _ h => (by cases h), ?_⟩; gi_wp2)
      go_roundw
      case rel =>
        refine ⟨pre, Pth.behind r, by rw [HP.out, HS.out, HO.out]; rfl, by omega, ?_, ?_, ?_⟩
        · exact World.cell?_setCell_same' _ _ _ (by rw [hcl2]; rfl)
        · rw [World.frozen?_setCell]; exact hfr2
        · exact hJ _ _ _ HJ2.out (grown_setCell _ _ _ _)
      case measure =>
        rw [restLen_eq (l := Pth.behind r) (World.cell?_setCell_same' _ _ _ (by rw [hcl2]; rfl)), restLen_eq HR.out]
        exact hlt
    · have ho : Pth.opt (Pth.ahead r) = [Pth.ahead r] := by unfold Pth.opt; rw [if_neg h1]
      have HO := Lib.hid ho
      have HPRE := Lib.hid (HIN.out _ ho)
      have g2 : (Pth.ahead r).isEmpty = false := by simpa using h1
      have g3 : (Pth.ahead r == []) = false := by simpa using h1
      clear h1 ho HIN
      have HJall := Lib.hid hY
      gi_wp2_with fail
      refine ⟨trivial, ?_⟩
      refine hcc.out.mono ?_
      rintro e w2 ⟨⟨b, rfl⟩, hb⟩
      have hcl2 := (hb.cell (p := ⟨c, 0, none⟩) (block_lt_of_cell HR.out)).trans HR.out
      have hfr2 := (hb.frozen (p := ⟨c, 0, none⟩) (block_lt_of_cell HR.out)).trans hfr
      have HJ2 := Lib.hid (hJ _ _ _ HJ1.out (grown_of_below hb))
      clear hb
      obtain ⟨fn, tmps, assign, body, hy, hR⟩ := hY pre (Pth.ahead r) (w2.setCell ⟨c, 0, none⟩ (.string (strL (Pth.behind r)))) (hJ _ _ _ HJ2.out (grown_setCell _ _ _ _)) HPRE.out
      unfold partEnc at hy
      have hcl3 := World.cell?_setCell_same' w2 ⟨c, 0, none⟩ (.string (strL (Pth.behind r))) (by rw [hcl2]; rfl)
      have hfr3 : (w2.setCell ⟨c, 0, none⟩ (.string (strL (Pth.behind r)))).frozen? ⟨c, 0, none⟩ = false := by rw [World.frozen?_setCell]; exact hfr2
      gi_wp2
      refine hR.mono ?_
      rintro e W3 (⟨rfl, hJ3, hb3, hc3⟩ | ⟨rfl, hJx3⟩)
      · have hcl4 := (World.cell?_of_block (a := ⟨c, 0, none⟩) hc3).trans hcl3
        have hfr4 := (World.frozen?_of_block (a := ⟨c, 0, none⟩) hc3).trans hfr3
        gi_wp2
        go_roundw
        case rel => exact ⟨pre ++ [Pth.ahead r], Pth.behind r, by rw [HP.out, HS.out, HO.out, List.append_assoc], by omega, hcl4, hfr4, hJ3⟩
        case measure =>
          rw [restLen_eq hcl4, restLen_eq HR.out]
          exact hlt
      · gi_wp2
        refine bodyPost_ret (results_none rfl _ _ _) rfl ?_
        exact ⟨⟨_, rfl⟩, .inr ⟨_, HPRE.out, hJx3⟩⟩
end Go.Proofs.Ytlnjfnpoabcllaa
