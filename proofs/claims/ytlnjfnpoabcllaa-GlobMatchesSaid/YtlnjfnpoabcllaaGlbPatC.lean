/-
  A pattern's parts while they are being gathered.
-/
import Derived.Test.YtlnjfnpoabcllaaGlbPat
import Derived.Test.YtlnjfnpoabcllaaGlbMk
import Derived.Test.YtlnjfnpoabcllaaIterOwn
namespace Go.Proofs.Ytlnjfnpoabcllaa
open Go.RowKit

/-- Block b holds cells. -/
def CellsB (w : World) (b : Nat) : Prop := ∃ o : Obj, w.heap[b]? = some o ∧ o.isCells = true
theorem CellsB.lt {w : World} {b : Nat} (h : CellsB w b) : b < w.heap.size := by obtain ⟨o, h, _⟩ := h; exact heap_lt h
theorem CellsB.same {w w' : World} {b : Nat} (h : CellsB w b) (e : w'.heap[b]? = w.heap[b]?) : CellsB w' b := by obtain ⟨o, h, h2⟩ := h; exact ⟨o, e.trans h, h2⟩
theorem cellsB_of_cell {w : World} {b o : Nat} {v : Value} (h : w.cell? ⟨b, o, none⟩ = some v) : CellsB w b := by
  unfold World.cell? at h
  cases hb : w.heap[b]? with
  | none => simp [hb] at h
  | some ob =>
    cases ob with
    | cells cs t fr => exact ⟨_, hb, rfl⟩
    | _ => simp [hb] at h
theorem RowS.cells {α : Type} {S : Nat → Prop} {m : Nat} {f : α → List Value} {w : World} {a : Option Addr} {n : Nat} {xs : List α} (h : RowS S m f w a n xs) (hm : ∀ x, f x ≠ []) : RowS (fun b => S b ∧ CellsB w b) m f w a n xs := by
  obtain ⟨h1, h2, h3⟩ := h
  refine ⟨h1, h2, fun hn => ?_⟩
  obtain ⟨b, o, ha, hlt, hc⟩ := h3 hn
  refine ⟨b, o, ha, ⟨hlt, ?_⟩, hc⟩
  have h0 : 0 < xs.length := by omega
  cases hf : f xs[0] with
  | nil => exact absurd hf (hm _)
  | cons v t => exact cellsB_of_cell (hc 0 h0 0 v (by rw [hf]; rfl))
theorem MarksS.cells {S : Nat → Prop} {w : World} {a : Option Addr} {n : Nat} {gs : List Glb.Gm} (h : MarksS S w a n gs) : MarksS (fun b => S b ∧ CellsB w b) w a n gs := by
  obtain ⟨xs, h1, h2, h3⟩ := h
  exact ⟨xs, h1.cells (fun x h => by cases h), h2, fun i hi hj => ⟨(h3 i hi hj).1, (h3 i hi hj).2.1, (h3 i hi hj).2.2.1, (h3 i hi hj).2.2.2.cells (fun x h => by cases h)⟩⟩
def Sc (base : Nat) (v : Value) (W : World) : Nat → Prop := fun b => base ≤ b ∧ v.ownBlock ≠ some b ∧ CellsB W b
/-- The parts gathered so far. -/
def PatC (base : Nat) (v : Value) (W : World) (xs : List Pv) (ps : List Glb.Prt) : Prop :=
  OwnM 2 pvC 48 W base v xs ∧ xs.length = ps.length ∧ ∀ i (h : i < xs.length) (h' : i < ps.length), PtS (Sc base v W) W xs[i] ps[i]
theorem part_len (x : Pv) : (pvC x).length = 2 := rfl
theorem PatC.start (base : Nat) (W : World) : PatC base (.slice none 0 0) W [] [] := ⟨OwnM.nil part_len _ _, rfl, fun i h => absurd h (by simp)⟩
theorem OwnM.notRow {α : Type} {m : Nat} {f : α → List Value} {e : TypeId} {w : World} {base r : Nat} {v : Value} {xs : List α} (h : OwnM m f e w base v xs) (hr : r < base ∨ ∃ o : Obj, w.heap[r]? = some o ∧ o.isCells = false) : v.ownBlock ≠ some r := by
  rcases h.2.2 with ⟨rfl, _⟩ | ⟨g, cap, cur, rfl, hgb, hg, _⟩
  · intro e; cases e
  · intro e
    have e2 : g = r := Option.some.inj e
    subst e2
    rcases hr with h1 | ⟨o, ho, hc⟩
    · omega
    · rw [hg] at ho
      cases ho
      cases hc
theorem OwnM.cellsRow {α : Type} {m : Nat} {f : α → List Value} {e : TypeId} {w : World} {base : Nat} {v : Value} {xs : List α} (h : OwnM m f e w base v xs) : ∀ (j : Nat) (o : Obj), v.ownBlock = some j → w.heap[j]? = some o → o.isCells = true := by
  intro j o hj ho
  rcases h.2.2 with ⟨rfl, _⟩ | ⟨g, cap, cur, rfl, hgb, hg, _⟩
  · cases hj
  · have e2 : g = j := Option.some.inj hj
    subst e2
    rw [hg] at ho
    cases ho
    rfl
theorem PatC.keep {base r : Nat} {v : Value} {W W' : World} {xs : List Pv} {ps : List Glb.Prt} (h : PatC base v W xs ps) (hg : W.grownBy W' (some r)) (hr : r < base ∨ ∃ o : Obj, W.heap[r]? = some o ∧ o.isCells = false) : PatC base v W' xs ps := by
  obtain ⟨h1, h2, h3⟩ := h
  have hne : ∀ b, Sc base v W b → b ≠ r := fun b hS e => by
    subst e
    rcases hr with hr | ⟨o, ho, hc⟩
    · have := hS.1; omega
    · obtain ⟨o', ho', hc'⟩ := hS.2.2
      rw [ho] at ho'; cases ho'; rw [hc] at hc'; cases hc'
  have hb : ∀ b, Sc base v W b → W'.heap[b]? = W.heap[b]? := fun b hS => hg.block b hS.2.2.lt (fun e => hne b hS (Option.some.inj e))
  exact ⟨h1.grown hg (.inr (h1.notRow hr)), h2, fun i hi hj => ((h3 i hi hj).keep (w' := W') fun b o hS => World.cell?_of_block (hb b hS)).mono fun b hS => ⟨hS.1, hS.2.1, hS.2.2.same (hb b hS)⟩⟩
theorem PatC.on {base : Nat} {v : Value} {W W' : World} {xs : List Pv} {ps : List Glb.Prt} (h : PatC base v W xs ps) (hb : Below W.heap.size W W') (h0 : 0 < base) : PatC base v W' xs ps :=
  h.keep (r := 0) ⟨hb.os, hb.tape, hb.output, hb.size, fun k hk _ => hb.block k hk⟩ (.inl h0)
theorem PatC.push {base : Nat} {v v' : Value} {W w4 : World} {xs : List Pv} {ps : List Glb.Prt} {x : Pv} {p : Glb.Prt} (h : PatC base v W xs ps) (hp : PtS (Sc base v W) W x p)
    (ho4 : OwnM 2 pvC 48 w4 base v' (xs ++ [x])) (hg : W.grownBy w4 v.ownBlock) (hv : v'.ownBlock = v.ownBlock ∨ ∃ k, v'.ownBlock = some k ∧ W.heap.size ≤ k) : PatC base v' w4 (xs ++ [x]) (ps ++ [p]) := by
  obtain ⟨h1, h2, h3⟩ := h
  have hb : ∀ b, Sc base v W b → w4.heap[b]? = W.heap[b]? := fun b hS => hg.block b hS.2.2.lt (fun e => hS.2.1 e.symm)
  have hS' : ∀ b, Sc base v W b → Sc base v' w4 b := fun b hS => ⟨hS.1, fun e => by
    rcases hv with hv | ⟨k, hk, hge⟩
    · exact hS.2.1 (hv.symm.trans e)
    · rw [hk] at e; injection e with e; have := hS.2.2.lt; omega, hS.2.2.same (hb b hS)⟩
  refine ⟨ho4, by rw [List.length_append, List.length_append, h2]; rfl, fun i hi hj => ?_⟩
  by_cases hlt : i < xs.length
  · rw [List.getElem_append_left hlt, List.getElem_append_left (by omega)]
    exact ((h3 i hlt (by omega)).keep (w' := w4) fun b o hS => World.cell?_of_block (hb b hS)).mono hS'
  · rw [List.length_append, List.length_singleton] at hi
    obtain rfl : i = xs.length := by omega
    rw [List.getElem_append_right (Nat.le_refl _), List.getElem_append_right (by omega)]
    simp only [Nat.sub_self, h2, List.getElem_singleton]
    exact (hp.keep (w' := w4) fun b o hS => World.cell?_of_block (hb b hS)).mono hS'
theorem PatC.pat {base pb : Nat} {a : Option Addr} {n c : Nat} {W : World} {xs : List Pv} {ps : List Glb.Prt} (h : PatC base (.slice a n c) W xs ps) (hk : Blk W pb 45 #[.slice a n c]) (hn : ps.length ≤ 1000) : PatP W.heap.size W pb a n c ps := by
  obtain ⟨h1, h2, h3⟩ := h
  have hr := RowS.of_own h1 (by omega)
  have hl := hr.1
  refine ⟨hk, hk.lt, ⟨xs, hr.mono fun b hb => hb.2.1, by omega, fun i hi hj => (h3 i hi hj).mono fun b hS => hS.2.2.lt⟩, by omega, by omega⟩
end Go.Proofs.Ytlnjfnpoabcllaa
