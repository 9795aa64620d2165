/-
  A manager of blocks in memory, with its chip.
-/
import Derived.Test.YtkkkggeagjgbeaaChErase
import Derived.Test.YtkkkggeagjgbeaaGcSmall
namespace Go.Proofs.Ytkkkggeagjgbeaa
open Go.RowKit

/-- Where a manager lies, and what it holds. -/
structure Mg where
  M : Nat
  ML : Nat
  C : Nat
  BL : Nat
  cap : Nat
  ps : Nat → Nat
  bl : Nat → Pb
  l : List Bk
  opn : Int
  res : Int
  bad : Int
  even : Bool
def mgA (NB : Nat) (g : Mg) : Array Value := #[.pointer (some ⟨g.C, 0, none⟩), .slice (some ⟨g.ML, 0, none⟩) NB g.cap, .int .i64 g.opn, .int .i64 g.res, .int .i64 g.bad, .bool g.even]
/-- A manager's footprint, its chip's being S. -/
def Sm (g : Mg) (S : Nat → Prop) (q : Nat) : Prop := q = g.M ∨ q = g.ML ∨ S q
structure MgM (NB B : Nat) (S : Nat → Prop) (w : World) (g : Mg) : Prop where
  hM : Blk w g.M 60 (mgA NB g)
  hL : OwnM 4 bkL 47 w 0 (.slice (some ⟨g.ML, 0, none⟩) NB g.cap) g.l
  hc : ChM NB B S w g.C g.BL g.ps g.bl
  ne : g.M ≠ g.ML
  sM : ¬ S g.M
  sL : ¬ S g.ML
  bM : B ≤ g.M
  bL : B ≤ g.ML
  nb : NB ≤ 1000
section
variable {NB B : Nat} {S T : Nat → Prop} {w w' : World} {g : Mg}
theorem MgM.len (h : MgM NB B S w g) : g.l.length = NB := by
  obtain ⟨_, _, e, _⟩ := h.hL.form
  injection e with _ e2 _
  exact e2.symm
theorem MgM.ltM (h : MgM NB B S w g) : g.M < w.heap.size := h.hM.lt
theorem MgM.ltL (h : MgM NB B S w g) : g.ML < w.heap.size := (h.hL.blockLt _ rfl).2
theorem MgM.base (h : MgM NB B S w g) : B ≤ w.heap.size := by have := h.bM; have := h.ltM; omega
theorem MgM.hi (h : MgM NB B S w g) : ∀ q, Sm g S q → q < w.heap.size := by
  rintro q (rfl | rfl | hq)
  · exact h.ltM
  · exact h.ltL
  · exact h.hc.hi q hq
theorem MgM.lo (h : MgM NB B S w g) : ∀ q, Sm g S q → B ≤ q := by
  rintro q (rfl | rfl | hq)
  · exact h.bM
  · exact h.bL
  · exact h.hc.lo q hq
theorem MgM.kq (h : MgM NB B S w g) (hk : Kq T w w') (hT : ∀ q, Sm g S q → ¬ T q) : MgM NB B S w' g :=
  ⟨h.hM.kq hk (hT _ (.inl rfl)), h.hL.kq hk fun q hq => by obtain rfl := own_of _ _ _ _ hq; exact hT _ (.inr (.inl rfl)), h.hc.kq hk fun q hq => hT q (.inr (.inr hq)), h.ne, h.sM, h.sL, h.bM, h.bL, h.nb⟩
theorem MgM.on (h : MgM NB B S w g) (hb : Below w.heap.size w w') : MgM NB B S w' g := h.kq (T := fun _ => False) (Kq.of hb) fun _ _ h => h
/-- The chip has done something. -/
theorem MgM.chip {S' : Nat → Prop} {ps' : Nat → Nat} {bl' : Nat → Pb} (h : MgM NB B S w g) (hc : ChM NB B S' w' g.C g.BL ps' bl') (hk : Kq S w w') (hS : ∀ q, S' q → Up S w w' q) : MgM NB B S' w' { g with ps := ps', bl := bl' } :=
  ⟨h.hM.kq hk h.sM, h.hL.kq hk fun q hq => by obtain rfl := own_of _ _ _ _ hq; exact h.sL, hc, h.ne, fun hs => h.sM (up_of (hS _ hs) h.ltM), fun hs => h.sL (up_of (hS _ hs) h.ltL), h.bM, h.bL, h.nb⟩
theorem Sm.up {S S' : Nat → Prop} (h : ∀ q, S' q → Up S w w' q) {q : Nat} (hq : Sm g S' q) : Up (Sm g S) w w' q := by
  rcases hq with h1 | h1 | h1
  · exact .inl (.inl h1)
  · exact .inl (.inr (.inl h1))
  · rcases h q h1 with h2 | h2
    · exact .inl (.inr (.inr h2))
    · exact .inr h2
/-- A greater footprint of the chip's. -/
theorem MgM.up {w0 : World} (h : MgM NB B S w g) (h0 : B ≤ w0.heap.size) (hM : g.M < w0.heap.size) (hL : g.ML < w0.heap.size) : MgM NB B (Up S w0 w) w g :=
  ⟨h.hM, h.hL, h.hc.up h0, h.ne, fun hs => h.sM (up_of hs hM), fun hs => h.sL (up_of hs hL), h.bM, h.bL, h.nb⟩
/-- A cell of a block is stored. -/
theorem MgM.setL (h : MgM NB B S w g) {k j : Nat} (hk : k < NB) (hj : j < 4) (u : Value) (y : Bk) (hy : bkL y = (bkL (Gc.at_ g.l k)).set j u) : MgM NB B S (w.setCell ⟨g.ML, k * 4 + j, none⟩ u) { g with l := g.l.set k y } := by
  have hl := h.len
  have e : Gc.at_ g.l k = g.l[k]'(by omega) := by rw [Gc.at_, List.getD_eq_getElem?_getD, List.getElem?_eq_getElem (by omega)]; rfl
  have hq : Kq (fun q => q = g.ML) w (w.setCell ⟨g.ML, k * 4 + j, none⟩ u) := Kq.one ⟨_, _, none⟩ _
  exact ⟨h.hM.kq hq h.ne, h.hL.set (i := k) (j := j) (by omega) hj (by rw [hy, e]), h.hc.kq hq fun q hq e => h.sL (e ▸ hq), h.ne, h.sM, h.sL, h.bM, h.bL, h.nb⟩
/-- The open block's number is stored. -/
theorem MgM.setO (h : MgM NB B S w g) (x : Int) : MgM NB B S (w.setCell ⟨g.M, 2, none⟩ (.int .i64 x)) { g with opn := x } := by
  have hq : Kq (fun q => q = g.M) w (w.setCell ⟨g.M, 2, none⟩ (.int .i64 x)) := Kq.one ⟨_, _, none⟩ _
  refine ⟨?_, h.hL.kq hq fun q hq => by obtain rfl := own_of _ _ _ _ hq; exact Ne.symm h.ne, h.hc.kq hq fun q hq e => h.sM (e ▸ hq), h.ne, h.sM, h.sL, h.bM, h.bL, h.nb⟩
  exact h.hM.set 2 (.int .i64 x)
theorem MgM.setE (h : MgM NB B S w g) (x : Bool) : MgM NB B S (w.setCell ⟨g.M, 5, none⟩ (.bool x)) { g with even := x } := by
  have hq : Kq (fun q => q = g.M) w (w.setCell ⟨g.M, 5, none⟩ (.bool x)) := Kq.one ⟨_, _, none⟩ _
  refine ⟨?_, h.hL.kq hq fun q hq => by obtain rfl := own_of _ _ _ _ hq; exact Ne.symm h.ne, h.hc.kq hq fun q hq e => h.sM (e ▸ hq), h.ne, h.sM, h.sL, h.bM, h.bL, h.nb⟩
  exact h.hM.set 5 (.bool x)
theorem MgM.m0 (h : MgM NB B S w g) : w.cell? ⟨g.M, 0, none⟩ = some (.pointer (some ⟨g.C, 0, none⟩)) := h.hM.cellv rfl
theorem MgM.m1 (h : MgM NB B S w g) : w.cell? ⟨g.M, 1, none⟩ = some (.slice (some ⟨g.ML, 0, none⟩) NB g.cap) := h.hM.cellv rfl
theorem MgM.m2 (h : MgM NB B S w g) : w.cell? ⟨g.M, 2, none⟩ = some (.int .i64 g.opn) := h.hM.cellv rfl
theorem MgM.m3 (h : MgM NB B S w g) : w.cell? ⟨g.M, 3, none⟩ = some (.int .i64 g.res) := h.hM.cellv rfl
theorem MgM.m4 (h : MgM NB B S w g) : w.cell? ⟨g.M, 4, none⟩ = some (.int .i64 g.bad) := h.hM.cellv rfl
theorem MgM.m5 (h : MgM NB B S w g) : w.cell? ⟨g.M, 5, none⟩ = some (.bool g.even) := h.hM.cellv rfl
theorem MgM.frzM (h : MgM NB B S w g) (i : Nat) : w.frozen? ⟨g.M, i, none⟩ = false := h.hM.frozen i
theorem MgM.row (h : MgM NB B S w g) {k j : Nat} (hk : k < NB) (hj : j < 4) : w.cell? ⟨g.ML, k * 4 + j, none⟩ = (bkL (Gc.at_ g.l k))[j]? ∧ w.frozen? ⟨g.ML, k * 4 + j, none⟩ = false := by
  have hl := h.len
  have e : Gc.at_ g.l k = g.l[k]'(by omega) := by rw [Gc.at_, List.getD_eq_getElem?_getD, List.getElem?_eq_getElem (by omega)]; rfl
  rw [e]
  exact h.hL.cellg (by omega) hj
theorem MgM.r0 (h : MgM NB B S w g) {k : Nat} (hk : k < NB) : w.cell? ⟨g.ML, k * 4, none⟩ = some (.int .i64 ((Gc.at_ g.l k).st : Int)) ∧ w.frozen? ⟨g.ML, k * 4, none⟩ = false := h.row hk (j := 0) (by omega)
theorem MgM.r1 (h : MgM NB B S w g) {k : Nat} (hk : k < NB) : w.cell? ⟨g.ML, k * 4 + 1, none⟩ = some (.int .i64 ((Gc.at_ g.l k).live : Int)) ∧ w.frozen? ⟨g.ML, k * 4 + 1, none⟩ = false := h.row hk (j := 1) (by omega)
theorem MgM.r2 (h : MgM NB B S w g) {k : Nat} (hk : k < NB) : w.cell? ⟨g.ML, k * 4 + 2, none⟩ = some (.int .i64 ((Gc.at_ g.l k).wear : Int)) ∧ w.frozen? ⟨g.ML, k * 4 + 2, none⟩ = false := h.row hk (j := 2) (by omega)
theorem MgM.r3 (h : MgM NB B S w g) {k : Nat} (hk : k < NB) : w.cell? ⟨g.ML, k * 4 + 3, none⟩ = some (.int .i64 ((Gc.at_ g.l k).nx : Int)) ∧ w.frozen? ⟨g.ML, k * 4 + 3, none⟩ = false := h.row hk (j := 3) (by omega)
theorem MgM.arr (h : MgM NB B S w g) : ArrM 4 bkL w w.heap.size (some ⟨g.ML, 0, none⟩) NB g.l := h.hL.arr (by rw [h.len]; have := h.nb; omega)
theorem at_set (l : List Bk) {k : Nat} (y : Bk) (hk : k < l.length) : Gc.at_ (l.set k y) k = y := by
  rw [Gc.at_, List.getD_eq_getElem?_getD, List.getElem?_set_self hk]; rfl
theorem at_set_other (l : List Bk) {k j : Nat} (y : Bk) (hj : j ≠ k) : Gc.at_ (l.set k y) j = Gc.at_ l j := by
  rw [Gc.at_, List.getD_eq_getElem?_getD, List.getElem?_set_ne (Ne.symm hj)]; rfl
end
end Go.Proofs.Ytkkkggeagjgbeaa
