/-
  The chip in memory: its own cells, its row of blocks, the pages of one block, its faults.
-/
import Derived.Test.YtiipnpfaaghekaaGreatMany
import Derived.Test.YtiipnpfaaghekaaGreatBytes
namespace Go.Proofs.YtiipnpfaaghekaaGreat
open Go.RowKit

structure Bv where
  pages : Value
  next : Int
  broken : Bool
  bad : Bool
  wear : Int
def bvL (x : Bv) : List Value := [x.pages, .int .i64 x.next, .bool x.broken, .bool x.bad, .int .i64 x.wear]
theorem bv_len (x : Bv) : (bvL x).length = 5 := rfl
def vId (v : Value) : Value := v
structure Fv where
  no : Int
  kind : Int
  data : Value
def fvL (x : Fv) : List Value := [.int .i64 x.no, .int .i64 x.kind, x.data]
theorem fv_len (x : Fv) : (fvL x).length = 3 := rfl
structure Fl where
  no : Int
  kind : Int
  data : List UInt8
/-- A page of a block's row: none, or bytes of the chip's own. -/
def PgAt (w : World) (N0 : Nat) (v : Value) : Option (List UInt8) → Prop
  | none => v = .slice none 0 0
  | some L => 0 < L.length ∧ Own byteV 5 w N0 v L
theorem PgAt.on {w w' : World} {N0 : Nat} {v : Value} {o : Option (List UInt8)} (h : PgAt w N0 v o) (hb : Below w.heap.size w w') : PgAt w' N0 v o := by
  cases o with
  | none => exact h
  | some L => exact ⟨h.1, h.2.on hb⟩
theorem own_far {α : Type} {f : α → Value} {e : TypeId} {w : World} {N0 : Nat} {v : Value} {xs : List α} (h : Own f e w N0 v xs) {p : Addr} (hp : p.block < N0) (u : Value) : Own f e (w.setCell p u) N0 v xs :=
  h.far (fun e => by have := (h.blockLt _ e).1; omega) u
theorem PgAt.far {w : World} {N0 : Nat} {v : Value} {o : Option (List UInt8)} (h : PgAt w N0 v o) {p : Addr} (hp : p.block < N0) (u : Value) : PgAt (w.setCell p u) N0 v o := by
  cases o with
  | none => exact h
  | some L => exact ⟨h.1, own_far h.2 hp u⟩
/-- The faults that are set. -/
def Flts (w : World) (N0 : Nat) (fv : Value) (fs : List Fl) : Prop :=
  ∃ rows : List Fv, OwnM 3 fvL 114 w N0 fv rows ∧ rows.length = fs.length ∧ ∀ i (h1 : i < rows.length) (h2 : i < fs.length), rows[i].no = fs[i].no ∧ rows[i].kind = fs[i].kind ∧ Own byteV 5 w N0 rows[i].data fs[i].data
theorem Flts.on {w w' : World} {N0 : Nat} {fv : Value} {fs : List Fl} (h : Flts w N0 fv fs) (hb : Below w.heap.size w w') : Flts w' N0 fv fs := by
  obtain ⟨rows, h1, h2, h3⟩ := h
  exact ⟨rows, h1.on hb, h2, fun i a b => ⟨(h3 i a b).1, (h3 i a b).2.1, (h3 i a b).2.2.on hb⟩⟩
theorem Flts.far {w : World} {N0 : Nat} {fv : Value} {fs : List Fl} (h : Flts w N0 fv fs) {p : Addr} (hp : p.block < N0) (u : Value) : Flts (w.setCell p u) N0 fv fs := by
  obtain ⟨rows, h1, h2, h3⟩ := h
  exact ⟨rows, h1.far (fun e => by have := (h1.blockLt _ e).1; omega) u, h2, fun i a b => ⟨(h3 i a b).1, (h3 i a b).2.1, own_far (h3 i a b).2.2 hp u⟩⟩
theorem Flts.nil (w : World) (N0 : Nat) : Flts w N0 (.slice none 0 0) [] := ⟨[], OwnM.nil fv_len w N0, rfl, fun i h => absurd h (by simp)⟩
/-- The chip's numbers. -/
structure Cn where
  fv : Value
  si : Nat
  dn : Bool
  sk : Nat
  rd : Nat
def chA (BL : Nat) (x : Cn) : Array Value := #[.int .i64 16, .int .i64 8, .int .i64 64, .slice (some ⟨BL, 0, none⟩) 16 16, x.fv, .int .i64 (x.si : Int), .bool x.dn, .int .i64 (x.sk : Int), .int .i64 (x.rd : Int)]
def Dis (base N0 C BL P : Nat) : Prop := C ≠ BL ∧ C ≠ P ∧ BL ≠ P ∧ C < N0 ∧ BL < N0 ∧ P < N0 ∧ base ≤ C ∧ base ≤ BL ∧ base ≤ P
/-- A small chip (16 blocks of 8 pages of 64 bytes) at C, its blocks at BL; block K's pages at P, the first nx of them programmed, as ls says. -/
structure Chp (base N0 : Nat) (w : World) (C BL P K : Nat) (x : Cn) (nx : Nat) (ls : Nat → Option (List UInt8)) (fs : List Fl) : Prop where
  hC : Blk w C 94 (chA BL x)
  hB : ∃ bs : List Bv, bs.length = 16 ∧ bs[K]? = some ⟨.slice (some ⟨P, 0, none⟩) 8 8, nx, false, false, 0⟩ ∧ OwnM 5 bvL 90 w base (.slice (some ⟨BL, 0, none⟩) 16 16) bs
  hP : ∃ xs : List Value, xs.length = 8 ∧ Own vId 22 w base (.slice (some ⟨P, 0, none⟩) 8 8) xs ∧ ∀ i (h : i < xs.length), PgAt w N0 xs[i] (ls i)
  hF : Flts w N0 x.fv fs
  dis : Dis base N0 C BL P
  hK : K < 16
  hN : N0 ≤ w.heap.size
/-- Of the blocks that there were only the chip's three may have changed. -/
structure Kp (C BL P : Nat) (w w' : World) : Prop where
  os : w'.os = w.os
  tape : w'.tape = w.tape
  output : w'.output = w.output
  size : w.heap.size ≤ w'.heap.size
  block : ∀ k, k < w.heap.size → k ≠ C → k ≠ BL → k ≠ P → w'.heap[k]? = w.heap[k]?
theorem Kp.refl (C BL P : Nat) (w : World) : Kp C BL P w w := ⟨rfl, rfl, rfl, Nat.le_refl _, fun _ _ _ _ _ => rfl⟩
theorem Kp.trans {C BL P : Nat} {a b c : World} (h : Kp C BL P a b) (k : Kp C BL P b c) : Kp C BL P a c :=
  ⟨k.os.trans h.os, k.tape.trans h.tape, k.output.trans h.output, Nat.le_trans h.size k.size, fun j hj h1 h2 h3 => (k.block j (Nat.lt_of_lt_of_le hj h.size) h1 h2 h3).trans (h.block j hj h1 h2 h3)⟩
theorem Kp.of {C BL P : Nat} {w w' : World} (h : Below w.heap.size w w') : Kp C BL P w w' := ⟨h.os, h.tape, h.output, h.size, fun k hk _ _ _ => h.block k hk⟩
theorem Kp.on {C BL P : Nat} {a b c : World} (h : Kp C BL P a b) (k : Below b.heap.size b c) : Kp C BL P a c := h.trans (Kp.of k)
theorem Kp.setCell {C BL P : Nat} {a b : World} (h : Kp C BL P a b) {p : Addr} (hp : p.block = C ∨ p.block = BL ∨ p.block = P) (u : Value) : Kp C BL P a (b.setCell p u) :=
  h.trans ⟨rfl, rfl, rfl, by simp, fun k _ h1 h2 h3 => heap_setCell_other b p k u (by rcases hp with e | e | e <;> rw [e] <;> assumption)⟩
theorem Kp.below {C BL P base : Nat} {w w' : World} (h : Kp C BL P w w') (h1 : base ≤ C) (h2 : base ≤ BL) (h3 : base ≤ P) (hb : base ≤ w.heap.size) : Below base w w' :=
  ⟨h.os, h.tape, h.output, h.size, fun k hk => h.block k (by omega) (by omega) (by omega) (by omega)⟩
theorem Own.kp {α : Type} {f : α → Value} {e : TypeId} {C BL P N0 : Nat} {w w' : World} {v : Value} {xs : List α} (h : Own f e w N0 v xs) (hk : Kp C BL P w w') (h1 : C < N0) (h2 : BL < N0) (h3 : P < N0) : Own f e w' N0 v xs := by
  refine ⟨h.1, ?_⟩
  rcases h.2 with h2' | ⟨g, cap, cur, hv, hgb, hg, r⟩
  · exact Or.inl h2'
  · refine Or.inr ⟨g, cap, cur, hv, hgb, ?_, r⟩
    have hlt : g < w.heap.size := by
      rcases Nat.lt_or_ge g w.heap.size with hlt | hge
      · exact hlt
      · rw [Array.getElem?_eq_none hge] at hg; cases hg
    exact (hk.block g hlt (by omega) (by omega) (by omega)).trans hg
variable {base N0 C BL P K nx : Nat} {w w' : World} {x : Cn} {ls : Nat → Option (List UInt8)} {fs : List Fl}
theorem Chp.on (h : Chp base N0 w C BL P K x nx ls fs) (hb : Below w.heap.size w w') : Chp base N0 w' C BL P K x nx ls fs := by
  obtain ⟨h1, ⟨bs, b1, b2, b3⟩, ⟨xs, x1, x2, x3⟩, h4, h5, h6, h7⟩ := h
  exact ⟨h1.belowHere hb, ⟨bs, b1, b2, b3.on hb⟩, ⟨xs, x1, x2.on hb, fun i hi => (x3 i hi).on hb⟩, h4.on hb, h5, h6, Nat.le_trans h7 hb.size⟩
theorem below_drew (w : World) : Below w.heap.size w w.drew := ⟨rfl, rfl, rfl, Nat.le_refl _, fun _ _ => rfl⟩
theorem Chp.drew (h : Chp base N0 w C BL P K x nx ls fs) : Chp base N0 w.drew C BL P K x nx ls fs := h.on (below_drew w)
/-- A store into the chip's own cells. -/
theorem Chp.setC {x' : Cn} (h : Chp base N0 w C BL P K x nx ls fs) (i : Nat) (u : Value) (hx : (chA BL x).setIfInBounds i u = chA BL x') (hf : x'.fv = x.fv) : Chp base N0 (w.setCell ⟨C, i, none⟩ u) C BL P K x' nx ls fs := by
  obtain ⟨h1, ⟨bs, b1, b2, b3⟩, ⟨xs, x1, x2, x3⟩, h4, h5, h6, h7⟩ := h
  have hd := h5
  obtain ⟨d1, d2, d3, d4, d5, d6, d7⟩ := h5
  refine ⟨?_, ⟨bs, b1, b2, b3.far (by simpa [Value.ownBlock] using Ne.symm d1) u⟩, ⟨xs, x1, x2.far (by simpa [Value.ownBlock] using Ne.symm d2) u, fun j hj => (x3 j hj).far d4 u⟩, by rw [hf]; exact h4.far d4 u, hd, h6, by simpa using h7⟩
  rw [← hx]
  exact h1.set i u
/-- The faults are laid. -/
theorem Chp.setF {x' : Cn} {fs' : List Fl} (h : Chp base N0 w C BL P K x nx ls fs) (u : Value) (hx : (chA BL x).setIfInBounds 4 u = chA BL x') (hF : Flts w N0 x'.fv fs') : Chp base N0 (w.setCell ⟨C, 4, none⟩ u) C BL P K x' nx ls fs' := by
  obtain ⟨h1, ⟨bs, b1, b2, b3⟩, ⟨xs, x1, x2, x3⟩, h4, h5, h6, h7⟩ := h
  have hd := h5
  obtain ⟨d1, d2, d3, d4, d5, d6, d7⟩ := h5
  refine ⟨?_, ⟨bs, b1, b2, b3.far (by simpa [Value.ownBlock] using Ne.symm d1) u⟩, ⟨xs, x1, x2.far (by simpa [Value.ownBlock] using Ne.symm d2) u, fun j hj => (x3 j hj).far d4 u⟩, hF.far d4 u, hd, h6, by simpa using h7⟩
  rw [← hx]
  exact h1.set 4 u
/-- A page is laid. -/
theorem Chp.setP {v : Value} {L : List UInt8} (h : Chp base N0 w C BL P K x nx ls fs) (k : Nat) (hv : PgAt w N0 v (some L)) : Chp base N0 (w.setCell ⟨P, k, none⟩ v) C BL P K x nx (fun i => if i = k then some L else ls i) fs := by
  obtain ⟨h1, ⟨bs, b1, b2, b3⟩, ⟨xs, x1, x2, x3⟩, h4, h5, h6, h7⟩ := h
  have hd := h5
  obtain ⟨d1, d2, d3, d4, d5, d6, d7⟩ := h5
  refine ⟨h1.far d2 v, ⟨bs, b1, b2, b3.far (by simpa [Value.ownBlock] using d3) v⟩, ⟨xs.set k v, by rw [List.length_set]; exact x1, x2.set k v, fun j hj => ?_⟩, h4.far d6 v, hd, h6, by simpa using h7⟩
  rw [List.length_set] at hj
  by_cases e : j = k
  · subst e
    rw [List.getElem_set_self, if_pos rfl]
    exact hv.far d6 v
  · rw [List.getElem_set_ne (Ne.symm e), if_neg e]
    exact (x3 j hj).far d6 v
/-- The next page's number is laid. -/
theorem Chp.setN (h : Chp base N0 w C BL P K x nx ls fs) (m : Nat) : Chp base N0 (w.setCell ⟨BL, K * 5 + 1, none⟩ (.int .i64 (m : Int))) C BL P K x m ls fs := by
  obtain ⟨h1, ⟨bs, b1, b2, b3⟩, ⟨xs, x1, x2, x3⟩, h4, h5, h6, h7⟩ := h
  have hd := h5
  obtain ⟨d1, d2, d3, d4, d5, d6, d7⟩ := h5
  have hk : K < bs.length := by omega
  have e2 : bs[K] = ⟨.slice (some ⟨P, 0, none⟩) 8 8, nx, false, false, 0⟩ := by
    rw [List.getElem?_eq_getElem hk] at b2
    exact Option.some.inj b2
  refine ⟨h1.far d1 _, ⟨bs.set K ⟨.slice (some ⟨P, 0, none⟩) 8 8, m, false, false, 0⟩, by rw [List.length_set]; exact b1, by rw [List.getElem?_set_self hk], b3.set (i := K) (j := 1) hk (by omega) (by rw [e2]; rfl)⟩, ⟨xs, x1, x2.far (by simpa [Value.ownBlock] using Ne.symm d3) _, fun j hj => (x3 j hj).far d5 _⟩, h4.far d5 _, hd, h6, by simpa using h7⟩
theorem Chp.cellC (h : Chp base N0 w C BL P K x nx ls fs) (i : Nat) : w.cell? ⟨C, i, none⟩ = (chA BL x)[i]? := h.hC.cell i
theorem Chp.frzC (h : Chp base N0 w C BL P K x nx ls fs) (i : Nat) : w.frozen? ⟨C, i, none⟩ = false := h.hC.frozen i
theorem Chp.cellB (h : Chp base N0 w C BL P K x nx ls fs) : ∀ j (_ : j < 5), w.cell? ⟨BL, K * 5 + j, none⟩ = (bvL ⟨.slice (some ⟨P, 0, none⟩) 8 8, nx, false, false, 0⟩)[j]? ∧ w.frozen? ⟨BL, K * 5 + j, none⟩ = false := by
  intro j hj
  obtain ⟨bs, b1, b2, b3⟩ := h.hB
  have hk : K < bs.length := by have := h.hK; omega
  have e2 : bs[K] = ⟨.slice (some ⟨P, 0, none⟩) 8 8, nx, false, false, 0⟩ := by
    rw [List.getElem?_eq_getElem hk] at b2
    exact Option.some.inj b2
  rw [← e2]
  exact b3.cellg hk hj
theorem Chp.c1 (h : Chp base N0 w C BL P K x nx ls fs) : w.cell? ⟨C, 1, none⟩ = some (.int .i64 8) := h.hC.cellv rfl
theorem Chp.c2 (h : Chp base N0 w C BL P K x nx ls fs) : w.cell? ⟨C, 2, none⟩ = some (.int .i64 64) := h.hC.cellv rfl
theorem Chp.c3 (h : Chp base N0 w C BL P K x nx ls fs) : w.cell? ⟨C, 3, none⟩ = some (.slice (some ⟨BL, 0, none⟩) 16 16) := h.hC.cellv rfl
theorem Chp.c4 (h : Chp base N0 w C BL P K x nx ls fs) : w.cell? ⟨C, 4, none⟩ = some (x.fv) := h.hC.cellv rfl
theorem Chp.c5 (h : Chp base N0 w C BL P K x nx ls fs) : w.cell? ⟨C, 5, none⟩ = some (.int .i64 (x.si : Int)) := h.hC.cellv rfl
theorem Chp.c6 (h : Chp base N0 w C BL P K x nx ls fs) : w.cell? ⟨C, 6, none⟩ = some (.bool x.dn) := h.hC.cellv rfl
theorem Chp.c7 (h : Chp base N0 w C BL P K x nx ls fs) : w.cell? ⟨C, 7, none⟩ = some (.int .i64 (x.sk : Int)) := h.hC.cellv rfl
theorem Chp.c8 (h : Chp base N0 w C BL P K x nx ls fs) : w.cell? ⟨C, 8, none⟩ = some (.int .i64 (x.rd : Int)) := h.hC.cellv rfl
theorem Chp.b0 (h : Chp base N0 w C BL P K x nx ls fs) : w.cell? ⟨BL, K * 5, none⟩ = some (.slice (some ⟨P, 0, none⟩) 8 8) ∧ w.frozen? ⟨BL, K * 5, none⟩ = false := h.cellB 0 (by omega)
theorem Chp.b1 (h : Chp base N0 w C BL P K x nx ls fs) : w.cell? ⟨BL, K * 5 + 1, none⟩ = some (.int .i64 (nx : Int)) ∧ w.frozen? ⟨BL, K * 5 + 1, none⟩ = false := h.cellB 1 (by omega)
theorem Chp.b2 (h : Chp base N0 w C BL P K x nx ls fs) : w.cell? ⟨BL, K * 5 + 2, none⟩ = some (.bool false) ∧ w.frozen? ⟨BL, K * 5 + 2, none⟩ = false := h.cellB 2 (by omega)
theorem Chp.b3 (h : Chp base N0 w C BL P K x nx ls fs) : w.cell? ⟨BL, K * 5 + 3, none⟩ = some (.bool false) ∧ w.frozen? ⟨BL, K * 5 + 3, none⟩ = false := h.cellB 3 (by omega)
theorem Chp.page (h : Chp base N0 w C BL P K x nx ls fs) {i : Nat} (hi : i < 8) : ∃ v, w.cell? ⟨P, i, none⟩ = some v ∧ w.frozen? ⟨P, i, none⟩ = false ∧ PgAt w N0 v (ls i) := by
  obtain ⟨xs, x1, x2, x3⟩ := h.hP
  obtain ⟨c1, c2⟩ := x2.cellg (k := i) (by omega)
  exact ⟨xs[i], c1, c2, x3 i (by omega)⟩
theorem Chp.same {ls' : Nat → Option (List UInt8)} (h : Chp base N0 w C BL P K x nx ls fs) (e : ∀ i, i < 8 → ls i = ls' i) : Chp base N0 w C BL P K x nx ls' fs := by
  obtain ⟨h1, h2, ⟨xs, x1, x2, x3⟩, h4, h5, h6, h7⟩ := h
  exact ⟨h1, h2, ⟨xs, x1, x2, fun i hi => by rw [← e i (by omega)]; exact x3 i hi⟩, h4, h5, h6, h7⟩
theorem Chp.below (h : Chp base N0 w C BL P K x nx ls fs) (hk : Kp C BL P w w') : Below base w w' := by
  obtain ⟨d1, d2, d3, d4, d5, d6, d7, d8, d9⟩ := h.dis
  have := h.hN
  exact hk.below d7 d8 d9 (by omega)
theorem Chp.own {α : Type} {f : α → Value} {e : TypeId} {v : Value} {ys : List α} (h : Chp base N0 w C BL P K x nx ls fs) (hk : Kp C BL P w w') (ho : Own f e w N0 v ys) : Own f e w' N0 v ys :=
  ho.kp hk h.dis.2.2.2.1 h.dis.2.2.2.2.1 h.dis.2.2.2.2.2.1
end Go.Proofs.YtiipnpfaaghekaaGreat
