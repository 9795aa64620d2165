import Derived.Test.YtcppkaphlcflgaaGreatInoTake
import Derived.Deep.DeepCutAuto
namespace Go.Proofs.YtcppkaphlcflgaaGreat
open Lib (hid)
set_option maxRecDepth 100000
set_option maxHeartbeats 16000000
section
open Go.RowKit

section
variable {α : Type} {m : Nat} {f : α → List Value}
theorem flat_len (hf : ∀ x, (f x).length = m) (xs : List α) : (xs.flatMap f).length = xs.length * m := by
 induction xs with
 | nil => simp
 | cons x t ih => rw [List.flatMap_cons, List.length_append, ih, hf, List.length_cons, Nat.succ_mul]; omega
theorem flat_at (hf : ∀ x, (f x).length = m) {xs : List α} {i j : Nat} (hi : i < xs.length) (hj : j < m) : (xs.flatMap f)[i * m + j]? = (f xs[i])[j]? := by
 induction xs generalizing i with
 | nil => simp at hi
 | cons x t ih =>
  rw [List.flatMap_cons]
  cases i with
  | zero => rw [Nat.zero_mul, Nat.zero_add, List.getElem?_append_left (by rw [hf]; exact hj)]; rfl
  | succ i =>
   have e : (i + 1) * m + j = m + (i * m + j) := by rw [Nat.succ_mul]; omega
   rw [e, List.getElem?_append_right (by rw [hf]; omega), hf, Nat.add_sub_cancel_left, ih (by simpa using hi)]
   rfl
theorem flat_set (hf : ∀ x, (f x).length = m) {xs : List α} {i j : Nat} {u : Value} {y : α} (hi : i < xs.length) (hj : j < m) (hy : f y = (f xs[i]).set j u) : (xs.set i y).flatMap f = (xs.flatMap f).set (i * m + j) u := by
 induction xs generalizing i with
 | nil => simp at hi
 | cons x t ih =>
  cases i with
  | zero =>
   rw [List.set_cons_zero, List.flatMap_cons, List.flatMap_cons, Nat.zero_mul, Nat.zero_add, List.set_append_left _ _ (by rw [hf]; exact hj), hy]
   rfl
  | succ i =>
   have e : (i + 1) * m + j = m + (i * m + j) := by rw [Nat.succ_mul]; omega
   rw [List.set_cons_succ, List.flatMap_cons, List.flatMap_cons, e, List.set_append_right _ _ (by rw [hf]; omega), hf, Nat.add_sub_cancel_left, ih (by simpa using hi) hy]
def ArrM (m : Nat) (f : α → List Value) (w : World) (B : Nat) (a : Option Addr) (n : Nat) (xs : List α) : Prop :=
 xs.length = n ∧ n ≤ 140737488351232 ∧ (n ≠ 0 → ∃ b o, a = some ⟨b, o, none⟩ ∧ b < B ∧ ∀ i (h : i < xs.length), w.rangeAt b (o + i * m) (f xs[i]))
variable {w w' : World} {B B' : Nat} {a : Option Addr} {n : Nat} {xs : List α}
theorem ArrM.len (h : ArrM m f w B a n xs) : xs.length = n := h.1
theorem ArrM.atv (h : ArrM m f w B a n xs) {k : Nat} (hk : k < n) : ∃ b o, ∃ h' : k < xs.length, a = some ⟨b, o, none⟩ ∧ b < B ∧ w.rangeAt b (o + k * m) (f xs[k]) := by
 obtain ⟨h1, _, h3⟩ := h
 obtain ⟨b, o, ha, hb, hc⟩ := h3 (by omega)
 exact ⟨b, o, by omega, ha, hb, hc k (by omega)⟩
theorem ArrM.keep (h : ArrM m f w B a n xs) (hk : ∀ b o, b < B → w'.cell? ⟨b, o, none⟩ = w.cell? ⟨b, o, none⟩) : ArrM m f w' B a n xs := by
 obtain ⟨h1, h2, h3⟩ := h
 refine ⟨h1, h2, fun hn => ?_⟩
 obtain ⟨b, o, ha, hlt, hc⟩ := h3 hn
 exact ⟨b, o, ha, hlt, fun i hi j v hv => (hk b _ hlt).trans (hc i hi j v hv)⟩
theorem ArrM.below (h : ArrM m f w B a n xs) (hb : Below B w w') : ArrM m f w' B a n xs := h.keep fun b o hlt => hb.cell (p := ⟨b, o, none⟩) hlt
def OwnM (m : Nat) (f : α → List Value) (e : TypeId) (w : World) (base : Nat) (v : Value) (xs : List α) : Prop := (∀ x, (f x).length = m) ∧ w.ownsRow base e m v xs.length (xs.flatMap f)
variable {e : TypeId} {base : Nat} {v : Value}
theorem OwnM.nil (hf : ∀ x, (f x).length = m) (w : World) (base : Nat) : OwnM m f e w base (.slice none 0 0) [] := ⟨hf, World.ownsRow_nil w base e m⟩
theorem OwnM.form (h : OwnM m f e w base v xs) : ∃ a c, v = .slice a xs.length c ∧ xs.length ≤ c := by
 rcases h.2.2 with ⟨hv, hn⟩ | ⟨g, cap, cur, hv, _, _, hc, _⟩
 ·exact ⟨none, 0, by rw [hv, hn], by omega⟩
 ·exact ⟨_, cap, hv, hc⟩
theorem OwnM.formN {n : Nat} (h : OwnM m f e w base v xs) (hn : xs.length = n) : ∃ a c, v = .slice a n c ∧ n ≤ c := by
 subst hn; exact h.form
theorem OwnM.form_some (h : OwnM m f e w base v xs) (hn : 0 < xs.length) : ∃ g c, v = .slice (some ⟨g, 0, none⟩) xs.length c ∧ xs.length ≤ c ∧ base ≤ g ∧ g < w.heap.size := by
 rcases h.2.2 with ⟨_, h0⟩ | ⟨g, cap, cur, hv, hgb, hg, hc, _⟩
 ·omega
 ·refine ⟨g, cap, hv, hc, hgb, ?_⟩
  rcases Nat.lt_or_ge g w.heap.size with hlt | hge
  ·exact hlt
  ·rw [Array.getElem?_eq_none hge] at hg; cases hg
theorem OwnM.cellg {g n c : Nat} (h : OwnM m f e w base (.slice (some ⟨g, 0, none⟩) n c) xs) {i j : Nat} (hi : i < xs.length) (hj : j < m) :
  w.cell? ⟨g, i * m + j, none⟩ = (f xs[i])[j]? ∧ w.frozen? ⟨g, i * m + j, none⟩ = false := by
 obtain ⟨hf, hx⟩ := h
 rcases hx.2 with ⟨hv, _⟩ | ⟨g', cap, cur, hv, hgb, hg, hc, _, hs, ht⟩
 ·cases hv
 ·injection hv with h1 h2 h3
  injection h1 with h1
  injection h1 with h1
  subst h1
  refine ⟨?_, frozen_of_row w g _ cur e hg⟩
  rw [cell_of_row w g _ cur e (0, 0) hg, ← flat_at hf hi hj, ← ht, List.getElem?_take]
  have hm : m ≤ xs.length * m := Nat.le_mul_of_pos_left _ (by omega)
  have h5 : i * m + m ≤ xs.length * m := by rw [← Nat.succ_mul]; exact Nat.mul_le_mul_right _ (by omega)
  rw [if_pos (by omega)]
  simp
theorem OwnM.arr {a : Option Addr} {n c : Nat} (h : OwnM m f e w base (.slice a n c) xs) (hb : xs.length ≤ 140737488351232) : ArrM m f w w.heap.size a n xs := by
 obtain ⟨a', c', hv, _⟩ := h.form
 injection hv with h1 h2 h3
 subst h1 h2 h3
 refine ⟨rfl, hb, fun hn => ?_⟩
 obtain ⟨g, c', hv, _, _, hlt⟩ := h.form_some (by omega)
 injection hv with h1
 subst h1
 refine ⟨g, 0, rfl, hlt, fun i hi j u hu => ?_⟩
 have hj : j < m := by rw [← h.1 xs[i]]; exact (List.getElem?_eq_some_iff.1 hu).1
 rw [Nat.zero_add, (h.cellg hi hj).1, hu]
theorem OwnM.below {B : Nat} (h : OwnM m f e w base v xs) (hb : Below B w w') (hB : w.heap.size ≤ B) : OwnM m f e w' base v xs := by
 refine ⟨h.1, h.2.1, ?_⟩
 rcases h.2.2 with h2 | ⟨g, cap, cur, hv, hgb, hg, r⟩
 ·exact Or.inl h2
 ·refine Or.inr ⟨g, cap, cur, hv, hgb, ?_, r⟩
  have hlt : g < w.heap.size := by
   rcases Nat.lt_or_ge g w.heap.size with hlt | hge
   ·exact hlt
   ·rw [Array.getElem?_eq_none hge] at hg; cases hg
  exact (hb.block g (by omega)).trans hg
theorem OwnM.on (h : OwnM m f e w base v xs) (hb : Below w.heap.size w w') : OwnM m f e w' base v xs := h.below hb (Nat.le_refl _)
theorem OwnM.alloc (h : OwnM m f e w base v xs) (o : Obj) : OwnM m f e (w.alloc o) base v xs := h.on ((Below.refl _ _).alloc (Nat.le_refl _) o)
theorem OwnM.drew (h : OwnM m f e w base v xs) : OwnM m f e w.drew base v xs := h
theorem OwnM.mono {base' : Nat} (h : OwnM m f e w base v xs) (hb : base' ≤ base) : OwnM m f e w base' v xs := by
 refine ⟨h.1, h.2.1, ?_⟩
 rcases h.2.2 with h2 | ⟨g, cap, cur, hv, hgb, r⟩
 ·exact Or.inl h2
 ·exact Or.inr ⟨g, cap, cur, hv, by omega, r⟩
theorem OwnM.blockLt (h : OwnM m f e w base v xs) : ∀ k, v.ownBlock = some k → base ≤ k ∧ k < w.heap.size := World.ownsRow.lt h.2
theorem OwnM.far (h : OwnM m f e w base v xs) {p : Addr} (hp : v.ownBlock ≠ some p.block) (u : Value) : OwnM m f e (w.setCell p u) base v xs := by
 refine ⟨h.1, h.2.1, ?_⟩
 rcases h.2.2 with h2 | ⟨g, cap, cur, hv, hgb, hg, r⟩
 ·exact Or.inl h2
 ·refine Or.inr ⟨g, cap, cur, hv, hgb, ?_, r⟩
  rw [heap_setCell_other w p g u (fun e => hp (by rw [hv]; simp [Value.ownBlock, e]))]
  exact hg
theorem OwnM.set {g : Nat} {n c : Nat} (h : OwnM m f e w base (.slice (some ⟨g, 0, none⟩) n c) xs) {i j : Nat} (hi : i < xs.length) (hj : j < m) {u : Value} {y : α} (hy : f y = (f xs[i]).set j u) :
  OwnM m f e (w.setCell ⟨g, i * m + j, none⟩ u) base (.slice (some ⟨g, 0, none⟩) n c) (xs.set i y) := by
 obtain ⟨hf, hx⟩ := h
 refine ⟨hf, by rw [flat_len hf, List.length_set], ?_⟩
 rcases hx.2 with ⟨hv, _⟩ | ⟨g', cap, cur, hv, hgb, hg, hc, hm, hs, ht⟩
 ·cases hv
 ·injection hv with h1 h2 h3
  injection h1 with h1
  injection h1 with h1
  subst h1 h3
  refine Or.inr ⟨g, c, cur.setIfInBounds (i * m + j) u, by rw [h2, List.length_set], hgb, heap_setCell_same w g _ cur e u hg, by rw [List.length_set]; exact hc, hm, by simpa using hs, ?_⟩
  rw [Array.toList_setIfInBounds, List.length_set, List.take_set, ht, flat_set hf hi hj hy]
end

section
variable {P : Program} {α : Type} {sz : Nat} {f : α → List Value}
theorem run_append_OwnM (w : World) (base : Nat) (t ty e : TypeId) (i : TypeInfo) (z : Value) (bytes : Nat) (ht : P.underlying t = some (.slice e)) (hi : P.info? e = some i) (hz : i.zero = some z)
  (hsize : i.size = sz) (hby : i.bytes = bytes) (hzs : z.cells.size = sz) (hsz : 0 < sz) (hf : ∀ x, ∀ u ∈ f x, u.oneCell' = true)
  (v : Value) (xs : List α) (hown : OwnM sz f e w base v xs) (B : Nat) (a : Option Addr) (m c : Nat) (ys : List α) (hy : ArrM sz f w B a m ys)
  (hbytes : (xs.length + m) * bytes ≤ 140737488355328) (h63 : xs.length + m ≤ maxLen) (hbase : base ≤ w.heap.size) :
  ∃ v' w', (Builtin.append_ #[t, t] ty #[v, .slice a m c]).run P w = .ok v' w' ∧ OwnM sz f e w' base v' (xs ++ ys) ∧ w.grownBy w' v.ownBlock ∧ (v'.ownBlock = v.ownBlock ∨ v'.ownBlock = some w.heap.size) := by
 have hlen := hy.len
 obtain ⟨hfl, hown'⟩ := id hown
 by_cases hm : m = 0
 ·subst hm
  have hn : ys = [] := List.eq_nil_of_length_eq_zero hlen
  subst hn
  refine ⟨v, w, ?_, by simpa using hown, World.grownBy.refl w _, .inl rfl⟩
  rcases hown'.2 with ⟨rfl, hn⟩ | ⟨g, cap, cur, rfl, _, _, hnc, _⟩
  ·cases a <;> simp [Builtin.append_, run_underlying ht, sizeOf, typeInfo, hi, Builtin.lenOf, Builtin.firstCells, loadCells, loadCellsFrom]
  ·cases a <;> simp [Builtin.append_, run_underlying ht, sizeOf, typeInfo, hi, Builtin.lenOf, Builtin.firstCells, loadCells, loadCellsFrom, hnc, storeCells]
 ·obtain ⟨b, o, rfl, _, hc⟩ := hy.2.2 hm
  obtain ⟨v', w', hrun, h2, h3, _, h5⟩ := run_append_own_at (P := P) w base t ty e i z sz bytes ht hi hz hsize hby hzs hsz v xs.length (xs.flatMap f) hown' ⟨b, o, none⟩ m c (ys.flatMap f) (by rw [flat_len hfl, hlen])
   (fun j u hu => by
    have hjl : j < m * sz := by have := (List.getElem?_eq_some_iff.1 hu).1; rw [flat_len hfl, hlen] at this; exact this
    have hq : j / sz < ys.length := by rw [hlen]; exact (Nat.div_lt_iff_lt_mul hsz).2 hjl
    have hr : j % sz < sz := Nat.mod_lt _ hsz
    have hj : j / sz * sz + j % sz = j := by rw [Nat.mul_comm]; exact Nat.div_add_mod j sz
    rw [← hj, flat_at hfl hq hr] at hu
    rw [Addr.add_mid, ← hj, ← Nat.add_assoc]
    exact hc _ hq _ u hu)
   (fun u hu => by obtain ⟨x, _, hx⟩ := List.mem_flatMap.1 hu; exact hf x u hx) h63 hbytes hbase
  refine ⟨v', w', hrun, ⟨hfl, ?_⟩, h3, h5⟩
  rw [List.length_append, List.flatMap_append, hlen]
  exact h2
theorem wp_append_OwnM {w : World} {o : Oper} {ac : Act} {K : Act → World → Prop} {Q : Exit → Act → World → Prop} (s x : Operand) (t : TypeId)
  (ho : o.op = .call { callee := .builtin .append, args := #[s, x], argTypes := #[t, t] })
  (base : Nat) (e : TypeId) (i : TypeInfo) (z : Value) (bytes : Nat) (ht : P.underlying t = some (.slice e)) (hi : P.info? e = some i) (hz : i.zero = some z)
  (hsize : i.size = sz) (hby : i.bytes = bytes) (hzs : z.cells.size = sz) (hsz : 0 < sz) (hf : ∀ x, ∀ u ∈ f x, u.oneCell' = true)
  (v : Value) (xs : List α) (hs : ac.eval s = v) (hown : OwnM sz f e w base v xs) (B : Nat) (a : Option Addr) (m c : Nat) (ys : List α) (hx : ac.eval x = .slice a m c) (hy : ArrM sz f w B a m ys)
  (hbytes : (xs.length + m) * bytes ≤ 140737488355328) (h63 : xs.length + m ≤ maxLen) (hbase : base ≤ w.heap.size)
  (h : ∀ v' w', OwnM sz f e w' base v' (xs ++ ys) → w.grownBy w' v.ownBlock → (v'.ownBlock = v.ownBlock ∨ v'.ownBlock = some w.heap.size) → K (ac.put o.dst v') w') : o.wp P ac w K Q := by
 obtain ⟨v', w', hrun, h2, h3, h4⟩ := run_append_OwnM (P := P) w base t o.type e i z bytes ht hi hz hsize hby hzs hsz hf v xs hown B a m c ys hy hbytes h63 hbase
 unfold Oper.wp execOp
 simp only [ho, resolve, invoke, builtin, Sem.run_bind, Sem.run_pure, Result.andThen_ok, List.map_toArray, List.map_cons, List.map_nil, hs, hx, hrun]
 exact h v' w' h2 h3 h4
end
theorem ArrM.lit1 {α : Type} {m : Nat} {f : α → List Value} (w : World) (e : TypeId) (x : α) {cs : Array Value} (hcs : cs = (f x).toArray) :
  ArrM m f (w.alloc (.cells cs e)) (w.alloc (.cells cs e)).heap.size (some ⟨w.heap.size, 0, none⟩) 1 [x] := by
 subst hcs
 refine ⟨rfl, by omega, fun _ => ⟨w.heap.size, 0, rfl, by simp, fun i hi j u hu => ?_⟩⟩
 obtain rfl : i = 0 := by simp at hi; omega
 rw [cell_of_row _ _ _ _ _ _ (heap_alloc_new w _), Nat.zero_mul, Nat.zero_add]
 have h2 : (f x)[j]? = some u := hu
 simpa using h2
end
section
open Go.RowKit

structure Bv where
 pages : Value
 next : Int
 broken : Bool
 bad : Bool
 wear : Int
def bvL (x : Bv) : List Value := [x.pages, .int .i64 x.next, .bool x.broken, .bool x.bad, .int .i64 x.wear]
theorem bv_len (x : Bv) : (bvL x).length = 5 := rfl
def vId (v : Value) : Value := v
structure Fv where
 no : Int
 kind : Int
 data : Value
def fvL (x : Fv) : List Value := [.int .i64 x.no, .int .i64 x.kind, x.data]
theorem fv_len (x : Fv) : (fvL x).length = 3 := rfl
structure Fl where
 no : Int
 kind : Int
 data : List UInt8
def PgAt (w : World) (N0 : Nat) (v : Value) : Option (List UInt8) → Prop
 | none => v = .slice none 0 0
 | some L => 0 < L.length ∧ Own byteV 5 w N0 v L
theorem PgAt.on {w w' : World} {N0 : Nat} {v : Value} {o : Option (List UInt8)} (h : PgAt w N0 v o) (hb : Below w.heap.size w w') : PgAt w' N0 v o := by
 cases o with
 | none => exact h
 | some L => exact ⟨h.1, h.2.on hb⟩
theorem own_far {α : Type} {f : α → Value} {e : TypeId} {w : World} {N0 : Nat} {v : Value} {xs : List α} (h : Own f e w N0 v xs) {p : Addr} (hp : p.block < N0) (u : Value) : Own f e (w.setCell p u) N0 v xs :=
 h.far (fun e => by have := (h.blockLt _ e).1; omega) u
theorem PgAt.far {w : World} {N0 : Nat} {v : Value} {o : Option (List UInt8)} (h : PgAt w N0 v o) {p : Addr} (hp : p.block < N0) (u : Value) : PgAt (w.setCell p u) N0 v o := by
 cases o with
 | none => exact h
 | some L => exact ⟨h.1, own_far h.2 hp u⟩
def Flts (w : World) (N0 : Nat) (fv : Value) (fs : List Fl) : Prop :=
 ∃ rows : List Fv, OwnM 3 fvL 159 w N0 fv rows ∧ rows.length = fs.length ∧ ∀ i (h1 : i < rows.length) (h2 : i < fs.length), rows[i].no = fs[i].no ∧ rows[i].kind = fs[i].kind ∧ Own byteV 5 w N0 rows[i].data fs[i].data
theorem Flts.on {w w' : World} {N0 : Nat} {fv : Value} {fs : List Fl} (h : Flts w N0 fv fs) (hb : Below w.heap.size w w') : Flts w' N0 fv fs := by
 obtain ⟨rows, h1, h2, h3⟩ := h
 exact ⟨rows, h1.on hb, h2, fun i a b => ⟨(h3 i a b).1, (h3 i a b).2.1, (h3 i a b).2.2.on hb⟩⟩
theorem Flts.far {w : World} {N0 : Nat} {fv : Value} {fs : List Fl} (h : Flts w N0 fv fs) {p : Addr} (hp : p.block < N0) (u : Value) : Flts (w.setCell p u) N0 fv fs := by
 obtain ⟨rows, h1, h2, h3⟩ := h
 exact ⟨rows, h1.far (fun e => by have := (h1.blockLt _ e).1; omega) u, h2, fun i a b => ⟨(h3 i a b).1, (h3 i a b).2.1, own_far (h3 i a b).2.2 hp u⟩⟩
theorem Flts.nil (w : World) (N0 : Nat) : Flts w N0 (.slice none 0 0) [] := ⟨[], OwnM.nil fv_len w N0, rfl, fun i h => absurd h (by simp)⟩
structure Cn where
 fv : Value
 si : Nat
 dn : Bool
 sk : Nat
 rd : Nat
def chA (BL : Nat) (x : Cn) : Array Value := #[.int .i64 16, .int .i64 8, .int .i64 64, .slice (some ⟨BL, 0, none⟩) 16 16, x.fv, .int .i64 (x.si : Int), .bool x.dn, .int .i64 (x.sk : Int), .int .i64 (x.rd : Int)]
def Dis (base N0 C BL P : Nat) : Prop := C ≠ BL ∧ C ≠ P ∧ BL ≠ P ∧ C < N0 ∧ BL < N0 ∧ P < N0 ∧ base ≤ C ∧ base ≤ BL ∧ base ≤ P
structure Chp (base N0 : Nat) (w : World) (C BL P K : Nat) (x : Cn) (nx : Nat) (ls : Nat → Option (List UInt8)) (fs : List Fl) : Prop where
 hC : Blk w C 130 (chA BL x)
 hB : ∃ bs : List Bv, bs.length = 16 ∧ bs[K]? = some ⟨.slice (some ⟨P, 0, none⟩) 8 8, nx, false, false, 0⟩ ∧ OwnM 5 bvL 126 w base (.slice (some ⟨BL, 0, none⟩) 16 16) bs
 hP : ∃ xs : List Value, xs.length = 8 ∧ Own vId 40 w base (.slice (some ⟨P, 0, none⟩) 8 8) xs ∧ ∀ i (h : i < xs.length), PgAt w N0 xs[i] (ls i)
 hF : Flts w N0 x.fv fs
 dis : Dis base N0 C BL P
 hK : K < 16
 hN : N0 ≤ w.heap.size
structure Kp (C BL P : Nat) (w w' : World) : Prop where
 os : w'.os = w.os
 tape : w'.tape = w.tape
 output : w'.output = w.output
 size : w.heap.size ≤ w'.heap.size
 block : ∀ k, k < w.heap.size → k ≠ C → k ≠ BL → k ≠ P → w'.heap[k]? = w.heap[k]?
theorem Kp.refl (C BL P : Nat) (w : World) : Kp C BL P w w := ⟨rfl, rfl, rfl, Nat.le_refl _, fun _ _ _ _ _ => rfl⟩
theorem Kp.trans {C BL P : Nat} {a b c : World} (h : Kp C BL P a b) (k : Kp C BL P b c) : Kp C BL P a c :=
 ⟨k.os.trans h.os, k.tape.trans h.tape, k.output.trans h.output, Nat.le_trans h.size k.size, fun j hj h1 h2 h3 => (k.block j (Nat.lt_of_lt_of_le hj h.size) h1 h2 h3).trans (h.block j hj h1 h2 h3)⟩
theorem Kp.of {C BL P : Nat} {w w' : World} (h : Below w.heap.size w w') : Kp C BL P w w' := ⟨h.os, h.tape, h.output, h.size, fun k hk _ _ _ => h.block k hk⟩
theorem Kp.on {C BL P : Nat} {a b c : World} (h : Kp C BL P a b) (k : Below b.heap.size b c) : Kp C BL P a c := h.trans (Kp.of k)
theorem Kp.setCell {C BL P : Nat} {a b : World} (h : Kp C BL P a b) {p : Addr} (hp : p.block = C ∨ p.block = BL ∨ p.block = P) (u : Value) : Kp C BL P a (b.setCell p u) :=
 h.trans ⟨rfl, rfl, rfl, by simp, fun k _ h1 h2 h3 => heap_setCell_other b p k u (by rcases hp with e | e | e <;> rw [e] <;> assumption)⟩
theorem Kp.below {C BL P base : Nat} {w w' : World} (h : Kp C BL P w w') (h1 : base ≤ C) (h2 : base ≤ BL) (h3 : base ≤ P) (hb : base ≤ w.heap.size) : Below base w w' :=
 ⟨h.os, h.tape, h.output, h.size, fun k hk => h.block k (by omega) (by omega) (by omega) (by omega)⟩
theorem Own.kp {α : Type} {f : α → Value} {e : TypeId} {C BL P N0 : Nat} {w w' : World} {v : Value} {xs : List α} (h : Own f e w N0 v xs) (hk : Kp C BL P w w') (h1 : C < N0) (h2 : BL < N0) (h3 : P < N0) : Own f e w' N0 v xs := by
 refine ⟨h.1, ?_⟩
 rcases h.2 with h2' | ⟨g, cap, cur, hv, hgb, hg, r⟩
 ·exact Or.inl h2'
 ·refine Or.inr ⟨g, cap, cur, hv, hgb, ?_, r⟩
  have hlt : g < w.heap.size := by
   rcases Nat.lt_or_ge g w.heap.size with hlt | hge
   ·exact hlt
   ·rw [Array.getElem?_eq_none hge] at hg; cases hg
  exact (hk.block g hlt (by omega) (by omega) (by omega)).trans hg
variable {base N0 C BL P K nx : Nat} {w w' : World} {x : Cn} {ls : Nat → Option (List UInt8)} {fs : List Fl}
theorem Chp.on (h : Chp base N0 w C BL P K x nx ls fs) (hb : Below w.heap.size w w') : Chp base N0 w' C BL P K x nx ls fs := by
 obtain ⟨h1, ⟨bs, b1, b2, b3⟩, ⟨xs, x1, x2, x3⟩, h4, h5, h6, h7⟩ := h
 exact ⟨h1.belowHere hb, ⟨bs, b1, b2, b3.on hb⟩, ⟨xs, x1, x2.on hb, fun i hi => (x3 i hi).on hb⟩, h4.on hb, h5, h6, Nat.le_trans h7 hb.size⟩
theorem below_drew (w : World) : Below w.heap.size w w.drew := ⟨rfl, rfl, rfl, Nat.le_refl _, fun _ _ => rfl⟩
theorem Chp.drew (h : Chp base N0 w C BL P K x nx ls fs) : Chp base N0 w.drew C BL P K x nx ls fs := h.on (below_drew w)
theorem Chp.setC {x' : Cn} (h : Chp base N0 w C BL P K x nx ls fs) (i : Nat) (u : Value) (hx : (chA BL x).setIfInBounds i u = chA BL x') (hf : x'.fv = x.fv) : Chp base N0 (w.setCell ⟨C, i, none⟩ u) C BL P K x' nx ls fs := by
 obtain ⟨h1, ⟨bs, b1, b2, b3⟩, ⟨xs, x1, x2, x3⟩, h4, h5, h6, h7⟩ := h
 have hd := h5
 obtain ⟨d1, d2, d3, d4, d5, d6, d7⟩ := h5
 refine ⟨?_, ⟨bs, b1, b2, b3.far (by simpa [Value.ownBlock] using Ne.symm d1) u⟩, ⟨xs, x1, x2.far (by simpa [Value.ownBlock] using Ne.symm d2) u, fun j hj => (x3 j hj).far d4 u⟩, by rw [hf]; exact h4.far d4 u, hd, h6, by simpa using h7⟩
 rw [← hx]
 exact h1.set i u
theorem Chp.setP {v : Value} {L : List UInt8} (h : Chp base N0 w C BL P K x nx ls fs) (k : Nat) (hv : PgAt w N0 v (some L)) : Chp base N0 (w.setCell ⟨P, k, none⟩ v) C BL P K x nx (fun i => if i = k then some L else ls i) fs := by
 obtain ⟨h1, ⟨bs, b1, b2, b3⟩, ⟨xs, x1, x2, x3⟩, h4, h5, h6, h7⟩ := h
 have hd := h5
 obtain ⟨d1, d2, d3, d4, d5, d6, d7⟩ := h5
 refine ⟨h1.far d2 v, ⟨bs, b1, b2, b3.far (by simpa [Value.ownBlock] using d3) v⟩, ⟨xs.set k v, by rw [List.length_set]; exact x1, x2.set k v, fun j hj => ?_⟩, h4.far d6 v, hd, h6, by simpa using h7⟩
 rw [List.length_set] at hj
 by_cases e : j = k
 ·subst e
  rw [List.getElem_set_self, if_pos rfl]
  exact hv.far d6 v
 ·rw [List.getElem_set_ne (Ne.symm e), if_neg e]
  exact (x3 j hj).far d6 v
theorem Chp.setN (h : Chp base N0 w C BL P K x nx ls fs) (m : Nat) : Chp base N0 (w.setCell ⟨BL, K * 5 + 1, none⟩ (.int .i64 (m : Int))) C BL P K x m ls fs := by
 obtain ⟨h1, ⟨bs, b1, b2, b3⟩, ⟨xs, x1, x2, x3⟩, h4, h5, h6, h7⟩ := h
 have hd := h5
 obtain ⟨d1, d2, d3, d4, d5, d6, d7⟩ := h5
 have hk : K < bs.length := by omega
 have e2 : bs[K] = ⟨.slice (some ⟨P, 0, none⟩) 8 8, nx, false, false, 0⟩ := by
  rw [List.getElem?_eq_getElem hk] at b2
  exact Option.some.inj b2
 refine ⟨h1.far d1 _, ⟨bs.set K ⟨.slice (some ⟨P, 0, none⟩) 8 8, m, false, false, 0⟩, by rw [List.length_set]; exact b1, by rw [List.getElem?_set_self hk], b3.set (i := K) (j := 1) hk (by omega) (by rw [e2]; rfl)⟩, ⟨xs, x1, x2.far (by simpa [Value.ownBlock] using Ne.symm d3) _, fun j hj => (x3 j hj).far d5 _⟩, h4.far d5 _, hd, h6, by simpa using h7⟩
theorem Chp.frzC (h : Chp base N0 w C BL P K x nx ls fs) (i : Nat) : w.frozen? ⟨C, i, none⟩ = false := h.hC.frozen i
theorem Chp.cellB (h : Chp base N0 w C BL P K x nx ls fs) : ∀ j (_ : j < 5), w.cell? ⟨BL, K * 5 + j, none⟩ = (bvL ⟨.slice (some ⟨P, 0, none⟩) 8 8, nx, false, false, 0⟩)[j]? ∧ w.frozen? ⟨BL, K * 5 + j, none⟩ = false := by
 intro j hj
 obtain ⟨bs, b1, b2, b3⟩ := h.hB
 have hk : K < bs.length := by have := h.hK; omega
 have e2 : bs[K] = ⟨.slice (some ⟨P, 0, none⟩) 8 8, nx, false, false, 0⟩ := by
  rw [List.getElem?_eq_getElem hk] at b2
  exact Option.some.inj b2
 rw [← e2]
 exact b3.cellg hk hj
theorem Chp.c1 (h : Chp base N0 w C BL P K x nx ls fs) : w.cell? ⟨C, 1, none⟩ = some (.int .i64 8) := h.hC.cellv rfl
theorem Chp.c2 (h : Chp base N0 w C BL P K x nx ls fs) : w.cell? ⟨C, 2, none⟩ = some (.int .i64 64) := h.hC.cellv rfl
theorem Chp.c3 (h : Chp base N0 w C BL P K x nx ls fs) : w.cell? ⟨C, 3, none⟩ = some (.slice (some ⟨BL, 0, none⟩) 16 16) := h.hC.cellv rfl
theorem Chp.c4 (h : Chp base N0 w C BL P K x nx ls fs) : w.cell? ⟨C, 4, none⟩ = some (x.fv) := h.hC.cellv rfl
theorem Chp.c5 (h : Chp base N0 w C BL P K x nx ls fs) : w.cell? ⟨C, 5, none⟩ = some (.int .i64 (x.si : Int)) := h.hC.cellv rfl
theorem Chp.c6 (h : Chp base N0 w C BL P K x nx ls fs) : w.cell? ⟨C, 6, none⟩ = some (.bool x.dn) := h.hC.cellv rfl
theorem Chp.c7 (h : Chp base N0 w C BL P K x nx ls fs) : w.cell? ⟨C, 7, none⟩ = some (.int .i64 (x.sk : Int)) := h.hC.cellv rfl
theorem Chp.b0 (h : Chp base N0 w C BL P K x nx ls fs) : w.cell? ⟨BL, K * 5, none⟩ = some (.slice (some ⟨P, 0, none⟩) 8 8) ∧ w.frozen? ⟨BL, K * 5, none⟩ = false := h.cellB 0 (by omega)
theorem Chp.b1 (h : Chp base N0 w C BL P K x nx ls fs) : w.cell? ⟨BL, K * 5 + 1, none⟩ = some (.int .i64 (nx : Int)) ∧ w.frozen? ⟨BL, K * 5 + 1, none⟩ = false := h.cellB 1 (by omega)
theorem Chp.b2 (h : Chp base N0 w C BL P K x nx ls fs) : w.cell? ⟨BL, K * 5 + 2, none⟩ = some (.bool false) ∧ w.frozen? ⟨BL, K * 5 + 2, none⟩ = false := h.cellB 2 (by omega)
theorem Chp.b3 (h : Chp base N0 w C BL P K x nx ls fs) : w.cell? ⟨BL, K * 5 + 3, none⟩ = some (.bool false) ∧ w.frozen? ⟨BL, K * 5 + 3, none⟩ = false := h.cellB 3 (by omega)
theorem Chp.page (h : Chp base N0 w C BL P K x nx ls fs) {i : Nat} (hi : i < 8) : ∃ v, w.cell? ⟨P, i, none⟩ = some v ∧ w.frozen? ⟨P, i, none⟩ = false ∧ PgAt w N0 v (ls i) := by
 obtain ⟨xs, x1, x2, x3⟩ := h.hP
 obtain ⟨c1, c2⟩ := x2.cellg (k := i) (by omega)
 exact ⟨xs[i], c1, c2, x3 i (by omega)⟩
theorem Chp.below (h : Chp base N0 w C BL P K x nx ls fs) (hk : Kp C BL P w w') : Below base w w' := by
 obtain ⟨d1, d2, d3, d4, d5, d6, d7, d8, d9⟩ := h.dis
 have := h.hN
 exact hk.below d7 d8 d9 (by omega)
end
section
open Go.RowKit

theorem small_calls (w : World) : Calls Tryz.prog 24 #[] w fun e w' => e = .returned (.agg #[.int .i64 16, .int .i64 8, .int .i64 64]) ∧ Below w.heap.size w w' := by
 go_enter Tryz.func24, Tryz.ntmps24
 go_wp2
 refine bodyPost_ret (v := .agg #[.int .i64 16, .int .i64 8, .int .i64 64]) (by simp [results, Tryz.results24, go_sem]) rfl ⟨rfl, ?_⟩
 exact (Below.refl _ _).alloc (Nat.le_refl _) _
theorem index_calls (b o : Nat) (w : World) (h : w.cell? ⟨b, o, none⟩ = some (.int .i64 64)) :
  Calls Tryz.prog 147 #[.slice (some ⟨b, o, none⟩) 4 4, .int .i64 64] w fun e w' => e = .returned (.int .i64 0) ∧ w = w' := by
 go_enter Tryz.func147, Tryz.ntmps147
 go_wp2
 go_loop [5, 8] (fun _ i => i = .int .i64 0) (fun _ _ => 0)
 case atStart => exact rfl
 case round =>
  subst hrel
  go_wp2
  go_ret
  exact ⟨rfl, rfl⟩
theorem contains_calls (b o : Nat) (w : World) (h : w.cell? ⟨b, o, none⟩ = some (.int .i64 64)) :
  Calls Tryz.prog 106 #[.slice (some ⟨b, o, none⟩) 4 4, .int .i64 64] w fun e w' => e = .returned (.bool true) ∧ w = w' := by
 have HI := hid (index_calls b o w h)
 clear h
 go_enter Tryz.func106, Tryz.ntmps106
 go_wp2_with fail
 refine (HI.out).mono ?_
 rintro e w_ ⟨rfl, rfl⟩
 go_wp2
 go_ret
 exact ⟨rfl, rfl⟩
theorem right_calls (w : World) : Calls Tryz.prog 59 #[.agg #[.int .i64 16, .int .i64 8, .int .i64 64]] w fun e w' => e = .returned (.bool true) ∧ Below w.heap.size w w' := by
 have B1 := (Blk.new w 66 #[.int .i64 16, .int .i64 8, .int .i64 64]).alloc (.cells #[.int .i64 64, .int .i64 128, .int .i64 256, .int .i64 512] 173)
 have B2 := Blk.new (w.alloc (.cells #[.int .i64 16, .int .i64 8, .int .i64 64] 66)) 173 #[.int .i64 64, .int .i64 128, .int .i64 256, .int .i64 512]
 rw [World.size_alloc] at B2
 have hb := ((Below.refl w.heap.size w).alloc (Nat.le_refl _) (.cells #[.int .i64 16, .int .i64 8, .int .i64 64] 66)).alloc (by simp) (.cells #[.int .i64 64, .int .i64 128, .int .i64 256, .int .i64 512] 173)
 obtain ⟨w2, hw2⟩ : ∃ w2, w2 = (w.alloc (.cells #[.int .i64 16, .int .i64 8, .int .i64 64] 66)).alloc (.cells #[.int .i64 64, .int .i64 128, .int .i64 256, .int .i64 512] 173) := ⟨_, rfl⟩
 obtain ⟨g, hg⟩ : ∃ g, g = w.heap.size := ⟨_, rfl⟩
 obtain ⟨g2, hg2⟩ : ∃ g2, g2 = w.heap.size + 1 := ⟨_, rfl⟩
 rw [← hw2] at B1 B2 hb
 rw [← hg] at B1
 rw [← hg2] at B2
 have HB := hid hb
 have HB1 := hid B1
 have HB2 := hid B2
 have HC := hid (fun u (h : Blk u g2 173 #[.int .i64 64, .int .i64 128, .int .i64 256, .int .i64 512]) => contains_calls g2 0 u (h.cellv (i := 0) rfl))
 clear B1 B2 hb
 go_enter Tryz.func59, Tryz.ntmps59
 go_wp2_with fail
 rw [← hw2, ← hg2, ← hg]
 clear hw2 hg hg2
 refine wp_region_noPanic ?_
 refine wp_region_held_drew (S := (fun W' => Blk W' g 66 #[.int .i64 16, .int .i64 8, .int .i64 64] ∧ Blk W' g2 173 #[.int .i64 64, .int .i64 128, .int .i64 256, .int .i64 512])) (by kernel_rfl) ⟨HB1.out, HB2.out⟩ (fun hS0 => ?_)
 refine tk 0 ((.pointer (some ⟨g, 0, none⟩))) rfl (fun W hSw => ?_) ?_
 ·skip
  go_simp
 try simp only [layR]
 refine tk 1 ((.int .i64 16)) rfl (fun W hSw => ?_) ?_
 ·have c9 := (hSw.1.cellv (i := 0) rfl)
  go_simp
 try simp only [layR]
 refine tk 2 ((.bool true)) rfl (fun W hSw => ?_) ?_
 ·skip
  go_simp
 try simp only [layR]
 refine tk 3 ((.bool true)) rfl (fun _ _ => rfl) ?_
 try simp only [layR]
 refine tk 4 ((.pointer (some ⟨g, 0, none⟩))) rfl (fun W hSw => ?_) ?_
 ·skip
  go_simp
 try simp only [layR]
 refine tk 5 ((.int .i64 16)) rfl (fun W hSw => ?_) ?_
 ·have c9 := (hSw.1.cellv (i := 0) rfl)
  go_simp
 try simp only [layR]
 refine tk 6 ((.bool true)) rfl (fun W hSw => ?_) ?_
 ·skip
  go_simp
 try simp only [layR]
 refine tk 7 ((.bool true)) rfl (fun W hSw => ?_) ?_
 ·skip
  go_simp
 try simp only [layR]
 refine tk 8 ((.bool true)) rfl (fun _ _ => rfl) ?_
 try simp only [layR]
 refine tk 9 ((.pointer (some ⟨g, 1, none⟩))) rfl (fun W hSw => ?_) ?_
 ·skip
  go_simp
 try simp only [layR]
 refine tk 10 ((.int .i64 8)) rfl (fun W hSw => ?_) ?_
 ·have c9 := (hSw.1.cellv (i := 1) rfl)
  go_simp
 try simp only [layR]
 refine tk 11 ((.bool true)) rfl (fun W hSw => ?_) ?_
 ·skip
  go_simp
 try simp only [layR]
 refine tk 12 ((.bool true)) rfl (fun W hSw => ?_) ?_
 ·skip
  go_simp
 try simp only [layR]
 refine tk 13 ((.bool true)) rfl (fun _ _ => rfl) ?_
 try simp only [layR]
 refine tk 14 ((.pointer (some ⟨g, 1, none⟩))) rfl (fun W hSw => ?_) ?_
 ·skip
  go_simp
 try simp only [layR]
 refine tk 15 ((.int .i64 8)) rfl (fun W hSw => ?_) ?_
 ·have c9 := (hSw.1.cellv (i := 1) rfl)
  go_simp
 try simp only [layR]
 refine tk 16 ((.bool true)) rfl (fun W hSw => ?_) ?_
 ·skip
  go_simp
 try simp only [layR]
 refine tk 17 ((.bool true)) rfl (fun W hSw => ?_) ?_
 ·skip
  go_simp
 try simp only [layR]
 refine tk 18 ((.bool true)) rfl (fun _ _ => rfl) ?_
 try simp only [layR]
 refine tk 19 ((.slice (some ⟨g2, 0, none⟩) 4 4)) rfl (fun W hSw => ?_) ?_
 ·skip
  go_simp
 try simp only [layR]
 refine tk 20 ((.pointer (some ⟨g, 2, none⟩))) rfl (fun W hSw => ?_) ?_
 ·skip
  go_simp
 try simp only [layR]
 refine tk 21 ((.int .i64 64)) rfl (fun W hSw => ?_) ?_
 ·have c9 := (hSw.1.cellv (i := 2) rfl)
  go_simp
 try simp only [layR]
 refine rd 22 rfl (fun K' hK => ?_)
 go_simp
 refine (HC.out _ hS0.2).mono ?_
 rintro e w_ ⟨rfl, rfl⟩
 refine hK.out _ _ hS0 (fun hS1 => ?_)
 try simp only [layR]
 refine tk 23 ((.bool true)) rfl (fun W hSw => ?_) ?_
 ·skip
  go_simp
 try simp only [layR]
 refine tk 24 ((.bool true)) rfl (fun _ _ => rfl) ?_
 try simp only [layR]
 refine wpAnyH_done (by kernel_rfl) ?_ _
 refine NoPanic.normal ?_
 clear hS0 hS1
 go_wp2_with fail
 go_ret
 exact ⟨rfl, HB.out.drew⟩
end
section
open Go.RowKit

def bv0 : Bv := ⟨.slice none 0 0, 0, false, false, 0⟩
def bvs0 : List Bv := List.replicate 16 bv0
def nil8 : List Value := List.replicate 8 (.slice none 0 0)
theorem makeBlk (u : World) : (Instr.makeSlice 127 (.int .i64 16) (.int .i64 16)).run Tryz.prog u = .ok (.slice (some ⟨u.heap.size, 0, none⟩) 16 16) (u.alloc (.cells (bvs0.flatMap bvL).toArray 126)) := by
 kernel_rfl
theorem makePgs (u : World) : (Instr.makeSlice 124 (.int .i64 8) (.int .i64 8)).run Tryz.prog u = .ok (.slice (some ⟨u.heap.size, 0, none⟩) 8 8) (u.alloc (.cells (nil8.map vId).toArray 40)) := by
 kernel_rfl
theorem ownBlk (u : World) (base : Nat) (hb : base ≤ u.heap.size) : OwnM 5 bvL 126 (u.alloc (.cells (bvs0.flatMap bvL).toArray 126)) base (.slice (some ⟨u.heap.size, 0, none⟩) 16 16) bvs0 :=
 ⟨bv_len, by rfl, .inr ⟨u.heap.size, 16, _, rfl, hb, heap_alloc_new u _, Nat.le_refl _, by decide, by rfl, by rfl⟩⟩
theorem ownPgs (u : World) (base : Nat) (hb : base ≤ u.heap.size) : Own vId 40 (u.alloc (.cells (nil8.map vId).toArray 40)) base (.slice (some ⟨u.heap.size, 0, none⟩) 8 8) nil8 :=
 ⟨by rfl, .inr ⟨u.heap.size, 8, _, rfl, hb, heap_alloc_new u _, Nat.le_refl _, by decide, by rfl, by rfl⟩⟩
def cn0 : Cn := ⟨.slice none 0 0, 0, false, 0, 0⟩
structure BlI (base K : Nat) (w wr : World) (k : Nat) : Prop where
 hG : Blk wr base 66 #[.int .i64 16, .int .i64 8, .int .i64 64]
 hC : Blk wr (base + 2) 130 (chA (base + 1) cn0)
 hB : ∃ bs : List Bv, bs.length = 16 ∧ OwnM 5 bvL 126 wr base (.slice (some ⟨base + 1, 0, none⟩) 16 16) bs ∧ (k ≤ K → bs[K]? = some bv0) ∧
  (K < k → ∃ P, bs[K]? = some ⟨.slice (some ⟨P, 0, none⟩) 8 8, 0, false, false, 0⟩ ∧ Own vId 40 wr base (.slice (some ⟨P, 0, none⟩) 8 8) nil8 ∧ base + 2 < P)
 hb : Below base w wr
theorem BlI.on {base K k : Nat} {w wr w' : World} (h : BlI base K w wr k) (hb : Below wr.heap.size wr w') : BlI base K w w' k := by
 obtain ⟨h1, h2, ⟨bs, b1, b2, b3, b4⟩, h4⟩ := h
 have hsz : base ≤ wr.heap.size := Nat.le_of_lt h1.lt
 exact ⟨h1.belowHere hb, h2.belowHere hb, ⟨bs, b1, b2.on hb, b3, fun hk => by obtain ⟨P, p1, p2, p3⟩ := b4 hk; exact ⟨P, p1, p2.on hb, p3⟩⟩, h4.trans (hb.mono hsz)⟩
theorem BlI.step {base K k : Nat} {w wr : World} (h : BlI base K w wr k) (hk : k < 16) :
  BlI base K w ((wr.alloc (.cells (nil8.map vId).toArray 40)).setCell ⟨base + 1, k * 5, none⟩ (.slice (some ⟨wr.heap.size, 0, none⟩) 8 8)) (k + 1) := by
 have hlt := h.hC.lt
 have ho := ownPgs wr base (by omega)
 obtain ⟨h1, h2, ⟨bs, b1, b2, b3, b4⟩, h4⟩ := h.on ((Below.refl wr.heap.size wr).alloc (Nat.le_refl _) (.cells (nil8.map vId).toArray 40))
 have b5 : ∀ hKk : K < k, ∃ P, bs[K]? = some ⟨.slice (some ⟨P, 0, none⟩) 8 8, 0, false, false, 0⟩ ∧ Own vId 40 (wr.alloc (.cells (nil8.map vId).toArray 40)) base (.slice (some ⟨P, 0, none⟩) 8 8) nil8 ∧ base + 2 < P := b4
 generalize wr.alloc (.cells (nil8.map vId).toArray 40) = wp at *
 have hkb : k < bs.length := by omega
 have hset := b2.set (i := k) (j := 0) (u := .slice (some ⟨wr.heap.size, 0, none⟩) 8 8) (y := { bs[k] with pages := .slice (some ⟨wr.heap.size, 0, none⟩) 8 8 }) hkb (by omega) rfl
 refine ⟨h1.far (by simp) _, h2.far (by simp) _, ⟨_, by rw [List.length_set]; exact b1, hset, fun hle => ?_, fun hlt2 => ?_⟩, h4.setCell (p := ⟨base + 1, k * 5, none⟩) (by simp) _⟩
 ·rw [List.getElem?_set_ne (by omega)]
  exact b3 (by omega)
 ·by_cases e : K = k
  ·subst e
   refine ⟨wr.heap.size, ?_, ho.far (by simp [Value.ownBlock]; omega) _, hlt⟩
   have hz := b3 (Nat.le_refl _)
   rw [List.getElem?_eq_getElem hkb] at hz
   rw [List.getElem?_set_self hkb, Option.some.inj hz]
   rfl
  ·obtain ⟨P, p1, p2, p3⟩ := b5 (by omega)
   exact ⟨P, by rw [List.getElem?_set_ne (by omega)]; exact p1, p2.far (by simp [Value.ownBlock]; omega) _, p3⟩
theorem blank_calls (K : Nat) (hK : K < 16) (w : World) :
  Calls Tryz.prog 60 #[.agg #[.int .i64 16, .int .i64 8, .int .i64 64]] w fun e w' => e = .returned (.pointer (some ⟨w.heap.size + 2, 0, none⟩)) ∧ BlI w.heap.size K w w' 16 := by
 have B1 := Blk.new w 66 #[.int .i64 16, .int .i64 8, .int .i64 64]
 have hb := (Below.refl w.heap.size w).alloc (Nat.le_refl _) (.cells #[.int .i64 16, .int .i64 8, .int .i64 64] 66)
 obtain ⟨w1, hw1⟩ : ∃ w1, w1 = w.alloc (.cells #[.int .i64 16, .int .i64 8, .int .i64 64] 66) := ⟨_, rfl⟩
 obtain ⟨g, hg⟩ : ∃ g, g = w.heap.size := ⟨_, rfl⟩
 have hs1 : w1.heap.size = g + 1 := by rw [hw1, hg]; simp
 rw [← hw1] at B1 hb
 rw [← hg] at B1 hb ⊢
 have HBd := hid (show Blk w1.drew g 66 #[.int .i64 16, .int .i64 8, .int .i64 64] from B1)
 have HB := hid hb
 have HS1 := hid hs1
 have hmk := makeBlk w1.drew
 have HBg := hid B1
 have hC0 := Blk.new (w1.alloc (.cells (bvs0.flatMap bvL).toArray 126)) 130 (chA (g + 1) cn0)
 have hG0 := (B1.alloc (.cells (bvs0.flatMap bvL).toArray 126)).alloc (.cells (chA (g + 1) cn0) 130)
 have hO0 := (ownBlk w1 g (by omega)).alloc (.cells (chA (g + 1) cn0) 130)
 have hB0 := (hb.alloc (by omega) (.cells (bvs0.flatMap bvL).toArray 126)).alloc (by simp; omega) (.cells (chA (g + 1) cn0) 130)
 rw [World.size_alloc, hs1] at hC0
 rw [hs1] at hO0
 have HI := hid (show BlI g K w ((w1.alloc (.cells (bvs0.flatMap bvL).toArray 126)).alloc (.cells (chA (g + 1) cn0) 130)) 0 from ⟨hG0, hC0, ⟨bvs0, rfl, hO0, fun _ => by unfold bvs0; rw [List.getElem?_replicate, if_pos hK], fun h => absurd h (by omega)⟩, hB0⟩)
 clear B1 hb hC0 hG0 hO0 hB0
 go_enter Tryz.func60, Tryz.ntmps60
 go_wp2_with fail
 rw [← hw1, ← hg]
 clear hw1 hg hs1
 refine wp_region_noPanic ?_
 refine wp_region_held_drew (S := (fun W' => Blk W' g 66 #[.int .i64 16, .int .i64 8, .int .i64 64])) (by kernel_rfl) HBd.out (fun hS0 => ?_)
 refine tk 0 ((.agg #[.int .i64 16, .int .i64 8, .int .i64 64])) rfl (fun W hSw => ?_) ?_
 ·have y0 := hSw.cellv (i := 0) rfl; have y1 := hSw.cellv (i := 1) rfl; have y2 := hSw.cellv (i := 2) rfl
  go_simp
 try simp only [layR]
 refine tk 1 ((.pointer (some ⟨g, 0, none⟩))) rfl (fun W hSw => ?_) ?_
 ·skip
  go_simp
 try simp only [layR]
 refine tk 2 ((.int .i64 16)) rfl (fun W hSw => ?_) ?_
 ·have y0 := hSw.cellv (i := 0) rfl
  go_simp
 try simp only [layR]
 refine rd 3 rfl (fun K' hK => ?_)
 go_simp
 refine hK.out _ _ (HBg.out.alloc _).drew (fun hS1 => ?_)
 try simp only [layR]
 refine tk 4 ((.agg #[.int .i64 16, .int .i64 8, .int .i64 64, .slice (some ⟨w1.heap.size, 0, none⟩) 16 16, .slice none 0 0, .int .i64 0, .bool false, .int .i64 0, .int .i64 0])) rfl (fun W hSw => ?_) ?_
 ·skip
  go_simp
 try simp only [layR]
 refine rd 5 rfl (fun K' hK => ?_)
 go_simp
 refine hK.out _ _ ((HBg.out.alloc _).alloc _).drew (fun hS2 => ?_)
 try simp only [layR]
 refine tk 6 ((.pointer (some ⟨w1.heap.size + 1, 0, none⟩))) rfl (fun _ _ => rfl) ?_
 try simp only [layR]
 refine wpAnyH_done (by kernel_rfl) ?_ _
 refine NoPanic.normal ?_
 clear hS0 hS1 hS2 hmk
 rw [HS1.out]
 change Exit.then _ _ _ _ ((w1.alloc (.cells (bvs0.flatMap bvL).toArray 126)).alloc (.cells (chA (g + 1) cn0) 130)).drew
 have HI3 := HI.out.on (below_drew _)
 generalize ((w1.alloc (.cells (bvs0.flatMap bvL).toArray 126)).alloc (.cells (chA (g + 1) cn0) 130)).drew = w3 at *
 have c3 : w3.cell? ⟨g + 1 + 1, 3, none⟩ = some (.slice (some ⟨g + 1, 0, none⟩) 16 16) := HI3.hC.cellv rfl
 have HJ := hid HI3
 clear HI HI3 HB HBd HBg HS1
 go_wp2_with fail
 go_loopw [4, 16] (fun _ i wr => ∃ k : Nat, k ≤ 16 ∧ i = .int .i64 k ∧ BlI g K w wr k) (fun _ i _ => 16 - (intOf i).toNat)
 case atStart => exact ⟨0, by omega, rfl, HJ.out⟩
 case round =>
  obtain ⟨k, hk, rfl, hI⟩ := hrel
  have HI := hid hI
  clear HJ
  by_cases hlt : k < 16
  ·have hst := (hI.step hlt).on (below_drew _)
   have HSt := hid hst
   have hmk := makePgs wr.drew
   have k0 : (0 : Int) ≤ (k : Int) := by omega
   have k1 : (k : Int) < 16 := by omega
   have e3 : wr.drew.cell? ⟨g + 1 + 1, 3, none⟩ = some (.slice (some ⟨g + 1, 0, none⟩) 16 16) := (hI.on (below_drew _)).hC.cellv rfl
   have e1 : wr.drew.cell? ⟨g, 1, none⟩ = some (.int .i64 8) := (hI.on (below_drew _)).hG.cellv rfl
   have hgl := hI.hC.lt
   have HA := hid (hI.on (((Below.refl wr.heap.size wr).alloc (Nat.le_refl _) (.cells (nil8.map vId).toArray 40)).drew))
   obtain ⟨bs, b1, b2, _, _⟩ := HA.out.hB
   obtain ⟨z1, z2⟩ := b2.cellg (i := k) (j := 0) (by omega) (by omega)
   have z3 : ((wr.alloc (.cells (nil8.map vId).toArray 40)).drew).cell? ⟨g + 1, k * 5, none⟩ = some bs[k].pages := z1
   have z4 : ((wr.alloc (.cells (nil8.map vId).toArray 40)).drew).frozen? ⟨g + 1, k * 5, none⟩ = false := z2
   clear hst z1 z2 b2 hI
   go_upto_region 5 with fail
   refine wp_region_noPanic ?_
   refine wp_region_held_drew (S := (fun W' => W'.cell? ⟨g + 1 + 1, 3, none⟩ = some (.slice (some ⟨g + 1, 0, none⟩) 16 16) ∧ W'.cell? ⟨g, 1, none⟩ = some (.int .i64 8))) (by kernel_rfl) ⟨e3, e1⟩ (fun hS0 => ?_)
   refine tk 0 ((.pointer (some ⟨g + 1 + 1, 0, none⟩))) rfl (fun _ _ => rfl) ?_
   try simp only [layR]
   refine tk 1 ((.pointer (some ⟨g + 1 + 1, 0, none⟩))) rfl (fun W hSw => ?_) ?_
   ·skip
    go_simp
   try simp only [layR]
   refine tk 2 ((.pointer (some ⟨g + 1 + 1, 3, none⟩))) rfl (fun W hSw => ?_) ?_
   ·skip
    go_simp
   try simp only [layR]
   refine tk 3 ((.slice (some ⟨g + 1, 0, none⟩) 16 16)) rfl (fun W hSw => ?_) ?_
   ·have c9 := hSw.1
    go_simp
   try simp only [layR]
   refine tk 4 ((.int .i64 (k : Int))) rfl (fun _ _ => rfl) ?_
   try simp only [layR]
   refine tk 5 ((.pointer (some ⟨g, 1, none⟩))) rfl (fun W hSw => ?_) ?_
   ·skip
    go_simp
   try simp only [layR]
   refine tk 6 ((.int .i64 8)) rfl (fun W hSw => ?_) ?_
   ·have c9 := hSw.2
    go_simp
   try simp only [layR]
   refine rd 7 rfl (fun K' hK => ?_)
   go_simp
   have hlC : g + 1 + 1 < wr.drew.heap.size := hgl
   have hlG : g < wr.drew.heap.size := by show g < wr.heap.size; omega
   have hba := (Below.refl wr.drew.heap.size wr.drew).alloc (Nat.le_refl _) (.cells (nil8.map vId).toArray 40)
   refine hK.out _ _ ⟨(hba.cell (p := ⟨g + 1 + 1, 3, none⟩) hlC).trans hS0.1, (hba.cell (p := ⟨g, 1, none⟩) hlG).trans hS0.2⟩ (fun hS1 => ?_)
   try simp only [layR]
   refine tk 8 ((.pointer (some ⟨g + 1, k * 5, none⟩))) rfl (fun W hSw => ?_) ?_
   ·skip
    go_simp
   try simp only [layR]
   refine tk 9 ((.pointer (some ⟨g + 1, k * 5, none⟩))) rfl (fun W hSw => ?_) ?_
   ·skip
    go_simp
   try simp only [layR]
   refine rd 10 rfl (fun K' hK => ?_)
   go_simp
   refine hK.out _ _ ⟨(World.cell?_setCell_far _ _ _ _ (by simp)).trans hS1.1, (World.cell?_setCell_far _ _ _ _ (by simp)).trans hS1.2⟩ (fun hS2 => ?_)
   try simp only [layR]
   refine wpAnyH_done (by kernel_rfl) ?_ _
   refine NoPanic.normal ?_
   clear hS0 hS1 hS2 hmk hba
   go_wp2_with fail
   go_roundw
   case rel => exact ⟨k + 1, by omega, by go_num, HSt.out⟩
   case measure => simp [intOf]; omega
  ·obtain rfl : k = 16 := by omega
   clear hI
   go_wp2_with fail
   go_ret
   exact ⟨rfl, HI.out⟩
end
end Go.Proofs.YtcppkaphlcflgaaGreat
