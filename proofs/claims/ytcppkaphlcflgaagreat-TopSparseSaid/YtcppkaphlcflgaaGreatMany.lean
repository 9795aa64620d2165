import Derived.Test.YtcppkaphlcflgaaGreatMem
namespace Go.Proofs.YtcppkaphlcflgaaGreat
open Go.RowKit

section
variable {α : Type} {m : Nat} {f : α → List Value}
theorem flat_len (hf : ∀ x, (f x).length = m) (xs : List α) : (xs.flatMap f).length = xs.length * m := by
 induction xs with
 | nil => simp
 | cons x t ih => rw [List.flatMap_cons, List.length_append, ih, hf, List.length_cons, Nat.succ_mul]; omega
theorem flat_at (hf : ∀ x, (f x).length = m) {xs : List α} {i j : Nat} (hi : i < xs.length) (hj : j < m) : (xs.flatMap f)[i * m + j]? = (f xs[i])[j]? := by
 induction xs generalizing i with
 | nil => simp at hi
 | cons x t ih =>
  rw [List.flatMap_cons]
  cases i with
  | zero => rw [Nat.zero_mul, Nat.zero_add, List.getElem?_append_left (by rw [hf]; exact hj)]; rfl
  | succ i =>
   have e : (i + 1) * m + j = m + (i * m + j) := by rw [Nat.succ_mul]; omega
   rw [e, List.getElem?_append_right (by rw [hf]; omega), hf, Nat.add_sub_cancel_left, ih (by simpa using hi)]
   rfl
theorem flat_set (hf : ∀ x, (f x).length = m) {xs : List α} {i j : Nat} {u : Value} {y : α} (hi : i < xs.length) (hj : j < m) (hy : f y = (f xs[i]).set j u) : (xs.set i y).flatMap f = (xs.flatMap f).set (i * m + j) u := by
 induction xs generalizing i with
 | nil => simp at hi
 | cons x t ih =>
  cases i with
  | zero =>
   rw [List.set_cons_zero, List.flatMap_cons, List.flatMap_cons, Nat.zero_mul, Nat.zero_add, List.set_append_left _ _ (by rw [hf]; exact hj), hy]
   rfl
  | succ i =>
   have e : (i + 1) * m + j = m + (i * m + j) := by rw [Nat.succ_mul]; omega
   rw [List.set_cons_succ, List.flatMap_cons, List.flatMap_cons, e, List.set_append_right _ _ (by rw [hf]; omega), hf, Nat.add_sub_cancel_left, ih (by simpa using hi) hy]
def ArrM (m : Nat) (f : α → List Value) (w : World) (B : Nat) (a : Option Addr) (n : Nat) (xs : List α) : Prop :=
 xs.length = n ∧ n ≤ 140737488351232 ∧ (n ≠ 0 → ∃ b o, a = some ⟨b, o, none⟩ ∧ b < B ∧ ∀ i (h : i < xs.length), w.rangeAt b (o + i * m) (f xs[i]))
variable {w w' : World} {B B' : Nat} {a : Option Addr} {n : Nat} {xs : List α}
theorem ArrM.len (h : ArrM m f w B a n xs) : xs.length = n := h.1
theorem ArrM.room (h : ArrM m f w B a n xs) : n ≤ 140737488351232 := h.2.1
theorem ArrM.atv (h : ArrM m f w B a n xs) {k : Nat} (hk : k < n) : ∃ b o, ∃ h' : k < xs.length, a = some ⟨b, o, none⟩ ∧ b < B ∧ w.rangeAt b (o + k * m) (f xs[k]) := by
 obtain ⟨h1, _, h3⟩ := h
 obtain ⟨b, o, ha, hb, hc⟩ := h3 (by omega)
 exact ⟨b, o, by omega, ha, hb, hc k (by omega)⟩
theorem ArrM.keep (h : ArrM m f w B a n xs) (hk : ∀ b o, b < B → w'.cell? ⟨b, o, none⟩ = w.cell? ⟨b, o, none⟩) : ArrM m f w' B a n xs := by
 obtain ⟨h1, h2, h3⟩ := h
 refine ⟨h1, h2, fun hn => ?_⟩
 obtain ⟨b, o, ha, hlt, hc⟩ := h3 hn
 exact ⟨b, o, ha, hlt, fun i hi j v hv => (hk b _ hlt).trans (hc i hi j v hv)⟩
theorem ArrM.below (h : ArrM m f w B a n xs) (hb : Below B w w') : ArrM m f w' B a n xs := h.keep fun b o hlt => hb.cell (p := ⟨b, o, none⟩) hlt
theorem ArrM.mono (h : ArrM m f w B a n xs) (hB : B ≤ B') : ArrM m f w B' a n xs := by
 obtain ⟨h1, h2, h3⟩ := h
 refine ⟨h1, h2, fun hn => ?_⟩
 obtain ⟨b, o, ha, hlt, hc⟩ := h3 hn
 exact ⟨b, o, ha, by omega, hc⟩
theorem ArrM.on (h : ArrM m f w w.heap.size a n xs) (hb : Below w.heap.size w w') : ArrM m f w' w'.heap.size a n xs := (h.below hb).mono hb.size
theorem ArrM.none_ (w : World) (B : Nat) (a : Option Addr) : ArrM m f w B a 0 [] := ⟨rfl, by omega, fun h => absurd rfl h⟩
theorem ArrM.alloc (h : ArrM m f w w.heap.size a n xs) (o : Obj) : ArrM m f (w.alloc o) (w.alloc o).heap.size a n xs := h.on ((Below.refl _ _).alloc (Nat.le_refl _) o)
def OwnM (m : Nat) (f : α → List Value) (e : TypeId) (w : World) (base : Nat) (v : Value) (xs : List α) : Prop := (∀ x, (f x).length = m) ∧ w.ownsRow base e m v xs.length (xs.flatMap f)
variable {e : TypeId} {base : Nat} {v : Value}
theorem OwnM.nil (hf : ∀ x, (f x).length = m) (w : World) (base : Nat) : OwnM m f e w base (.slice none 0 0) [] := ⟨hf, World.ownsRow_nil w base e m⟩
theorem OwnM.form (h : OwnM m f e w base v xs) : ∃ a c, v = .slice a xs.length c ∧ xs.length ≤ c := by
 rcases h.2.2 with ⟨hv, hn⟩ | ⟨g, cap, cur, hv, _, _, hc, _⟩
 ·exact ⟨none, 0, by rw [hv, hn], by omega⟩
 ·exact ⟨_, cap, hv, hc⟩
theorem OwnM.formN {n : Nat} (h : OwnM m f e w base v xs) (hn : xs.length = n) : ∃ a c, v = .slice a n c ∧ n ≤ c := by
 subst hn; exact h.form
theorem OwnM.form_some (h : OwnM m f e w base v xs) (hn : 0 < xs.length) : ∃ g c, v = .slice (some ⟨g, 0, none⟩) xs.length c ∧ xs.length ≤ c ∧ base ≤ g ∧ g < w.heap.size := by
 rcases h.2.2 with ⟨_, h0⟩ | ⟨g, cap, cur, hv, hgb, hg, hc, _⟩
 ·omega
 ·refine ⟨g, cap, hv, hc, hgb, ?_⟩
  rcases Nat.lt_or_ge g w.heap.size with hlt | hge
  ·exact hlt
  ·rw [Array.getElem?_eq_none hge] at hg; cases hg
theorem OwnM.cellg {g n c : Nat} (h : OwnM m f e w base (.slice (some ⟨g, 0, none⟩) n c) xs) {i j : Nat} (hi : i < xs.length) (hj : j < m) :
  w.cell? ⟨g, i * m + j, none⟩ = (f xs[i])[j]? ∧ w.frozen? ⟨g, i * m + j, none⟩ = false := by
 obtain ⟨hf, hx⟩ := h
 rcases hx.2 with ⟨hv, _⟩ | ⟨g', cap, cur, hv, hgb, hg, hc, _, hs, ht⟩
 ·cases hv
 ·injection hv with h1 h2 h3
  injection h1 with h1
  injection h1 with h1
  subst h1
  refine ⟨?_, frozen_of_row w g _ cur e hg⟩
  rw [cell_of_row w g _ cur e (0, 0) hg, ← flat_at hf hi hj, ← ht, List.getElem?_take]
  have hm : m ≤ xs.length * m := Nat.le_mul_of_pos_left _ (by omega)
  have h5 : i * m + m ≤ xs.length * m := by rw [← Nat.succ_mul]; exact Nat.mul_le_mul_right _ (by omega)
  rw [if_pos (by omega)]
  simp
theorem OwnM.arr {a : Option Addr} {n c : Nat} (h : OwnM m f e w base (.slice a n c) xs) (hb : xs.length ≤ 140737488351232) : ArrM m f w w.heap.size a n xs := by
 obtain ⟨a', c', hv, _⟩ := h.form
 injection hv with h1 h2 h3
 subst h1 h2 h3
 refine ⟨rfl, hb, fun hn => ?_⟩
 obtain ⟨g, c', hv, _, _, hlt⟩ := h.form_some (by omega)
 injection hv with h1
 subst h1
 refine ⟨g, 0, rfl, hlt, fun i hi j u hu => ?_⟩
 have hj : j < m := by rw [← h.1 xs[i]]; exact (List.getElem?_eq_some_iff.1 hu).1
 rw [Nat.zero_add, (h.cellg hi hj).1, hu]
theorem OwnM.below {B : Nat} (h : OwnM m f e w base v xs) (hb : Below B w w') (hB : w.heap.size ≤ B) : OwnM m f e w' base v xs := by
 refine ⟨h.1, h.2.1, ?_⟩
 rcases h.2.2 with h2 | ⟨g, cap, cur, hv, hgb, hg, r⟩
 ·exact Or.inl h2
 ·refine Or.inr ⟨g, cap, cur, hv, hgb, ?_, r⟩
  have hlt : g < w.heap.size := by
   rcases Nat.lt_or_ge g w.heap.size with hlt | hge
   ·exact hlt
   ·rw [Array.getElem?_eq_none hge] at hg; cases hg
  exact (hb.block g (by omega)).trans hg
theorem OwnM.on (h : OwnM m f e w base v xs) (hb : Below w.heap.size w w') : OwnM m f e w' base v xs := h.below hb (Nat.le_refl _)
theorem OwnM.alloc (h : OwnM m f e w base v xs) (o : Obj) : OwnM m f e (w.alloc o) base v xs := h.on ((Below.refl _ _).alloc (Nat.le_refl _) o)
theorem OwnM.drew (h : OwnM m f e w base v xs) : OwnM m f e w.drew base v xs := h
theorem OwnM.grown {row : Option Nat} (h : OwnM m f e w base v xs) (hg : w.grownBy w' row) (hne : v.ownBlock = none ∨ v.ownBlock ≠ row) : OwnM m f e w' base v xs := ⟨h.1, World.ownsRow.kept h.2 hg hne⟩
theorem OwnM.mono {base' : Nat} (h : OwnM m f e w base v xs) (hb : base' ≤ base) : OwnM m f e w base' v xs := by
 refine ⟨h.1, h.2.1, ?_⟩
 rcases h.2.2 with h2 | ⟨g, cap, cur, hv, hgb, r⟩
 ·exact Or.inl h2
 ·exact Or.inr ⟨g, cap, cur, hv, by omega, r⟩
theorem OwnM.blockLt (h : OwnM m f e w base v xs) : ∀ k, v.ownBlock = some k → base ≤ k ∧ k < w.heap.size := World.ownsRow.lt h.2
theorem OwnM.far (h : OwnM m f e w base v xs) {p : Addr} (hp : v.ownBlock ≠ some p.block) (u : Value) : OwnM m f e (w.setCell p u) base v xs := by
 refine ⟨h.1, h.2.1, ?_⟩
 rcases h.2.2 with h2 | ⟨g, cap, cur, hv, hgb, hg, r⟩
 ·exact Or.inl h2
 ·refine Or.inr ⟨g, cap, cur, hv, hgb, ?_, r⟩
  rw [heap_setCell_other w p g u (fun e => hp (by rw [hv]; simp [Value.ownBlock, e]))]
  exact hg
theorem OwnM.set {g : Nat} {n c : Nat} (h : OwnM m f e w base (.slice (some ⟨g, 0, none⟩) n c) xs) {i j : Nat} (hi : i < xs.length) (hj : j < m) {u : Value} {y : α} (hy : f y = (f xs[i]).set j u) :
  OwnM m f e (w.setCell ⟨g, i * m + j, none⟩ u) base (.slice (some ⟨g, 0, none⟩) n c) (xs.set i y) := by
 obtain ⟨hf, hx⟩ := h
 refine ⟨hf, by rw [flat_len hf, List.length_set], ?_⟩
 rcases hx.2 with ⟨hv, _⟩ | ⟨g', cap, cur, hv, hgb, hg, hc, hm, hs, ht⟩
 ·cases hv
 ·injection hv with h1 h2 h3
  injection h1 with h1
  injection h1 with h1
  subst h1 h3
  refine Or.inr ⟨g, c, cur.setIfInBounds (i * m + j) u, by rw [h2, List.length_set], hgb, heap_setCell_same w g _ cur e u hg, by rw [List.length_set]; exact hc, hm, by simpa using hs, ?_⟩
  rw [Array.toList_setIfInBounds, List.length_set, List.take_set, ht, flat_set hf hi hj hy]
end

section
variable {P : Program} {α : Type} {sz : Nat} {f : α → List Value}
theorem run_append_OwnM (w : World) (base : Nat) (t ty e : TypeId) (i : TypeInfo) (z : Value) (bytes : Nat) (ht : P.underlying t = some (.slice e)) (hi : P.info? e = some i) (hz : i.zero = some z)
  (hsize : i.size = sz) (hby : i.bytes = bytes) (hzs : z.cells.size = sz) (hsz : 0 < sz) (hf : ∀ x, ∀ u ∈ f x, u.oneCell' = true)
  (v : Value) (xs : List α) (hown : OwnM sz f e w base v xs) (B : Nat) (a : Option Addr) (m c : Nat) (ys : List α) (hy : ArrM sz f w B a m ys)
  (hbytes : (xs.length + m) * bytes ≤ 140737488355328) (h63 : xs.length + m ≤ maxLen) (hbase : base ≤ w.heap.size) :
  ∃ v' w', (Builtin.append_ #[t, t] ty #[v, .slice a m c]).run P w = .ok v' w' ∧ OwnM sz f e w' base v' (xs ++ ys) ∧ w.grownBy w' v.ownBlock ∧ (v'.ownBlock = v.ownBlock ∨ v'.ownBlock = some w.heap.size) := by
 have hlen := hy.len
 obtain ⟨hfl, hown'⟩ := id hown
 by_cases hm : m = 0
 ·subst hm
  have hn : ys = [] := List.eq_nil_of_length_eq_zero hlen
  subst hn
  refine ⟨v, w, ?_, by simpa using hown, World.grownBy.refl w _, .inl rfl⟩
  rcases hown'.2 with ⟨rfl, hn⟩ | ⟨g, cap, cur, rfl, _, _, hnc, _⟩
  ·cases a <;> simp [Builtin.append_, run_underlying ht, sizeOf, typeInfo, hi, Builtin.lenOf, Builtin.firstCells, loadCells, loadCellsFrom]
  ·cases a <;> simp [Builtin.append_, run_underlying ht, sizeOf, typeInfo, hi, Builtin.lenOf, Builtin.firstCells, loadCells, loadCellsFrom, hnc, storeCells]
 ·obtain ⟨b, o, rfl, _, hc⟩ := hy.2.2 hm
  obtain ⟨v', w', hrun, h2, h3, _, h5⟩ := run_append_own_at (P := P) w base t ty e i z sz bytes ht hi hz hsize hby hzs hsz v xs.length (xs.flatMap f) hown' ⟨b, o, none⟩ m c (ys.flatMap f) (by rw [flat_len hfl, hlen])
   (fun j u hu => by
    have hjl : j < m * sz := by have := (List.getElem?_eq_some_iff.1 hu).1; rw [flat_len hfl, hlen] at this; exact this
    have hq : j / sz < ys.length := by rw [hlen]; exact (Nat.div_lt_iff_lt_mul hsz).2 hjl
    have hr : j % sz < sz := Nat.mod_lt _ hsz
    have hj : j / sz * sz + j % sz = j := by rw [Nat.mul_comm]; exact Nat.div_add_mod j sz
    rw [← hj, flat_at hfl hq hr] at hu
    rw [Addr.add_mid, ← hj, ← Nat.add_assoc]
    exact hc _ hq _ u hu)
   (fun u hu => by obtain ⟨x, _, hx⟩ := List.mem_flatMap.1 hu; exact hf x u hx) h63 hbytes hbase
  refine ⟨v', w', hrun, ⟨hfl, ?_⟩, h3, h5⟩
  rw [List.length_append, List.flatMap_append, hlen]
  exact h2
theorem wp_append_OwnM {w : World} {o : Oper} {ac : Act} {K : Act → World → Prop} {Q : Exit → Act → World → Prop} (s x : Operand) (t : TypeId)
  (ho : o.op = .call { callee := .builtin .append, args := #[s, x], argTypes := #[t, t] })
  (base : Nat) (e : TypeId) (i : TypeInfo) (z : Value) (bytes : Nat) (ht : P.underlying t = some (.slice e)) (hi : P.info? e = some i) (hz : i.zero = some z)
  (hsize : i.size = sz) (hby : i.bytes = bytes) (hzs : z.cells.size = sz) (hsz : 0 < sz) (hf : ∀ x, ∀ u ∈ f x, u.oneCell' = true)
  (v : Value) (xs : List α) (hs : ac.eval s = v) (hown : OwnM sz f e w base v xs) (B : Nat) (a : Option Addr) (m c : Nat) (ys : List α) (hx : ac.eval x = .slice a m c) (hy : ArrM sz f w B a m ys)
  (hbytes : (xs.length + m) * bytes ≤ 140737488355328) (h63 : xs.length + m ≤ maxLen) (hbase : base ≤ w.heap.size)
  (h : ∀ v' w', OwnM sz f e w' base v' (xs ++ ys) → w.grownBy w' v.ownBlock → (v'.ownBlock = v.ownBlock ∨ v'.ownBlock = some w.heap.size) → K (ac.put o.dst v') w') : o.wp P ac w K Q := by
 obtain ⟨v', w', hrun, h2, h3, h4⟩ := run_append_OwnM (P := P) w base t o.type e i z bytes ht hi hz hsize hby hzs hsz hf v xs hown B a m c ys hy hbytes h63 hbase
 unfold Oper.wp execOp
 simp only [ho, resolve, invoke, builtin, Sem.run_bind, Sem.run_pure, Result.andThen_ok, List.map_toArray, List.map_cons, List.map_nil, hs, hx, hrun]
 exact h v' w' h2 h3 h4
theorem wpList_append_OwnM {w : World} {ops : Array Oper} {rest : List Oper} {o : Oper} {ac : Act} {Q : Exit → Act → World → Prop} (hgd : o.guard = none) (s x : Operand) (t : TypeId)
  (ho : o.op = .call { callee := .builtin .append, args := #[s, x], argTypes := #[t, t] })
  (base : Nat) (e : TypeId) (i : TypeInfo) (z : Value) (bytes : Nat) (ht : P.underlying t = some (.slice e)) (hi : P.info? e = some i) (hz : i.zero = some z)
  (hsize : i.size = sz) (hby : i.bytes = bytes) (hzs : z.cells.size = sz) (hsz : 0 < sz) (hf : ∀ x, ∀ u ∈ f x, u.oneCell' = true)
  (v : Value) (xs : List α) (hs : ac.eval s = v) (hown : OwnM sz f e w base v xs) (B : Nat) (a : Option Addr) (m c : Nat) (ys : List α) (hx : ac.eval x = .slice a m c) (hy : ArrM sz f w B a m ys)
  (hbytes : (xs.length + m) * bytes ≤ 140737488355328) (h63 : xs.length + m ≤ maxLen) (hbase : base ≤ w.heap.size)
  (h : ∀ v' w', OwnM sz f e w' base v' (xs ++ ys) → w.grownBy w' v.ownBlock → (v'.ownBlock = v.ownBlock ∨ v'.ownBlock = some w.heap.size) → wpList P ops Q rest (ac.put o.dst v') w') : wpList P ops Q (o :: rest) ac w :=
 wpList_plain hgd fun _ hK => wp_append_OwnM s x t ho base e i z bytes ht hi hz hsize hby hzs hsz hf v xs hs hown B a m c ys hx hy hbytes h63 hbase fun v' w' h2 h3 h4 => hK _ _ (h v' w' h2 h3 h4)
end
theorem ArrM.lit1 {α : Type} {m : Nat} {f : α → List Value} (w : World) (e : TypeId) (x : α) {cs : Array Value} (hcs : cs = (f x).toArray) :
  ArrM m f (w.alloc (.cells cs e)) (w.alloc (.cells cs e)).heap.size (some ⟨w.heap.size, 0, none⟩) 1 [x] := by
 subst hcs
 refine ⟨rfl, by omega, fun _ => ⟨w.heap.size, 0, rfl, by simp, fun i hi j u hu => ?_⟩⟩
 obtain rfl : i = 0 := by simp at hi; omega
 rw [cell_of_row _ _ _ _ _ _ (heap_alloc_new w _), Nat.zero_mul, Nat.zero_add]
 have h2 : (f x)[j]? = some u := hu
 simpa using h2
theorem below_ownM {α : Type} {m : Nat} {f : α → List Value} {e : TypeId} {w0 w w' : World} {base : Nat} {v : Value} {xs : List α} (hb : Below base w0 w) (hown : OwnM m f e w base v xs) (hg : w.grownBy w' v.ownBlock) (hB : base ≤ w.heap.size) : Below base w0 w' :=
 hb.grown hg hB (fun k hk => (hown.blockLt k hk).1)
end Go.Proofs.YtcppkaphlcflgaaGreat
