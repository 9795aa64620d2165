/-
  Slices that a call makes for itself: rows that it owns, append onto them, and what they read as.
-/
import Derived.Test.YtiipnpfaaghekaaGreatBase
import Derived.Maps.AppendAt
import Derived.Deep.AppendLies
namespace Go.Proofs.YtiipnpfaaghekaaGreat
open Go.RowKit

/-- The slice value v is the call's own (its block is number base or later) and reads as the list xs. -/
def Own {α : Type} (f : α → Value) (e : TypeId) (w : World) (base : Nat) (v : Value) (xs : List α) : Prop := w.ownsRow base e 1 v xs.length (xs.map f)
section
variable {α : Type} {f : α → Value} {e : TypeId} {w w' : World} {base : Nat} {v : Value} {xs : List α}
theorem Own.nil (w : World) (base : Nat) : Own f e w base (.slice none 0 0) [] := World.ownsRow_nil w base e 1
theorem Own.form (h : Own f e w base v xs) : ∃ a c, v = .slice a xs.length c ∧ xs.length ≤ c := by
  rcases h.2 with ⟨hv, hn⟩ | ⟨g, cap, cur, hv, _, _, hc, _⟩
  · exact ⟨none, 0, by rw [hv, hn], by omega⟩
  · exact ⟨_, cap, hv, hc⟩
theorem Own.formN {n : Nat} (h : Own f e w base v xs) (hn : xs.length = n) : ∃ a c, v = .slice a n c ∧ n ≤ c := by
  subst hn; exact h.form
theorem Own.form_some (h : Own f e w base v xs) (hn : 0 < xs.length) : ∃ g c, v = .slice (some ⟨g, 0, none⟩) xs.length c ∧ xs.length ≤ c ∧ base ≤ g ∧ g < w.heap.size := by
  rcases h.2 with ⟨_, h0⟩ | ⟨g, cap, cur, hv, hgb, hg, hc, _⟩
  · omega
  · refine ⟨g, cap, hv, hc, hgb, ?_⟩
    rcases Nat.lt_or_ge g w.heap.size with hlt | hge
    · exact hlt
    · rw [Array.getElem?_eq_none hge] at hg; cases hg
theorem Own.arr {a : Option Addr} {n c : Nat} (h : Own f e w base (.slice a n c) xs) (hb : xs.length ≤ 140737488351232) : Arr f w w.heap.size a n xs := by
  rcases h.2 with ⟨hv, hn⟩ | ⟨g, cap, cur, hv, _, hg, hc, _, hs, ht⟩
  · injection hv with h1 h2 h3
    subst h2
    have : xs = [] := List.eq_nil_of_length_eq_zero hn
    subst this
    exact Arr.none_ _ _ _
  · injection hv with h1 h2 h3
    subst h1
    refine ⟨h2.symm, by omega, fun _ => ⟨g, 0, rfl, ?_, fun i hi => ?_⟩⟩
    · rcases Nat.lt_or_ge g w.heap.size with hlt | hge
      · exact hlt
      · rw [Array.getElem?_eq_none hge] at hg; cases hg
    · rw [cell_of_row w g (0 + i) cur e (0, 0) hg]
      have h5 : (xs.map f)[i]? = some (f xs[i]) := by rw [List.getElem?_map, List.getElem?_eq_getElem hi]; rfl
      rw [← ht, List.getElem?_take, if_pos (by omega)] at h5
      rw [Nat.zero_add, ← h5]
      simp
theorem Own.below {B : Nat} (h : Own f e w base v xs) (hb : Below B w w') (hB : w.heap.size ≤ B) : Own f e w' base v xs := by
  refine ⟨h.1, ?_⟩
  rcases h.2 with h2 | ⟨g, cap, cur, hv, hgb, hg, r⟩
  · exact Or.inl h2
  · refine Or.inr ⟨g, cap, cur, hv, hgb, ?_, r⟩
    have hlt : g < w.heap.size := by
      rcases Nat.lt_or_ge g w.heap.size with hlt | hge
      · exact hlt
      · rw [Array.getElem?_eq_none hge] at hg; cases hg
    exact (hb.block g (by omega)).trans hg
theorem Own.on (h : Own f e w base v xs) (hb : Below w.heap.size w w') : Own f e w' base v xs := h.below hb (Nat.le_refl _)
theorem Own.alloc (h : Own f e w base v xs) (o : Obj) : Own f e (w.alloc o) base v xs := h.on ((Below.refl _ _).alloc (Nat.le_refl _) o)
theorem Own.drew (h : Own f e w base v xs) : Own f e w.drew base v xs := h
theorem Own.grown {row : Option Nat} (h : Own f e w base v xs) (hg : w.grownBy w' row) (hne : v.ownBlock = none ∨ v.ownBlock ≠ row) : Own f e w' base v xs := World.ownsRow.kept h hg hne
theorem Own.mono {base' : Nat} (h : Own f e w base v xs) (hb : base' ≤ base) : Own f e w base' v xs := by
  refine ⟨h.1, ?_⟩
  rcases h.2 with h2 | ⟨g, cap, cur, hv, hgb, r⟩
  · exact Or.inl h2
  · exact Or.inr ⟨g, cap, cur, hv, by omega, r⟩
theorem Own.blockLt (h : Own f e w base v xs) : ∀ k, v.ownBlock = some k → base ≤ k ∧ k < w.heap.size := World.ownsRow.lt h
/-- A whole new block. -/
theorem Own.made (hbase : base ≤ w.heap.size) (hm : xs.length ≤ maxLen) : Own f e (w.alloc (.cells (xs.map f).toArray e)) base (.slice (some ⟨w.heap.size, 0, none⟩) xs.length xs.length) xs :=
  ⟨by simp, .inr ⟨w.heap.size, xs.length, _, rfl, hbase, heap_alloc_new w _, Nat.le_refl _, hm, by simp, by simp [List.take_of_length_le]⟩⟩
/-- The cells: read, not frozen, written. -/
theorem Own.cell {a : Addr} {n c : Nat} (h : Own f e w base (.slice (some a) n c) xs) {k : Nat} (hk : k < xs.length) :
    ∃ g, a = ⟨g, 0, none⟩ ∧ base ≤ g ∧ g < w.heap.size ∧ w.cell? ⟨g, k, none⟩ = some (f xs[k]) ∧ w.frozen? ⟨g, k, none⟩ = false := by
  rcases h.2 with ⟨hv, hn⟩ | ⟨g, cap, cur, hv, hgb, hg, hc, _, hs, ht⟩
  · cases hv
  · injection hv with h1 h2 h3
    injection h1 with h1
    refine ⟨g, h1, hgb, ?_, ?_, frozen_of_row w g k cur e hg⟩
    · rcases Nat.lt_or_ge g w.heap.size with hlt | hge
      · exact hlt
      · rw [Array.getElem?_eq_none hge] at hg; cases hg
    · rw [cell_of_row w g k cur e (0, 0) hg]
      have h5 : (xs.map f)[k]? = some (f xs[k]) := by rw [List.getElem?_map, List.getElem?_eq_getElem hk]; rfl
      rw [← ht, List.getElem?_take, if_pos (by omega)] at h5
      rw [← h5]; simp
theorem Own.addr {a : Option Addr} {n c : Nat} (h : Own f e w base (.slice a n c) xs) (hn : 0 < xs.length) : ∃ g, a = some ⟨g, 0, none⟩ ∧ base ≤ g ∧ g < w.heap.size := by
  obtain ⟨g, c', hv, _, h1, h2⟩ := h.form_some hn
  injection hv with h3
  exact ⟨g, h3, h1, h2⟩
theorem Own.cellg {g : Nat} {n c : Nat} (h : Own f e w base (.slice (some ⟨g, 0, none⟩) n c) xs) {k : Nat} (hk : k < xs.length) :
    w.cell? ⟨g, k, none⟩ = some (f xs[k]) ∧ w.frozen? ⟨g, k, none⟩ = false := by
  obtain ⟨g', h1, _, _, h2, h3⟩ := h.cell hk
  injection h1 with h1
  subst h1
  exact ⟨h2, h3⟩
theorem Own.set {g : Nat} {n c : Nat} (h : Own f e w base (.slice (some ⟨g, 0, none⟩) n c) xs) (k : Nat) (x : α) :
    Own f e (w.setCell ⟨g, k, none⟩ (f x)) base (.slice (some ⟨g, 0, none⟩) n c) (xs.set k x) := by
  refine ⟨by simp, ?_⟩
  rcases h.2 with ⟨hv, hn⟩ | ⟨g', cap, cur, hv, hgb, hg, hc, hm, hs, ht⟩
  · cases hv
  · injection hv with h1 h2 h3
    injection h1 with h1
    injection h1 with h1
    subst h1 h3
    refine Or.inr ⟨g, c, cur.setIfInBounds k (f x), by rw [h2, List.length_set], hgb, heap_setCell_same w g k cur e (f x) hg, by rw [List.length_set]; exact hc, hm, by simpa using hs, ?_⟩
    rw [Array.toList_setIfInBounds, List.length_set, List.take_set, ht, List.map_set]
theorem Own.far (h : Own f e w base v xs) {p : Addr} (hp : v.ownBlock ≠ some p.block) (u : Value) : Own f e (w.setCell p u) base v xs := by
  refine ⟨h.1, ?_⟩
  rcases h.2 with h2 | ⟨g, cap, cur, hv, hgb, hg, r⟩
  · exact Or.inl h2
  · refine Or.inr ⟨g, cap, cur, hv, hgb, ?_, r⟩
    rw [heap_setCell_other w p g u (fun e => hp (by rw [hv]; simp [Value.ownBlock, e]))]
    exact hg
end

section
variable {P : Program} {α : Type} {f : α → Value}
theorem run_append_Own (w : World) (base : Nat) (t ty e : TypeId) (i : TypeInfo) (z : Value) (bytes : Nat) (ht : P.underlying t = some (.slice e)) (hi : P.info? e = some i) (hz : i.zero = some z)
    (hsize : i.size = 1) (hby : i.bytes = bytes) (hzs : z.cells.size = 1) (hf : ∀ x, (f x).oneCell' = true)
    (v : Value) (xs : List α) (hown : Own f e w base v xs) (B : Nat) (a : Option Addr) (m c : Nat) (ys : List α) (hy : Arr f w B a m ys)
    (hbytes : (xs.length + m) * bytes ≤ 140737488355328) (h63 : xs.length + m ≤ maxLen) (hbase : base ≤ w.heap.size) :
    ∃ v' w', (Builtin.append_ #[t, t] ty #[v, .slice a m c]).run P w = .ok v' w' ∧ Own f e w' base v' (xs ++ ys) ∧ w.grownBy w' v.ownBlock ∧ (v'.ownBlock = v.ownBlock ∨ v'.ownBlock = some w.heap.size) := by
  have hlen := hy.len
  by_cases hm : m = 0
  · subst hm
    have hn : ys = [] := List.eq_nil_of_length_eq_zero hlen
    subst hn
    refine ⟨v, w, ?_, by simpa using hown, World.grownBy.refl w _, .inl rfl⟩
    rcases hown.2 with ⟨rfl, hn⟩ | ⟨g, cap, cur, rfl, _, _, hnc, _⟩
    · cases a <;> simp [Builtin.append_, run_underlying ht, sizeOf, typeInfo, hi, Builtin.lenOf, Builtin.firstCells, loadCells, loadCellsFrom]
    · cases a <;> simp [Builtin.append_, run_underlying ht, sizeOf, typeInfo, hi, Builtin.lenOf, Builtin.firstCells, loadCells, loadCellsFrom, hnc, storeCells]
  · obtain ⟨b, o, rfl, _, hc⟩ := hy.2.2 hm
    obtain ⟨v', w', hrun, h2, h3, _, h5⟩ := run_append_own_at (P := P) w base t ty e i z 1 bytes ht hi hz hsize hby hzs (by omega) v xs.length (xs.map f) hown ⟨b, o, none⟩ m c (ys.map f) (by simp [hlen])
      (fun j u hu => by
        rw [List.getElem?_map] at hu
        cases hj : ys[j]? with
        | none => rw [hj] at hu; cases hu
        | some y =>
          rw [hj] at hu
          injection hu with hu
          subst hu
          obtain ⟨hjl, hje⟩ := List.getElem?_eq_some_iff.1 hj
          rw [Addr.add_mid, hc j hjl, hje])
      (fun u hu => by obtain ⟨x, _, rfl⟩ := List.mem_map.1 hu; exact hf x) h63 hbytes hbase
    refine ⟨v', w', hrun, ?_, h3, h5⟩
    unfold Own
    rw [List.length_append, List.map_append, hlen]
    exact h2
theorem wp_append_Own {w : World} {o : Oper} {ac : Act} {K : Act → World → Prop} {Q : Exit → Act → World → Prop} (s x : Operand) (t : TypeId)
    (ho : o.op = .call { callee := .builtin .append, args := #[s, x], argTypes := #[t, t] })
    (base : Nat) (e : TypeId) (i : TypeInfo) (z : Value) (bytes : Nat) (ht : P.underlying t = some (.slice e)) (hi : P.info? e = some i) (hz : i.zero = some z)
    (hsize : i.size = 1) (hby : i.bytes = bytes) (hzs : z.cells.size = 1) (hf : ∀ x, (f x).oneCell' = true)
    (v : Value) (xs : List α) (hs : ac.eval s = v) (hown : Own f e w base v xs) (B : Nat) (a : Option Addr) (m c : Nat) (ys : List α) (hx : ac.eval x = .slice a m c) (hy : Arr f w B a m ys)
    (hbytes : (xs.length + m) * bytes ≤ 140737488355328) (h63 : xs.length + m ≤ maxLen) (hbase : base ≤ w.heap.size)
    (h : ∀ v' w', Own f e w' base v' (xs ++ ys) → w.grownBy w' v.ownBlock → (v'.ownBlock = v.ownBlock ∨ v'.ownBlock = some w.heap.size) → K (ac.put o.dst v') w') : o.wp P ac w K Q := by
  obtain ⟨v', w', hrun, h2, h3, h4⟩ := run_append_Own (P := P) w base t o.type e i z bytes ht hi hz hsize hby hzs hf v xs hown B a m c ys hy hbytes h63 hbase
  unfold Oper.wp execOp
  simp only [ho, resolve, invoke, builtin, Sem.run_bind, Sem.run_pure, Result.andThen_ok, List.map_toArray, List.map_cons, List.map_nil, hs, hx, hrun]
  exact h v' w' h2 h3 h4
/-- append at the list of a plain region's operations. -/
theorem wpList_append_Own {w : World} {ops : Array Oper} {rest : List Oper} {o : Oper} {ac : Act} {Q : Exit → Act → World → Prop} (hgd : o.guard = none) (s x : Operand) (t : TypeId)
    (ho : o.op = .call { callee := .builtin .append, args := #[s, x], argTypes := #[t, t] })
    (base : Nat) (e : TypeId) (i : TypeInfo) (z : Value) (bytes : Nat) (ht : P.underlying t = some (.slice e)) (hi : P.info? e = some i) (hz : i.zero = some z)
    (hsize : i.size = 1) (hby : i.bytes = bytes) (hzs : z.cells.size = 1) (hf : ∀ x, (f x).oneCell' = true)
    (v : Value) (xs : List α) (hs : ac.eval s = v) (hown : Own f e w base v xs) (B : Nat) (a : Option Addr) (m c : Nat) (ys : List α) (hx : ac.eval x = .slice a m c) (hy : Arr f w B a m ys)
    (hbytes : (xs.length + m) * bytes ≤ 140737488355328) (h63 : xs.length + m ≤ maxLen) (hbase : base ≤ w.heap.size)
    (h : ∀ v' w', Own f e w' base v' (xs ++ ys) → w.grownBy w' v.ownBlock → (v'.ownBlock = v.ownBlock ∨ v'.ownBlock = some w.heap.size) → wpList P ops Q rest (ac.put o.dst v') w') : wpList P ops Q (o :: rest) ac w :=
  wpList_plain hgd fun _ hK => wp_append_Own s x t ho base e i z bytes ht hi hz hsize hby hzs hf v xs hs hown B a m c ys hx hy hbytes h63 hbase fun v' w' h2 h3 h4 => hK _ _ (h v' w' h2 h3 h4)
end
theorem Own.made_at {α : Type} {f : α → Value} {e : TypeId} {w : World} {base g n : Nat} {xs : List α} (hg : g = w.heap.size) (hn : xs.length = n) (hbase : base ≤ w.heap.size) (hm : n ≤ maxLen) :
    Own f e (w.alloc (.cells (xs.map f).toArray e)) base (.slice (some ⟨g, 0, none⟩) n n) xs := by
  subst hg hn
  exact Own.made hbase hm
theorem byteV_one (x : UInt8) : (byteV x).oneCell' = true := rfl
theorem intV_one (x : Int) : (intV x).oneCell' = true := rfl
/-- A block that has just been laid reads as what it was laid with. -/
theorem Arr.lit {α : Type} {f : α → Value} (w : World) (e : TypeId) (xs : List α) (n : Nat) (hn : xs.length = n) (hb : n ≤ 140737488351232) {cs : Array Value} (hcs : cs = (xs.map f).toArray) :
    Arr f (w.alloc (.cells cs e)) (w.alloc (.cells cs e)).heap.size (some ⟨w.heap.size, 0, none⟩) n xs := by
  subst hcs
  refine ⟨hn, hb, fun _ => ⟨w.heap.size, 0, rfl, by simp, fun i hi => ?_⟩⟩
  rw [cell_of_row _ _ _ _ _ _ (heap_alloc_new w _), Nat.zero_add]
  simp [hi]

/-! Cuts of a slice whose elements take one cell each. -/
def cutA (a : Option Addr) (c l : Nat) : Option Addr := if c = l then a else a.map (·.add l)
theorem Arr.drop {α : Type} {f : α → Value} {w : World} {B : Nat} {a : Option Addr} {n c : Nat} {xs : List α} (h : Arr f w B a n xs) {l : Nat} (hl : l ≤ n) (hc : n ≤ c) : Arr f w B (cutA a c l) (n - l) (xs.drop l) := by
  obtain ⟨h1, h2, h3⟩ := h
  refine ⟨by rw [List.length_drop]; omega, by omega, fun hn => ?_⟩
  obtain ⟨b, o, ha, hlt, hcell⟩ := h3 (by omega)
  refine ⟨b, o + l, ?_, hlt, fun i hi => ?_⟩
  · rw [cutA, if_neg (by omega), ha]
    exact congrArg some (Addr.add_mid b o l)
  · rw [List.length_drop] at hi
    rw [List.getElem_drop, Nat.add_assoc]
    exact hcell (l + i) (by omega)
section
variable {P : Program} {t e : TypeId} {i : TypeInfo}
theorem run_cut_from (ht : P.underlying t = some (.slice e)) (hi : P.info? e = some i) (hs : i.size = 1) (a : Option Addr) (n c l : Nat) (hl : l ≤ n) (w : World) :
    (Instr.slice t (.slice a n c) (some (.int .i64 (l : Int))) none none).run P w = .ok (.slice (cutA a c l) (n - l) (c - l)) w := by
  have h0 : (0 : Int) ≤ (l : Int) := by omega
  have h1 : (l : Int) ≤ ((n : Nat) : Int) := by omega
  simp [Instr.slice, run_underlying ht, sizeOf, typeInfo, hi, hs, Instr.sliceBounds, go_sem, h0, h1, cutA]
theorem run_cut_to (ht : P.underlying t = some (.slice e)) (hi : P.info? e = some i) (a : Option Addr) (n c h : Nat) (hl : h ≤ c) (w : World) :
    (Instr.slice t (.slice a n c) none (some (.int .i64 (h : Int))) none).run P w = .ok (.slice a h c) w := by
  have h0 : (0 : Int) ≤ (h : Int) := by omega
  have h1 : (h : Int) ≤ ((c : Nat) : Int) := by omega
  simp [Instr.slice, run_underlying ht, sizeOf, typeInfo, hi, Instr.sliceBounds, go_sem, h0, h1]
theorem run_cut_mid (ht : P.underlying t = some (.slice e)) (hi : P.info? e = some i) (hs : i.size = 1) (a : Option Addr) (n c l h : Nat) (hl : l ≤ h) (hh : h ≤ c) (w : World) :
    (Instr.slice t (.slice a n c) (some (.int .i64 (l : Int))) (some (.int .i64 (h : Int))) none).run P w = .ok (.slice (cutA a c l) (h - l) (c - l)) w := by
  have h0 : (0 : Int) ≤ (l : Int) := by omega
  have h2 : (h : Int) ≤ ((c : Nat) : Int) := by omega
  have h3 : (0 : Int) ≤ (h : Int) := by omega
  simp [Instr.slice, run_underlying ht, sizeOf, typeInfo, hi, hs, Instr.sliceBounds, go_sem, h0, h2, h3, hl, cutA]
end
/-- What a step onto an owned row leaves of old blocks. -/
theorem below_own {α : Type} {f : α → Value} {e : TypeId} {w0 w w' : World} {base : Nat} {v : Value} {xs : List α} (hb : Below base w0 w) (hown : Own f e w base v xs) (hg : w.grownBy w' v.ownBlock) (hB : base ≤ w.heap.size) : Below base w0 w' :=
  hb.grown hg hB (fun k hk => (hown.blockLt k hk).1)
end Go.Proofs.YtiipnpfaaghekaaGreat
