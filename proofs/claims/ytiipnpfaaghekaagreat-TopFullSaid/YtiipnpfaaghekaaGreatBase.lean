/-
  Plain lemmas on fixed-width integers in the walk's own spelling. No program in sight.
-/
import Derived.WalkKit
import Derived.WalkSpells
import Derived.Lib.Hide
import Derived.Deep.MidRow
import Derived.Deep.Draws
import Derived.Deep.RegionHeld3
namespace Go.Proofs.YtiipnpfaaghekaaGreat
open Go.RowKit

theorem bv_ofInt_toNat {n : Nat} (x : BitVec n) : BitVec.ofInt n (x.toNat : Int) = x := by
  rw [BitVec.ofInt_natCast, BitVec.ofNat_toNat, BitVec.setWidth_eq]

/-- A 32-bit word as the model holds it. -/
theorem bits_xor_u32 (x y : BitVec 32) : bits .xor .u32 (x.toNat : Int) (y.toNat : Int) = ((x ^^^ y).toNat : Int) := by
  show IntKind.u32.wrap ((BitVec.ofInt 32 (x.toNat : Int) ^^^ BitVec.ofInt 32 (y.toNat : Int)).toNat : Int) = _
  rw [bv_ofInt_toNat, bv_ofInt_toNat, IntKind.wrap_u32']
  have := (x ^^^ y).isLt
  omega
theorem bits_and_u32 (x y : BitVec 32) : bits .and .u32 (x.toNat : Int) (y.toNat : Int) = ((x &&& y).toNat : Int) := by
  show IntKind.u32.wrap ((BitVec.ofInt 32 (x.toNat : Int) &&& BitVec.ofInt 32 (y.toNat : Int)).toNat : Int) = _
  rw [bv_ofInt_toNat, bv_ofInt_toNat, IntKind.wrap_u32']
  have := (x &&& y).isLt
  omega
theorem bits_or_u32 (x y : BitVec 32) : bits .or .u32 (x.toNat : Int) (y.toNat : Int) = ((x ||| y).toNat : Int) := by
  show IntKind.u32.wrap ((BitVec.ofInt 32 (x.toNat : Int) ||| BitVec.ofInt 32 (y.toNat : Int)).toNat : Int) = _
  rw [bv_ofInt_toNat, bv_ofInt_toNat, IntKind.wrap_u32']
  have := (x ||| y).isLt
  omega
theorem shr_u32 (x : BitVec 32) (n : Nat) : (x.toNat : Int) / (2 ^ n : Nat) = ((x >>> n).toNat : Int) := by
  rw [BitVec.toNat_ushiftRight, Nat.shiftRight_eq_div_pow, Int.natCast_ediv]
theorem shr1_u32 (x : BitVec 32) : (x.toNat : Int) / (2 : Int) = ((x >>> 1).toNat : Int) := shr_u32 x 1
theorem byte_u32 (b : UInt8) : (b.toNat : Int) = ((b.toBitVec.setWidth 32).toNat : Int) := by
  have := b.toBitVec.isLt
  rw [BitVec.toNat_setWidth]
  show ((b.toBitVec.toNat : Nat) : Int) = _
  omega
theorem notx_u32 (x : BitVec 32) : bits .xor .u32 IntKind.u32.max (x.toNat : Int) = ((~~~x).toNat : Int) := by
  have e : IntKind.u32.max = ((BitVec.allOnes 32).toNat : Int) := by decide
  rw [e, bits_xor_u32, BitVec.allOnes_xor]
theorem not_u32 (x : BitVec 32) : 4294967295 - (x.toNat : Int) = ((~~~x).toNat : Int) := by
  have := x.isLt
  rw [BitVec.toNat_not]; omega

theorem ofInt_i64 (a : Nat) (ha : a < 9223372036854775808) : (BitVec.ofInt 64 (a : Int)).toNat = a := by
  rw [BitVec.ofInt_natCast, BitVec.toNat_ofNat]; exact Nat.mod_eq_of_lt (by omega)
theorem i64_and_nat (a b : Nat) (ha : a < 9223372036854775808) (hb : b < 9223372036854775808) : bits .and .i64 (a : Int) (b : Int) = ((a &&& b : Nat) : Int) := by
  have hx : a &&& b < 2 ^ 63 := Nat.and_lt_two_pow _ (by omega)
  show IntKind.i64.wrap ((BitVec.ofInt 64 (a : Int) &&& BitVec.ofInt 64 (b : Int)).toNat : Int) = _
  rw [BitVec.toNat_and, ofInt_i64 a ha, ofInt_i64 b hb, IntKind.wrap_i64]
  omega
theorem i64_odd (m : Nat) (hm : m < 9223372036854775808) : bits .and .i64 (m : Int) 1 = ((m % 2 : Nat) : Int) := by
  have h := i64_and_nat m 1 hm (by omega)
  rw [Nat.and_one_is_mod] at h
  exact h

/-- What a first call has left, and then a second one. -/
theorem _root_.Go.RowKit.Below.then_ {w w1 w2 : World} (h : Below w.heap.size w w1) (k : Below w1.heap.size w1 w2) : Below w.heap.size w w2 := h.trans (k.mono h.size)

/-- A slice value (address a, length n) whose elements take one cell each reads as the list xs (an element x stands as f x) in the world w; its block lies below B. -/
def Arr {α : Type} (f : α → Value) (w : World) (B : Nat) (a : Option Addr) (n : Nat) (xs : List α) : Prop :=
  xs.length = n ∧ n ≤ 140737488351232 ∧ (n ≠ 0 → ∃ b o, a = some ⟨b, o, none⟩ ∧ b < B ∧ ∀ i (h : i < xs.length), w.cell? ⟨b, o + i, none⟩ = some (f xs[i]))
def byteV (x : UInt8) : Value := .int .u8 (x.toNat : Int)
def intV (x : Int) : Value := .int .i64 x
theorem byteV_eq (x : UInt8) : byteV x = .int .u8 (x.toNat : Int) := rfl
theorem intV_eq (x : Int) : intV x = .int .i64 x := rfl
attribute [go_sem] byteV_eq intV_eq
abbrev Bytes := Arr byteV
section
variable {α : Type} {f : α → Value} {w w' : World} {B B' : Nat} {a : Option Addr} {n : Nat} {xs : List α}
theorem Arr.len (h : Arr f w B a n xs) : xs.length = n := h.1
theorem Arr.room (h : Arr f w B a n xs) : n ≤ 140737488351232 := h.2.1
theorem Arr.atv (h : Arr f w B a n xs) {k : Nat} (hk : k < n) :
    ∃ b o, ∃ h' : k < xs.length, a = some ⟨b, o, none⟩ ∧ b < B ∧ w.cell? ⟨b, o + k, none⟩ = some (f xs[k]) := by
  obtain ⟨h1, _, h3⟩ := h
  obtain ⟨b, o, ha, hb, hc⟩ := h3 (by omega)
  exact ⟨b, o, by omega, ha, hb, hc k (by omega)⟩
theorem Arr.keep (h : Arr f w B a n xs) (hk : ∀ b o, b < B → w'.cell? ⟨b, o, none⟩ = w.cell? ⟨b, o, none⟩) : Arr f w' B a n xs := by
  obtain ⟨h1, h2, h3⟩ := h
  refine ⟨h1, h2, fun hn => ?_⟩
  obtain ⟨b, o, ha, hlt, hc⟩ := h3 hn
  exact ⟨b, o, ha, hlt, fun i hi => (hk b (o + i) hlt).trans (hc i hi)⟩
theorem Arr.below (h : Arr f w B a n xs) (hb : Below B w w') : Arr f w' B a n xs := h.keep fun b o hlt => hb.cell (p := ⟨b, o, none⟩) hlt
theorem Arr.mono (h : Arr f w B a n xs) (hB : B ≤ B') : Arr f w B' a n xs := by
  obtain ⟨h1, h2, h3⟩ := h
  refine ⟨h1, h2, fun hn => ?_⟩
  obtain ⟨b, o, ha, hlt, hc⟩ := h3 hn
  exact ⟨b, o, ha, by omega, hc⟩
/-- The world has gone on; old blocks are as they were. -/
theorem Arr.on (h : Arr f w w.heap.size a n xs) (hb : Below w.heap.size w w') : Arr f w' w'.heap.size a n xs := (h.below hb).mono hb.size
theorem Arr.none_ (w : World) (B : Nat) (a : Option Addr) : Arr f w B a 0 [] := ⟨rfl, by omega, fun h => absurd rfl h⟩
theorem Arr.alloc (h : Arr f w w.heap.size a n xs) (o : Obj) : Arr f (w.alloc o) (w.alloc o).heap.size a n xs := h.on ((Below.refl _ _).alloc (Nat.le_refl _) o)
/-- The first k elements. -/
theorem Arr.take (h : Arr f w B a n xs) {k : Nat} (hk : k ≤ n) : Arr f w B a k (xs.take k) := by
  obtain ⟨h1, h2, h3⟩ := h
  refine ⟨by rw [List.length_take]; omega, by omega, fun hn => ?_⟩
  obtain ⟨b, o, ha, hlt, hc⟩ := h3 (by omega)
  refine ⟨b, o, ha, hlt, fun i hi => ?_⟩
  rw [List.length_take] at hi
  rw [List.getElem_take]
  exact hc i (by omega)
end
theorem Arr.at_ {w : World} {B : Nat} {a : Option Addr} {n : Nat} {xs : List UInt8} (h : Bytes w B a n xs) {k : Nat} (hk : k < n) :
    ∃ b o, ∃ h' : k < xs.length, a = some ⟨b, o, none⟩ ∧ b < B ∧ w.cell? ⟨b, o + k, none⟩ = some (.int .u8 (xs[k].toNat : Int)) := h.atv hk

/-- Block g holds just the cells cs of element type t, none of them frozen. -/
def Blk (w : World) (g : Nat) (t : TypeId) (cs : Array Value) : Prop := w.heap[g]? = some (.cells cs t (0, 0))
section
variable {w w' : World} {g : Nat} {t : TypeId} {cs : Array Value}
theorem Blk.lt (h : Blk w g t cs) : g < w.heap.size := by
  rcases Nat.lt_or_ge g w.heap.size with hlt | hge
  · exact hlt
  · unfold Blk at h; rw [Array.getElem?_eq_none hge] at h; cases h
theorem Blk.cell (h : Blk w g t cs) (i : Nat) : w.cell? ⟨g, i, none⟩ = cs[i]? := cell_of_row w g i cs t (0, 0) h
theorem Blk.cellv (h : Blk w g t cs) {i : Nat} {v : Value} (hv : cs[i]? = some v) : w.cell? ⟨g, i, none⟩ = some v := (h.cell i).trans hv
theorem Blk.frozen (h : Blk w g t cs) (i : Nat) : w.frozen? ⟨g, i, none⟩ = false := frozen_of_row w g i cs t h
theorem Blk.new (w : World) (t : TypeId) (cs : Array Value) : Blk (w.alloc (.cells cs t)) w.heap.size t cs := heap_alloc_new w _
theorem Blk.drew (h : Blk w g t cs) : Blk w.drew g t cs := h
theorem Blk.drewN (h : Blk w g t cs) (n : Nat) : Blk (w.drewN n) g t cs := h
theorem Blk.alloc (h : Blk w g t cs) (o : Obj) : Blk (w.alloc o) g t cs := (Below.heap_alloc w o g h.lt).trans h
theorem Blk.set (h : Blk w g t cs) (i : Nat) (u : Value) : Blk (w.setCell ⟨g, i, none⟩ u) g t (cs.setIfInBounds i u) := heap_setCell_same w g i cs t u h
theorem Blk.far (h : Blk w g t cs) {p : Addr} (hp : g ≠ p.block) (u : Value) : Blk (w.setCell p u) g t cs := (heap_setCell_other w p g u hp).trans h
theorem Blk.below {B : Nat} (h : Blk w g t cs) (hb : Below B w w') (hg : g < B) : Blk w' g t cs := (hb.block g hg).trans h
theorem Blk.belowHere (h : Blk w g t cs) (hb : Below w.heap.size w w') : Blk w' g t cs := h.below hb h.lt
theorem Blk.grown {row : Option Nat} (h : Blk w g t cs) (hb : w.grownBy w' row) (hg : some g ≠ row) : Blk w' g t cs := (hb.block g h.lt hg).trans h
theorem Blk.row (h : Blk w g t cs) (cs' : Array Value) : Blk (w.setRow g cs') g t cs' := setRow_heap w g cs cs' t _ h
theorem Blk.rowFar (h : Blk w g t cs) {g' : Nat} (hne : g ≠ g') (cs' : Array Value) : Blk (w.setRow g' cs') g t cs := (setRow_other w g' g cs' hne).trans h
theorem _root_.Go.RowKit.Below.setRow_ {B : Nat} {a w : World} (h : Below B a w) {g : Nat} (hg : B ≤ g) (cs : Array Value) : Below B a (w.setRow g cs) :=
  h.trans ⟨rfl, rfl, rfl, by simp, fun k hk => setRow_other _ _ _ _ (by omega)⟩
end
theorem rangeAt_of_blk {w : World} {g : Nat} {t : TypeId} {cs : Array Value} (h : Blk w g t cs) : w.rangeAt g 0 cs.toList := fun j v hv => by
  rw [Nat.zero_add, h.cell j]
  simpa using hv
theorem there_of_blk {w : World} {g : Nat} {t : TypeId} {cs : Array Value} (h : Blk w g t cs) {n : Nat} (hn : n = cs.size) : w.there g 0 n := fun j hj => by
  rw [Nat.zero_add, h.cell j, h.frozen j]
  subst hn
  simp [hj]
theorem block_lt_isSome {w : World} {p : Addr} (h : (w.cell? p).isSome = true) : p.block < w.heap.size := by
  obtain ⟨v, hv⟩ := Option.isSome_iff_exists.1 h
  exact block_lt_of_cell hv
theorem rangeAt_below {w w' : World} {g o : Nat} {cs : List Value} (h : w.rangeAt g o cs) (hb : Below w.heap.size w w') : w'.rangeAt g o cs := fun j v hv => by
  have h1 := h j v hv
  have h2 := block_lt_of_cell h1
  exact (hb.cell (p := ⟨g, o + j, none⟩) h2).trans h1
theorem there_below {w w' : World} {g o n : Nat} (h : w.there g o n) (hb : Below w.heap.size w w') : w'.there g o n := fun j hj => by
  obtain ⟨h1, h2⟩ := h j hj
  have h3 := block_lt_isSome h1
  exact ⟨by rw [hb.cell (p := ⟨g, o + j, none⟩) h3]; exact h1, by rw [hb.frozen (p := ⟨g, o + j, none⟩) h3]; exact h2⟩
theorem below_setCells {B : Nat} {a : World} {g : Nat} (hg : B ≤ g) : ∀ (vs : List Value) (o : Nat) (w : World), Below B a w → Below B a (w.setCells g o vs)
  | [], _, _, h => h
  | v :: vs, o, w, h => below_setCells hg vs (o + 1) (w.setCell ⟨g, o, none⟩ v) (h.setCell (p := ⟨g, o, none⟩) hg v)
theorem cell_setCells_far {g b k : Nat} (hne : b ≠ g) (vs : List Value) (o : Nat) (w : World) : (w.setCells g o vs).cell? ⟨b, k, none⟩ = w.cell? ⟨b, k, none⟩ :=
  World.cell?_setCells_out g vs o w ⟨b, k, none⟩ (fun e => absurd e hne)
theorem size_setCells (g : Nat) : ∀ (vs : List Value) (o : Nat) (w : World), (w.setCells g o vs).heap.size = w.heap.size
  | [], _, _ => rfl
  | v :: vs, o, w => by
    show ((w.setCell ⟨g, o, none⟩ v).setCells g (o + 1) vs).heap.size = _
    rw [size_setCells g vs (o + 1)]; simp
/-- A store in another block. -/
theorem Arr.farC {α : Type} {f : α → Value} {w : World} {B n b o : Nat} {xs : List α} (h : Arr f w B (some ⟨b, o, none⟩) n xs) {p : Addr} (hne : b ≠ p.block) (u : Value) : Arr f (w.setCell p u) B (some ⟨b, o, none⟩) n xs := by
  obtain ⟨h1, h2, h3⟩ := h
  refine ⟨h1, h2, fun hn => ?_⟩
  obtain ⟨b', o', ha, hlt, hc⟩ := h3 hn
  simp only [Option.some.injEq, Addr.mk.injEq, and_true] at ha
  obtain ⟨rfl, rfl⟩ := ha
  exact ⟨b, o, rfl, hlt, fun i hi => (World.cell?_setCell_far w p ⟨b, o + i, none⟩ u (Ne.symm hne)).trans (hc i hi)⟩
theorem Arr.setCells {α : Type} {f : α → Value} {w : World} {B : Nat} {a : Option Addr} {n : Nat} {xs : List α} (h : Arr f w B a n xs) {g : Nat} (hne : ∀ b o, a = some ⟨b, o, none⟩ → b ≠ g) (o : Nat) (vs : List Value) : Arr f (w.setCells g o vs) B a n xs := by
  obtain ⟨h1, h2, h3⟩ := h
  refine ⟨h1, h2, fun hn => ?_⟩
  obtain ⟨b, o', ha, hlt, hc⟩ := h3 hn
  exact ⟨b, o', ha, hlt, fun i hi => (cell_setCells_far (hne b o' ha) vs o w).trans (hc i hi)⟩
theorem wpList_load_blk {P : Program} {ops : Array Oper} {rest : List Oper} {o : Oper} {a : Act} {w : World} {Q : Exit → Act → World → Prop} (hgd : o.guard = none) (ty : TypeId) (x : Operand) (ho : o.op = .load ty x)
    (g : Nat) (hx : a.eval x = .pointer (some ⟨g, 0, none⟩)) (t : TypeId) (cs : Array Value) (d : TypeDesc) (hg : Blk w g t cs)
    (hu : P.underlying ty = some d) (hd : (match d with | .struct _ | .array _ _ => true | _ => false) = true) (hi : (P.info? ty).map (·.size) = some cs.size)
    (h : wpList P ops Q rest (a.put o.dst (.agg cs)) w) : wpList P ops Q (o :: rest) a w :=
  wpList_load_row hgd ty x ho g hx t cs _ d hg hu hd hi h
theorem wpList_store_blk {P : Program} {ops : Array Oper} {rest : List Oper} {o : Oper} {a : Act} {w : World} {Q : Exit → Act → World → Prop} (hgd : o.guard = none) (hdst : o.dst = none) (ty : TypeId) (x y : Operand) (ho : o.op = .store ty x y)
    (g : Nat) (cs' : Array Value) (hx : a.eval x = .pointer (some ⟨g, 0, none⟩)) (hy : a.eval y = .agg cs') (t : TypeId) (cs : Array Value) (hg : Blk w g t cs) (hs : cs.size = cs'.size)
    (hi : (P.info? ty).map (·.size) = some cs'.size) (h1 : cs'.all (·.oneCell') = true)
    (h : wpList P ops Q rest a (w.setRow g cs')) : wpList P ops Q (o :: rest) a w :=
  wpList_store_row hgd ty x y ho g cs' hx hy t cs hg hi hs h1 (by rw [hdst]; exact h)
/-- The frame laid out behind a take. -/
theorem layR : (∀ (ts : Array Value) (ds : List Deferred) (i : Tmp) (v : Value), Act.put ⟨ts, ds⟩ (some i) v = ⟨ts.setIfInBounds i v, ds⟩) ∧ (∀ (a : Act) (v : Value), Act.put a none v = a) ∧ (∀ (xs : List Value) (i : Nat) (x : Value), xs.toArray.setIfInBounds i x = (xs.set i x).toArray) ∧
    (∀ (x y : Value) (xs : List Value), (x :: xs).set 0 y = y :: xs) ∧ (∀ (x y : Value) (xs : List Value) (n : Nat), (x :: xs).set (n + 1) y = x :: xs.set n y) :=
  ⟨fun _ _ _ _ => rfl, fun _ _ => rfl, fun _ _ _ => by simp, fun _ _ _ => rfl, fun _ _ _ _ => rfl⟩
/-! Steps of a region that draws its order, taken by hand: an operation that yields in every world that meets S; one whose guard says no. -/
section
variable {P : Program} {md : Region.Mode} {ops : Array Oper} {Q : Exit → Act → World → Prop} {S : World → Prop} {oi : Oper} {v : Value} {fuel : Nat} {listed : Array Bool} {a : Act} {w : World}
theorem takeV (i : Nat) (hi : ops.toList[i]? = some oi) (hs : Region.noSelect ops = true) (hf : Region.free md ops listed i = true) (hr : (Region.ready md ops listed).contains i = true)
    (hQ : ∀ c a w, Q (.panic c) (a.put oi.dst v) w → Q (.panic c) a w) (hw : Region.wanted oi (yielded ops a.tmps) = true) (hv : ∀ w, S w → (execOp a.eval oi).run P w = .ok (.value v) w) (hS : S w)
    (h : wpAnyH P md ops Q S fuel (listed.setIfInBounds i true) (a.put oi.dst v) w) : wpAnyH P md ops Q S (fuel + 1) listed a w :=
  wpAnyH_take (by rw [← Array.getElem?_toList]; exact hi) hs hf hr hQ (.inl ⟨hw, hv⟩) hS h
theorem takeNo (i : Nat) (hi : ops.toList[i]? = some oi) (hs : Region.noSelect ops = true) (hf : Region.free md ops listed i = true) (hr : (Region.ready md ops listed).contains i = true)
    (hQ : ∀ c a w, Q (.panic c) (a.put oi.dst undef) w → Q (.panic c) a w) (hw : Region.wanted oi (yielded ops a.tmps) = false) (hS : S w)
    (h : wpAnyH P md ops Q S fuel (listed.setIfInBounds i true) (a.put oi.dst undef) w) : wpAnyH P md ops Q S (fuel + 1) listed a w :=
  wpAnyH_take (by rw [← Array.getElem?_toList]; exact hi) hs hf hr hQ (.inr ⟨hw, rfl⟩) hS h
end
end Go.Proofs.YtiipnpfaaghekaaGreat
