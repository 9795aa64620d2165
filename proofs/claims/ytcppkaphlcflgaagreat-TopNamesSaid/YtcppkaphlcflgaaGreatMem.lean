import Derived.WalkKit
import Derived.WalkSpells
import Derived.Lib.Hide
import Derived.Deep.MidRow
import Derived.Deep.Draws
import Derived.Deep.RegionHeld3
import Derived.Maps.AppendAt
import Derived.Deep.AppendLies
namespace Go.Proofs.YtcppkaphlcflgaaGreat
open Lib (hid)
set_option maxRecDepth 100000
set_option maxHeartbeats 16000000
section
open Go.RowKit

theorem bv_ofInt_toNat {n : Nat} (x : BitVec n) : BitVec.ofInt n (x.toNat : Int) = x := by
 rw [BitVec.ofInt_natCast, BitVec.ofNat_toNat, BitVec.setWidth_eq]

theorem bits_xor_u32 (x y : BitVec 32) : bits .xor .u32 (x.toNat : Int) (y.toNat : Int) = ((x ^^^ y).toNat : Int) := by
 show IntKind.u32.wrap ((BitVec.ofInt 32 (x.toNat : Int) ^^^ BitVec.ofInt 32 (y.toNat : Int)).toNat : Int) = _
 rw [bv_ofInt_toNat, bv_ofInt_toNat, IntKind.wrap_u32']
 have := (x ^^^ y).isLt
 omega
theorem bits_and_u32 (x y : BitVec 32) : bits .and .u32 (x.toNat : Int) (y.toNat : Int) = ((x &&& y).toNat : Int) := by
 show IntKind.u32.wrap ((BitVec.ofInt 32 (x.toNat : Int) &&& BitVec.ofInt 32 (y.toNat : Int)).toNat : Int) = _
 rw [bv_ofInt_toNat, bv_ofInt_toNat, IntKind.wrap_u32']
 have := (x &&& y).isLt
 omega
theorem shr_u32 (x : BitVec 32) (n : Nat) : (x.toNat : Int) / (2 ^ n : Nat) = ((x >>> n).toNat : Int) := by
 rw [BitVec.toNat_ushiftRight, Nat.shiftRight_eq_div_pow, Int.natCast_ediv]
theorem shr1_u32 (x : BitVec 32) : (x.toNat : Int) / (2 : Int) = ((x >>> 1).toNat : Int) := shr_u32 x 1
theorem byte_u32 (b : UInt8) : (b.toNat : Int) = ((b.toBitVec.setWidth 32).toNat : Int) := by
 have := b.toBitVec.isLt
 rw [BitVec.toNat_setWidth]
 show ((b.toBitVec.toNat : Nat) : Int) = _
 omega
theorem notx_u32 (x : BitVec 32) : bits .xor .u32 IntKind.u32.max (x.toNat : Int) = ((~~~x).toNat : Int) := by
 have e : IntKind.u32.max = ((BitVec.allOnes 32).toNat : Int) := by decide
 rw [e, bits_xor_u32, BitVec.allOnes_xor]
theorem ofInt_i64 (a : Nat) (ha : a < 9223372036854775808) : (BitVec.ofInt 64 (a : Int)).toNat = a := by
 rw [BitVec.ofInt_natCast, BitVec.toNat_ofNat]; exact Nat.mod_eq_of_lt (by omega)
theorem _root_.Go.RowKit.Below.then_ {w w1 w2 : World} (h : Below w.heap.size w w1) (k : Below w1.heap.size w1 w2) : Below w.heap.size w w2 := h.trans (k.mono h.size)

def Arr {α : Type} (f : α → Value) (w : World) (B : Nat) (a : Option Addr) (n : Nat) (xs : List α) : Prop :=
 xs.length = n ∧ n ≤ 140737488351232 ∧ (n ≠ 0 → ∃ b o, a = some ⟨b, o, none⟩ ∧ b < B ∧ ∀ i (h : i < xs.length), w.cell? ⟨b, o + i, none⟩ = some (f xs[i]))
def byteV (x : UInt8) : Value := .int .u8 (x.toNat : Int)
def intV (x : Int) : Value := .int .i64 x
theorem byteV_eq (x : UInt8) : byteV x = .int .u8 (x.toNat : Int) := rfl
theorem intV_eq (x : Int) : intV x = .int .i64 x := rfl
attribute [go_sem] byteV_eq intV_eq
abbrev Bytes := Arr byteV
section
variable {α : Type} {f : α → Value} {w w' : World} {B B' : Nat} {a : Option Addr} {n : Nat} {xs : List α}
theorem Arr.len (h : Arr f w B a n xs) : xs.length = n := h.1
theorem Arr.room (h : Arr f w B a n xs) : n ≤ 140737488351232 := h.2.1
theorem Arr.atv (h : Arr f w B a n xs) {k : Nat} (hk : k < n) :
  ∃ b o, ∃ h' : k < xs.length, a = some ⟨b, o, none⟩ ∧ b < B ∧ w.cell? ⟨b, o + k, none⟩ = some (f xs[k]) := by
 obtain ⟨h1, _, h3⟩ := h
 obtain ⟨b, o, ha, hb, hc⟩ := h3 (by omega)
 exact ⟨b, o, by omega, ha, hb, hc k (by omega)⟩
theorem Arr.keep (h : Arr f w B a n xs) (hk : ∀ b o, b < B → w'.cell? ⟨b, o, none⟩ = w.cell? ⟨b, o, none⟩) : Arr f w' B a n xs := by
 obtain ⟨h1, h2, h3⟩ := h
 refine ⟨h1, h2, fun hn => ?_⟩
 obtain ⟨b, o, ha, hlt, hc⟩ := h3 hn
 exact ⟨b, o, ha, hlt, fun i hi => (hk b (o + i) hlt).trans (hc i hi)⟩
theorem Arr.below (h : Arr f w B a n xs) (hb : Below B w w') : Arr f w' B a n xs := h.keep fun b o hlt => hb.cell (p := ⟨b, o, none⟩) hlt
theorem Arr.mono (h : Arr f w B a n xs) (hB : B ≤ B') : Arr f w B' a n xs := by
 obtain ⟨h1, h2, h3⟩ := h
 refine ⟨h1, h2, fun hn => ?_⟩
 obtain ⟨b, o, ha, hlt, hc⟩ := h3 hn
 exact ⟨b, o, ha, by omega, hc⟩
theorem Arr.on (h : Arr f w w.heap.size a n xs) (hb : Below w.heap.size w w') : Arr f w' w'.heap.size a n xs := (h.below hb).mono hb.size
theorem Arr.none_ (w : World) (B : Nat) (a : Option Addr) : Arr f w B a 0 [] := ⟨rfl, by omega, fun h => absurd rfl h⟩
theorem Arr.alloc (h : Arr f w w.heap.size a n xs) (o : Obj) : Arr f (w.alloc o) (w.alloc o).heap.size a n xs := h.on ((Below.refl _ _).alloc (Nat.le_refl _) o)
theorem Arr.take (h : Arr f w B a n xs) {k : Nat} (hk : k ≤ n) : Arr f w B a k (xs.take k) := by
 obtain ⟨h1, h2, h3⟩ := h
 refine ⟨by rw [List.length_take]; omega, by omega, fun hn => ?_⟩
 obtain ⟨b, o, ha, hlt, hc⟩ := h3 (by omega)
 refine ⟨b, o, ha, hlt, fun i hi => ?_⟩
 rw [List.length_take] at hi
 rw [List.getElem_take]
 exact hc i (by omega)
end
theorem Arr.at_ {w : World} {B : Nat} {a : Option Addr} {n : Nat} {xs : List UInt8} (h : Bytes w B a n xs) {k : Nat} (hk : k < n) :
  ∃ b o, ∃ h' : k < xs.length, a = some ⟨b, o, none⟩ ∧ b < B ∧ w.cell? ⟨b, o + k, none⟩ = some (.int .u8 (xs[k].toNat : Int)) := h.atv hk

def Blk (w : World) (g : Nat) (t : TypeId) (cs : Array Value) : Prop := w.heap[g]? = some (.cells cs t (0, 0))
section
variable {w w' : World} {g : Nat} {t : TypeId} {cs : Array Value}
theorem Blk.lt (h : Blk w g t cs) : g < w.heap.size := by
 rcases Nat.lt_or_ge g w.heap.size with hlt | hge
 ·exact hlt
 ·unfold Blk at h; rw [Array.getElem?_eq_none hge] at h; cases h
theorem Blk.cell (h : Blk w g t cs) (i : Nat) : w.cell? ⟨g, i, none⟩ = cs[i]? := cell_of_row w g i cs t (0, 0) h
theorem Blk.cellv (h : Blk w g t cs) {i : Nat} {v : Value} (hv : cs[i]? = some v) : w.cell? ⟨g, i, none⟩ = some v := (h.cell i).trans hv
theorem Blk.frozen (h : Blk w g t cs) (i : Nat) : w.frozen? ⟨g, i, none⟩ = false := frozen_of_row w g i cs t h
theorem Blk.new (w : World) (t : TypeId) (cs : Array Value) : Blk (w.alloc (.cells cs t)) w.heap.size t cs := heap_alloc_new w _
theorem Blk.drew (h : Blk w g t cs) : Blk w.drew g t cs := h
theorem Blk.drewN (h : Blk w g t cs) (n : Nat) : Blk (w.drewN n) g t cs := h
theorem Blk.alloc (h : Blk w g t cs) (o : Obj) : Blk (w.alloc o) g t cs := (Below.heap_alloc w o g h.lt).trans h
theorem Blk.set (h : Blk w g t cs) (i : Nat) (u : Value) : Blk (w.setCell ⟨g, i, none⟩ u) g t (cs.setIfInBounds i u) := heap_setCell_same w g i cs t u h
theorem Blk.far (h : Blk w g t cs) {p : Addr} (hp : g ≠ p.block) (u : Value) : Blk (w.setCell p u) g t cs := (heap_setCell_other w p g u hp).trans h
theorem Blk.below {B : Nat} (h : Blk w g t cs) (hb : Below B w w') (hg : g < B) : Blk w' g t cs := (hb.block g hg).trans h
theorem Blk.belowHere (h : Blk w g t cs) (hb : Below w.heap.size w w') : Blk w' g t cs := h.below hb h.lt
theorem Blk.grown {row : Option Nat} (h : Blk w g t cs) (hb : w.grownBy w' row) (hg : some g ≠ row) : Blk w' g t cs := (hb.block g h.lt hg).trans h
theorem Blk.row (h : Blk w g t cs) (cs' : Array Value) : Blk (w.setRow g cs') g t cs' := setRow_heap w g cs cs' t _ h
theorem _root_.Go.RowKit.Below.setRow_ {B : Nat} {a w : World} (h : Below B a w) {g : Nat} (hg : B ≤ g) (cs : Array Value) : Below B a (w.setRow g cs) :=
 h.trans ⟨rfl, rfl, rfl, by simp, fun k hk => setRow_other _ _ _ _ (by omega)⟩
end
theorem block_lt_isSome {w : World} {p : Addr} (h : (w.cell? p).isSome = true) : p.block < w.heap.size := by
 obtain ⟨v, hv⟩ := Option.isSome_iff_exists.1 h
 exact block_lt_of_cell hv
theorem wpList_store_blk {P : Program} {ops : Array Oper} {rest : List Oper} {o : Oper} {a : Act} {w : World} {Q : Exit → Act → World → Prop} (hgd : o.guard = none) (hdst : o.dst = none) (ty : TypeId) (x y : Operand) (ho : o.op = .store ty x y)
  (g : Nat) (cs' : Array Value) (hx : a.eval x = .pointer (some ⟨g, 0, none⟩)) (hy : a.eval y = .agg cs') (t : TypeId) (cs : Array Value) (hg : Blk w g t cs) (hs : cs.size = cs'.size)
  (hi : (P.info? ty).map (·.size) = some cs'.size) (h1 : cs'.all (·.oneCell') = true)
  (h : wpList P ops Q rest a (w.setRow g cs')) : wpList P ops Q (o :: rest) a w :=
 wpList_store_row hgd ty x y ho g cs' hx hy t cs hg hi hs h1 (by rw [hdst]; exact h)
theorem layR : (∀ (ts : Array Value) (ds : List Deferred) (i : Tmp) (v : Value), Act.put ⟨ts, ds⟩ (some i) v = ⟨ts.setIfInBounds i v, ds⟩) ∧ (∀ (a : Act) (v : Value), Act.put a none v = a) ∧ (∀ (xs : List Value) (i : Nat) (x : Value), xs.toArray.setIfInBounds i x = (xs.set i x).toArray) ∧
  (∀ (x y : Value) (xs : List Value), (x :: xs).set 0 y = y :: xs) ∧ (∀ (x y : Value) (xs : List Value) (n : Nat), (x :: xs).set (n + 1) y = x :: xs.set n y) :=
 ⟨fun _ _ _ _ => rfl, fun _ _ => rfl, fun _ _ _ => by simp, fun _ _ _ => rfl, fun _ _ _ _ => rfl⟩
section
variable {P : Program} {md : Region.Mode} {ops : Array Oper} {Q : Exit → Act → World → Prop} {S : World → Prop} {oi : Oper} {v : Value} {fuel : Nat} {listed : Array Bool} {a : Act} {w : World}
theorem takeV (i : Nat) (hi : ops.toList[i]? = some oi) (hs : Region.noSelect ops = true) (hf : Region.free md ops listed i = true) (hr : (Region.ready md ops listed).contains i = true)
  (hQ : ∀ c a w, Q (.panic c) (a.put oi.dst v) w → Q (.panic c) a w) (hw : Region.wanted oi (yielded ops a.tmps) = true) (hv : ∀ w, S w → (execOp a.eval oi).run P w = .ok (.value v) w) (hS : S w)
  (h : wpAnyH P md ops Q S fuel (listed.setIfInBounds i true) (a.put oi.dst v) w) : wpAnyH P md ops Q S (fuel + 1) listed a w :=
 wpAnyH_take (by rw [← Array.getElem?_toList]; exact hi) hs hf hr hQ (.inl ⟨hw, hv⟩) hS h
theorem takeNo (i : Nat) (hi : ops.toList[i]? = some oi) (hs : Region.noSelect ops = true) (hf : Region.free md ops listed i = true) (hr : (Region.ready md ops listed).contains i = true)
  (hQ : ∀ c a w, Q (.panic c) (a.put oi.dst undef) w → Q (.panic c) a w) (hw : Region.wanted oi (yielded ops a.tmps) = false) (hS : S w)
  (h : wpAnyH P md ops Q S fuel (listed.setIfInBounds i true) (a.put oi.dst undef) w) : wpAnyH P md ops Q S (fuel + 1) listed a w :=
 wpAnyH_take (by rw [← Array.getElem?_toList]; exact hi) hs hf hr hQ (.inr ⟨hw, rfl⟩) hS h
theorem tk (i : Nat) (u : Value) (hi : ops.toList[i]? = some oi) (hv : ∀ w, S w → (execOp a.eval oi).run P w = .ok (.value u) w) (h : wpAnyH P md ops Q S fuel (listed.setIfInBounds i true) (a.put oi.dst u) w) (hs : Region.noSelect ops = true := by kernel_rfl) (hf : Region.free md ops listed i = true := by kernel_rfl) (hr : (Region.ready md ops listed).contains i = true := by kernel_rfl) (hQ : ∀ c a w, Q (.panic c) (a.put oi.dst u) w → Q (.panic c) a w := by exact fun _ _ _ h => h) (hw : Region.wanted oi (yielded ops a.tmps) = true := by rfl) (hS : S w := by assumption) : wpAnyH P md ops Q S (fuel + 1) listed a w := takeV i hi hs hf hr hQ hw hv hS h
theorem tn (i : Nat) (hi : ops.toList[i]? = some oi) (h : wpAnyH P md ops Q S fuel (listed.setIfInBounds i true) (a.put oi.dst undef) w) (hs : Region.noSelect ops = true := by kernel_rfl) (hf : Region.free md ops listed i = true := by kernel_rfl) (hr : (Region.ready md ops listed).contains i = true := by kernel_rfl) (hQ : ∀ c a w, Q (.panic c) (a.put oi.dst undef) w → Q (.panic c) a w := by exact fun _ _ _ h => h) (hw : Region.wanted oi (yielded ops a.tmps) = false := by rfl) (hS : S w := by assumption) : wpAnyH P md ops Q S (fuel + 1) listed a w := takeNo i hi hs hf hr hQ hw hS h
theorem rd (i : Nat) (ho : ops[i]? = some oi) (h : ∀ K' : Act → World → Prop, Shut (∀ a w, S w → (S w → wpAnyH P md ops Q S fuel (listed.setIfInBounds i true) a w) → K' a w) → if Region.wanted oi (yielded ops a.tmps) = true then Oper.wp P oi a w K' Q else K' (a.put oi.dst undef) w) (hr : Region.ready md ops listed = [i] := by kernel_rfl) : wpAnyH P md ops Q S (fuel + 1) listed a w := wpAnyH_ready hr (by simp) (AllReadyH.cons ho h AllReadyH.nil)
end
end
section
open Go.RowKit

def Own {α : Type} (f : α → Value) (e : TypeId) (w : World) (base : Nat) (v : Value) (xs : List α) : Prop := w.ownsRow base e 1 v xs.length (xs.map f)
section
variable {α : Type} {f : α → Value} {e : TypeId} {w w' : World} {base : Nat} {v : Value} {xs : List α}
theorem Own.nil (w : World) (base : Nat) : Own f e w base (.slice none 0 0) [] := World.ownsRow_nil w base e 1
theorem Own.form (h : Own f e w base v xs) : ∃ a c, v = .slice a xs.length c ∧ xs.length ≤ c := by
 rcases h.2 with ⟨hv, hn⟩ | ⟨g, cap, cur, hv, _, _, hc, _⟩
 ·exact ⟨none, 0, by rw [hv, hn], by omega⟩
 ·exact ⟨_, cap, hv, hc⟩
theorem Own.formN {n : Nat} (h : Own f e w base v xs) (hn : xs.length = n) : ∃ a c, v = .slice a n c ∧ n ≤ c := by
 subst hn; exact h.form
theorem Own.form_some (h : Own f e w base v xs) (hn : 0 < xs.length) : ∃ g c, v = .slice (some ⟨g, 0, none⟩) xs.length c ∧ xs.length ≤ c ∧ base ≤ g ∧ g < w.heap.size := by
 rcases h.2 with ⟨_, h0⟩ | ⟨g, cap, cur, hv, hgb, hg, hc, _⟩
 ·omega
 ·refine ⟨g, cap, hv, hc, hgb, ?_⟩
  rcases Nat.lt_or_ge g w.heap.size with hlt | hge
  ·exact hlt
  ·rw [Array.getElem?_eq_none hge] at hg; cases hg
theorem Own.arr {a : Option Addr} {n c : Nat} (h : Own f e w base (.slice a n c) xs) (hb : xs.length ≤ 140737488351232) : Arr f w w.heap.size a n xs := by
 rcases h.2 with ⟨hv, hn⟩ | ⟨g, cap, cur, hv, _, hg, hc, _, hs, ht⟩
 ·injection hv with h1 h2 h3
  subst h2
  have : xs = [] := List.eq_nil_of_length_eq_zero hn
  subst this
  exact Arr.none_ _ _ _
 ·injection hv with h1 h2 h3
  subst h1
  refine ⟨h2.symm, by omega, fun _ => ⟨g, 0, rfl, ?_, fun i hi => ?_⟩⟩
  ·rcases Nat.lt_or_ge g w.heap.size with hlt | hge
   ·exact hlt
   ·rw [Array.getElem?_eq_none hge] at hg; cases hg
  ·rw [cell_of_row w g (0 + i) cur e (0, 0) hg]
   have h5 : (xs.map f)[i]? = some (f xs[i]) := by rw [List.getElem?_map, List.getElem?_eq_getElem hi]; rfl
   rw [← ht, List.getElem?_take, if_pos (by omega)] at h5
   rw [Nat.zero_add, ← h5]
   simp
theorem Own.below {B : Nat} (h : Own f e w base v xs) (hb : Below B w w') (hB : w.heap.size ≤ B) : Own f e w' base v xs := by
 refine ⟨h.1, ?_⟩
 rcases h.2 with h2 | ⟨g, cap, cur, hv, hgb, hg, r⟩
 ·exact Or.inl h2
 ·refine Or.inr ⟨g, cap, cur, hv, hgb, ?_, r⟩
  have hlt : g < w.heap.size := by
   rcases Nat.lt_or_ge g w.heap.size with hlt | hge
   ·exact hlt
   ·rw [Array.getElem?_eq_none hge] at hg; cases hg
  exact (hb.block g (by omega)).trans hg
theorem Own.on (h : Own f e w base v xs) (hb : Below w.heap.size w w') : Own f e w' base v xs := h.below hb (Nat.le_refl _)
theorem Own.alloc (h : Own f e w base v xs) (o : Obj) : Own f e (w.alloc o) base v xs := h.on ((Below.refl _ _).alloc (Nat.le_refl _) o)
theorem Own.drew (h : Own f e w base v xs) : Own f e w.drew base v xs := h
theorem Own.grown {row : Option Nat} (h : Own f e w base v xs) (hg : w.grownBy w' row) (hne : v.ownBlock = none ∨ v.ownBlock ≠ row) : Own f e w' base v xs := World.ownsRow.kept h hg hne
theorem Own.mono {base' : Nat} (h : Own f e w base v xs) (hb : base' ≤ base) : Own f e w base' v xs := by
 refine ⟨h.1, ?_⟩
 rcases h.2 with h2 | ⟨g, cap, cur, hv, hgb, r⟩
 ·exact Or.inl h2
 ·exact Or.inr ⟨g, cap, cur, hv, by omega, r⟩
theorem Own.blockLt (h : Own f e w base v xs) : ∀ k, v.ownBlock = some k → base ≤ k ∧ k < w.heap.size := World.ownsRow.lt h
theorem Own.made (hbase : base ≤ w.heap.size) (hm : xs.length ≤ maxLen) : Own f e (w.alloc (.cells (xs.map f).toArray e)) base (.slice (some ⟨w.heap.size, 0, none⟩) xs.length xs.length) xs :=
 ⟨by simp, .inr ⟨w.heap.size, xs.length, _, rfl, hbase, heap_alloc_new w _, Nat.le_refl _, hm, by simp, by simp [List.take_of_length_le]⟩⟩
theorem Own.cell {a : Addr} {n c : Nat} (h : Own f e w base (.slice (some a) n c) xs) {k : Nat} (hk : k < xs.length) :
  ∃ g, a = ⟨g, 0, none⟩ ∧ base ≤ g ∧ g < w.heap.size ∧ w.cell? ⟨g, k, none⟩ = some (f xs[k]) ∧ w.frozen? ⟨g, k, none⟩ = false := by
 rcases h.2 with ⟨hv, hn⟩ | ⟨g, cap, cur, hv, hgb, hg, hc, _, hs, ht⟩
 ·cases hv
 ·injection hv with h1 h2 h3
  injection h1 with h1
  refine ⟨g, h1, hgb, ?_, ?_, frozen_of_row w g k cur e hg⟩
  ·rcases Nat.lt_or_ge g w.heap.size with hlt | hge
   ·exact hlt
   ·rw [Array.getElem?_eq_none hge] at hg; cases hg
  ·rw [cell_of_row w g k cur e (0, 0) hg]
   have h5 : (xs.map f)[k]? = some (f xs[k]) := by rw [List.getElem?_map, List.getElem?_eq_getElem hk]; rfl
   rw [← ht, List.getElem?_take, if_pos (by omega)] at h5
   rw [← h5]; simp
theorem Own.addr {a : Option Addr} {n c : Nat} (h : Own f e w base (.slice a n c) xs) (hn : 0 < xs.length) : ∃ g, a = some ⟨g, 0, none⟩ ∧ base ≤ g ∧ g < w.heap.size := by
 obtain ⟨g, c', hv, _, h1, h2⟩ := h.form_some hn
 injection hv with h3
 exact ⟨g, h3, h1, h2⟩
theorem Own.cellg {g : Nat} {n c : Nat} (h : Own f e w base (.slice (some ⟨g, 0, none⟩) n c) xs) {k : Nat} (hk : k < xs.length) :
  w.cell? ⟨g, k, none⟩ = some (f xs[k]) ∧ w.frozen? ⟨g, k, none⟩ = false := by
 obtain ⟨g', h1, _, _, h2, h3⟩ := h.cell hk
 injection h1 with h1
 subst h1
 exact ⟨h2, h3⟩
theorem Own.set {g : Nat} {n c : Nat} (h : Own f e w base (.slice (some ⟨g, 0, none⟩) n c) xs) (k : Nat) (x : α) :
  Own f e (w.setCell ⟨g, k, none⟩ (f x)) base (.slice (some ⟨g, 0, none⟩) n c) (xs.set k x) := by
 refine ⟨by simp, ?_⟩
 rcases h.2 with ⟨hv, hn⟩ | ⟨g', cap, cur, hv, hgb, hg, hc, hm, hs, ht⟩
 ·cases hv
 ·injection hv with h1 h2 h3
  injection h1 with h1
  injection h1 with h1
  subst h1 h3
  refine Or.inr ⟨g, c, cur.setIfInBounds k (f x), by rw [h2, List.length_set], hgb, heap_setCell_same w g k cur e (f x) hg, by rw [List.length_set]; exact hc, hm, by simpa using hs, ?_⟩
  rw [Array.toList_setIfInBounds, List.length_set, List.take_set, ht, List.map_set]
theorem Own.far (h : Own f e w base v xs) {p : Addr} (hp : v.ownBlock ≠ some p.block) (u : Value) : Own f e (w.setCell p u) base v xs := by
 refine ⟨h.1, ?_⟩
 rcases h.2 with h2 | ⟨g, cap, cur, hv, hgb, hg, r⟩
 ·exact Or.inl h2
 ·refine Or.inr ⟨g, cap, cur, hv, hgb, ?_, r⟩
  rw [heap_setCell_other w p g u (fun e => hp (by rw [hv]; simp [Value.ownBlock, e]))]
  exact hg
end

section
variable {P : Program} {α : Type} {f : α → Value}
theorem run_append_Own (w : World) (base : Nat) (t ty e : TypeId) (i : TypeInfo) (z : Value) (bytes : Nat) (ht : P.underlying t = some (.slice e)) (hi : P.info? e = some i) (hz : i.zero = some z)
  (hsize : i.size = 1) (hby : i.bytes = bytes) (hzs : z.cells.size = 1) (hf : ∀ x, (f x).oneCell' = true)
  (v : Value) (xs : List α) (hown : Own f e w base v xs) (B : Nat) (a : Option Addr) (m c : Nat) (ys : List α) (hy : Arr f w B a m ys)
  (hbytes : (xs.length + m) * bytes ≤ 140737488355328) (h63 : xs.length + m ≤ maxLen) (hbase : base ≤ w.heap.size) :
  ∃ v' w', (Builtin.append_ #[t, t] ty #[v, .slice a m c]).run P w = .ok v' w' ∧ Own f e w' base v' (xs ++ ys) ∧ w.grownBy w' v.ownBlock ∧ (v'.ownBlock = v.ownBlock ∨ v'.ownBlock = some w.heap.size) := by
 have hlen := hy.len
 by_cases hm : m = 0
 ·subst hm
  have hn : ys = [] := List.eq_nil_of_length_eq_zero hlen
  subst hn
  refine ⟨v, w, ?_, by simpa using hown, World.grownBy.refl w _, .inl rfl⟩
  rcases hown.2 with ⟨rfl, hn⟩ | ⟨g, cap, cur, rfl, _, _, hnc, _⟩
  ·cases a <;> simp [Builtin.append_, run_underlying ht, sizeOf, typeInfo, hi, Builtin.lenOf, Builtin.firstCells, loadCells, loadCellsFrom]
  ·cases a <;> simp [Builtin.append_, run_underlying ht, sizeOf, typeInfo, hi, Builtin.lenOf, Builtin.firstCells, loadCells, loadCellsFrom, hnc, storeCells]
 ·obtain ⟨b, o, rfl, _, hc⟩ := hy.2.2 hm
  obtain ⟨v', w', hrun, h2, h3, _, h5⟩ := run_append_own_at (P := P) w base t ty e i z 1 bytes ht hi hz hsize hby hzs (by omega) v xs.length (xs.map f) hown ⟨b, o, none⟩ m c (ys.map f) (by simp [hlen])
   (fun j u hu => by
    rw [List.getElem?_map] at hu
    cases hj : ys[j]? with
    | none => rw [hj] at hu; cases hu
    | some y =>
     rw [hj] at hu
     injection hu with hu
     subst hu
     obtain ⟨hjl, hje⟩ := List.getElem?_eq_some_iff.1 hj
     rw [Addr.add_mid, hc j hjl, hje])
   (fun u hu => by obtain ⟨x, _, rfl⟩ := List.mem_map.1 hu; exact hf x) h63 hbytes hbase
  refine ⟨v', w', hrun, ?_, h3, h5⟩
  unfold Own
  rw [List.length_append, List.map_append, hlen]
  exact h2
theorem wp_append_Own {w : World} {o : Oper} {ac : Act} {K : Act → World → Prop} {Q : Exit → Act → World → Prop} (s x : Operand) (t : TypeId)
  (ho : o.op = .call { callee := .builtin .append, args := #[s, x], argTypes := #[t, t] })
  (base : Nat) (e : TypeId) (i : TypeInfo) (z : Value) (bytes : Nat) (ht : P.underlying t = some (.slice e)) (hi : P.info? e = some i) (hz : i.zero = some z)
  (hsize : i.size = 1) (hby : i.bytes = bytes) (hzs : z.cells.size = 1) (hf : ∀ x, (f x).oneCell' = true)
  (v : Value) (xs : List α) (hs : ac.eval s = v) (hown : Own f e w base v xs) (B : Nat) (a : Option Addr) (m c : Nat) (ys : List α) (hx : ac.eval x = .slice a m c) (hy : Arr f w B a m ys)
  (hbytes : (xs.length + m) * bytes ≤ 140737488355328) (h63 : xs.length + m ≤ maxLen) (hbase : base ≤ w.heap.size)
  (h : ∀ v' w', Own f e w' base v' (xs ++ ys) → w.grownBy w' v.ownBlock → (v'.ownBlock = v.ownBlock ∨ v'.ownBlock = some w.heap.size) → K (ac.put o.dst v') w') : o.wp P ac w K Q := by
 obtain ⟨v', w', hrun, h2, h3, h4⟩ := run_append_Own (P := P) w base t o.type e i z bytes ht hi hz hsize hby hzs hf v xs hown B a m c ys hy hbytes h63 hbase
 unfold Oper.wp execOp
 simp only [ho, resolve, invoke, builtin, Sem.run_bind, Sem.run_pure, Result.andThen_ok, List.map_toArray, List.map_cons, List.map_nil, hs, hx, hrun]
 exact h v' w' h2 h3 h4
theorem wpList_append_Own {w : World} {ops : Array Oper} {rest : List Oper} {o : Oper} {ac : Act} {Q : Exit → Act → World → Prop} (hgd : o.guard = none) (s x : Operand) (t : TypeId)
  (ho : o.op = .call { callee := .builtin .append, args := #[s, x], argTypes := #[t, t] })
  (base : Nat) (e : TypeId) (i : TypeInfo) (z : Value) (bytes : Nat) (ht : P.underlying t = some (.slice e)) (hi : P.info? e = some i) (hz : i.zero = some z)
  (hsize : i.size = 1) (hby : i.bytes = bytes) (hzs : z.cells.size = 1) (hf : ∀ x, (f x).oneCell' = true)
  (v : Value) (xs : List α) (hs : ac.eval s = v) (hown : Own f e w base v xs) (B : Nat) (a : Option Addr) (m c : Nat) (ys : List α) (hx : ac.eval x = .slice a m c) (hy : Arr f w B a m ys)
  (hbytes : (xs.length + m) * bytes ≤ 140737488355328) (h63 : xs.length + m ≤ maxLen) (hbase : base ≤ w.heap.size)
  (h : ∀ v' w', Own f e w' base v' (xs ++ ys) → w.grownBy w' v.ownBlock → (v'.ownBlock = v.ownBlock ∨ v'.ownBlock = some w.heap.size) → wpList P ops Q rest (ac.put o.dst v') w') : wpList P ops Q (o :: rest) ac w :=
 wpList_plain hgd fun _ hK => wp_append_Own s x t ho base e i z bytes ht hi hz hsize hby hzs hf v xs hs hown B a m c ys hx hy hbytes h63 hbase fun v' w' h2 h3 h4 => hK _ _ (h v' w' h2 h3 h4)
end
theorem Own.made_at {α : Type} {f : α → Value} {e : TypeId} {w : World} {base g n : Nat} {xs : List α} (hg : g = w.heap.size) (hn : xs.length = n) (hbase : base ≤ w.heap.size) (hm : n ≤ maxLen) :
  Own f e (w.alloc (.cells (xs.map f).toArray e)) base (.slice (some ⟨g, 0, none⟩) n n) xs := by
 subst hg hn
 exact Own.made hbase hm
theorem byteV_one (x : UInt8) : (byteV x).oneCell' = true := rfl
theorem intV_one (x : Int) : (intV x).oneCell' = true := rfl
theorem Arr.lit {α : Type} {f : α → Value} (w : World) (e : TypeId) (xs : List α) (n : Nat) (hn : xs.length = n) (hb : n ≤ 140737488351232) {cs : Array Value} (hcs : cs = (xs.map f).toArray) :
  Arr f (w.alloc (.cells cs e)) (w.alloc (.cells cs e)).heap.size (some ⟨w.heap.size, 0, none⟩) n xs := by
 subst hcs
 refine ⟨hn, hb, fun _ => ⟨w.heap.size, 0, rfl, by simp, fun i hi => ?_⟩⟩
 rw [cell_of_row _ _ _ _ _ _ (heap_alloc_new w _), Nat.zero_add]
 simp [hi]

def cutA (a : Option Addr) (c l : Nat) : Option Addr := if c = l then a else a.map (·.add l)
theorem Arr.drop {α : Type} {f : α → Value} {w : World} {B : Nat} {a : Option Addr} {n c : Nat} {xs : List α} (h : Arr f w B a n xs) {l : Nat} (hl : l ≤ n) (hc : n ≤ c) : Arr f w B (cutA a c l) (n - l) (xs.drop l) := by
 obtain ⟨h1, h2, h3⟩ := h
 refine ⟨by rw [List.length_drop]; omega, by omega, fun hn => ?_⟩
 obtain ⟨b, o, ha, hlt, hcell⟩ := h3 (by omega)
 refine ⟨b, o + l, ?_, hlt, fun i hi => ?_⟩
 ·rw [cutA, if_neg (by omega), ha]
  exact congrArg some (Addr.add_mid b o l)
 ·rw [List.length_drop] at hi
  rw [List.getElem_drop, Nat.add_assoc]
  exact hcell (l + i) (by omega)
section
variable {P : Program} {t e : TypeId} {i : TypeInfo}
theorem run_cut_from (ht : P.underlying t = some (.slice e)) (hi : P.info? e = some i) (hs : i.size = 1) (a : Option Addr) (n c l : Nat) (hl : l ≤ n) (w : World) :
  (Instr.slice t (.slice a n c) (some (.int .i64 (l : Int))) none none).run P w = .ok (.slice (cutA a c l) (n - l) (c - l)) w := by
 have h0 : (0 : Int) ≤ (l : Int) := by omega
 have h1 : (l : Int) ≤ ((n : Nat) : Int) := by omega
 simp [Instr.slice, run_underlying ht, sizeOf, typeInfo, hi, hs, Instr.sliceBounds, go_sem, h0, h1, cutA]
theorem run_cut_to (ht : P.underlying t = some (.slice e)) (hi : P.info? e = some i) (a : Option Addr) (n c h : Nat) (hl : h ≤ c) (w : World) :
  (Instr.slice t (.slice a n c) none (some (.int .i64 (h : Int))) none).run P w = .ok (.slice a h c) w := by
 have h0 : (0 : Int) ≤ (h : Int) := by omega
 have h1 : (h : Int) ≤ ((c : Nat) : Int) := by omega
 simp [Instr.slice, run_underlying ht, sizeOf, typeInfo, hi, Instr.sliceBounds, go_sem, h0, h1]
theorem run_cut_mid (ht : P.underlying t = some (.slice e)) (hi : P.info? e = some i) (hs : i.size = 1) (a : Option Addr) (n c l h : Nat) (hl : l ≤ h) (hh : h ≤ c) (w : World) :
  (Instr.slice t (.slice a n c) (some (.int .i64 (l : Int))) (some (.int .i64 (h : Int))) none).run P w = .ok (.slice (cutA a c l) (h - l) (c - l)) w := by
 have h0 : (0 : Int) ≤ (l : Int) := by omega
 have h2 : (h : Int) ≤ ((c : Nat) : Int) := by omega
 have h3 : (0 : Int) ≤ (h : Int) := by omega
 simp [Instr.slice, run_underlying ht, sizeOf, typeInfo, hi, hs, Instr.sliceBounds, go_sem, h0, h2, h3, hl, cutA]
end
theorem below_own {α : Type} {f : α → Value} {e : TypeId} {w0 w w' : World} {base : Nat} {v : Value} {xs : List α} (hb : Below base w0 w) (hown : Own f e w base v xs) (hg : w.grownBy w' v.ownBlock) (hB : base ≤ w.heap.size) : Below base w0 w' :=
 hb.grown hg hB (fun k hk => (hown.blockLt k hk).1)
end
end Go.Proofs.YtcppkaphlcflgaaGreat
