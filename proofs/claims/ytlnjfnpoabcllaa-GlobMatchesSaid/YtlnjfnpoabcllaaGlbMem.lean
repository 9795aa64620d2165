/-
  How marks and parts lie in memory.
-/
import Derived.Test.YtlnjfnpoabcllaaGlbMarks
import Derived.Test.YtlnjfnpoabcllaaMany
import Derived.Test.YtlnjfnpoabcllaaBase
namespace Go.Proofs.Ytlnjfnpoabcllaa
open Go.RowKit

/-- A slice of elements of m cells, read in blocks that S names. -/
def RowS {α : Type} (S : Nat → Prop) (m : Nat) (f : α → List Value) (w : World) (a : Option Addr) (n : Nat) (xs : List α) : Prop :=
  xs.length = n ∧ n ≤ 140737488351232 ∧ (n ≠ 0 → ∃ b o, a = some ⟨b, o, none⟩ ∧ S b ∧ ∀ i (h : i < xs.length), w.rangeAt b (o + i * m) (f xs[i]))
section
variable {α : Type} {S S' : Nat → Prop} {m : Nat} {f : α → List Value} {w w' : World} {a : Option Addr} {n : Nat} {xs : List α}
theorem RowS.keep (h : RowS S m f w a n xs) (hk : ∀ b o, S b → w'.cell? ⟨b, o, none⟩ = w.cell? ⟨b, o, none⟩) : RowS S m f w' a n xs := by
  obtain ⟨h1, h2, h3⟩ := h
  refine ⟨h1, h2, fun hn => ?_⟩
  obtain ⟨b, o, ha, hlt, hc⟩ := h3 hn
  exact ⟨b, o, ha, hlt, fun i hi j v hv => (hk b _ hlt).trans (hc i hi j v hv)⟩
theorem RowS.mono (h : RowS S m f w a n xs) (hS : ∀ b, S b → S' b) : RowS S' m f w a n xs := by
  obtain ⟨h1, h2, h3⟩ := h
  refine ⟨h1, h2, fun hn => ?_⟩
  obtain ⟨b, o, ha, hlt, hc⟩ := h3 hn
  exact ⟨b, o, ha, hS b hlt, hc⟩
theorem RowS.atv (h : RowS S m f w a n xs) {k : Nat} (hk : k < n) : ∃ b o, ∃ h' : k < xs.length, a = some ⟨b, o, none⟩ ∧ S b ∧ w.rangeAt b (o + k * m) (f xs[k]) := by
  obtain ⟨h1, _, h3⟩ := h
  obtain ⟨b, o, ha, hb, hc⟩ := h3 (by omega)
  exact ⟨b, o, by omega, ha, hb, hc k (by omega)⟩
theorem RowS.none_ (w : World) (a : Option Addr) : RowS S m f w a 0 [] := ⟨rfl, by omega, fun h => absurd rfl h⟩
end
theorem RowS.of_own {α : Type} {m : Nat} {f : α → List Value} {e : TypeId} {w : World} {base : Nat} {a : Option Addr} {n c : Nat} {xs : List α} (h : OwnM m f e w base (.slice a n c) xs) (hb : xs.length ≤ 140737488351232) :
    RowS (fun b => base ≤ b ∧ b < w.heap.size ∧ (Value.slice a n c).ownBlock = some b) m f w a n xs := by
  obtain ⟨h1, h2, h3⟩ := h.arr hb
  refine ⟨h1, h2, fun hn => ?_⟩
  obtain ⟨b, o, ha, hlt, hc⟩ := h3 hn
  have hob : (Value.slice a n c).ownBlock = some b := by rw [ha]; rfl
  exact ⟨b, o, ha, ⟨(h.blockLt b hob).1, hlt, hob⟩, hc⟩
def spanC (x : UInt8 × UInt8) : List Value := [byteV x.1, byteV x.2]
/-- A mark as its four cells. -/
structure Mv where
  k : Int
  c : UInt8
  neg : Bool
  a : Option Addr
  n : Nat
  cp : Nat
def mvC (x : Mv) : List Value := [.int .i64 x.k, byteV x.c, .bool x.neg, .slice x.a x.n x.cp]
def mvV (x : Mv) : Value := .agg #[.int .i64 x.k, .int .u8 (x.c.toNat : Int), .bool x.neg, .slice x.a x.n x.cp]
def MkS (S : Nat → Prop) (w : World) (x : Mv) (g : Glb.Gm) : Prop := x.k = g.k ∧ x.c = g.c ∧ x.neg = g.neg ∧ RowS S 2 spanC w x.a x.n g.l
def MarksS (S : Nat → Prop) (w : World) (a : Option Addr) (n : Nat) (gs : List Glb.Gm) : Prop :=
  ∃ xs : List Mv, RowS S 4 mvC w a n xs ∧ gs.length = n ∧ ∀ i (h : i < xs.length) (h' : i < gs.length), MkS S w xs[i] gs[i]
theorem MkS.keep {S : Nat → Prop} {w w' : World} {x : Mv} {g : Glb.Gm} (h : MkS S w x g) (hk : ∀ b o, S b → w'.cell? ⟨b, o, none⟩ = w.cell? ⟨b, o, none⟩) : MkS S w' x g := ⟨h.1, h.2.1, h.2.2.1, h.2.2.2.keep hk⟩
theorem MkS.mono {S S' : Nat → Prop} {w : World} {x : Mv} {g : Glb.Gm} (h : MkS S w x g) (hS : ∀ b, S b → S' b) : MkS S' w x g := ⟨h.1, h.2.1, h.2.2.1, h.2.2.2.mono hS⟩
theorem MarksS.keep {S : Nat → Prop} {w w' : World} {a : Option Addr} {n : Nat} {gs : List Glb.Gm} (h : MarksS S w a n gs) (hk : ∀ b o, S b → w'.cell? ⟨b, o, none⟩ = w.cell? ⟨b, o, none⟩) : MarksS S w' a n gs := by
  obtain ⟨xs, h1, h2, h3⟩ := h
  exact ⟨xs, h1.keep hk, h2, fun i hi hj => (h3 i hi hj).keep hk⟩
theorem MarksS.mono {S S' : Nat → Prop} {w : World} {a : Option Addr} {n : Nat} {gs : List Glb.Gm} (h : MarksS S w a n gs) (hS : ∀ b, S b → S' b) : MarksS S' w a n gs := by
  obtain ⟨xs, h1, h2, h3⟩ := h
  exact ⟨xs, h1.mono hS, h2, fun i hi hj => (h3 i hi hj).mono hS⟩
theorem MarksS.len {S : Nat → Prop} {w : World} {a : Option Addr} {n : Nat} {gs : List Glb.Gm} (h : MarksS S w a n gs) : gs.length = n := by
  obtain ⟨_, _, h2, _⟩ := h
  exact h2
theorem MarksS.none_ {S : Nat → Prop} (w : World) (a : Option Addr) : MarksS S w a 0 [] := ⟨[], RowS.none_ w a, rfl, fun i hi => absurd hi (by simp)⟩
theorem MarksS.at_ {S : Nat → Prop} {w : World} {a : Option Addr} {n : Nat} {gs : List Glb.Gm} (h : MarksS S w a n gs) {k : Nat} (hk : k < n) :
    ∃ b o x, ∃ h' : k < gs.length, a = some ⟨b, o, none⟩ ∧ S b ∧ MkS S w x gs[k] ∧ w.cell? ⟨b, o + k * 4, none⟩ = some (.int .i64 x.k) ∧ w.cell? ⟨b, o + k * 4 + 1, none⟩ = some (.int .u8 (x.c.toNat : Int)) ∧ w.cell? ⟨b, o + k * 4 + 2, none⟩ = some (.bool x.neg) ∧ w.cell? ⟨b, o + k * 4 + 3, none⟩ = some (.slice x.a x.n x.cp) := by
  obtain ⟨xs, h1, h2, h3⟩ := h
  obtain ⟨b, o, hx, ha, hS, hr⟩ := h1.atv hk
  have hg : k < gs.length := by omega
  exact ⟨b, o, xs[k], hg, ha, hS, h3 k hx hg, by have h0 := hr 0 _ rfl; rw [Nat.add_zero] at h0; exact h0, hr 1 _ rfl, hr 2 _ rfl, hr 3 _ rfl⟩
/-- All blocks that there are. -/
def allB (w : World) : Nat → Prop := fun b => b < w.heap.size
theorem kept_below {w w' : World} (hb : Below w.heap.size w w') : ∀ b o, allB w b → w'.cell? ⟨b, o, none⟩ = w.cell? ⟨b, o, none⟩ := fun b o h => hb.cell (p := ⟨b, o, none⟩) h
theorem MarksS.on {w w' : World} {a : Option Addr} {n : Nat} {gs : List Glb.Gm} (h : MarksS (allB w) w a n gs) (hb : Below w.heap.size w w') : MarksS (allB w') w' a n gs :=
  (h.keep (kept_below hb)).mono fun b (hlt : b < w.heap.size) => Nat.lt_of_lt_of_le hlt hb.size
theorem MkS.on {w w' : World} {x : Mv} {g : Glb.Gm} (h : MkS (allB w) w x g) (hb : Below w.heap.size w w') : MkS (allB w') w' x g :=
  (h.keep (kept_below hb)).mono fun b (hlt : b < w.heap.size) => Nat.lt_of_lt_of_le hlt hb.size
end Go.Proofs.Ytlnjfnpoabcllaa
