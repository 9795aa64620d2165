import Derived.Test.YtcppkaphlcflgaaGreatNandBlank
namespace Go.Proofs.YtcppkaphlcflgaaGreat
open Lib (hid)
set_option maxRecDepth 100000
set_option maxHeartbeats 16000000
section
open Go.RowKit

structure Kq (T : Nat → Prop) (w w' : World) : Prop where
 os : w'.os = w.os
 tape : w'.tape = w.tape
 output : w'.output = w.output
 size : w.heap.size ≤ w'.heap.size
 block : ∀ k, k < w.heap.size → ¬ T k → w'.heap[k]? = w.heap[k]?
section
variable {T T' : Nat → Prop} {a b c w w' : World}
theorem Kq.refl (T : Nat → Prop) (w : World) : Kq T w w := ⟨rfl, rfl, rfl, Nat.le_refl _, fun _ _ _ => rfl⟩
theorem Kq.trans (h : Kq T a b) (k : Kq T b c) : Kq T a c :=
 ⟨k.os.trans h.os, k.tape.trans h.tape, k.output.trans h.output, Nat.le_trans h.size k.size, fun j hj h1 => (k.block j (Nat.lt_of_lt_of_le hj h.size) h1).trans (h.block j hj h1)⟩
theorem Kq.of (h : Below w.heap.size w w') : Kq T w w' := ⟨h.os, h.tape, h.output, h.size, fun k hk _ => h.block k hk⟩
theorem Kq.on (h : Kq T a b) (k : Below b.heap.size b c) : Kq T a c := h.trans (Kq.of k)
theorem Kq.mono (h : Kq T w w') (hT : ∀ k, T k → T' k) : Kq T' w w' := ⟨h.os, h.tape, h.output, h.size, fun k hk hn => h.block k hk fun h' => hn (hT k h')⟩
theorem Kq.then_ (h : Kq T a b) (k : Kq T' b c) (hT : ∀ k, T' k → T k ∨ a.heap.size ≤ k) : Kq T a c :=
 ⟨k.os.trans h.os, k.tape.trans h.tape, k.output.trans h.output, Nat.le_trans h.size k.size, fun j hj h1 => (k.block j (Nat.lt_of_lt_of_le hj h.size) fun h2 => by rcases hT j h2 with h3 | h3; exact h1 h3; omega).trans (h.block j hj h1)⟩
theorem Kq.setCell (h : Kq T a b) {p : Addr} (hp : T p.block ∨ a.heap.size ≤ p.block) (u : Value) : Kq T a (b.setCell p u) :=
 ⟨h.os, h.tape, h.output, by simpa using h.size, fun k hk h1 => (heap_setCell_other b p k u fun e => by rcases hp with h2 | h2; exact h1 (e ▸ h2); omega).trans (h.block k hk h1)⟩
theorem Kq.one (p : Addr) (u : Value) : Kq (fun k => k = p.block) w (w.setCell p u) := (Kq.refl _ w).setCell (T := fun k => k = p.block) (p := p) (.inl rfl) u
theorem Kq.below {B : Nat} (h : Kq T w w') (hT : ∀ k, T k → B ≤ k) (hB : B ≤ w.heap.size) : Below B w w' :=
 ⟨h.os, h.tape, h.output, h.size, fun k hk => h.block k (by omega) fun h1 => by have := hT k h1; omega⟩
theorem Kq.grown {r : Option Nat} (h : w.grownBy w' r) : Kq (fun k => r = some k) w w' := ⟨h.os, h.tape, h.output, h.size, fun k hk h1 => h.block k hk fun e => h1 e.symm⟩
theorem Blk.kq {g : Nat} {t : TypeId} {cs : Array Value} (h : Blk w g t cs) (hk : Kq T w w') (hg : ¬ T g) : Blk w' g t cs := (hk.block g h.lt hg).trans h
theorem OwnM.kq {α : Type} {m : Nat} {f : α → List Value} {e : TypeId} {B : Nat} {v : Value} {xs : List α} (h : OwnM m f e w B v xs) (hk : Kq T w w') (hv : ∀ g, v.ownBlock = some g → ¬ T g) : OwnM m f e w' B v xs := by
 refine ⟨h.1, h.2.1, ?_⟩
 rcases h.2.2 with h2 | ⟨g, cap, cur, rfl, hgb, hg, r⟩
 ·exact Or.inl h2
 ·refine Or.inr ⟨g, cap, cur, rfl, hgb, ?_, r⟩
  have hlt : g < w.heap.size := by
   rcases Nat.lt_or_ge g w.heap.size with hlt | hge
   ·exact hlt
   ·rw [Array.getElem?_eq_none hge] at hg; cases hg
  exact (hk.block g hlt (hv g rfl)).trans hg
theorem Own.kq {α : Type} {f : α → Value} {e : TypeId} {B : Nat} {v : Value} {xs : List α} (h : Own f e w B v xs) (hk : Kq T w w') (hv : ∀ g, v.ownBlock = some g → ¬ T g) : Own f e w' B v xs := by
 refine ⟨h.1, ?_⟩
 rcases h.2 with h2 | ⟨g, cap, cur, rfl, hgb, hg, r⟩
 ·exact Or.inl h2
 ·refine Or.inr ⟨g, cap, cur, rfl, hgb, ?_, r⟩
  have hlt : g < w.heap.size := by
   rcases Nat.lt_or_ge g w.heap.size with hlt | hge
   ·exact hlt
   ·rw [Array.getElem?_eq_none hge] at hg; cases hg
  exact (hk.block g hlt (hv g rfl)).trans hg
end
def Up (S : Nat → Prop) (w w' : World) : Nat → Prop := fun k => S k ∨ (w.heap.size ≤ k ∧ k < w'.heap.size)
theorem up_of {S : Nat → Prop} {w w' : World} {k : Nat} (h : Up S w w' k) (hk : k < w.heap.size) : S k := by
 rcases h with h | h
 ·exact h
 ·omega
structure Pb where
 pgs : Nat → Option (List UInt8)
 nx : Nat
 broken : Bool
 bad : Bool
 wear : Nat
def fresh (w : Nat) : Pb := ⟨fun _ => none, 0, false, false, w⟩
def upd {α : Type} (f : Nat → α) (k : Nat) (v : α) : Nat → α := fun j => if j = k then v else f j
theorem upd_same {α : Type} (f : Nat → α) (k : Nat) (v : α) : upd f k v k = v := if_pos rfl
theorem upd_other {α : Type} (f : Nat → α) {k j : Nat} (v : α) (h : j ≠ k) : upd f k v j = f j := if_neg h
def pbV (P : Nat) (x : Pb) : Bv := ⟨.slice (some ⟨P, 0, none⟩) 8 8, x.nx, x.broken, x.bad, x.wear⟩
def chQ (NB BL : Nat) (si sk rd : Int) : Array Value := #[.int .i64 (NB : Int), .int .i64 8, .int .i64 64, .slice (some ⟨BL, 0, none⟩) NB NB, .slice none 0 0, .int .i64 si, .bool false, .int .i64 sk, .int .i64 rd]
def Mu (NB C BL : Nat) (ps : Nat → Nat) (k : Nat) : Prop := k = C ∨ k = BL ∨ ∃ j, j < NB ∧ k = ps j
def PgS (S M : Nat → Prop) (w : World) (v : Value) : Option (List UInt8) → Prop
 | none => v = .slice none 0 0
 | some L => L.length = 96 ∧ Own byteV 5 w 0 v L ∧ ∀ g, v.ownBlock = some g → S g ∧ ¬ M g
theorem PgS.kq {S M T : Nat → Prop} {w w' : World} {v : Value} {o : Option (List UInt8)} (h : PgS S M w v o) (hk : Kq T w w') (hT : ∀ k, S k → ¬ M k → ¬ T k) : PgS S M w' v o := by
 cases o with
 | none => exact h
 | some L => exact ⟨h.1, h.2.1.kq hk fun g hg => hT g (h.2.2 g hg).1 (h.2.2 g hg).2, h.2.2⟩
theorem PgS.weaken {S S' M M' : Nat → Prop} {w : World} {v : Value} {o : Option (List UInt8)} (h : PgS S M w v o) (hS : ∀ k, S k → S' k) (hM : ∀ k, S k → M' k → M k) : PgS S' M' w v o := by
 cases o with
 | none => exact h
 | some L => exact ⟨h.1, h.2.1, fun g hg => ⟨hS g (h.2.2 g hg).1, fun hm => (h.2.2 g hg).2 (hM g (h.2.2 g hg).1 hm)⟩⟩
structure DisQ (NB C BL : Nat) (ps : Nat → Nat) : Prop where
 cb : C ≠ BL
 pc : ∀ j, j < NB → ps j ≠ C
 pb : ∀ j, j < NB → ps j ≠ BL
 inj : ∀ i j, i < NB → j < NB → ps i = ps j → i = j
structure ChM (NB B : Nat) (S : Nat → Prop) (w : World) (C BL : Nat) (ps : Nat → Nat) (bl : Nat → Pb) : Prop where
 hC : ∃ si sk rd : Int, Blk w C 130 (chQ NB BL si sk rd)
 hB : OwnM 5 bvL 126 w 0 (.slice (some ⟨BL, 0, none⟩) NB NB) ((List.range NB).map fun k => pbV (ps k) (bl k))
 hP : ∀ k, k < NB → ∃ xs : List Value, xs.length = 8 ∧ Own vId 40 w 0 (.slice (some ⟨ps k, 0, none⟩) 8 8) xs ∧ ∀ i (h : i < xs.length), PgS S (Mu NB C BL ps) w xs[i] ((bl k).pgs i)
 dis : DisQ NB C BL ps
 hS : ∀ k, Mu NB C BL ps k → S k
 lo : ∀ k, S k → B ≤ k
 hi : ∀ k, S k → k < w.heap.size
section
variable {NB B C BL : Nat} {S T : Nat → Prop} {w w' : World} {ps : Nat → Nat} {bl : Nat → Pb}
theorem own_of (P n c : Nat) (g : Nat) (h : Value.ownBlock (.slice (some ⟨P, 0, none⟩) n c) = some g) : g = P := by
 simpa [Value.ownBlock, eq_comm] using h
theorem ChM.kq (h : ChM NB B S w C BL ps bl) (hk : Kq T w w') (hT : ∀ k, S k → ¬ T k) : ChM NB B S w' C BL ps bl := by
 obtain ⟨⟨si, sk, rd, h1⟩, h2, h3, h4, h5, h6, h7⟩ := h
 refine ⟨⟨si, sk, rd, h1.kq hk (hT _ (h5 _ (.inl rfl)))⟩, h2.kq hk fun g hg => by obtain rfl := own_of _ _ _ _ hg; exact hT _ (h5 _ (.inr (.inl rfl))), fun k hk' => ?_, h4, h5, h6, fun k hk' => Nat.lt_of_lt_of_le (h7 k hk') hk.size⟩
 obtain ⟨xs, x1, x2, x3⟩ := h3 k hk'
 exact ⟨xs, x1, x2.kq hk fun g hg => by obtain rfl := own_of _ _ _ _ hg; exact hT _ (h5 _ (.inr (.inr ⟨k, hk', rfl⟩))), fun i hi => (x3 i hi).kq hk fun k hs _ => hT k hs⟩
theorem ChM.on (h : ChM NB B S w C BL ps bl) (hb : Below w.heap.size w w') : ChM NB B S w' C BL ps bl := h.kq (T := fun _ => False) (Kq.of hb) fun _ _ h => h
theorem ChM.wide {S' : Nat → Prop} (h : ChM NB B S w C BL ps bl) (hS : ∀ k, S k → S' k) (lo : ∀ k, S' k → B ≤ k) (hi : ∀ k, S' k → k < w.heap.size) : ChM NB B S' w C BL ps bl := by
 obtain ⟨h1, h2, h3, h4, h5, h6, h7⟩ := h
 refine ⟨h1, h2, fun k hk => ?_, h4, fun k hk => hS k (h5 k hk), lo, hi⟩
 obtain ⟨xs, x1, x2, x3⟩ := h3 k hk
 exact ⟨xs, x1, x2, fun i hi => (x3 i hi).weaken hS fun _ _ h => h⟩
theorem ChM.rows (h : ChM NB B S w C BL ps bl) {k j : Nat} (hk : k < NB) (hj : j < 5) : w.cell? ⟨BL, k * 5 + j, none⟩ = (bvL (pbV (ps k) (bl k)))[j]? ∧ w.frozen? ⟨BL, k * 5 + j, none⟩ = false := by
 have h1 := h.hB.cellg (i := k) (j := j) (by simpa using hk) hj
 simpa using h1
theorem ChM.c0 (h : ChM NB B S w C BL ps bl) : w.cell? ⟨C, 0, none⟩ = some (.int .i64 (NB : Int)) := by obtain ⟨_, _, _, h⟩ := h.hC; exact h.cellv rfl
theorem ChM.c1 (h : ChM NB B S w C BL ps bl) : w.cell? ⟨C, 1, none⟩ = some (.int .i64 8) := by obtain ⟨_, _, _, h⟩ := h.hC; exact h.cellv rfl
theorem ChM.c2 (h : ChM NB B S w C BL ps bl) : w.cell? ⟨C, 2, none⟩ = some (.int .i64 64) := by obtain ⟨_, _, _, h⟩ := h.hC; exact h.cellv rfl
theorem ChM.c3 (h : ChM NB B S w C BL ps bl) : w.cell? ⟨C, 3, none⟩ = some (.slice (some ⟨BL, 0, none⟩) NB NB) := by obtain ⟨_, _, _, h⟩ := h.hC; exact h.cellv rfl
theorem ChM.c4 (h : ChM NB B S w C BL ps bl) : w.cell? ⟨C, 4, none⟩ = some (.slice none 0 0) := by obtain ⟨_, _, _, h⟩ := h.hC; exact h.cellv rfl
theorem ChM.c6 (h : ChM NB B S w C BL ps bl) : w.cell? ⟨C, 6, none⟩ = some (.bool false) := by obtain ⟨_, _, _, h⟩ := h.hC; exact h.cellv rfl
theorem ChM.b0 (h : ChM NB B S w C BL ps bl) {k : Nat} (hk : k < NB) : w.cell? ⟨BL, k * 5, none⟩ = some (.slice (some ⟨ps k, 0, none⟩) 8 8) ∧ w.frozen? ⟨BL, k * 5, none⟩ = false := h.rows hk (j := 0) (by omega)
theorem ChM.b1 (h : ChM NB B S w C BL ps bl) {k : Nat} (hk : k < NB) : w.cell? ⟨BL, k * 5 + 1, none⟩ = some (.int .i64 ((bl k).nx : Int)) ∧ w.frozen? ⟨BL, k * 5 + 1, none⟩ = false := h.rows hk (j := 1) (by omega)
theorem ChM.b2 (h : ChM NB B S w C BL ps bl) {k : Nat} (hk : k < NB) : w.cell? ⟨BL, k * 5 + 2, none⟩ = some (.bool (bl k).broken) ∧ w.frozen? ⟨BL, k * 5 + 2, none⟩ = false := h.rows hk (j := 2) (by omega)
theorem ChM.b3 (h : ChM NB B S w C BL ps bl) {k : Nat} (hk : k < NB) : w.cell? ⟨BL, k * 5 + 3, none⟩ = some (.bool (bl k).bad) ∧ w.frozen? ⟨BL, k * 5 + 3, none⟩ = false := h.rows hk (j := 3) (by omega)
theorem ChM.b4 (h : ChM NB B S w C BL ps bl) {k : Nat} (hk : k < NB) : w.cell? ⟨BL, k * 5 + 4, none⟩ = some (.int .i64 ((bl k).wear : Int)) ∧ w.frozen? ⟨BL, k * 5 + 4, none⟩ = false := h.rows hk (j := 4) (by omega)
theorem ChM.frzC (h : ChM NB B S w C BL ps bl) (i : Nat) : w.frozen? ⟨C, i, none⟩ = false := by obtain ⟨_, _, _, h⟩ := h.hC; exact h.frozen i
theorem ChM.ltC (h : ChM NB B S w C BL ps bl) : C < w.heap.size := h.hi _ (h.hS _ (.inl rfl))
theorem ChM.setC (h : ChM NB B S w C BL ps bl) (i : Nat) (u : Value) (hx : ∀ si sk rd : Int, ∃ si' sk' rd' : Int, (chQ NB BL si sk rd).setIfInBounds i u = chQ NB BL si' sk' rd') : ChM NB B S (w.setCell ⟨C, i, none⟩ u) C BL ps bl := by
 obtain ⟨⟨si, sk, rd, h1⟩, h2, h3, h4, h5, h6, h7⟩ := h
 obtain ⟨si', sk', rd', e⟩ := hx si sk rd
 have hk : Kq (fun k => k = C) w (w.setCell ⟨C, i, none⟩ u) := Kq.one ⟨_, _, none⟩ _
 refine ⟨⟨si', sk', rd', e ▸ h1.set i u⟩, h2.kq hk fun g hg => by obtain rfl := own_of _ _ _ _ hg; exact Ne.symm h4.cb, fun k hk' => ?_, h4, h5, h6, fun k hk' => by simpa using h7 k hk'⟩
 obtain ⟨xs, x1, x2, x3⟩ := h3 k hk'
 exact ⟨xs, x1, x2.kq hk fun g hg => by obtain rfl := own_of _ _ _ _ hg; exact h4.pc k hk', fun i hi => (x3 i hi).kq hk fun k _ hm e => hm (.inl e)⟩
theorem ChM.setB (h : ChM NB B S w C BL ps bl) {k j : Nat} (hk : k < NB) (hj : j < 5) (u : Value) (x : Pb) (hx : bvL (pbV (ps k) x) = (bvL (pbV (ps k) (bl k))).set j u) (hp : x.pgs = (bl k).pgs) : ChM NB B S (w.setCell ⟨BL, k * 5 + j, none⟩ u) C BL ps (upd bl k x) := by
 obtain ⟨⟨si, sk, rd, h1⟩, h2, h3, h4, h5, h6, h7⟩ := h
 have hq : Kq (fun k => k = BL) w (w.setCell ⟨BL, k * 5 + j, none⟩ u) := Kq.one ⟨_, _, none⟩ _
 refine ⟨⟨si, sk, rd, h1.kq hq h4.cb⟩, ?_, fun i hi' => ?_, h4, h5, h6, fun k hk' => by simpa using h7 k hk'⟩
 ·have hs := h2.set (i := k) (j := j) (u := u) (y := pbV (ps k) x) (by simpa using hk) hj (by simpa using hx)
  have e : ((List.range NB).map fun k => pbV (ps k) (bl k)).set k (pbV (ps k) x) = (List.range NB).map fun i => pbV (ps i) (upd bl k x i) := by
   apply List.ext_getElem
   ·simp
   ·intro i g1 g2
    rw [List.getElem_set]
    simp only [List.getElem_map, List.getElem_range]
    by_cases e : k = i
    ·subst e; rw [if_pos rfl, upd_same]
    ·rw [if_neg e, upd_other _ _ (Ne.symm e)]
  rw [e] at hs
  exact hs
 ·obtain ⟨xs, x1, x2, x3⟩ := h3 i hi'
  refine ⟨xs, x1, x2.kq hq fun g hg => by obtain rfl := own_of _ _ _ _ hg; exact h4.pb i hi', fun q hq' => ?_⟩
  have h8 := (x3 q hq').kq hq fun k _ hm e => hm (.inr (.inl e))
  by_cases e : i = k
  ·subst e; rw [upd_same, hp]; exact h8
  ·rw [upd_other _ _ e]; exact h8
theorem ChM.setP (h : ChM NB B S w C BL ps bl) {k i : Nat} (hk : k < NB) (v : Value) (o : Option (List UInt8)) (hv : PgS S (Mu NB C BL ps) w v o) (x : Pb) (hx : pbV (ps k) x = pbV (ps k) (bl k)) (hp : x.pgs = upd (bl k).pgs i o) : ChM NB B S (w.setCell ⟨ps k, i, none⟩ v) C BL ps (upd bl k x) := by
 obtain ⟨⟨si, sk, rd, h1⟩, h2, h3, h4, h5, h6, h7⟩ := h
 have hq : Kq (fun q => q = ps k) w (w.setCell ⟨ps k, i, none⟩ v) := Kq.one ⟨_, _, none⟩ _
 have hMu : ∀ q, S q → ¬ Mu NB C BL ps q → ¬ (q = ps k) := fun q _ hm e => hm (.inr (.inr ⟨k, hk, e⟩))
 refine ⟨⟨si, sk, rd, h1.kq hq (Ne.symm (h4.pc k hk))⟩, ?_, fun j hj => ?_, h4, h5, h6, fun k hk' => by simpa using h7 k hk'⟩
 ·have e : ((List.range NB).map fun k => pbV (ps k) (bl k)) = (List.range NB).map fun i => pbV (ps i) (upd bl k x i) := by
   apply List.map_congr_left
   intro q _
   by_cases e : q = k
   ·subst e; rw [upd_same, hx]
   ·rw [upd_other _ _ e]
  rw [← e]
  exact h2.kq hq fun g hg => by obtain rfl := own_of _ _ _ _ hg; exact Ne.symm (h4.pb k hk)
 ·obtain ⟨xs, x1, x2, x3⟩ := h3 j hj
  by_cases e : j = k
  ·subst e
   refine ⟨xs.set i v, by rw [List.length_set]; exact x1, x2.set i v, fun q hq' => ?_⟩
   rw [List.length_set] at hq'
   rw [upd_same, hp, List.getElem_set]
   by_cases e2 : i = q
   ·subst e2
    rw [if_pos rfl, upd_same]
    exact hv.kq hq hMu
   ·rw [if_neg e2, upd_other _ _ (Ne.symm e2)]
    exact (x3 q hq').kq hq hMu
  ·refine ⟨xs, x1, x2.kq hq fun g hg => by obtain rfl := own_of _ _ _ _ hg; exact fun e2 => e (h4.inj j k hj hk e2), fun q hq' => ?_⟩
   rw [upd_other _ _ e]
   exact (x3 q hq').kq hq hMu
theorem ChM.setN (h : ChM NB B S w C BL ps bl) {k P' : Nat} (hk : k < NB) (ho : Own vId 40 w 0 (.slice (some ⟨P', 0, none⟩) 8 8) nil8) (hP : ¬ S P') (hB : B ≤ P') (x : Pb) (hx : x.nx = (bl k).nx ∧ x.broken = (bl k).broken ∧ x.bad = (bl k).bad ∧ x.wear = (bl k).wear) (hp : x.pgs = fun _ => none) :
  ChM NB B (fun q => S q ∨ q = P') (w.setCell ⟨BL, k * 5, none⟩ (.slice (some ⟨P', 0, none⟩) 8 8)) C BL (upd ps k P') (upd bl k x) := by
 obtain ⟨⟨si, sk, rd, h1⟩, h2, h3, h4, h5, h6, h7⟩ := h
 have hlt : P' < w.heap.size := (ho.blockLt P' rfl).2
 have hq : Kq (fun k => k = BL) w (w.setCell ⟨BL, k * 5, none⟩ (.slice (some ⟨P', 0, none⟩) 8 8)) := Kq.one ⟨_, _, none⟩ _
 have hM1 : ∀ q, S q → ¬ Mu NB C BL ps q → ¬ (q = BL) := fun q _ hm e => hm (.inr (.inl e))
 have hMM : ∀ q, Mu NB C BL (upd ps k P') q → Mu NB C BL ps q ∨ q = P' := by
  rintro q (e | e | ⟨j, hj, e⟩)
  ·exact .inl (.inl e)
  ·exact .inl (.inr (.inl e))
  ·by_cases e2 : j = k
   ·subst e2; rw [upd_same] at e; exact .inr e
   ·rw [upd_other _ _ e2] at e; exact .inl (.inr (.inr ⟨j, hj, e⟩))
 have hne : ∀ q, Mu NB C BL ps q → q ≠ P' := fun q hm e => hP (e ▸ h5 q hm)
 refine ⟨⟨si, sk, rd, h1.kq hq h4.cb⟩, ?_, fun j hj => ?_, ⟨h4.cb, fun j hj => ?_, fun j hj => ?_, fun i j hi hj e => ?_⟩, fun q hm => ?_, fun q hs => ?_, fun q hs => ?_⟩
 ·have hs := h2.set (i := k) (j := 0) (u := .slice (some ⟨P', 0, none⟩) 8 8) (y := pbV P' x) (by simpa using hk) (by omega) (by obtain ⟨e1, e2, e3, e4⟩ := hx; simp [bvL, pbV, e1, e2, e3, e4])
  have e : ((List.range NB).map fun k => pbV (ps k) (bl k)).set k (pbV P' x) = (List.range NB).map fun i => pbV (upd ps k P' i) (upd bl k x i) := by
   apply List.ext_getElem
   ·simp
   ·intro i g1 g2
    rw [List.getElem_set]
    simp only [List.getElem_map, List.getElem_range]
    by_cases e : k = i
    ·subst e; rw [if_pos rfl, upd_same, upd_same]
    ·rw [if_neg e, upd_other _ _ (Ne.symm e), upd_other _ _ (Ne.symm e)]
  rw [e] at hs
  exact hs
 ·by_cases e : j = k
  ·subst e
   rw [upd_same, upd_same, hp]
   refine ⟨nil8, rfl, ho.kq hq fun g hg => by obtain rfl := own_of _ _ _ _ hg; exact fun e => hne _ (.inr (.inl rfl)) e.symm, fun i hi => ?_⟩
   exact List.eq_of_mem_replicate (n := 8) (List.getElem_mem hi)
  ·obtain ⟨xs, x1, x2, x3⟩ := h3 j hj
   rw [upd_other _ _ e, upd_other _ _ e]
   exact ⟨xs, x1, x2.kq hq fun g hg => by obtain rfl := own_of _ _ _ _ hg; exact h4.pb j hj, fun i hi => ((x3 i hi).kq hq hM1).weaken (fun _ hs => .inl hs) fun q hs hm => by rcases hMM q hm with h8 | h8; exact h8; exact absurd hs (h8 ▸ hP)⟩
 ·by_cases e : j = k
  ·subst e; rw [upd_same]; exact fun e => hne _ (.inl rfl) e.symm
  ·rw [upd_other _ _ e]; exact h4.pc j hj
 ·by_cases e : j = k
  ·subst e; rw [upd_same]; exact fun e => hne _ (.inr (.inl rfl)) e.symm
  ·rw [upd_other _ _ e]; exact h4.pb j hj
 ·by_cases e1 : i = k
  ·by_cases e2 : j = k
   ·rw [e1, e2]
   ·subst e1
    rw [upd_same, upd_other _ _ e2] at e
    exact absurd e.symm (hne _ (.inr (.inr ⟨j, hj, rfl⟩)))
  ·by_cases e2 : j = k
   ·subst e2
    rw [upd_same, upd_other _ _ e1] at e
    exact absurd e (hne _ (.inr (.inr ⟨i, hi, rfl⟩)))
   ·rw [upd_other _ _ e1, upd_other _ _ e2] at e
    exact h4.inj i j hi hj e
 ·rcases hMM q hm with h8 | h8
  ·exact .inl (h5 q h8)
  ·exact .inr h8
 ·rcases hs with h8 | h8
  ·exact h6 q h8
  ·omega
 ·rw [World.size_setCell]
  rcases hs with h8 | h8
  ·exact h7 q h8
  ·omega
theorem ChM.page (h : ChM NB B S w C BL ps bl) {k i : Nat} (hk : k < NB) (hi : i < 8) : ∃ v, w.cell? ⟨ps k, i, none⟩ = some v ∧ w.frozen? ⟨ps k, i, none⟩ = false ∧ PgS S (Mu NB C BL ps) w v ((bl k).pgs i) := by
 obtain ⟨xs, x1, x2, x3⟩ := h.hP k hk
 obtain ⟨c1, c2⟩ := x2.cellg (k := i) (by omega)
 exact ⟨xs[i], c1, c2, x3 i (by omega)⟩
end
end
section
open Go.RowKit

section
variable {NB B C BL : Nat} {S : Nat → Prop} {w : World} {ps : Nat → Nat} {bl : Nat → Pb}
theorem chThere_calls (h : ChM NB B S w C BL ps bl) {k : Nat} (hk : k < NB) :
  Calls Tryz.prog 107 #[.pointer (some ⟨C, 0, none⟩), .int .i64 (k : Int)] w fun e w' => e = .returned (.bool true) ∧ w = w' := by
 have c3 := h.c3
 have g1 : (0 : Int) ≤ (k : Int) := by omega
 have g2 : (k : Int) < (NB : Int) := by omega
 clear h hk
 go_enter Tryz.func107, Tryz.ntmps107
 go_wp2
 go_ret
 exact ⟨rfl, rfl⟩
theorem chFull_calls (h : ChM NB B S w C BL ps bl) :
  Calls Tryz.prog 89 #[.pointer (some ⟨C, 0, none⟩)] w fun e w' => e = .returned (.int .i64 96) ∧ w = w' := by
 have c2 := h.c2
 clear h
 go_enter Tryz.func89, Tryz.ntmps89
 go_wp2
 go_ret
 exact ⟨rfl, rfl⟩
theorem chAsked_calls (h : ChM NB B S w C BL ps bl) {k i : Nat} (hk : k < NB) (hi : i < 8) :
  Calls Tryz.prog 88 #[.pointer (some ⟨C, 0, none⟩), .int .i64 (k : Int), .int .i64 (i : Int)] w fun e w' => e = .returned (.int .i64 0) ∧ w = w' := by
 have HT := hid (chThere_calls h hk)
 have c1 := h.c1
 have c6 := h.c6
 have g1 : (0 : Int) ≤ (i : Int) := by omega
 have g2 : (i : Int) < 8 := by omega
 clear h hk hi
 go_enter Tryz.func88, Tryz.ntmps88
 go_wp2_with fail
 refine (HT.out).mono ?_
 rintro e w_ ⟨rfl, rfl⟩
 go_wp2
 go_ret
 exact ⟨rfl, rfl⟩
theorem chUp_calls (h : ChM NB B S w C BL ps bl) :
  Calls Tryz.prog 61 #[.pointer (some ⟨C, 0, none⟩)] w fun e w' => e = .returned (.bool true) ∧ w = w' := by
 have c6 := h.c6
 clear h
 go_enter Tryz.func61, Tryz.ntmps61
 go_wp2
 go_ret
 exact ⟨rfl, rfl⟩
def geoV (NB : Nat) : Value := .agg #[.int .i64 (NB : Int), .int .i64 8, .int .i64 64]
theorem geoCells : Tryz.prog.cellsOf 66 = 3 := by kernel_rfl
theorem chGeo_calls (h : ChM NB B S w C BL ps bl) :
  Calls Tryz.prog 62 #[.pointer (some ⟨C, 0, none⟩)] w fun e w' => e = .returned (geoV NB) ∧ Below w.heap.size w w' := by
 have hb := (Below.refl w.heap.size w).alloc (Nat.le_refl _) (.cells #[.int .i64 0, .int .i64 0, .int .i64 0] 66)
 have h1 := h.on hb
 have hk := Blk.new w 66 #[.int .i64 0, .int .i64 0, .int .i64 0]
 have c0 := h1.c0
 have c1 := h1.c1
 have c2 := h1.c2
 have k0 := hk.cellv (i := 0) rfl
 have k1 := hk.cellv (i := 1) rfl
 have k2 := hk.cellv (i := 2) rfl
 have f0 := hk.frozen 0
 have f1 := hk.frozen 1
 have f2 := hk.frozen 2
 have hcs := geoCells
 clear h h1 hb hk
 go_enter Tryz.func62, Tryz.ntmps62
 go_wp2
 refine bodyPost_ret (v := geoV NB) (by simp [results, Tryz.results62, go_sem, geoV]) rfl ⟨rfl, (Below.refl _ _).alloc (Nat.le_refl _) _⟩
theorem chBad_calls (h : ChM NB B S w C BL ps bl) {k : Nat} (hk : k < NB) :
  Calls Tryz.prog 65 #[.pointer (some ⟨C, 0, none⟩), .int .i64 (k : Int)] w fun e w' => e = .returned (.bool (bl k).bad) ∧ w = w' := by
 have HT := hid (chThere_calls h hk)
 have c3 := h.c3
 have b3 := (h.b3 hk).1
 have g1 : (0 : Int) ≤ (k : Int) := by omega
 have g2 : (k : Int) < (NB : Int) := by omega
 clear h hk
 go_enter Tryz.func65, Tryz.ntmps65
 go_wp2_with fail
 refine (HT.out).mono ?_
 rintro e w_ ⟨rfl, rfl⟩
 go_wp2
 go_ret
 exact ⟨rfl, rfl⟩
theorem chWear_calls (h : ChM NB B S w C BL ps bl) {k : Nat} (hk : k < NB) :
  Calls Tryz.prog 109 #[.pointer (some ⟨C, 0, none⟩), .int .i64 (k : Int)] w fun e w' => e = .returned (.int .i64 ((bl k).wear : Int)) ∧ w = w' := by
 have HT := hid (chThere_calls h hk)
 have c3 := h.c3
 have b4 := (h.b4 hk).1
 have g1 : (0 : Int) ≤ (k : Int) := by omega
 have g2 : (k : Int) < (NB : Int) := by omega
 clear h hk
 go_enter Tryz.func109, Tryz.ntmps109
 go_wp2_with fail
 refine (HT.out).mono ?_
 rintro e w_ ⟨rfl, rfl⟩
 go_wp2
 go_ret
 exact ⟨rfl, rfl⟩
end
end
section
open Go.RowKit

section
variable {NB B C BL : Nat} {S : Nat → Prop} {w : World} {ps : Nat → Nat} {bl : Nat → Pb}
theorem ChM.set5 (h : ChM NB B S w C BL ps bl) (x : Int) : ChM NB B S (w.setCell ⟨C, 5, none⟩ (.int .i64 x)) C BL ps bl := h.setC 5 _ fun _ sk rd => ⟨x, sk, rd, rfl⟩
theorem ChM.set7 (h : ChM NB B S w C BL ps bl) (x : Int) : ChM NB B S (w.setCell ⟨C, 7, none⟩ (.int .i64 x)) C BL ps bl := h.setC 7 _ fun si _ rd => ⟨si, x, rd, rfl⟩
theorem ChM.set8 (h : ChM NB B S w C BL ps bl) (x : Int) : ChM NB B S (w.setCell ⟨C, 8, none⟩ (.int .i64 x)) C BL ps bl := h.setC 8 _ fun si sk _ => ⟨si, sk, x, rfl⟩
theorem chFault_calls (h : ChM NB B S w C BL ps bl) :
  Calls Tryz.prog 90 #[.pointer (some ⟨C, 0, none⟩)] w fun e w' => e = .returned (.agg #[.int .i64 0, .int .i64 0, .slice none 0 0]) ∧ ChM NB B S w' C BL ps bl ∧ Kq (fun q => q = C) w w' := by
 obtain ⟨si, sk, rd, hC⟩ := h.hC
 have c5 : w.cell? ⟨C, 5, none⟩ = some (.int .i64 si) := hC.cellv rfl
 have c7 : w.cell? ⟨C, 7, none⟩ = some (.int .i64 sk) := hC.cellv rfl
 have c4 := h.c4
 have f5 := h.frzC 5
 have f7 := h.frzC 7
 have hA := (h.set5 (wrap64 (si + 1))).set7 (wrap64 (sk + 1))
 have hK := (Kq.one (w := w) ⟨C, 5, none⟩ (.int .i64 (wrap64 (si + 1)))).setCell (p := ⟨C, 7, none⟩) (.inl rfl) (.int .i64 (wrap64 (sk + 1)))
 have HA := hid hA
 have HG := hid (show ((w.setCell ⟨C, 5, none⟩ (.int .i64 (wrap64 (si + 1)))).setCell ⟨C, 7, none⟩ (.int .i64 (wrap64 (sk + 1)))).heap.size = w.heap.size by simp)
 have HK := hid hK
 have hlt := h.ltC
 clear h hC hA hK
 go_enter Tryz.func90, Tryz.ntmps90
 go_wp2
 go_step3
 go_wp2_with fail
 clear c5 c7 c4 f5 f7
 generalize (w.setCell ⟨C, 5, none⟩ (.int .i64 (wrap64 (si + 1)))).setCell ⟨C, 7, none⟩ (.int .i64 (wrap64 (sk + 1))) = wA at *
 generalize w.heap.size = g at *
 have hbb := ((Below.refl wA.heap.size wA).alloc (Nat.le_refl _) (.cells #[.int .i64 0, .int .i64 0, .slice none 0 0] 159)).alloc (by simp) (.cells #[.int .i64 0, .int .i64 0, .slice none 0 0] 159)
 have ra := (Blk.new wA 159 #[.int .i64 0, .int .i64 0, .slice none 0 0]).alloc (.cells #[.int .i64 0, .int .i64 0, .slice none 0 0] 159)
 have rb := Blk.new (wA.alloc (.cells #[.int .i64 0, .int .i64 0, .slice none 0 0] 159)) 159 #[.int .i64 0, .int .i64 0, .slice none 0 0]
 rw [World.size_alloc] at rb
 rw [HG.out] at ra rb
 have HBb := hid hbb
 have H2 := HA.out.on hbb
 have c4 := H2.c4
 generalize (wA.alloc (.cells #[.int .i64 0, .int .i64 0, .slice none 0 0] 159)).alloc (.cells #[.int .i64 0, .int .i64 0, .slice none 0 0] 159) = w2 at *
 have e0 := rb.cellv (i := 0) rfl
 have e1 := rb.cellv (i := 1) rfl
 have e2 := rb.cellv (i := 2) rfl
 have i0 := ra.cellv (i := 0) rfl
 have i1 := ra.cellv (i := 1) rfl
 have i2 := ra.cellv (i := 2) rfl
 have j0 := ra.frozen 0
 have j1 := ra.frozen 1
 have j2 := ra.frozen 2
 have HR := hid ra
 clear hbb H2 ra rb
 go_step3
 go_wp2
 go_loopw [6, 31] (fun _ i wr => i = .int .i64 0 ∧ wr = w2) (fun _ _ _ => 0)
 case atStart => exact ⟨rfl, rfl⟩
 case round =>
  obtain ⟨rfl, rfl⟩ := hrel
  have hgA : wA.heap.size ≤ g := by have := HG.out; omega
  have HB2 := hid (((HBb.out.setCell (p := ⟨g, 0, none⟩) hgA (.int .i64 0)).setCell (p := ⟨g, 1, none⟩) hgA (.int .i64 0)).setCell (p := ⟨g, 2, none⟩) hgA (.slice none 0 0))
  have hs := ((HR.out.set 0 (.int .i64 0)).set 1 (.int .i64 0)).set 2 (.slice none 0 0)
  have q0 := hs.cellv (i := 0) (v := .int .i64 0) rfl
  have q1 := hs.cellv (i := 1) (v := .int .i64 0) rfl
  have q2 := hs.cellv (i := 2) (v := .slice none 0 0) rfl
  clear hs hgA
  go_wp2
  rw [Exit.noGoto_ret]
  refine bodyPost_ret (v := .agg #[.int .i64 0, .int .i64 0, .slice none 0 0]) (by simp [results, Tryz.results90, go_sem, q0, q1, q2]) rfl ⟨rfl, HA.out.on HB2.out, HK.out.on HB2.out⟩
end
end
end Go.Proofs.YtcppkaphlcflgaaGreat
