import Derived.Test.YtcppkaphlcflgaaGreatFtlMem
import Derived.OwnWalkIn
import Derived.TacticsInMore
import Derived.LoopNIn
import Derived.LoopIn
import Derived.BigRegionIn
import Derived.Sort.BigQuietIn
namespace Go.Proofs.YtcppkaphlcflgaaGreat
open Lib (hid)
set_option maxRecDepth 100000
set_option maxHeartbeats 16000000
section
open Go.RowKit

def Grew (X : Nat → Prop) (W : World) (X' : Nat → Prop) : Prop := ∀ q, X' q → X q ∨ W.heap.size ≤ q
structure JX {α : Type} (T : Nat → Prop) (n : Nat) (J : List α → (Nat → Prop) → World → Prop) : Prop where
 bd : ∀ pre X W, J pre X W → ∀ q, X q → q < W.heap.size
 kq : ∀ pre X W W' (T' : Nat → Prop), J pre X W → Kq T' W W' → (∀ q, T' q → (T q ∨ n ≤ q) ∧ ¬ X q) → J pre X W'
theorem JX.mono {α : Type} {T : Nat → Prop} {n m : Nat} {J : List α → (Nat → Prop) → World → Prop} (h : JX T n J) (hm : n ≤ m) : JX T m J :=
 ⟨h.bd, fun pre X W W' T' h1 h2 h3 => h.kq pre X W W' T' h1 h2 fun q hq => ⟨(h3 q hq).1.imp id (Nat.le_trans hm), (h3 q hq).2⟩⟩
theorem JX.on {α : Type} {T : Nat → Prop} {n : Nat} {J : List α → (Nat → Prop) → World → Prop} (h : JX T n J) {pre : List α} {X : Nat → Prop} {W W' : World} (h1 : J pre X W) (hb : Below W.heap.size W W') : J pre X W' :=
 h.kq pre X W W' (fun _ => False) h1 (Kq.of hb) fun _ h => h.elim
def RoundX {α : Type} (J Jx : List α → (Nat → Prop) → World → Prop) (pre : List α) (X : Nat → Prop) (W : World) (e : Ending) (W' : World) : Prop :=
 ((e = .returned (.bool true) ∧ ∃ X', J pre X' W' ∧ Grew X W X') ∨ (e = .returned (.bool false) ∧ ∃ X', Jx pre X' W' ∧ Grew X W X')) ∧ Kq X W W'
def IterX {α : Type} (P : Program) (gf : Nat) (lb : Array Value) (encs : α → Array Value) (xs : List α) (st : Prop) (Po : World → Prop) (T own : Nat → Prop) (w0 : World) : Prop :=
 ∀ (l : Nat) (J Jx : List α → (Nat → Prop) → World → Prop) (X : Nat → Prop) (W : World), JX T W.heap.size J → JX T W.heap.size Jx → (st ∨ ∀ pre X W, ¬ Jx pre X W) → Kq (fun q => ¬ own q) w0 W → (∀ q, X q → ¬ T q ∧ ¬ own q) → (∀ q, own q → q < w0.heap.size) →
  (∀ pre x X1 W1, J pre X1 W1 → (pre ++ [x]) <+: xs → YieldAt Fence.wide 7 P l (encs x) W1 (RoundX J Jx (pre ++ [x]) X1 W1)) → J [] X W →
  CallsIn Fence.wide 8 P gf (#[.func (.yield l) #[] #[]] ++ lb) W fun e W' => (∃ v, e = .returned v) ∧ ((∃ X', J xs X' W' ∧ Grew X W X') ∨ ∃ pre X', pre <+: xs ∧ Jx pre X' W' ∧ Grew X W X') ∧ Kq (fun q => T q ∨ X q) W W' ∧ Po W'
def LeftX {α : Type} (I : List α → (Nat → Prop) → World → Prop) (Ix : Code → List α → (Nat → Prop) → World → Prop) (pre : List α) (X : Nat → Prop) (W : World) : Exit → Act → World → Prop
 | .normal, _, W' => (∃ X', I pre X' W' ∧ Grew X W X') ∧ Kq X W W'
 | .ret, _, W' => (∃ X', Ix .ret pre X' W' ∧ Grew X W X') ∧ Kq X W W'
 | .exit id, _, W' => (∃ X', Ix (.exit id) pre X' W' ∧ Grew X W X') ∧ Kq X W W'
 | .goto g, _, W' => (∃ X', Ix (.goto g) pre X' W' ∧ Grew X W X') ∧ Kq X W W'
 | .panic _, _, _ => False
 | .outgrown, _, _ => False
theorem Grew.refl (X : Nat → Prop) (W : World) : Grew X W X := fun _ h => .inl h
theorem Grew.trans {X X1 X2 : Nat → Prop} {W W1 : World} (h : Grew X W X1) (k : Grew X1 W1 X2) (hs : W.heap.size ≤ W1.heap.size) : Grew X W X2 := fun q hq => by
 rcases k q hq with h1 | h1
 ·exact h q h1
 ·exact .inr (by omega)
theorem Grew.not {X X' : Nat → Prop} {W : World} (h : Grew X W X') {q : Nat} (hq : ¬ X q) (hl : q < W.heap.size) : ¬ X' q := fun h1 => by
 rcases h q h1 with h2 | h2
 ·exact hq h2
 ·omega
theorem kq_putObj (W : World) (l : Nat) (o : Obj) : Kq (fun q => q = l) W (W.putObj l o) :=
 ⟨rfl, rfl, rfl, by rw [World.putObj_size]; exact Nat.le_refl _, fun k _ hn => World.putObj_heap_other (fun e => hn e)⟩
theorem range_lawX {α : Type} {P : Program} {g : Operand} {ps : Array Tmp} {assign body : Code} {Q : Exit → Act → World → Prop} {a : Act} {w : World} {gf : Nat} {lb : Array Value} {encs : α → Array Value} {xs : List α} {st : Prop} {Po : World → Prop} {T own : Nat → Prop} {w0 : World}
  (hg : a.eval g = .func (.func gf) #[] lb) (eg : ∀ args w, (callFunc gf args).run P w = .ok (.enter gf args) w) (hit : IterX P gf lb encs xs st Po T own w0) (hPo : ∀ W W' q0, Po W → Kq (fun q => q = q0) W W' → w.heap.size ≤ q0 → Po W') (hb0 : Kq (fun q => ¬ own q) w0 w) (hown : ∀ q, own q → q < w0.heap.size) (hT : ∀ q, T q → q < w.heap.size)
  (hps : ∀ x, (encs x).size = ps.size) (I : List α → (Nat → Prop) → World → Prop) (hI : JX T w.heap.size I) (Ix : Code → List α → (Nat → Prop) → World → Prop) (hIx : ∀ k, JX T w.heap.size (Ix k)) (hst : st ∨ ∀ k pre X W, ¬ Ix k pre X W) (X : Nat → Prop) (h0 : I [] X w) (hX : ∀ q, X q → ¬ T q ∧ ¬ own q) (a₁ : α → Act)
  (hassign : ∀ (l : Nat) (x : α) (W : World) (K : Act → World → Prop), K (a₁ x) W → assign.wpIn (Fence.wide.inRound l) 7 P (Exit.then K (fun _ _ _ => False)) { tmps := (ps.zip (encs x)).foldl (fun t (p, v) => t.setIfInBounds p v) a.tmps, defers := [] } W)
  (hbody : ∀ (l : Nat) (pre : List α) (x : α) (X1 : Nat → Prop) (W : World), I pre X1 W → Grew X w X1 → w.heap.size ≤ W.heap.size → (pre ++ [x]) <+: xs → body.wpIn (Fence.wide.inRound l) 7 P (LeftX I Ix (pre ++ [x]) X1 W) (a₁ x) W)
  (hdone : ∀ (D : Nat) (X1 : Nat → Prop) (W : World), w.heap.size ≤ D → I xs X1 W → Grew X w X1 → Kq (fun q => T q ∨ X q) w W → (∀ q, X1 q → q ≠ D) → Po W → W.heap[D]? = some (.deferred (some [])) → Q .normal { a with defers := { target := .collected D, args := #[] } :: a.defers } W)
  (hstop : ∀ (D : Nat) (k : Code) (pre : List α) (X1 : Nat → Prop) (W : World), w.heap.size ≤ D → pre <+: xs → Ix k pre X1 W → Grew X w X1 → Kq (fun q => T q ∨ X q) w W → (∀ q, X1 q → q ≠ D) → Po W → W.heap[D]? = some (.deferred (some [])) → k.wpIn Fence.wide 9 P Q { a with defers := { target := .collected D, args := #[] } :: a.defers } W) :
  (Code.rangeFunc g ps assign body).wpIn Fence.wide 9 P Q a w := by
 refine wpIn_rangeFunc fun fn hfn => ?_
 obtain ⟨D, hD⟩ : ∃ D, w.heap.size = D := ⟨_, rfl⟩
 obtain ⟨R, hR⟩ : ∃ R : LoopState → Option Code → Loop, R = fun st pe => { state := st, pending := pe, fn, tmps := a.tmps, params := ps, assign, body, defers := D } := ⟨_, rfl⟩
 obtain ⟨V, hV⟩ : ∃ V, (w.alloc (.deferred (some []))).alloc (.loop (R .ready none)) = V := ⟨_, rfl⟩
 have vl : V.heap[D + 1]? = some (.loop (R .ready none)) := by
  have h := World.alloc_heap_new (w.alloc (.deferred (some []))) (.loop (R .ready none))
  rw [World.size_alloc, hD, hV] at h
  exact h
 have vd : V.heap[D]? = some (.deferred (some [])) := by
  rw [← hV, Below.heap_alloc _ _ _ (by rw [World.size_alloc]; omega), ← hD]
  exact World.alloc_heap_new w _
 have vs : V.heap.size = D + 2 := by rw [← hV, World.size_alloc, World.size_alloc, hD]
 have hbV : Below w.heap.size w V := by
  rw [← hV]
  exact ((Below.refl _ w).alloc (Nat.le_refl _) _).alloc (by rw [World.size_alloc]; omega) _
 have hXb := hI.bd _ _ _ h0
 have hIV : I [] X V := hI.on h0 hbV
 have turn2 : ∀ (A : World) (r : Loop) (jump : Option Code), A.heap[D + 1]? = some (.loop r) → (A.putObj (D + 1) (.loop { r with state := if jump.isNone then .ready else .done, pending := jump })).heap[D + 1]? = some (.loop { r with state := if jump.isNone then .ready else .done, pending := jump }) :=
  fun A r jump h => World.putObj_heap_same (heap_lt h)
 obtain ⟨JJ, hJJ⟩ : ∃ JJ : (List α → (Nat → Prop) → World → Prop) → LoopState → Option Code → List α → (Nat → Prop) → World → Prop, JJ = fun K st pe pre X' W => ∃ X1, K pre X1 W ∧ Grew X w X1 ∧ W.heap[D + 1]? = some (.loop (R st pe)) ∧ W.heap[D]? = some (.deferred (some [])) ∧ (∀ q, X' q ↔ X1 q ∨ q = D ∨ q = D + 1) ∧ (∀ q, X1 q → q ≠ D ∧ q ≠ D + 1) ∧ D + 2 ≤ W.heap.size := ⟨_, rfl⟩
 have hJJX : ∀ K st pe, JX T w.heap.size K → JX T w.heap.size (JJ K st pe) := by
  intro K st pe hK
  rw [hJJ]
  refine ⟨?_, ?_⟩
  ·rintro pre X' W ⟨X1, h1, h2, h3, h4, h5, h6, h7⟩ q hq
   rcases (h5 q).1 hq with h | h | h
   ·exact hK.bd _ _ _ h1 q h
   ·omega
   ·omega
  ·rintro pre X' W W' T' ⟨X1, h1, h2, h3, h4, h5, h6, h7⟩ hk hn
   refine ⟨X1, hK.kq _ _ _ _ T' h1 hk fun q hq => ⟨(hn q hq).1, fun h => (hn q hq).2 ((h5 q).2 (.inl h))⟩, h2, ?_, ?_, h5, h6, Nat.le_trans h7 hk.size⟩
   ·exact (hk.block _ (by omega) fun h => (hn _ h).2 ((h5 _).2 (.inr (.inr rfl)))).trans h3
   ·exact (hk.block _ (by omega) fun h => (hn _ h).2 ((h5 _).2 (.inr (.inl rfl)))).trans h4
 obtain ⟨J, hJ⟩ : ∃ J, J = JJ I .ready none := ⟨_, rfl⟩
 have hJX : JX T V.heap.size J := by rw [hJ]; exact (hJJX _ _ _ hI).mono (by omega)
 obtain ⟨Jx, hJx⟩ : ∃ Jx : List α → (Nat → Prop) → World → Prop, Jx = fun pre X' W => ∃ k, JJ (Ix k) .done (some k) pre X' W := ⟨_, rfl⟩
 have hJxX : JX T V.heap.size Jx := by
  rw [hJx]
  refine JX.mono (n := w.heap.size) ?_ (by omega)
  exact ⟨fun pre X' W ⟨k, h⟩ => (hJJX _ _ _ (hIx k)).bd pre X' W h, fun pre X' W W' T' ⟨k, h⟩ hk hn => ⟨k, (hJJX _ _ _ (hIx k)).kq pre X' W W' T' h hk hn⟩⟩
 refine ⟨D + 1, [{ target := .collected D, args := #[] }], V, { target := .fn (.func gf) lb, args := #[.func (.yield (D + 1)) #[] #[]] }, V, gf, #[.func (.yield (D + 1)) #[] #[]] ++ lb, V, ?_, ?_, fun _ _ => trivial, ?_, wide_one, ?_⟩
 ·have h := run_enterLoop_outer (P := P) (w := w) fn a.tmps ps assign body
  rw [hD] at h
  rw [← hV, hR]
  exact h
 ·simp only [resolve, hg]
  simp [go_sem]
 ·simp [invoke, go_sem, eg]
 ·have hsz0 := hb0.size
  have hkV : Kq (fun q => ¬ own q) w0 V := hb0.on hbV
  refine (hit (D + 1) J Jx (fun q => X q ∨ q = D ∨ q = D + 1) V hJX hJxX (hst.imp id fun h pre X W hj => by
    rw [hJx] at hj
    obtain ⟨k, hj⟩ := hj
    rw [hJJ] at hj
    obtain ⟨X1, h1, _⟩ := hj
    exact h k pre X1 W h1) hkV ?_ hown ?_ ?_).mono ?_
  ·rintro q (h | h | h)
   ·exact hX q h
   ·exact ⟨fun ht => by have := hT q ht; omega, fun ho => by have := hown q ho; omega⟩
   ·exact ⟨fun ht => by have := hT q ht; omega, fun ho => by have := hown q ho; omega⟩
  ·intro pre x X' A hj hpre
   rw [hJ, hJJ] at hj
   obtain ⟨X1, hi, hgw, hl, hd, hx, hne, hsz⟩ := hj
   refine ⟨fn, _, assign, body, by have h := run_yield (P := P) (args := encs x) hl (by rw [hR]; exact hps x); rw [hR] at h; exact h, roundIn_of_wpIn hfn (hassign _ x A _ ?_)⟩
   refine ⟨_, run_beginRound hl (by rw [hR]), ?_⟩
   obtain ⟨A2, hA2⟩ : ∃ A2, A.putObj (D + 1) (.loop { R .ready none with state := .busy }) = A2 := ⟨_, rfl⟩
   have k2 : Kq (fun q => q = D + 1) A A2 := by rw [← hA2]; exact kq_putObj _ _ _
   have al : A2.heap[D + 1]? = some (.loop { R .ready none with state := .busy }) := by rw [← hA2]; exact World.putObj_heap_same (heap_lt hl)
   have ad : A2.heap[D]? = some (.deferred (some [])) := by rw [← hA2]; exact (World.putObj_heap_other (by omega)).trans hd
   have asz : A2.heap.size = A.heap.size := by rw [← hA2, World.putObj_size]
   have ai : I pre X1 A2 := hI.kq _ _ _ _ _ hi k2 fun q e => ⟨.inr (by omega), fun h => (hne q h).2 e⟩
   have hn1 : ¬ X1 (D + 1) := fun h => (hne _ h).2 rfl
   have hn0 : ¬ X1 D := fun h => (hne _ h).1 rfl
   have e1 : ∀ q, q = D + 1 → X' q := fun q h => (hx q).2 (.inr (.inr h))
   have fin : ∀ (K : List α → (Nat → Prop) → World → Prop) (hK : JX T w.heap.size K) (jump : Option Code) (X2 : Nat → Prop) (B : World), K (pre ++ [x]) X2 B → Grew X1 A2 X2 → Kq X1 A2 B →
     ∃ o, (Instr.endRound (D + 1) jump).run P B = .ok (.bool jump.isNone) (B.putObj (D + 1) o) ∧ (∃ X'', JJ K (if jump.isNone then .ready else .done) jump (pre ++ [x]) X'' (B.putObj (D + 1) o) ∧ Grew X' A X'') ∧ Kq X' A (B.putObj (D + 1) o) := by
    intro K hK jump X2 B h1 h2 h3
    have bl := (h3.block (D + 1) (by omega) hn1).trans al
    have bd := (h3.block D (by omega) hn0).trans ad
    have hsB := h3.size
    have m1 : ¬ X2 (D + 1) := h2.not hn1 (by omega)
    have m0 : ¬ X2 D := h2.not hn0 (by omega)
    refine ⟨_, run_endRound jump bl, ⟨fun q => X2 q ∨ q = D ∨ q = D + 1, ?_, ?_⟩, ((k2.mono e1).trans (h3.mono fun q h => (hx q).2 (.inl h))).trans ((kq_putObj B (D + 1) _).mono e1)⟩
    ·rw [hJJ]
     refine ⟨X2, hK.kq _ _ _ _ _ h1 (kq_putObj _ _ _) (fun q e => ⟨.inr (by omega), fun h => m1 (e ▸ h)⟩), hgw.trans h2 (by omega), ?_, (World.putObj_heap_other (by omega)).trans bd, fun q => Iff.rfl, fun q hq => ⟨fun e => m0 (e ▸ hq), fun e => m1 (e ▸ hq)⟩, by rw [World.putObj_size]; omega⟩
     rw [hR] at bl ⊢
     exact turn2 B _ jump bl
    ·rintro q (h | h | h)
     ·rcases h2 q h with h4 | h4
      ·exact .inl ((hx q).2 (.inl h4))
      ·exact .inr (by omega)
     ·exact .inl ((hx q).2 (.inr (.inl h)))
     ·exact .inl ((hx q).2 (.inr (.inr h)))
   rw [hA2]
   refine wpIn_mono (hbody _ pre x X1 A2 ai hgw (by omega) hpre) ?_
   intro e a3 B hp
   cases e with
   | normal =>
    obtain ⟨⟨X2, h1, h2⟩, h3⟩ := hp
    obtain ⟨o, r1, r2, r3⟩ := fin I hI none X2 B h1 h2 h3
    exact ⟨_, _, r1, .inl ⟨rfl, by rw [hJ]; exact r2⟩, r3⟩
   | ret =>
    obtain ⟨⟨X2, h1, h2⟩, h3⟩ := hp
    obtain ⟨o, r1, ⟨X3, r2, r4⟩, r3⟩ := fin (Ix .ret) (hIx _) (some .ret) X2 B h1 h2 h3
    exact ⟨_, _, r1, .inr ⟨rfl, X3, by rw [hJx]; exact ⟨_, r2⟩, r4⟩, r3⟩
   | exit id =>
    obtain ⟨⟨X2, h1, h2⟩, h3⟩ := hp
    obtain ⟨o, r1, ⟨X3, r2, r4⟩, r3⟩ := fin (Ix (.exit id)) (hIx _) (some (.exit id)) X2 B h1 h2 h3
    exact ⟨_, _, r1, .inr ⟨rfl, X3, by rw [hJx]; exact ⟨_, r2⟩, r4⟩, r3⟩
   | goto t =>
    obtain ⟨⟨X2, h1, h2⟩, h3⟩ := hp
    obtain ⟨o, r1, ⟨X3, r2, r4⟩, r3⟩ := fin (Ix (.goto t)) (hIx _) (some (.goto t)) X2 B h1 h2 h3
    exact ⟨_, _, r1, .inr ⟨rfl, X3, by rw [hJx]; exact ⟨_, r2⟩, r4⟩, r3⟩
   | panic ch => exact hp.elim
   | outgrown => exact hp.elim
  ·rw [hJ, hJJ]
   refine ⟨X, hIV, Grew.refl _ _, vl, vd, fun q => Iff.rfl, fun q hq => ?_, by omega⟩
   have := hXb q hq
   omega
  ·rintro e B ⟨⟨v, rfl⟩, hor, hk, hpo⟩
   have hkw : ∀ o, Kq (fun q => T q ∨ X q) w (B.putObj (D + 1) o) := fun o => by
    refine ((Kq.of (T := fun q => T q ∨ X q) hbV).then_ hk ?_).then_ (kq_putObj B (D + 1) _) ?_
    ·rintro q (h | h | h | h)
     ·exact .inl (.inl h)
     ·exact .inl (.inr h)
     ·exact .inr (by omega)
     ·exact .inr (by omega)
    ·rintro q h
     exact .inr (by omega)
   rcases hor with ⟨X', hj, hg'⟩ | ⟨pre, X', hpre, hj, hg'⟩
   ·rw [hJ, hJJ] at hj
    obtain ⟨X1, h1, hgw, bl, bd, hx, hne, hsz⟩ := hj
    refine ⟨none, _, by have h := run_endLoop (P := P) bl (by rw [hR]; simp); rw [hR] at h; exact h, ?_⟩
    exact hdone D X1 _ (by omega) (hI.kq _ _ _ _ _ h1 (kq_putObj _ _ _) fun q e => ⟨.inr (by omega), fun h => (hne q h).2 e⟩) hgw (hkw _) (fun q hq => (hne q hq).1) (hPo _ _ _ hpo (kq_putObj B (D + 1) _) (by omega)) ((World.putObj_heap_other (by omega)).trans bd)
   ·rw [hJx] at hj
    obtain ⟨k, hj⟩ := hj
    rw [hJJ] at hj
    obtain ⟨X1, h1, hgw, bl, bd, hx, hne, hsz⟩ := hj
    refine ⟨some k, _, by have h := run_endLoop (P := P) bl (by rw [hR]; simp); rw [hR] at h; exact h, ?_⟩
    exact hstop D k pre X1 _ (by omega) hpre ((hIx k).kq _ _ _ _ _ h1 (kq_putObj _ _ _) fun q e => ⟨.inr (by omega), fun h => (hne q h).2 e⟩) hgw (hkw _) (fun q hq => (hne q hq).1) (hPo _ _ _ hpo (kq_putObj B (D + 1) _) (by omega)) ((World.putObj_heap_other (by omega)).trans bd)
theorem wpNamed {P : Program} {c : Code} {Q : Exit → Act → World → Prop} {T0 : Array Value} {ds : List Deferred} {w : World} (h : ∀ T, T = T0 → Code.wp P c Q ⟨T, ds⟩ w) : Code.wp P c Q ⟨T0, ds⟩ w := h T0 rfl
theorem zip2 (i j : Nat) (T : Array Value) (u v : Value) : (#[i, j].zip #[u, v]).foldl (fun t (p, v) => t.setIfInBounds p v) T = (T.setIfInBounds i u).setIfInBounds j v := by simp
end
section
open Go.RowKit

attribute [local go_sem] Oper.semAt_some

def ptEnc (x : Nat × Nat) : Array Value := #[.int .i64 (x.1 : Int), .int .i64 (x.2 : Int)]
def ptOwn (a : Option Addr) (C : Nat) (q : Nat) : Prop := q = C ∨ ∃ b o, a = some ⟨b, o, none⟩ ∧ q = b
theorem pts_iterX (a : Option Addr) (n c : Nat) (xs : List UInt8) (C : Nat) (w : World) (hx : Bytes w w.heap.size a n xs) (hC : Blk w C 40 #[.slice a n c]) :
  IterX Tryz.prog 160 #[.pointer (some ⟨C, 0, none⟩)] ptEnc (Pt.pts xs) True (fun _ => True) (fun _ => False) (ptOwn a C) w := by
 intro lp J Jx X W hJ hJx _ hW hXo hown hY h0
 have hxW := (hx.kq (Nat.le_refl _) hW fun b o e h => h (.inr ⟨b, o, e, rfl⟩)).mono hW.size
 have hCW := hC.kq hW fun h => h (.inl rfl)
 have hXC : ¬ X C := fun h => (hXo C h).2 (.inl rfl)
 have hXa : ∀ b o, a = some ⟨b, o, none⟩ → ¬ X b := fun b o e h => (hXo b h).2 (.inr ⟨b, o, e, rfl⟩)
 have hCl : C < W.heap.size := hCW.lt
 have hal : ∀ b o, a = some ⟨b, o, none⟩ → b < W.heap.size := fun b o e => Nat.lt_of_lt_of_le (hown b (.inr ⟨b, o, e, rfl⟩)) hW.size
 have hroom := hx.room
 have hl := hx.len
 obtain ⟨S, hS⟩ : ∃ S, S = if Ino.Sized n then n / 2 else 0 := ⟨_, rfl⟩
 have HE := hid (show Pt.pts xs = Pt.ptsTo xs S by
  unfold Pt.pts; rw [hl, hS]
  split
  ·rfl
  ·rfl)
 have HAS := hid (fun k : Nat => (show Pt.Has n (k : Int) ↔ k < S by
  unfold Pt.Has; rw [hS]
  by_cases h : Ino.Sized n
  ·rw [if_pos h]; constructor
   ·rintro ⟨_, _, h3⟩; omega
   ·intro h3; exact ⟨h, by omega, by omega⟩
  ·rw [if_neg h]; constructor
   ·rintro ⟨h3, _, _⟩; exact absurd h3 h
   ·intro h3; omega))
 have hSn : 2 * S ≤ n := by rw [hS]; split <;> omega
 have HXC := hid hXC
 have HXa := hid hXa
 have HCl := hid hCl
 have Hal := hid hal
 have HY := hid hY
 have HJ := hid hJ
 have HX := hid hxW
 have HC := hid hCW
 have H0 := hid h0
 have HL := hid hl
 have HJx := hid hJx
 clear hx hC hW hl hS hY hJ hJx hxW hCW h0 hXC hXa hCl hal hown hXo
 refine callsIn_of_wp Tryz.func160 rfl trivial ?_ rfl
 simp only [Tryz.ntmps160, List.size_toArray, List.length_cons, List.length_nil, Nat.reduceAdd, Nat.reduceSub, Array.replicate_succ, Array.replicate_zero, List.push_toArray, List.append_toArray, List.nil_append, List.cons_append]
 gi_wp2
 gi_loopw [3, 4] (fun i _ wr => ∃ (k : Nat) (X1 : Nat → Prop), k ≤ S ∧ i = .int .i64 k ∧ Bytes wr wr.heap.size a n xs ∧ Blk wr C 40 #[.slice a n c] ∧ J (Pt.ptsTo xs k) X1 wr ∧ Grew X W X1 ∧ Kq X W wr) (fun i _ _ => S - (intOf i).toNat)
 case atStart => exact ⟨0, X, by omega, rfl, HX.out, HC.out, H0.out, Grew.refl _ _, Kq.refl _ _⟩
 case round =>
  obtain ⟨k, X1, hk, rfl, hx, hc, hj, hgw, hkq⟩ := hrel
  have cc := hc.cellv (i := 0) rfl
  have HX := hid hx
  have HC := hid hc
  have HJ1 := hid hj
  have HGw := hid hgw
  have HKq := hid hkq
  clear hx hc hj hgw hkq
  by_cases hlt : k < S
  ·have hst := hid (callsIn_wide (n := 7) |>.2 (pointed_yes a n c k wr ((HAS.out k).2 hlt)))
   have hlt2 : 2 * k + 1 < xs.length := by rw [HL.out]; omega
   have hlen2 : 2 * k + 1 < n := by omega
   obtain ⟨b, o, hk0, rfl, hbb, hc0⟩ := HX.out.at_ (k := 2 * k) (by omega)
   obtain ⟨b', o', hk1, hab, _, hc1⟩ := HX.out.at_ (k := 2 * k + 1) (by omega)
   simp only [Option.some.injEq, Addr.mk.injEq, and_true] at hab
   obtain ⟨rfl, rfl⟩ := hab
   have h2 := Pt.two_eq (xs := xs) (j := k) (by omega)
   have x0l := (xs[2 * k]).toNat_lt
   have x1l := (xs[2 * k + 1]).toNat_lt
   have hent := hid (show Pt.ptsTo xs (k + 1) = if Pt.two xs k = 0 then Pt.ptsTo xs k else Pt.ptsTo xs k ++ [(k, Pt.two xs k)] from rfl)
   have hpre := hid (show Pt.ptsTo xs (k + 1) <+: Pt.pts xs by rw [HE.out]; exact Pt.ptsTo_pre (by omega))
   generalize xs[2 * k].toNat = x0 at *
   generalize xs[2 * k + 1].toNat = x1 at *
   have hor := i64_or_high x1 x0 (by omega) x0l
   obtain ⟨v, hv⟩ : ∃ v, v = Pt.two xs k := ⟨_, rfl⟩
   rw [← hv] at hent h2
   rw [show x1 * 256 + x0 = v by omega] at hor
   have hvl : v < 65536 := by omega
   have q1 : IntKind.i64.wrap (2 * (k : Int)) = 2 * (k : Int) := IntWalk.i64_in _ ⟨by omega, by omega⟩
   have q2 : (0 : Int) ≤ 2 * (k : Int) := by omega
   have q3 : 2 * (k : Int) < (n : Int) := by omega
   have q4 : (2 * (k : Int)).toNat = 2 * k := by omega
   have q5 : IntKind.i64.wrap (2 * (k : Int) + 1) = 2 * (k : Int) + 1 := IntWalk.i64_in _ ⟨by omega, by omega⟩
   have q6 : (0 : Int) ≤ 2 * (k : Int) + 1 := by omega
   have q7 : 2 * (k : Int) + 1 < (n : Int) := by omega
   have q8 : (2 * (k : Int) + 1).toNat = 2 * k + 1 := by omega
   have q9 : IntKind.i64.wrap (x0 : Int) = (x0 : Int) := IntWalk.i64_in _ ⟨by omega, by omega⟩
   have q10 : IntKind.i64.wrap (x1 : Int) = (x1 : Int) := IntWalk.i64_in _ ⟨by omega, by omega⟩
   have q11 : IntKind.i64.wrap ((x1 : Int) * 256) = (x1 : Int) * 256 := IntWalk.i64_in _ ⟨by omega, by omega⟩
   have HV := hid hv
   have HJ2 := hid (fun q => HJ.out.on HJ1.out (below_drewN wr q))
   clear hv h2 hlt2 hk0 hk1
   gi_wp2_with fail
   refine ⟨trivial, ?_⟩
   refine hst.out.mono ?_
   rintro e w_ ⟨rfl, rfl⟩
   gi_wp2_with fail
   gi_big_quiet_th (fail)
   have HX3 := hid (HX.out.on (below_drewN wr nq))
   have HKq3 := hid (HKq.out.on (below_drewN wr nq))
   have HC3 := hid (HC.out.drewN nq)
   have HJ3 := hid (HJ2.out nq)
   clear q1 q2 q3 q4 q5 q6 q7 q8 q9 q10 q11 hor hc0 hc1 hst cc
   generalize wr.drewN nq = w3 at *
   by_cases hv0 : v = 0
   ·have hent2 := hid (hent.out.trans (if_pos hv0))
    have z1 : ((v : Int) != 0) = false := by rw [bne_eq_false_iff_eq]; omega
    clear hv0
    gi_wp2
    refine ⟨(fun f h => by cases h), ?_⟩
    gi_wp2
    go_roundw
    case rel => exact ⟨k + 1, X1, by omega, by go_num, HX3.out, HC3.out, by rw [hent2.out]; exact HJ3.out, HGw.out, HKq3.out⟩
    case measure => simp [intOf]; omega
   ·have hent2 := hid (hent.out.trans (if_neg hv0))
    have z1 : ((v : Int) != 0) = true := by rw [bne_iff_ne]; omega
    obtain ⟨fn, tmps, assign, body, hy, hR⟩ := HY.out (Pt.ptsTo xs k) (k, v) X1 w3 HJ3.out (by rw [← hent2.out]; exact hpre.out)
    unfold ptEnc at hy
    gi_wp2_with fail
    refine hR.mono ?_
    rintro ee w4 ⟨⟨rfl, X2, hJ4, hg4⟩ | ⟨rfl, X2, hJx4, hg4⟩, hk4⟩
    ·have HC5 := hid (HC3.out.kq hk4 (HGw.out.not HXC.out HCl.out))
     have HX5 := hid ((HX3.out.kq (Nat.le_refl _) hk4 fun b o e => HGw.out.not (HXa.out b o e) (Hal.out b o e)).mono hk4.size)
     have HKq5 := hid (HKq3.out.then_ hk4 fun q hq => HGw.out q hq)
     have HGw5 := hid (HGw.out.trans hg4 HKq3.out.size)
     have HJ4 := hid hJ4
     clear hJ4 hg4 hk4 hy hR
     gi_wp2
     go_roundw
     case rel => exact ⟨k + 1, X2, by omega, by go_num, HX5.out, HC5.out, by rw [hent2.out]; exact HJ4.out, HGw5.out, HKq5.out⟩
     case measure => simp [intOf]; omega
    ·have HKq5 := hid (HKq3.out.then_ hk4 fun q hq => HGw.out q hq)
     have HGw5 := hid (HGw.out.trans hg4 HKq3.out.size)
     gi_wp2
     refine bodyPost_ret (results_none rfl _ _ _) rfl ?_
     exact ⟨⟨_, rfl⟩, .inr ⟨_, X2, by rw [← hent2.out]; exact hpre.out, hJx4, HGw5.out⟩, HKq5.out.mono fun q h => .inr h, trivial⟩
  ·obtain rfl : k = S := by omega
   have hst := hid (callsIn_wide (n := 7) |>.2 (pointed_no a n c k wr hroom (fun h => hlt ((HAS.out k).1 h))))
   gi_wp2_with fail
   refine ⟨trivial, ?_⟩
   refine hst.out.mono ?_
   rintro e w_ ⟨rfl, rfl⟩
   gi_wp2
   go_end0
   exact ⟨⟨_, rfl⟩, .inl ⟨X1, by rw [HE.out]; exact HJ1.out, HGw.out⟩, HKq.out.mono fun q h => .inr h, trivial⟩
theorem ptsFn (a : Option Addr) (n c : Nat) (w : World) :
  Calls Tryz.prog 121 #[.slice a n c] w fun e w' => e = .returned (.func (.func 160) #[] #[.pointer (some ⟨w.heap.size, 0, none⟩)]) ∧ w.alloc (.cells #[.slice a n c] 40) = w' := by
 go_enter Tryz.func121, Tryz.ntmps121
 go_wp2
 go_ret
 exact ⟨rfl, rfl⟩
end
end Go.Proofs.YtcppkaphlcflgaaGreat
