/-
  A range over a function whose iterator keeps a captured variable of its own (block c) and reads what lies below n0: what such an iterator owes, and the statement that ranges over it. All at the wide fence.
-/
import Derived.RangeFuncWrites
import Derived.RangeFuncFrom
import Derived.RangeFuncCalls
import Derived.RangeFuncLeaves
import Derived.RangeFuncBound
import Derived.Test.YtiipnpfaaghekaaGreatBase
namespace Go.Proofs.YtiipnpfaaghekaaGreat
open Go.RowKit

/-- A fact on worlds that abides whatever is done to block c alone, and new blocks. -/
def Keeps1 (c : Nat) (I : World → Prop) : Prop := ∀ W W', I W → W.grownBy W' (some c) → I W'
/-- .. and the turn of a block from B on that is no cells. -/
def Keeps2 (c B : Nat) (I : World → Prop) : Prop := ∀ W W' r, I W → W.grownBy W' (some r) → (r = c ∨ (B ≤ r ∧ ∃ o : Obj, W.heap[r]? = some o ∧ o.isCells = false)) → I W'
/-- What one round owes the iterator. -/
def RoundOk {α : Type} (n0 c : Nat) (J Jx : List α → World → Prop) (pre : List α) (W : World) (e : Ending) (W' : World) : Prop :=
  (e = .returned (.bool true) ∧ J pre W' ∧ Below n0 W W' ∧ W'.heap[c]? = W.heap[c]?) ∨ (e = .returned (.bool false) ∧ Jx pre W')
/-- The function gf with what it has captured gives the elements xs, one behind the other; block c is its own. -/
def Iter {α : Type} (P : Program) (gf : Nat) (lb : Array Value) (encs : α → Array Value) (xs : List α) (c n0 : Nat) (w : World) : Prop :=
  ∀ (l : Nat) (J Jx : List α → World → Prop) (W : World), Below w.heap.size w W → (∀ pre, Keeps1 c (J pre)) → (∀ pre, Keeps1 c (Jx pre)) →
    (∀ pre x W1, J pre W1 → (pre ++ [x]) <+: xs → YieldAt Fence.wide 7 P l (encs x) W1 (RoundOk n0 c J Jx (pre ++ [x]) W1)) → J [] W →
    CallsIn Fence.wide 8 P gf (#[.func (.yield l) #[] #[]] ++ lb) W fun e W' => (∃ v, e = .returned v) ∧ (J xs W' ∨ ∃ pre, pre <+: xs ∧ Jx pre W')
/-- How a round's body may be left. -/
def LeftBy {α : Type} (n0 c : Nat) (I : List α → World → Prop) (Ix : Code → List α → World → Prop) (pre : List α) (W : World) : Exit → Act → World → Prop
  | .normal, _, W' => KeepsOthers W W' ∧ Below n0 W W' ∧ W'.heap[c]? = W.heap[c]? ∧ I pre W'
  | .ret, _, W' => KeepsOthers W W' ∧ Ix .ret pre W'
  | .exit id, _, W' => KeepsOthers W W' ∧ Ix (.exit id) pre W'
  | .goto t, _, W' => KeepsOthers W W' ∧ Ix (.goto t) pre W'
  | .panic _, _, _ => False
  | .outgrown, _, _ => False

theorem heap_lt {W : World} {k : Nat} {o : Obj} (h : W.heap[k]? = some o) : k < W.heap.size := (Array.getElem?_eq_some_iff.1 h).1
theorem kept1 {W W' : World} {k c : Nat} {o : Obj} (h : W.heap[k]? = some o) (hg : W.grownBy W' (some c)) (hne : k ≠ c) : W'.heap[k]? = some o :=
  (hg.block k (heap_lt h) (fun e => hne (Option.some.inj e))).trans h
theorem Keeps2.one {c B : Nat} {I : World → Prop} (h : Keeps2 c B I) : Keeps1 c I := fun W W' hi hg => h W W' c hi hg (.inl rfl)
theorem Keeps2.alloc {c B : Nat} {I : World → Prop} (h : Keeps2 c B I) {W : World} (o : Obj) (hi : I W) : I (W.alloc o) :=
  h W _ c hi ⟨rfl, rfl, rfl, by simp, fun k hk _ => Below.heap_alloc W o k hk⟩ (.inl rfl)
theorem Keeps2.turn {c B : Nat} {I : World → Prop} (h : Keeps2 c B I) {W : World} {l : Nat} {o : Obj} (o' : Obj) (hl : B ≤ l) (hi : I W) (ho : W.heap[l]? = some o) (hc : o.isCells = false) : I (W.putObj l o') :=
  h W _ l hi (grownBy_putObj' W l o') (.inr ⟨hl, o, ho, hc⟩)
theorem below_turn {n0 : Nat} {W : World} {l : Nat} (o' : Obj) (h : n0 ≤ l) : Below n0 W (W.putObj l o') :=
  ⟨rfl, rfl, rfl, by rw [World.putObj_size]; exact Nat.le_refl _, fun k hk => World.putObj_heap_other (by omega)⟩
theorem wide_one {n : Nat} : Fence.wide.depth.isSome = true → 1 ≤ n := fun h => by cases h

theorem range_law {α : Type} {P : Program} {g : Operand} {ps : Array Tmp} {assign body : Code} {Q : Exit → Act → World → Prop} {a : Act} {w : World} {gf : Nat} {lb : Array Value} {encs : α → Array Value} {xs : List α} {c n0 : Nat} {w0 : World}
    (hg : a.eval g = .func (.func gf) #[] lb) (eg : ∀ args w, (callFunc gf args).run P w = .ok (.enter gf args) w) (hit : Iter P gf lb encs xs c n0 w0) (hb0 : Below w0.heap.size w0 w) (hn0 : n0 ≤ w.heap.size) (hc : c < w.heap.size)
    (hps : ∀ x, (encs x).size = ps.size) (I : List α → World → Prop) (Ix : Code → List α → World → Prop) (hI : ∀ pre, Keeps2 c w.heap.size (I pre)) (hIx : ∀ k pre, Keeps2 c w.heap.size (Ix k pre)) (h0 : I [] w) (a₁ : α → Act)
    (hassign : ∀ (l : Nat) (x : α) (W : World) (K : Act → World → Prop), K (a₁ x) W → assign.wpIn (Fence.wide.inRound l) 7 P (Exit.then K (fun _ _ _ => False)) { tmps := (ps.zip (encs x)).foldl (fun t (p, v) => t.setIfInBounds p v) a.tmps, defers := [] } W)
    (hbody : ∀ (l : Nat) (pre : List α) (x : α) (W : World), I pre W → (pre ++ [x]) <+: xs → body.wpIn (Fence.wide.inRound l) 7 P (LeftBy n0 c I Ix (pre ++ [x]) W) (a₁ x) W)
    (hdone : ∀ (D : Nat) (W : World), w.heap.size ≤ D → I xs W → W.heap[D]? = some (.deferred (some [])) → Q .normal { a with defers := { target := .collected D, args := #[] } :: a.defers } W)
    (hstop : ∀ (D : Nat) (k : Code) (pre : List α) (W : World), w.heap.size ≤ D → pre <+: xs → Ix k pre W → W.heap[D]? = some (.deferred (some [])) → k.wpIn Fence.wide 9 P Q { a with defers := { target := .collected D, args := #[] } :: a.defers } W) :
    (Code.rangeFunc g ps assign body).wpIn Fence.wide 9 P Q a w := by
  refine wpIn_rangeFunc fun fn hfn => ?_
  obtain ⟨D, hD⟩ : ∃ D, w.heap.size = D := ⟨_, rfl⟩
  obtain ⟨R, hR⟩ : ∃ R : LoopState → Option Code → Loop, R = fun st pe => { state := st, pending := pe, fn, tmps := a.tmps, params := ps, assign, body, defers := D } := ⟨_, rfl⟩
  have hstate : ∀ st pe st' pe', { R st pe with state := st', pending := pe' } = R st' pe' := by intros; rw [hR]
  obtain ⟨V, hV⟩ : ∃ V, (w.alloc (.deferred (some []))).alloc (.loop (R .ready none)) = V := ⟨_, rfl⟩
  have vl : V.heap[D + 1]? = some (.loop (R .ready none)) := by
    have h := World.alloc_heap_new (w.alloc (.deferred (some []))) (.loop (R .ready none))
    rw [World.size_alloc, hD, hV] at h
    exact h
  have vd : V.heap[D]? = some (.deferred (some [])) := by
    rw [← hV, Below.heap_alloc _ _ _ (by rw [World.size_alloc]; omega), ← hD]
    exact World.alloc_heap_new w _
  have hIV : I [] V := by rw [← hV]; exact (hI []).alloc _ ((hI []).alloc _ h0)
  have hbV : Below w0.heap.size w0 V := by
    rw [← hV]
    exact (hb0.alloc hb0.size _).alloc (by rw [World.size_alloc]; have := hb0.size; omega) _
  have turn2 : ∀ (A : World) (r : Loop) (jump : Option Code), A.heap[D + 1]? = some (.loop r) → (A.putObj (D + 1) (.loop { r with state := if jump.isNone then .ready else .done, pending := jump })).heap[D + 1]? = some (.loop { r with state := if jump.isNone then .ready else .done, pending := jump }) :=
    fun A r jump h => World.putObj_heap_same (heap_lt h)
  refine ⟨D + 1, [{ target := .collected D, args := #[] }], V, { target := .fn (.func gf) lb, args := #[.func (.yield (D + 1)) #[] #[]] }, V, gf, #[.func (.yield (D + 1)) #[] #[]] ++ lb, V, ?_, ?_, fun _ _ => trivial, ?_, wide_one, ?_⟩
  · have h := run_enterLoop_outer (P := P) (w := w) fn a.tmps ps assign body
    rw [hD] at h
    rw [← hV, hR]
    exact h
  · simp only [resolve, hg]
    simp [go_sem]
  · simp [invoke, go_sem, eg]
  · refine (hit (D + 1) (fun pre W => I pre W ∧ W.heap[D + 1]? = some (.loop (R .ready none)) ∧ W.heap[D]? = some (.deferred (some [])))
      (fun pre W => ∃ k, Ix k pre W ∧ W.heap[D + 1]? = some (.loop (R .done (some k))) ∧ W.heap[D]? = some (.deferred (some []))) V hbV ?_ ?_ ?_ ⟨hIV, vl, vd⟩).mono ?_
    · rintro pre A B ⟨h1, h2, h3⟩ hgr
      exact ⟨(hI pre).one A B h1 hgr, kept1 h2 hgr (by omega), kept1 h3 hgr (by omega)⟩
    · rintro pre A B ⟨k, h1, h2, h3⟩ hgr
      exact ⟨k, (hIx k pre).one A B h1 hgr, kept1 h2 hgr (by omega), kept1 h3 hgr (by omega)⟩
    · rintro pre x A ⟨hi, hl, hd⟩ hpre
      refine ⟨fn, _, assign, body, by have h := run_yield (P := P) (args := encs x) hl (by rw [hR]; exact hps x); rw [hR] at h; exact h, roundIn_of_wpIn hfn (hassign _ x A _ ?_)⟩
      refine ⟨_, run_beginRound hl (by rw [hR]), ?_⟩
      obtain ⟨A2, hA2⟩ : ∃ A2, A.putObj (D + 1) (.loop { R .ready none with state := .busy }) = A2 := ⟨_, rfl⟩
      have al : A2.heap[D + 1]? = some (.loop { R .ready none with state := .busy }) := by rw [← hA2]; exact World.putObj_heap_same (heap_lt hl)
      have ad : A2.heap[D]? = some (.deferred (some [])) := by rw [← hA2]; exact (World.putObj_heap_other (by omega)).trans hd
      have ac : A2.heap[c]? = A.heap[c]? := by rw [← hA2]; exact World.putObj_heap_other (by omega)
      have ab : Below n0 A A2 := by rw [← hA2]; exact below_turn _ (by omega)
      have ai : I pre A2 := by rw [← hA2]; exact (hI pre).turn _ (by omega) hi hl rfl
      rw [hA2]
      refine wpIn_mono (hbody _ pre x A2 ai hpre) ?_
      intro e a3 B hp
      cases e with
      | normal =>
        obtain ⟨h1, h2, h3, h4⟩ := hp
        have bl := h1.same _ _ al rfl
        have bd := h1.same _ _ ad rfl
        refine ⟨_, _, run_endRound none bl, .inl ⟨rfl, ⟨(hI _).turn _ (by omega) h4 bl rfl, ?_, (World.putObj_heap_other (by omega)).trans bd⟩, (ab.trans h2).trans (below_turn _ (by omega)), ?_⟩⟩
        · rw [turn2 B _ none bl, hR]; rfl
        · rw [World.putObj_heap_other (by omega), h3, ac]
      | ret =>
        obtain ⟨h1, h4⟩ := hp
        have bl := h1.same _ _ al rfl
        have bd := h1.same _ _ ad rfl
        refine ⟨_, _, run_endRound (some .ret) bl, .inr ⟨rfl, .ret, (hIx _ _).turn _ (by omega) h4 bl rfl, ?_, (World.putObj_heap_other (by omega)).trans bd⟩⟩
        rw [turn2 B _ (some .ret) bl, hR]; rfl
      | exit id =>
        obtain ⟨h1, h4⟩ := hp
        have bl := h1.same _ _ al rfl
        have bd := h1.same _ _ ad rfl
        refine ⟨_, _, run_endRound (some (.exit id)) bl, .inr ⟨rfl, .exit id, (hIx _ _).turn _ (by omega) h4 bl rfl, ?_, (World.putObj_heap_other (by omega)).trans bd⟩⟩
        rw [turn2 B _ (some (.exit id)) bl, hR]; rfl
      | goto t =>
        obtain ⟨h1, h4⟩ := hp
        have bl := h1.same _ _ al rfl
        have bd := h1.same _ _ ad rfl
        refine ⟨_, _, run_endRound (some (.goto t)) bl, .inr ⟨rfl, .goto t, (hIx _ _).turn _ (by omega) h4 bl rfl, ?_, (World.putObj_heap_other (by omega)).trans bd⟩⟩
        rw [turn2 B _ (some (.goto t)) bl, hR]; rfl
      | panic ch => exact hp.elim
      | outgrown => exact hp.elim
    · rintro e B ⟨⟨v, rfl⟩, h | ⟨pre, hpre, k, h1, bl, bd⟩⟩
      · obtain ⟨h1, bl, bd⟩ := h
        refine ⟨none, _, by have h := run_endLoop (P := P) bl (by rw [hR]; simp); rw [hR] at h; exact h, ?_⟩
        exact hdone D _ (by omega) ((hI _).turn _ (by omega) h1 bl rfl) ((World.putObj_heap_other (by omega)).trans bd)
      · refine ⟨some k, _, by have h := run_endLoop (P := P) bl (by rw [hR]; simp); rw [hR] at h; exact h, ?_⟩
        exact hstop D k pre _ (by omega) hpre ((hIx k pre).turn _ (by omega) h1 bl rfl) ((World.putObj_heap_other (by omega)).trans bd)
end Go.Proofs.YtiipnpfaaghekaaGreat
