/-
  range_law, the round's variables being laid into blocks of their own.
-/
import Derived.Test.YtlnomkkamopieaaIter
namespace Go.Proofs.Ytlnomkkamopieaa
open Go.RowKit

theorem range_law2 {α : Type} {P : Program} {g : Operand} {ps : Array Tmp} {assign body : Code} {Q : Exit → Act → World → Prop} {a : Act} {w : World} {gf : Nat} {lb : Array Value} {encs : α → Array Value} {xs : List α} {c n0 : Nat} {w0 : World}
    (hg : a.eval g = .func (.func gf) #[] lb) (eg : ∀ args w, (callFunc gf args).run P w = .ok (.enter gf args) w) (hit : Iter P gf lb encs xs c n0 w0) (hb0 : Below w0.heap.size w0 w) (hn0 : n0 ≤ w.heap.size) (hc : c < w.heap.size)
    (hps : ∀ x, (encs x).size = ps.size) (I : List α → World → Prop) (Ix : Code → List α → World → Prop) (hI : ∀ pre, Keeps2 c w.heap.size (I pre)) (hIx : ∀ k pre, Keeps2 c w.heap.size (Ix k pre)) (h0 : I [] w) (M : List α → α → Act → World → Prop) (hM : ∀ pre x a1, Keeps2 c w.heap.size (M pre x a1))
    (hassign : ∀ (l : Nat) (pre : List α) (x : α) (W : World) (K : Act → World → Prop), I pre W → (pre ++ [x]) <+: xs → (∀ a1 W', KeepsOthers W W' → Below n0 W W' → W'.heap[c]? = W.heap[c]? → W.heap.size ≤ W'.heap.size → M pre x a1 W' → K a1 W') →
      assign.wpIn (Fence.wide.inRound l) 7 P (Exit.then K (fun _ _ _ => False)) { tmps := (ps.zip (encs x)).foldl (fun t (p, v) => t.setIfInBounds p v) a.tmps, defers := [] } W)
    (hbody : ∀ (l : Nat) (pre : List α) (x : α) (a1 : Act) (W : World), M pre x a1 W → (pre ++ [x]) <+: xs → body.wpIn (Fence.wide.inRound l) 7 P (LeftBy n0 c I Ix (pre ++ [x]) W) a1 W)
    (hdone : ∀ (D : Nat) (W : World), w.heap.size ≤ D → I xs W → W.heap[D]? = some (.deferred (some [])) → Q .normal { a with defers := { target := .collected D, args := #[] } :: a.defers } W)
    (hstop : ∀ (D : Nat) (k : Code) (pre : List α) (W : World), w.heap.size ≤ D → pre <+: xs → Ix k pre W → W.heap[D]? = some (.deferred (some [])) → k.wpIn Fence.wide 9 P Q { a with defers := { target := .collected D, args := #[] } :: a.defers } W) :
    (Code.rangeFunc g ps assign body).wpIn Fence.wide 9 P Q a w := by
  refine wpIn_rangeFunc fun fn hfn => ?_
  obtain ⟨D, hD⟩ : ∃ D, w.heap.size = D := ⟨_, rfl⟩
  obtain ⟨R, hR⟩ : ∃ R : LoopState → Option Code → Loop, R = fun st pe => { state := st, pending := pe, fn, tmps := a.tmps, params := ps, assign, body, defers := D } := ⟨_, rfl⟩
  have hstate : ∀ st pe st' pe', { R st pe with state := st', pending := pe' } = R st' pe' := by intros; rw [hR]
  obtain ⟨V, hV⟩ : ∃ V, (w.alloc (.deferred (some []))).alloc (.loop (R .ready none)) = V := ⟨_, rfl⟩
  have vl : V.heap[D + 1]? = some (.loop (R .ready none)) := by
    have h := World.alloc_heap_new (w.alloc (.deferred (some []))) (.loop (R .ready none))
    rw [World.size_alloc, hD, hV] at h
    exact h
  have vd : V.heap[D]? = some (.deferred (some [])) := by
    rw [← hV, Below.heap_alloc _ _ _ (by rw [World.size_alloc]; omega), ← hD]
    exact World.alloc_heap_new w _
  have hIV : I [] V := by rw [← hV]; exact (hI []).alloc _ ((hI []).alloc _ h0)
  have hbV : Below w0.heap.size w0 V := by
    rw [← hV]
    exact (hb0.alloc hb0.size _).alloc (by rw [World.size_alloc]; have := hb0.size; omega) _
  have turn2 : ∀ (A : World) (r : Loop) (jump : Option Code), A.heap[D + 1]? = some (.loop r) → (A.putObj (D + 1) (.loop { r with state := if jump.isNone then .ready else .done, pending := jump })).heap[D + 1]? = some (.loop { r with state := if jump.isNone then .ready else .done, pending := jump }) :=
    fun A r jump h => World.putObj_heap_same (heap_lt h)
  refine ⟨D + 1, [{ target := .collected D, args := #[] }], V, { target := .fn (.func gf) lb, args := #[.func (.yield (D + 1)) #[] #[]] }, V, gf, #[.func (.yield (D + 1)) #[] #[]] ++ lb, V, ?_, ?_, fun _ _ => trivial, ?_, wide_one, ?_⟩
  · have h := run_enterLoop_outer (P := P) (w := w) fn a.tmps ps assign body
    rw [hD] at h
    rw [← hV, hR]
    exact h
  · simp only [resolve, hg]
    simp [go_sem]
  · simp [invoke, go_sem, eg]
  · refine (hit (D + 1) (fun pre W => I pre W ∧ W.heap[D + 1]? = some (.loop (R .ready none)) ∧ W.heap[D]? = some (.deferred (some [])))
      (fun pre W => ∃ k, Ix k pre W ∧ W.heap[D + 1]? = some (.loop (R .done (some k))) ∧ W.heap[D]? = some (.deferred (some []))) V hbV ?_ ?_ ?_ ⟨hIV, vl, vd⟩).mono ?_
    · rintro pre A B ⟨h1, h2, h3⟩ hgr
      exact ⟨(hI pre).one A B h1 hgr, kept1 h2 hgr (by omega), kept1 h3 hgr (by omega)⟩
    · rintro pre A B ⟨k, h1, h2, h3⟩ hgr
      exact ⟨k, (hIx k pre).one A B h1 hgr, kept1 h2 hgr (by omega), kept1 h3 hgr (by omega)⟩
    · rintro pre x A ⟨hi, hl, hd⟩ hpre
      refine ⟨fn, _, assign, body, by have h := run_yield (P := P) (args := encs x) hl (by rw [hR]; exact hps x); rw [hR] at h; exact h, roundIn_of_wpIn hfn (hassign _ pre x A _ hi hpre ?_)⟩
      intro a1 A1 ko ab1 ac1 _ am
      have al1 := ko.same _ _ hl rfl
      have ad1 := ko.same _ _ hd rfl
      refine ⟨_, run_beginRound al1 (by rw [hR]), ?_⟩
      obtain ⟨A2, hA2⟩ : ∃ A2, A1.putObj (D + 1) (.loop { R .ready none with state := .busy }) = A2 := ⟨_, rfl⟩
      have al : A2.heap[D + 1]? = some (.loop { R .ready none with state := .busy }) := by rw [← hA2]; exact World.putObj_heap_same (heap_lt al1)
      have ad : A2.heap[D]? = some (.deferred (some [])) := by rw [← hA2]; exact (World.putObj_heap_other (by omega)).trans ad1
      have ac : A2.heap[c]? = A.heap[c]? := by rw [← hA2]; exact (World.putObj_heap_other (by omega)).trans ac1
      have ab : Below n0 A A2 := by rw [← hA2]; exact ab1.trans (below_turn _ (by omega))
      have ai : M pre x a1 A2 := by rw [← hA2]; exact (hM pre x a1).turn _ (by omega) am al1 rfl
      rw [hA2]
      refine wpIn_mono (hbody _ pre x a1 A2 ai hpre) ?_
      intro e a3 B hp
      cases e with
      | normal =>
        obtain ⟨h1, h2, h3, h4⟩ := hp
        have bl := h1.same _ _ al rfl
        have bd := h1.same _ _ ad rfl
        refine ⟨_, _, run_endRound none bl, .inl ⟨rfl, ⟨(hI _).turn _ (by omega) h4 bl rfl, ?_, (World.putObj_heap_other (by omega)).trans bd⟩, (ab.trans h2).trans (below_turn _ (by omega)), ?_⟩⟩
        · rw [turn2 B _ none bl, hR]; rfl
        · rw [World.putObj_heap_other (by omega), h3, ac]
      | ret =>
        obtain ⟨h1, h4⟩ := hp
        have bl := h1.same _ _ al rfl
        have bd := h1.same _ _ ad rfl
        refine ⟨_, _, run_endRound (some .ret) bl, .inr ⟨rfl, .ret, (hIx _ _).turn _ (by omega) h4 bl rfl, ?_, (World.putObj_heap_other (by omega)).trans bd⟩⟩
        rw [turn2 B _ (some .ret) bl, hR]; rfl
      | exit id =>
        obtain ⟨h1, h4⟩ := hp
        have bl := h1.same _ _ al rfl
        have bd := h1.same _ _ ad rfl
        refine ⟨_, _, run_endRound (some (.exit id)) bl, .inr ⟨rfl, .exit id, (hIx _ _).turn _ (by omega) h4 bl rfl, ?_, (World.putObj_heap_other (by omega)).trans bd⟩⟩
        rw [turn2 B _ (some (.exit id)) bl, hR]; rfl
      | goto t =>
        obtain ⟨h1, h4⟩ := hp
        have bl := h1.same _ _ al rfl
        have bd := h1.same _ _ ad rfl
        refine ⟨_, _, run_endRound (some (.goto t)) bl, .inr ⟨rfl, .goto t, (hIx _ _).turn _ (by omega) h4 bl rfl, ?_, (World.putObj_heap_other (by omega)).trans bd⟩⟩
        rw [turn2 B _ (some (.goto t)) bl, hR]; rfl
      | panic ch => exact hp.elim
      | outgrown => exact hp.elim
    · rintro e B ⟨⟨v, rfl⟩, h | ⟨pre, hpre, k, h1, bl, bd⟩⟩
      · obtain ⟨h1, bl, bd⟩ := h
        refine ⟨none, _, by have h := run_endLoop (P := P) bl (by rw [hR]; simp); rw [hR] at h; exact h, ?_⟩
        exact hdone D _ (by omega) ((hI _).turn _ (by omega) h1 bl rfl) ((World.putObj_heap_other (by omega)).trans bd)
      · refine ⟨some k, _, by have h := run_endLoop (P := P) bl (by rw [hR]; simp); rw [hR] at h; exact h, ?_⟩
        exact hstop D k pre _ (by omega) hpre ((hIx k pre).turn _ (by omega) h1 bl rfl) ((World.putObj_heap_other (by omega)).trans bd)
end Go.Proofs.Ytlnomkkamopieaa
