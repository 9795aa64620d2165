/-
  A range over a function, once more: the iterator's captured variables are blocks of its own (own), of which it writes some (cw) and no round writes any; the round's variables may be laid into blocks.
-/
/-
  In a round: append onto a row of the call's own whose elements take several cells; what abides the loop's own book-keeping.
-/
import Derived.Test.YtiipnpfaaghekaaGreatIter
import Derived.Test.YtiipnpfaaghekaaGreatIterOwn
import Derived.Test.YtiipnpfaaghekaaGreatMany
namespace Go.Proofs.YtiipnpfaaghekaaGreat
open Go.RowKit

/-- A fact on worlds that abides new blocks, and whatever is done to one of the blocks cw. -/
def KeepsG1 (cw : List Nat) (I : World → Prop) : Prop := ∀ W W' r, I W → W.grownBy W' r → (r = none ∨ ∃ c ∈ cw, r = some c) → I W'
/-- .. and the turn of a block from B on that is no cells. -/
def KeepsG2 (cw : List Nat) (B : Nat) (I : World → Prop) : Prop :=
  ∀ W W' r, I W → W.grownBy W' r → (r = none ∨ (∃ c ∈ cw, r = some c) ∨ ∃ g, r = some g ∧ B ≤ g ∧ ∃ o : Obj, W.heap[g]? = some o ∧ o.isCells = false) → I W'
def RoundOkG {α : Type} (n0 : Nat) (own : List Nat) (J Jx : List α → World → Prop) (pre : List α) (W : World) (e : Ending) (W' : World) : Prop :=
  (e = .returned (.bool true) ∧ J pre W' ∧ Below n0 W W' ∧ ∀ q ∈ own, W'.heap[q]? = W.heap[q]?) ∨ (e = .returned (.bool false) ∧ Jx pre W')
def IterG {α : Type} (P : Program) (gf : Nat) (lb : Array Value) (encs : α → Array Value) (xs : List α) (cw own : List Nat) (n0 : Nat) (w : World) : Prop :=
  ∀ (l : Nat) (J Jx : List α → World → Prop) (W : World), Below w.heap.size w W → (∀ pre, KeepsG1 cw (J pre)) → (∀ pre, KeepsG1 cw (Jx pre)) →
    (∀ pre x W1, J pre W1 → (pre ++ [x]) <+: xs → YieldAt Fence.wide 7 P l (encs x) W1 (RoundOkG n0 own J Jx (pre ++ [x]) W1)) → J [] W →
    CallsIn Fence.wide 8 P gf (#[.func (.yield l) #[] #[]] ++ lb) W fun e W' => (∃ v, e = .returned v) ∧ (J xs W' ∨ ∃ pre, pre <+: xs ∧ Jx pre W')
def LeftByG {α : Type} (n0 : Nat) (own : List Nat) (I : List α → World → Prop) (Ix : Code → List α → World → Prop) (pre : List α) (W : World) : Exit → Act → World → Prop
  | .normal, _, W' => KeepsOthers W W' ∧ Below n0 W W' ∧ (∀ q ∈ own, W'.heap[q]? = W.heap[q]?) ∧ I pre W'
  | .ret, _, W' => KeepsOthers W W' ∧ Ix .ret pre W'
  | .exit id, _, W' => KeepsOthers W W' ∧ Ix (.exit id) pre W'
  | .goto t, _, W' => KeepsOthers W W' ∧ Ix (.goto t) pre W'
  | .panic _, _, _ => False
  | .outgrown, _, _ => False
theorem KeepsG2.one {cw : List Nat} {B : Nat} {I : World → Prop} (h : KeepsG2 cw B I) : KeepsG1 cw I := fun W W' r hi hg hr => h W W' r hi hg (by rcases hr with h | h; exact .inl h; exact .inr (.inl h))
theorem KeepsG2.alloc {cw : List Nat} {B : Nat} {I : World → Prop} (h : KeepsG2 cw B I) {W : World} (o : Obj) (hi : I W) : I (W.alloc o) :=
  h W _ none hi ⟨rfl, rfl, rfl, by simp, fun k hk _ => Below.heap_alloc W o k hk⟩ (.inl rfl)
theorem KeepsG2.turn {cw : List Nat} {B : Nat} {I : World → Prop} (h : KeepsG2 cw B I) {W : World} {l : Nat} {o : Obj} (o' : Obj) (hl : B ≤ l) (hi : I W) (ho : W.heap[l]? = some o) (hc : o.isCells = false) : I (W.putObj l o') :=
  h W _ (some l) hi (grownBy_putObj' W l o') (.inr (.inr ⟨l, rfl, hl, o, ho, hc⟩))
theorem keptG {W W' : World} {k : Nat} {r : Option Nat} {o : Obj} (h : W.heap[k]? = some o) (hg : W.grownBy W' r) (hne : r ≠ some k) : W'.heap[k]? = some o :=
  (hg.block k (heap_lt h) (fun e => hne e.symm)).trans h

theorem range_lawG {α : Type} {P : Program} {g : Operand} {ps : Array Tmp} {assign body : Code} {Q : Exit → Act → World → Prop} {a : Act} {w : World} {gf : Nat} {lb : Array Value} {encs : α → Array Value} {xs : List α} {cw own : List Nat} {n0 : Nat} {w0 : World}
    (hg : a.eval g = .func (.func gf) #[] lb) (eg : ∀ args w, (callFunc gf args).run P w = .ok (.enter gf args) w) (hit : IterG P gf lb encs xs cw own n0 w0) (hb0 : Below w0.heap.size w0 w) (hn0 : n0 ≤ w.heap.size) (hc : ∀ c ∈ own, c < w.heap.size) (hcw : ∀ c ∈ cw, c ∈ own)
    (hps : ∀ x, (encs x).size = ps.size) (I : List α → World → Prop) (Ix : Code → List α → World → Prop) (hI : ∀ pre, KeepsG2 cw w.heap.size (I pre)) (hIx : ∀ k pre, KeepsG2 cw w.heap.size (Ix k pre)) (h0 : I [] w) (M : List α → α → Act → World → Prop) (hM : ∀ pre x a1, KeepsG2 cw w.heap.size (M pre x a1))
    (hassign : ∀ (l : Nat) (pre : List α) (x : α) (W : World) (K : Act → World → Prop), I pre W → (pre ++ [x]) <+: xs → (∀ a1 W', KeepsOthers W W' → Below n0 W W' → (∀ q ∈ own, W'.heap[q]? = W.heap[q]?) → W.heap.size ≤ W'.heap.size → M pre x a1 W' → K a1 W') →
      assign.wpIn (Fence.wide.inRound l) 7 P (Exit.then K (fun _ _ _ => False)) { tmps := (ps.zip (encs x)).foldl (fun t (p, v) => t.setIfInBounds p v) a.tmps, defers := [] } W)
    (hbody : ∀ (l : Nat) (pre : List α) (x : α) (a1 : Act) (W : World), M pre x a1 W → (pre ++ [x]) <+: xs → body.wpIn (Fence.wide.inRound l) 7 P (LeftByG n0 own I Ix (pre ++ [x]) W) a1 W)
    (hdone : ∀ (D : Nat) (W : World), w.heap.size ≤ D → I xs W → W.heap[D]? = some (.deferred (some [])) → Q .normal { a with defers := { target := .collected D, args := #[] } :: a.defers } W)
    (hstop : ∀ (D : Nat) (k : Code) (pre : List α) (W : World), w.heap.size ≤ D → pre <+: xs → Ix k pre W → W.heap[D]? = some (.deferred (some [])) → k.wpIn Fence.wide 9 P Q { a with defers := { target := .collected D, args := #[] } :: a.defers } W) :
    (Code.rangeFunc g ps assign body).wpIn Fence.wide 9 P Q a w := by
  refine wpIn_rangeFunc fun fn hfn => ?_
  obtain ⟨D, hD⟩ : ∃ D, w.heap.size = D := ⟨_, rfl⟩
  obtain ⟨R, hR⟩ : ∃ R : LoopState → Option Code → Loop, R = fun st pe => { state := st, pending := pe, fn, tmps := a.tmps, params := ps, assign, body, defers := D } := ⟨_, rfl⟩
  have hstate : ∀ st pe st' pe', { R st pe with state := st', pending := pe' } = R st' pe' := by intros; rw [hR]
  obtain ⟨V, hV⟩ : ∃ V, (w.alloc (.deferred (some []))).alloc (.loop (R .ready none)) = V := ⟨_, rfl⟩
  have vl : V.heap[D + 1]? = some (.loop (R .ready none)) := by
    have h := World.alloc_heap_new (w.alloc (.deferred (some []))) (.loop (R .ready none))
    rw [World.size_alloc, hD, hV] at h
    exact h
  have vd : V.heap[D]? = some (.deferred (some [])) := by
    rw [← hV, Below.heap_alloc _ _ _ (by rw [World.size_alloc]; omega), ← hD]
    exact World.alloc_heap_new w _
  have hIV : I [] V := by rw [← hV]; exact (hI []).alloc _ ((hI []).alloc _ h0)
  have hbV : Below w0.heap.size w0 V := by
    rw [← hV]
    exact (hb0.alloc hb0.size _).alloc (by rw [World.size_alloc]; have := hb0.size; omega) _
  have turn2 : ∀ (A : World) (r : Loop) (jump : Option Code), A.heap[D + 1]? = some (.loop r) → (A.putObj (D + 1) (.loop { r with state := if jump.isNone then .ready else .done, pending := jump })).heap[D + 1]? = some (.loop { r with state := if jump.isNone then .ready else .done, pending := jump }) :=
    fun A r jump h => World.putObj_heap_same (heap_lt h)
  refine ⟨D + 1, [{ target := .collected D, args := #[] }], V, { target := .fn (.func gf) lb, args := #[.func (.yield (D + 1)) #[] #[]] }, V, gf, #[.func (.yield (D + 1)) #[] #[]] ++ lb, V, ?_, ?_, fun _ _ => trivial, ?_, wide_one, ?_⟩
  · have h := run_enterLoop_outer (P := P) (w := w) fn a.tmps ps assign body
    rw [hD] at h
    rw [← hV, hR]
    exact h
  · simp only [resolve, hg]
    simp [go_sem]
  · simp [invoke, go_sem, eg]
  · refine (hit (D + 1) (fun pre W => I pre W ∧ W.heap[D + 1]? = some (.loop (R .ready none)) ∧ W.heap[D]? = some (.deferred (some [])))
      (fun pre W => ∃ k, Ix k pre W ∧ W.heap[D + 1]? = some (.loop (R .done (some k))) ∧ W.heap[D]? = some (.deferred (some []))) V hbV ?_ ?_ ?_ ⟨hIV, vl, vd⟩).mono ?_
    · rintro pre A B r ⟨h1, h2, h3⟩ hgr hr
      have hne : ∀ k, D ≤ k → r ≠ some k := fun k hk e => by
        rcases hr with h | ⟨c, hc1, h⟩
        · rw [h] at e; cases e
        · rw [h] at e; injection e with e; have := hc c (hcw c hc1); omega
      exact ⟨(hI pre).one A B r h1 hgr hr, keptG h2 hgr (hne _ (by omega)), keptG h3 hgr (hne _ (by omega))⟩
    · rintro pre A B r ⟨k, h1, h2, h3⟩ hgr hr
      have hne : ∀ k, D ≤ k → r ≠ some k := fun k hk e => by
        rcases hr with h | ⟨c, hc1, h⟩
        · rw [h] at e; cases e
        · rw [h] at e; injection e with e; have := hc c (hcw c hc1); omega
      exact ⟨k, (hIx k pre).one A B r h1 hgr hr, keptG h2 hgr (hne _ (by omega)), keptG h3 hgr (hne _ (by omega))⟩
    · rintro pre x A ⟨hi, hl, hd⟩ hpre
      refine ⟨fn, _, assign, body, by have h := run_yield (P := P) (args := encs x) hl (by rw [hR]; exact hps x); rw [hR] at h; exact h, roundIn_of_wpIn hfn (hassign _ pre x A _ hi hpre ?_)⟩
      intro a1 A1 ko ab1 ac1 _ am
      have al1 := ko.same _ _ hl rfl
      have ad1 := ko.same _ _ hd rfl
      refine ⟨_, run_beginRound al1 (by rw [hR]), ?_⟩
      obtain ⟨A2, hA2⟩ : ∃ A2, A1.putObj (D + 1) (.loop { R .ready none with state := .busy }) = A2 := ⟨_, rfl⟩
      have al : A2.heap[D + 1]? = some (.loop { R .ready none with state := .busy }) := by rw [← hA2]; exact World.putObj_heap_same (heap_lt al1)
      have ad : A2.heap[D]? = some (.deferred (some [])) := by rw [← hA2]; exact (World.putObj_heap_other (by omega)).trans ad1
      have ac : ∀ q ∈ own, A2.heap[q]? = A.heap[q]? := fun q hq => by rw [← hA2]; exact (World.putObj_heap_other (by have := hc q hq; omega)).trans (ac1 q hq)
      have ab : Below n0 A A2 := by rw [← hA2]; exact ab1.trans (below_turn _ (by omega))
      have ai : M pre x a1 A2 := by rw [← hA2]; exact (hM pre x a1).turn _ (by omega) am al1 rfl
      rw [hA2]
      refine wpIn_mono (hbody _ pre x a1 A2 ai hpre) ?_
      intro e a3 B hp
      cases e with
      | normal =>
        obtain ⟨h1, h2, h3, h4⟩ := hp
        have bl := h1.same _ _ al rfl
        have bd := h1.same _ _ ad rfl
        refine ⟨_, _, run_endRound none bl, .inl ⟨rfl, ⟨(hI _).turn _ (by omega) h4 bl rfl, ?_, (World.putObj_heap_other (by omega)).trans bd⟩, (ab.trans h2).trans (below_turn _ (by omega)), ?_⟩⟩
        · rw [turn2 B _ none bl, hR]; rfl
        · intro q hq
          rw [World.putObj_heap_other (by have := hc q hq; omega), h3 q hq, ac q hq]
      | ret =>
        obtain ⟨h1, h4⟩ := hp
        have bl := h1.same _ _ al rfl
        have bd := h1.same _ _ ad rfl
        refine ⟨_, _, run_endRound (some .ret) bl, .inr ⟨rfl, .ret, (hIx _ _).turn _ (by omega) h4 bl rfl, ?_, (World.putObj_heap_other (by omega)).trans bd⟩⟩
        rw [turn2 B _ (some .ret) bl, hR]; rfl
      | exit id =>
        obtain ⟨h1, h4⟩ := hp
        have bl := h1.same _ _ al rfl
        have bd := h1.same _ _ ad rfl
        refine ⟨_, _, run_endRound (some (.exit id)) bl, .inr ⟨rfl, .exit id, (hIx _ _).turn _ (by omega) h4 bl rfl, ?_, (World.putObj_heap_other (by omega)).trans bd⟩⟩
        rw [turn2 B _ (some (.exit id)) bl, hR]; rfl
      | goto t =>
        obtain ⟨h1, h4⟩ := hp
        have bl := h1.same _ _ al rfl
        have bd := h1.same _ _ ad rfl
        refine ⟨_, _, run_endRound (some (.goto t)) bl, .inr ⟨rfl, .goto t, (hIx _ _).turn _ (by omega) h4 bl rfl, ?_, (World.putObj_heap_other (by omega)).trans bd⟩⟩
        rw [turn2 B _ (some (.goto t)) bl, hR]; rfl
      | panic ch => exact hp.elim
      | outgrown => exact hp.elim
    · rintro e B ⟨⟨v, rfl⟩, h | ⟨pre, hpre, k, h1, bl, bd⟩⟩
      · obtain ⟨h1, bl, bd⟩ := h
        refine ⟨none, _, by have h := run_endLoop (P := P) bl (by rw [hR]; simp); rw [hR] at h; exact h, ?_⟩
        exact hdone D _ (by omega) ((hI _).turn _ (by omega) h1 bl rfl) ((World.putObj_heap_other (by omega)).trans bd)
      · refine ⟨some k, _, by have h := run_endLoop (P := P) bl (by rw [hR]; simp); rw [hR] at h; exact h, ?_⟩
        exact hstop D k pre _ (by omega) hpre ((hIx k pre).turn _ (by omega) h1 bl rfl) ((World.putObj_heap_other (by omega)).trans bd)

/-! What abides the loop's own book-keeping. -/
theorem Own.keepsG {α : Type} {f : α → Value} {e : TypeId} {base B : Nat} {v : Value} {xs : List α} {cw : List Nat} (hc : ∀ c ∈ cw, c < base) : KeepsG2 cw B (fun W => Own f e W base v xs) := fun W W' r h hg hr =>
  h.grown hg (by
    rcases hr with rfl | ⟨c, hc1, rfl⟩ | ⟨g, rfl, _, o, ho, hcl⟩
    · cases v.ownBlock with
      | none => exact .inl rfl
      | some k => exact .inr (by simp)
    · exact .inr (h.notRow (.inl (hc c hc1)))
    · exact .inr (h.notRow (.inr ⟨o, ho, hcl⟩)))
theorem Blk.keepsG {g B : Nat} {t : TypeId} {cs : Array Value} {cw : List Nat} (hne : g ∉ cw) : KeepsG2 cw B (fun W => Blk W g t cs) := fun W W' r h hg hr => by
  refine h.grown hg fun e => ?_
  subst e
  rcases hr with h1 | ⟨c, hc, h1⟩ | ⟨g', h1, _, o, ho, hcl⟩
  · cases h1
  · injection h1 with h1; subst h1; exact hne hc
  · injection h1 with h1
    subst h1
    unfold Blk at h
    rw [h] at ho
    cases ho
    cases hcl
theorem below_keepsG {w : World} {n0 B : Nat} {cw : List Nat} (hc : ∀ c ∈ cw, n0 ≤ c) (hB : n0 ≤ B) (hn : n0 ≤ w.heap.size) : KeepsG2 cw B (fun W => Below n0 w W) := fun W W' r h hg hr =>
  h.grown hg (Nat.le_trans hn h.size) (fun k e => by
    subst e
    rcases hr with h1 | ⟨c, hc1, h1⟩ | ⟨g, h1, h2, _⟩
    · cases h1
    · injection h1 with h1; subst h1; exact hc _ hc1
    · injection h1 with h1; subst h1; omega)
theorem size_keepsG {n B : Nat} {cw : List Nat} : KeepsG2 cw B (fun W => n ≤ W.heap.size) := fun _ _ _ h hg _ => Nat.le_trans h hg.size
theorem KeepsG2.and {cw : List Nat} {B : Nat} {I J : World → Prop} (h : KeepsG2 cw B I) (k : KeepsG2 cw B J) : KeepsG2 cw B (fun W => I W ∧ J W) := fun W W' r hi hg hr => ⟨h W W' r hi.1 hg hr, k W W' r hi.2 hg hr⟩
theorem KeepsG2.ex {α : Type} {cw : List Nat} {B : Nat} {I : α → World → Prop} (h : ∀ x, KeepsG2 cw B (I x)) : KeepsG2 cw B (fun W => ∃ x, I x W) := fun W W' r ⟨x, hi⟩ hg hr => ⟨x, h x W W' r hi hg hr⟩
theorem KeepsG2.pure {cw : List Nat} {B : Nat} (p : Prop) : KeepsG2 cw B (fun _ => p) := fun _ _ _ h _ _ => h
/-- Seen from w only the block r, and new blocks, have been written. -/
theorem grown_keepsG {w : World} {row : Option Nat} {B : Nat} {cw : List Nat} (hc : ∀ c ∈ cw, w.heap.size ≤ c ∨ row = some c) (hB : w.heap.size ≤ B) : KeepsG2 cw B (fun W => w.grownBy W row) := fun W W' r h hg hr =>
  ⟨hg.os.trans h.os, hg.tape.trans h.tape, hg.output.trans h.output, Nat.le_trans h.size hg.size, fun k hk hne => by
    rw [hg.block k (Nat.lt_of_lt_of_le hk h.size) (fun e => by
      subst e
      rcases hr with h1 | ⟨c, hc1, h1⟩ | ⟨g, h1, h2, _⟩
      · cases h1
      · injection h1 with h1
        subst h1
        rcases hc _ hc1 with h3 | h3
        · omega
        · exact hne h3.symm
      · injection h1 with h1; subst h1; omega)]
    exact h.block k hk hne⟩
theorem grown_then {w w1 w2 : World} {r r1 : Option Nat} (h : w.grownBy w1 r) (h1 : w1.grownBy w2 r1) (hr : r1 = r ∨ r1 = none ∨ ∃ g, r1 = some g ∧ w.heap.size ≤ g) : w.grownBy w2 r :=
  ⟨h1.os.trans h.os, h1.tape.trans h.tape, h1.output.trans h.output, Nat.le_trans h.size h1.size, fun k hk hne => by
    rw [h1.block k (Nat.lt_of_lt_of_le hk h.size) (fun e => by
      rcases hr with h3 | h3 | ⟨g, h3, h4⟩
      · rw [h3] at e; exact hne e
      · rw [h3] at e; cases e
      · rw [h3] at e; injection e with e; omega)]
    exact h.block k hk hne⟩
end Go.Proofs.YtiipnpfaaghekaaGreat
namespace Go.Proofs.YtiipnpfaaghekaaGreat
open Go.RowKit

theorem wpListIn_append_OwnM {α : Type} {sz : Nat} {f : α → List Value} {F : Fence} {fuel : Nat} {P : Program} {w : World} {ops : Array Oper} {rest : List Oper} {o : Oper} {ac : Act} {Q : Exit → Act → World → Prop} (hgd : o.guard = none) (s x : Operand) (t : TypeId)
    (ho : o.op = .call { callee := .builtin .append, args := #[s, x], argTypes := #[t, t] })
    (base : Nat) (e : TypeId) (i : TypeInfo) (z : Value) (bytes : Nat) (ht : P.underlying t = some (.slice e)) (hi : P.info? e = some i) (hz : i.zero = some z)
    (hsize : i.size = sz) (hby : i.bytes = bytes) (hzs : z.cells.size = sz) (hsz : 0 < sz) (hf : ∀ x, ∀ u ∈ f x, u.oneCell' = true)
    (v : Value) (xs : List α) (hs : ac.eval s = v) (hown : OwnM sz f e w base v xs) (B : Nat) (a : Option Addr) (m c : Nat) (ys : List α) (hx : ac.eval x = .slice a m c) (hy : ArrM sz f w B a m ys)
    (hbytes : (xs.length + m) * bytes ≤ 140737488355328) (h63 : xs.length + m ≤ maxLen) (hbase : base ≤ w.heap.size)
    (h : ∀ v' w', OwnM sz f e w' base v' (xs ++ ys) → w.grownBy w' v.ownBlock → (v'.ownBlock = v.ownBlock ∨ v'.ownBlock = some w.heap.size) → wpListIn F fuel P ops Q rest (ac.put o.dst v') w') : wpListIn F fuel P ops Q (o :: rest) ac w := by
  refine wpListIn_plain hgd fun K hK => ?_
  obtain ⟨v', w', hrun, h2, h3, h4⟩ := run_append_OwnM (P := P) w base t o.type e i z bytes ht hi hz hsize hby hzs hsz hf v xs hown B a m c ys hy hbytes h63 hbase
  unfold Oper.wpIn
  refine ⟨?_, ?_⟩
  · simp [Oper.about, ho, resolve, Target.leads, Sem.run_pure]
  · rw [Oper.semAt_plain F _ _ (by rw [ho]; intro c hc; cases hc)]
    simp only [execOp, ho, resolve, invoke, builtin, Sem.run_bind, Sem.run_pure, Result.andThen_ok, List.map_toArray, List.map_cons, List.map_nil, hs, hx, hrun, Oper.uponIn_value]
    exact hK _ _ (h v' w' h2 h3 h4)
section
variable {α : Type} {m : Nat} {f : α → List Value} {e : TypeId} {w : World} {base : Nat} {v : Value} {xs : List α}
theorem OwnM.notRowM {r : Nat} (h : OwnM m f e w base v xs) (hr : r < base ∨ ∃ o : Obj, w.heap[r]? = some o ∧ o.isCells = false) : v.ownBlock ≠ some r := by
  rcases h.2.2 with ⟨rfl, _⟩ | ⟨g, cap, cur, rfl, hgb, hg, _⟩
  · intro e; cases e
  · intro e
    have e2 : g = r := Option.some.inj e
    subst e2
    rcases hr with h1 | ⟨o, ho, hc⟩
    · omega
    · rw [hg] at ho
      cases ho
      cases hc
theorem OwnM.cellsRowM (h : OwnM m f e w base v xs) : ∀ (j : Nat) (o : Obj), v.ownBlock = some j → w.heap[j]? = some o → o.isCells = true := by
  intro j o hj ho
  rcases h.2.2 with ⟨rfl, _⟩ | ⟨g, cap, cur, rfl, hgb, hg, _⟩
  · cases hj
  · have e2 : g = j := Option.some.inj hj
    subst e2
    rw [hg] at ho
    cases ho
    rfl
theorem OwnM.notBlk {g : Nat} {t : TypeId} {cs : Array Value} (h : OwnM m f e w base v xs) (hb : Blk w g t cs) (ht : e ≠ t) : v.ownBlock ≠ some g := by
  rcases h.2.2 with ⟨rfl, _⟩ | ⟨g', cap, cur, rfl, _, hh, _⟩
  · intro e; cases e
  · intro he
    have : g' = g := by simpa [Value.ownBlock] using he
    subst this
    unfold Blk at hb
    rw [hh] at hb
    injection hb with hb
    injection hb with _ hb
    exact ht hb
end
theorem OwnM.keepsG {α : Type} {m : Nat} {f : α → List Value} {e : TypeId} {base B : Nat} {v : Value} {xs : List α} {cw : List Nat} (hc : ∀ c ∈ cw, c < base) : KeepsG2 cw B (fun W => OwnM m f e W base v xs) := fun W W' r h hg hr =>
  h.grown hg (by
    rcases hr with rfl | ⟨c, hc1, rfl⟩ | ⟨g, rfl, _, o, ho, hcl⟩
    · cases v.ownBlock with
      | none => exact .inl rfl
      | some k => exact .inr (by simp)
    · exact .inr (h.notRowM (.inl (hc c hc1)))
    · exact .inr (h.notRowM (.inr ⟨o, ho, hcl⟩)))
end Go.Proofs.YtiipnpfaaghekaaGreat
