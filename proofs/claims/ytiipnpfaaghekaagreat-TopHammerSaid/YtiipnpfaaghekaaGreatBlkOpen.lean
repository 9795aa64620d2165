/-
  A range over a function, once more: the iterator's captured variables are blocks of its own (own), of which it writes some (cw) and no round writes any; the round's variables may be laid into blocks.
-/
/-
  A manager is opened.
-/
import Derived.Test.YtiipnpfaaghekaaGreatIter
import Derived.Test.YtiipnpfaaghekaaGreatIterOwn
import Derived.Test.YtiipnpfaaghekaaGreatMany
import Derived.Test.YtiipnpfaaghekaaGreatBlkAct
import Derived.Test.YtiipnpfaaghekaaGreatMapAt
import Derived.Deep.CutBlock
/-
  In a round: append onto a row of the call's own whose elements take several cells; what abides the loop's own book-keeping.
-/
namespace Go.Proofs.YtiipnpfaaghekaaGreat
open Go.RowKit

/-- A fact on worlds that abides new blocks, and whatever is done to one of the blocks cw. -/
def KeepsG1 (cw : List Nat) (I : World → Prop) : Prop := ∀ W W' r, I W → W.grownBy W' r → (r = none ∨ ∃ c ∈ cw, r = some c) → I W'
/-- .. and the turn of a block from B on that is no cells. -/
def KeepsG2 (cw : List Nat) (B : Nat) (I : World → Prop) : Prop :=
  ∀ W W' r, I W → W.grownBy W' r → (r = none ∨ (∃ c ∈ cw, r = some c) ∨ ∃ g, r = some g ∧ B ≤ g ∧ ∃ o : Obj, W.heap[g]? = some o ∧ o.isCells = false) → I W'
def RoundOkG {α : Type} (n0 : Nat) (own : List Nat) (J Jx : List α → World → Prop) (pre : List α) (W : World) (e : Ending) (W' : World) : Prop :=
  (e = .returned (.bool true) ∧ J pre W' ∧ Below n0 W W' ∧ ∀ q ∈ own, W'.heap[q]? = W.heap[q]?) ∨ (e = .returned (.bool false) ∧ Jx pre W')
def IterG {α : Type} (P : Program) (gf : Nat) (lb : Array Value) (encs : α → Array Value) (xs : List α) (cw own : List Nat) (n0 : Nat) (w : World) : Prop :=
  ∀ (l : Nat) (J Jx : List α → World → Prop) (W : World), Below w.heap.size w W → (∀ pre, KeepsG1 cw (J pre)) → (∀ pre, KeepsG1 cw (Jx pre)) →
    (∀ pre x W1, J pre W1 → (pre ++ [x]) <+: xs → YieldAt Fence.wide 7 P l (encs x) W1 (RoundOkG n0 own J Jx (pre ++ [x]) W1)) → J [] W →
    CallsIn Fence.wide 8 P gf (#[.func (.yield l) #[] #[]] ++ lb) W fun e W' => (∃ v, e = .returned v) ∧ (J xs W' ∨ ∃ pre, pre <+: xs ∧ Jx pre W')
def LeftByG {α : Type} (n0 : Nat) (own : List Nat) (I : List α → World → Prop) (Ix : Code → List α → World → Prop) (pre : List α) (W : World) : Exit → Act → World → Prop
  | .normal, _, W' => KeepsOthers W W' ∧ Below n0 W W' ∧ (∀ q ∈ own, W'.heap[q]? = W.heap[q]?) ∧ I pre W'
  | .ret, _, W' => KeepsOthers W W' ∧ Ix .ret pre W'
  | .exit id, _, W' => KeepsOthers W W' ∧ Ix (.exit id) pre W'
  | .goto t, _, W' => KeepsOthers W W' ∧ Ix (.goto t) pre W'
  | .panic _, _, _ => False
  | .outgrown, _, _ => False
theorem KeepsG2.one {cw : List Nat} {B : Nat} {I : World → Prop} (h : KeepsG2 cw B I) : KeepsG1 cw I := fun W W' r hi hg hr => h W W' r hi hg (by rcases hr with h | h; exact .inl h; exact .inr (.inl h))
theorem KeepsG2.alloc {cw : List Nat} {B : Nat} {I : World → Prop} (h : KeepsG2 cw B I) {W : World} (o : Obj) (hi : I W) : I (W.alloc o) :=
  h W _ none hi ⟨rfl, rfl, rfl, by simp, fun k hk _ => Below.heap_alloc W o k hk⟩ (.inl rfl)
theorem KeepsG2.turn {cw : List Nat} {B : Nat} {I : World → Prop} (h : KeepsG2 cw B I) {W : World} {l : Nat} {o : Obj} (o' : Obj) (hl : B ≤ l) (hi : I W) (ho : W.heap[l]? = some o) (hc : o.isCells = false) : I (W.putObj l o') :=
  h W _ (some l) hi (grownBy_putObj' W l o') (.inr (.inr ⟨l, rfl, hl, o, ho, hc⟩))
theorem keptG {W W' : World} {k : Nat} {r : Option Nat} {o : Obj} (h : W.heap[k]? = some o) (hg : W.grownBy W' r) (hne : r ≠ some k) : W'.heap[k]? = some o :=
  (hg.block k (heap_lt h) (fun e => hne e.symm)).trans h

theorem range_lawG {α : Type} {P : Program} {g : Operand} {ps : Array Tmp} {assign body : Code} {Q : Exit → Act → World → Prop} {a : Act} {w : World} {gf : Nat} {lb : Array Value} {encs : α → Array Value} {xs : List α} {cw own : List Nat} {n0 : Nat} {w0 : World}
    (hg : a.eval g = .func (.func gf) #[] lb) (eg : ∀ args w, (callFunc gf args).run P w = .ok (.enter gf args) w) (hit : IterG P gf lb encs xs cw own n0 w0) (hb0 : Below w0.heap.size w0 w) (hn0 : n0 ≤ w.heap.size) (hc : ∀ c ∈ own, c < w.heap.size) (hcw : ∀ c ∈ cw, c ∈ own)
    (hps : ∀ x, (encs x).size = ps.size) (I : List α → World → Prop) (Ix : Code → List α → World → Prop) (hI : ∀ pre, KeepsG2 cw w.heap.size (I pre)) (hIx : ∀ k pre, KeepsG2 cw w.heap.size (Ix k pre)) (h0 : I [] w) (M : List α → α → Act → World → Prop) (hM : ∀ pre x a1, KeepsG2 cw w.heap.size (M pre x a1))
    (hassign : ∀ (l : Nat) (pre : List α) (x : α) (W : World) (K : Act → World → Prop), I pre W → (pre ++ [x]) <+: xs → (∀ a1 W', KeepsOthers W W' → Below n0 W W' → (∀ q ∈ own, W'.heap[q]? = W.heap[q]?) → W.heap.size ≤ W'.heap.size → M pre x a1 W' → K a1 W') →
      assign.wpIn (Fence.wide.inRound l) 7 P (Exit.then K (fun _ _ _ => False)) { tmps := (ps.zip (encs x)).foldl (fun t (p, v) => t.setIfInBounds p v) a.tmps, defers := [] } W)
    (hbody : ∀ (l : Nat) (pre : List α) (x : α) (a1 : Act) (W : World), M pre x a1 W → (pre ++ [x]) <+: xs → body.wpIn (Fence.wide.inRound l) 7 P (LeftByG n0 own I Ix (pre ++ [x]) W) a1 W)
    (hdone : ∀ (D : Nat) (W : World), w.heap.size ≤ D → I xs W → W.heap[D]? = some (.deferred (some [])) → Q .normal { a with defers := { target := .collected D, args := #[] } :: a.defers } W)
    (hstop : ∀ (D : Nat) (k : Code) (pre : List α) (W : World), w.heap.size ≤ D → pre <+: xs → Ix k pre W → W.heap[D]? = some (.deferred (some [])) → k.wpIn Fence.wide 9 P Q { a with defers := { target := .collected D, args := #[] } :: a.defers } W) :
    (Code.rangeFunc g ps assign body).wpIn Fence.wide 9 P Q a w := by
  refine wpIn_rangeFunc fun fn hfn => ?_
  obtain ⟨D, hD⟩ : ∃ D, w.heap.size = D := ⟨_, rfl⟩
  obtain ⟨R, hR⟩ : ∃ R : LoopState → Option Code → Loop, R = fun st pe => { state := st, pending := pe, fn, tmps := a.tmps, params := ps, assign, body, defers := D } := ⟨_, rfl⟩
  have hstate : ∀ st pe st' pe', { R st pe with state := st', pending := pe' } = R st' pe' := by intros; rw [hR]
  obtain ⟨V, hV⟩ : ∃ V, (w.alloc (.deferred (some []))).alloc (.loop (R .ready none)) = V := ⟨_, rfl⟩
  have vl : V.heap[D + 1]? = some (.loop (R .ready none)) := by
    have h := World.alloc_heap_new (w.alloc (.deferred (some []))) (.loop (R .ready none))
    rw [World.size_alloc, hD, hV] at h
    exact h
  have vd : V.heap[D]? = some (.deferred (some [])) := by
    rw [← hV, Below.heap_alloc _ _ _ (by rw [World.size_alloc]; omega), ← hD]
    exact World.alloc_heap_new w _
  have hIV : I [] V := by rw [← hV]; exact (hI []).alloc _ ((hI []).alloc _ h0)
  have hbV : Below w0.heap.size w0 V := by
    rw [← hV]
    exact (hb0.alloc hb0.size _).alloc (by rw [World.size_alloc]; have := hb0.size; omega) _
  have turn2 : ∀ (A : World) (r : Loop) (jump : Option Code), A.heap[D + 1]? = some (.loop r) → (A.putObj (D + 1) (.loop { r with state := if jump.isNone then .ready else .done, pending := jump })).heap[D + 1]? = some (.loop { r with state := if jump.isNone then .ready else .done, pending := jump }) :=
    fun A r jump h => World.putObj_heap_same (heap_lt h)
  refine ⟨D + 1, [{ target := .collected D, args := #[] }], V, { target := .fn (.func gf) lb, args := #[.func (.yield (D + 1)) #[] #[]] }, V, gf, #[.func (.yield (D + 1)) #[] #[]] ++ lb, V, ?_, ?_, fun _ _ => trivial, ?_, wide_one, ?_⟩
  · have h := run_enterLoop_outer (P := P) (w := w) fn a.tmps ps assign body
    rw [hD] at h
    rw [← hV, hR]
    exact h
  · simp only [resolve, hg]
    simp [go_sem]
  · simp [invoke, go_sem, eg]
  · refine (hit (D + 1) (fun pre W => I pre W ∧ W.heap[D + 1]? = some (.loop (R .ready none)) ∧ W.heap[D]? = some (.deferred (some [])))
      (fun pre W => ∃ k, Ix k pre W ∧ W.heap[D + 1]? = some (.loop (R .done (some k))) ∧ W.heap[D]? = some (.deferred (some []))) V hbV ?_ ?_ ?_ ⟨hIV, vl, vd⟩).mono ?_
    · rintro pre A B r ⟨h1, h2, h3⟩ hgr hr
      have hne : ∀ k, D ≤ k → r ≠ some k := fun k hk e => by
        rcases hr with h | ⟨c, hc1, h⟩
        · rw [h] at e; cases e
        · rw [h] at e; injection e with e; have := hc c (hcw c hc1); omega
      exact ⟨(hI pre).one A B r h1 hgr hr, keptG h2 hgr (hne _ (by omega)), keptG h3 hgr (hne _ (by omega))⟩
    · rintro pre A B r ⟨k, h1, h2, h3⟩ hgr hr
      have hne : ∀ k, D ≤ k → r ≠ some k := fun k hk e => by
        rcases hr with h | ⟨c, hc1, h⟩
        · rw [h] at e; cases e
        · rw [h] at e; injection e with e; have := hc c (hcw c hc1); omega
      exact ⟨k, (hIx k pre).one A B r h1 hgr hr, keptG h2 hgr (hne _ (by omega)), keptG h3 hgr (hne _ (by omega))⟩
    · rintro pre x A ⟨hi, hl, hd⟩ hpre
      refine ⟨fn, _, assign, body, by have h := run_yield (P := P) (args := encs x) hl (by rw [hR]; exact hps x); rw [hR] at h; exact h, roundIn_of_wpIn hfn (hassign _ pre x A _ hi hpre ?_)⟩
      intro a1 A1 ko ab1 ac1 _ am
      have al1 := ko.same _ _ hl rfl
      have ad1 := ko.same _ _ hd rfl
      refine ⟨_, run_beginRound al1 (by rw [hR]), ?_⟩
      obtain ⟨A2, hA2⟩ : ∃ A2, A1.putObj (D + 1) (.loop { R .ready none with state := .busy }) = A2 := ⟨_, rfl⟩
      have al : A2.heap[D + 1]? = some (.loop { R .ready none with state := .busy }) := by rw [← hA2]; exact World.putObj_heap_same (heap_lt al1)
      have ad : A2.heap[D]? = some (.deferred (some [])) := by rw [← hA2]; exact (World.putObj_heap_other (by omega)).trans ad1
      have ac : ∀ q ∈ own, A2.heap[q]? = A.heap[q]? := fun q hq => by rw [← hA2]; exact (World.putObj_heap_other (by have := hc q hq; omega)).trans (ac1 q hq)
      have ab : Below n0 A A2 := by rw [← hA2]; exact ab1.trans (below_turn _ (by omega))
      have ai : M pre x a1 A2 := by rw [← hA2]; exact (hM pre x a1).turn _ (by omega) am al1 rfl
      rw [hA2]
      refine wpIn_mono (hbody _ pre x a1 A2 ai hpre) ?_
      intro e a3 B hp
      cases e with
      | normal =>
        obtain ⟨h1, h2, h3, h4⟩ := hp
        have bl := h1.same _ _ al rfl
        have bd := h1.same _ _ ad rfl
        refine ⟨_, _, run_endRound none bl, .inl ⟨rfl, ⟨(hI _).turn _ (by omega) h4 bl rfl, ?_, (World.putObj_heap_other (by omega)).trans bd⟩, (ab.trans h2).trans (below_turn _ (by omega)), ?_⟩⟩
        · rw [turn2 B _ none bl, hR]; rfl
        · intro q hq
          rw [World.putObj_heap_other (by have := hc q hq; omega), h3 q hq, ac q hq]
      | ret =>
        obtain ⟨h1, h4⟩ := hp
        have bl := h1.same _ _ al rfl
        have bd := h1.same _ _ ad rfl
        refine ⟨_, _, run_endRound (some .ret) bl, .inr ⟨rfl, .ret, (hIx _ _).turn _ (by omega) h4 bl rfl, ?_, (World.putObj_heap_other (by omega)).trans bd⟩⟩
        rw [turn2 B _ (some .ret) bl, hR]; rfl
      | exit id =>
        obtain ⟨h1, h4⟩ := hp
        have bl := h1.same _ _ al rfl
        have bd := h1.same _ _ ad rfl
        refine ⟨_, _, run_endRound (some (.exit id)) bl, .inr ⟨rfl, .exit id, (hIx _ _).turn _ (by omega) h4 bl rfl, ?_, (World.putObj_heap_other (by omega)).trans bd⟩⟩
        rw [turn2 B _ (some (.exit id)) bl, hR]; rfl
      | goto t =>
        obtain ⟨h1, h4⟩ := hp
        have bl := h1.same _ _ al rfl
        have bd := h1.same _ _ ad rfl
        refine ⟨_, _, run_endRound (some (.goto t)) bl, .inr ⟨rfl, .goto t, (hIx _ _).turn _ (by omega) h4 bl rfl, ?_, (World.putObj_heap_other (by omega)).trans bd⟩⟩
        rw [turn2 B _ (some (.goto t)) bl, hR]; rfl
      | panic ch => exact hp.elim
      | outgrown => exact hp.elim
    · rintro e B ⟨⟨v, rfl⟩, h | ⟨pre, hpre, k, h1, bl, bd⟩⟩
      · obtain ⟨h1, bl, bd⟩ := h
        refine ⟨none, _, by have h := run_endLoop (P := P) bl (by rw [hR]; simp); rw [hR] at h; exact h, ?_⟩
        exact hdone D _ (by omega) ((hI _).turn _ (by omega) h1 bl rfl) ((World.putObj_heap_other (by omega)).trans bd)
      · refine ⟨some k, _, by have h := run_endLoop (P := P) bl (by rw [hR]; simp); rw [hR] at h; exact h, ?_⟩
        exact hstop D k pre _ (by omega) hpre ((hIx k pre).turn _ (by omega) h1 bl rfl) ((World.putObj_heap_other (by omega)).trans bd)

/-! What abides the loop's own book-keeping. -/
theorem Own.keepsG {α : Type} {f : α → Value} {e : TypeId} {base B : Nat} {v : Value} {xs : List α} {cw : List Nat} (hc : ∀ c ∈ cw, c < base) : KeepsG2 cw B (fun W => Own f e W base v xs) := fun W W' r h hg hr =>
  h.grown hg (by
    rcases hr with rfl | ⟨c, hc1, rfl⟩ | ⟨g, rfl, _, o, ho, hcl⟩
    · cases v.ownBlock with
      | none => exact .inl rfl
      | some k => exact .inr (by simp)
    · exact .inr (h.notRow (.inl (hc c hc1)))
    · exact .inr (h.notRow (.inr ⟨o, ho, hcl⟩)))
theorem Blk.keepsG {g B : Nat} {t : TypeId} {cs : Array Value} {cw : List Nat} (hne : g ∉ cw) : KeepsG2 cw B (fun W => Blk W g t cs) := fun W W' r h hg hr => by
  refine h.grown hg fun e => ?_
  subst e
  rcases hr with h1 | ⟨c, hc, h1⟩ | ⟨g', h1, _, o, ho, hcl⟩
  · cases h1
  · injection h1 with h1; subst h1; exact hne hc
  · injection h1 with h1
    subst h1
    unfold Blk at h
    rw [h] at ho
    cases ho
    cases hcl
theorem below_keepsG {w : World} {n0 B : Nat} {cw : List Nat} (hc : ∀ c ∈ cw, n0 ≤ c) (hB : n0 ≤ B) (hn : n0 ≤ w.heap.size) : KeepsG2 cw B (fun W => Below n0 w W) := fun W W' r h hg hr =>
  h.grown hg (Nat.le_trans hn h.size) (fun k e => by
    subst e
    rcases hr with h1 | ⟨c, hc1, h1⟩ | ⟨g, h1, h2, _⟩
    · cases h1
    · injection h1 with h1; subst h1; exact hc _ hc1
    · injection h1 with h1; subst h1; omega)
theorem size_keepsG {n B : Nat} {cw : List Nat} : KeepsG2 cw B (fun W => n ≤ W.heap.size) := fun _ _ _ h hg _ => Nat.le_trans h hg.size
theorem KeepsG2.and {cw : List Nat} {B : Nat} {I J : World → Prop} (h : KeepsG2 cw B I) (k : KeepsG2 cw B J) : KeepsG2 cw B (fun W => I W ∧ J W) := fun W W' r hi hg hr => ⟨h W W' r hi.1 hg hr, k W W' r hi.2 hg hr⟩
theorem KeepsG2.ex {α : Type} {cw : List Nat} {B : Nat} {I : α → World → Prop} (h : ∀ x, KeepsG2 cw B (I x)) : KeepsG2 cw B (fun W => ∃ x, I x W) := fun W W' r ⟨x, hi⟩ hg hr => ⟨x, h x W W' r hi hg hr⟩
theorem KeepsG2.pure {cw : List Nat} {B : Nat} (p : Prop) : KeepsG2 cw B (fun _ => p) := fun _ _ _ h _ _ => h
/-- Seen from w only the block r, and new blocks, have been written. -/
theorem grown_keepsG {w : World} {row : Option Nat} {B : Nat} {cw : List Nat} (hc : ∀ c ∈ cw, w.heap.size ≤ c ∨ row = some c) (hB : w.heap.size ≤ B) : KeepsG2 cw B (fun W => w.grownBy W row) := fun W W' r h hg hr =>
  ⟨hg.os.trans h.os, hg.tape.trans h.tape, hg.output.trans h.output, Nat.le_trans h.size hg.size, fun k hk hne => by
    rw [hg.block k (Nat.lt_of_lt_of_le hk h.size) (fun e => by
      subst e
      rcases hr with h1 | ⟨c, hc1, h1⟩ | ⟨g, h1, h2, _⟩
      · cases h1
      · injection h1 with h1
        subst h1
        rcases hc _ hc1 with h3 | h3
        · omega
        · exact hne h3.symm
      · injection h1 with h1; subst h1; omega)]
    exact h.block k hk hne⟩
theorem grown_then {w w1 w2 : World} {r r1 : Option Nat} (h : w.grownBy w1 r) (h1 : w1.grownBy w2 r1) (hr : r1 = r ∨ r1 = none ∨ ∃ g, r1 = some g ∧ w.heap.size ≤ g) : w.grownBy w2 r :=
  ⟨h1.os.trans h.os, h1.tape.trans h.tape, h1.output.trans h.output, Nat.le_trans h.size h1.size, fun k hk hne => by
    rw [h1.block k (Nat.lt_of_lt_of_le hk h.size) (fun e => by
      rcases hr with h3 | h3 | ⟨g, h3, h4⟩
      · rw [h3] at e; exact hne e
      · rw [h3] at e; cases e
      · rw [h3] at e; injection e with e; omega)]
    exact h.block k hk hne⟩
end Go.Proofs.YtiipnpfaaghekaaGreat
namespace Go.Proofs.YtiipnpfaaghekaaGreat
open Go.RowKit

theorem wpListIn_append_OwnM {α : Type} {sz : Nat} {f : α → List Value} {F : Fence} {fuel : Nat} {P : Program} {w : World} {ops : Array Oper} {rest : List Oper} {o : Oper} {ac : Act} {Q : Exit → Act → World → Prop} (hgd : o.guard = none) (s x : Operand) (t : TypeId)
    (ho : o.op = .call { callee := .builtin .append, args := #[s, x], argTypes := #[t, t] })
    (base : Nat) (e : TypeId) (i : TypeInfo) (z : Value) (bytes : Nat) (ht : P.underlying t = some (.slice e)) (hi : P.info? e = some i) (hz : i.zero = some z)
    (hsize : i.size = sz) (hby : i.bytes = bytes) (hzs : z.cells.size = sz) (hsz : 0 < sz) (hf : ∀ x, ∀ u ∈ f x, u.oneCell' = true)
    (v : Value) (xs : List α) (hs : ac.eval s = v) (hown : OwnM sz f e w base v xs) (B : Nat) (a : Option Addr) (m c : Nat) (ys : List α) (hx : ac.eval x = .slice a m c) (hy : ArrM sz f w B a m ys)
    (hbytes : (xs.length + m) * bytes ≤ 140737488355328) (h63 : xs.length + m ≤ maxLen) (hbase : base ≤ w.heap.size)
    (h : ∀ v' w', OwnM sz f e w' base v' (xs ++ ys) → w.grownBy w' v.ownBlock → (v'.ownBlock = v.ownBlock ∨ v'.ownBlock = some w.heap.size) → wpListIn F fuel P ops Q rest (ac.put o.dst v') w') : wpListIn F fuel P ops Q (o :: rest) ac w := by
  refine wpListIn_plain hgd fun K hK => ?_
  obtain ⟨v', w', hrun, h2, h3, h4⟩ := run_append_OwnM (P := P) w base t o.type e i z bytes ht hi hz hsize hby hzs hsz hf v xs hown B a m c ys hy hbytes h63 hbase
  unfold Oper.wpIn
  refine ⟨?_, ?_⟩
  · simp [Oper.about, ho, resolve, Target.leads, Sem.run_pure]
  · rw [Oper.semAt_plain F _ _ (by rw [ho]; intro c hc; cases hc)]
    simp only [execOp, ho, resolve, invoke, builtin, Sem.run_bind, Sem.run_pure, Result.andThen_ok, List.map_toArray, List.map_cons, List.map_nil, hs, hx, hrun, Oper.uponIn_value]
    exact hK _ _ (h v' w' h2 h3 h4)
section
variable {α : Type} {m : Nat} {f : α → List Value} {e : TypeId} {w : World} {base : Nat} {v : Value} {xs : List α}
theorem OwnM.notRowM {r : Nat} (h : OwnM m f e w base v xs) (hr : r < base ∨ ∃ o : Obj, w.heap[r]? = some o ∧ o.isCells = false) : v.ownBlock ≠ some r := by
  rcases h.2.2 with ⟨rfl, _⟩ | ⟨g, cap, cur, rfl, hgb, hg, _⟩
  · intro e; cases e
  · intro e
    have e2 : g = r := Option.some.inj e
    subst e2
    rcases hr with h1 | ⟨o, ho, hc⟩
    · omega
    · rw [hg] at ho
      cases ho
      cases hc
theorem OwnM.cellsRowM (h : OwnM m f e w base v xs) : ∀ (j : Nat) (o : Obj), v.ownBlock = some j → w.heap[j]? = some o → o.isCells = true := by
  intro j o hj ho
  rcases h.2.2 with ⟨rfl, _⟩ | ⟨g, cap, cur, rfl, hgb, hg, _⟩
  · cases hj
  · have e2 : g = j := Option.some.inj hj
    subst e2
    rw [hg] at ho
    cases ho
    rfl
theorem OwnM.notBlk {g : Nat} {t : TypeId} {cs : Array Value} (h : OwnM m f e w base v xs) (hb : Blk w g t cs) (ht : e ≠ t) : v.ownBlock ≠ some g := by
  rcases h.2.2 with ⟨rfl, _⟩ | ⟨g', cap, cur, rfl, _, hh, _⟩
  · intro e; cases e
  · intro he
    have : g' = g := by simpa [Value.ownBlock] using he
    subst this
    unfold Blk at hb
    rw [hh] at hb
    injection hb with hb
    injection hb with _ hb
    exact ht hb
end
theorem OwnM.keepsG {α : Type} {m : Nat} {f : α → List Value} {e : TypeId} {base B : Nat} {v : Value} {xs : List α} {cw : List Nat} (hc : ∀ c ∈ cw, c < base) : KeepsG2 cw B (fun W => OwnM m f e W base v xs) := fun W W' r h hg hr =>
  h.grown hg (by
    rcases hr with rfl | ⟨c, hc1, rfl⟩ | ⟨g, rfl, _, o, ho, hcl⟩
    · cases v.ownBlock with
      | none => exact .inl rfl
      | some k => exact .inr (by simp)
    · exact .inr (h.notRowM (.inl (hc c hc1)))
    · exact .inr (h.notRowM (.inr ⟨o, ho, hcl⟩)))
end Go.Proofs.YtiipnpfaaghekaaGreat
namespace Go.Proofs.YtiipnpfaaghekaaGreat
open Go.RowKit

def bolV (x : Bool) : Value := .bool x
theorem bolV_eq (x : Bool) : bolV x = .bool x := rfl
def naV (x : Nat) : Value := .int .i64 (x : Int)
theorem naV_eq (x : Nat) : naV x = .int .i64 (x : Int) := rfl
theorem step_litBk {w : World} {ops : Array Oper} {o : Oper} {ac : Act} {Q : Exit → Act → World → Prop} {cs : Array Value} {K : Act → World → Prop} {E : Prop} (hgd : o.guard = none) (s x : Operand) (ho : o.op = .call { callee := .builtin .append, args := #[s, x], argTypes := #[100, 100] })
    (base : Nat) (v : Value) (xs : List Bk) (hs : ac.eval s = v) (hown : OwnM 4 bkL 99 w base v xs) (y : Bk) (g : Nat) (hx : ac.eval x = .slice (some ⟨g, 0, none⟩) 1 1) (hg : g = w.heap.size) (hcs : cs = (bkL y).toArray) (hlen : xs.length ≤ 1000000) (hbase : base ≤ w.heap.size)
    (h : ∀ v' w', Hid (OwnM 4 bkL 99 w' base v' (xs ++ [y])) → Hid ((w.alloc (.cells cs 99)).grownBy w' v.ownBlock) → K (ac.put o.dst v') w') : if Region.wanted o (yielded ops ac.tmps) = true then Oper.wp Tryz.prog o ac (w.alloc (.cells cs 99)) K Q else E := by
  have hw : Region.wanted o (yielded ops ac.tmps) = true := by simp [Region.wanted, hgd]
  rw [if_pos hw]
  subst hg
  obtain ⟨i0, hi, hz0, hz1, hz2⟩ := info_parts infoBk
  exact wp_append_OwnM s x 100 ho base 99 i0 _ 32 Tryz.underlying100 hi hz0 hz1 hz2 rfl (by decide) bk_one v xs hs (hown.alloc _) _ _ 1 1 [y] hx (ArrM.lit1 w 99 y hcs) (by omega) (by simp only [maxLen]; omega) (by simp; omega) fun v' w' h1 h2 _ =>
    h v' w' (Lib.hid h1) (Lib.hid h2)
/-- How a block stands at first. -/
def openB (x : Pb) (fr : Bool) (n : Nat) : Bk := if x.bad then ⟨4, 0, x.wear, 0⟩ else if fr then ⟨0, 0, x.wear, 0⟩ else if 0 < n then ⟨2, n, x.wear, 0⟩ else ⟨3, 0, x.wear, 0⟩
def openL (bl : Nat → Pb) (fr : List Bool) (lv : List Nat) (k : Nat) : List Bk := (List.range k).map fun i => openB (bl i) (fr.getD i false) (lv.getD i 0)
theorem openL_succ (bl : Nat → Pb) (fr : List Bool) (lv : List Nat) (k : Nat) : openL bl fr lv (k + 1) = openL bl fr lv k ++ [openB (bl k) (fr.getD k false) (lv.getD k 0)] := by simp [openL, List.range_succ]
/-- What Open leaves. -/
def Opened (NB B : Nat) (S : Nat → Prop) (w : World) (C BL : Nat) (ps : Nat → Nat) (bl : Nat → Pb) (fr : List Bool) (lv : List Nat) (res bad : Nat) (e : Ending) (w' : World) : Prop :=
  ∃ M ML cap, e = .returned (.tuple #[.pointer (some ⟨M, 0, none⟩), .int .i64 0]) ∧ w.heap.size ≤ M ∧ w.heap.size ≤ ML ∧
      MgM NB B S w' ⟨M, ML, C, BL, cap, ps, bl, openL bl fr lv NB, -1, res, bad, decide (4 < (Gc.greatest (openL bl fr lv NB) : Int) - Gc.least (openL bl fr lv NB))⟩ ∧ Below w.heap.size w w'
theorem openB_wear (x : Pb) (fr : Bool) (n : Nat) : (openB x fr n).wear = x.wear := by
  unfold openB
  split
  · rfl
  · split
    · rfl
    · split <;> rfl
theorem openL_at (bl : Nat → Pb) (fr : List Bool) (lv : List Nat) {k i : Nat} (hi : i < k) : Gc.at_ (openL bl fr lv k) i = openB (bl i) (fr.getD i false) (lv.getD i 0) := by
  rw [Gc.at_, List.getD_eq_getElem?_getD, openL, List.getElem?_map, List.getElem?_range hi]
  rfl
theorem wearOf_le {l : List Bk} {o : Option Nat} {b n : Nat} (h : ∀ i, i < n → (Gc.at_ l i).wear ≤ b) (ho : ∀ k, o = some k → k < n) : Gc.wearOf l o ≤ b := by
  cases o with
  | none => exact Nat.zero_le _
  | some k => exact h k (ho k rfl)
section
variable {NB B C BL : Nat} {S : Nat → Prop} {w : World} {ps : Nat → Nat} {bl : Nat → Pb}
/-- Between two rounds of Open. -/
def OpI (GB M NB C : Nat) (res bad : Nat) (bl : Nat → Pb) (fr : List Bool) (lv : List Nat) (w : World) (k : Nat) (W : World) : Prop :=
  ∃ v, Blk W GB 48 #[.int .i64 (NB : Int), .int .i64 8, .int .i64 64] ∧ Blk W M 102 #[.pointer (some ⟨C, 0, none⟩), v, .int .i64 (-1), .int .i64 (res : Int), .int .i64 (bad : Int), .bool false] ∧ OwnM 4 bkL 99 W w.heap.size v (openL bl fr lv k) ∧ Below w.heap.size w W
set_option maxRecDepth 100000 in
set_option maxHeartbeats 16000000 in
theorem bOpen_calls (h : ChM NB B S w C BL ps bl) (hN : 0 < NB) (hnb : NB ≤ 1000) (hw : ∀ k, k < NB → (bl k).wear ≤ 1099511627776) (af : Option Addr) (cf : Nat) (fr : List Bool) (hf : Arr bolV w w.heap.size af NB fr) (al : Option Addr) (cl : Nat) (lv : List Nat) (hl : Arr naV w w.heap.size al NB lv) (hlv : ∀ k, k < NB → lv.getD k 0 ≤ 8 ∧ (fr.getD k false = true → lv.getD k 0 = 0)) (res bad : Nat) :
    Calls Tryz.prog 51 #[.pointer (some ⟨C, 0, none⟩), .slice af NB cf, .slice al NB cl, .int .i64 (res : Int), .int .i64 (bad : Int)] w (Opened NB B S w C BL ps bl fr lv res bad) := by
  have HU := Lib.hid (chUp_calls h)
  have HG := Lib.hid (chGeo_calls h)
  have HH := Lib.hid h
  have HF := Lib.hid hf
  have HL := Lib.hid hl
  have HV := Lib.hid hlv
  have HW := Lib.hid hw
  have hlf := hf.len
  have hll := hl.len
  have hlt := h.ltC
  have d1 : decide ((res : Int) < 0) = false := decide_eq_false (by omega)
  have d2 : decide ((bad : Int) < 0) = false := decide_eq_false (by omega)
  clear h hf hl hlv hw
  go_enter Tryz.func51, Tryz.ntmps51
  go_wp2_with fail
  refine (HU.out).mono ?_
  rintro e w_ ⟨rfl, rfl⟩
  go_wp2_with fail
  refine HG.out.mono ?_
  rintro e w1 ⟨rfl, hb⟩
  have hgk := Blk.new w1 48 #[.int .i64 (NB : Int), .int .i64 8, .int .i64 64]
  have hbg := (Below.refl w1.heap.size w1).alloc (Nat.le_refl _) (.cells #[.int .i64 (NB : Int), .int .i64 8, .int .i64 64] 48)
  have q0 := hgk.cellv (i := 0) (v := .int .i64 (NB : Int)) rfl
  have hg2 := hgk.alloc (.cells #[.pointer (some ⟨C, 0, none⟩), .slice none 0 0, .int .i64 (-1), .int .i64 (res : Int), .int .i64 (bad : Int), .bool false] 102)
  have hm2 := Blk.new (w1.alloc (.cells #[.int .i64 (NB : Int), .int .i64 8, .int .i64 64] 48)) 102 #[.pointer (some ⟨C, 0, none⟩), .slice none 0 0, .int .i64 (-1), .int .i64 (res : Int), .int .i64 (bad : Int), .bool false]
  have hb2 := (hb.then_ hbg).alloc (Nat.le_trans hb.size hbg.size) (.cells #[.pointer (some ⟨C, 0, none⟩), .slice none 0 0, .int .i64 (-1), .int .i64 (res : Int), .int .i64 (bad : Int), .bool false] 102)
  rw [World.size_alloc] at hm2
  have HB2 := Lib.hid hb2
  have HG2 := Lib.hid hg2
  have HM2 := Lib.hid hm2
  have HS1 := Lib.hid hb.size
  clear hb hgk hbg hg2 hm2 hb2
  unfold geoV
  go_wp2_with fail
  clear q0
  generalize hw2 : (w1.alloc (.cells #[.int .i64 (NB : Int), .int .i64 8, .int .i64 64] 48)).alloc (.cells #[.pointer (some ⟨C, 0, none⟩), .slice none 0 0, .int .i64 (-1), .int .i64 (res : Int), .int .i64 (bad : Int), .bool false] 102) = w2 at *
  clear hw2
  generalize hMe : w1.heap.size + 1 = M at *
  generalize hGe : w1.heap.size = GB at *
  have HMe := Lib.hid hMe
  clear hGe hMe
  go_loopw [14, 15, 16, 53] (fun _ _ _ i wr => ∃ k : Nat, k ≤ NB ∧ i = .int .i64 (k : Int) ∧ OpI GB M NB C res bad bl fr lv w k wr) (fun _ _ _ i _ => NB - (intOf i).toNat)
  case atStart => exact ⟨0, by omega, rfl, .slice none 0 0, HG2.out, HM2.out, OwnM.nil bk_len _ _, HB2.out⟩
  case round =>
    obtain ⟨k, hk, rfl, v, hg, hm, ho, hb⟩ := hrel
    have HGr := Lib.hid hg
    have HMr := Lib.hid hm
    have HOr := Lib.hid ho
    have HBr := Lib.hid hb
    clear hg hm ho hb
    by_cases hlt2 : k < NB
    · obtain ⟨b1, o1, hk1, rfl, hbl1, hc1⟩ := (HL.out.below HBr.out).atv hlt2
      obtain ⟨b2, o2, hk2, rfl, hbl2, hc2⟩ := (HF.out.below HBr.out).atv hlt2
      have hnv := HV.out k hlt2
      have e1 : lv[k] = lv.getD k 0 := by rw [List.getD_eq_getElem?_getD, List.getElem?_eq_getElem hk1]; rfl
      have e2 : fr[k] = fr.getD k false := by rw [List.getD_eq_getElem?_getD, List.getElem?_eq_getElem hk2]; rfl
      rw [e1, naV_eq] at hc1
      rw [e2, bolV_eq] at hc2
      have HSu := Lib.hid (openL_succ bl fr lv k)
      clear e1 e2
      generalize lv.getD k 0 = n at *
      generalize fr.getD k false = f at *
      obtain ⟨hn8, hfn⟩ := hnv
      have gc1 := HGr.out.cellv (i := 1) (v := .int .i64 8) rfl
      have k0 : (0 : Int) ≤ (k : Int) := by omega
      have k1 : (k : Int) < (NB : Int) := by omega
      have d3 : decide ((n : Int) < 0) = false := decide_eq_false (by omega)
      have d4 : decide ((8 : Int) < (n : Int)) = false := decide_eq_false (by omega)
      have HFn := Lib.hid hfn
      clear hfn
      go_upto_region 12 with fail
      go_cut [75] (fun v wx => v = .bool false ∧ wr = wx)
      case first =>
        cases f
        · go_wp2_with fail
          go_meet
          exact ⟨rfl, rfl⟩
        · obtain rfl : n = 0 := HFn.out rfl
          go_wp2_with fail
          go_meet
          exact ⟨rfl, rfl⟩
      case rest =>
        obtain ⟨rfl, hw⟩ := hcut
        subst hw
        have HCr := Lib.hid (HH.out.on HBr.out)
        have HWe := Lib.hid (chWear_calls HCr.out hlt2)
        have HBa := Lib.hid (chBad_calls (HCr.out.on ((Below.refl wr.heap.size wr).alloc (Nat.le_refl _) (.cells #[.int .i64 3, .int .i64 0, .int .i64 ((bl k).wear : Int), .int .i64 0] 99))) hlt2)
        have HKb := Lib.hid (Blk.new wr 99 #[.int .i64 3, .int .i64 0, .int .i64 ((bl k).wear : Int), .int .i64 0])
        have hc2' := cell_on hc2 ((Below.refl wr.heap.size wr).alloc (Nat.le_refl _) (.cells #[.int .i64 3, .int .i64 0, .int .i64 ((bl k).wear : Int), .int .i64 0] 99))
        have HB3 := Lib.hid ((Below.refl wr.heap.size wr).alloc (Nat.le_refl _) (.cells #[.int .i64 3, .int .i64 0, .int .i64 ((bl k).wear : Int), .int .i64 0] 99))
        have HOp := Lib.hid (show openB (bl k) f n = if (bl k).bad then ⟨4, 0, (bl k).wear, 0⟩ else if f then ⟨0, 0, (bl k).wear, 0⟩ else if 0 < n then ⟨2, n, (bl k).wear, 0⟩ else ⟨3, 0, (bl k).wear, 0⟩ from rfl)
        clear gc1 d3 d4 hc1
        generalize (bl k).wear = we at *
        generalize (bl k).bad = bd at *
        go_wp2_with fail
        refine HWe.out.mono ?_
        rintro e w_ ⟨rfl, rfl⟩
        go_upto_block 3 with fail
        clear hc2
        generalize hw3 : wr.alloc (.cells #[.int .i64 3, .int .i64 0, .int .i64 (we : Int), .int .i64 0] 99) = w3 at *
        generalize hgb : wr.heap.size = gb at *
        have HW3 := Lib.hid hw3
        clear hw3
        go_cut [] (fun wx => Blk wx gb 99 (bkA (openB (bl k) f n)) ∧ Below gb wr wx)
        case first =>
          have a0 := HKb.out.cellv (i := 0) (v := .int .i64 3) rfl
          have z0 := HKb.out.frozen 0
          cases bd
          · cases f
            · by_cases hn0 : 0 < n
              · have dn : decide ((0 : Int) < (n : Int)) = true := decide_eq_true (by omega)
                have a1 := HKb.out.cellv (i := 1) (v := .int .i64 0) rfl
                have z1 := HKb.out.frozen 1
                have hs := (HKb.out.set 0 (.int .i64 2)).set 1 (.int .i64 (n : Int))
                have HSs := Lib.hid hs
                have HBs := Lib.hid ((HB3.out.setCell (p := ⟨gb, 0, none⟩) (Nat.le_refl _) (.int .i64 2)).setCell (p := ⟨gb, 1, none⟩) (Nat.le_refl _) (.int .i64 (n : Int)))
                clear hs
                go_wp2_with fail
                refine HBa.out.mono ?_
                rintro e w_ ⟨rfl, rfl⟩
                go_wp2_with fail
                go_meet
                refine ⟨?_, HBs.out⟩
                rw [HOp.out, if_neg (by simp), if_neg (by simp), if_pos hn0]
                exact HSs.out
              · obtain rfl : n = 0 := by omega
                go_wp2_with fail
                refine HBa.out.mono ?_
                rintro e w_ ⟨rfl, rfl⟩
                go_wp2_with fail
                go_meet
                refine ⟨?_, HB3.out⟩
                rw [HOp.out, if_neg (by simp), if_neg (by simp), if_neg (by simp)]
                exact HKb.out
            · have hs := HKb.out.set 0 (.int .i64 0)
              have HSs := Lib.hid hs
              have HBs := Lib.hid (HB3.out.setCell (p := ⟨gb, 0, none⟩) (Nat.le_refl _) (.int .i64 0))
              clear hs
              go_wp2_with fail
              refine HBa.out.mono ?_
              rintro e w_ ⟨rfl, rfl⟩
              go_wp2_with fail
              go_meet
              refine ⟨?_, HBs.out⟩
              rw [HOp.out, if_neg (by simp), if_pos trivial]
              exact HSs.out
          · have hs := HKb.out.set 0 (.int .i64 4)
            have HSs := Lib.hid hs
            have HBs := Lib.hid (HB3.out.setCell (p := ⟨gb, 0, none⟩) (Nat.le_refl _) (.int .i64 4))
            clear hs
            go_wp2_with fail
            refine HBa.out.mono ?_
            rintro e w_ ⟨rfl, rfl⟩
            go_wp2_with fail
            go_meet
            refine ⟨?_, HBs.out⟩
            rw [HOp.out, if_pos trivial]
            exact HSs.out
        case rest =>
          obtain ⟨hk4, hb4⟩ := hcut
          generalize hye : openB (bl k) f n = y at *
          have hm4 := HMr.out.below hb4 (by rw [← hgb]; exact HMr.out.lt)
          have hg4 := HGr.out.below hb4 (by rw [← hgb]; exact HGr.out.lt)
          have ho4 := HOr.out.below hb4 (by rw [hgb]; exact Nat.le_refl _)
          have HNe := Lib.hid (show v.ownBlock ≠ some gb from fun e => by have := (HOr.out.blockLt _ e).2; omega)
          have hsz4 := hb4.size
          have HGb := Lib.hid hgb
          have hbs := HBr.out.size
          have HM5 := Lib.hid (hm4.drew)
          have HG5 := Lib.hid (hg4.drew)
          have HO5 := Lib.hid (ho4.drew)
          have HY5 := Lib.hid (hk4.drew)
          have HB5 := Lib.hid ((HBr.out.trans (hb4.mono (by omega))).drew)
          have HSz5 := Lib.hid (show w.heap.size ≤ wc.drew.heap.size from Nat.le_trans hbs (by show wr.heap.size ≤ wc.heap.size; omega))
          have HLn := Lib.hid (show (openL bl fr lv k).length = k by simp [openL])
          have HMw := Lib.hid (show w.heap.size ≤ M by have := HMe.out; have := HS1.out; omega)
          have HGM := Lib.hid (show GB ≠ M from fun e => by have h1 := HGr.out; have h2 := HMr.out; rw [e] at h1; unfold Blk at h1 h2; rw [h1] at h2; injection h2 with h2; injection h2 with _ h2; exact absurd h2 (by decide))
          have cc1 := HM5.out.cellv (i := 1) rfl
          clear hm4 hg4 ho4 hk4 hb4 hsz4 hbs HOp HWe HBa HKb HB3 hye hc2' HW3
          go_upto_region 21 with fail
          refine wp_region_noPanic ?_
          refine wp_region_held_drew (S := (fun W' => Blk W' gb 99 #[.int .i64 (y.st : Int), .int .i64 (y.live : Int), .int .i64 (y.wear : Int), .int .i64 (y.nx : Int)])) (by kernel_rfl) HY5.out (fun hS0 => ?_)
          generalize wc.drew = w5 at *
          refine takeV 0 (v := (.pointer (some ⟨M, 0, none⟩))) rfl (by kernel_rfl) (by kernel_rfl) (by kernel_rfl) (fun _ _ _ h => h) (by rfl) (fun _ _ => rfl) (by assumption) ?_
          try simp only [layR]
          refine takeV 1 (v := (.pointer (some ⟨M, 0, none⟩))) rfl (by kernel_rfl) (by kernel_rfl) (by kernel_rfl) (fun _ _ _ h => h) (by rfl) (fun _ _ => rfl) (by assumption) ?_
          try simp only [layR]
          refine takeV 2 (v := (.pointer (some ⟨M, 0, none⟩))) rfl (by kernel_rfl) (by kernel_rfl) (by kernel_rfl) (fun _ _ _ h => h) (by rfl) (fun W hSw => ?_) (by assumption) ?_
          · skip
            go_simp
          try simp only [layR]
          refine takeV 3 (v := (.pointer (some ⟨M, 1, none⟩))) rfl (by kernel_rfl) (by kernel_rfl) (by kernel_rfl) (fun _ _ _ h => h) (by rfl) (fun W hSw => ?_) (by assumption) ?_
          · skip
            go_simp
          try simp only [layR]
          refine takeV 5 (v := (.agg #[.int .i64 (y.st : Int), .int .i64 (y.live : Int), .int .i64 (y.wear : Int), .int .i64 (y.nx : Int)])) rfl (by kernel_rfl) (by kernel_rfl) (by kernel_rfl) (fun _ _ _ h => h) (by rfl) (fun W hSw => ?_) (by assumption) ?_
          · have y0 := hSw.cellv (i := 0) rfl; have y1 := hSw.cellv (i := 1) rfl; have y2 := hSw.cellv (i := 2) rfl; have y3 := hSw.cellv (i := 3) rfl
            go_simp
          try simp only [layR]
          refine wpAnyH_ready (rs := [4, 6]) (by kernel_rfl) (by simp) ?_
          refine AllReadyH.cons rfl (fun K' hK => ?_) (AllReadyH.cons rfl (fun K' hK => ?_) AllReadyH.nil)
          · go_simp
            refine hK.out _ _ hS0 (fun hS1 => ?_)
            try simp only [layR]
            refine wpAnyH_ready (rs := [6]) (by kernel_rfl) (by simp) ?_
            refine AllReadyH.cons rfl (fun K' hK => ?_) AllReadyH.nil
            go_simp
            refine hK.out _ _ (hS1.alloc _) (fun hS2 => ?_)
            try simp only [layR]
            clear hS1 hS2
            refine wpAnyH_ready (rs := [7]) (by kernel_rfl) (by simp) ?_
            refine AllReadyH.cons rfl (fun K' hK => ?_) AllReadyH.nil
            refine step_litBk (w := w5) (cs := #[.int .i64 (y.st : Int), .int .i64 (y.live : Int), .int .i64 (y.wear : Int), .int .i64 (y.nx : Int)]) rfl (.tmp 101) (.tmp 103) rfl w.heap.size _ (openL bl fr lv k) rfl HO5.out y w5.heap.size rfl rfl rfl (by rw [HLn.out]; omega) HSz5.out ?_
            intro v7 w7 HO7 HG7
            obtain ⟨a7, c7, rfl, _⟩ := HO7.out.formN (n := k + 1) (by rw [List.length_append, HLn.out]; rfl)
            have HM7 := Lib.hid ((HM5.out.alloc (.cells #[.int .i64 (y.st : Int), .int .i64 (y.live : Int), .int .i64 (y.wear : Int), .int .i64 (y.nx : Int)] 99)).grown HG7.out (fun e => HO5.out.notBlk HM5.out (by decide) e.symm))
            have HG8 := Lib.hid ((HG5.out.alloc (.cells #[.int .i64 (y.st : Int), .int .i64 (y.live : Int), .int .i64 (y.wear : Int), .int .i64 (y.nx : Int)] 99)).grown HG7.out (fun e => HO5.out.notBlk HG5.out (by decide) e.symm))
            have HK7 := Lib.hid ((HY5.out.alloc (.cells #[.int .i64 (y.st : Int), .int .i64 (y.live : Int), .int .i64 (y.wear : Int), .int .i64 (y.nx : Int)] 99)).grown HG7.out (fun e => HNe.out e.symm))
            have HB7 := Lib.hid ((HB5.out.alloc HSz5.out (.cells #[.int .i64 (y.st : Int), .int .i64 (y.live : Int), .int .i64 (y.wear : Int), .int .i64 (y.nx : Int)] 99)).grown HG7.out (by rw [World.size_alloc]; have := HSz5.out; omega) (fun q hq => (HO5.out.blockLt q hq).1))
            have e1 := HM7.out.cellv (i := 1) rfl
            have z1 := HM7.out.frozen 1
            refine hK.out _ _ HK7.out (fun hS5 => ?_)
            try simp only [layR]
            refine takeV 8 (v := (.pointer (some ⟨M, 0, none⟩))) rfl (by kernel_rfl) (by kernel_rfl) (by kernel_rfl) (fun _ _ _ h => h) (by rfl) (fun W hSw => ?_) (by assumption) ?_
            · skip
              go_simp
            try simp only
            refine takeV 9 (v := (.pointer (some ⟨M, 1, none⟩))) rfl (by kernel_rfl) (by kernel_rfl) (by kernel_rfl) (fun _ _ _ h => h) (by rfl) (fun W hSw => ?_) (by assumption) ?_
            · skip
              go_simp
            try simp only
            have hne7 : gb ≠ M := by have := HMr.out.lt; have := HGb.out; omega
            refine wpAnyH_ready (rs := [10]) (by kernel_rfl) (by simp) ?_
            refine AllReadyH.cons rfl (fun K' hK => ?_) AllReadyH.nil
            go_simp
            refine hK.out _ _ (HK7.out.far (p := ⟨M, 1, none⟩) hne7 _) (fun hS6 => ?_)
            try simp only [layR]
            refine wpAnyH_done (by kernel_rfl) ?_ _
            refine NoPanic.normal ?_
            have HMf := Lib.hid (HM7.out.set 1 (.slice a7 (k + 1) c7))
            have HGf := Lib.hid (HG8.out.far (p := ⟨M, 1, none⟩) (by have := HGM.out; simpa using this) (.slice a7 (k + 1) c7))
            have HOf := Lib.hid (HO7.out.far (p := ⟨M, 1, none⟩) (HO7.out.notBlk HM7.out (by decide)) (.slice a7 (k + 1) c7))
            have HBf := Lib.hid (HB7.out.setCell (p := ⟨M, 1, none⟩) HMw.out (.slice a7 (k + 1) c7))
            clear hS0 hS5 hS6 e1 z1 hne7
            go_wp2_with fail
            go_roundw
            case rel => exact ⟨k + 1, by omega, by go_num, _, HGf.out, HMf.out, by rw [HSu.out]; exact HOf.out, HBf.out⟩
            case measure => simp [intOf]; omega
          · go_simp
            refine hK.out _ _ (hS0.alloc _) (fun hS1 => ?_)
            try simp only [layR]
            have cc2 := cell_on cc1 ((Below.refl w5.heap.size w5).alloc (Nat.le_refl _) (.cells #[.int .i64 (y.st : Int), .int .i64 (y.live : Int), .int .i64 (y.wear : Int), .int .i64 (y.nx : Int)] 99))
            refine wpAnyH_ready (rs := [4]) (by kernel_rfl) (by simp) ?_
            refine AllReadyH.cons rfl (fun K' hK => ?_) AllReadyH.nil
            go_simp
            refine hK.out _ _ hS1 (fun hS2 => ?_)
            try simp only [layR]
            clear hS1 hS2
            refine wpAnyH_ready (rs := [7]) (by kernel_rfl) (by simp) ?_
            refine AllReadyH.cons rfl (fun K' hK => ?_) AllReadyH.nil
            refine step_litBk (w := w5) (cs := #[.int .i64 (y.st : Int), .int .i64 (y.live : Int), .int .i64 (y.wear : Int), .int .i64 (y.nx : Int)]) rfl (.tmp 101) (.tmp 103) rfl w.heap.size _ (openL bl fr lv k) rfl HO5.out y w5.heap.size rfl rfl rfl (by rw [HLn.out]; omega) HSz5.out ?_
            intro v7 w7 HO7 HG7
            obtain ⟨a7, c7, rfl, _⟩ := HO7.out.formN (n := k + 1) (by rw [List.length_append, HLn.out]; rfl)
            have HM7 := Lib.hid ((HM5.out.alloc (.cells #[.int .i64 (y.st : Int), .int .i64 (y.live : Int), .int .i64 (y.wear : Int), .int .i64 (y.nx : Int)] 99)).grown HG7.out (fun e => HO5.out.notBlk HM5.out (by decide) e.symm))
            have HG8 := Lib.hid ((HG5.out.alloc (.cells #[.int .i64 (y.st : Int), .int .i64 (y.live : Int), .int .i64 (y.wear : Int), .int .i64 (y.nx : Int)] 99)).grown HG7.out (fun e => HO5.out.notBlk HG5.out (by decide) e.symm))
            have HK7 := Lib.hid ((HY5.out.alloc (.cells #[.int .i64 (y.st : Int), .int .i64 (y.live : Int), .int .i64 (y.wear : Int), .int .i64 (y.nx : Int)] 99)).grown HG7.out (fun e => HNe.out e.symm))
            have HB7 := Lib.hid ((HB5.out.alloc HSz5.out (.cells #[.int .i64 (y.st : Int), .int .i64 (y.live : Int), .int .i64 (y.wear : Int), .int .i64 (y.nx : Int)] 99)).grown HG7.out (by rw [World.size_alloc]; have := HSz5.out; omega) (fun q hq => (HO5.out.blockLt q hq).1))
            have e1 := HM7.out.cellv (i := 1) rfl
            have z1 := HM7.out.frozen 1
            refine hK.out _ _ HK7.out (fun hS5 => ?_)
            try simp only [layR]
            refine takeV 8 (v := (.pointer (some ⟨M, 0, none⟩))) rfl (by kernel_rfl) (by kernel_rfl) (by kernel_rfl) (fun _ _ _ h => h) (by rfl) (fun W hSw => ?_) (by assumption) ?_
            · skip
              go_simp
            try simp only
            refine takeV 9 (v := (.pointer (some ⟨M, 1, none⟩))) rfl (by kernel_rfl) (by kernel_rfl) (by kernel_rfl) (fun _ _ _ h => h) (by rfl) (fun W hSw => ?_) (by assumption) ?_
            · skip
              go_simp
            try simp only
            have hne7 : gb ≠ M := by have := HMr.out.lt; have := HGb.out; omega
            refine wpAnyH_ready (rs := [10]) (by kernel_rfl) (by simp) ?_
            refine AllReadyH.cons rfl (fun K' hK => ?_) AllReadyH.nil
            go_simp
            refine hK.out _ _ (HK7.out.far (p := ⟨M, 1, none⟩) hne7 _) (fun hS6 => ?_)
            try simp only [layR]
            refine wpAnyH_done (by kernel_rfl) ?_ _
            refine NoPanic.normal ?_
            have HMf := Lib.hid (HM7.out.set 1 (.slice a7 (k + 1) c7))
            have HGf := Lib.hid (HG8.out.far (p := ⟨M, 1, none⟩) (by have := HGM.out; simpa using this) (.slice a7 (k + 1) c7))
            have HOf := Lib.hid (HO7.out.far (p := ⟨M, 1, none⟩) (HO7.out.notBlk HM7.out (by decide)) (.slice a7 (k + 1) c7))
            have HBf := Lib.hid (HB7.out.setCell (p := ⟨M, 1, none⟩) HMw.out (.slice a7 (k + 1) c7))
            clear hS0 hS5 hS6 e1 z1 hne7
            go_wp2_with fail
            go_roundw
            case rel => exact ⟨k + 1, by omega, by go_num, _, HGf.out, HMf.out, by rw [HSu.out]; exact HOf.out, HBf.out⟩
            case measure => simp [intOf]; omega
    · obtain rfl : k = NB := by omega
      have hlen : (openL bl fr lv k).length = k := by simp [openL]
      obtain ⟨ML, cap, rfl, hcap, hML, hMLt⟩ := HOr.out.form_some (by rw [hlen]; exact hN)
      rw [hlen] at HMr HOr hcap
      have hg : MgM k B S wr ⟨M, ML, C, BL, cap, ps, bl, openL bl fr lv k, -1, res, bad, false⟩ := ⟨HMr.out, HOr.out.mono (Nat.zero_le _), HH.out.on HBr.out, fun e => HOr.out.notBlk HMr.out (by decide) (by rw [show M = ML from e]; rfl), fun hs => by have h1 : M < w.heap.size := HH.out.hi _ hs; have := HMe.out; have := HS1.out; omega, fun hs => by have h1 : ML < w.heap.size := HH.out.hi _ hs; omega, by have := HH.out.base; have := HMe.out; have := HS1.out; show B ≤ M; omega, by have := HH.out.base; show B ≤ ML; omega, hnb⟩
      have HGm := Lib.hid hg
      have hgr := Lib.hid (fun (W : World) (hW : Below wr.heap.size wr W) => greatest_calls (some ⟨ML, 0, none⟩) k cap _ W ((hg.on hW).arr) hnb)
      have hls := Lib.hid (fun (W : World) (hW : Below wr.heap.size wr W) => least_calls (some ⟨ML, 0, none⟩) k cap _ W ((hg.on hW).arr) hnb)
      have HMle := Lib.hid (show w.heap.size ≤ M by have := HMe.out; have := HS1.out; omega)
      have m1 := (hg.on (below_drew wr)).m1
      simp only at m1
      have hwl : ∀ i, i < k → (Gc.at_ (openL bl fr lv k) i).wear ≤ 1099511627776 := fun i hi => by rw [openL_at _ _ _ hi, openB_wear]; exact HW.out i hi
      have hgb1 : Gc.greatest (openL bl fr lv k) ≤ 1099511627776 := wearOf_le hwl fun q hq => by have := (Gc.best_some hq).1; omega
      have hlb1 : Gc.least (openL bl fr lv k) ≤ 1099511627776 := wearOf_le hwl fun q hq => by have := (Gc.best_some hq).1; omega
      clear hwl
      clear hg
      generalize hgr2 : Gc.greatest (openL bl fr lv k) = gr at *
      generalize hls2 : Gc.least (openL bl fr lv k) = ls at *
      have HE1 := Lib.hid hgr2
      have HE2 := Lib.hid hls2
      clear hgr2 hls2
      have i1 := IntWalk.i64_in ((gr : Int) - ls) ⟨by omega, by omega⟩
      go_upto_region 23 with fail
      have HD0 := Lib.hid (show Below wr.heap.size wr wr.drew from below_drew wr)
      refine wp_region_noPanic ?_
      refine wp_region_held_drew (S := (fun W' => W'.cell? ⟨M, 1, none⟩ = some (.slice (some ⟨ML, 0, none⟩) k cap))) (by kernel_rfl) m1 (fun hS0 => ?_)
      generalize wr.drew = w5 at *
      refine takeV 0 (v := (.pointer (some ⟨M, 0, none⟩))) rfl (by kernel_rfl) (by kernel_rfl) (by kernel_rfl) (fun _ _ _ h => h) (by rfl) (fun _ _ => rfl) (by assumption) ?_
      try simp only [layR]
      refine takeV 1 (v := (.pointer (some ⟨M, 0, none⟩))) rfl (by kernel_rfl) (by kernel_rfl) (by kernel_rfl) (fun _ _ _ h => h) (by rfl) (fun _ _ => rfl) (by assumption) ?_
      try simp only [layR]
      refine takeV 2 (v := (.pointer (some ⟨M, 0, none⟩))) rfl (by kernel_rfl) (by kernel_rfl) (by kernel_rfl) (fun _ _ _ h => h) (by rfl) (fun W hSw => ?_) (by assumption) ?_
      · skip
        go_simp
      try simp only [layR]
      refine takeV 3 (v := (.pointer (some ⟨M, 1, none⟩))) rfl (by kernel_rfl) (by kernel_rfl) (by kernel_rfl) (fun _ _ _ h => h) (by rfl) (fun W hSw => ?_) (by assumption) ?_
      · skip
        go_simp
      try simp only [layR]
      refine takeV 4 (v := (.slice (some ⟨ML, 0, none⟩) k cap)) rfl (by kernel_rfl) (by kernel_rfl) (by kernel_rfl) (fun _ _ _ h => h) (by rfl) (fun W hSw => ?_) (by assumption) ?_
      · skip
        go_simp
      try simp only [layR]
      refine takeV 6 (v := (.pointer (some ⟨M, 0, none⟩))) rfl (by kernel_rfl) (by kernel_rfl) (by kernel_rfl) (fun _ _ _ h => h) (by rfl) (fun _ _ => rfl) (by assumption) ?_
      try simp only [layR]
      refine takeV 7 (v := (.pointer (some ⟨M, 0, none⟩))) rfl (by kernel_rfl) (by kernel_rfl) (by kernel_rfl) (fun _ _ _ h => h) (by rfl) (fun W hSw => ?_) (by assumption) ?_
      · skip
        go_simp
      try simp only [layR]
      refine takeV 8 (v := (.pointer (some ⟨M, 1, none⟩))) rfl (by kernel_rfl) (by kernel_rfl) (by kernel_rfl) (fun _ _ _ h => h) (by rfl) (fun W hSw => ?_) (by assumption) ?_
      · skip
        go_simp
      try simp only [layR]
      refine takeV 9 (v := (.slice (some ⟨ML, 0, none⟩) k cap)) rfl (by kernel_rfl) (by kernel_rfl) (by kernel_rfl) (fun _ _ _ h => h) (by rfl) (fun W hSw => ?_) (by assumption) ?_
      · skip
        go_simp
      try simp only [layR]
      refine wpAnyH_ready (rs := [5]) (by kernel_rfl) (by simp) ?_
      refine AllReadyH.cons rfl (fun K' hK => ?_) AllReadyH.nil
      go_simp
      refine (hgr.out w5 HD0.out).mono ?_
      rintro e w6 ⟨rfl, hb6⟩
      have HD6 := Lib.hid (HD0.out.then_ hb6)
      have m6 := cell_on hS0 hb6
      clear hb6
      refine hK.out _ _ m6 (fun hS1 => ?_)
      try simp only [layR]
      refine wpAnyH_ready (rs := [10]) (by kernel_rfl) (by simp) ?_
      refine AllReadyH.cons rfl (fun K' hK => ?_) AllReadyH.nil
      go_simp
      refine (hls.out w6 HD6.out).mono ?_
      rintro e w7 ⟨rfl, hb7⟩
      have HD7 := Lib.hid (HD6.out.then_ hb7)
      have m7 := cell_on m6 hb7
      clear hb7
      refine hK.out _ _ m7 (fun hS2 => ?_)
      try simp only [layR]
      refine takeV 11 (v := (.int .i64 ((gr : Int) - ls))) rfl (by kernel_rfl) (by kernel_rfl) (by kernel_rfl) (fun _ _ _ h => h) (by rfl) (fun W hSw => ?_) (by assumption) ?_
      · skip
        go_simp
      try simp only [layR]
      refine takeV 12 (v := (.bool (decide (4 < (gr : Int) - ls)))) rfl (by kernel_rfl) (by kernel_rfl) (by kernel_rfl) (fun _ _ _ h => h) (by rfl) (fun W hSw => ?_) (by assumption) ?_
      · skip
        go_simp
      try simp only [layR]
      refine takeV 13 (v := (.pointer (some ⟨M, 0, none⟩))) rfl (by kernel_rfl) (by kernel_rfl) (by kernel_rfl) (fun _ _ _ h => h) (by rfl) (fun W hSw => ?_) (by assumption) ?_
      · skip
        go_simp
      try simp only [layR]
      refine takeV 14 (v := (.pointer (some ⟨M, 5, none⟩))) rfl (by kernel_rfl) (by kernel_rfl) (by kernel_rfl) (fun _ _ _ h => h) (by rfl) (fun W hSw => ?_) (by assumption) ?_
      · skip
        go_simp
      try simp only [layR]
      have hg7 := HGm.out.on HD7.out
      have m5 := hg7.m5
      have z5 := hg7.frzM 5
      simp only at m5 z5
      have HF7 := Lib.hid (hg7.setE (decide (4 < (gr : Int) - ls)))
      have m8 := HF7.out.m1
      simp only at m8
      have HB7 := Lib.hid ((HBr.out.then_ HD7.out).setCell (p := ⟨M, 5, none⟩) HMle.out (.bool (decide (4 < (gr : Int) - ls))))
      clear hg7
      refine wpAnyH_ready (rs := [15]) (by kernel_rfl) (by simp) ?_
      refine AllReadyH.cons rfl (fun K' hK => ?_) AllReadyH.nil
      go_simp
      refine hK.out _ _ m8 (fun hS3 => ?_)
      try simp only [layR]
      refine wpAnyH_done (by kernel_rfl) ?_ _
      refine NoPanic.normal ?_
      clear hS0 hS1 hS2 hS3 m1 m6 m7 m5 z5 m8
      go_wp2_with fail
      go_ret2
      refine ⟨M, ML, cap, rfl, HMle.out, hML, ?_, HB7.out⟩
      rw [HE1.out, HE2.out]
      exact HF7.out
end
end Go.Proofs.YtiipnpfaaghekaaGreat
