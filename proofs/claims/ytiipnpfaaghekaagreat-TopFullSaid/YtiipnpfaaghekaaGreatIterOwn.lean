/-
  In a round: append onto a row of the call's own; what abides the loop's own book-keeping.
-/
import Derived.Test.YtiipnpfaaghekaaGreatIter
import Derived.Test.YtiipnpfaaghekaaGreatMem
import Derived.OwnWalkIn
import Derived.TacticsInMore
import Derived.LoopNIn
import Derived.LoopIn
import Derived.WalkMore
namespace Go.Proofs.YtiipnpfaaghekaaGreat
open Go.RowKit

theorem wpListIn_append_Own {α : Type} {f : α → Value} {F : Fence} {fuel : Nat} {P : Program} {w : World} {ops : Array Oper} {rest : List Oper} {o : Oper} {ac : Act} {Q : Exit → Act → World → Prop} (hgd : o.guard = none) (s x : Operand) (t : TypeId)
    (ho : o.op = .call { callee := .builtin .append, args := #[s, x], argTypes := #[t, t] })
    (base : Nat) (e : TypeId) (i : TypeInfo) (z : Value) (bytes : Nat) (ht : P.underlying t = some (.slice e)) (hi : P.info? e = some i) (hz : i.zero = some z)
    (hsize : i.size = 1) (hby : i.bytes = bytes) (hzs : z.cells.size = 1) (hf : ∀ x, (f x).oneCell' = true)
    (v : Value) (xs : List α) (hs : ac.eval s = v) (hown : Own f e w base v xs) (B : Nat) (a : Option Addr) (m c : Nat) (ys : List α) (hx : ac.eval x = .slice a m c) (hy : Arr f w B a m ys)
    (hbytes : (xs.length + m) * bytes ≤ 140737488355328) (h63 : xs.length + m ≤ maxLen) (hbase : base ≤ w.heap.size)
    (h : ∀ v' w', Own f e w' base v' (xs ++ ys) → w.grownBy w' v.ownBlock → (v'.ownBlock = v.ownBlock ∨ v'.ownBlock = some w.heap.size) → wpListIn F fuel P ops Q rest (ac.put o.dst v') w') : wpListIn F fuel P ops Q (o :: rest) ac w := by
  refine wpListIn_plain hgd fun K hK => ?_
  obtain ⟨v', w', hrun, h2, h3, h4⟩ := run_append_Own (P := P) w base t o.type e i z bytes ht hi hz hsize hby hzs hf v xs hown B a m c ys hy hbytes h63 hbase
  unfold Oper.wpIn
  refine ⟨?_, ?_⟩
  · simp [Oper.about, ho, resolve, Target.leads, Sem.run_pure]
  · rw [Oper.semAt_plain F _ _ (by rw [ho]; intro c hc; cases hc)]
    simp only [execOp, ho, resolve, invoke, builtin, Sem.run_bind, Sem.run_pure, Result.andThen_ok, List.map_toArray, List.map_cons, List.map_nil, hs, hx, hrun, Oper.uponIn_value]
    exact hK _ _ (h v' w' h2 h3 h4)
theorem Own.notRow {α : Type} {f : α → Value} {e : TypeId} {w : World} {base r : Nat} {v : Value} {xs : List α} (h : Own f e w base v xs) (hr : r < base ∨ ∃ o : Obj, w.heap[r]? = some o ∧ o.isCells = false) : v.ownBlock ≠ some r := by
  rcases h.2 with ⟨rfl, _⟩ | ⟨g, cap, cur, rfl, hgb, hg, _⟩
  · intro e; cases e
  · intro e
    have e2 : g = r := Option.some.inj e
    subst e2
    rcases hr with h1 | ⟨o, ho, hc⟩
    · omega
    · rw [hg] at ho
      cases ho
      cases hc
/-- A row of the call's own abides what the loop and its iterator do. -/
theorem Own.keeps2 {α : Type} {f : α → Value} {e : TypeId} {base c B : Nat} {v : Value} {xs : List α} (hc : c < base) : Keeps2 c B (fun W => Own f e W base v xs) := fun W W' r h hg hr =>
  h.grown hg (.inr (h.notRow (by rcases hr with rfl | ⟨_, ho⟩; exact .inl hc; exact .inr ho)))
theorem Blk.keeps2 {g c B : Nat} {t : TypeId} {cs : Array Value} (hne : g ≠ c) : Keeps2 c B (fun W => Blk W g t cs) := fun W W' r h hg hr => by
  refine h.grown hg fun e => ?_
  have e2 : g = r := Option.some.inj e
  subst e2
  rcases hr with h1 | ⟨_, o, ho, hc⟩
  · exact hne h1
  · unfold Blk at h
    rw [h] at ho
    cases ho
    cases hc
theorem below_keeps2 {w : World} {n0 c B : Nat} (hc : n0 ≤ c) (hB : n0 ≤ B) (hn : n0 ≤ w.heap.size) : Keeps2 c B (fun W => Below n0 w W) := fun W W' r h hg hr =>
  h.grown hg (Nat.le_trans hn h.size) (fun k e => by
    have e2 : r = k := Option.some.inj e
    subst e2
    rcases hr with rfl | ⟨h1, _⟩ <;> omega)
theorem Own.cellsRow {α : Type} {f : α → Value} {e : TypeId} {w : World} {base : Nat} {v : Value} {xs : List α} (h : Own f e w base v xs) : ∀ (j : Nat) (o : Obj), v.ownBlock = some j → w.heap[j]? = some o → o.isCells = true := by
  intro j o hj ho
  rcases h.2 with ⟨rfl, _⟩ | ⟨g, cap, cur, rfl, hgb, hg, _⟩
  · cases hj
  · have e2 : g = j := Option.some.inj hj
    subst e2
    rw [hg] at ho
    cases ho
    rfl
theorem below_drewN {n0 : Nat} (w : World) (k : Nat) : Below n0 w (w.drewN k) := ⟨rfl, rfl, rfl, Nat.le_refl _, fun _ _ => rfl⟩
theorem Keeps2.and {c B : Nat} {I J : World → Prop} (h : Keeps2 c B I) (k : Keeps2 c B J) : Keeps2 c B (fun W => I W ∧ J W) := fun W W' r hi hg hr => ⟨h W W' r hi.1 hg hr, k W W' r hi.2 hg hr⟩
theorem Keeps2.ex {α : Type} {c B : Nat} {I : α → World → Prop} (h : ∀ x, Keeps2 c B (I x)) : Keeps2 c B (fun W => ∃ x, I x W) := fun W W' r ⟨x, hi⟩ hg hr => ⟨x, h x W W' r hi hg hr⟩
theorem size_keeps2 {n c B : Nat} : Keeps2 c B (fun W => n ≤ W.heap.size) := fun _ _ _ h hg _ => Nat.le_trans h hg.size
theorem Keeps2.pure {c B : Nat} (p : Prop) : Keeps2 c B (fun _ => p) := fun _ _ _ h _ _ => h
theorem others_setCell (W : World) (g o : Nat) (v : Value) : KeepsOthers W (W.setCell ⟨g, o, none⟩ v) := KeepsOthers.setCell _ _ _
end Go.Proofs.YtiipnpfaaghekaaGreat
