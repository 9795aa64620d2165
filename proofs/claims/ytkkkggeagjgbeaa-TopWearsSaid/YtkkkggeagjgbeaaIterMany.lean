/-
  In a round: append onto a row of the call's own whose elements take several cells; what abides the loop's own book-keeping.
-/
import Derived.Test.YtkkkggeagjgbeaaIterG
import Derived.Test.YtkkkggeagjgbeaaMany
namespace Go.Proofs.Ytkkkggeagjgbeaa
open Go.RowKit

theorem wpListIn_append_OwnM {α : Type} {sz : Nat} {f : α → List Value} {F : Fence} {fuel : Nat} {P : Program} {w : World} {ops : Array Oper} {rest : List Oper} {o : Oper} {ac : Act} {Q : Exit → Act → World → Prop} (hgd : o.guard = none) (s x : Operand) (t : TypeId)
    (ho : o.op = .call { callee := .builtin .append, args := #[s, x], argTypes := #[t, t] })
    (base : Nat) (e : TypeId) (i : TypeInfo) (z : Value) (bytes : Nat) (ht : P.underlying t = some (.slice e)) (hi : P.info? e = some i) (hz : i.zero = some z)
    (hsize : i.size = sz) (hby : i.bytes = bytes) (hzs : z.cells.size = sz) (hsz : 0 < sz) (hf : ∀ x, ∀ u ∈ f x, u.oneCell' = true)
    (v : Value) (xs : List α) (hs : ac.eval s = v) (hown : OwnM sz f e w base v xs) (B : Nat) (a : Option Addr) (m c : Nat) (ys : List α) (hx : ac.eval x = .slice a m c) (hy : ArrM sz f w B a m ys)
    (hbytes : (xs.length + m) * bytes ≤ 140737488355328) (h63 : xs.length + m ≤ maxLen) (hbase : base ≤ w.heap.size)
    (h : ∀ v' w', OwnM sz f e w' base v' (xs ++ ys) → w.grownBy w' v.ownBlock → (v'.ownBlock = v.ownBlock ∨ v'.ownBlock = some w.heap.size) → wpListIn F fuel P ops Q rest (ac.put o.dst v') w') : wpListIn F fuel P ops Q (o :: rest) ac w := by
  refine wpListIn_plain hgd fun K hK => ?_
  obtain ⟨v', w', hrun, h2, h3, h4⟩ := run_append_OwnM (P := P) w base t o.type e i z bytes ht hi hz hsize hby hzs hsz hf v xs hown B a m c ys hy hbytes h63 hbase
  unfold Oper.wpIn
  refine ⟨?_, ?_⟩
  · simp [Oper.about, ho, resolve, Target.leads, Sem.run_pure]
  · rw [Oper.semAt_plain F _ _ (by rw [ho]; intro c hc; cases hc)]
    simp only [execOp, ho, resolve, invoke, builtin, Sem.run_bind, Sem.run_pure, Result.andThen_ok, List.map_toArray, List.map_cons, List.map_nil, hs, hx, hrun, Oper.uponIn_value]
    exact hK _ _ (h v' w' h2 h3 h4)
section
variable {α : Type} {m : Nat} {f : α → List Value} {e : TypeId} {w : World} {base : Nat} {v : Value} {xs : List α}
theorem OwnM.notRowM {r : Nat} (h : OwnM m f e w base v xs) (hr : r < base ∨ ∃ o : Obj, w.heap[r]? = some o ∧ o.isCells = false) : v.ownBlock ≠ some r := by
  rcases h.2.2 with ⟨rfl, _⟩ | ⟨g, cap, cur, rfl, hgb, hg, _⟩
  · intro e; cases e
  · intro e
    have e2 : g = r := Option.some.inj e
    subst e2
    rcases hr with h1 | ⟨o, ho, hc⟩
    · omega
    · rw [hg] at ho
      cases ho
      cases hc
theorem OwnM.cellsRowM (h : OwnM m f e w base v xs) : ∀ (j : Nat) (o : Obj), v.ownBlock = some j → w.heap[j]? = some o → o.isCells = true := by
  intro j o hj ho
  rcases h.2.2 with ⟨rfl, _⟩ | ⟨g, cap, cur, rfl, hgb, hg, _⟩
  · cases hj
  · have e2 : g = j := Option.some.inj hj
    subst e2
    rw [hg] at ho
    cases ho
    rfl
theorem OwnM.notBlk {g : Nat} {t : TypeId} {cs : Array Value} (h : OwnM m f e w base v xs) (hb : Blk w g t cs) (ht : e ≠ t) : v.ownBlock ≠ some g := by
  rcases h.2.2 with ⟨rfl, _⟩ | ⟨g', cap, cur, rfl, _, hh, _⟩
  · intro e; cases e
  · intro he
    have : g' = g := by simpa [Value.ownBlock] using he
    subst this
    unfold Blk at hb
    rw [hh] at hb
    injection hb with hb
    injection hb with _ hb
    exact ht hb
end
theorem OwnM.keepsG {α : Type} {m : Nat} {f : α → List Value} {e : TypeId} {base B : Nat} {v : Value} {xs : List α} {cw : List Nat} (hc : ∀ c ∈ cw, c < base) : KeepsG2 cw B (fun W => OwnM m f e W base v xs) := fun W W' r h hg hr =>
  h.grown hg (by
    rcases hr with rfl | ⟨c, hc1, rfl⟩ | ⟨g, rfl, _, o, ho, hcl⟩
    · cases v.ownBlock with
      | none => exact .inl rfl
      | some k => exact .inr (by simp)
    · exact .inr (h.notRowM (.inl (hc c hc1)))
    · exact .inr (h.notRowM (.inr ⟨o, ho, hcl⟩)))
end Go.Proofs.Ytkkkggeagjgbeaa
