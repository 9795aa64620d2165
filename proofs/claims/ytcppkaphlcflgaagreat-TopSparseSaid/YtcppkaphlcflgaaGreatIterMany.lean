import Derived.RangeFuncWrites
import Derived.RangeFuncFrom
import Derived.RangeFuncCalls
import Derived.RangeFuncLeaves
import Derived.RangeFuncBound
import Derived.Test.YtcppkaphlcflgaaGreatMem
import Derived.OrdersIn
import Derived.OrdersHeld
import Derived.Deep.RegionHeld3
import Derived.OwnWalkIn
import Derived.TacticsInMore
import Derived.LoopNIn
import Derived.LoopIn
import Derived.WalkMore
import Derived.Test.YtcppkaphlcflgaaGreatMany
namespace Go.Proofs.YtcppkaphlcflgaaGreat
open Go.RowKit

def Keeps1 (c : Nat) (I : World → Prop) : Prop := ∀ W W', I W → W.grownBy W' (some c) → I W'
def Keeps2 (c B : Nat) (I : World → Prop) : Prop := ∀ W W' r, I W → W.grownBy W' (some r) → (r = c ∨ (B ≤ r ∧ ∃ o : Obj, W.heap[r]? = some o ∧ o.isCells = false)) → I W'
theorem heap_lt {W : World} {k : Nat} {o : Obj} (h : W.heap[k]? = some o) : k < W.heap.size := (Array.getElem?_eq_some_iff.1 h).1
theorem Keeps2.one {c B : Nat} {I : World → Prop} (h : Keeps2 c B I) : Keeps1 c I := fun W W' hi hg => h W W' c hi hg (.inl rfl)
theorem wide_one {n : Nat} : Fence.wide.depth.isSome = true → 1 ≤ n := fun h => by cases h

end Go.Proofs.YtcppkaphlcflgaaGreat
namespace Go.Proofs.YtcppkaphlcflgaaGreat
open Go.RowKit

def Calm (Q : Exit → Act → World → Prop) : Exit → Act → World → Prop
 | .normal, a, w => Q .normal a w
 | _, _, _ => False
theorem Calm.normal {Q : Exit → Act → World → Prop} {a : Act} {w : World} (h : Q .normal a w) : Calm Q .normal a w := h
theorem Calm.imp {Q : Exit → Act → World → Prop} : ∀ (e : Exit) (a : Act) (w : World), Calm Q e a w → Q e a w := fun e a w h => by
 cases e <;> first | exact h | exact h.elim
theorem Calm.noLets {Q : Exit → Act → World → Prop} : ¬ LetsOut (Calm Q) := fun ⟨_, _, h⟩ => h
def noDefer (ops : Array Oper) : Bool := ops.toList.all fun o => match o.op with | .defer _ => false | _ => true
theorem noDefer_at {ops : Array Oper} (h : noDefer ops = true) {i : Nat} {o : Oper} (hi : ops[i]? = some o) : ∀ c, o.op ≠ .defer c := fun c hc => by
 have h2 := List.all_eq_true.1 h o (List.mem_of_getElem? (i := i) (by simpa using hi))
 rw [hc] at h2
 cases h2
theorem rowsIn_round {n l : Nat} {P : Program} {row : String} {args : Array Value} {w : World} {R : Value → World → Prop} (h : Rows P row args w R) : RowsIn (Fence.wide.inRound l) n P row args w R :=
 fun c cs _ => let ⟨v, w', r, s⟩ := h c cs; ⟨v, w', r, (stepsIn_wide (P := P)).2 s⟩
theorem wpOpIn_round {n l : Nat} {P : Program} {ops : Array Oper} {Q : Exit → Act → World → Prop} {i : Nat} {K : Act → World → Prop} {a : Act} {w : World} (hd : noDefer ops = true) (hlo : ¬ LetsOut Q) (h : wpOp P ops Q i K a w) : wpOpIn (Fence.wide.inRound l) n P ops Q i K a w := by
 unfold wpOp at h
 unfold wpOpIn
 split
 ·rename_i hi
  simp only [hi] at h
  exact h
 ·rename_i o hi
  simp only [hi] at h
  split
  ·rename_i hw
   simp only [hw, if_true] at h
   rcases h with h | ⟨_, h⟩
   ·refine ⟨fun _ _ => trivial, ?_⟩
    rw [Oper.semAt_eq _ _ _ (noDefer_at hd hi)]
    unfold Oper.wp at h
    generalize (execOp a.eval o).run P w = r at *
    cases r with
    | ok x w' =>
     cases x with
     | value v => exact h
     | skip => exact h
     | defer d => exact h
     | enter f args => exact ⟨fun h => (by cases h), ((callsIn_wide (n := n - 1)).2 h).inRound l⟩
     | row r args => exact ⟨fun h => (by cases h), rowsIn_round h⟩
     | _ => exact h.elim
    | halt x w' => cases x <;> exact h
   ·exact absurd h hlo
  ·rename_i hw
   simp only [hw] at h
   exact ⟨fun _ _ => trivial, h⟩
theorem wpAnyIn_round {n l : Nat} {P : Program} {md : Region.Mode} {ops : Array Oper} {Q : Exit → Act → World → Prop} (hd : noDefer ops = true) (hlo : ¬ LetsOut Q) : ∀ (fuel : Nat) (listed : Array Bool) (a : Act) (w : World), wpAny P md ops Q fuel listed a w → wpAnyIn (Fence.wide.inRound l) n P md ops Q fuel listed a w := by
 intro fuel
 induction fuel with
 | zero => intro listed a w h; exact h
 | succ fuel ih =>
  intro listed a w h
  exact ⟨h.1, fun i hi => wpOpIn_mono (fun a w => ih _ a w) (wpOpIn_round hd hlo (h.2 i hi))⟩
theorem region_round {n l : Nat} {P : Program} {id : Nat} {ops : Array Oper} {Q : Exit → Act → World → Prop} {a : Act} {w : World} {S : World → Prop} (hm : P.follows .mixedOrders = true) (hd : noDefer ops = true) (hS : S w.drew)
  (h : S w.drew → wpAnyH P .any ops (Calm Q) S ops.size (Array.replicate ops.size false) a w.drew) : (Code.region id ops true).wpIn (Fence.wide.inRound l) n P Q a w :=
 wpIn_mono (wpIn_region_any hm (wpAnyIn_round hd Calm.noLets _ _ _ _ (wpAny_of_held _ _ _ _ (h hS)))) Calm.imp
end Go.Proofs.YtcppkaphlcflgaaGreat
namespace Go.Proofs.YtcppkaphlcflgaaGreat
open Go.RowKit

theorem below_drewN {n0 : Nat} (w : World) (k : Nat) : Below n0 w (w.drewN k) := ⟨rfl, rfl, rfl, Nat.le_refl _, fun _ _ => rfl⟩
end Go.Proofs.YtcppkaphlcflgaaGreat
namespace Go.Proofs.YtcppkaphlcflgaaGreat
open Go.RowKit

def KeepsG1 (cw : List Nat) (I : World → Prop) : Prop := ∀ W W' r, I W → W.grownBy W' r → (r = none ∨ ∃ c ∈ cw, r = some c) → I W'
def KeepsG2 (cw : List Nat) (B : Nat) (I : World → Prop) : Prop :=
 ∀ W W' r, I W → W.grownBy W' r → (r = none ∨ (∃ c ∈ cw, r = some c) ∨ ∃ g, r = some g ∧ B ≤ g ∧ ∃ o : Obj, W.heap[g]? = some o ∧ o.isCells = false) → I W'
theorem KeepsG2.one {cw : List Nat} {B : Nat} {I : World → Prop} (h : KeepsG2 cw B I) : KeepsG1 cw I := fun W W' r hi hg hr => h W W' r hi hg (by rcases hr with h | h; exact .inl h; exact .inr (.inl h))
end Go.Proofs.YtcppkaphlcflgaaGreat
namespace Go.Proofs.YtcppkaphlcflgaaGreat
open Go.RowKit

section
variable {α : Type} {m : Nat} {f : α → List Value} {e : TypeId} {w : World} {base : Nat} {v : Value} {xs : List α}
theorem OwnM.notBlk {g : Nat} {t : TypeId} {cs : Array Value} (h : OwnM m f e w base v xs) (hb : Blk w g t cs) (ht : e ≠ t) : v.ownBlock ≠ some g := by
 rcases h.2.2 with ⟨rfl, _⟩ | ⟨g', cap, cur, rfl, _, hh, _⟩
 ·intro e; cases e
 ·intro he
  have : g' = g := by simpa [Value.ownBlock] using he
  subst this
  unfold Blk at hb
  rw [hh] at hb
  injection hb with hb
  injection hb with _ hb
  exact ht hb
end
end Go.Proofs.YtcppkaphlcflgaaGreat
