import Derived.RangeFuncWrites
import Derived.RangeFuncFrom
import Derived.RangeFuncCalls
import Derived.RangeFuncLeaves
import Derived.RangeFuncBound
import Derived.OrdersIn
import Derived.OrdersHeld
import Derived.Deep.RegionHeld3
import Derived.OwnWalkIn
import Derived.TacticsInMore
import Derived.LoopNIn
import Derived.LoopIn
import Derived.WalkMore
import Derived.Test.YtcppkaphlcflgaaGreatInoTake
import Derived.Deep.QuietTactic
import Derived.BigQuiet
namespace Go.Proofs.YtcppkaphlcflgaaGreat
open Lib (hid)
set_option maxRecDepth 100000
set_option maxHeartbeats 16000000
section
open Go.RowKit

def Keeps1 (c : Nat) (I : World → Prop) : Prop := ∀ W W', I W → W.grownBy W' (some c) → I W'
def Keeps2 (c B : Nat) (I : World → Prop) : Prop := ∀ W W' r, I W → W.grownBy W' (some r) → (r = c ∨ (B ≤ r ∧ ∃ o : Obj, W.heap[r]? = some o ∧ o.isCells = false)) → I W'
def RoundOk {α : Type} (n0 c : Nat) (J Jx : List α → World → Prop) (pre : List α) (W : World) (e : Ending) (W' : World) : Prop :=
 (e = .returned (.bool true) ∧ J pre W' ∧ Below n0 W W' ∧ W'.heap[c]? = W.heap[c]?) ∨ (e = .returned (.bool false) ∧ Jx pre W')
def Iter {α : Type} (P : Program) (gf : Nat) (lb : Array Value) (encs : α → Array Value) (xs : List α) (c n0 : Nat) (w : World) : Prop :=
 ∀ (l : Nat) (J Jx : List α → World → Prop) (W : World), Below w.heap.size w W → (∀ pre, Keeps1 c (J pre)) → (∀ pre, Keeps1 c (Jx pre)) →
  (∀ pre x W1, J pre W1 → (pre ++ [x]) <+: xs → YieldAt Fence.wide 7 P l (encs x) W1 (RoundOk n0 c J Jx (pre ++ [x]) W1)) → J [] W →
  CallsIn Fence.wide 8 P gf (#[.func (.yield l) #[] #[]] ++ lb) W fun e W' => (∃ v, e = .returned v) ∧ (J xs W' ∨ ∃ pre, pre <+: xs ∧ Jx pre W')
def LeftBy {α : Type} (n0 c : Nat) (I : List α → World → Prop) (Ix : Code → List α → World → Prop) (pre : List α) (W : World) : Exit → Act → World → Prop
 | .normal, _, W' => KeepsOthers W W' ∧ Below n0 W W' ∧ W'.heap[c]? = W.heap[c]? ∧ I pre W'
 | .ret, _, W' => KeepsOthers W W' ∧ Ix .ret pre W'
 | .exit id, _, W' => KeepsOthers W W' ∧ Ix (.exit id) pre W'
 | .goto t, _, W' => KeepsOthers W W' ∧ Ix (.goto t) pre W'
 | .panic _, _, _ => False
 | .outgrown, _, _ => False

theorem heap_lt {W : World} {k : Nat} {o : Obj} (h : W.heap[k]? = some o) : k < W.heap.size := (Array.getElem?_eq_some_iff.1 h).1
theorem kept1 {W W' : World} {k c : Nat} {o : Obj} (h : W.heap[k]? = some o) (hg : W.grownBy W' (some c)) (hne : k ≠ c) : W'.heap[k]? = some o :=
 (hg.block k (heap_lt h) (fun e => hne (Option.some.inj e))).trans h
theorem Keeps2.one {c B : Nat} {I : World → Prop} (h : Keeps2 c B I) : Keeps1 c I := fun W W' hi hg => h W W' c hi hg (.inl rfl)
theorem Keeps2.alloc {c B : Nat} {I : World → Prop} (h : Keeps2 c B I) {W : World} (o : Obj) (hi : I W) : I (W.alloc o) :=
 h W _ c hi ⟨rfl, rfl, rfl, by simp, fun k hk _ => Below.heap_alloc W o k hk⟩ (.inl rfl)
theorem Keeps2.turn {c B : Nat} {I : World → Prop} (h : Keeps2 c B I) {W : World} {l : Nat} {o : Obj} (o' : Obj) (hl : B ≤ l) (hi : I W) (ho : W.heap[l]? = some o) (hc : o.isCells = false) : I (W.putObj l o') :=
 h W _ l hi (grownBy_putObj' W l o') (.inr ⟨hl, o, ho, hc⟩)
theorem below_turn {n0 : Nat} {W : World} {l : Nat} (o' : Obj) (h : n0 ≤ l) : Below n0 W (W.putObj l o') :=
 ⟨rfl, rfl, rfl, by rw [World.putObj_size]; exact Nat.le_refl _, fun k hk => World.putObj_heap_other (by omega)⟩
theorem wide_one {n : Nat} : Fence.wide.depth.isSome = true → 1 ≤ n := fun h => by cases h

end
section
open Go.RowKit

def Calm (Q : Exit → Act → World → Prop) : Exit → Act → World → Prop
 | .normal, a, w => Q .normal a w
 | _, _, _ => False
theorem Calm.normal {Q : Exit → Act → World → Prop} {a : Act} {w : World} (h : Q .normal a w) : Calm Q .normal a w := h
theorem Calm.imp {Q : Exit → Act → World → Prop} : ∀ (e : Exit) (a : Act) (w : World), Calm Q e a w → Q e a w := fun e a w h => by
 cases e <;> first | exact h | exact h.elim
theorem Calm.noLets {Q : Exit → Act → World → Prop} : ¬ LetsOut (Calm Q) := fun ⟨_, _, h⟩ => h
def noDefer (ops : Array Oper) : Bool := ops.toList.all fun o => match o.op with | .defer _ => false | _ => true
theorem noDefer_at {ops : Array Oper} (h : noDefer ops = true) {i : Nat} {o : Oper} (hi : ops[i]? = some o) : ∀ c, o.op ≠ .defer c := fun c hc => by
 have h2 := List.all_eq_true.1 h o (List.mem_of_getElem? (i := i) (by simpa using hi))
 rw [hc] at h2
 cases h2
theorem rowsIn_round {n l : Nat} {P : Program} {row : String} {args : Array Value} {w : World} {R : Value → World → Prop} (h : Rows P row args w R) : RowsIn (Fence.wide.inRound l) n P row args w R :=
 fun c cs _ => let ⟨v, w', r, s⟩ := h c cs; ⟨v, w', r, (stepsIn_wide (P := P)).2 s⟩
theorem wpOpIn_round {n l : Nat} {P : Program} {ops : Array Oper} {Q : Exit → Act → World → Prop} {i : Nat} {K : Act → World → Prop} {a : Act} {w : World} (hd : noDefer ops = true) (hlo : ¬ LetsOut Q) (h : wpOp P ops Q i K a w) : wpOpIn (Fence.wide.inRound l) n P ops Q i K a w := by
 unfold wpOp at h
 unfold wpOpIn
 split
 ·rename_i hi
  simp only [hi] at h
  exact h
 ·rename_i o hi
  simp only [hi] at h
  split
  ·rename_i hw
   simp only [hw, if_true] at h
   rcases h with h | ⟨_, h⟩
   ·refine ⟨fun _ _ => trivial, ?_⟩
    rw [Oper.semAt_eq _ _ _ (noDefer_at hd hi)]
    unfold Oper.wp at h
    generalize (execOp a.eval o).run P w = r at *
    cases r with
    | ok x w' =>
     cases x with
     | value v => exact h
     | skip => exact h
     | defer d => exact h
     | enter f args => exact ⟨fun h => (by cases h), ((callsIn_wide (n := n - 1)).2 h).inRound l⟩
     | row r args => exact ⟨fun h => (by cases h), rowsIn_round h⟩
     | _ => exact h.elim
    | halt x w' => cases x <;> exact h
   ·exact absurd h hlo
  ·rename_i hw
   simp only [hw] at h
   exact ⟨fun _ _ => trivial, h⟩
theorem wpAnyIn_round {n l : Nat} {P : Program} {md : Region.Mode} {ops : Array Oper} {Q : Exit → Act → World → Prop} (hd : noDefer ops = true) (hlo : ¬ LetsOut Q) : ∀ (fuel : Nat) (listed : Array Bool) (a : Act) (w : World), wpAny P md ops Q fuel listed a w → wpAnyIn (Fence.wide.inRound l) n P md ops Q fuel listed a w := by
 intro fuel
 induction fuel with
 | zero => intro listed a w h; exact h
 | succ fuel ih =>
  intro listed a w h
  exact ⟨h.1, fun i hi => wpOpIn_mono (fun a w => ih _ a w) (wpOpIn_round hd hlo (h.2 i hi))⟩
theorem region_round {n l : Nat} {P : Program} {id : Nat} {ops : Array Oper} {Q : Exit → Act → World → Prop} {a : Act} {w : World} {S : World → Prop} (hm : P.follows .mixedOrders = true) (hd : noDefer ops = true) (hS : S w.drew)
  (h : S w.drew → wpAnyH P .any ops (Calm Q) S ops.size (Array.replicate ops.size false) a w.drew) : (Code.region id ops true).wpIn (Fence.wide.inRound l) n P Q a w :=
 wpIn_mono (wpIn_region_any hm (wpAnyIn_round hd Calm.noLets _ _ _ _ (wpAny_of_held _ _ _ _ (h hS)))) Calm.imp
end
section
open Go.RowKit

theorem Blk.keeps2 {g c B : Nat} {t : TypeId} {cs : Array Value} (hne : g ≠ c) : Keeps2 c B (fun W => Blk W g t cs) := fun W W' r h hg hr => by
 refine h.grown hg fun e => ?_
 have e2 : g = r := Option.some.inj e
 subst e2
 rcases hr with h1 | ⟨_, o, ho, hc⟩
 ·exact hne h1
 ·unfold Blk at h
  rw [h] at ho
  cases ho
  cases hc
theorem below_keeps2 {w : World} {n0 c B : Nat} (hc : n0 ≤ c) (hB : n0 ≤ B) (hn : n0 ≤ w.heap.size) : Keeps2 c B (fun W => Below n0 w W) := fun W W' r h hg hr =>
 h.grown hg (Nat.le_trans hn h.size) (fun k e => by
  have e2 : r = k := Option.some.inj e
  subst e2
  rcases hr with rfl | ⟨h1, _⟩ <;> omega)
theorem below_drewN {n0 : Nat} (w : World) (k : Nat) : Below n0 w (w.drewN k) := ⟨rfl, rfl, rfl, Nat.le_refl _, fun _ _ => rfl⟩
theorem Keeps2.and {c B : Nat} {I J : World → Prop} (h : Keeps2 c B I) (k : Keeps2 c B J) : Keeps2 c B (fun W => I W ∧ J W) := fun W W' r hi hg hr => ⟨h W W' r hi.1 hg hr, k W W' r hi.2 hg hr⟩
theorem Keeps2.ex {α : Type} {c B : Nat} {I : α → World → Prop} (h : ∀ x, Keeps2 c B (I x)) : Keeps2 c B (fun W => ∃ x, I x W) := fun W W' r ⟨x, hi⟩ hg hr => ⟨x, h x W W' r hi hg hr⟩
theorem size_keeps2 {n c B : Nat} : Keeps2 c B (fun W => n ≤ W.heap.size) := fun _ _ _ h hg _ => Nat.le_trans h hg.size
theorem Keeps2.pure {c B : Nat} (p : Prop) : Keeps2 c B (fun _ => p) := fun _ _ _ h _ _ => h
theorem others_setCell (W : World) (g o : Nat) (v : Value) : KeepsOthers W (W.setCell ⟨g, o, none⟩ v) := KeepsOthers.setCell _ _ _
end
section
open Go.RowKit

theorem equal_bytes (a b : Option Addr) (n m c d : Nat) (xs ys : List UInt8) (w : World) (hx : Bytes w w.heap.size a n xs) (hy : Bytes w w.heap.size b m ys) :
  Calls Tryz.prog 171 #[.slice a n c, .slice b m d] w fun e w' => e = .returned (.bool (decide (xs = ys))) ∧ Below w.heap.size w w' := by
 have HX := hid hx
 have HY := hid hy
 have hn := hx.room
 have lx := hx.len
 have ly := hy.len
 by_cases hl : n = m
 ·subst hl
  have HD := hid (fun (h : ¬ xs = ys) => (decide_eq_false h : decide (xs = ys) = false))
  have HE := hid (fun (h : xs = ys) => (decide_eq_true h : decide (xs = ys) = true))
  have LX := hid lx
  have LY := hid ly
  generalize decide (xs = ys) = D at *
  clear hx hy lx ly
  go_enter Tryz.func171, Tryz.ntmps171
  go_wp2
  go_loopw [5, 13] (fun _ i wr => ∃ k : Nat, k ≤ n ∧ i = .int .i64 k ∧ xs.take k = ys.take k ∧ Below w.heap.size w wr) (fun _ i _ => n - (intOf i).toNat)
  case atStart => exact ⟨0, by omega, rfl, rfl, Below.refl _ _⟩
  case round =>
   obtain ⟨k, hk, rfl, ht, hb⟩ := hrel
   have HT := hid ht
   have HB := hid hb
   clear ht hb
   by_cases hlt : k < n
   ·obtain ⟨b1, o1, hk1, rfl, hbl1, hc1⟩ := (HX.out.below HB.out).at_ hlt
    obtain ⟨b2, o2, hk2, rfl, hbl2, hc2⟩ := (HY.out.below HB.out).at_ hlt
    have t1 := hid (List.take_succ_eq_append_getElem hk1)
    have t2 := hid (List.take_succ_eq_append_getElem hk2)
    have HG := hid (fun (h : xs = ys) => (by subst h; rfl : xs[k] = ys[k]))
    have g1 : (0 : Int) ≤ (k : Int) := by omega
    have g2 : (k : Int) < (n : Int) := by omega
    generalize xs[k] = x at *
    generalize ys[k] = y at *
    by_cases he : x = y
    ·subst he
     have g3 : ((x.toNat : Int) != (x.toNat : Int)) = false := by simp
     go_wp2_with fail
     go_quiet (fail)
     go_wp2
     go_roundw
     case rel => exact ⟨k + 1, by omega, by go_num, by rw [t1.out, t2.out, HT.out], HB.out.trans (below_drewN _ _)⟩
     case measure => simp [intOf]; omega
    ·have g3 : ((x.toNat : Int) != (y.toNat : Int)) = true := by
      rw [bne_iff_ne]
      intro h
      exact he (UInt8.toNat_inj.1 (by omega))
     have hd := hid (HD.out (fun h => he (HG.out h)))
     clear he
     go_wp2_with fail
     go_quiet (fail)
     go_wp2
     go_ret
     exact ⟨by rw [hd.out]; rfl, HB.out.trans (below_drewN _ _)⟩
   ·obtain rfl : k = n := by omega
    have hd := hid (HE.out (by
     have h := HT.out
     rw [List.take_of_length_le (by rw [LX.out]; omega), List.take_of_length_le (by rw [LY.out]; omega)] at h
     exact h))
    go_wp2
    go_ret
    exact ⟨by rw [hd.out]; rfl, HB.out⟩
 ·have g1 : ((n : Int) == (m : Int)) = false := by rw [beq_eq_false_iff_ne]; omega
  have g2 : ((n : Int) != (m : Int)) = true := by rw [bne_iff_ne]; omega
  rw [decide_eq_false (show ¬ xs = ys from fun e => hl (by rw [← lx, ← ly, e]))]
  clear hx hy lx ly hl
  go_enter Tryz.func171, Tryz.ntmps171
  go_wp2
  go_ret
  exact ⟨rfl, Below.refl _ _⟩
end
end Go.Proofs.YtcppkaphlcflgaaGreat
