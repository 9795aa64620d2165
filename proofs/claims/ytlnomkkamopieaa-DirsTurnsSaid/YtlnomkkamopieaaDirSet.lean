/-
  A map[string]int that the call makes, as the set of its names; a directory's slots.
-/
import Derived.Test.YtlnomkkamopieaaDirRead
import Derived.Maps.OwnSet
namespace Go.Proofs.Ytlnomkkamopieaa
open Go.RowKit Go.Maps Go.WideMaps

theorem strLaw : Keyed Try.prog 9 := string_keyed Try.underlying9
theorem zeroInt (w : World) : (zeroValue 3).run Try.prog w = .ok (.int .i64 0) w := by kernel_rfl
theorem strKey (l : List UInt8) (h : l.length ≤ maxLen) : keyOf Try.prog 9 (.string (strL l)) = some (.string l) := by
  have := keyOf_string_mk Try.underlying9 (s := strL l) (by rw [strL_size]; exact h)
  exact this
/-- The map's keys are just the names of the list. -/
def NameSet (w : World) (B k : Nat) (l : List (List UInt8)) : Prop :=
  ∃ D : DataW Unit, w.ownsMap Try.prog 9 (plainElem Try.prog 3) B k D ∧ Maps.IsMap D ∧ ∀ nm, Maps.has D (.string nm) = l.contains nm
theorem NameSet.made (w : World) : NameSet (w.alloc (.map #[] 0)) w.heap.size 0 [] := ⟨.map [], World.ownsMap_made _ _ _ _, ⟨[], rfl⟩, fun _ => rfl⟩
theorem NameSet.lt {w : World} {B k : Nat} {l : List (List UInt8)} (h : NameSet w B k l) : B < w.heap.size := by obtain ⟨D, h, _⟩ := h; exact h.lt
theorem NameSet.on {w w' : World} {B k : Nat} {l : List (List UInt8)} (h : NameSet w B k l) (hb : Below w.heap.size w w') : NameSet w' B k l := by
  obtain ⟨D, h, h2⟩ := h
  have hlt := h.lt
  obtain ⟨es, clock, hh, r⟩ := h
  exact ⟨D, ⟨es, clock, (hb.block B hlt).trans hh, r⟩, h2⟩
theorem NameSet.mono {w : World} {B k k' : Nat} {l : List (List UInt8)} (h : NameSet w B k l) (hk : k ≤ k') : NameSet w B k' l := by
  obtain ⟨D, h, h2⟩ := h
  exact ⟨D, h.mono hk, h2⟩
section
variable {w : World} {ops : Array Oper} {rest : List Oper} {o : Oper} {a : Act} {Q : Exit → Act → World → Prop} {B k : Nat} {l : List (List UInt8)}
theorem wpList_lookup_name (hg : o.guard = none) (m x : Operand) (hop : o.op = Op.lookup 63 m x true) (hm : a.eval m = .map (some B)) (hown : NameSet w B k l) (nm : List UInt8) (hl : nm.length ≤ maxLen)
    (hx : a.eval x = .string (strL nm)) (hK : ∀ c : Int, wpList Try.prog ops Q rest (a.put o.dst (.tuple #[.int .i64 c, .bool (l.contains nm)])) w) : wpList Try.prog ops Q (o :: rest) a w := by
  obtain ⟨D, hown, _, hh⟩ := hown
  refine wpList_lookup_own_ok_int w hg m x 63 hop 9 3 .i64 strLaw Try.underlying63 Try.underlying3 (zeroInt _) B k D hm hown _ _ hx (strKey nm hl) ?_
  intro c _ _
  rw [hh]
  exact hK c
theorem wpList_add_name (hg : o.guard = none) (m x v : Operand) (hop : o.op = Op.mapUpdate 63 m x v) (hm : a.eval m = .map (some B)) (hown : NameSet w B k l) (hk : k < maxLen) (nm : List UInt8) (hl : nm.length ≤ maxLen) (i : Int) (hi : (Lit.int .i64 i).wf = true)
    (hx : a.eval x = .string (strL nm)) (hv : a.eval v = .int .i64 i) (hK : ∀ w', Hid (NameSet w' B (k + 1) (l ++ [nm])) → Hid (w.grownBy w' (some B)) → wpList Try.prog ops Q rest (a.put o.dst undef) w') : wpList Try.prog ops Q (o :: rest) a w := by
  obtain ⟨D, hown, hD, hh⟩ := hown
  refine wpList_mapUpdate_own w hg m x v 63 hop 9 3 strLaw Try.underlying63 _ B k D hm hown hk _ _ _ hx hv (strKey nm hl) _ [] (plainElem_int Try.underlying3 hi) ?_
  intro w' h1 h2
  refine hK w' (Lib.hid ⟨_, h1, hD.put _ _, fun nm' => ?_⟩) (Lib.hid h2)
  by_cases he : nm' = nm
  · subst he
    rw [Maps.has_put_same hD (by trivial)]
    simp
  · rw [Maps.has_put_other (by intro h; injection h with h; exact he h), hh]
    rw [List.contains_append]
    simp [he]
end

namespace Dir
def slotAt (b : List UInt8) (k : Nat) : List UInt8 := (b.drop (16 * k)).take 16
def rd (b : List UInt8) (k : Nat) : Ent × Bool × Int := readR (slotAt b k)
def seen (b : List UInt8) : Nat → List (List UInt8)
  | 0 => []
  | k + 1 => if (rd b k).2.1 = true then seen b k ++ [(rd b k).1.nm] else seen b k
def okAt (b : List UInt8) (k : Nat) : Bool := decide ((rd b k).2.2 = 0) && !((rd b k).2.1 && (seen b k).contains (rd b k).1.nm)
def okTo (b : List UInt8) : Nat → Bool
  | 0 => true
  | k + 1 => okTo b k && okAt b k
def cnt (b : List UInt8) : Nat := b.length / 16
def lastOk (b : List UInt8) : Bool := decide (cnt b = 0) || (rd b (cnt b - 1)).2.1
def goodB (b : List UInt8) : Bool := decide (b.length % 16 = 0) && okTo b (cnt b) && lastOk b
theorem okTo_less {b : List UInt8} {k m : Nat} (h : k ≤ m) (hm : okTo b m = true) : okTo b k = true := by
  induction m with
  | zero => obtain rfl : k = 0 := by omega
            exact hm
  | succ m ih =>
    rcases Nat.lt_or_ge k (m + 1) with h2 | h2
    · rw [okTo, Bool.and_eq_true] at hm
      exact ih (by omega) hm.1
    · obtain rfl : k = m + 1 := by omega
      exact hm
theorem good_at {b : List UInt8} {k : Nat} (h : k < cnt b) (hn : okAt b k = false) : goodB b = false := by
  cases hg : goodB b
  · rfl
  · rw [goodB, Bool.and_eq_true, Bool.and_eq_true] at hg
    have := okTo_less (k := k + 1) (by omega) hg.1.2
    rw [okTo, hn, Bool.and_false] at this
    cases this
theorem good_last {b : List UInt8} {k : Nat} (h : k + 1 = cnt b) (hn : (rd b k).2.1 = false) : goodB b = false := by
  unfold goodB lastOk
  rw [show cnt b - 1 = k by omega, hn, decide_eq_false (by omega : ¬ cnt b = 0)]
  simp
theorem good_end {b : List UInt8} (h : okTo b (cnt b) = true) (hl : cnt b = 0 ∨ (rd b (cnt b - 1)).2.1 = true) : goodB b = decide (b.length % 16 = 0) := by
  unfold goodB lastOk
  rw [h]
  rcases hl with hl | hl
  · rw [decide_eq_true hl]; simp
  · rw [hl]; simp
theorem rd_len (b : List UInt8) : (readR b).1.nm.length ≤ 13 := by
  cases h : (readR b).2.1
  · rw [readR_none h]; simp [none_]
  · exact (nameE_len ((writeE_iff _).1 (readR_used h).1).2).2
end Dir
theorem slots_calls (a : Option Addr) (n c : Nat) (w : World) (hn : n ≤ 140737488355328) : Calls Try.prog 33 #[.slice a n c] w fun e w' => e = .returned (.int .i64 (n / 16 : Nat)) ∧ w = w' := by
  have q : (n : Int) / 16 = ((n / 16 : Nat) : Int) := by omega
  have hq : n / 16 ≤ 140737488355328 := by omega
  generalize n / 16 = m at *
  go_enter Try.func33, Try.ntmps33
  go_wp2
  go_ret
  exact ⟨rfl, rfl⟩
theorem slot_calls (a : Option Addr) (n c k : Nat) (b : List UInt8) (w : World) (hx : Bytes w w.heap.size a n b) (hnc : n ≤ c) (hk : k < n / 16) :
    Calls Try.prog 34 #[.slice a n c, .int .i64 k] w fun e w' => (∃ a' c', e = .returned (.slice a' 16 c') ∧ 16 ≤ c' ∧ a' = cutA a c (16 * k) ∧ Bytes w w.heap.size a' 16 (Dir.slotAt b k)) ∧ w = w' := by
  have hroom := hx.room
  have hc := cutB_mid a n c (16 * k) (16 * k + 16) (by omega) (by omega)
  have HY := Lib.hid ((hx.drop (l := 16 * k) (by omega) hnc).take (k := 16) (by omega))
  have hcc : 16 ≤ c - 16 * k := by omega
  rw [show 16 * k + 16 - 16 * k = 16 by omega, show ((16 * k : Nat) : Int) = (k : Int) * 16 by omega, show ((16 * k + 16 : Nat) : Int) = ((k : Int) + 1) * 16 by omega] at hc
  have q1 : IntKind.i64.wrap ((k : Int) * 16) = (k : Int) * 16 := IntWalk.i64_in _ ⟨by omega, by omega⟩
  have q2 : IntKind.i64.wrap ((k : Int) + 1) = (k : Int) + 1 := IntWalk.i64_in _ ⟨by omega, by omega⟩
  have q3 : IntKind.i64.wrap (((k : Int) + 1) * 16) = ((k : Int) + 1) * 16 := IntWalk.i64_in _ ⟨by omega, by omega⟩
  clear hx
  go_enter Try.func34, Try.ntmps34
  go_wp2
  go_ret
  exact ⟨⟨_, _, rfl, hcc, rfl, HY.out⟩, rfl⟩
end Go.Proofs.Ytlnomkkamopieaa
