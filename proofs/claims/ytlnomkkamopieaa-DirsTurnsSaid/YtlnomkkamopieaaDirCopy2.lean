/-
  copy of bytes into a part of bytes of the call's own; clear of a part.
-/
import Derived.Test.YtlnomkkamopieaaDirCopy
import Derived.Lib.SliceRun
namespace Go.Proofs.Ytlnomkkamopieaa
open Go.RowKit

theorem wpList_copyP {w : World} {ops : Array Oper} {rest : List Oper} {o : Oper} {ac : Act} {Q : Exit → Act → World → Prop} (hgd : o.guard = none) (d s : Operand)
    (ho : o.op = .call { callee := .builtin .copy, args := #[d, s], argTypes := #[24, 24] }) (base g L C off : Nat) (xs : List UInt8) (ad : Option Addr) (dl dc : Nat)
    (hd : ac.eval d = .slice ad dl dc) (had : ad = cutA (some ⟨g, 0, none⟩) C off) (hown : Own byteV 5 w base (.slice (some ⟨g, 0, none⟩) L C) xs)
    (B : Nat) (a : Option Addr) (c : Nat) (ys : List UInt8) (hs : ac.eval s = .slice a dl c) (hy : Bytes w B a dl ys) (hm : off + dl ≤ L)
    (h : ∀ w', Hid (Own byteV 5 w' base (.slice (some ⟨g, 0, none⟩) L C) (xs.take off ++ ys ++ xs.drop (off + dl))) → Hid (Below base w w') → wpList Try.prog ops Q rest (ac.put o.dst (goInt dl)) w') : wpList Try.prog ops Q (o :: rest) ac w := by
  have hl := hy.len
  obtain ⟨cur, hg, hsz, hLC, hown', hgb⟩ := own_splice hown ys (by rw [hl]; exact hm)
  have hcs : (ys.map byteV).length = dl := by rw [List.length_map, hl]
  refine wpList_copy_splice hgd d s _ _ ho 5 Try.underlying24 u8size _ a _ _ dl c hd hs g off cur.toList 5 (by simpa using hg) (ys.map byteV) (by rw [hcs]; exact (Nat.min_eq_left (Nat.le_refl _)).symm) ?_ (by rw [hcs]; simp; omega)
    (fun v hv => by obtain ⟨x, _, rfl⟩ := List.mem_map.1 hv; exact byteV_one x) base w (Below.refl _ _) hgb ?_
  · intro hp
    rw [hcs] at hp
    obtain ⟨b, o', ha, _, hc⟩ := hy.2.2 (by omega)
    refine ⟨?_, ⟨b, o', none⟩, ha, fun j v hj => ?_⟩
    · rw [had, cutA, if_neg (by omega)]
      show some ((⟨g, 0, none⟩ : Addr).add off) = _
      rw [Addr.add_mid, Nat.zero_add]
    · rw [List.getElem?_map] at hj
      cases hk : ys[j]? with
      | none => rw [hk] at hj; cases hj
      | some y =>
        rw [hk] at hj
        injection hj with hj
        subst hj
        obtain ⟨hjl, hje⟩ := List.getElem?_eq_some_iff.1 hk
        rw [Addr.add_mid, hc j hjl, hje]
  · intro w' hg' hb
    rw [hcs]
    refine h w' (Lib.hid ?_) (Lib.hid hb)
    have e : w'.heap[g]? = (w.setRow g (cur.toList.take off ++ ys.map byteV ++ cur.toList.drop (off + ys.length)).toArray).heap[g]? := by
      rw [hg'.out, setRow_heap w g cur _ 5 _ hg]
      unfold splice
      rw [hcs, hl, List.append_assoc]
    rw [← hl]
    refine ⟨hown'.1, ?_⟩
    rcases hown'.2 with ⟨hv, _⟩ | ⟨g', cap, cur', hv, q1, q2, r⟩
    · cases hv
    · have e2 : g' = g := by injection hv with h1; injection h1 with h1; injection h1 with h1; exact h1.symm
      subst e2
      exact .inr ⟨g', cap, cur', hv, q1, e.trans q2, r⟩
theorem run_copyP {w : World} {base g L C off : Nat} {xs : List UInt8} {ad : Option Addr} {dl dc : Nat} (had : ad = cutA (some ⟨g, 0, none⟩) C off) (hown : Own byteV 5 w base (.slice (some ⟨g, 0, none⟩) L C) xs)
    {B : Nat} {a : Option Addr} {c : Nat} {ys : List UInt8} (hy : Bytes w B a dl ys) (hm : off + dl ≤ L) (hp : 0 < dl) :
    ∃ w', (∀ ty, (Builtin.copy_ #[24, 24] ty #[.slice ad dl dc, .slice a dl c]).run Try.prog w = .ok (goInt dl) w') ∧ Own byteV 5 w' base (.slice (some ⟨g, 0, none⟩) L C) (xs.take off ++ ys ++ xs.drop (off + dl)) ∧ Below base w w' := by
  have hl := hy.len
  obtain ⟨cur, hg, hsz, hLC, hown', hgb⟩ := own_splice hown ys (by rw [hl]; exact hm)
  have hcs : (ys.map byteV).length = dl := by rw [List.length_map, hl]
  have had2 : ad = some ⟨g, off, none⟩ := by
    rw [had, cutA, if_neg (by omega)]
    show some ((⟨g, 0, none⟩ : Addr).add off) = _
    rw [Addr.add_mid, Nat.zero_add]
  subst had2
  obtain ⟨b, o', rfl, _, hc⟩ := hy.2.2 (by omega)
  refine ⟨_, fun ty => ?_, by rw [hl] at hown'; exact hown', below_setRow (Below.refl _ _) hgb _⟩
  have h := run_copy_row Try.prog w 24 24 ty 5 g off dl dc ⟨b, o', none⟩ dl c cur 5 (ys.map byteV) Try.underlying24 u8size hg (by rw [hcs]; exact (Nat.min_eq_left (Nat.le_refl _)).symm)
    (fun j v hj => by
      rw [List.getElem?_map] at hj
      cases hk : ys[j]? with
      | none => rw [hk] at hj; cases hj
      | some y =>
        rw [hk] at hj
        injection hj with hj
        subst hj
        obtain ⟨hjl, hje⟩ := List.getElem?_eq_some_iff.1 hk
        rw [Addr.add_mid, hc j hjl, hje]) (by rw [hcs]; omega)
    (fun v hv => by obtain ⟨x, _, rfl⟩ := List.mem_map.1 hv; exact byteV_one x)
  rw [hcs] at h
  exact h
theorem zeroU8 (w : World) : (zeroValue 5).run Try.prog w = .ok (.int .u8 0) w := by kernel_rfl
theorem run_clearB (w : World) (ty : TypeId) (g off m c : Nat) (cur : Array Value) (hg : w.heap[g]? = some (.cells cur 5 (0, 0))) (hm : 0 < m) (hfit : off + m ≤ cur.size) :
    (Builtin.clear_ #[24] ty #[.slice (some ⟨g, off, none⟩) m c]).run Try.prog w = .ok (.tuple #[]) (w.setRow g (cur.toList.take off ++ (List.replicate m (0 : UInt8)).map byteV ++ cur.toList.drop (off + m)).toArray) := by
  have hzc : (Builtin.zeroCells (Value.int .u8 0).cells m).toList = (List.replicate m (0 : UInt8)).map byteV := by
    rw [List.map_replicate]
    show (Builtin.zeroCells #[Value.int .u8 0] m).toList = _
    simp [Builtin.zeroCells]
    apply List.ext_getElem
    · simp
    · intro i h1 h2
      simp [Nat.mod_one, byteV]
  have hst := run_storeCells_at Try.prog g off 5 ((List.replicate m (0 : UInt8)).map byteV) 0 cur w hg (by simpa using hfit) (by intro v hv'; rw [List.map_replicate] at hv'; rw [List.eq_of_mem_replicate hv']; rfl)
  rw [List.length_map, List.length_replicate] at hst
  simp only [Nat.add_zero] at hst
  obtain ⟨k, rfl⟩ : ∃ k, m = k + 1 := ⟨m - 1, by omega⟩
  have hz := fun w => zeroU8 w
  simp [Builtin.clear_, run_underlying Try.underlying24, hz, hzc]
  rw [List.map_replicate] at hst
  rw [hst]
  simp
theorem run_clearP {w : World} {base g L C off : Nat} {xs : List UInt8} {ad : Option Addr} {dl dc : Nat} (had : ad = cutA (some ⟨g, 0, none⟩) C off) (hown : Own byteV 5 w base (.slice (some ⟨g, 0, none⟩) L C) xs) (hm : off + dl ≤ L) (hp : 0 < dl) :
    ∃ w', (∀ ty, (Builtin.clear_ #[24] ty #[.slice ad dl dc]).run Try.prog w = .ok (.tuple #[]) w') ∧ Own byteV 5 w' base (.slice (some ⟨g, 0, none⟩) L C) (xs.take off ++ List.replicate dl 0 ++ xs.drop (off + dl)) ∧ Below base w w' := by
  obtain ⟨cur, hg, hsz, hLC, hown', hgb⟩ := own_splice hown (List.replicate dl (0 : UInt8)) (by rw [List.length_replicate]; exact hm)
  rw [List.length_replicate] at hown'
  have had2 : ad = some ⟨g, off, none⟩ := by
    rw [had, cutA, if_neg (by omega)]
    show some ((⟨g, 0, none⟩ : Addr).add off) = _
    rw [Addr.add_mid, Nat.zero_add]
  subst had2
  exact ⟨_, fun ty => run_clearB w ty g off dl dc cur hg hp (by omega), hown', below_setRow (Below.refl _ _) hgb _⟩
theorem wpList_clearB {w : World} {ops : Array Oper} {rest : List Oper} {o : Oper} {ac : Act} {Q : Exit → Act → World → Prop} (hgd : o.guard = none) (d : Operand)
    (ho : o.op = .call { callee := .builtin .clear, args := #[d], argTypes := #[24] }) (base g L C off : Nat) (xs : List UInt8) (ad : Option Addr) (dl dc : Nat)
    (hd : ac.eval d = .slice ad dl dc) (had : ad = cutA (some ⟨g, 0, none⟩) C off) (hown : Own byteV 5 w base (.slice (some ⟨g, 0, none⟩) L C) xs)
    (hm : off + dl ≤ L) (hp : 0 < dl)
    (h : ∀ w', Hid (Own byteV 5 w' base (.slice (some ⟨g, 0, none⟩) L C) (xs.take off ++ List.replicate dl 0 ++ xs.drop (off + dl))) → Hid (Below base w w') → wpList Try.prog ops Q rest (ac.put o.dst (.tuple #[])) w') : wpList Try.prog ops Q (o :: rest) ac w := by
  obtain ⟨cur, hg, hsz, hLC, hown', hgb⟩ := own_splice hown (List.replicate dl (0 : UInt8)) (by rw [List.length_replicate]; exact hm)
  rw [List.length_replicate] at hown'
  have had2 : ad = some ⟨g, off, none⟩ := by
    rw [had, cutA, if_neg (by omega)]
    show some ((⟨g, 0, none⟩ : Addr).add off) = _
    rw [Addr.add_mid, Nat.zero_add]
  subst had2
  have hrun := run_clearB w o.type g off dl dc cur hg hp (by omega)
  refine wpList_plain hgd fun K hK => ?_
  unfold Oper.wp
  simp [execOp, ho, resolve, invoke, builtin, hd, hrun, Result.andThen]
  refine hK _ _ (h _ (Lib.hid ?_) (Lib.hid (below_setRow (Below.refl _ _) hgb _)))
  simpa using hown'
end Go.Proofs.Ytlnomkkamopieaa
