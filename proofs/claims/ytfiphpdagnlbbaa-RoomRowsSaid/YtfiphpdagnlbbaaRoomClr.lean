/-
  clear of a part of integers of the call's own.
-/
import Derived.Test.YtfiphpdagnlbbaaRoomOwn
import Derived.Test.YtfiphpdagnlbbaaRoomInts
import Derived.Laws.CopyOwn
import Derived.Lib.SliceRun
import Derived.Lib.BufferWrite
namespace Go.Proofs.Ytfiphpdagnlbbaa
open Go.RowKit

theorem splice_takeI {α : Type} (L : List α) (off n : Nat) (cs : List α) (h : off + cs.length ≤ n) (hn : n ≤ L.length) : (splice L off cs).take n = (L.take n).take off ++ cs ++ (L.take n).drop (off + cs.length) := by
  have hX : (L.take n).length = n := by rw [List.length_take]; omega
  have hL : L = L.take n ++ L.drop n := (List.take_append_drop n L).symm
  have h1 : L.take off = (L.take n).take off := by rw [List.take_take, Nat.min_eq_left (by omega)]
  have h2 : L.drop (off + cs.length) = (L.take n).drop (off + cs.length) ++ L.drop n := by
    conv => lhs; rw [hL]
    rw [List.drop_append_of_le_length (by omega)]
  unfold splice
  rw [h1, h2]
  generalize L.take n = X at *
  generalize L.drop n = R at *
  rw [← List.append_assoc, ← List.append_assoc, List.take_append_of_le_length (by simp only [List.length_append, List.length_take, List.length_drop]; omega),
    List.take_of_length_le (by simp only [List.length_append, List.length_take, List.length_drop]; omega)]
theorem i64size : (Try.prog.info? 3).map (·.size) = some 1 := by kernel_rfl
theorem own_spliceI {w : World} {base g L C off : Nat} {xs : List Int} (hown : Own intV 3 w base (.slice (some ⟨g, 0, none⟩) L C) xs) (ys : List Int) (hm : off + ys.length ≤ L) :
    ∃ cur : Array Value, w.heap[g]? = some (.cells cur 3 (0, 0)) ∧ cur.size = C ∧ L ≤ C ∧ Own intV 3 (w.setRow g (cur.toList.take off ++ ys.map intV ++ cur.toList.drop (off + ys.length)).toArray) base (.slice (some ⟨g, 0, none⟩) L C) (xs.take off ++ ys ++ xs.drop (off + ys.length)) ∧ base ≤ g := by
  rcases hown.2 with ⟨hv, _⟩ | ⟨g', cap, cur, hv, hgb, hg, hcap, hmx, hsz, ht⟩
  · cases hv
  · injection hv with e1 e2 e3
    injection e1 with e1
    injection e1 with e1
    subst e1 e3
    have hxl : xs.length = L := e2.symm
    have hcl : cur.toList.length = C := by simpa using hsz
    rw [hxl] at hcap ht
    have hcs : (ys.map intV).length = ys.length := List.length_map _
    refine ⟨cur, hg, by simpa using hsz, hcap, ?_, hgb⟩
    have hlen : (xs.take off ++ ys ++ xs.drop (off + ys.length)).length = L := by simp only [List.length_append, List.length_take, List.length_drop, hxl]; omega
    have hsp : cur.toList.take off ++ ys.map intV ++ cur.toList.drop (off + ys.length) = splice cur.toList off (ys.map intV) := by
      unfold splice; rw [hcs, List.append_assoc]
    rw [hsp]
    refine ⟨by rw [List.length_map, Nat.mul_one], .inr ⟨g, C, (splice cur.toList off (ys.map intV)).toArray, by rw [hlen], hgb, setRow_heap w g cur _ 3 _ hg, by rw [hlen]; exact hcap, hmx, ?_, ?_⟩⟩
    · rw [List.size_toArray, length_splice _ _ _ (by rw [hcs, hcl]; omega), hcl, Nat.mul_one]
    · rw [hlen]
      show (splice cur.toList off (ys.map intV)).take (L * 1) = _
      rw [Nat.mul_one, splice_takeI _ _ _ _ (by rw [hcs]; omega) (by rw [hcl]; omega)]
      have ht' : cur.toList.take L = xs.map intV := by simpa using ht
      rw [ht', hcs, List.map_append, List.map_append, List.map_take, List.map_drop]
theorem zeroI64 (w : World) : (zeroValue 3).run Try.prog w = .ok (.int .i64 0) w := by kernel_rfl
theorem run_clearI (w : World) (ty : TypeId) (g off m c : Nat) (cur : Array Value) (hg : w.heap[g]? = some (.cells cur 3 (0, 0))) (hm : 0 < m) (hfit : off + m ≤ cur.size) :
    (Builtin.clear_ #[32] ty #[.slice (some ⟨g, off, none⟩) m c]).run Try.prog w = .ok (.tuple #[]) (w.setRow g (cur.toList.take off ++ (List.replicate m (0 : Int)).map intV ++ cur.toList.drop (off + m)).toArray) := by
  have hzc : (Builtin.zeroCells (Value.int .i64 0).cells m).toList = (List.replicate m (0 : Int)).map intV := by
    rw [List.map_replicate]
    show (Builtin.zeroCells #[Value.int .i64 0] m).toList = _
    simp [Builtin.zeroCells]
    apply List.ext_getElem
    · simp
    · intro i h1 h2
      simp [Nat.mod_one, intV]
  have hst := run_storeCells_at Try.prog g off 3 ((List.replicate m (0 : Int)).map intV) 0 cur w hg (by simpa using hfit) (by intro v hv'; rw [List.map_replicate] at hv'; rw [List.eq_of_mem_replicate hv']; rfl)
  rw [List.length_map, List.length_replicate] at hst
  simp only [Nat.add_zero] at hst
  obtain ⟨k, rfl⟩ : ∃ k, m = k + 1 := ⟨m - 1, by omega⟩
  have hz := fun w => zeroI64 w
  simp [Builtin.clear_, run_underlying Try.underlying32, hz, hzc]
  rw [List.map_replicate] at hst
  rw [hst]
  simp
theorem run_clearIP {w : World} {base g L C off : Nat} {xs : List Int} {ad : Option Addr} {dl dc : Nat} (had : ad = cutA (some ⟨g, 0, none⟩) C off) (hown : Own intV 3 w base (.slice (some ⟨g, 0, none⟩) L C) xs) (hm : off + dl ≤ L) (hp : 0 < dl) :
    ∃ w', (∀ ty, (Builtin.clear_ #[32] ty #[.slice ad dl dc]).run Try.prog w = .ok (.tuple #[]) w') ∧ Own intV 3 w' base (.slice (some ⟨g, 0, none⟩) L C) (xs.take off ++ List.replicate dl 0 ++ xs.drop (off + dl)) ∧ Below base w w' := by
  obtain ⟨cur, hg, hsz, hLC, hown', hgb⟩ := own_spliceI hown (List.replicate dl (0 : Int)) (by rw [List.length_replicate]; exact hm)
  rw [List.length_replicate] at hown'
  have had2 : ad = some ⟨g, off, none⟩ := by
    rw [had, cutA, if_neg (by omega)]
    show some ((⟨g, 0, none⟩ : Addr).add off) = _
    rw [Addr.add_mid, Nat.zero_add]
  subst had2
  exact ⟨_, fun ty => run_clearI w ty g off dl dc cur hg hp (by omega), hown', below_setRow (Below.refl _ _) hgb _⟩
end Go.Proofs.Ytfiphpdagnlbbaa
