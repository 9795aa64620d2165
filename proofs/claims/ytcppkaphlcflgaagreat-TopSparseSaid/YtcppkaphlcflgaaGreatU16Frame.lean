import Derived.Test.YtcppkaphlcflgaaGreatFrame
namespace Go.Proofs.YtcppkaphlcflgaaGreat
open Go.ChangeShapes Go.WideShapes Go.ChangeAt Go.RowKit

def u16V (n : Nat) : Value := .int .u16 (n : Int)
theorem bytesOfU16 : Tryz.prog.bytesOf 39 = 2 := by kernel_rfl
theorem open_u16s {H : Type} {enc : TypeId × Value → H} {W : World} {b0 : Nat} {hd : Bool} {a : Option Addr} {n c : Nat} {d : DataW H} {p : List MemPlace}
  (h : DataW.Trod enc Tryz.prog W b0 (fun _ => true) hd 22 (.slice a n c) d p) (hsz : ∀ elems spare, d = .slice elems spare → (elems.length + spare.length) * Tryz.prog.bytesOf 39 ≤ reachBytes) :
  ∃ xs : List Nat, Arr u16V W W.heap.size a n xs ∧ n ≤ c ∧ c ≤ 140737488351232 ∧ ∀ x ∈ xs, x < 65536 := by
 obtain ⟨fuel, hf⟩ := h
 rcases open_ints Tryz.underlying22 Tryz.underlying39 (by kernel_rfl) hf with ⟨hcs, _⟩ | ⟨x, l, c', zs, hcs, _, hl, hm, hz, hx, hcell, hwz⟩
 ·simp [Value.cells] at hcs
  obtain ⟨rfl, rfl, rfl⟩ := hcs
  exact ⟨[], ⟨rfl, by omega, fun h => absurd rfl h⟩, by omega, by omega, by simp⟩
 ·simp [Value.cells] at hcs
  obtain ⟨rfl, rfl, rfl⟩ := hcs
  simp only [Prod.mk.injEq] at hx
  have h1 := hsz _ _ hx.1
  rw [bytesOfU16] at h1
  simp only [if_true] at hz
  simp only [lits, List.length_map, List.length_take, List.length_drop, hz, reachBytes] at h1
  have hb : ∀ y ∈ zs, 0 ≤ y ∧ y < 65536 := fun y hy => by
   obtain ⟨u, rfl⟩ := as_u16 (hwz y hy)
   have := u.toNat_lt
   omega
  refine ⟨(zs.take n).map Int.toNat, ⟨by rw [List.length_map, List.length_take]; omega, by omega, fun hn => ?_⟩, hl, by omega, fun y hy => ?_⟩
  ·obtain ⟨b, off, spot⟩ := x
   have h0 := hcell 0 (by omega)
   have hspot : spot = none := by simpa [Addr.add] using World.cell?_spot h0
   subst hspot
   refine ⟨b, off, rfl, ?_, fun i hi => ?_⟩
   ·have := block_lt_of_cell h0
    simpa [Addr.add] using this
   ·have hi2 : i < zs.length := by rw [List.length_map, List.length_take] at hi; omega
    have h2 := hcell i hi2
    have h3 : (⟨b, off, none⟩ : Addr).add i = ⟨b, off + i, none⟩ := Addr.add_mid b off i
    rw [h3] at h2
    rw [h2]
    unfold u16V
    have h4 := hb zs[i] (List.getElem_mem _)
    congr 2
    rw [List.getD_eq_getElem?_getD, List.getElem?_eq_getElem hi2, List.getElem_map, List.getElem_take]
    show zs[i] = _
    omega
  ·obtain ⟨z, hz2, rfl⟩ := List.mem_map.1 hy
   have := hb z (List.mem_of_mem_take hz2)
   omega
end Go.Proofs.YtcppkaphlcflgaaGreat
