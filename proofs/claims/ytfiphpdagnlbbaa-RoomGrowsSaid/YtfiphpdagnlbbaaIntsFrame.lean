/-
  A []int argument, as the laws' frames read it.
-/
import Derived.Test.YtfiphpdagnlbbaaFrame
namespace Go.Proofs.Ytfiphpdagnlbbaa
open Go.ChangeShapes Go.WideShapes Go.ChangeAt Go.RowKit

theorem bytesOfInt : Try.prog.bytesOf 3 = 8 := by kernel_rfl
theorem open_intL {H : Type} {enc : TypeId × Value → H} {W : World} {b0 : Nat} {hd : Bool} {a : Option Addr} {n c : Nat} {d : DataW H} {p : List MemPlace}
    (h : DataW.Trod enc Try.prog W b0 (fun _ => true) hd 32 (.slice a n c) d p) (hsz : ∀ elems spare, d = .slice elems spare → (elems.length + spare.length) * Try.prog.bytesOf 3 ≤ reachBytes) :
    ∃ xs : List Int, Arr intV W W.heap.size a n xs ∧ n ≤ c ∧ c ≤ 17592186043904 ∧ ∀ x ∈ xs, -9223372036854775808 ≤ x ∧ x ≤ 9223372036854775807 := by
  obtain ⟨fuel, hf⟩ := h
  rcases open_ints Try.underlying32 Try.underlying3 (by kernel_rfl) hf with ⟨hcs, _⟩ | ⟨x, l, c', zs, hcs, _, hl, hm, hz, hx, hcell, hwz⟩
  · simp [Value.cells] at hcs
    obtain ⟨rfl, rfl, rfl⟩ := hcs
    exact ⟨[], ⟨rfl, by omega, fun h => absurd rfl h⟩, by omega, by omega, by simp⟩
  · simp [Value.cells] at hcs
    obtain ⟨rfl, rfl, rfl⟩ := hcs
    simp only [Prod.mk.injEq] at hx
    have h1 := hsz _ _ hx.1
    rw [bytesOfInt] at h1
    simp only [if_true] at hz
    simp only [lits, List.length_map, List.length_take, List.length_drop, hz, reachBytes] at h1
    refine ⟨zs.take n, ⟨by rw [List.length_take]; omega, by omega, fun hn => ?_⟩, hl, by omega, fun y hy => as_i64 (hwz y (List.mem_of_mem_take hy))⟩
    obtain ⟨b, off, spot⟩ := x
    have h0 := hcell 0 (by omega)
    have hspot : spot = none := by simpa [Addr.add] using World.cell?_spot h0
    subst hspot
    refine ⟨b, off, rfl, ?_, fun i hi => ?_⟩
    · have := block_lt_of_cell h0
      simpa [Addr.add] using this
    · have hi2 : i < zs.length := by rw [List.length_take] at hi; omega
      have h2 := hcell i hi2
      have h3 : (⟨b, off, none⟩ : Addr).add i = ⟨b, off + i, none⟩ := Addr.add_mid b off i
      rw [h3] at h2
      rw [h2]
      congr 2
      rw [List.getD_eq_getElem?_getD, List.getElem?_eq_getElem hi2]
      simp
end Go.Proofs.Ytfiphpdagnlbbaa
