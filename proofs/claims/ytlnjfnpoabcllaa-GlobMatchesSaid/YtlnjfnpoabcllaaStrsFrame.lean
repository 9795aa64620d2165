/-
  A []string argument, as the laws' frames read it.
-/
import Derived.Test.YtlnjfnpoabcllaaFrame
import Derived.Test.YtlnjfnpoabcllaaStrs
import Derived.SliceStrings
namespace Go.Proofs.Ytlnjfnpoabcllaa
open Go.ChangeShapes Go.WideShapes Go.ChangeAt Go.RowKit

theorem weights_le {H : Type} {P : Program} {ts : List TypeId} {ds : List (DataW H)} (h : (DataW.weightsEach P ts ds).all (· ≤ reachBytes) = true) {j : Nat} {t : TypeId} {d : DataW H} (ht : ts[j]? = some t) (hd : ds[j]? = some d) : ∀ m ∈ d.weights P t, m ≤ reachBytes := fun m hm => by
  have := List.all_eq_true.1 h _ (DataW.weights_mem_each ht hd m hm)
  simpa using this
theorem mem_weightsAll {H : Type} {P : Program} {e : TypeId} {ds : List (DataW H)} {d : DataW H} (hd : d ∈ ds) {m : Nat} (hm : m ∈ d.weights P e) : m ∈ DataW.weightsAll P e ds := by
  induction ds with
  | nil => cases hd
  | cons x r ih =>
    simp only [DataW.weightsAll, List.mem_append]
    rcases List.mem_cons.1 hd with h | h
    · subst h; exact .inl hm
    · exact .inr (ih h)
theorem bytesOfStr : Try.prog.bytesOf 9 = 16 := by kernel_rfl
theorem open_strs {H : Type} {enc : TypeId × Value → H} {W : World} {b0 : Nat} {hd : Bool} {a : Option Addr} {n c : Nat} {d : DataW H} {p : List MemPlace}
    (h : DataW.Trod enc Try.prog W b0 (fun _ => true) hd 22 (.slice a n c) d p) (hsz : ∀ m ∈ d.weights Try.prog 22, m ≤ reachBytes) :
    ∃ xs : List (List UInt8), Arr strV W W.heap.size a n xs ∧ n ≤ c ∧ c ≤ 8796093022000 ∧ ∀ x ∈ xs, x.length ≤ 140737488351232 := by
  obtain ⟨fuel, hf⟩ := h
  rcases open_strings Try.underlying22 Try.underlying9 (by kernel_rfl) hf with ⟨hcs, _⟩ | ⟨x, l, c', ss, hcs, _, hl, hm, hz, hx, hcell, hwz⟩
  · simp [Value.cells] at hcs
    obtain ⟨rfl, rfl, rfl⟩ := hcs
    exact ⟨[], ⟨rfl, by omega, fun h => absurd rfl h⟩, by omega, by omega, by simp⟩
  · simp [Value.cells] at hcs
    obtain ⟨rfl, rfl, rfl⟩ := hcs
    simp only [Prod.mk.injEq] at hx
    simp only [if_true] at hz
    obtain ⟨hx1, _⟩ := hx
    subst hx1
    have h1 := hsz ((ss.take n).length * 16 + (ss.drop n).length * 16) (by
      simp only [DataW.weights, Try.underlying22, List.mem_cons]
      left
      rw [bytesOfStr]
      simp only [strs, List.length_map]
      omega)
    simp only [List.length_take, List.length_drop, hz, reachBytes] at h1
    have h2 : ∀ s ∈ ss.take n, s.size ≤ 140737488351232 := by
      intro s hs
      have h3 := hsz s.data.toList.length (by
        simp only [DataW.weights, Try.underlying22, List.mem_cons, List.mem_append]
        right; left
        refine mem_weightsAll (d := .lit (.string s.data.toList)) ?_ (by simp [DataW.weights])
        simp only [strs, List.mem_map]
        exact ⟨s, hs, rfl⟩)
      simp only [reachBytes] at h3
      simpa using h3
    refine ⟨(ss.take n).map (fun s => s.data.toList), ⟨by rw [List.length_map, List.length_take]; omega, by omega, fun hn => ?_⟩, hl, by omega, ?_⟩
    · obtain ⟨b, off, spot⟩ := x
      have h0 := hcell 0 (by omega)
      have hspot : spot = none := by simpa [Addr.add] using World.cell?_spot h0
      subst hspot
      refine ⟨b, off, rfl, ?_, fun i hi => ?_⟩
      · have := block_lt_of_cell h0
        simpa [Addr.add] using this
      · rw [List.length_map, List.length_take] at hi
        have h4 := hcell i (by omega)
        have h3 : (⟨b, off, none⟩ : Addr).add i = ⟨b, off + i, none⟩ := Addr.add_mid b off i
        rw [h3] at h4
        rw [h4]
        congr 1
        have hi2 : i < ss.length := by omega
        rw [List.getD_eq_getElem?_getD, List.getElem?_eq_getElem hi2, Option.getD_some, strV_eq]
        congr 1
        rw [List.getElem_map, List.getElem_take]
        exact (strL_list _).symm
    · intro y hy
      obtain ⟨s, hs, rfl⟩ := List.mem_map.1 hy
      have := h2 s hs
      simpa using this
end Go.Proofs.Ytlnjfnpoabcllaa
