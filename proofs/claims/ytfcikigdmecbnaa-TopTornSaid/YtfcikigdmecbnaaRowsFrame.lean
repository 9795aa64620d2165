/-
  A [][]byte argument, as the laws' frames read it.
-/
import Derived.Test.YtfcikigdmecbnaaFrame
import Derived.Test.YtfcikigdmecbnaaBytes
import Derived.Deep.Slices
namespace Go.Proofs.Ytfcikigdmecbnaa
open Go.ChangeShapes Go.WideShapes Go.ChangeAt Go.RowKit

/-- A slice as its three numbers. -/
def slV (s : Option Addr × Nat × Nat) : Value := .slice s.1 s.2.1 s.2.2
theorem rweights_le {H : Type} {P : Program} {ts : List TypeId} {ds : List (DataW H)} (h : (DataW.weightsEach P ts ds).all (· ≤ reachBytes) = true) {j : Nat} {t : TypeId} {d : DataW H} (ht : ts[j]? = some t) (hd : ds[j]? = some d) : ∀ m ∈ d.weights P t, m ≤ reachBytes := fun m hm => by
  have := List.all_eq_true.1 h _ (DataW.weights_mem_each ht hd m hm)
  simpa using this
theorem rmem_weightsAll {H : Type} {P : Program} {e : TypeId} {ds : List (DataW H)} {d : DataW H} (hd : d ∈ ds) {m : Nat} (hm : m ∈ d.weights P e) : m ∈ DataW.weightsAll P e ds := by
  induction ds with
  | nil => cases hd
  | cons x r ih =>
    simp only [DataW.weightsAll, List.mem_append]
    rcases List.mem_cons.1 hd with h | h
    · subst h; exact .inl hm
    · exact .inr (ih h)
theorem bytesOfRow : Try.prog.bytesOf 23 = 24 := by kernel_rfl
/-- The rows rs are slices, and read as the lists ls. -/
structure RowsAt (w : World) (B : Nat) (a : Option Addr) (n : Nat) (rs : List (Option Addr × Nat × Nat)) (ls : List (List UInt8)) : Prop where
  arr : Arr slV w B a n rs
  len : ls.length = n
  row : ∀ i (h1 : i < rs.length) (h2 : i < ls.length), Bytes w B rs[i].1 rs[i].2.1 ls[i]
theorem RowsAt.below {w w' : World} {B : Nat} {a : Option Addr} {n : Nat} {rs : List (Option Addr × Nat × Nat)} {ls : List (List UInt8)} (h : RowsAt w B a n rs ls) (hb : Below B w w') : RowsAt w' B a n rs ls :=
  ⟨h.arr.below hb, h.len, fun i h1 h2 => (h.row i h1 h2).below hb⟩
theorem open_rows {H : Type} {enc : TypeId × Value → H} {W : World} {b0 : Nat} {hd : Bool} {a : Option Addr} {n c : Nat} {d : DataW H} {p : List MemPlace}
    (h : DataW.Trod enc Try.prog W b0 (fun _ => true) hd 22 (.slice a n c) d p) (hsz : ∀ m ∈ d.weights Try.prog 22, m ≤ reachBytes) :
    ∃ rs ls, RowsAt W W.heap.size a n rs ls ∧ n ≤ c := by
  obtain ⟨fuel, hf⟩ := h
  rcases Deep.open_slice1 Try.underlying22 (by kernel_rfl) hf with ⟨hcs, _⟩ | ⟨x, l, c', m, k, V, D, Pl, hcs, _, hl, hm, hmm, hx, hcell⟩
  · simp [Value.cells] at hcs
    obtain ⟨rfl, rfl, rfl⟩ := hcs
    exact ⟨[], [], ⟨⟨rfl, by omega, fun h => absurd rfl h⟩, rfl, fun i h1 => absurd h1 (by simp)⟩, by omega⟩
  · simp [Value.cells] at hcs
    obtain ⟨rfl, rfl, rfl⟩ := hcs
    simp only [if_true] at hmm
    subst hmm
    simp only [Prod.mk.injEq] at hx
    obtain ⟨hx1, _⟩ := hx
    subst hx1
    have h1 := hsz (n * 24 + (m - n) * 24) (by
      simp only [DataW.weights, Try.underlying22, List.mem_cons]
      left
      rw [bytesOfRow]
      simp only [List.length_map, List.length_range]
      omega)
    simp only [reachBytes] at h1
    obtain ⟨F, hF⟩ := Deep.choose_lt (α := (Option Addr × Nat × Nat) × List UInt8) (n := n) (p := fun i y => W.cell? (x.add i) = some (slV y.1) ∧ Bytes W W.heap.size y.1.1 y.1.2.1 y.2) (fun i hi => by
      obtain ⟨hc1, hc2⟩ := hcell i (by omega)
      have hV : ∃ a' n' c'', V i = .slice a' n' c'' := by
        rcases DataW.trod_slice Try.underlying23 hc2 with ⟨h0, _⟩ | ⟨_, _, _, _, _, _, _, h0, _⟩
        · exact ⟨_, _, _, List.head_eq_of_cons_eq h0⟩
        · exact ⟨_, _, _, List.head_eq_of_cons_eq h0⟩
      obtain ⟨a', n', c'', hV⟩ := hV
      rw [hV] at hc1 hc2
      obtain ⟨xs, g, _, _⟩ := open_bytes (show DataW.Trod enc Try.prog W b0 (fun _ => true) hd 23 (.slice a' n' c'') (D i) (Pl i) from ⟨k, hc2⟩) (fun elems spare e => by
        refine hsz _ ?_
        simp only [DataW.weights, Try.underlying22, List.mem_cons, List.mem_append]
        right; left
        refine rmem_weightsAll (d := D i) (List.mem_map.2 ⟨i, List.mem_range.2 hi, rfl⟩) ?_
        rw [e]
        simp only [DataW.weights, Try.underlying23, List.mem_cons]
        left
        trivial)
      exact ⟨⟨⟨a', n', c''⟩, xs⟩, hc1, g⟩)
    refine ⟨(List.range n).map fun i => (F i).1, (List.range n).map fun i => (F i).2, ⟨⟨by simp, by omega, fun hn => ?_⟩, by simp, fun i h2 h3 => ?_⟩, hl⟩
    · obtain ⟨b, off, spot⟩ := x
      have h0 := (hF 0 (by omega)).1
      have hspot : spot = none := by simpa [Addr.add] using World.cell?_spot h0
      subst hspot
      refine ⟨b, off, rfl, ?_, fun i hi => ?_⟩
      · have := block_lt_of_cell h0
        simpa [Addr.add] using this
      · rw [List.length_map, List.length_range] at hi
        have h4 := (hF i (by omega)).1
        have h3 : (⟨b, off, none⟩ : Addr).add i = ⟨b, off + i, none⟩ := Addr.add_mid b off i
        rw [h3] at h4
        rw [h4]
        simp
    · rw [List.length_map, List.length_range] at h2
      have := (hF i h2).2
      simpa using this
end Go.Proofs.Ytfcikigdmecbnaa
