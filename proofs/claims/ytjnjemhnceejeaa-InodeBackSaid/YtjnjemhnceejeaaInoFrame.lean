/-
  An inode that came in as an argument, by value: eleven integers.
-/
import Derived.Test.YtjnjemhnceejeaaFrame
import Derived.Test.YtjnjemhnceejeaaInoEq
namespace Go.Proofs.Ytjnjemhnceejeaa
open Go.ChangeShapes Go.WideShapes Go.ChangeAt Go.RowKit

section
variable {H : Type} {enc : TypeId × Value → H} {W : World} {b : Nat} {sp : Nat → Bool} {hd : Bool}
theorem one_int {k : IntKind} {t : TypeId} {n i : Nat} {c : Value} {xs : List (DataW H × List MemPlace)} (ht : Try.prog.underlying t = some (.int k)) (hi : i < xs.length) (h : DataW.trod enc Try.prog W b sp hd n t [c] = xs[i]?) : ∃ z, c = .int k z := by
  rw [List.getElem?_eq_getElem hi] at h
  obtain ⟨z, e, _, _⟩ := DataW.trod_int ht h
  exact ⟨z, by simpa using e⟩
theorem open_nod {r : Reach} {b0 : Nat} {v : Value} {d : DataW H} {p : List MemPlace} (hv : Value.okWide Try.prog W r b0 36 v) (h : DataW.Trod enc Try.prog W b sp hd 36 v d p) : ∃ i : Nod, v = nodV i := by
  have hI : Try.prog.cellsOf 3 = 1 := by kernel_rfl
  have hC : Try.prog.cellsOf 36 = 11 := by kernel_rfl
  obtain ⟨cs, rfl, hsz⟩ := okWide_struct Try.underlying36 hv
  rw [hC] at hsz
  obtain ⟨l⟩ := cs
  match l, hsz with
  | [c0, c1, c2, c3, c4, c5, c6, c7, c8, c9, c10], _ =>
    obtain ⟨fuel, hf⟩ := h
    obtain ⟨xs, n, _, _, _, hlen, hg⟩ := DataW.trod_struct Try.underlying36 hf
    have hl : xs.length = 6 := hlen
    have g0 := hg 0 _ rfl
    have g1 := hg 1 _ rfl
    have g2 := hg 2 _ rfl
    have g3 := hg 3 _ rfl
    have g4 := hg 4 _ rfl
    have g5 := hg 5 _ rfl
    simp only [Value.cells] at g0 g1 g2 g3 g4 g5
    obtain ⟨z0, rfl⟩ := one_int Try.underlying3 (by omega) g0
    obtain ⟨z1, rfl⟩ := one_int Try.underlying3 (by omega) g1
    obtain ⟨z2, rfl⟩ := one_int Try.underlying2 (by omega) g2
    obtain ⟨z9, rfl⟩ := one_int Try.underlying3 (by omega) g4
    obtain ⟨z10, rfl⟩ := one_int Try.underlying3 (by omega) g5
    rw [List.getElem?_eq_getElem (by omega)] at g3
    obtain ⟨ys, m, _, _, _, hy, hh⟩ := DataW.trod_array Try.underlying34 g3
    have k0 := hh 0 (by omega)
    have k1 := hh 1 (by omega)
    have k2 := hh 2 (by omega)
    have k3 := hh 3 (by omega)
    have k4 := hh 4 (by omega)
    have k5 := hh 5 (by omega)
    simp only [hI, Nat.mul_one, List.drop_zero] at k0 k1 k2 k3 k4 k5
    obtain ⟨z3, rfl⟩ := one_int Try.underlying3 (by omega) k0
    obtain ⟨z4, rfl⟩ := one_int Try.underlying3 (by omega) k1
    obtain ⟨z5, rfl⟩ := one_int Try.underlying3 (by omega) k2
    obtain ⟨z6, rfl⟩ := one_int Try.underlying3 (by omega) k3
    obtain ⟨z7, rfl⟩ := one_int Try.underlying3 (by omega) k4
    obtain ⟨z8, rfl⟩ := one_int Try.underlying3 (by omega) k5
    exact ⟨⟨z0, z1, z2, z3, z4, z5, z6, z7, z8, z9, z10⟩, rfl⟩
end
end Go.Proofs.Ytjnjemhnceejeaa
