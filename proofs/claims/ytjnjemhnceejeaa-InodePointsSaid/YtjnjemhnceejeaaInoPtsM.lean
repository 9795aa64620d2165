/-
  The pointers that a page gives, in order: plain mathematics (for inode.Pointers' iterator).
-/
import Derived.Test.YtjnjemhnceejeaaInoPtMath
namespace Go.Proofs.Ytjnjemhnceejeaa
namespace Pt
/-- The pointers that are one, of the first k. -/
def ptsTo (xs : List UInt8) : Nat → List (Nat × Nat)
  | 0 => []
  | k + 1 => if two xs k = 0 then ptsTo xs k else ptsTo xs k ++ [(k, two xs k)]
def pts (xs : List UInt8) : List (Nat × Nat) := if Ino.Sized xs.length then ptsTo xs (xs.length / 2) else []
theorem ptsTo_pre {xs : List UInt8} {k m : Nat} (h : k ≤ m) : ptsTo xs k <+: ptsTo xs m := by
  induction m with
  | zero => obtain rfl : k = 0 := by omega
            exact List.prefix_refl _
  | succ m ih =>
    rcases Nat.lt_or_ge k (m + 1) with h2 | h2
    · refine (ih (by omega)).trans ?_
      rw [ptsTo]
      split
      · exact List.prefix_refl _
      · exact List.prefix_append _ _
    · obtain rfl : k = m + 1 := by omega
      exact List.prefix_refl _
theorem mem_ptsTo {xs : List UInt8} {k : Nat} {x : Nat × Nat} : x ∈ ptsTo xs k ↔ x.1 < k ∧ two xs x.1 ≠ 0 ∧ x.2 = two xs x.1 := by
  induction k with
  | zero => simp [ptsTo]
  | succ k ih =>
    rw [ptsTo]
    split
    · rename_i h
      rw [ih]
      constructor
      · rintro ⟨h1, h2, h3⟩; exact ⟨by omega, h2, h3⟩
      · rintro ⟨h1, h2, h3⟩
        by_cases e : x.1 = k
        · rw [e] at h2; exact absurd h h2
        · exact ⟨by omega, h2, h3⟩
    · rename_i h
      rw [List.mem_append, ih, List.mem_singleton]
      constructor
      · rintro (⟨h1, h2, h3⟩ | h1)
        · exact ⟨by omega, h2, h3⟩
        · subst h1; exact ⟨by simp, h, rfl⟩
      · rintro ⟨h1, h2, h3⟩
        by_cases e : x.1 = k
        · refine .inr ?_
          obtain ⟨p, q⟩ := x
          simp only at e h3
          subst e
          rw [h3]
        · exact .inl ⟨by omega, h2, h3⟩
end Pt
end Go.Proofs.Ytjnjemhnceejeaa
