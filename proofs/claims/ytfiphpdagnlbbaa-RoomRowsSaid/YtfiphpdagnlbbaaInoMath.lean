/-
  Ways to a file's pages, in plain mathematics. No program in sight.
-/
import Derived.WalkKit
namespace Go.Proofs.Ytfiphpdagnlbbaa.Ino

/-- A page may have so many bytes. -/
def Sized (n : Int) : Prop := n = 64 ∨ n = 128 ∨ n = 256 ∨ n = 512
instance (n : Int) : Decidable (Sized n) := by unfold Sized; exact inferInstance
def pages (s : Int) : Int := 6 + s / 2 + s / 2 * (s / 2)
def most (s : Int) : Int := if Sized s then (if pages s * s > 2147483647 then 2147483647 else pages s * s) else 0
def perPage (s : Int) : Int := if Sized s then s / 24 else 0
/-- The error that asking for the way to page n gives. -/
def wayE (s n : Int) : Int := if Sized s then (if n < 0 ∨ pages s ≤ n then 52 else 0) else 1
/-- The way: its level, the first and the second step. -/
def wayA (s n : Int) : Int := if wayE s n ≠ 0 then 0 else if n < 6 then 0 else if n < 6 + s / 2 then 1 else 2
def wayB (s n : Int) : Int := if wayE s n ≠ 0 then 0 else if n < 6 then n else if n < 6 + s / 2 then n - 6 else (n - 6 - s / 2) / (s / 2)
def wayC (s n : Int) : Int := if wayE s n ≠ 0 then 0 else if n < 6 then 0 else if n < 6 + s / 2 then 0 else (n - 6 - s / 2) % (s / 2)
theorem pages_64 : pages 64 = 1062 := rfl
theorem pages_128 : pages 128 = 4166 := rfl
theorem pages_256 : pages 256 = 16518 := rfl
theorem pages_512 : pages 512 = 65798 := rfl
theorem wayE_ok {s n : Int} (h : wayE s n = 0) : Sized s ∧ 0 ≤ n ∧ n < pages s := by
  unfold wayE at h
  by_cases hs : Sized s
  · rw [if_pos hs] at h
    by_cases hn : n < 0 ∨ pages s ≤ n
    · rw [if_pos hn] at h; cases h
    · exact ⟨hs, by omega, by omega⟩
  · rw [if_neg hs] at h; cases h
theorem wayE_of {s n : Int} (hs : Sized s) (h0 : 0 ≤ n) (h1 : n < pages s) : wayE s n = 0 := by
  unfold wayE; rw [if_pos hs, if_neg (by omega)]
theorem way_forms {s n : Int} (h : wayE s n = 0) :
    (wayA s n = 0 ∧ wayB s n = n ∧ wayC s n = 0 ∧ n < 6) ∨ (wayA s n = 1 ∧ wayB s n = n - 6 ∧ wayC s n = 0 ∧ 6 ≤ n ∧ n < 6 + s / 2) ∨
    (wayA s n = 2 ∧ wayB s n = (n - 6 - s / 2) / (s / 2) ∧ wayC s n = (n - 6 - s / 2) % (s / 2) ∧ 6 + s / 2 ≤ n) := by
  obtain ⟨hs, h0, h1⟩ := wayE_ok h
  by_cases h6 : n < 6
  · exact .inl ⟨by simp [wayA, h, h6], by simp [wayB, h, h6], by simp [wayC, h, h6], h6⟩
  by_cases hk : n < 6 + s / 2
  · exact .inr (.inl ⟨by simp [wayA, h, h6, hk], by simp [wayB, h, h6, hk], by simp [wayC, h, h6, hk], by omega, hk⟩)
  · exact .inr (.inr ⟨by simp [wayA, h, h6, hk], by simp [wayB, h, h6, hk], by simp [wayC, h, h6, hk], by omega⟩)
theorem half {s : Int} (h : Sized s) : 32 ≤ s / 2 ∧ s / 2 ≤ 256 ∧ 0 ≤ s / 2 * (s / 2) ∧ s / 2 * (s / 2) ≤ 65536 ∧ pages s = 6 + s / 2 + s / 2 * (s / 2) := by
  rcases h with rfl | rfl | rfl | rfl <;> decide
theorem way_unlike {s n m : Int} (h : wayE s n = 0) (h' : wayE s m = 0) (hne : n ≠ m) : wayA s n ≠ wayA s m ∨ (wayA s n = wayA s m ∧ wayB s n ≠ wayB s m) ∨ (wayA s n = wayA s m ∧ wayB s n = wayB s m ∧ wayC s n ≠ wayC s m) := by
  have hk := half (wayE_ok h).1
  have d1 := Int.mul_ediv_add_emod (n - 6 - s / 2) (s / 2)
  have d2 := Int.mul_ediv_add_emod (m - 6 - s / 2) (s / 2)
  have c1 := way_forms h
  have c2 := way_forms h'
  by_cases ha : wayA s n = wayA s m
  · by_cases hb : wayB s n = wayB s m
    · refine .inr (.inr ⟨ha, hb, fun hc => hne ?_⟩)
      rcases c1 with c1 | c1 | c1 <;> rcases c2 with c2 | c2 | c2 <;> try omega
      obtain ⟨_, b1, e1, _⟩ := c1
      obtain ⟨_, b2, e2, _⟩ := c2
      rw [← b1, ← e1, hb, hc] at d1
      rw [← b2, ← e2] at d2
      omega
    · exact .inr (.inl ⟨ha, hb⟩)
  · exact .inl ha
theorem way_bound {s n : Int} (h : wayE s n = 0) : 0 ≤ wayB s n ∧ wayB s n ≤ 70000 ∧ 0 ≤ wayC s n ∧ wayC s n ≤ 70000 := by
  obtain ⟨hs, h0, h1⟩ := wayE_ok h
  have hk := half hs
  rcases way_forms h with c | c | c
  · omega
  · omega
  · obtain ⟨_, b, e, _⟩ := c
    have e1 := Int.ediv_nonneg (a := n - 6 - s / 2) (b := s / 2) (by omega) (by omega)
    have e2 : (n - 6 - s / 2) / (s / 2) ≤ (n - 6 - s / 2) := Int.ediv_le_self _ (by omega)
    have e3 := Int.emod_nonneg (n - 6 - s / 2) (show s / 2 ≠ 0 by omega)
    have e4 := Int.emod_lt_of_pos (n - 6 - s / 2) (show 0 < s / 2 by omega)
    omega
theorem way_next {s n : Int} (h : wayE s n = 0) (h' : wayE s (n + 1) = 0) :
    (wayA s n = 0 ∧ wayA s (n + 1) = 0 ∧ wayB s (n + 1) = wayB s n + 1 ∧ wayC s (n + 1) = 0) ∨
    (wayA s n = 0 ∧ wayB s n = 5 ∧ wayA s (n + 1) = 1 ∧ wayB s (n + 1) = 0 ∧ wayC s (n + 1) = 0) ∨
    (wayA s n = 1 ∧ wayA s (n + 1) = 1 ∧ wayB s (n + 1) = wayB s n + 1 ∧ wayC s (n + 1) = 0) ∨
    (wayA s n = 1 ∧ wayB s n = s / 2 - 1 ∧ wayA s (n + 1) = 2 ∧ wayB s (n + 1) = 0 ∧ wayC s (n + 1) = 0) ∨
    (wayA s n = 2 ∧ wayA s (n + 1) = 2 ∧ wayB s (n + 1) = wayB s n ∧ wayC s (n + 1) = wayC s n + 1) ∨
    (wayA s n = 2 ∧ wayC s n = s / 2 - 1 ∧ wayA s (n + 1) = 2 ∧ wayB s (n + 1) = wayB s n + 1 ∧ wayC s (n + 1) = 0) := by
  obtain ⟨hs, h0, h1⟩ := wayE_ok h
  have hk := half hs
  have c1 := way_forms h
  have c2 := way_forms h'
  rcases c1 with c1 | c1 | c1 <;> rcases c2 with c2 | c2 | c2
  · exact .inl ⟨by omega, by omega, by omega, by omega⟩
  · exact .inr (.inl ⟨by omega, by omega, by omega, by omega, by omega⟩)
  · exfalso; omega
  · exfalso; omega
  · exact .inr (.inr (.inl ⟨by omega, by omega, by omega, by omega⟩))
  · have z1 : n + 1 - 6 - s / 2 = 0 := by omega
    obtain ⟨a2, b2, e2, _⟩ := c2
    rw [z1] at b2 e2
    rw [Int.zero_ediv] at b2
    rw [Int.zero_emod] at e2
    exact .inr (.inr (.inr (.inl ⟨by omega, by omega, by omega, by omega, by omega⟩)))
  · exfalso; omega
  · exfalso; omega
  · obtain ⟨a1, b1, e1, _⟩ := c1
    obtain ⟨a2, b2, e2, _⟩ := c2
    generalize hk : s / 2 = k at *
    have z1 : n + 1 - 6 - k = (n - 6 - k) + 1 := by omega
    have f1 := Int.mul_ediv_add_emod (n - 6 - k) k
    have f3 := Int.emod_nonneg (n - 6 - k) (show k ≠ 0 by omega)
    have f4 := Int.emod_lt_of_pos (n - 6 - k) (show 0 < k by omega)
    rw [z1] at b2 e2
    rw [← b1, ← e1] at f1
    rw [← e1] at f3 f4
    by_cases hl : wayC s n + 1 = k
    · refine .inr (.inr (.inr (.inr (.inr ⟨a1, by omega, a2, ?_, ?_⟩))))
      · have : n - 6 - k + 1 = k * (wayB s n + 1) := by rw [Int.mul_add, Int.mul_one]; omega
        rw [b2, this, Int.mul_ediv_cancel_left _ (by omega)]
      · have : n - 6 - k + 1 = k * (wayB s n + 1) := by rw [Int.mul_add, Int.mul_one]; omega
        rw [e2, this, Int.mul_emod_right]
    · refine .inr (.inr (.inr (.inr (.inl ⟨a1, a2, ?_, ?_⟩))))
      · have : n - 6 - k + 1 = (wayC s n + 1) + k * wayB s n := by omega
        rw [b2, this, Int.add_mul_ediv_left _ _ (by omega), Int.ediv_eq_zero_of_lt (by omega) (by omega), Int.zero_add]
      · have : n - 6 - k + 1 = (wayC s n + 1) + k * wayB s n := by omega
        rw [e2, this, Int.add_mul_emod_self_left, Int.emod_eq_of_lt (by omega) (by omega)]
theorem way_last {s n : Int} (h : wayE s n = 0) (h' : wayE s (n + 1) ≠ 0) : n + 1 = 6 + s / 2 + s / 2 * (s / 2) := by
  obtain ⟨hs, h0, h1⟩ := wayE_ok h
  have hk := half hs
  by_cases hp : n + 1 < pages s
  · exact absurd (wayE_of hs (by omega) hp) h'
  · omega
end Go.Proofs.Ytfiphpdagnlbbaa.Ino
