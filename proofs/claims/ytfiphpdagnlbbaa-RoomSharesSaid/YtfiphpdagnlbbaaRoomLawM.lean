/-
  Plain laws of room: directories with more slots, plans with more room, files with more pages.
-/
import Derived.Test.YtfiphpdagnlbbaaRoomPlan
import Derived.Test.YtfiphpdagnlbbaaRoomDir
namespace Go.Proofs.Ytfiphpdagnlbbaa
namespace Room

theorem dir_err {s n : Int} (hn : 0 ≤ n) : (dir s n).2 = 0 ∧ (∃ k : Nat, k = dirN s n ∧ (dir s n).1 = ((k + nd (kl s (upto k)) : Nat) : Int) ∧ allOk s (upto k) = true) ∧ Ino.Sized s ∨ ((dir s n).2 ≠ 0 ∧ (dir s n).1 = 0 ∧ (¬ Ino.Sized s ∨ (Ino.Sized s ∧ Ino.most s / 16 < n) ∨ (Ino.Sized s ∧ allOk s (upto (dirN s n)) = false))) := by
  by_cases hs : Ino.Sized s
  · by_cases h1 : Ino.most s / 16 < n
    · right
      rw [dir_idx hs hn h1]
      exact ⟨by decide, rfl, .inr (.inl ⟨hs, h1⟩)⟩
    · rw [dir_ok hs hn h1]
      unfold file
      rw [if_neg (by rintro (a | a); exact a hs; exact a (upto_inc _))]
      cases h : allOk s (upto (dirN s n))
      · right
        rw [if_neg (by decide)]
        exact ⟨by decide, rfl, .inr (.inr ⟨hs, rfl⟩)⟩
      · left
        rw [if_pos rfl]
        exact ⟨rfl, ⟨_, rfl, by unfold fileN; rw [upto_len], h⟩, hs⟩
  · right
    rw [dir_arg (.inl hs)]
    exact ⟨by decide, rfl, .inl hs⟩
theorem dirN_mono {s n m : Int} (h : Ino.Sized s) (_hn : 0 ≤ n) (hm : n ≤ m) : dirN s n ≤ dirN s m := by
  unfold dirN
  rcases h with rfl | rfl | rfl | rfl <;> omega
theorem upto_sub {k m : Nat} (h : k ≤ m) : ∀ x ∈ upto k, x ∈ upto m := fun x hx => by
  rw [upto_mem] at hx ⊢
  omega
theorem allOk_sub {s : Int} {l m : List Int} (h : ∀ x ∈ l, x ∈ m) (hm : allOk s m = true) : allOk s l = true := by
  rw [allOk_iff] at hm ⊢
  exact fun n hn => hm n (h n hn)
theorem kl_sub {s : Int} {l m : List Int} (h : ∀ x ∈ l, x ∈ m) : ∀ x ∈ kl s l, x ∈ kl s m := fun x hx => by
  rw [mem_kl] at hx ⊢
  obtain ⟨n, hn, hk⟩ := hx
  exact ⟨n, h n hn, hk⟩
theorem dirN_need {s n : Int} (h : Ino.Sized s) (_hn : 0 ≤ n) : 16 * n ≤ (dirN s n : Int) * s := by
  unfold dirN
  rcases h with rfl | rfl | rfl | rfl <;> omega
theorem kl_len (s : Int) (l : List Int) : nd (kl s l) ≤ 2 * l.length := by
  have h1 : ∀ L : List (Int × Int), nd L ≤ L.length := fun L => by
    induction L with
    | nil => exact Nat.le_refl _
    | cons x t ih => unfold nd; split <;> simp <;> omega
  have h2 : (kl s l).length ≤ 2 * l.length := by
    induction l with
    | nil => simp [kl]
    | cons x t ih =>
      have h3 := keys_len s x
      have h4 : kl s (x :: t) = keys s x ++ kl s t := by simp [kl]
      rw [h4, List.length_append, List.length_cons]
      omega
  exact Nat.le_trans (h1 _) h2
/-- What RoomDirs says. -/
theorem dirs_law {s n m : Int} (hn : 0 ≤ n) (hm : 0 ≤ m) (h3 : n ≤ 3000) (_h4 : m ≤ 3000) :
    ((dir s n).2 ≠ 0 → (dir s (n + m)).2 ≠ 0) ∧ ((dir s n).2 = 0 → (dir s (n + m)).2 = 0 → (dir s n).1 ≤ (dir s (n + m)).1 ∧ 16 * n ≤ (dir s n).1 * s ∧ 0 ≤ (dir s n).1 * s ∧ (dir s n).1 * s ≤ 10000000) := by
  constructor
  · intro h
    rcases dir_err (s := s) hn with ⟨h0, _⟩ | ⟨_, _, h1⟩
    · exact absurd h0 h
    rcases dir_err (s := s) (n := n + m) (by omega) with ⟨h10, ⟨k, rfl, _, h2⟩, hs⟩ | ⟨h0, _⟩
    · exfalso
      rcases h1 with h1 | ⟨_, h1⟩ | ⟨_, h1⟩
      · exact h1 hs
      · by_cases h9 : Ino.most s / 16 < n + m
        · rw [dir_idx hs (by omega) h9] at h10
          exact absurd h10 (by decide)
        · omega
      · have := allOk_sub (s := s) (upto_sub (dirN_mono hs hn (m := n + m) (by omega))) h2
        rw [h1] at this
        exact absurd this (by decide)
    · exact h0
  · intro h h'
    rcases dir_err (s := s) hn with ⟨_, ⟨k, rfl, h1, _⟩, hs⟩ | ⟨h0, _⟩
    · rcases dir_err (s := s) (n := n + m) (by omega) with ⟨_, ⟨k, rfl, h2, _⟩, _⟩ | ⟨h0, _⟩
      · rw [h1, h2]
        have a1 := dirN_mono hs hn (m := n + m) (by omega)
        have a2 := nd_mono (kl_sub (s := s) (upto_sub a1))
        have a3 := dirN_need hs hn
        have a4 := dirN_le hs hn (by omega)
        have a5 := kl_len s (upto (dirN s n))
        rw [upto_len] at a5
        refine ⟨by omega, ?_, ?_, ?_⟩
        · generalize dirN s n = k at *
          generalize nd (kl s (upto k)) = q at *
          rcases hs with rfl | rfl | rfl | rfl <;> omega
        · generalize nd (kl s (upto (dirN s n))) = q at *
          generalize dirN s n = k at *
          rcases hs with rfl | rfl | rfl | rfl <;> omega
        · generalize nd (kl s (upto (dirN s n))) = q at *
          generalize dirN s n = k at *
          rcases hs with rfl | rfl | rfl | rfl <;> omega
      · exact absurd h' h0
    · exact absurd h h0
theorem plan_err {s c : Int} : (plan s c).2 = 0 ∧ (Ino.Sized s ∧ 0 ≤ c ∧ c ≤ 8192 ∧ ¬ c - 64 - table c < 16) ∧ plan s c = ((table c, table c + 1, c - 64 - table c, table c * Ino.perPage s), 0) ∨ ((plan s c).2 ≠ 0 ∧ (plan s c).1 = (0, 0, 0, 0)) := by
  by_cases h1 : ¬ Ino.Sized s ∨ c < 0 ∨ 8192 < c
  · right
    rw [plan_arg h1]
    exact ⟨by decide, rfl⟩
  have hs : Ino.Sized s := Classical.byContradiction fun h => h1 (.inl h)
  by_cases h2 : c - 64 - table c < 16
  · right
    rw [plan_full hs (by omega) (by omega) h2]
    exact ⟨by decide, rfl⟩
  · left
    rw [plan_ok hs (by omega) (by omega) h2]
    exact ⟨rfl, ⟨hs, by omega, by omega, h2⟩, rfl⟩
theorem table_mono {c d : Int} (h : c ≤ d) (hc : 80 ≤ c) : table c ≤ table d ∧ c - table c ≤ d - table d := by
  unfold table
  split <;> split <;> constructor <;> omega
end Room
end Go.Proofs.Ytfiphpdagnlbbaa
