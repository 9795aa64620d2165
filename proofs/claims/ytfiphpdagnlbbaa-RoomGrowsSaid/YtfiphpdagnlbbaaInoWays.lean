/-
  inode.To, inode.Most, inode.PerPage and the reference's compute the ways of Ino.
-/
import Derived.Test.YtfiphpdagnlbbaaRows
import Derived.Test.YtfiphpdagnlbbaaBase
import Derived.Test.YtfiphpdagnlbbaaInoMath
import Derived.StillTailTactics
namespace Go.Proofs.Ytfiphpdagnlbbaa
open Go.RowKit

theorem sized_no {n : Int} (h : ¬ Ino.Sized n) : (n == 64) = false ∧ (n == 128) = false ∧ (n == 256) = false ∧ (n == 512) = false := by
  unfold Ino.Sized at h
  refine ⟨?_, ?_, ?_, ?_⟩ <;> rw [beq_eq_false_iff_ne] <;> omega
theorem sized_calls (n : Int) (w : World) :
    Calls Try.prog 39 #[.int .i64 n] w fun e w' => e = .returned (.bool (decide (Ino.Sized n))) ∧ w = w' := by
  by_cases h : Ino.Sized n
  · rw [decide_eq_true h]
    rcases h with rfl | rfl | rfl | rfl
    all_goals
      go_enter Try.func39, Try.ntmps39
      go_wp2
      go_ret
      exact ⟨rfl, rfl⟩
  · rw [decide_eq_false h]
    obtain ⟨h1, h2, h3, h4⟩ := sized_no h
    go_enter Try.func39, Try.ntmps39
    go_wp2
    go_ret
    exact ⟨rfl, rfl⟩
theorem refSized_calls (n : Int) (w : World) :
    Calls Try.prog 26 #[.int .i64 n] w fun e w' => e = .returned (.bool (decide (Ino.Sized n))) ∧ w = w' := by
  by_cases h : Ino.Sized n
  · rw [decide_eq_true h]
    rcases h with rfl | rfl | rfl | rfl
    all_goals
      go_enter Try.func26, Try.ntmps26
      go_wp2
      go_ret
      exact ⟨rfl, rfl⟩
  · rw [decide_eq_false h]
    obtain ⟨h1, h2, h3, h4⟩ := sized_no h
    go_enter Try.func26, Try.ntmps26
    go_wp2
    go_ret
    exact ⟨rfl, rfl⟩
theorem pages_calls (s : Int) (h : Ino.Sized s) (w : World) :
    Calls Try.prog 40 #[.int .i64 s] w fun e w' => e = .returned (.int .i64 (Ino.pages s)) ∧ w = w' := by
  rcases h with rfl | rfl | rfl | rfl
  all_goals
    go_enter Try.func40, Try.ntmps40
    go_wp2
    go_ret
    exact ⟨rfl, rfl⟩
theorem refPages_calls (s : Int) (h : Ino.Sized s) (w : World) :
    Calls Try.prog 41 #[.int .i64 s] w fun e w' => e = .returned (.int .i64 (Ino.pages s)) ∧ w = w' := by
  rcases h with rfl | rfl | rfl | rfl
  all_goals
    go_enter Try.func41, Try.ntmps41
    go_wp2
    go_ret
    exact ⟨rfl, rfl⟩
def wayV (s n : Int) : Value := .tuple #[.agg #[.int .i64 (Ino.wayA s n), .int .i64 (Ino.wayB s n), .int .i64 (Ino.wayC s n)], .int .i64 (Ino.wayE s n)]
theorem wayV_arg (s n : Int) (h : ¬ Ino.Sized s) : wayV s n = .tuple #[.agg #[.int .i64 0, .int .i64 0, .int .i64 0], .int .i64 1] := by
  have he : Ino.wayE s n = 1 := by unfold Ino.wayE; rw [if_neg h]
  simp [wayV, Ino.wayA, Ino.wayB, Ino.wayC, he]
theorem wayV_idx (s n : Int) (h : Ino.Sized s) (hn : n < 0 ∨ Ino.pages s ≤ n) : wayV s n = .tuple #[.agg #[.int .i64 0, .int .i64 0, .int .i64 0], .int .i64 52] := by
  have he : Ino.wayE s n = 52 := by unfold Ino.wayE; rw [if_pos h, if_pos hn]
  simp [wayV, Ino.wayA, Ino.wayB, Ino.wayC, he]
theorem wayV_0 (s n : Int) (h : Ino.Sized s) (h0 : 0 ≤ n) (hp : n < Ino.pages s) (h6 : n < 6) : wayV s n = .tuple #[.agg #[.int .i64 0, .int .i64 n, .int .i64 0], .int .i64 0] := by
  have he := Ino.wayE_of h h0 hp
  simp [wayV, Ino.wayA, Ino.wayB, Ino.wayC, he, h6]
theorem wayV_1 (s n : Int) (h : Ino.Sized s) (h0 : 0 ≤ n) (hp : n < Ino.pages s) (h6 : ¬ n < 6) (hk : n < 6 + s / 2) : wayV s n = .tuple #[.agg #[.int .i64 1, .int .i64 (n - 6), .int .i64 0], .int .i64 0] := by
  have he := Ino.wayE_of h h0 hp
  simp [wayV, Ino.wayA, Ino.wayB, Ino.wayC, he, h6, hk]
theorem wayV_2 (s n : Int) (h : Ino.Sized s) (h0 : 0 ≤ n) (hp : n < Ino.pages s) (h6 : ¬ n < 6) (hk : ¬ n < 6 + s / 2) : wayV s n = .tuple #[.agg #[.int .i64 2, .int .i64 ((n - 6 - s / 2) / (s / 2)), .int .i64 ((n - 6 - s / 2) % (s / 2))], .int .i64 0] := by
  have he := Ino.wayE_of h h0 hp
  simp [wayV, Ino.wayA, Ino.wayB, Ino.wayC, he, h6, hk]

set_option maxHeartbeats 1000000 in
theorem to_calls (s n : Int) (w : World) (h1 : -9223372036854775808 ≤ n) (h2 : n ≤ 9223372036854775807) :
    Calls Try.prog 28 #[.int .i64 s, .int .i64 n] w fun e w' => e = .returned (wayV s n) ∧ Below w.heap.size w w' := by
  by_cases h : Ino.Sized s
  case neg =>
    have hd : decide (Ino.Sized s) = false := decide_eq_false h
    rw [wayV_arg s n h]
    clear h
    go_enter Try.func28, Try.ntmps28
    go_wp2_with fail
    refine (sized_calls s _).mono ?_
    rintro e w_ ⟨rfl, rfl⟩
    rw [hd]
    go_wp2
    refine bodyPost_ret (v := .tuple #[.agg #[.int .i64 0, .int .i64 0, .int .i64 0], .int .i64 1]) (by simp [results, Try.results28, go_sem]) rfl ⟨rfl, ?_⟩
    exact (Below.refl _ _).alloc (Nat.le_refl _) _
  have hd : decide (Ino.Sized s) = true := decide_eq_true h
  by_cases hn : n < 0
  · rw [wayV_idx s n h (.inl hn)]
    clear h
    go_enter Try.func28, Try.ntmps28
    go_wp2_with fail
    refine (sized_calls s _).mono ?_
    rintro e w_ ⟨rfl, rfl⟩
    rw [hd]
    go_wp2
    refine bodyPost_ret (v := .tuple #[.agg #[.int .i64 0, .int .i64 0, .int .i64 0], .int .i64 52]) (by simp [results, Try.results28, go_sem]) rfl ⟨rfl, ?_⟩
    exact (Below.refl _ _).alloc (Nat.le_refl _) _
  have hs1 : 64 ≤ s ∧ s ≤ 512 := by unfold Ino.Sized at h; omega
  obtain ⟨hs1, hs2⟩ := hs1
  have hP : Ino.pages s ≤ 65798 := by rcases h with rfl | rfl | rfl | rfl <;> decide
  have H := Lib.hid h
  by_cases hp : Ino.pages s ≤ n
  · rw [wayV_idx s n h (.inr hp)]
    clear h
    go_enter Try.func28, Try.ntmps28
    go_wp2_with fail
    refine (sized_calls s _).mono ?_
    rintro e w_ ⟨rfl, rfl⟩
    rw [hd]
    go_wp2_with fail
    refine (pages_calls s H.out _).mono ?_
    rintro e w_ ⟨rfl, rfl⟩
    go_wp2
    refine bodyPost_ret (v := .tuple #[.agg #[.int .i64 0, .int .i64 0, .int .i64 0], .int .i64 52]) (by simp [results, Try.results28, go_sem]) rfl ⟨rfl, ?_⟩
    exact (Below.refl _ _).alloc (Nat.le_refl _) _
  have hp0 : n < Ino.pages s := by omega
  by_cases h6 : n < 6
  · rw [wayV_0 s n h (by omega) hp0 h6]
    clear h
    go_enter Try.func28, Try.ntmps28
    go_wp2_with fail
    refine (sized_calls s _).mono ?_
    rintro e w_ ⟨rfl, rfl⟩
    rw [hd]
    go_wp2_with fail
    refine (pages_calls s H.out _).mono ?_
    rintro e w_ ⟨rfl, rfl⟩
    go_wp2
    refine bodyPost_ret (v := .tuple #[.agg #[.int .i64 0, .int .i64 n, .int .i64 0], .int .i64 0]) (by simp [results, Try.results28, go_sem]) rfl ⟨rfl, ?_⟩
    exact (Below.refl _ _).alloc (Nat.le_refl _) _
  have h60 : 6 ≤ n := by omega
  by_cases hk : n < 6 + s / 2
  · rw [wayV_1 s n h (by omega) hp0 h6 hk]
    clear h
    have hk2 : n - 6 < s / 2 := by omega
    go_enter Try.func28, Try.ntmps28
    go_wp2_with fail
    refine (sized_calls s _).mono ?_
    rintro e w_ ⟨rfl, rfl⟩
    rw [hd]
    go_wp2_with fail
    refine (pages_calls s H.out _).mono ?_
    rintro e w_ ⟨rfl, rfl⟩
    go_wp2
    refine bodyPost_ret (v := .tuple #[.agg #[.int .i64 1, .int .i64 (n - 6), .int .i64 0], .int .i64 0]) (by simp [results, Try.results28, go_sem]) rfl ⟨rfl, ?_⟩
    exact (Below.refl _ _).alloc (Nat.le_refl _) _
  · rw [wayV_2 s n h (by omega) hp0 h6 hk]
    clear h
    have hk0 : 6 + s / 2 ≤ n := by omega
    have hk2 : s / 2 ≤ n - 6 := by omega
    have hk3 : 1 ≤ s / 2 := by omega
    have hk4 : 0 ≤ n - 6 - s / 2 := by omega
    go_enter Try.func28, Try.ntmps28
    go_wp2_with fail
    refine (sized_calls s _).mono ?_
    rintro e w_ ⟨rfl, rfl⟩
    rw [hd]
    go_wp2_with fail
    refine (pages_calls s H.out _).mono ?_
    rintro e w_ ⟨rfl, rfl⟩
    go_wp2
    obtain ⟨m, hm⟩ : ∃ m, m = n - 6 - s / 2 := ⟨_, rfl⟩
    obtain ⟨k, hkk⟩ : ∃ k, k = s / 2 := ⟨_, rfl⟩
    have d1 := Int.ediv_nonneg (a := m) (b := k) (by omega) (by omega)
    have d2 : m / k ≤ m := Int.ediv_le_self _ (by omega)
    have d3 := Int.emod_nonneg m (show k ≠ 0 by omega)
    have d4 := Int.emod_lt_of_pos m (show 0 < k by omega)
    have d5 : k * (m / k) + m % k = m := Int.mul_ediv_add_emod m k
    have q2 : m.tdiv k = m / k := Int.tdiv_eq_ediv_of_nonneg (by omega)
    have q3 := IntWalk.i64_in (m / k) ⟨by omega, by omega⟩
    have q0 : (k == 0) = false := by rw [beq_eq_false_iff_ne]; omega
    have q6 : k ≠ 0 := by omega
    have q1 := IntWalk.i64_in (n - 6 - k) ⟨by omega, by omega⟩
    have q4 : m.tmod k = m % k := Int.tmod_eq_emod_of_nonneg (by omega)
    have q7 : n - 6 - k = m := by omega
    rw [q7] at q1
    rw [← hkk]
    have HM := Lib.hid hm
    have HKK := Lib.hid hkk
    clear hm hkk d5
    go_still_tail 11, (by kernel_rfl)
    clear q2 q3 q4 q7 q0 q6 q1
    change wpList _ _ _ _ _ ((w.alloc (.cells #[.int .i64 0, .int .i64 0, .int .i64 0] 50)).drew)
    go_wp2
    refine bodyPost_ret (v := .tuple #[.agg #[.int .i64 2, .int .i64 (m / k), .int .i64 (m % k)], .int .i64 0]) (by simp [results, Try.results28, go_sem]) rfl ⟨by rw [HM.out, HKK.out], ?_⟩
    exact ((Below.refl _ _).alloc (Nat.le_refl _) _).drew
set_option maxHeartbeats 1000000 in
theorem refTo_calls (s n : Int) (w : World) (h1 : -9223372036854775808 ≤ n) (h2 : n ≤ 9223372036854775807) :
    Calls Try.prog 29 #[.int .i64 s, .int .i64 n] w fun e w' => e = .returned (wayV s n) ∧ Below w.heap.size w w' := by
  by_cases h : Ino.Sized s
  case neg =>
    have hd : decide (Ino.Sized s) = false := decide_eq_false h
    rw [wayV_arg s n h]
    clear h
    go_enter Try.func29, Try.ntmps29
    go_wp2_with fail
    refine (refSized_calls s _).mono ?_
    rintro e w_ ⟨rfl, rfl⟩
    rw [hd]
    go_wp2
    refine bodyPost_ret (v := .tuple #[.agg #[.int .i64 0, .int .i64 0, .int .i64 0], .int .i64 1]) (by simp [results, Try.results29, go_sem]) rfl ⟨rfl, ?_⟩
    exact (Below.refl _ _).alloc (Nat.le_refl _) _
  have hd : decide (Ino.Sized s) = true := decide_eq_true h
  by_cases hn : n < 0
  · rw [wayV_idx s n h (.inl hn)]
    clear h
    go_enter Try.func29, Try.ntmps29
    go_wp2_with fail
    refine (refSized_calls s _).mono ?_
    rintro e w_ ⟨rfl, rfl⟩
    rw [hd]
    go_wp2
    refine bodyPost_ret (v := .tuple #[.agg #[.int .i64 0, .int .i64 0, .int .i64 0], .int .i64 52]) (by simp [results, Try.results29, go_sem]) rfl ⟨rfl, ?_⟩
    exact (Below.refl _ _).alloc (Nat.le_refl _) _
  have hs1 : 64 ≤ s ∧ s ≤ 512 := by unfold Ino.Sized at h; omega
  obtain ⟨hs1, hs2⟩ := hs1
  have hP : Ino.pages s ≤ 65798 := by rcases h with rfl | rfl | rfl | rfl <;> decide
  have H := Lib.hid h
  by_cases hp : Ino.pages s ≤ n
  · rw [wayV_idx s n h (.inr hp)]
    clear h
    go_enter Try.func29, Try.ntmps29
    go_wp2_with fail
    refine (refSized_calls s _).mono ?_
    rintro e w_ ⟨rfl, rfl⟩
    rw [hd]
    go_wp2_with fail
    refine (refPages_calls s H.out _).mono ?_
    rintro e w_ ⟨rfl, rfl⟩
    go_wp2
    refine bodyPost_ret (v := .tuple #[.agg #[.int .i64 0, .int .i64 0, .int .i64 0], .int .i64 52]) (by simp [results, Try.results29, go_sem]) rfl ⟨rfl, ?_⟩
    exact (Below.refl _ _).alloc (Nat.le_refl _) _
  have hp0 : n < Ino.pages s := by omega
  by_cases h6 : n < 6
  · rw [wayV_0 s n h (by omega) hp0 h6]
    clear h
    go_enter Try.func29, Try.ntmps29
    go_wp2_with fail
    refine (refSized_calls s _).mono ?_
    rintro e w_ ⟨rfl, rfl⟩
    rw [hd]
    go_wp2_with fail
    refine (refPages_calls s H.out _).mono ?_
    rintro e w_ ⟨rfl, rfl⟩
    go_wp2
    refine bodyPost_ret (v := .tuple #[.agg #[.int .i64 0, .int .i64 n, .int .i64 0], .int .i64 0]) (by simp [results, Try.results29, go_sem]) rfl ⟨rfl, ?_⟩
    exact (Below.refl _ _).alloc (Nat.le_refl _) _
  have h60 : 6 ≤ n := by omega
  by_cases hk : n < 6 + s / 2
  · rw [wayV_1 s n h (by omega) hp0 h6 hk]
    clear h
    have hk2 : n - 6 < s / 2 := by omega
    go_enter Try.func29, Try.ntmps29
    go_wp2_with fail
    refine (refSized_calls s _).mono ?_
    rintro e w_ ⟨rfl, rfl⟩
    rw [hd]
    go_wp2_with fail
    refine (refPages_calls s H.out _).mono ?_
    rintro e w_ ⟨rfl, rfl⟩
    go_wp2
    refine bodyPost_ret (v := .tuple #[.agg #[.int .i64 1, .int .i64 (n - 6), .int .i64 0], .int .i64 0]) (by simp [results, Try.results29, go_sem]) rfl ⟨rfl, ?_⟩
    exact (Below.refl _ _).alloc (Nat.le_refl _) _
  · rw [wayV_2 s n h (by omega) hp0 h6 hk]
    clear h
    have hk0 : 6 + s / 2 ≤ n := by omega
    have hk2 : s / 2 ≤ n - 6 := by omega
    have hk3 : 1 ≤ s / 2 := by omega
    have hk4 : 0 ≤ n - 6 - s / 2 := by omega
    go_enter Try.func29, Try.ntmps29
    go_wp2_with fail
    refine (refSized_calls s _).mono ?_
    rintro e w_ ⟨rfl, rfl⟩
    rw [hd]
    go_wp2_with fail
    refine (refPages_calls s H.out _).mono ?_
    rintro e w_ ⟨rfl, rfl⟩
    go_wp2
    obtain ⟨m, hm⟩ : ∃ m, m = n - 6 - s / 2 := ⟨_, rfl⟩
    obtain ⟨k, hkk⟩ : ∃ k, k = s / 2 := ⟨_, rfl⟩
    have d1 := Int.ediv_nonneg (a := m) (b := k) (by omega) (by omega)
    have d2 : m / k ≤ m := Int.ediv_le_self _ (by omega)
    have d3 := Int.emod_nonneg m (show k ≠ 0 by omega)
    have d4 := Int.emod_lt_of_pos m (show 0 < k by omega)
    have d5 : k * (m / k) + m % k = m := Int.mul_ediv_add_emod m k
    have q2 : m.tdiv k = m / k := Int.tdiv_eq_ediv_of_nonneg (by omega)
    have q3 := IntWalk.i64_in (m / k) ⟨by omega, by omega⟩
    have q0 : (k == 0) = false := by rw [beq_eq_false_iff_ne]; omega
    have q6 : k ≠ 0 := by omega
    have q4 := IntWalk.i64_in (m / k * k) ⟨by rw [Int.mul_comm]; omega, by rw [Int.mul_comm]; omega⟩
    have q7 : m - m / k * k = m % k := by rw [Int.mul_comm]; omega
    have q5 := IntWalk.i64_in (m % k) ⟨by omega, by omega⟩
    rw [← hm, ← hkk]
    have HM := Lib.hid hm
    have HKK := Lib.hid hkk
    clear hm hkk d5
    go_still_tail 11, (by kernel_rfl)
    clear q2 q3 q4 q7 q0 q6 q5
    change wpList _ _ _ _ _ ((w.alloc (.cells #[.int .i64 0, .int .i64 0, .int .i64 0] 53)).drew)
    go_wp2
    refine bodyPost_ret (v := .tuple #[.agg #[.int .i64 2, .int .i64 (m / k), .int .i64 (m % k)], .int .i64 0]) (by simp [results, Try.results29, go_sem]) rfl ⟨by rw [HM.out, HKK.out], ?_⟩
    exact ((Below.refl _ _).alloc (Nat.le_refl _) _).drew
end Go.Proofs.Ytfiphpdagnlbbaa
