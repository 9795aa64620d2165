/-
  room.Plan.
-/
import Derived.Test.YtfiphpdagnlbbaaRoomPlan
import Derived.Deep.RegionWith
namespace Go.Proofs.Ytfiphpdagnlbbaa
open Go.RowKit

theorem tdiv16 {x : Int} (h : x < 0) : Int.tdiv x 16 ≤ 0 := by
  have : Int.tdiv x 16 = - Int.tdiv (-x) 16 := by rw [Int.neg_tdiv, Int.neg_neg]
  rw [this, Int.tdiv_eq_ediv_of_nonneg (by omega)]
  omega
set_option maxHeartbeats 4000000 in
theorem plan_calls (s c : Int) (w : World) (hc : -9223372036854775808 ≤ c ∧ c ≤ 9223372036854775807) :
    Calls Try.prog 9 #[.int .i64 s, .int .i64 c] w (PlanR (Room.plan s c) w) := by
  obtain ⟨hc0, hc9⟩ := hc
  by_cases hs : Ino.Sized s
  case neg =>
    rw [Room.plan_arg (.inl hs)]
    have hp := per_zero hs
    clear hs
    go_enter Try.func9, Try.ntmps9
    go_wp2_with fail
    refine (perPage_calls _ _).mono ?_
    rintro e w_ ⟨rfl, rfl⟩
    rw [hp]
    go_wp2
    refine bodyPost_ret (v := .tuple #[.agg #[.int .i64 0, .int .i64 0, .int .i64 0, .int .i64 0], .int .i64 1]) (by simp [results, Try.results9, go_sem]) rfl ⟨rfl, ?_⟩
    exact (Below.refl _ _).alloc (Nat.le_refl _) _
  obtain ⟨p2, p21, _⟩ := per_b hs
  have hp : (Ino.perPage s == 0) = false := by rw [beq_eq_false_iff_ne]; omega
  by_cases h0 : c < 0
  · rw [Room.plan_arg (.inr (.inl h0))]
    have g0 : decide (c < 0) = true := decide_eq_true h0
    clear hs
    go_enter Try.func9, Try.ntmps9
    go_wp2_with fail
    refine (perPage_calls _ _).mono ?_
    rintro e w_ ⟨rfl, rfl⟩
    generalize Ino.perPage s = p at *
    go_wp2
    refine bodyPost_ret (v := .tuple #[.agg #[.int .i64 0, .int .i64 0, .int .i64 0, .int .i64 0], .int .i64 1]) (by simp [results, Try.results9, go_sem]) rfl ⟨rfl, ?_⟩
    exact (Below.refl _ _).alloc (Nat.le_refl _) _
  have g0 : decide (c < 0) = false := decide_eq_false h0
  by_cases h1 : 8192 < c
  · rw [Room.plan_arg (.inr (.inr h1))]
    have g1 : decide (8192 < c) = true := decide_eq_true h1
    clear hs
    go_enter Try.func9, Try.ntmps9
    go_wp2_with fail
    refine (perPage_calls _ _).mono ?_
    rintro e w_ ⟨rfl, rfl⟩
    generalize Ino.perPage s = p at *
    go_wp2
    refine bodyPost_ret (v := .tuple #[.agg #[.int .i64 0, .int .i64 0, .int .i64 0, .int .i64 0], .int .i64 1]) (by simp [results, Try.results9, go_sem]) rfl ⟨rfl, ?_⟩
    exact (Below.refl _ _).alloc (Nat.le_refl _) _
  have g1 : decide (8192 < c) = false := decide_eq_false h1
  obtain ⟨t2, t5⟩ := Room.table_b (c := c) (by omega) (by omega)
  obtain ⟨m0, m1⟩ := mul_b t2 t5 p2 p21
  obtain ⟨r, hr⟩ : ∃ r, r = Room.plan s c := ⟨_, rfl⟩
  rw [← hr]
  have HFull := Lib.hid (fun h => hr.trans (Room.plan_full hs (by omega) (by omega) h))
  have HOk := Lib.hid (fun h => hr.trans (Room.plan_ok hs (by omega) (by omega) h))
  have hT : Room.table c = if 64 < c ∧ 2 < (c - 64) / 16 then (c - 64) / 16 else 2 := rfl
  have HPC := Lib.hid (perPage_calls s)
  clear hs hr
  have hM1 : 64 ≤ c → max 2 ((c - 64) / 16) = Room.table c := fun h => by rw [hT]; split <;> omega
  have hM2 : c < 64 → max 2 (Int.tdiv (c - 64) 16) = Room.table c := fun h => by
    have := tdiv16 (x := c - 64) (by omega)
    rw [hT]; split <;> omega
  clear hT
  generalize Ino.perPage s = p at *
  generalize Room.table c = T at *
  have HM1 := Lib.hid hM1
  have HM2 := Lib.hid hM2
  clear hM1 hM2
  have q3 : IntKind.i64.wrap (T * p) = T * p := IntWalk.i64_in _ ⟨by omega, by omega⟩
  have q4 : min (T * p) 65535 = T * p := by omega
  by_cases hF : c - 64 - T < 16
  · have HR := Lib.hid (HFull.out hF)
    have g4 : decide (c - 64 - T < 16) = true := decide_eq_true hF
    clear hF HFull HOk
    by_cases hA1 : 64 ≤ c
    · have hm := HM1.out hA1
      clear HM1 HM2
      go_enter Try.func9, Try.ntmps9
      go_wp2_with fail
      refine (HPC.out _).mono ?_
      rintro e w_ ⟨rfl, rfl⟩
      go_wp2
      go_region_with (go_at_call 25; refine (HPC.out _).mono ?_; rintro e w_ ⟨rfl, rfl⟩)
      all_goals
        go_wp2
        refine bodyPost_ret (v := .tuple #[.agg #[.int .i64 0, .int .i64 0, .int .i64 0, .int .i64 0], .int .i64 40]) (by simp [results, Try.results9, go_sem]) rfl ⟨by rw [HR.out]; rfl, ?_⟩
        repeat (first | (with_reducible exact Below.refl _ _) | ((with_reducible refine Below.drew ?_)) | ((with_reducible refine Below.setCell ?_ (by simp) _)) | ((with_reducible refine Below.alloc ?_ (by simp) _)))
    · have hm := HM2.out (by omega)
      clear HM1 HM2
      go_enter Try.func9, Try.ntmps9
      go_wp2_with fail
      refine (HPC.out _).mono ?_
      rintro e w_ ⟨rfl, rfl⟩
      go_wp2
      go_region_with (go_at_call 25; refine (HPC.out _).mono ?_; rintro e w_ ⟨rfl, rfl⟩)
      all_goals
        go_wp2
        refine bodyPost_ret (v := .tuple #[.agg #[.int .i64 0, .int .i64 0, .int .i64 0, .int .i64 0], .int .i64 40]) (by simp [results, Try.results9, go_sem]) rfl ⟨by rw [HR.out]; rfl, ?_⟩
        repeat (first | (with_reducible exact Below.refl _ _) | ((with_reducible refine Below.drew ?_)) | ((with_reducible refine Below.setCell ?_ (by simp) _)) | ((with_reducible refine Below.alloc ?_ (by simp) _)))
  · have HR := Lib.hid (HOk.out hF)
    have g4 : decide (c - 64 - T < 16) = false := decide_eq_false hF
    have hA1 : 64 ≤ c := by omega
    clear hF HFull HOk
    have hm := HM1.out hA1
    clear HM1 HM2
    go_enter Try.func9, Try.ntmps9
    go_wp2_with fail
    refine (HPC.out _).mono ?_
    rintro e w_ ⟨rfl, rfl⟩
    go_wp2
    go_region_with (go_at_call 25; refine (HPC.out _).mono ?_; rintro e w_ ⟨rfl, rfl⟩)
    all_goals
      go_wp2
      refine bodyPost_ret (v := .tuple #[.agg #[.int .i64 T, .int .i64 (T + 1), .int .i64 (c - 64 - T), .int .i64 (T * p)], .int .i64 0]) (by simp [results, Try.results9, go_sem]) rfl ⟨by rw [HR.out]; rfl, ?_⟩
      repeat (first | (with_reducible exact Below.refl _ _) | ((with_reducible refine Below.drew ?_)) | ((with_reducible refine Below.setCell ?_ (by simp) _)) | ((with_reducible refine Below.alloc ?_ (by simp) _)))
end Go.Proofs.Ytfiphpdagnlbbaa
