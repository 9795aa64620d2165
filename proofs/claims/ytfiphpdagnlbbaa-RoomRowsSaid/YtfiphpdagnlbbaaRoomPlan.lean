/-
  The reference's Plan.
-/
import Derived.Test.YtfiphpdagnlbbaaRoomPer
import Derived.Test.YtfiphpdagnlbbaaRoomRefF
namespace Go.Proofs.Ytfiphpdagnlbbaa
open Go.RowKit

namespace Room
def table (c : Int) : Int := if 64 < c ∧ 2 < (c - 64) / 16 then (c - 64) / 16 else 2
/-- A layout's four numbers, and the error. -/
def plan (s c : Int) : (Int × Int × Int × Int) × Int :=
  if ¬ Ino.Sized s ∨ c < 0 ∨ 8192 < c then ((0, 0, 0, 0), 1) else if c - 64 - table c < 16 then ((0, 0, 0, 0), 40) else ((table c, table c + 1, c - 64 - table c, table c * Ino.perPage s), 0)
theorem table_b {c : Int} (h : 0 ≤ c) (h2 : c ≤ 8192) : 2 ≤ table c ∧ table c ≤ 508 := by
  unfold table
  split <;> constructor <;> omega
theorem plan_arg {s c : Int} (h : ¬ Ino.Sized s ∨ c < 0 ∨ 8192 < c) : plan s c = ((0, 0, 0, 0), 1) := if_pos h
theorem plan_full {s c : Int} (h : Ino.Sized s) (h0 : 0 ≤ c) (h1 : c ≤ 8192) (h2 : c - 64 - table c < 16) : plan s c = ((0, 0, 0, 0), 40) := by
  unfold plan
  rw [if_neg (by rintro (a | a | a); exact a h; omega; omega), if_pos h2]
theorem plan_ok {s c : Int} (h : Ino.Sized s) (h0 : 0 ≤ c) (h1 : c ≤ 8192) (h2 : ¬ c - 64 - table c < 16) : plan s c = ((table c, table c + 1, c - 64 - table c, table c * Ino.perPage s), 0) := by
  unfold plan
  rw [if_neg (by rintro (a | a | a); exact a h; omega; omega), if_neg h2]
end Room
def layV (x : Int × Int × Int × Int) : Value := .agg #[.int .i64 x.1, .int .i64 x.2.1, .int .i64 x.2.2.1, .int .i64 x.2.2.2]
def PlanR (r : (Int × Int × Int × Int) × Int) (w : World) (e : Ending) (w' : World) : Prop := e = .returned (.tuple #[layV r.1, .int .i64 r.2]) ∧ Below w.heap.size w w'
theorem per_b {s : Int} (h : Ino.Sized s) : 2 ≤ Ino.perPage s ∧ Ino.perPage s ≤ 21 ∧ Int.tdiv s 24 = Ino.perPage s := by rcases h with rfl | rfl | rfl | rfl <;> exact ⟨by decide, by decide, by decide⟩
theorem mul_b {t p : Int} (h1 : 2 ≤ t) (h2 : t ≤ 508) (h3 : 2 ≤ p) (h4 : p ≤ 21) : 0 ≤ t * p ∧ t * p ≤ 10668 := by
  have a := Int.mul_nonneg (a := t) (b := p) (by omega) (by omega)
  have b : t * p ≤ 508 * 21 := Int.mul_le_mul h2 h4 (by omega) (by omega)
  omega
set_option maxHeartbeats 4000000 in
theorem refPlan_calls (s c : Int) (w : World) (hc : -9223372036854775808 ≤ c ∧ c ≤ 9223372036854775807) :
    Calls Try.prog 10 #[.int .i64 s, .int .i64 c] w (PlanR (Room.plan s c) w) := by
  obtain ⟨hc0, hc9⟩ := hc
  by_cases hs : Ino.Sized s
  case neg =>
    rw [Room.plan_arg (.inl hs)]
    have hd : decide (Ino.Sized s) = false := decide_eq_false hs
    clear hs
    go_enter Try.func10, Try.ntmps10
    go_wp2_with fail
    refine (refSized_calls _ _).mono ?_
    rintro e w_ ⟨rfl, rfl⟩
    rw [hd]
    go_wp2
    refine bodyPost_ret (v := .tuple #[.agg #[.int .i64 0, .int .i64 0, .int .i64 0, .int .i64 0], .int .i64 1]) (by simp [results, Try.results10, go_sem]) rfl ⟨rfl, ?_⟩
    exact (Below.refl _ _).alloc (Nat.le_refl _) _
  have hd : decide (Ino.Sized s) = true := decide_eq_true hs
  by_cases h0 : c < 0
  · rw [Room.plan_arg (.inr (.inl h0))]
    have g0 : decide (c < 0) = true := decide_eq_true h0
    clear hs
    go_enter Try.func10, Try.ntmps10
    go_wp2_with fail
    refine (refSized_calls _ _).mono ?_
    rintro e w_ ⟨rfl, rfl⟩
    rw [hd]
    go_wp2
    refine bodyPost_ret (v := .tuple #[.agg #[.int .i64 0, .int .i64 0, .int .i64 0, .int .i64 0], .int .i64 1]) (by simp [results, Try.results10, go_sem]) rfl ⟨rfl, ?_⟩
    exact (Below.refl _ _).alloc (Nat.le_refl _) _
  have g0 : decide (c < 0) = false := decide_eq_false h0
  by_cases h1 : 8192 < c
  · rw [Room.plan_arg (.inr (.inr h1))]
    have g1 : decide (8192 < c) = true := decide_eq_true h1
    clear hs
    go_enter Try.func10, Try.ntmps10
    go_wp2_with fail
    refine (refSized_calls _ _).mono ?_
    rintro e w_ ⟨rfl, rfl⟩
    rw [hd]
    go_wp2
    refine bodyPost_ret (v := .tuple #[.agg #[.int .i64 0, .int .i64 0, .int .i64 0, .int .i64 0], .int .i64 1]) (by simp [results, Try.results10, go_sem]) rfl ⟨rfl, ?_⟩
    exact (Below.refl _ _).alloc (Nat.le_refl _) _
  have g1 : decide (8192 < c) = false := decide_eq_false h1
  obtain ⟨p2, p21, hper⟩ := per_b hs
  obtain ⟨t2, t5⟩ := Room.table_b (c := c) (by omega) (by omega)
  obtain ⟨m0, m1⟩ := mul_b t2 t5 p2 p21
  obtain ⟨r, hr⟩ : ∃ r, r = Room.plan s c := ⟨_, rfl⟩
  rw [← hr]
  have HFull := Lib.hid (fun h => hr.trans (Room.plan_full hs (by omega) (by omega) h))
  have HOk := Lib.hid (fun h => hr.trans (Room.plan_ok hs (by omega) (by omega) h))
  have hT : Room.table c = if 64 < c ∧ 2 < (c - 64) / 16 then (c - 64) / 16 else 2 := rfl
  clear hs hr
  generalize Ino.perPage s = p at *
  generalize Room.table c = T at *
  have HT := Lib.hid hT
  clear hT
  have x1 : (-9223372036854775808 ≤ T * p ∧ T * p ≤ 9223372036854775807) := ⟨by omega, by omega⟩
  have q3 : IntKind.i64.wrap (T * p) = T * p := IntWalk.i64_in _ x1
  have q4 : decide (65535 < T * p) = false := decide_eq_false (by omega)
  clear x1
  by_cases hA : 64 < c ∧ 2 < (c - 64) / 16
  · obtain ⟨hA1, hA2⟩ := hA
    have hTt : T = (c - 64) / 16 := by rw [HT.out, if_pos ⟨hA1, hA2⟩]
    have g2 : decide (64 < c) = true := decide_eq_true hA1
    by_cases hF : c - 64 - T < 16
    · have HR := Lib.hid (HFull.out hF)
      subst hTt
      have g3 : decide (2 < (c - 64) / 16) = true := decide_eq_true hA2
      have g4 : decide (c - 64 - (c - 64) / 16 < 16) = true := decide_eq_true hF
      clear hF HFull HOk
      go_enter Try.func10, Try.ntmps10
      go_wp2_with fail
      refine (refSized_calls _ _).mono ?_
      rintro e w_ ⟨rfl, rfl⟩
      rw [hd]
      go_wp2
      refine bodyPost_ret (v := .tuple #[.agg #[.int .i64 0, .int .i64 0, .int .i64 0, .int .i64 0], .int .i64 40]) (by simp [results, Try.results10, go_sem]) rfl ⟨by rw [HR.out]; rfl, ?_⟩
      exact (Below.refl _ _).alloc (Nat.le_refl _) _
    · have HR := Lib.hid (HOk.out hF)
      subst hTt
      have g3 : decide (2 < (c - 64) / 16) = true := decide_eq_true hA2
      have g4 : decide (c - 64 - (c - 64) / 16 < 16) = false := decide_eq_false hF
      clear hF HFull HOk
      go_enter Try.func10, Try.ntmps10
      go_wp2_with fail
      refine (refSized_calls _ _).mono ?_
      rintro e w_ ⟨rfl, rfl⟩
      rw [hd]
      go_wp2
      refine bodyPost_ret (v := .tuple #[.agg #[.int .i64 ((c - 64) / 16), .int .i64 ((c - 64) / 16 + 1), .int .i64 (c - 64 - (c - 64) / 16), .int .i64 ((c - 64) / 16 * p)], .int .i64 0]) (by simp [results, Try.results10, go_sem]) rfl ⟨by rw [HR.out]; rfl, ?_⟩
      exact (Below.refl _ _).alloc (Nat.le_refl _) _
  · have hTt : T = 2 := by rw [HT.out, if_neg hA]
    subst hTt
    by_cases hF : c - 64 - 2 < 16
    · have g4 : decide (c - 64 - 2 < 16) = true := decide_eq_true hF
      have HR := Lib.hid (HFull.out hF)
      clear hF HFull HOk
      by_cases hA1 : 64 < c
      · have g2 : decide (64 < c) = true := decide_eq_true hA1
        have g3 : decide (2 < (c - 64) / 16) = false := decide_eq_false (fun h => hA ⟨hA1, h⟩)
        clear hA
        go_enter Try.func10, Try.ntmps10
        go_wp2_with fail
        refine (refSized_calls _ _).mono ?_
        rintro e w_ ⟨rfl, rfl⟩
        rw [hd]
        go_wp2
        refine bodyPost_ret (v := .tuple #[.agg #[.int .i64 0, .int .i64 0, .int .i64 0, .int .i64 0], .int .i64 40]) (by simp [results, Try.results10, go_sem]) rfl ⟨by rw [HR.out]; rfl, ?_⟩
        exact (Below.refl _ _).alloc (Nat.le_refl _) _
      · have g2 : decide (64 < c) = false := decide_eq_false hA1
        clear hA
        go_enter Try.func10, Try.ntmps10
        go_wp2_with fail
        refine (refSized_calls _ _).mono ?_
        rintro e w_ ⟨rfl, rfl⟩
        rw [hd]
        go_wp2
        refine bodyPost_ret (v := .tuple #[.agg #[.int .i64 0, .int .i64 0, .int .i64 0, .int .i64 0], .int .i64 40]) (by simp [results, Try.results10, go_sem]) rfl ⟨by rw [HR.out]; rfl, ?_⟩
        exact (Below.refl _ _).alloc (Nat.le_refl _) _
    · have g4 : decide (c - 64 - 2 < 16) = false := decide_eq_false hF
      have HR := Lib.hid (HOk.out hF)
      have hA1 : 64 < c := by omega
      have g2 : decide (64 < c) = true := decide_eq_true hA1
      have g3 : decide (2 < (c - 64) / 16) = false := decide_eq_false (fun h => hA ⟨by omega, h⟩)
      clear hF hA HFull HOk
      go_enter Try.func10, Try.ntmps10
      go_wp2_with fail
      refine (refSized_calls _ _).mono ?_
      rintro e w_ ⟨rfl, rfl⟩
      rw [hd]
      go_wp2
      refine bodyPost_ret (v := .tuple #[.agg #[.int .i64 2, .int .i64 3, .int .i64 (c - 64 - 2), .int .i64 (2 * p)], .int .i64 0]) (by simp [results, Try.results10, go_sem]) rfl ⟨by rw [HR.out]; rfl, ?_⟩
      exact (Below.refl _ _).alloc (Nat.le_refl _) _
end Go.Proofs.Ytfiphpdagnlbbaa
