/-
  inode.Most, PerPage and the reference's Most.
-/
import Derived.Test.YtfiphpdagnlbbaaInoWays
namespace Go.Proofs.Ytfiphpdagnlbbaa
open Go.RowKit

theorem most_calls (s : Int) (w : World) :
    Calls Try.prog 30 #[.int .i64 s] w fun e w' => e = .returned (.int .i64 (Ino.most s)) ∧ w = w' := by
  by_cases h : Ino.Sized s
  · have hd : decide (Ino.Sized s) = true := decide_eq_true h
    have HS := Lib.hid h
    rcases h with rfl | rfl | rfl | rfl
    ·
      go_enter Try.func30, Try.ntmps30
      go_wp2_with fail
      refine (sized_calls _ _).mono ?_
      rintro e w_ ⟨rfl, rfl⟩
      rw [hd]
      go_wp2_with fail
      refine (pages_calls _ HS.out _).mono ?_
      rintro e w_ ⟨rfl, rfl⟩
      rw [show Ino.pages 64 = 1062 from rfl]
      go_wp2
      go_ret
      exact ⟨rfl, rfl⟩
    ·
      go_enter Try.func30, Try.ntmps30
      go_wp2_with fail
      refine (sized_calls _ _).mono ?_
      rintro e w_ ⟨rfl, rfl⟩
      rw [hd]
      go_wp2_with fail
      refine (pages_calls _ HS.out _).mono ?_
      rintro e w_ ⟨rfl, rfl⟩
      rw [show Ino.pages 128 = 4166 from rfl]
      go_wp2
      go_ret
      exact ⟨rfl, rfl⟩
    ·
      go_enter Try.func30, Try.ntmps30
      go_wp2_with fail
      refine (sized_calls _ _).mono ?_
      rintro e w_ ⟨rfl, rfl⟩
      rw [hd]
      go_wp2_with fail
      refine (pages_calls _ HS.out _).mono ?_
      rintro e w_ ⟨rfl, rfl⟩
      rw [show Ino.pages 256 = 16518 from rfl]
      go_wp2
      go_ret
      exact ⟨rfl, rfl⟩
    ·
      go_enter Try.func30, Try.ntmps30
      go_wp2_with fail
      refine (sized_calls _ _).mono ?_
      rintro e w_ ⟨rfl, rfl⟩
      rw [hd]
      go_wp2_with fail
      refine (pages_calls _ HS.out _).mono ?_
      rintro e w_ ⟨rfl, rfl⟩
      rw [show Ino.pages 512 = 65798 from rfl]
      go_wp2
      go_ret
      exact ⟨rfl, rfl⟩
  · have hd : decide (Ino.Sized s) = false := decide_eq_false h
    have hv : Ino.most s = 0 := by unfold Ino.most; rw [if_neg h]
    rw [hv]
    clear hv h
    go_enter Try.func30, Try.ntmps30
    go_wp2_with fail
    refine (sized_calls _ _).mono ?_
    rintro e w_ ⟨rfl, rfl⟩
    rw [hd]
    go_wp2
    go_ret
    exact ⟨rfl, rfl⟩
theorem refMost_calls (s : Int) (w : World) :
    Calls Try.prog 31 #[.int .i64 s] w fun e w' => e = .returned (.int .i64 (Ino.most s)) ∧ w = w' := by
  by_cases h : Ino.Sized s
  · have hd : decide (Ino.Sized s) = true := decide_eq_true h
    have HS := Lib.hid h
    rcases h with rfl | rfl | rfl | rfl
    ·
      go_enter Try.func31, Try.ntmps31
      go_wp2_with fail
      refine (refSized_calls _ _).mono ?_
      rintro e w_ ⟨rfl, rfl⟩
      rw [hd]
      go_wp2_with fail
      refine (refPages_calls _ HS.out _).mono ?_
      rintro e w_ ⟨rfl, rfl⟩
      rw [show Ino.pages 64 = 1062 from rfl]
      go_wp2
      go_ret
      exact ⟨rfl, rfl⟩
    ·
      go_enter Try.func31, Try.ntmps31
      go_wp2_with fail
      refine (refSized_calls _ _).mono ?_
      rintro e w_ ⟨rfl, rfl⟩
      rw [hd]
      go_wp2_with fail
      refine (refPages_calls _ HS.out _).mono ?_
      rintro e w_ ⟨rfl, rfl⟩
      rw [show Ino.pages 128 = 4166 from rfl]
      go_wp2
      go_ret
      exact ⟨rfl, rfl⟩
    ·
      go_enter Try.func31, Try.ntmps31
      go_wp2_with fail
      refine (refSized_calls _ _).mono ?_
      rintro e w_ ⟨rfl, rfl⟩
      rw [hd]
      go_wp2_with fail
      refine (refPages_calls _ HS.out _).mono ?_
      rintro e w_ ⟨rfl, rfl⟩
      rw [show Ino.pages 256 = 16518 from rfl]
      go_wp2
      go_ret
      exact ⟨rfl, rfl⟩
    ·
      go_enter Try.func31, Try.ntmps31
      go_wp2_with fail
      refine (refSized_calls _ _).mono ?_
      rintro e w_ ⟨rfl, rfl⟩
      rw [hd]
      go_wp2_with fail
      refine (refPages_calls _ HS.out _).mono ?_
      rintro e w_ ⟨rfl, rfl⟩
      rw [show Ino.pages 512 = 65798 from rfl]
      go_wp2
      go_ret
      exact ⟨rfl, rfl⟩
  · have hd : decide (Ino.Sized s) = false := decide_eq_false h
    have hv : Ino.most s = 0 := by unfold Ino.most; rw [if_neg h]
    rw [hv]
    clear hv h
    go_enter Try.func31, Try.ntmps31
    go_wp2_with fail
    refine (refSized_calls _ _).mono ?_
    rintro e w_ ⟨rfl, rfl⟩
    rw [hd]
    go_wp2
    go_ret
    exact ⟨rfl, rfl⟩
theorem perPage_calls (s : Int) (w : World) :
    Calls Try.prog 25 #[.int .i64 s] w fun e w' => e = .returned (.int .i64 (Ino.perPage s)) ∧ w = w' := by
  by_cases h : Ino.Sized s
  · have hd : decide (Ino.Sized s) = true := decide_eq_true h
    rcases h with rfl | rfl | rfl | rfl
    all_goals
      go_enter Try.func25, Try.ntmps25
      go_wp2_with fail
      refine (sized_calls _ _).mono ?_
      rintro e w_ ⟨rfl, rfl⟩
      rw [hd]
      go_wp2
      go_ret
      exact ⟨rfl, rfl⟩
  · have hd : decide (Ino.Sized s) = false := decide_eq_false h
    have hv : Ino.perPage s = 0 := by unfold Ino.perPage; rw [if_neg h]
    rw [hv]
    clear hv h
    go_enter Try.func25, Try.ntmps25
    go_wp2_with fail
    refine (sized_calls _ _).mono ?_
    rintro e w_ ⟨rfl, rfl⟩
    rw [hd]
    go_wp2
    go_ret
    exact ⟨rfl, rfl⟩
theorem per_zero {s : Int} (h : ¬ Ino.Sized s) : Ino.perPage s = 0 := by unfold Ino.perPage; rw [if_neg h]
end Go.Proofs.Ytfiphpdagnlbbaa
