/-
  room.Dir and the reference's.
-/
import Derived.Test.YtfiphpdagnlbbaaRoomFile
import Derived.Test.YtfiphpdagnlbbaaRoomWith
namespace Go.Proofs.Ytfiphpdagnlbbaa
open Go.RowKit

namespace Room
def dirN (s n : Int) : Nat := ((n * 16 + s - 1) / s).toNat
def dir (s n : Int) : Int × Int := if ¬ Ino.Sized s ∨ n < 0 then (0, 1) else if Ino.most s / 16 < n then (0, 52) else file s (upto (dirN s n))
theorem dir_arg {s n : Int} (h : ¬ Ino.Sized s ∨ n < 0) : dir s n = (0, 1) := if_pos h
theorem dir_idx {s n : Int} (h : Ino.Sized s) (h0 : 0 ≤ n) (h1 : Ino.most s / 16 < n) : dir s n = (0, 52) := by
  unfold dir
  rw [if_neg (by rintro (a | a); exact a h; omega), if_pos h1]
theorem dir_ok {s n : Int} (h : Ino.Sized s) (h0 : 0 ≤ n) (h1 : ¬ Ino.most s / 16 < n) : dir s n = file s (upto (dirN s n)) := by
  unfold dir
  rw [if_neg (by rintro (a | a); exact a h; omega), if_neg h1]
theorem span_zero (n : Nat) : span 0 n = upto n := by
  unfold span upto
  simp
theorem dirN_le {s n : Int} (h : Ino.Sized s) (h0 : 0 ≤ n) (h1 : n ≤ 6000) : dirN s n ≤ 1500 := by
  unfold dirN
  rcases h with rfl | rfl | rfl | rfl <;> omega
theorem all_nil {k : Nat} (hk : k ≤ 131072) : row (all [] 0 k) = upto k := by
  unfold all more
  rw [List.nil_append, if_pos ⟨Int.le_refl _, by omega⟩, show ((k : Int) - 0).toNat = k by omega, span_zero]
  exact row_self (upto_inc k)
end Room
theorem most_ge {s : Int} (h : Ino.Sized s) : 0 ≤ Ino.most s ∧ Ino.most s < 40000000 := by
  rcases h with rfl | rfl | rfl | rfl <;> exact ⟨by decide, by decide⟩
set_option maxHeartbeats 4000000 in
theorem dir_calls (s n : Int) (w : World) (hn : -9223372036854775808 ≤ n ∧ n ≤ 9223372036854775807) (h5 : n ≤ 6000 ∨ 1099511627776 ≤ n) :
    Calls Try.prog 14 #[.int .i64 s, .int .i64 n] w (FileR (Room.dir s n) w) := by
  by_cases hs : Ino.Sized s
  case neg =>
    rw [Room.dir_arg (.inl hs)]
    have hp := per_zero hs
    clear hs
    go_enter Try.func14, Try.ntmps14
    go_wp2_with fail
    refine (perPage_calls _ _).mono ?_
    rintro e w_ ⟨rfl, rfl⟩
    rw [hp]
    go_wp2
    go_ret2
    exact ⟨rfl, Below.refl _ _⟩
  have hp : (Ino.perPage s == 0) = false := by rw [beq_eq_false_iff_ne]; exact per_pos hs
  have HS := Lib.hid hs
  by_cases h0 : n < 0
  · rw [Room.dir_arg (.inr h0)]
    have g0 : decide (n < 0) = true := decide_eq_true h0
    clear hs
    go_enter Try.func14, Try.ntmps14
    go_wp2_with fail
    refine (perPage_calls _ _).mono ?_
    rintro e w_ ⟨rfl, rfl⟩
    generalize Ino.perPage s = pp at *
    go_wp2
    go_ret2
    exact ⟨rfl, Below.refl _ _⟩
  have g0 : decide (n < 0) = false := decide_eq_false h0
  obtain ⟨hm0, hm1⟩ := most_ge hs
  by_cases h1 : Ino.most s / 16 < n
  · rw [Room.dir_idx hs (by omega) h1]
    have HM := Lib.hid (most_calls s w)
    have g1 : decide (Ino.most s / 16 < n) = true := decide_eq_true h1
    clear hs
    go_enter Try.func14, Try.ntmps14
    go_wp2_with fail
    refine (perPage_calls _ _).mono ?_
    rintro e w_ ⟨rfl, rfl⟩
    generalize Ino.perPage s = pp at *
    go_wp2_with fail
    refine HM.out.mono ?_
    rintro e w_ ⟨rfl, rfl⟩
    generalize Ino.most s = ms at *
    go_wp2
    go_ret2
    exact ⟨rfl, Below.refl _ _⟩
  rw [Room.dir_ok hs (by omega) h1]
  have hn6 : n ≤ 6000 := by omega
  have hd := Room.dirN_le hs (by omega) hn6
  have HD := Lib.hid (show ((Room.dirN s n : Nat) : Int) = (n * 16 + s - 1) / s by
    unfold Room.dirN
    rcases hs with rfl | rfl | rfl | rfl <;> omega)
  have HM := Lib.hid (most_calls s w)
  have g1 : decide (Ino.most s / 16 < n) = false := decide_eq_false h1
  obtain ⟨k, hk⟩ : ∃ k, k = Room.dirN s n := ⟨_, rfl⟩
  rw [← hk] at hd HD ⊢
  have HU := Lib.hid (Room.all_nil (k := k) (by omega))
  have HW := Lib.hid (with_calls none 0 0 [] 0 (k : Int) w (Arr.none_ _ _ _) (by omega) (by unfold Room.more; split <;> omega))
  rw [HU.out] at HW
  obtain ⟨W, hW⟩ : ∃ W, W = (n * 16 + s - 1) / s := ⟨_, rfl⟩
  rw [← hW] at HD
  have hsz : 0 ≤ s ∧ s ≤ 512 ∧ s ≠ 0 := by rcases hs with rfl | rfl | rfl | rfl <;> exact ⟨by decide, by decide, by decide⟩
  obtain ⟨hs0, hs5, hsn⟩ := hsz
  have HDk := Lib.hid (show Int.tdiv (n * 16 + s - 1) s = (k : Int) by rw [Int.tdiv_eq_ediv_of_nonneg (by omega), ← hW, HD.out])
  clear hk hs hW
  go_enter Try.func14, Try.ntmps14
  go_wp2_with fail
  refine (perPage_calls _ _).mono ?_
  rintro e w_ ⟨rfl, rfl⟩
  generalize Ino.perPage s = pp at *
  go_wp2_with fail
  refine HM.out.mono ?_
  rintro e w_ ⟨rfl, rfl⟩
  generalize Ino.most s = ms at *
  have hdv := HDk.out
  go_wp2_with fail
  refine HW.out.mono ?_
  rintro e w1 ⟨v1, rfl, ho1, hb1⟩
  obtain ⟨a1, c1, rfl, hc1⟩ := ho1.formN (n := k) (Room.upto_len k)
  have HA1 := Lib.hid (ho1.arr (by rw [Room.upto_len]; omega))
  have HB1 := Lib.hid hb1
  have HF := Lib.hid (file_calls s a1 k c1 (Room.upto k) w1 (HA1.out) (fun x hx => by rw [Room.upto_mem] at hx; omega) (by omega))
  clear ho1 hb1 hdv
  go_wp2_with fail
  refine HF.out.mono ?_
  rintro e w2 ⟨rfl, hb2⟩
  have HB2 := Lib.hid (HB1.out.then_ hb2)
  clear hb2
  go_wp2
  go_ret2
  exact ⟨rfl, HB2.out⟩
end Go.Proofs.Ytfiphpdagnlbbaa
