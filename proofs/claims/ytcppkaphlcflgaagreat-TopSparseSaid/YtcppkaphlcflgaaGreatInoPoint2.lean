import Derived.Test.YtcppkaphlcflgaaGreatBytes
import Derived.Test.YtcppkaphlcflgaaGreatRows
import Derived.Test.YtcppkaphlcflgaaGreatMem
import Derived.Test.YtcppkaphlcflgaaGreatInoPtsM
import Derived.StillTailTactics
import Derived.Test.YtcppkaphlcflgaaGreatTagTake
import Derived.Deep.QuietTactic
import Derived.BigQuiet
import Derived.Deep.RegionHeld3
import Derived.Deep.DeepCutAuto
import Derived.Test.YtcppkaphlcflgaaGreatSlClone
namespace Go.Proofs.YtcppkaphlcflgaaGreat
open Go.RowKit

theorem sized_no {n : Int} (h : ¬ Ino.Sized n) : (n == 64) = false ∧ (n == 128) = false ∧ (n == 256) = false ∧ (n == 512) = false := by
 unfold Ino.Sized at h
 refine ⟨?_, ?_, ?_, ?_⟩ <;> rw [beq_eq_false_iff_ne] <;> omega
theorem sized_calls (n : Int) (w : World) :
  Calls Tryz.prog 71 #[.int .i64 n] w fun e w' => e = .returned (.bool (decide (Ino.Sized n))) ∧ w = w' := by
 by_cases h : Ino.Sized n
 ·rw [decide_eq_true h]
  rcases h with rfl | rfl | rfl | rfl
  all_goals
   go_enter Tryz.func71, Tryz.ntmps71
   go_wp2
   go_ret
   exact ⟨rfl, rfl⟩
 ·rw [decide_eq_false h]
  obtain ⟨h1, h2, h3, h4⟩ := sized_no h
  go_enter Tryz.func71, Tryz.ntmps71
  go_wp2
  go_ret
  exact ⟨rfl, rfl⟩
theorem pages_calls (s : Int) (h : Ino.Sized s) (w : World) :
  Calls Tryz.prog 72 #[.int .i64 s] w fun e w' => e = .returned (.int .i64 (Ino.pages s)) ∧ w = w' := by
 rcases h with rfl | rfl | rfl | rfl
 all_goals
  go_enter Tryz.func72, Tryz.ntmps72
  go_wp2
  go_ret
  exact ⟨rfl, rfl⟩
def wayV (s n : Int) : Value := .tuple #[.agg #[.int .i64 (Ino.wayA s n), .int .i64 (Ino.wayB s n), .int .i64 (Ino.wayC s n)], .int .i64 (Ino.wayE s n)]
theorem wayV_arg (s n : Int) (h : ¬ Ino.Sized s) : wayV s n = .tuple #[.agg #[.int .i64 0, .int .i64 0, .int .i64 0], .int .i64 1] := by
 have he : Ino.wayE s n = 1 := by unfold Ino.wayE; rw [if_neg h]
 simp [wayV, Ino.wayA, Ino.wayB, Ino.wayC, he]
theorem wayV_idx (s n : Int) (h : Ino.Sized s) (hn : n < 0 ∨ Ino.pages s ≤ n) : wayV s n = .tuple #[.agg #[.int .i64 0, .int .i64 0, .int .i64 0], .int .i64 52] := by
 have he : Ino.wayE s n = 52 := by unfold Ino.wayE; rw [if_pos h, if_pos hn]
 simp [wayV, Ino.wayA, Ino.wayB, Ino.wayC, he]
theorem wayV_0 (s n : Int) (h : Ino.Sized s) (h0 : 0 ≤ n) (hp : n < Ino.pages s) (h6 : n < 6) : wayV s n = .tuple #[.agg #[.int .i64 0, .int .i64 n, .int .i64 0], .int .i64 0] := by
 have he := Ino.wayE_of h h0 hp
 simp [wayV, Ino.wayA, Ino.wayB, Ino.wayC, he, h6]
theorem wayV_1 (s n : Int) (h : Ino.Sized s) (h0 : 0 ≤ n) (hp : n < Ino.pages s) (h6 : ¬ n < 6) (hk : n < 6 + s / 2) : wayV s n = .tuple #[.agg #[.int .i64 1, .int .i64 (n - 6), .int .i64 0], .int .i64 0] := by
 have he := Ino.wayE_of h h0 hp
 simp [wayV, Ino.wayA, Ino.wayB, Ino.wayC, he, h6, hk]
theorem wayV_2 (s n : Int) (h : Ino.Sized s) (h0 : 0 ≤ n) (hp : n < Ino.pages s) (h6 : ¬ n < 6) (hk : ¬ n < 6 + s / 2) : wayV s n = .tuple #[.agg #[.int .i64 2, .int .i64 ((n - 6 - s / 2) / (s / 2)), .int .i64 ((n - 6 - s / 2) % (s / 2))], .int .i64 0] := by
 have he := Ino.wayE_of h h0 hp
 simp [wayV, Ino.wayA, Ino.wayB, Ino.wayC, he, h6, hk]

set_option maxHeartbeats 1000000 in
set_option maxRecDepth 100000 in
theorem to_calls (s n : Int) (w : World) (h1 : -9223372036854775808 ≤ n) (h2 : n ≤ 9223372036854775807) :
  Calls Tryz.prog 43 #[.int .i64 s, .int .i64 n] w fun e w' => e = .returned (wayV s n) ∧ Below w.heap.size w w' := by
 by_cases h : Ino.Sized s
 case neg =>
  have hd : decide (Ino.Sized s) = false := decide_eq_false h
  rw [wayV_arg s n h]
  clear h
  go_enter Tryz.func43, Tryz.ntmps43
  go_wp2_with fail
  refine (sized_calls s _).mono ?_
  rintro e w_ ⟨rfl, rfl⟩
  rw [hd]
  go_wp2
  refine bodyPost_ret (v := .tuple #[.agg #[.int .i64 0, .int .i64 0, .int .i64 0], .int .i64 1]) (by simp [results, Tryz.results43, go_sem]) rfl ⟨rfl, ?_⟩
  exact (Below.refl _ _).alloc (Nat.le_refl _) _
 have hd : decide (Ino.Sized s) = true := decide_eq_true h
 by_cases hn : n < 0
 ·rw [wayV_idx s n h (.inl hn)]
  clear h
  go_enter Tryz.func43, Tryz.ntmps43
  go_wp2_with fail
  refine (sized_calls s _).mono ?_
  rintro e w_ ⟨rfl, rfl⟩
  rw [hd]
  go_wp2
  refine bodyPost_ret (v := .tuple #[.agg #[.int .i64 0, .int .i64 0, .int .i64 0], .int .i64 52]) (by simp [results, Tryz.results43, go_sem]) rfl ⟨rfl, ?_⟩
  exact (Below.refl _ _).alloc (Nat.le_refl _) _
 have hs1 : 64 ≤ s ∧ s ≤ 512 := by unfold Ino.Sized at h; omega
 obtain ⟨hs1, hs2⟩ := hs1
 have hP : Ino.pages s ≤ 65798 := by rcases h with rfl | rfl | rfl | rfl <;> decide
 have H := Lib.hid h
 by_cases hp : Ino.pages s ≤ n
 ·rw [wayV_idx s n h (.inr hp)]
  clear h
  go_enter Tryz.func43, Tryz.ntmps43
  go_wp2_with fail
  refine (sized_calls s _).mono ?_
  rintro e w_ ⟨rfl, rfl⟩
  rw [hd]
  go_wp2_with fail
  refine (pages_calls s H.out _).mono ?_
  rintro e w_ ⟨rfl, rfl⟩
  go_wp2
  refine bodyPost_ret (v := .tuple #[.agg #[.int .i64 0, .int .i64 0, .int .i64 0], .int .i64 52]) (by simp [results, Tryz.results43, go_sem]) rfl ⟨rfl, ?_⟩
  exact (Below.refl _ _).alloc (Nat.le_refl _) _
 have hp0 : n < Ino.pages s := by omega
 by_cases h6 : n < 6
 ·rw [wayV_0 s n h (by omega) hp0 h6]
  clear h
  go_enter Tryz.func43, Tryz.ntmps43
  go_wp2_with fail
  refine (sized_calls s _).mono ?_
  rintro e w_ ⟨rfl, rfl⟩
  rw [hd]
  go_wp2_with fail
  refine (pages_calls s H.out _).mono ?_
  rintro e w_ ⟨rfl, rfl⟩
  go_wp2
  refine bodyPost_ret (v := .tuple #[.agg #[.int .i64 0, .int .i64 n, .int .i64 0], .int .i64 0]) (by simp [results, Tryz.results43, go_sem]) rfl ⟨rfl, ?_⟩
  exact (Below.refl _ _).alloc (Nat.le_refl _) _
 have h60 : 6 ≤ n := by omega
 by_cases hk : n < 6 + s / 2
 ·rw [wayV_1 s n h (by omega) hp0 h6 hk]
  clear h
  have hk2 : n - 6 < s / 2 := by omega
  go_enter Tryz.func43, Tryz.ntmps43
  go_wp2_with fail
  refine (sized_calls s _).mono ?_
  rintro e w_ ⟨rfl, rfl⟩
  rw [hd]
  go_wp2_with fail
  refine (pages_calls s H.out _).mono ?_
  rintro e w_ ⟨rfl, rfl⟩
  go_wp2
  refine bodyPost_ret (v := .tuple #[.agg #[.int .i64 1, .int .i64 (n - 6), .int .i64 0], .int .i64 0]) (by simp [results, Tryz.results43, go_sem]) rfl ⟨rfl, ?_⟩
  exact (Below.refl _ _).alloc (Nat.le_refl _) _
 ·rw [wayV_2 s n h (by omega) hp0 h6 hk]
  clear h
  have hk0 : 6 + s / 2 ≤ n := by omega
  have hk2 : s / 2 ≤ n - 6 := by omega
  have hk3 : 1 ≤ s / 2 := by omega
  have hk4 : 0 ≤ n - 6 - s / 2 := by omega
  go_enter Tryz.func43, Tryz.ntmps43
  go_wp2_with fail
  refine (sized_calls s _).mono ?_
  rintro e w_ ⟨rfl, rfl⟩
  rw [hd]
  go_wp2_with fail
  refine (pages_calls s H.out _).mono ?_
  rintro e w_ ⟨rfl, rfl⟩
  go_wp2
  obtain ⟨m, hm⟩ : ∃ m, m = n - 6 - s / 2 := ⟨_, rfl⟩
  obtain ⟨k, hkk⟩ : ∃ k, k = s / 2 := ⟨_, rfl⟩
  have d1 := Int.ediv_nonneg (a := m) (b := k) (by omega) (by omega)
  have d2 : m / k ≤ m := Int.ediv_le_self _ (by omega)
  have d3 := Int.emod_nonneg m (show k ≠ 0 by omega)
  have d4 := Int.emod_lt_of_pos m (show 0 < k by omega)
  have d5 : k * (m / k) + m % k = m := Int.mul_ediv_add_emod m k
  have q2 : m.tdiv k = m / k := Int.tdiv_eq_ediv_of_nonneg (by omega)
  have q3 := IntWalk.i64_in (m / k) ⟨by omega, by omega⟩
  have q0 : (k == 0) = false := by rw [beq_eq_false_iff_ne]; omega
  have q6 : k ≠ 0 := by omega
  have q1 := IntWalk.i64_in (n - 6 - k) ⟨by omega, by omega⟩
  have q4 : m.tmod k = m % k := Int.tmod_eq_emod_of_nonneg (by omega)
  have q7 : n - 6 - k = m := by omega
  rw [q7] at q1
  rw [← hkk]
  have HM := Lib.hid hm
  have HKK := Lib.hid hkk
  clear hm hkk d5
  go_still_tail 11, (by kernel_rfl)
  clear q2 q3 q4 q7 q0 q6 q1
  change wpList _ _ _ _ _ ((w.alloc (.cells #[.int .i64 0, .int .i64 0, .int .i64 0] 93)).drew)
  go_wp2
  refine bodyPost_ret (v := .tuple #[.agg #[.int .i64 2, .int .i64 (m / k), .int .i64 (m % k)], .int .i64 0]) (by simp [results, Tryz.results43, go_sem]) rfl ⟨by rw [HM.out, HKK.out], ?_⟩
  exact ((Below.refl _ _).alloc (Nat.le_refl _) _).drew
end Go.Proofs.YtcppkaphlcflgaaGreat
namespace Go.Proofs.YtcppkaphlcflgaaGreat
open Go.RowKit

theorem most_calls (s : Int) (w : World) :
  Calls Tryz.prog 29 #[.int .i64 s] w fun e w' => e = .returned (.int .i64 (Ino.most s)) ∧ w = w' := by
 by_cases h : Ino.Sized s
 ·have hd : decide (Ino.Sized s) = true := decide_eq_true h
  have HS := Lib.hid h
  rcases h with rfl | rfl | rfl | rfl
  ·
   go_enter Tryz.func29, Tryz.ntmps29
   go_wp2_with fail
   refine (sized_calls _ _).mono ?_
   rintro e w_ ⟨rfl, rfl⟩
   rw [hd]
   go_wp2_with fail
   refine (pages_calls _ HS.out _).mono ?_
   rintro e w_ ⟨rfl, rfl⟩
   rw [show Ino.pages 64 = 1062 from rfl]
   go_wp2
   go_ret
   exact ⟨rfl, rfl⟩
  ·
   go_enter Tryz.func29, Tryz.ntmps29
   go_wp2_with fail
   refine (sized_calls _ _).mono ?_
   rintro e w_ ⟨rfl, rfl⟩
   rw [hd]
   go_wp2_with fail
   refine (pages_calls _ HS.out _).mono ?_
   rintro e w_ ⟨rfl, rfl⟩
   rw [show Ino.pages 128 = 4166 from rfl]
   go_wp2
   go_ret
   exact ⟨rfl, rfl⟩
  ·
   go_enter Tryz.func29, Tryz.ntmps29
   go_wp2_with fail
   refine (sized_calls _ _).mono ?_
   rintro e w_ ⟨rfl, rfl⟩
   rw [hd]
   go_wp2_with fail
   refine (pages_calls _ HS.out _).mono ?_
   rintro e w_ ⟨rfl, rfl⟩
   rw [show Ino.pages 256 = 16518 from rfl]
   go_wp2
   go_ret
   exact ⟨rfl, rfl⟩
  ·
   go_enter Tryz.func29, Tryz.ntmps29
   go_wp2_with fail
   refine (sized_calls _ _).mono ?_
   rintro e w_ ⟨rfl, rfl⟩
   rw [hd]
   go_wp2_with fail
   refine (pages_calls _ HS.out _).mono ?_
   rintro e w_ ⟨rfl, rfl⟩
   rw [show Ino.pages 512 = 65798 from rfl]
   go_wp2
   go_ret
   exact ⟨rfl, rfl⟩
 ·have hd : decide (Ino.Sized s) = false := decide_eq_false h
  have hv : Ino.most s = 0 := by unfold Ino.most; rw [if_neg h]
  rw [hv]
  clear hv h
  go_enter Tryz.func29, Tryz.ntmps29
  go_wp2_with fail
  refine (sized_calls _ _).mono ?_
  rintro e w_ ⟨rfl, rfl⟩
  rw [hd]
  go_wp2
  go_ret
  exact ⟨rfl, rfl⟩
theorem page_calls (p : Int) (w : World) :
  Calls Tryz.prog 159 #[.int .i64 p] w fun e w' => e = .returned (.bool (decide (0 ≤ p ∧ p < 8192))) ∧ w = w' := by
 by_cases h0 : 0 ≤ p
 ·by_cases h1 : p < 8192
  ·rw [decide_eq_true ⟨h0, h1⟩]
   go_enter Tryz.func159, Tryz.ntmps159
   go_wp2
   go_ret
   exact ⟨rfl, rfl⟩
  ·rw [decide_eq_false (fun h => h1 h.2)]
   go_enter Tryz.func159, Tryz.ntmps159
   go_wp2
   go_ret
   exact ⟨rfl, rfl⟩
 ·rw [decide_eq_false (fun h => h0 h.1)]
  go_enter Tryz.func159, Tryz.ntmps159
  go_wp2
  go_ret
  exact ⟨rfl, rfl⟩
end Go.Proofs.YtcppkaphlcflgaaGreat
namespace Go.Proofs.YtcppkaphlcflgaaGreat
open Go.RowKit

theorem page_yes (p : Int) (h : Nod.Pg p) (w : World) : Calls Tryz.prog 159 #[.int .i64 p] w fun e w' => e = .returned (.bool true) ∧ w = w' := by
 refine (page_calls p w).mono ?_
 rw [decide_eq_true (show 0 ≤ p ∧ p < 8192 from h)]
 exact fun _ _ h => h
theorem page_no (p : Int) (h : ¬ Nod.Pg p) (w : World) : Calls Tryz.prog 159 #[.int .i64 p] w fun e w' => e = .returned (.bool false) ∧ w = w' := by
 refine (page_calls p w).mono ?_
 rw [decide_eq_false (show ¬ (0 ≤ p ∧ p < 8192) from h)]
 exact fun _ _ h => h
end Go.Proofs.YtcppkaphlcflgaaGreat
namespace Go.Proofs.YtcppkaphlcflgaaGreat
open Go.RowKit

theorem pointed_yes (a : Option Addr) (n c : Nat) (k : Int) (w : World) (h : Pt.Has n k) :
  Calls Tryz.prog 158 #[.slice a n c, .int .i64 k] w fun e w' => e = .returned (.bool true) ∧ w = w' := by
 have hb := Pt.has_bound h
 have hd : decide (Ino.Sized n) = true := decide_eq_true h.1
 have h1 := h.2.1
 have h2 : k < (n : Int) / 2 := h.2.2
 have hn : n ≤ 512 := hb.2.1
 have h3 : decide (k < (n : Int) / 2) = true := decide_eq_true h2
 clear h hb
 go_enter Tryz.func158, Tryz.ntmps158
 go_wp2_with fail
 refine (sized_calls _ _).mono ?_
 rintro e w_ ⟨rfl, rfl⟩
 rw [hd]
 go_wp2
 go_ret
 exact ⟨by first | rfl | simp [h2], rfl⟩
theorem pointed_no (a : Option Addr) (n c : Nat) (k : Int) (w : World) (hn : n ≤ 140737488351232) (h : ¬ Pt.Has n k) :
  Calls Tryz.prog 158 #[.slice a n c, .int .i64 k] w fun e w' => e = .returned (.bool false) ∧ w = w' := by
 by_cases hs : Ino.Sized n
 ·have hd : decide (Ino.Sized n) = true := decide_eq_true hs
  by_cases h1 : 0 ≤ k
  ·have h2 : ¬ k < (n : Int) / 2 := fun h2 => h ⟨hs, h1, h2⟩
   have h3 : decide (k < (n : Int) / 2) = false := decide_eq_false h2
   have h4 : (n : Int) / 2 ≤ k := by omega
   clear h hs h2
   go_enter Tryz.func158, Tryz.ntmps158
   go_wp2_with fail
   refine (sized_calls _ _).mono ?_
   rintro e w_ ⟨rfl, rfl⟩
   rw [hd]
   go_wp2
   go_ret
   exact ⟨by first | rfl | simp [h4], rfl⟩
  ·have h3 : decide (0 ≤ k) = false := decide_eq_false h1
   clear h hs
   go_enter Tryz.func158, Tryz.ntmps158
   go_wp2_with fail
   refine (sized_calls _ _).mono ?_
   rintro e w_ ⟨rfl, rfl⟩
   rw [hd]
   go_wp2
   go_ret
   exact ⟨rfl, rfl⟩
 ·have hd : decide (Ino.Sized n) = false := decide_eq_false hs
  clear h hs
  go_enter Tryz.func158, Tryz.ntmps158
  go_wp2_with fail
  refine (sized_calls _ _).mono ?_
  rintro e w_ ⟨rfl, rfl⟩
  rw [hd]
  go_wp2
  go_ret
  exact ⟨rfl, rfl⟩
theorem i64_or_high (X b : Nat) (hX : X < 36028797018963968) (hb : b < 256) : bits .or .i64 (b : Int) ((X : Int) * 256) = ((X * 256 + b : Nat) : Int) := by
 rw [← i64_or_low X b hX hb]
 unfold bits
 simp only [BitVec.or_comm]
set_option maxRecDepth 100000 in
set_option maxHeartbeats 2000000 in
theorem pointer_calls (a : Option Addr) (n c : Nat) (xs : List UInt8) (k : Int) (w : World) (hx : Bytes w w.heap.size a n xs) :
  Calls Tryz.prog 119 #[.slice a n c, .int .i64 k] w fun e w' => e = .returned (.tuple #[.int .i64 (Pt.ptrV xs k), .int .i64 (Pt.ptrE xs k)]) ∧ Below w.heap.size w w' := by
 have hl := hx.len
 have hroom := hx.room
 by_cases h : Pt.Has n k
 case neg =>
  obtain ⟨r1, r2⟩ := Pt.ptr_no (xs := xs) (k := k) (by rw [hl]; exact h)
  rw [r1, r2]
  have HP := Lib.hid (pointed_no a n c k w hroom h)
  clear r1 r2 h hl hx
  go_enter Tryz.func119, Tryz.ntmps119
  go_wp2_with fail
  refine HP.out.mono ?_
  rintro e w_ ⟨rfl, rfl⟩
  go_wp2
  go_ret2
  exact ⟨rfl, Below.refl _ _⟩
 have HP := Lib.hid (pointed_yes a n c k w h)
 have HH := Lib.hid (show Pt.Has xs.length k by rw [hl]; exact h)
 obtain ⟨q1, q2, q3, q4⟩ := Pt.has_bound h
 obtain ⟨j, rfl⟩ : ∃ j : Nat, k = j := ⟨k.toNat, q3.symm⟩
 rw [Int.toNat_natCast] at q1 q4
 obtain ⟨b, o, hk0, rfl, hbb, hc0⟩ := hx.at_ (k := 2 * j) (by omega)
 obtain ⟨b', o', hk1, hab, _, hc1⟩ := hx.at_ (k := 2 * j + 1) (by omega)
 simp only [Option.some.injEq, Addr.mk.injEq, and_true] at hab
 obtain ⟨rfl, rfl⟩ := hab
 have h2 := Lib.hid (Pt.two_eq (xs := xs) (j := j) (by omega))
 have x0l := (xs[2 * j]).toNat_lt
 have x1l := (xs[2 * j + 1]).toNat_lt
 generalize xs[2 * j].toNat = x0 at *
 generalize xs[2 * j + 1].toNat = x1 at *
 have hor := Lib.hid (i64_or_high x1 x0 (by omega) x0l)
 have hn2 : ((2 * j : Nat) : Int) = 2 * (j : Int) := by omega
 have HN2 := Lib.hid hn2
 clear h q3 hl hx hn2
 go_enter Tryz.func119, Tryz.ntmps119
 go_wp2_with fail
 refine HP.out.mono ?_
 rintro e w_ ⟨rfl, rfl⟩
 go_wp2_with fail
 have hc0' : w.drew.cell? ⟨b, o + 2 * j, none⟩ = some (.int .u8 (x0 : Int)) := hc0
 have hc1' : w.drew.cell? ⟨b, o + (2 * j + 1), none⟩ = some (.int .u8 (x1 : Int)) := hc1
 refine wp_region_noPanic ?_
 refine wp_region_held_drew (S := (fun W' => W'.cell? ⟨b, o + 2 * j, none⟩ = some (.int .u8 (x0 : Int)) ∧ W'.cell? ⟨b, o + (2 * j + 1), none⟩ = some (.int .u8 (x1 : Int)))) (by kernel_rfl) ⟨hc0', hc1'⟩ (fun hS0 => ?_)
 clear hc0 hc1 hc0' hc1'
 refine takeV 0 (v := .slice (some ⟨b, o, none⟩) n c) rfl (by kernel_rfl) (by kernel_rfl) (by kernel_rfl) (fun _ _ _ h => h) (by rfl) (fun _ _ => rfl) (by assumption) ?_
 try simp only [layR]
 refine takeV 1 (v := .int .i64 j) rfl (by kernel_rfl) (by kernel_rfl) (by kernel_rfl) (fun _ _ _ h => h) (by rfl) (fun _ _ => rfl) (by assumption) ?_
 try simp only [layR]
 refine takeV 2 (v := .int .i64 (2 * (j : Int))) rfl (by kernel_rfl) (by kernel_rfl) (by kernel_rfl) (fun _ _ _ h => h) (by rfl) (fun W hSw => ?_) (by assumption) ?_
 ·have g := IntWalk.i64_in (2 * (j : Int)) ⟨by omega, by omega⟩
  go_simp
 try simp only [layR]
 refine takeV 3 (v := .pointer (some ⟨b, o + 2 * j, none⟩)) rfl (by kernel_rfl) (by kernel_rfl) (by kernel_rfl) (fun _ _ _ h => h) (by rfl) (fun W hSw => ?_) (by assumption) ?_
 ·have g1 : (0 : Int) ≤ 2 * (j : Int) := (by omega); have g2 : 2 * (j : Int) < (n : Int) := (by omega); have g3 : (2 * (j : Int)).toNat = 2 * j := (by omega)
  go_simp
 try simp only [layR]
 refine takeV 4 (v := .int .u8 x0) rfl (by kernel_rfl) (by kernel_rfl) (by kernel_rfl) (fun _ _ _ h => h) (by rfl) (fun W hSw => ?_) (by assumption) ?_
 ·obtain ⟨e0, e1⟩ := hSw
  go_simp
 try simp only [layR]
 refine takeV 5 (v := .int .i64 x0) rfl (by kernel_rfl) (by kernel_rfl) (by kernel_rfl) (fun _ _ _ h => h) (by rfl) (fun W hSw => ?_) (by assumption) ?_
 ·have g := IntWalk.i64_in (x0 : Int) ⟨by omega, by omega⟩
  go_simp
 try simp only [layR]
 refine takeV 6 (v := .slice (some ⟨b, o, none⟩) n c) rfl (by kernel_rfl) (by kernel_rfl) (by kernel_rfl) (fun _ _ _ h => h) (by rfl) (fun _ _ => rfl) (by assumption) ?_
 try simp only [layR]
 refine takeV 7 (v := .int .i64 j) rfl (by kernel_rfl) (by kernel_rfl) (by kernel_rfl) (fun _ _ _ h => h) (by rfl) (fun _ _ => rfl) (by assumption) ?_
 try simp only [layR]
 refine takeV 8 (v := .int .i64 (2 * (j : Int))) rfl (by kernel_rfl) (by kernel_rfl) (by kernel_rfl) (fun _ _ _ h => h) (by rfl) (fun W hSw => ?_) (by assumption) ?_
 ·have g := IntWalk.i64_in (2 * (j : Int)) ⟨by omega, by omega⟩
  go_simp
 try simp only [layR]
 refine takeV 9 (v := .int .i64 (2 * (j : Int) + 1)) rfl (by kernel_rfl) (by kernel_rfl) (by kernel_rfl) (fun _ _ _ h => h) (by rfl) (fun W hSw => ?_) (by assumption) ?_
 ·have g := IntWalk.i64_in (2 * (j : Int) + 1) ⟨by omega, by omega⟩
  go_simp
 try simp only [layR]
 refine takeV 10 (v := .pointer (some ⟨b, o + (2 * j + 1), none⟩)) rfl (by kernel_rfl) (by kernel_rfl) (by kernel_rfl) (fun _ _ _ h => h) (by rfl) (fun W hSw => ?_) (by assumption) ?_
 ·have g1 : (0 : Int) ≤ 2 * (j : Int) + 1 := (by omega); have g2 : 2 * (j : Int) + 1 < (n : Int) := (by omega); have g3 : (2 * (j : Int) + 1).toNat = 2 * j + 1 := (by omega)
  go_simp
 try simp only [layR]
 refine takeV 11 (v := .int .u8 x1) rfl (by kernel_rfl) (by kernel_rfl) (by kernel_rfl) (fun _ _ _ h => h) (by rfl) (fun W hSw => ?_) (by assumption) ?_
 ·obtain ⟨e0, e1⟩ := hSw
  go_simp
 try simp only [layR]
 refine takeV 12 (v := .int .i64 x1) rfl (by kernel_rfl) (by kernel_rfl) (by kernel_rfl) (fun _ _ _ h => h) (by rfl) (fun W hSw => ?_) (by assumption) ?_
 ·have g := IntWalk.i64_in (x1 : Int) ⟨by omega, by omega⟩
  go_simp
 try simp only [layR]
 refine takeV 13 (v := .int .i64 ((x1 : Int) * 256)) rfl (by kernel_rfl) (by kernel_rfl) (by kernel_rfl) (fun _ _ _ h => h) (by rfl) (fun W hSw => ?_) (by assumption) ?_
 ·have g := IntWalk.i64_in ((x1 : Int) * 256) ⟨by omega, by omega⟩
  go_simp
 try simp only [layR]
 refine takeV 14 (v := .int .i64 (x1 * 256 + x0 : Nat)) rfl (by kernel_rfl) (by kernel_rfl) (by kernel_rfl) (fun _ _ _ h => h) (by rfl) (fun W hSw => ?_) (by assumption) ?_
 ·have g := hor.out
  go_simp
 try simp only [layR]
 refine takeV 15 (v := .int .i64 (x1 * 256 + x0 : Nat)) rfl (by kernel_rfl) (by kernel_rfl) (by kernel_rfl) (fun _ _ _ h => h) (by rfl) (fun _ _ => rfl) (by assumption) ?_
 try simp only [layR]
 refine wpAnyH_done (by kernel_rfl) ?_ _
 refine NoPanic.normal ?_
 clear hS0
 have hv : Hid (Pt.two xs j = x1 * 256 + x0) := Lib.hid (by rw [h2.out]; omega)
 have hlt : x1 * 256 + x0 < 65536 := by omega
 have HT := Lib.hid (Int.toNat_natCast j)
 clear h2 hor HN2
 generalize x1 * 256 + x0 = V at *
 by_cases hp : V < 8192
 ·obtain ⟨r1, r2⟩ := Pt.ptr_yes HH.out (by rw [HT.out, hv.out]; exact hp)
  rw [HT.out, hv.out] at r1
  have HR1 := Lib.hid r1
  have HR2 := Lib.hid r2
  have HPg := Lib.hid (page_yes (V : Int) ⟨by omega, by omega⟩ w.drew)
  clear r1 r2 hp
  go_wp2_with fail
  refine HPg.out.mono ?_
  rintro e w_ ⟨rfl, rfl⟩
  go_wp2
  go_ret2
  exact ⟨by rw [HR1.out, HR2.out]; rfl, (Below.refl _ _).drew⟩
 ·obtain ⟨r1, r2⟩ := Pt.ptr_big HH.out (by rw [HT.out, hv.out]; exact hp)
  have HR1 := Lib.hid r1
  have HR2 := Lib.hid r2
  have HPg := Lib.hid (page_no (V : Int) (fun h => by unfold Nod.Pg at h; omega) w.drew)
  clear r1 r2 hp
  go_wp2_with fail
  refine HPg.out.mono ?_
  rintro e w_ ⟨rfl, rfl⟩
  go_wp2
  go_ret2
  exact ⟨by rw [HR1.out, HR2.out]; rfl, (Below.refl _ _).drew⟩
end Go.Proofs.YtcppkaphlcflgaaGreat
namespace Go.Proofs.YtcppkaphlcflgaaGreat
open Go.RowKit

theorem byte_mod (T : Nat) : Value.int .u8 ((T : Int) % 256) = byteV (UInt8.ofNat T) := by
 unfold byteV
 rw [UInt8.toNat_ofNat']
 exact congrArg (Value.int .u8) (by omega)
theorem byte_low (T : Nat) (h : T < 256) : Value.int .u8 (T : Int) = byteV (UInt8.ofNat T) := by
 unfold byteV
 rw [UInt8.toNat_ofNat', Nat.mod_eq_of_lt h]
theorem byte_div (T : Nat) (h : T < 65536) : Value.int .u8 ((T : Int) / 256) = byteV (UInt8.ofNat (T / 256)) := by
 rw [← byte_low (T / 256) (by omega)]
 exact congrArg (Value.int .u8) (by omega)
def Pointed (xs : List UInt8) (k tt : Int) (w : World) (e : Ending) (w' : World) : Prop := ∃ v, e = .returned (.tuple #[v, .int .i64 (Pt.pointE xs k tt)]) ∧ Own byteV 5 w' w.heap.size v (Pt.pointL xs k tt) ∧ Below w.heap.size w w'
theorem pointed_none {xs : List UInt8} {k tt : Int} {w w' : World} (h : ¬ (Pt.Has xs.length k ∧ Nod.Pg tt)) (hb : Below w.heap.size w w') : Pointed xs k tt w (.returned (.tuple #[.slice none 0 0, .int .i64 1])) w' := by
 unfold Pointed
 rw [(Pt.pointed_no h).1, (Pt.pointed_no h).2]
 exact ⟨_, rfl, Own.nil _ _, hb⟩
set_option maxHeartbeats 2000000 in
theorem point_calls (a : Option Addr) (n c : Nat) (xs : List UInt8) (k tt : Int) (w : World) (hx : Bytes w w.heap.size a n xs) :
  Calls Tryz.prog 120 #[.slice a n c, .int .i64 k, .int .i64 tt] w (Pointed xs k tt w) := by
 have hl := hx.len
 have hroom := hx.room
 by_cases h : Pt.Has n k
 case neg =>
  have HN := Lib.hid (fun w' (hb : Below w.heap.size w w') => pointed_none (xs := xs) (k := k) (tt := tt) (fun g => h (by rw [← hl]; exact g.1)) hb)
  have HP := Lib.hid (pointed_no a n c k w hroom h)
  clear h hl hx
  go_enter Tryz.func120, Tryz.ntmps120
  go_wp2_with fail
  refine HP.out.mono ?_
  rintro e w_ ⟨rfl, rfl⟩
  go_wp2
  go_ret2
  exact HN.out _ (Below.refl _ _)
 have HP := Lib.hid (pointed_yes a n c k w h)
 by_cases hp : Nod.Pg tt
 case neg =>
  have HN := Lib.hid (fun w' (hb : Below w.heap.size w w') => pointed_none (xs := xs) (k := k) (tt := tt) (fun g => hp g.2) hb)
  have HG := Lib.hid (page_no tt hp w)
  clear h hl hx hp
  go_enter Tryz.func120, Tryz.ntmps120
  go_wp2_with fail
  refine HP.out.mono ?_
  rintro e w_ ⟨rfl, rfl⟩
  go_wp2_with fail
  refine HG.out.mono ?_
  rintro e w_ ⟨rfl, rfl⟩
  go_wp2
  go_ret2
  exact HN.out _ (Below.refl _ _)
 have HG := Lib.hid (page_yes tt hp w)
 obtain ⟨r1, r2⟩ := Pt.pointed (xs := xs) (k := k) (tt := tt) ⟨by rw [hl]; exact h, hp⟩
 unfold Nod.Pg at hp
 obtain ⟨T, rfl⟩ : ∃ T : Nat, tt = T := ⟨tt.toNat, by omega⟩
 obtain ⟨q1, q2, q3, q4⟩ := Pt.has_bound h
 obtain ⟨j, rfl⟩ : ∃ j : Nat, k = j := ⟨k.toNat, q3.symm⟩
 rw [Int.toNat_natCast, Int.toNat_natCast] at r1
 rw [Int.toNat_natCast] at q1 q4
 have HR1 := Lib.hid r1
 have HR2 := Lib.hid r2
 have hT : T < 8192 := by omega
 have HX := Lib.hid hx
 have hlen := Lib.hid hl
 clear h q3 hl hx r1 r2 hp
 have b1 : (0 : Int) ≤ 2 * (j : Int) := by omega
 have b2 : 2 * (j : Int) < (n : Int) := by omega
 have b3 : (0 : Int) ≤ 2 * (j : Int) + 1 := by omega
 have b4 : 2 * (j : Int) + 1 < (n : Int) := by omega
 go_enter Tryz.func120, Tryz.ntmps120
 go_wp2_with fail
 refine HP.out.mono ?_
 rintro e w_ ⟨rfl, rfl⟩
 go_wp2_with fail
 refine HG.out.mono ?_
 rintro e w_ ⟨rfl, rfl⟩
 go_wp2_with fail
 refine (clone_calls a n c xs _ HX.out).mono ?_
 rintro e w1 ⟨⟨v1, rfl, ho⟩, hb⟩
 obtain ⟨a1, c1, rfl, _⟩ := ho.formN (n := n) hlen.out
 obtain ⟨g, rfl, hgb, _⟩ := ho.addr (by rw [hlen.out]; omega)
 have HO := Lib.hid ho
 have HB := Lib.hid hb
 obtain ⟨hc0, hf0⟩ := ho.cellg (k := 2 * j) (by rw [hlen.out]; omega)
 obtain ⟨hc1, hf1⟩ := ho.cellg (k := 2 * j + 1) (by rw [hlen.out]; omega)
 have HS := Lib.hid (Pt.put_sets (xs := xs) (j := j) (tt := T) (by rw [hlen.out]; omega))
 clear ho hb
 go_wp2
 go_ret2
 have hset := (HO.out.set (2 * j) (UInt8.ofNat T)).set (2 * j + 1) (UInt8.ofNat (T / 256))
 rw [HS.out, ← byte_mod, ← byte_div T (by omega)] at hset
 unfold Pointed
 rw [HR1.out, HR2.out]
 exact ⟨_, rfl, hset, (HB.out.setCell (p := ⟨g, 2 * j, none⟩) hgb _).setCell (p := ⟨g, 2 * j + 1, none⟩) hgb _⟩
end Go.Proofs.YtcppkaphlcflgaaGreat
