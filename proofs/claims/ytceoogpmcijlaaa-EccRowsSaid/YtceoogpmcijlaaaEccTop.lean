/-
  The reference's Code; the law file's long, known and hurt.
-/
import Derived.Test.YtceoogpmcijlaaaEccMend
import Derived.Test.YtceoogpmcijlaaaNumSame
import Derived.Test.YtceoogpmcijlaaaNumAmong
namespace Go.Proofs.Ytceoogpmcijlaaa
open Go.RowKit

def Ecc.codeE (xs : List UInt8) (n : Nat) : Array Value := if 1 ≤ n ∧ n ≤ 4096 then #[.int .u32 (Ecc.code xs : Nat), .int .i64 0] else #[.int .u32 0, .int .i64 1]
theorem codeE_calls (a : Option Addr) (n c : Nat) (xs : List UInt8) (w : World) (hx : Bytes w w.heap.size a n xs) :
    Calls Try.prog 11 #[.slice a n c] w fun e w' => e = .returned (.tuple (Ecc.codeE xs n)) ∧ Below w.heap.size w w' := code_calls a n c xs w hx
set_option maxHeartbeats 1000000 in
theorem refCode_calls (a : Option Addr) (n c : Nat) (xs : List UInt8) (w : World) (hx : Bytes w w.heap.size a n xs) :
    Calls Try.prog 12 #[.slice a n c] w fun e w' => e = .returned (.tuple (Ecc.codeE xs n)) ∧ Below w.heap.size w w' := by
  have hlen := hx.len
  unfold Ecc.codeE
  by_cases hb : 1 ≤ n ∧ n ≤ 4096
  · rw [if_pos hb]
    obtain ⟨h1, h2⟩ := hb
    have HC := Lib.hid (show Ecc.code xs = Ecc.sumX xs (8 * n) + 65536 * ((Ecc.sumN xs (8 * n) + Ecc.ones (Ecc.sumX xs (8 * n))) % 2) by rw [← hlen]; rfl)
    have hX := Ecc.sumX_lt xs (8 * n) (by omega)
    have hN := Ecc.sumN_le xs (8 * n)
    have hpc := Lib.hid (eccSum_calls a n c xs w hx h2)
    have hO := Ecc.ones_le (Ecc.sumX xs (8 * n))
    have hoc := Lib.hid (fun w1 => ones_calls (Ecc.sumX xs (8 * n)) w1 (by omega))
    generalize Ecc.sumX xs (8 * n) = X at *
    generalize Ecc.sumN xs (8 * n) = M at *
    generalize Ecc.ones X = o at *
    have g0 : decide ((n : Int) < 1) = false := decide_eq_false (by omega)
    have g1 : decide (4096 < (n : Int)) = false := decide_eq_false (by omega)
    clear hx hlen
    go_enter Try.func12, Try.ntmps12
    go_wp2_with (first
      | (go_at_call 27; refine hpc.out.mono ?_; rintro e w1 ⟨rfl, hb1⟩; have HB1 := Lib.hid hb1; clear hb1)
      | (go_at_call 28; refine (hoc.out _).mono ?_; rintro e w' ⟨rfl, rfl⟩))
    go_ret2
    exact ⟨by rw [HC.out, Int.natCast_add, Int.natCast_mul, Int.natCast_emod, Int.natCast_add]; rfl, HB1.out⟩
  · rw [if_neg hb]
    by_cases h1 : n < 1
    · have g0 : decide ((n : Int) < 1) = true := decide_eq_true (by omega)
      clear hx hlen hb
      go_enter Try.func12, Try.ntmps12
      go_wp2
      go_ret2
      exact ⟨rfl, Below.refl _ _⟩
    · have g0 : decide ((n : Int) < 1) = false := decide_eq_false (by omega)
      have g1 : decide (4096 < (n : Int)) = true := decide_eq_true (by omega)
      clear hx hlen hb
      go_enter Try.func12, Try.ntmps12
      go_wp2
      go_ret2
      exact ⟨rfl, Below.refl _ _⟩
theorem elong_calls (a : Option Addr) (n c : Nat) (w : World) :
    Calls Try.prog 9 #[.slice a n c] w fun e w' => e = .returned (.bool (decide (600 < n ∧ n ≤ 4096 ∨ 5000 < n))) ∧ w = w' := by
  by_cases h1 : 600 < n
  · by_cases h2 : n ≤ 4096
    · rw [decide_eq_true (.inl ⟨h1, h2⟩)]
      have g0 : decide (600 < (n : Int)) = true := decide_eq_true (by omega)
      have g1 : decide ((n : Int) ≤ 4096) = true := decide_eq_true (by omega)
      go_enter Try.func9, Try.ntmps9
      go_wp2
      go_ret
      exact ⟨rfl, rfl⟩
    · have g0 : decide (600 < (n : Int)) = true := decide_eq_true (by omega)
      have g1 : decide ((n : Int) ≤ 4096) = false := decide_eq_false (by omega)
      have e : decide (600 < n ∧ n ≤ 4096 ∨ 5000 < n) = decide (5000 < (n : Int)) := by
        rw [Bool.eq_iff_iff, decide_eq_true_iff, decide_eq_true_iff]; omega
      rw [e]
      clear e
      go_enter Try.func9, Try.ntmps9
      go_wp2
      go_ret
      exact ⟨rfl, rfl⟩
  · have g0 : decide (600 < (n : Int)) = false := decide_eq_false (by omega)
    have g1 : decide (5000 < (n : Int)) = false := decide_eq_false (by omega)
    rw [decide_eq_false (by omega)]
    go_enter Try.func9, Try.ntmps9
    go_wp2
    go_ret
    exact ⟨rfl, rfl⟩
theorem k_code : Ecc.codeE [1] 1 = #[.int .u32 65539, .int .i64 0] := by
  have h : Ecc.code [1] = 65539 := by decide +kernel
  unfold Ecc.codeE
  rw [if_pos (by omega), h]; rfl
theorem k_m1 : Ecc.mend [0] 65539 = ([1], 0, 0) := by decide +kernel
theorem k_m2 : Ecc.mend [1] 65537 = ([1], -2, 0) := by decide +kernel
set_option maxHeartbeats 1000000 in
theorem known_calls (w : World) :
    Calls Try.prog 10 #[] w fun e w' => e = .returned (.bool true) ∧ Below w.heap.size w w' := by
  have hx1 := Lib.hid (Arr.lit w 5 [1] 1 rfl (by omega) (f := byteV) (cs := #[.int .u8 1]) rfl)
  have hb1 := Lib.hid ((Below.refl w.heap.size w).alloc (Nat.le_refl _) (.cells #[.int .u8 1] 5))
  go_enter Try.func10, Try.ntmps10
  go_wp2_with fail
  refine (codeE_calls _ 1 1 [1] _ hx1.out).mono ?_
  rintro e w2 ⟨rfl, hb⟩
  rw [k_code]
  have hb2 := Lib.hid (hb1.out.then_ hb)
  have hx2 := Lib.hid (Arr.lit w2 5 [0] 1 rfl (by omega) (f := byteV) (cs := #[.int .u8 0]) rfl)
  have hb3 := Lib.hid ((Below.refl w2.heap.size w2).alloc (Nat.le_refl _) (.cells #[.int .u8 0] 5))
  clear hb hb1 hx1
  go_wp2_with fail
  refine (mend_calls _ 1 1 [0] 65539 _ hx2.out (by omega)).mono ?_
  rintro e w4 ⟨a4, n4, c4, rfl, hx4, hb⟩
  rw [k_m1] at *
  obtain rfl : n4 = 1 := hx4.len.symm
  have hb4 := Lib.hid ((hb2.out.then_ hb3.out).then_ hb)
  have hx5 := Lib.hid (Arr.lit w4 5 [1] 1 rfl (by omega) (f := byteV) (cs := #[.int .u8 1]) rfl)
  have hb5 := Lib.hid ((Below.refl w4.heap.size w4).alloc (Nat.le_refl _) (.cells #[.int .u8 1] 5))
  have HX4 := Lib.hid (hx4.on hb5.out)
  clear hb hx2 hb3 hb2 hx4
  go_wp2_with fail
  refine (mend_calls _ 1 1 [1] 65537 _ hx5.out (by omega)).mono ?_
  rintro e w6 ⟨a6, n6, c6, rfl, hx6, hb⟩
  rw [k_m2] at *
  obtain rfl : n6 = 1 := hx6.len.symm
  have HX6 := Lib.hid hx6
  have HX46 := Lib.hid (HX4.out.on hb)
  have hb6 := Lib.hid ((hb4.out.then_ hb5.out).then_ hb)
  clear hb hb4 hb5 hx6 HX4 hx5
  go_wp2_with fail
  refine (codeE_calls none 0 0 [] _ (Arr.none_ _ _ _)).mono ?_
  rintro e w7 ⟨rfl, hb⟩
  rw [show Ecc.codeE [] 0 = #[.int .u32 0, .int .i64 1] from rfl]
  have HX7 := Lib.hid (HX6.out.on hb)
  have HX47 := Lib.hid (HX46.out.on hb)
  have hb7 := Lib.hid (hb6.out.then_ hb)
  clear hb HX6 HX46 hb6
  have hy8 := Lib.hid (Arr.lit w7 5 [1] 1 rfl (by omega) (f := byteV) (cs := #[.int .u8 1]) rfl)
  have hb8 := Lib.hid ((Below.refl w7.heap.size w7).alloc (Nat.le_refl _) (.cells #[.int .u8 1] 5))
  have HX48 := Lib.hid (HX47.out.on hb8.out)
  have HX8 := Lib.hid (HX7.out.on hb8.out)
  go_wp2_with fail
  refine (same_yes a4 _ 1 c4 1 1 [1] _ HX48.out hy8.out).mono ?_
  rintro e w' ⟨rfl, rfl⟩
  have HB8 := Lib.hid (hb7.out.then_ hb8.out)
  clear HX47 HX7 hb7 hb8 HX48 hy8
  generalize hW : w7.alloc (.cells #[.int .u8 1] 5) = w8 at *
  have hy9 := Lib.hid (Arr.lit w8 5 [1] 1 rfl (by omega) (f := byteV) (cs := #[.int .u8 1]) rfl)
  have hb9 := Lib.hid ((Below.refl w8.heap.size w8).alloc (Nat.le_refl _) (.cells #[.int .u8 1] 5))
  have HX9 := Lib.hid (HX8.out.on hb9.out)
  clear hW
  go_wp2_with fail
  refine (same_yes a6 _ 1 c6 1 1 [1] _ HX9.out hy9.out).mono ?_
  rintro e w' ⟨rfl, rfl⟩
  have HB9 := Lib.hid (HB8.out.then_ hb9.out)
  go_wp2
  go_ret
  exact ⟨rfl, HB9.out⟩
end Go.Proofs.Ytceoogpmcijlaaa
