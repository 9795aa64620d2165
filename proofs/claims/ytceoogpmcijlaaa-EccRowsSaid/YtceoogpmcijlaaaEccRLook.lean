/-
  ecc.look at any code; ecc.flip inside a row.
-/
import Derived.Test.YtceoogpmcijlaaaEccRowsM
import Derived.Test.YtceoogpmcijlaaaEccLook
import Derived.Test.YtceoogpmcijlaaaEccTurn
import Derived.StillTailTactics
namespace Go.Proofs.Ytceoogpmcijlaaa
open Go.RowKit

set_option maxHeartbeats 1000000 in
theorem look_lost (a : Option Addr) (n c : Nat) (xs : List UInt8) (C : Nat) (w : World) (hx : Bytes w w.heap.size a n xs) (hn : n ≤ 4096) (hC : 131071 < C) (hC2 : C < 4294967296) :
    Calls Try.prog 30 #[.slice a n c, .int .u32 C] w fun e w' => e = .returned (.tuple #[.int .i64 3, .int .i64 0]) ∧ w.drew = w' := by
  have hX := Ecc.sumX_lt xs (8 * n) (by omega)
  have hM := Ecc.sumN_le xs (8 * n)
  have ho := Ecc.ones_le C
  have hand := u32_and65535 C hC2
  have hxor := u32_xor_nat (Ecc.sumX xs (8 * n)) (C % 65536) (by omega) (by omega)
  have hpc := Lib.hid (places_calls a n c xs w hx hn)
  have hoc := Lib.hid (onesCount_calls C w hC2)
  generalize Ecc.sumX xs (8 * n) = X at *
  generalize Ecc.sumN xs (8 * n) = M at *
  generalize Ecc.ones C = o at *
  have hodd := odd_calls (M + o) w.drew (by omega)
  rw [Int.natCast_add] at hodd
  have hdc := Lib.hid hodd
  obtain ⟨m, hm⟩ : ∃ m, m = C % 65536 := ⟨_, rfl⟩
  rw [← hm] at hand hxor
  generalize X ^^^ m = S at *
  generalize (M + o) % 2 = q at *
  have g1 : decide (131071 < (C : Int)) = true := decide_eq_true (by omega)
  have hMo : (M : Int) + o ≤ 5000000000 := by omega
  clear hx hodd hm
  go_enter Try.func30, Try.ntmps30
  go_wp2_with (first
    | (go_at_call 24; refine hpc.out.mono ?_; rintro e w' ⟨rfl, rfl⟩)
    | (go_at_call 26; refine hoc.out.mono ?_; rintro e w' ⟨rfl, rfl⟩)
    | (go_at_call 25; refine hdc.out.mono ?_; rintro e w' ⟨rfl, rfl⟩))
  go_ret2
  exact ⟨rfl, rfl⟩
theorem lookE_calls (a : Option Addr) (n c : Nat) (xs : List UInt8) (C : Nat) (w : World) (hx : Bytes w w.heap.size a n xs) (hn : n ≤ 4096) (hC : C < 4294967296) :
    Calls Try.prog 30 #[.slice a n c, .int .u32 C] w fun e w' => e = .returned (.tuple #[.int .i64 (Ecc.lookE xs C).1, .int .i64 (Ecc.lookE xs C).2]) ∧ w.drew = w' := by
  unfold Ecc.lookE
  by_cases h : 131071 < C
  · rw [if_pos h]; exact look_lost a n c xs C w hx hn h hC
  · rw [if_neg h]; exact look_calls a n c xs C w hx hn (by omega)
/-- A bit of a part of a row is turned: one byte is written. -/
theorem flipAt_calls (g o n c : Nat) (B : UInt8) (k : Nat) (w : World) (hcell : w.cell? ⟨g, o + k / 8, none⟩ = some (byteV B)) (hfr : w.frozen? ⟨g, o + k / 8, none⟩ = false) (hn : n ≤ 4096) (hk : k < 8 * n) :
    Calls Try.prog 31 #[.slice (some ⟨g, o, none⟩) n c, .int .i64 k] w fun e w' => e = .returned (.tuple #[]) ∧ w' = w.drew.setCell ⟨g, o + k / 8, none⟩ (byteV (B ^^^ UInt8.ofNat (2 ^ (k % 8)))) := by
  have HV := Lib.hid (turn_val B (k % 8) (by omega))
  have hb1 := B.toNat_lt
  have hcell' : w.cell? ⟨g, o + k / 8, none⟩ = some (.int .u8 (B.toNat : Int)) := hcell
  have g1 : (0 : Int) ≤ (k : Int) / 8 := by omega
  have g2 : (k : Int) / 8 < (n : Int) := by omega
  have g3 : ((k : Int) / 8).toNat = k / 8 := by omega
  have g4 : (0 : Int) ≤ (k : Int) % 8 := by omega
  have g5 : (k : Int) % 8 < 8 := by omega
  have g6 : ((k : Int) % 8).toNat = k % 8 := by omega
  have g7 : IntKind.u8.wrap ((2 : Int) ^ (k % 8)) = ((2 ^ (k % 8) : Nat) : Int) := by
    have := pow_lt8 (k % 8) (by omega)
    rw [show (2 : Int) ^ (k % 8) = ((2 ^ (k % 8) : Nat) : Int) by simp]
    generalize 2 ^ (k % 8) = P at *
    exact IntWalk.u8_in _ ⟨by omega, by omega⟩
  have g8 : IntKind.i64.wrap ((k : Int) / 8) = (k : Int) / 8 := IntWalk.i64_in _ ⟨by omega, by omega⟩
  have g9 : (k : Int).tmod 8 = (k : Int) % 8 := Int.tmod_eq_emod_of_nonneg (by omega)
  have g10 : IntKind.i64.wrap ((k : Int) % 8) = (k : Int) % 8 := IntWalk.i64_in _ ⟨by omega, by omega⟩
  clear hcell
  go_enter Try.func31, Try.ntmps31
  go_wp2_with fail
  go_still_tail 10, (by kernel_rfl)
  have hcell2 : w.drew.cell? ⟨g, o + k / 8, none⟩ = some (.int .u8 (B.toNat : Int)) := hcell'
  have hfr2 : w.drew.frozen? ⟨g, o + k / 8, none⟩ = false := hfr
  change wpList _ _ _ _ _ w.drew
  obtain ⟨w2, hw2⟩ : ∃ W, W = w.drew := ⟨_, rfl⟩
  rw [← hw2] at hcell2 hfr2 ⊢
  have HW2 := Lib.hid hw2
  clear hw2 hcell' hfr g1 g2 g3 g4 g5 g6 g7 g8 g9 g10
  go_wp2
  go_end0
  refine ⟨rfl, ?_⟩
  rw [byteV_eq, ← HV.out, HW2.out]
theorem u32_or_high (i a b : Nat) (ha : a < 2 ^ i) (h : b * 2 ^ i + a < 4294967296) : bits .or .u32 (a : Int) ((b : Int) * ((2 ^ i : Nat) : Int)) = ((a + b * 2 ^ i : Nat) : Int) := by
  have h1 : b * 2 ^ i ||| a = b * 2 ^ i + a := by
    have := Nat.two_pow_add_eq_or_of_lt (i := i) (b := a) ha b
    rw [Nat.mul_comm] at this
    exact this.symm
  show IntKind.u32.wrap ((BitVec.ofInt 32 (a : Int) ||| BitVec.ofInt 32 ((b : Int) * ((2 ^ i : Nat) : Int))).toNat : Int) = _
  rw [show (b : Int) * ((2 ^ i : Nat) : Int) = ((b * 2 ^ i : Nat) : Int) by rw [Int.natCast_mul], BitVec.toNat_or, ofInt_u32 a (by omega), ofInt_u32 (b * 2 ^ i) (by omega), Nat.or_comm, h1, Nat.add_comm]
  exact IntWalk.u32_in _ ⟨by omega, by omega⟩
end Go.Proofs.Ytceoogpmcijlaaa
