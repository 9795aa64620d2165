/-
  ecc.places: what a block's bits sum to.
-/
import Derived.Test.YtceoogpmcijlaaaEccPower
import Derived.Test.YtceoogpmcijlaaaEccBound
namespace Go.Proofs.Ytceoogpmcijlaaa
open Go.RowKit

theorem ofInt_u8 (a : Nat) (ha : a < 256) : (BitVec.ofInt 8 (a : Int)).toNat = a := by
  rw [BitVec.ofInt_natCast, BitVec.toNat_ofNat]; exact Nat.mod_eq_of_lt (by omega)
theorem u8_and_one (a : Nat) (ha : a < 256) : bits .and .u8 (a : Int) 1 = ((a % 2 : Nat) : Int) := by
  show IntKind.u8.wrap ((BitVec.ofInt 8 (a : Int) &&& BitVec.ofInt 8 ((1 : Nat) : Int)).toNat : Int) = _
  rw [BitVec.toNat_and, ofInt_u8 a ha, ofInt_u8 1 (by omega), Nat.and_one_is_mod]
  exact IntWalk.u8_in _ ⟨by omega, by omega⟩
theorem bit_test (b : Nat) (hb : b < 256) (i : Nat) : (bits BinOp.and IntKind.u8 ((b : Int) / (2 : Int) ^ i) 1 == 1) = b.testBit i := by
  have e : (b : Int) / (2 : Int) ^ i = ((b / 2 ^ i : Nat) : Int) := by simp
  rw [e, u8_and_one _ (Nat.lt_of_le_of_lt (Nat.div_le_self _ _) hb), Nat.testBit_eq_decide_div_mod_eq, Bool.eq_iff_iff, beq_iff_eq, decide_eq_true_iff]
  omega
set_option maxHeartbeats 4000000 in
theorem places_calls (a : Option Addr) (n c : Nat) (xs : List UInt8) (w : World) (hx : Bytes w w.heap.size a n xs) (hn : n ≤ 4096) :
    Calls Try.prog 24 #[.slice a n c] w fun e w' => e = .returned (.tuple #[.int .u32 (Ecc.sumX xs (8 * n) : Nat), .int .i64 (Ecc.sumN xs (8 * n) : Nat)]) ∧ w = w' := by
  have HX := Lib.hid hx
  clear hx
  go_enter Try.func24, Try.ntmps24
  go_wp2
  go_loop [4, 5, 6, 8, 9, 12, 16] (fun x m p _c _i k _j => ∃ kk : Nat, kk ≤ n ∧ k = .int .i64 kk ∧ x = .int .u32 (Ecc.sumX xs (8 * kk) : Nat) ∧ m = .int .i64 (Ecc.sumN xs (8 * kk) : Nat) ∧ p = .int .u32 (Ecc.place (8 * kk) : Nat)) (fun _ _ _ _ _ k _ => n - (intOf k).toNat)
  case atStart => exact ⟨0, by omega, rfl, rfl, rfl, rfl⟩
  case round =>
    obtain ⟨kk, hk, rfl, rfl, rfl, rfl⟩ := hrel
    by_cases hlt : kk < n
    · obtain ⟨b, o, hk', rfl, hbb, hcell⟩ := HX.out.at_ hlt
      have hb1 := (xs[kk]).toNat_lt
      have HBit := Lib.hid (fun (i : Nat) (hi : i < 8) => Ecc.bit_at (xs := xs) hk' hi)
      generalize xs[kk].toNat = bb at *
      go_wp2
      go_loop [4, 5, 6, 9, 16] (fun x m p _i j => ∃ i : Nat, i ≤ 8 ∧ j = .int .i64 i ∧ x = .int .u32 (Ecc.sumX xs (8 * kk + i) : Nat) ∧ m = .int .i64 (Ecc.sumN xs (8 * kk + i) : Nat) ∧ p = .int .u32 (Ecc.place (8 * kk + i) : Nat)) (fun _ _ _ _ j => 8 - (intOf j).toNat)
      case atStart => exact ⟨0, by omega, rfl, rfl, rfl, rfl⟩
      case round =>
        obtain ⟨i, hi, rfl, rfl, rfl, rfl⟩ := hrel
        by_cases hi8 : i < 8
        · have ht := bit_test bb hb1 i
          rw [← HBit.out i hi8] at ht
          have hX := Ecc.sumX_lt xs (8 * kk + i) (by omega)
          have hN := Ecc.sumN_le xs (8 * kk + i)
          have hP := Ecc.place_bound (8 * kk + i) (by omega)
          have hP3 := Ecc.place_ge (8 * kk + i)
          have HX1 := Lib.hid (show Ecc.sumX xs (8 * kk + (i + 1)) = if Ecc.bit xs (8 * kk + i) then Ecc.sumX xs (8 * kk + i) ^^^ Ecc.place (8 * kk + i) else Ecc.sumX xs (8 * kk + i) from rfl)
          have HN1 := Lib.hid (show Ecc.sumN xs (8 * kk + (i + 1)) = if Ecc.bit xs (8 * kk + i) then Ecc.sumN xs (8 * kk + i) + 1 else Ecc.sumN xs (8 * kk + i) from rfl)
          have HP1 := Lib.hid (show Ecc.place (8 * kk + (i + 1)) = if Ecc.pow2 (Ecc.place (8 * kk + i) + 1) then Ecc.place (8 * kk + i) + 2 else Ecc.place (8 * kk + i) + 1 from rfl)
          have hxor := u32_xor_nat (Ecc.sumX xs (8 * kk + i)) (Ecc.place (8 * kk + i)) (by omega) (by omega)
          generalize Ecc.sumX xs (8 * kk + i) = X at *
          generalize Ecc.sumN xs (8 * kk + i) = M at *
          generalize Ecc.place (8 * kk + i) = P at *
          cases hbit : Ecc.bit xs (8 * kk + i)
          all_goals
            rw [hbit] at ht HX1 HN1
            clear hbit
            cases hpw : Ecc.pow2 (P + 1)
            all_goals
              rw [hpw] at HP1
              have hpc := Lib.hid (power_calls (P + 1) w (by omega) (by omega))
              rw [hpw] at hpc
              clear hpw
              go_wp2_with (go_at_call 39; refine hpc.out.mono ?_; rintro e w' ⟨rfl, rfl⟩)
              go_round
              case rel => exact ⟨i + 1, by omega, by go_num, by rw [HX1.out]; first | rfl | exact congrArg (Value.int .u32) hxor, by rw [HN1.out]; first | rfl | go_num, by rw [HP1.out]; first | rfl | go_num⟩
              case measure => simp [intOf]; omega
        · obtain rfl : i = 8 := by omega
          go_wp2
          go_round
          case rel => exact ⟨kk + 1, by omega, by go_num, rfl, rfl, rfl⟩
          case measure => simp [intOf]; omega
    · obtain rfl : kk = n := by omega
      go_wp2
      go_ret2
      exact ⟨rfl, rfl⟩
end Go.Proofs.Ytceoogpmcijlaaa
