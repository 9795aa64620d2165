/-
  ecc.power and the reference's power; the reference's Places.
-/
import Derived.Test.YtceoogpmcijlaaaEccPow
import Derived.Test.YtceoogpmcijlaaaBytes
namespace Go.Proofs.Ytceoogpmcijlaaa
open Go.RowKit

theorem ofInt_u32 (a : Nat) (ha : a < 4294967296) : (BitVec.ofInt 32 (a : Int)).toNat = a := by
  rw [BitVec.ofInt_natCast, BitVec.toNat_ofNat]; exact Nat.mod_eq_of_lt (by omega)
theorem u32_and_nat (a b : Nat) (ha : a < 4294967296) (hb : b < 4294967296) : bits .and .u32 (a : Int) (b : Int) = ((a &&& b : Nat) : Int) := by
  have hx : a &&& b < 2 ^ 32 := Nat.and_lt_two_pow _ (by omega)
  show IntKind.u32.wrap ((BitVec.ofInt 32 (a : Int) &&& BitVec.ofInt 32 (b : Int)).toNat : Int) = _
  rw [BitVec.toNat_and, ofInt_u32 a ha, ofInt_u32 b hb]
  exact IntWalk.u32_in _ ⟨by omega, by omega⟩
theorem u32_xor_nat (a b : Nat) (ha : a < 4294967296) (hb : b < 4294967296) : bits .xor .u32 (a : Int) (b : Int) = ((a ^^^ b : Nat) : Int) := by
  have hx : a ^^^ b < 2 ^ 32 := Nat.xor_lt_two_pow (by omega) (by omega)
  show IntKind.u32.wrap ((BitVec.ofInt 32 (a : Int) ^^^ BitVec.ofInt 32 (b : Int)).toNat : Int) = _
  rw [BitVec.toNat_xor, ofInt_u32 a ha, ofInt_u32 b hb]
  exact IntWalk.u32_in _ ⟨by omega, by omega⟩
theorem power_calls (a : Nat) (w : World) (h1 : 1 ≤ a) (h2 : a < 4294967296) :
    Calls Try.prog 39 #[.int .u32 a] w fun e w' => e = .returned (.bool (Ecc.pow2 a)) ∧ w = w' := by
  have he : bits .and .u32 (a : Int) ((a : Int) - 1) = ((a &&& (a - 1) : Nat) : Int) := by
    rw [show (a : Int) - 1 = ((a - 1 : Nat) : Int) by omega]
    exact u32_and_nat a (a - 1) h2 (by omega)
  go_enter Try.func39, Try.ntmps39
  go_wp2
  go_ret
  refine ⟨?_, rfl⟩
  refine congrArg (fun z => Ending.returned (Value.bool z)) ?_
  unfold Ecc.pow2
  generalize a &&& (a - 1) = m
  rw [Bool.eq_iff_iff]
  simp
set_option maxHeartbeats 1000000 in
theorem refPower_calls (n : Nat) (w : World) (h1 : 0 < n) (h2 : n < 9223372036854775808) :
    Calls Try.prog 32 #[.int .i64 n] w fun e w' => e = .returned (.bool (Ecc.pow2 n)) ∧ w = w' := by
  go_enter Try.func32, Try.ntmps32
  go_wp2
  go_loop [0] (fun x => ∃ y : Nat, x = .int .i64 y ∧ 0 < y ∧ y ≤ n ∧ Ecc.pow2 y = Ecc.pow2 n) (fun x => (intOf x).toNat)
  case atStart => exact ⟨n, rfl, h1, Nat.le_refl _, rfl⟩
  case round =>
    obtain ⟨y, rfl, hy, hyn, hp⟩ := hrel
    have HP := Lib.hid hp
    clear hp
    by_cases hgt : 1 < y
    · rcases Nat.mod_two_eq_zero_or_one y with he | he
      · obtain ⟨m, rfl⟩ : ∃ m, y = 2 * m := ⟨y / 2, by omega⟩
        have H2 := Lib.hid (Ecc.pow2_even m (by omega))
        have g1 : (1 : Int) < 2 * (m : Int) := by omega
        have g2 : ((2 * (m : Int)) % 2 == 0) = true := by rw [beq_iff_eq]; omega
        clear he
        go_wp2
        go_round
        case rel => exact ⟨m, by go_num, by omega, by omega, by rw [← H2.out, HP.out]⟩
        case measure => simp [intOf]; omega
      · obtain ⟨m, rfl⟩ : ∃ m, y = 2 * m + 1 := ⟨y / 2, by omega⟩
        have H2 := Lib.hid (Ecc.pow2_odd m (by omega))
        have g1 : (1 : Int) < 2 * (m : Int) + 1 := by omega
        have g2 : ((2 * (m : Int) + 1) % 2 == 0) = false := by rw [beq_eq_false_iff_ne]; omega
        have g3 : (2 * (m : Int) + 1 == 1) = false := by rw [beq_eq_false_iff_ne]; omega
        clear he
        go_wp2
        go_ret
        exact ⟨by rw [← HP.out, H2.out]; rfl, rfl⟩
    · obtain rfl : y = 1 := by omega
      go_wp2
      go_ret
      exact ⟨by rw [← HP.out]; rfl, rfl⟩
end Go.Proofs.Ytceoogpmcijlaaa
