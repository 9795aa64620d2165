/-
  crc.Put and the reference's Put compute Crc.put.
-/
import Derived.Test.YtfcikigdmecbnaaRows
import Derived.Test.YtfcikigdmecbnaaBase
import Derived.Test.YtfcikigdmecbnaaCrcMath
namespace Go.Proofs.Ytfcikigdmecbnaa
open Go.RowKit

set_option maxHeartbeats 400000 in
theorem put_calls (r : BitVec 32) (b : UInt8) (w : World) :
    Calls Try.prog 41 #[.int .u32 r.toNat, .int .u8 b.toNat] w fun e w' => e = .returned (.int .u32 (Crc.put r b).toNat) ∧ w = w' := by
  have hb0 : b.toNat < 256 := b.toNat_lt
  go_enter Try.func41, Try.ntmps41
  go_wp2
  go_loop [0, 9] (fun x i => ∃ k : Nat, k ≤ 8 ∧ i = .int .i64 k ∧ x = .int .u32 (Crc.stpN k (r ^^^ b.toBitVec.setWidth 32)).toNat) (fun _ i => 8 - (intOf i).toNat)
  case atStart =>
    exact ⟨0, by omega, rfl, by rw [byte_u32, bits_xor_u32]; rfl⟩
  case round =>
    obtain ⟨k, hk, rfl, rfl⟩ := hrel
    by_cases hlt : k < 8
    · generalize hx : Crc.stpN k (r ^^^ b.toBitVec.setWidth 32) = x at *
      have HX := Lib.hid hx
      clear hx
      have h1 := bits_and_u32 x 1#32
      by_cases hb : x &&& 1#32 = 1#32
      · have ht : (bits BinOp.and IntKind.u32 (x.toNat : Int) 1 == 1) = true := by
          rw [beq_iff_eq]; refine h1.trans ?_; rw [hb]; rfl
        clear h1
        have HB := Lib.hid hb
        clear hb
        go_wp2
        go_round
        case rel => exact ⟨k + 1, by omega, by go_num, by
          rw [shr1_u32, show (3988292384 : Int) = ((3988292384#32).toNat : Int) from rfl, bits_xor_u32, Crc.stpN, HX.out, Crc.stp, if_pos HB.out]⟩
        case measure => simp [intOf]; omega
      · have ht : (bits BinOp.and IntKind.u32 (x.toNat : Int) 1 == 1) = false := by
          rw [beq_eq_false_iff_ne]; intro hh; apply hb
          have := h1.symm.trans hh
          exact BitVec.eq_of_toNat_eq (by have e : (1#32).toNat = 1 := rfl; rw [e]; omega)
        clear h1
        have HB := Lib.hid hb
        clear hb
        go_wp2
        go_round
        case rel => exact ⟨k + 1, by omega, by go_num, by rw [shr1_u32, Crc.stpN, HX.out, Crc.stp, if_neg HB.out]⟩
        case measure => simp [intOf]; omega
    · obtain rfl : k = 8 := by omega
      go_wp2
      go_ret
      exact ⟨rfl, rfl⟩
end Go.Proofs.Ytfcikigdmecbnaa
