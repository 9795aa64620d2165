/-
  The reference's Big: a number in so many bytes, the least one first.
-/
import Derived.Test.YtfcikigdmecbnaaBytes
import Derived.Test.YtfcikigdmecbnaaNumMath
namespace Go.Proofs.Ytfcikigdmecbnaa
open Go.RowKit

def Fresh (l : List UInt8) (w : World) (e : Ending) (w' : World) : Prop := ∃ v, e = .returned v ∧ Own byteV 5 w' w.heap.size v l ∧ Below w.heap.size w w'

set_option maxHeartbeats 1000000 in
theorem refBig_calls (X n : Nat) (w : World) (hX : X < 18446744073709551616) (hn : n ≤ 1000000) :
    Calls Try.prog 42 #[.int .u64 X, .int .i64 n] w (Fresh (bigL X n) w) := by
  go_enter Try.func42, Try.ntmps42
  go_wp2
  go_loopw [0, 5, 6] (fun x v i wr => ∃ k : Nat, k ≤ n ∧ i = .int .i64 k ∧ x = .int .u64 (X / 256 ^ k : Nat) ∧ Own byteV 5 wr w.heap.size v (bigL X k) ∧ Below w.heap.size w wr) (fun _ _ i _ => n - (intOf i).toNat)
  case atStart =>
    exact ⟨0, by omega, rfl, by simp, Own.nil _ _, Below.refl _ _⟩
  case round =>
    obtain ⟨k, hk, rfl, rfl, ho, hb⟩ := hrel
    have HO := Lib.hid ho
    have HB := Lib.hid hb
    have hsz := hb.size
    have hlt0 : X / 256 ^ k < 18446744073709551616 := Nat.lt_of_le_of_lt (Nat.div_le_self _ _) hX
    have hnext := Lib.hid (show X / 256 ^ k / 256 = X / 256 ^ (k + 1) by rw [Nat.div_div_eq_div_mul, Nat.pow_succ])
    have hbyte := Lib.hid (show (UInt8.ofNat (X / 256 ^ k)).toNat = X / 256 ^ k % 256 by rw [UInt8.toNat_ofNat'])
    generalize hY : X / 256 ^ k = Y at *
    have HY := Lib.hid hY
    clear ho hb hY
    by_cases hlt : k < n
    · have hlit := Lib.hid (show #[Value.int .u8 ((Y : Int) % 256)] = ([UInt8.ofNat Y].map byteV).toArray by
        rw [show ((Y : Int) % 256) = ((Y % 256 : Nat) : Int) by omega, ← hbyte.out]; rfl)
      go_wp2_with (at_builtin; refine wpList_appB rfl _ _ rfl w.heap.size _ (bigL X k) rfl (HO.out.alloc _) _ _ _ _ [UInt8.ofNat Y] rfl (Arr.lit wr 5 [UInt8.ofNat Y] 1 rfl (by omega) hlit.out) (by rw [bigL_len]; omega) (by simp; omega) ?_; intro v1 w1 hown1 hg1 hat1)
      go_roundw
      case rel =>
        refine ⟨k + 1, by omega, by go_num, ?_, ?_, ?_⟩
        · rw [← hnext.out]; exact congrArg (Value.int .u64) (by omega)
        · rw [bigL_snoc, HY.out]; exact hown1
        · exact below_own (HB.out.alloc hsz _) (HO.out.alloc _) hg1 (by simp; omega)
      case measure => simp [intOf]; omega
    · obtain rfl : k = n := by omega
      go_wp2
      go_ret
      exact ⟨_, rfl, HO.out, HB.out⟩
theorem refBigI_calls (x : Int) (n : Nat) (w : World) (h1 : 0 ≤ x) (h2 : x ≤ 18446744073709551615) (hn : n ≤ 1000000) :
    Calls Try.prog 42 #[.int .u64 x, .int .i64 n] w (Fresh (bigL x.toNat n) w) := by
  have h := refBig_calls x.toNat n w (by omega) hn
  rw [Int.toNat_of_nonneg h1] at h
  exact h
end Go.Proofs.Ytfcikigdmecbnaa
