/-
  inode.put: a number behind bytes, the least byte first.
-/
import Derived.Test.YtjnjemhnceejeaaNumBig
namespace Go.Proofs.Ytjnjemhnceejeaa
open Go.RowKit

set_option maxHeartbeats 1000000 in
theorem put_calls (v0 : Value) (xs : List UInt8) (X n base : Nat) (w : World) (hX : X < 9223372036854775808) (hn : n ≤ 1000) (hl : xs.length ≤ 1000000) (h0 : Own byteV 5 w base v0 xs) (hbase : base ≤ w.heap.size) :
    Calls Try.prog 40 #[v0, .int .i64 X, .int .i64 n] w fun e w' => (∃ v, e = .returned v ∧ Own byteV 5 w' base v (xs ++ bigL X n)) ∧ Below base w w' := by
  have H0 := Lib.hid h0
  clear h0
  go_enter Try.func40, Try.ntmps40
  go_wp2
  go_loopw [0, 1, 8] (fun v x i wr => ∃ k : Nat, k ≤ n ∧ i = .int .i64 k ∧ x = .int .i64 (X / 256 ^ k : Nat) ∧ Own byteV 5 wr base v (xs ++ bigL X k) ∧ Below base w wr) (fun _ _ i _ => n - (intOf i).toNat)
  case atStart =>
    exact ⟨0, by omega, rfl, by simp, by simpa [bigL] using H0.out, Below.refl _ _⟩
  case round =>
    obtain ⟨k, hk, rfl, rfl, ho, hb⟩ := hrel
    have HO := Lib.hid ho
    have HB := Lib.hid hb
    have hsz := hb.size
    have hlt0 : X / 256 ^ k < 9223372036854775808 := Nat.lt_of_le_of_lt (Nat.div_le_self _ _) hX
    have hnext := Lib.hid (show X / 256 ^ k / 256 = X / 256 ^ (k + 1) by rw [Nat.div_div_eq_div_mul, Nat.pow_succ])
    have hbyte := Lib.hid (show (UInt8.ofNat (X / 256 ^ k)).toNat = X / 256 ^ k % 256 by rw [UInt8.toNat_ofNat'])
    generalize hY : X / 256 ^ k = Y at *
    have HY := Lib.hid hY
    clear ho hb hY
    by_cases hlt : k < n
    · have hlit := Lib.hid (show #[Value.int .u8 ((Y : Int) % 256)] = ([UInt8.ofNat Y].map byteV).toArray by
        rw [show ((Y : Int) % 256) = ((Y % 256 : Nat) : Int) by omega, ← hbyte.out]; rfl)
      go_wp2_with (at_builtin; refine wpList_appB rfl _ _ rfl base _ (xs ++ bigL X k) rfl (HO.out.alloc _) _ _ _ _ [UInt8.ofNat Y] rfl (Arr.lit wr 5 [UInt8.ofNat Y] 1 rfl (by omega) hlit.out) (by rw [List.length_append, bigL_len]; omega) (by simp; omega) ?_; intro v1 w1 hown1 hg1 hat1)
      go_roundw
      case rel =>
        refine ⟨k + 1, by omega, by go_num, ?_, ?_, ?_⟩
        · rw [← hnext.out]; exact congrArg (Value.int .i64) (by omega)
        · rw [bigL_snoc, HY.out, ← List.append_assoc]; exact hown1
        · exact below_own (HB.out.alloc (by omega) _) (HO.out.alloc _) hg1 (by simp; omega)
      case measure => simp [intOf]; omega
    · obtain rfl : k = n := by omega
      go_wp2
      go_ret
      exact ⟨⟨_, rfl, HO.out⟩, HB.out⟩
theorem putI_calls (v0 : Value) (xs : List UInt8) (x : Int) (n base : Nat) (w : World) (h1 : 0 ≤ x) (h2 : x ≤ 9223372036854775807) (hn : n ≤ 1000) (hl : xs.length ≤ 1000000) (h0 : Own byteV 5 w base v0 xs) (hbase : base ≤ w.heap.size) :
    Calls Try.prog 40 #[v0, .int .i64 x, .int .i64 n] w fun e w' => (∃ v, e = .returned v ∧ Own byteV 5 w' base v (xs ++ bigL x.toNat n)) ∧ Below base w w' := by
  have h := put_calls v0 xs x.toNat n base w (by omega) hn hl h0 hbase
  rw [Int.toNat_of_nonneg h1] at h
  exact h
end Go.Proofs.Ytjnjemhnceejeaa
