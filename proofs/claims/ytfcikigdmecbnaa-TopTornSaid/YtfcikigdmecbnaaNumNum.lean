/-
  The reference's Num: the number of bytes, the least byte first.
-/
import Derived.Test.YtfcikigdmecbnaaBytes
import Derived.Test.YtfcikigdmecbnaaNumMath
namespace Go.Proofs.Ytfcikigdmecbnaa
open Go.RowKit

theorem numL_drop (xs : List UInt8) (k : Nat) (h : k < xs.length) : numL (xs.drop k) = xs[k].toNat + 256 * numL (xs.drop (k + 1)) := by
  rw [List.drop_eq_getElem_cons h, numL]
theorem numL_drop_lt {xs : List UInt8} {n : Nat} (hn : n ≤ 8) (hl : xs.length = n) (k : Nat) (hk : 0 < k) (hkn : k ≤ n) : numL (xs.drop k) * 256 ≤ 18446744073709551360 := by
  have h := numL_lt (xs.drop k)
  rw [List.length_drop, hl] at h
  have h2 : (256 : Nat) ^ (n - k) ≤ 256 ^ 7 := Nat.pow_le_pow_right (by omega) (by omega)
  have h3 : (256 : Nat) ^ 7 = 72057594037927936 := by decide
  omega
set_option maxHeartbeats 1000000 in
theorem refNum_calls (a : Option Addr) (n c : Nat) (xs : List UInt8) (w : World) (hx : Bytes w w.heap.size a n xs) (hn : n ≤ 8) :
    Calls Try.prog 37 #[.slice a n c] w fun e w' => e = .returned (.int .u64 (numL xs : Nat)) ∧ w = w' := by
  have hl := hx.len
  have HL := Lib.hid hl
  clear hl
  go_enter Try.func37, Try.ntmps37
  go_wp2
  go_loop [3, 4] (fun x i => ∃ k : Nat, k ≤ n ∧ i = .int .i64 ((k : Int) - 1) ∧ x = .int .u64 (numL (xs.drop k) : Nat)) (fun _ i => (intOf i + 1).toNat)
  case atStart =>
    exact ⟨n, by omega, rfl, by rw [List.drop_of_length_le (by have := HL.out; omega)]; rfl⟩
  case round =>
    obtain ⟨k, hk, rfl, rfl⟩ := hrel
    by_cases hlt : 0 < k
    · obtain ⟨b, o, hk', rfl, hb, hc⟩ := hx.at_ (k := k - 1) (by omega)
      have hd := numL_drop xs (k - 1) hk'
      rw [Nat.sub_add_cancel hlt] at hd
      have hlt2 := numL_drop_lt hn HL.out k hlt hk
      have hbl := (xs[k - 1]).toNat_lt
      have HD := Lib.hid hd
      clear hd
      generalize hX : numL (xs.drop k) = X at *
      generalize hY : xs[k - 1] = y at *
      have HX := Lib.hid hX
      have HY := Lib.hid hY
      clear hX hY
      obtain ⟨j, rfl⟩ : ∃ j, k = j + 1 := ⟨k - 1, by omega⟩
      rw [Nat.add_sub_cancel] at hc
      rw [Nat.add_sub_cancel] at HD
      rw [show ((j + 1 : Nat) : Int) - 1 = (j : Int) by omega]
      go_wp2
      go_round
      case rel => exact ⟨j, by omega, by go_num, by rw [HD.out]; exact congrArg (Value.int .u64) (by omega)⟩
      case measure => simp [intOf]
    · obtain rfl : k = 0 := by omega
      go_wp2
      go_ret
      exact ⟨rfl, rfl⟩
end Go.Proofs.Ytfcikigdmecbnaa
