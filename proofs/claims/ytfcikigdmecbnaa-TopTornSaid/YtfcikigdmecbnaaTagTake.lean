/-
  The closure of tag.Read that takes a number off the bytes.
-/
import Derived.Test.YtfcikigdmecbnaaNumNum
import Derived.Test.YtfcikigdmecbnaaTagSmall
namespace Go.Proofs.Ytfcikigdmecbnaa
open Go.RowKit

theorem ofInt_u64 (a : Nat) (ha : a < 18446744073709551616) : (BitVec.ofInt 64 (a : Int)).toNat = a := by
  rw [BitVec.ofInt_natCast, BitVec.toNat_ofNat]; exact Nat.mod_eq_of_lt (by omega)
theorem u64_or_low (X b : Nat) (hX : X * 256 ≤ 18446744073709551360) (hb : b < 256) : bits .or .u64 ((X : Int) * 256) (b : Int) = ((X * 256 + b : Nat) : Int) := by
  have h1 : X * 256 ||| b = X * 256 + b := by
    have := Nat.two_pow_add_eq_or_of_lt (i := 8) (b := b) hb X
    rw [Nat.mul_comm X 256]
    exact this.symm
  have e : (X : Int) * 256 = ((X * 256 : Nat) : Int) := by omega
  rw [e]
  have a1 : (BitVec.ofInt 64 ((X * 256 : Nat) : Int)).toNat = X * 256 := ofInt_u64 _ (by omega)
  have a2 : (BitVec.ofInt 64 (b : Int)).toNat = b := ofInt_u64 _ (by omega)
  show IntKind.u64.wrap ((BitVec.ofInt 64 ((X * 256 : Nat) : Int) ||| BitVec.ofInt 64 (b : Int)).toNat : Int) = _
  rw [BitVec.toNat_or, a1, a2, h1]
  exact IntWalk.u64_in _ ⟨by omega, by omega⟩
set_option maxHeartbeats 1000000 in
theorem ttake_calls (R B : Nat) (a : Option Addr) (n c : Nat) (xs : List UInt8) (k : Nat) (w : World) (hR : Blk w R 23 #[.slice a n c]) (hx : Bytes w B a n xs) (hk : k ≤ n) (hk8 : k ≤ 8) :
    Calls Try.prog 31 #[.int .i64 k, .pointer (some ⟨R, 0, none⟩)] w fun e w' => e = .returned (.int .u64 (numL (xs.take k) : Nat)) ∧ w' = w.setCell ⟨R, 0, none⟩ (.slice (cutA a c k) (n - k : Nat) (c - k : Nat)) := by
  have hl := hx.len
  have hm := Lib.hid (hx.take hk)
  have hml : (xs.take k).length = k := by rw [List.length_take]; omega
  generalize hys : xs.take k = ys at *
  clear hys
  have HL := Lib.hid hml
  have c0 := hR.cellv (i := 0) rfl
  have f0 := hR.frozen 0
  clear hml hl
  go_enter Try.func31, Try.ntmps31
  go_wp2
  go_loop [4, 5] (fun x i => ∃ j : Nat, j ≤ k ∧ i = .int .i64 ((j : Int) - 1) ∧ x = .int .u64 (numL (ys.drop j) : Nat)) (fun _ i => (intOf i + 1).toNat)
  case atStart =>
    exact ⟨k, by omega, rfl, by rw [List.drop_of_length_le (by have := HL.out; omega)]; rfl⟩
  case round =>
    obtain ⟨j, hj, rfl, rfl⟩ := hrel
    by_cases hlt : 0 < j
    · obtain ⟨b, o, hk', rfl, hb, hc⟩ := hm.out.at_ (k := j - 1) (by omega)
      have hd := numL_drop ys (j - 1) hk'
      rw [Nat.sub_add_cancel hlt] at hd
      have hlt2 := numL_drop_lt hk8 HL.out j hlt hj
      have hbl := (ys[j - 1]).toNat_lt
      have HD := Lib.hid hd
      clear hd
      have hor := u64_or_low (numL (ys.drop j)) (ys[j - 1]).toNat hlt2 hbl
      generalize hX : numL (ys.drop j) = X at *
      generalize hY : ys[j - 1] = y at *
      clear hX hY
      obtain ⟨i, rfl⟩ : ∃ i, j = i + 1 := ⟨j - 1, by omega⟩
      rw [Nat.add_sub_cancel] at hc
      rw [Nat.add_sub_cancel] at HD
      rw [show ((i + 1 : Nat) : Int) - 1 = (i : Int) by omega]
      go_wp2
      go_round
      case rel => exact ⟨i, by omega, by go_num, by rw [HD.out]; exact congrArg (Value.int .u64) (by omega)⟩
      case measure => simp [intOf]
    · obtain rfl : j = 0 := by omega
      have hcut := cutB_from a n c k hk
      go_wp2
      go_ret
      exact ⟨rfl, rfl⟩
/-- What a take leaves: the rest is shorter; no other block has changed. -/
structure TTaken (R B m : Nat) (ys : List UInt8) (w w' : World) : Prop where
  rest : ∃ a' c', Blk w' R 23 #[.slice a' m c'] ∧ Bytes w' B a' m ys ∧ m ≤ c'
  far : ∀ {g t cs}, g ≠ R → Blk w g t cs → Blk w' g t cs
  size : w'.heap.size = w.heap.size
  below : ∀ {D}, D ≤ R → Below D w w'
theorem ttake_next (R B : Nat) (a : Option Addr) (n c : Nat) (xs : List UInt8) (k m j i : Nat) (w : World) (hR : Blk w R 23 #[.slice a n c]) (hx : Bytes w B a n (xs.drop j)) (hnc : n ≤ c) (hB : B ≤ R) (hn : n = m + k) (hi : i = j + k) (hk8 : k ≤ 8) :
    Calls Try.prog 31 #[.int .i64 k, .pointer (some ⟨R, 0, none⟩)] w fun e w' => e = .returned (.int .u64 (Tg.num xs j k : Nat)) ∧ TTaken R B m (xs.drop i) w w' := by
  refine (ttake_calls R B a n c (xs.drop j) k w hR hx (by omega) hk8).mono ?_
  rintro e w' ⟨rfl, rfl⟩
  have h := (hx.drop (l := k) (by omega) hnc).below ((Below.refl B w).setCell (p := ⟨R, 0, none⟩) hB (.slice (cutA a c k) (n - k : Nat) (c - k : Nat)))
  have hr := hR.set 0 (.slice (cutA a c k) (n - k : Nat) (c - k : Nat))
  rw [List.drop_drop, ← hi] at h
  have e : n - k = m := by omega
  rw [e] at h hr ⊢
  exact ⟨rfl, ⟨_, _, hr, h, by omega⟩, fun hne hb => hb.far hne _, by simp, fun hD => (Below.refl _ _).setCell hD _⟩
end Go.Proofs.Ytfcikigdmecbnaa
