/-
  crc.Put and the reference's Put compute Crc.put.
-/
/-
  crc.More, crc.Sum and the reference's compute Crc.more, Crc.sum of the bytes that they are given.
-/
import Derived.Test.YtkkkggeagjgbeaaRows
import Derived.Test.YtkkkggeagjgbeaaBase
import Derived.Test.YtkkkggeagjgbeaaCrcMath
namespace Go.Proofs.Ytkkkggeagjgbeaa
open Go.RowKit

set_option maxHeartbeats 400000 in
theorem put_calls (r : BitVec 32) (b : UInt8) (w : World) :
    Calls Try.prog 77 #[.int .u32 r.toNat, .int .u8 b.toNat] w fun e w' => e = .returned (.int .u32 (Crc.put r b).toNat) ∧ w = w' := by
  have hb0 : b.toNat < 256 := b.toNat_lt
  go_enter Try.func77, Try.ntmps77
  go_wp2
  go_loop [0, 9] (fun x i => ∃ k : Nat, k ≤ 8 ∧ i = .int .i64 k ∧ x = .int .u32 (Crc.stpN k (r ^^^ b.toBitVec.setWidth 32)).toNat) (fun _ i => 8 - (intOf i).toNat)
  case atStart =>
    exact ⟨0, by omega, rfl, by rw [byte_u32, bits_xor_u32]; rfl⟩
  case round =>
    obtain ⟨k, hk, rfl, rfl⟩ := hrel
    by_cases hlt : k < 8
    · generalize hx : Crc.stpN k (r ^^^ b.toBitVec.setWidth 32) = x at *
      have HX := Lib.hid hx
      clear hx
      have h1 := bits_and_u32 x 1#32
      by_cases hb : x &&& 1#32 = 1#32
      · have ht : (bits BinOp.and IntKind.u32 (x.toNat : Int) 1 == 1) = true := by
          rw [beq_iff_eq]; refine h1.trans ?_; rw [hb]; rfl
        clear h1
        have HB := Lib.hid hb
        clear hb
        go_wp2
        go_round
        case rel => exact ⟨k + 1, by omega, by go_num, by
          rw [shr1_u32, show (3988292384 : Int) = ((3988292384#32).toNat : Int) from rfl, bits_xor_u32, Crc.stpN, HX.out, Crc.stp, if_pos HB.out]⟩
        case measure => simp [intOf]; omega
      · have ht : (bits BinOp.and IntKind.u32 (x.toNat : Int) 1 == 1) = false := by
          rw [beq_eq_false_iff_ne]; intro hh; apply hb
          have := h1.symm.trans hh
          exact BitVec.eq_of_toNat_eq (by have e : (1#32).toNat = 1 := rfl; rw [e]; omega)
        clear h1
        have HB := Lib.hid hb
        clear hb
        go_wp2
        go_round
        case rel => exact ⟨k + 1, by omega, by go_num, by rw [shr1_u32, Crc.stpN, HX.out, Crc.stp, if_neg HB.out]⟩
        case measure => simp [intOf]; omega
    · obtain rfl : k = 8 := by omega
      go_wp2
      go_ret
      exact ⟨rfl, rfl⟩
end Go.Proofs.Ytkkkggeagjgbeaa
namespace Go.Proofs.Ytkkkggeagjgbeaa
open Go.RowKit

theorem take_snoc {α : Type} (l : List α) (k : Nat) (h : k < l.length) : l.take (k + 1) = l.take k ++ [l[k]] := by
  rw [List.take_succ_eq_append_getElem h]

theorem shr_succ (y : BitVec 32) (k : Nat) : y >>> k >>> 1 = y >>> (k + 1) := by
  apply BitVec.eq_of_toNat_eq
  simp only [BitVec.toNat_ushiftRight, Nat.shiftRight_add]
theorem digit_eq (x : BitVec 32) (b : UInt8) (k : Nat) :
    (x &&& 1#32 = 1#32 → (bits BinOp.and IntKind.u32 (bits BinOp.xor IntKind.u32 ((x ^^^ b.toBitVec.setWidth 32 >>> k).toNat : Int) ((b.toNat : Int) / (2 : Int) ^ k)) 1 == 1) = true) ∧
    (¬ x &&& 1#32 = 1#32 → (bits BinOp.and IntKind.u32 (bits BinOp.xor IntKind.u32 ((x ^^^ b.toBitVec.setWidth 32 >>> k).toNat : Int) ((b.toNat : Int) / (2 : Int) ^ k)) 1 == 1) = false) := by
  have hs : (b.toNat : Int) / (2 : Int) ^ k = ((b.toBitVec.setWidth 32 >>> k).toNat : Int) := by
    rw [← shr_u32, byte_u32]; simp
  have h1 := bits_and_u32 x 1#32
  rw [hs, bits_xor_u32, BitVec.xor_assoc, BitVec.xor_self, BitVec.xor_zero]
  refine ⟨fun hb => ?_, fun hb => ?_⟩
  · rw [beq_iff_eq]; refine h1.trans ?_; rw [hb]; rfl
  · rw [beq_eq_false_iff_ne]; intro hh; apply hb
    have := h1.symm.trans hh
    exact BitVec.eq_of_toNat_eq (by have e : (1#32).toNat = 1 := rfl; rw [e]; omega)
theorem digit_next (x : BitVec 32) (b : UInt8) (k : Nat) :
    (x &&& 1#32 = 1#32 → Crc.stp x ^^^ b.toBitVec.setWidth 32 >>> (k + 1) = (x ^^^ b.toBitVec.setWidth 32 >>> k) >>> 1 ^^^ 3988292384#32) ∧
    (¬ x &&& 1#32 = 1#32 → Crc.stp x ^^^ b.toBitVec.setWidth 32 >>> (k + 1) = (x ^^^ b.toBitVec.setWidth 32 >>> k) >>> 1) := by
  refine ⟨fun hb => ?_, fun hb => ?_⟩
  · rw [Crc.stp, if_pos hb, BitVec.ushiftRight_xor_distrib, shr_succ, BitVec.xor_assoc, BitVec.xor_assoc, BitVec.xor_comm 3988292384#32]
  · rw [Crc.stp, if_neg hb, BitVec.ushiftRight_xor_distrib, shr_succ]

set_option maxHeartbeats 400000 in
theorem more_calls (s : BitVec 32) (a : Option Addr) (n c : Nat) (xs : List UInt8) (w : World) (hx : Bytes w w.heap.size a n xs) :
    Calls Try.prog 75 #[.int .u32 s.toNat, .slice a n c] w fun e w' => e = .returned (.int .u32 (Crc.more s xs).toNat) ∧ w = w' := by
  have hn := hx.len
  have hroom := hx.room
  have HN := Lib.hid hn
  clear hn
  go_enter Try.func75, Try.ntmps75
  go_wp2
  go_loop [5, 7, 12] (fun x _c i => ∃ k : Nat, k ≤ n ∧ i = .int .i64 k ∧ x = .int .u32 (Crc.puts (~~~s) (xs.take k)).toNat) (fun _ _ i => n - (intOf i).toNat)
  case atStart =>
    exact ⟨0, by omega, rfl, by rw [notx_u32]; rfl⟩
  case round =>
    obtain ⟨k, hk, rfl, rfl⟩ := hrel
    by_cases hlt : k < n
    · obtain ⟨b, o, hk', rfl, hb, hc⟩ := hx.at_ hlt
      go_wp2_with (go_at_call 77; refine (put_calls _ _ _).mono ?_; rintro e w' ⟨rfl, rfl⟩)
      go_round
      case rel => exact ⟨k + 1, by omega, by go_num, by rw [take_snoc _ _ hk', Crc.puts_snoc]⟩
      case measure => simp [intOf]; omega
    · obtain rfl : k = n := by omega
      go_wp2
      go_ret
      exact ⟨by rw [List.take_of_length_le (by have := HN.out; omega)]; exact congrArg (fun z => Ending.returned (Value.int .u32 z)) (notx_u32 _), rfl⟩

theorem sum_calls (a : Option Addr) (n c : Nat) (xs : List UInt8) (w : World) (hx : Bytes w w.heap.size a n xs) :
    Calls Try.prog 70 #[.slice a n c] w fun e w' => e = .returned (.int .u32 (Crc.sum xs).toNat) ∧ w = w' := by
  go_enter Try.func70, Try.ntmps70
  go_wp2_with (go_at_call 75; refine (more_calls 0#32 _ _ _ xs _ hx).mono ?_; rintro e w' ⟨rfl, rfl⟩)
  go_ret
  exact ⟨rfl, rfl⟩
end Go.Proofs.Ytkkkggeagjgbeaa
