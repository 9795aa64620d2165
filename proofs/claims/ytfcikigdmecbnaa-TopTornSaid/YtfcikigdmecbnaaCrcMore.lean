/-
  crc.More, crc.Sum and the reference's compute Crc.more, Crc.sum of the bytes that they are given.
-/
import Derived.Test.YtfcikigdmecbnaaCrcPut
import Derived.Test.YtfcikigdmecbnaaRows
import Derived.Test.YtfcikigdmecbnaaBase
namespace Go.Proofs.Ytfcikigdmecbnaa
open Go.RowKit

theorem take_snoc {α : Type} (l : List α) (k : Nat) (h : k < l.length) : l.take (k + 1) = l.take k ++ [l[k]] := by
  rw [List.take_succ_eq_append_getElem h]

theorem shr_succ (y : BitVec 32) (k : Nat) : y >>> k >>> 1 = y >>> (k + 1) := by
  apply BitVec.eq_of_toNat_eq
  simp only [BitVec.toNat_ushiftRight, Nat.shiftRight_add]
theorem digit_eq (x : BitVec 32) (b : UInt8) (k : Nat) :
    (x &&& 1#32 = 1#32 → (bits BinOp.and IntKind.u32 (bits BinOp.xor IntKind.u32 ((x ^^^ b.toBitVec.setWidth 32 >>> k).toNat : Int) ((b.toNat : Int) / (2 : Int) ^ k)) 1 == 1) = true) ∧
    (¬ x &&& 1#32 = 1#32 → (bits BinOp.and IntKind.u32 (bits BinOp.xor IntKind.u32 ((x ^^^ b.toBitVec.setWidth 32 >>> k).toNat : Int) ((b.toNat : Int) / (2 : Int) ^ k)) 1 == 1) = false) := by
  have hs : (b.toNat : Int) / (2 : Int) ^ k = ((b.toBitVec.setWidth 32 >>> k).toNat : Int) := by
    rw [← shr_u32, byte_u32]; simp
  have h1 := bits_and_u32 x 1#32
  rw [hs, bits_xor_u32, BitVec.xor_assoc, BitVec.xor_self, BitVec.xor_zero]
  refine ⟨fun hb => ?_, fun hb => ?_⟩
  · rw [beq_iff_eq]; refine h1.trans ?_; rw [hb]; rfl
  · rw [beq_eq_false_iff_ne]; intro hh; apply hb
    have := h1.symm.trans hh
    exact BitVec.eq_of_toNat_eq (by have e : (1#32).toNat = 1 := rfl; rw [e]; omega)
theorem digit_next (x : BitVec 32) (b : UInt8) (k : Nat) :
    (x &&& 1#32 = 1#32 → Crc.stp x ^^^ b.toBitVec.setWidth 32 >>> (k + 1) = (x ^^^ b.toBitVec.setWidth 32 >>> k) >>> 1 ^^^ 3988292384#32) ∧
    (¬ x &&& 1#32 = 1#32 → Crc.stp x ^^^ b.toBitVec.setWidth 32 >>> (k + 1) = (x ^^^ b.toBitVec.setWidth 32 >>> k) >>> 1) := by
  refine ⟨fun hb => ?_, fun hb => ?_⟩
  · rw [Crc.stp, if_pos hb, BitVec.ushiftRight_xor_distrib, shr_succ, BitVec.xor_assoc, BitVec.xor_assoc, BitVec.xor_comm 3988292384#32]
  · rw [Crc.stp, if_neg hb, BitVec.ushiftRight_xor_distrib, shr_succ]

set_option maxHeartbeats 400000 in
theorem refPut_calls (r : BitVec 32) (b : UInt8) (w : World) :
    Calls Try.prog 45 #[.int .u32 r.toNat, .int .u8 b.toNat] w fun e w' => e = .returned (.int .u32 (Crc.put r b).toNat) ∧ w = w' := by
  have hb0 : b.toNat < 256 := b.toNat_lt
  go_enter Try.func45, Try.ntmps45
  go_wp2
  go_loop [0, 5, 6] (fun x i _d => ∃ k : Nat, k ≤ 8 ∧ i = .int .i64 k ∧ x = .int .u32 (Crc.stpN k (r ^^^ b.toBitVec.setWidth 32) ^^^ (b.toBitVec.setWidth 32 >>> k)).toNat) (fun _ i _ => 8 - (intOf i).toNat)
  case atStart =>
    exact ⟨0, by omega, rfl, by rw [Crc.stpN, BitVec.ushiftRight_zero, BitVec.xor_assoc, BitVec.xor_self, BitVec.xor_zero]⟩
  case round =>
    obtain ⟨k, hk, rfl, rfl⟩ := hrel
    by_cases hlt : k < 8
    · have hd := digit_eq (Crc.stpN k (r ^^^ b.toBitVec.setWidth 32)) b k
      have hn := digit_next (Crc.stpN k (r ^^^ b.toBitVec.setWidth 32)) b k
      rw [← Crc.stpN] at hn
      have HN := Lib.hid hn
      clear hn
      generalize Crc.stpN k (r ^^^ b.toBitVec.setWidth 32) ^^^ b.toBitVec.setWidth 32 >>> k = z at *
      by_cases hb : Crc.stpN k (r ^^^ b.toBitVec.setWidth 32) &&& 1#32 = 1#32
      · have ht := hd.1 hb
        clear hd
        have HB := Lib.hid hb
        clear hb
        go_wp2
        go_round
        case rel => exact ⟨k + 1, by omega, by go_num, by
          rw [shr1_u32, show (3988292384 : Int) = ((3988292384#32).toNat : Int) from rfl, bits_xor_u32, ← HN.out.1 HB.out]⟩
        case measure => simp [intOf]; omega
      · have ht := hd.2 hb
        clear hd
        have HB := Lib.hid hb
        clear hb
        go_wp2
        go_round
        case rel => exact ⟨k + 1, by omega, by go_num, by rw [shr1_u32, ← HN.out.2 HB.out]⟩
        case measure => simp [intOf]; omega
    · obtain rfl : k = 8 := by omega
      have h8 : Crc.stpN 8 (r ^^^ b.toBitVec.setWidth 32) ^^^ b.toBitVec.setWidth 32 >>> 8 = Crc.put r b := by
        have e : b.toBitVec.setWidth 32 >>> 8 = 0#32 := by
          apply BitVec.eq_of_toNat_eq
          rw [BitVec.toNat_ushiftRight, BitVec.toNat_setWidth, Nat.shiftRight_eq_div_pow]
          have : b.toBitVec.toNat < 256 := b.toBitVec.isLt
          simp; omega
        rw [e, BitVec.xor_zero]; rfl
      rw [h8]
      clear h8
      go_wp2
      go_ret
      exact ⟨rfl, rfl⟩

set_option maxHeartbeats 400000 in
theorem more_calls (s : BitVec 32) (a : Option Addr) (n c : Nat) (xs : List UInt8) (w : World) (hx : Bytes w w.heap.size a n xs) :
    Calls Try.prog 34 #[.int .u32 s.toNat, .slice a n c] w fun e w' => e = .returned (.int .u32 (Crc.more s xs).toNat) ∧ w = w' := by
  have hn := hx.len
  have hroom := hx.room
  have HN := Lib.hid hn
  clear hn
  go_enter Try.func34, Try.ntmps34
  go_wp2
  go_loop [5, 7, 12] (fun x _c i => ∃ k : Nat, k ≤ n ∧ i = .int .i64 k ∧ x = .int .u32 (Crc.puts (~~~s) (xs.take k)).toNat) (fun _ _ i => n - (intOf i).toNat)
  case atStart =>
    exact ⟨0, by omega, rfl, by rw [notx_u32]; rfl⟩
  case round =>
    obtain ⟨k, hk, rfl, rfl⟩ := hrel
    by_cases hlt : k < n
    · obtain ⟨b, o, hk', rfl, hb, hc⟩ := hx.at_ hlt
      go_wp2_with (go_at_call 41; refine (put_calls _ _ _).mono ?_; rintro e w' ⟨rfl, rfl⟩)
      go_round
      case rel => exact ⟨k + 1, by omega, by go_num, by rw [take_snoc _ _ hk', Crc.puts_snoc]⟩
      case measure => simp [intOf]; omega
    · obtain rfl : k = n := by omega
      go_wp2
      go_ret
      exact ⟨by rw [List.take_of_length_le (by have := HN.out; omega)]; exact congrArg (fun z => Ending.returned (Value.int .u32 z)) (notx_u32 _), rfl⟩

set_option maxHeartbeats 400000 in
theorem refMore_calls (s : BitVec 32) (a : Option Addr) (n c : Nat) (xs : List UInt8) (w : World) (hx : Bytes w w.heap.size a n xs) :
    Calls Try.prog 43 #[.int .u32 s.toNat, .slice a n c] w fun e w' => e = .returned (.int .u32 (Crc.more s xs).toNat) ∧ w = w' := by
  have hn := hx.len
  have hroom := hx.room
  have HN := Lib.hid hn
  have hs := s.isLt
  clear hn
  go_enter Try.func43, Try.ntmps43
  go_wp2
  go_loop [5, 6] (fun x i => ∃ k : Nat, k ≤ n ∧ i = .int .i64 k ∧ x = .int .u32 (Crc.puts (~~~s) (xs.take k)).toNat) (fun _ i => n - (intOf i).toNat)
  case atStart =>
    exact ⟨0, by omega, rfl, by rw [not_u32]; rfl⟩
  case round =>
    obtain ⟨k, hk, rfl, rfl⟩ := hrel
    by_cases hlt : k < n
    · obtain ⟨b, o, hk', rfl, hb, hc⟩ := hx.at_ hlt
      go_wp2_with (go_at_call 45; refine (refPut_calls _ _ _).mono ?_; rintro e w' ⟨rfl, rfl⟩)
      go_round
      case rel => exact ⟨k + 1, by omega, by go_num, by rw [take_snoc _ _ hk', Crc.puts_snoc]⟩
      case measure => simp [intOf]; omega
    · obtain rfl : k = n := by omega
      have e : 4294967295 - ((Crc.puts (~~~s) (xs.take k)).toNat : Int) = ((Crc.more s xs).toNat : Int) := by
        rw [List.take_of_length_le (by have := HN.out; omega), not_u32]; rfl
      have E := Lib.hid e
      clear e
      have hy := (Crc.puts (~~~s) (xs.take k)).isLt
      generalize Crc.puts (~~~s) (xs.take k) = y at *
      go_wp2
      go_ret
      exact ⟨congrArg (fun z => Ending.returned (Value.int .u32 z)) E.out, rfl⟩

theorem sum_calls (a : Option Addr) (n c : Nat) (xs : List UInt8) (w : World) (hx : Bytes w w.heap.size a n xs) :
    Calls Try.prog 23 #[.slice a n c] w fun e w' => e = .returned (.int .u32 (Crc.sum xs).toNat) ∧ w = w' := by
  go_enter Try.func23, Try.ntmps23
  go_wp2_with (go_at_call 34; refine (more_calls 0#32 _ _ _ xs _ hx).mono ?_; rintro e w' ⟨rfl, rfl⟩)
  go_ret
  exact ⟨rfl, rfl⟩
theorem refSum_calls (a : Option Addr) (n c : Nat) (xs : List UInt8) (w : World) (hx : Bytes w w.heap.size a n xs) :
    Calls Try.prog 44 #[.slice a n c] w fun e w' => e = .returned (.int .u32 (Crc.sum xs).toNat) ∧ w = w' := by
  go_enter Try.func44, Try.ntmps44
  go_wp2_with (go_at_call 43; refine (refMore_calls 0#32 _ _ _ xs _ hx).mono ?_; rintro e w' ⟨rfl, rfl⟩)
  go_ret
  exact ⟨rfl, rfl⟩
end Go.Proofs.Ytfcikigdmecbnaa
