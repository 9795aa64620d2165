/-
  crc.Put and the reference's Put compute Crc.put.
-/
/-
  The reference's Big: a number in so many bytes, the least one first.
-/
import Derived.Test.YtiipnpfaaghekaaGreatRows
import Derived.Test.YtiipnpfaaghekaaGreatBase
import Derived.Test.YtiipnpfaaghekaaGreatCrcMath
import Derived.Test.YtiipnpfaaghekaaGreatBytes
import Derived.Test.YtiipnpfaaghekaaGreatNumMath
import Derived.Test.YtiipnpfaaghekaaGreatTagMath
/-
  crc.More, crc.Sum and the reference's compute Crc.more, Crc.sum of the bytes that they are given.
-/
namespace Go.Proofs.YtiipnpfaaghekaaGreat
open Go.RowKit

set_option maxHeartbeats 400000 in
theorem put_calls (r : BitVec 32) (b : UInt8) (w : World) :
    Calls Tryz.prog 105 #[.int .u32 r.toNat, .int .u8 b.toNat] w fun e w' => e = .returned (.int .u32 (Crc.put r b).toNat) ∧ w = w' := by
  have hb0 : b.toNat < 256 := b.toNat_lt
  go_enter Tryz.func105, Tryz.ntmps105
  go_wp2
  go_loop [0, 9] (fun x i => ∃ k : Nat, k ≤ 8 ∧ i = .int .i64 k ∧ x = .int .u32 (Crc.stpN k (r ^^^ b.toBitVec.setWidth 32)).toNat) (fun _ i => 8 - (intOf i).toNat)
  case atStart =>
    exact ⟨0, by omega, rfl, by rw [byte_u32, bits_xor_u32]; rfl⟩
  case round =>
    obtain ⟨k, hk, rfl, rfl⟩ := hrel
    by_cases hlt : k < 8
    · generalize hx : Crc.stpN k (r ^^^ b.toBitVec.setWidth 32) = x at *
      have HX := Lib.hid hx
      clear hx
      have h1 := bits_and_u32 x 1#32
      by_cases hb : x &&& 1#32 = 1#32
      · have ht : (bits BinOp.and IntKind.u32 (x.toNat : Int) 1 == 1) = true := by
          rw [beq_iff_eq]; refine h1.trans ?_; rw [hb]; rfl
        clear h1
        have HB := Lib.hid hb
        clear hb
        go_wp2
        go_round
        case rel => exact ⟨k + 1, by omega, by go_num, by
          rw [shr1_u32, show (3988292384 : Int) = ((3988292384#32).toNat : Int) from rfl, bits_xor_u32, Crc.stpN, HX.out, Crc.stp, if_pos HB.out]⟩
        case measure => simp [intOf]; omega
      · have ht : (bits BinOp.and IntKind.u32 (x.toNat : Int) 1 == 1) = false := by
          rw [beq_eq_false_iff_ne]; intro hh; apply hb
          have := h1.symm.trans hh
          exact BitVec.eq_of_toNat_eq (by have e : (1#32).toNat = 1 := rfl; rw [e]; omega)
        clear h1
        have HB := Lib.hid hb
        clear hb
        go_wp2
        go_round
        case rel => exact ⟨k + 1, by omega, by go_num, by rw [shr1_u32, Crc.stpN, HX.out, Crc.stp, if_neg HB.out]⟩
        case measure => simp [intOf]; omega
    · obtain rfl : k = 8 := by omega
      go_wp2
      go_ret
      exact ⟨rfl, rfl⟩
end Go.Proofs.YtiipnpfaaghekaaGreat
namespace Go.Proofs.YtiipnpfaaghekaaGreat
open Go.RowKit

theorem take_snoc {α : Type} (l : List α) (k : Nat) (h : k < l.length) : l.take (k + 1) = l.take k ++ [l[k]] := by
  rw [List.take_succ_eq_append_getElem h]

theorem shr_succ (y : BitVec 32) (k : Nat) : y >>> k >>> 1 = y >>> (k + 1) := by
  apply BitVec.eq_of_toNat_eq
  simp only [BitVec.toNat_ushiftRight, Nat.shiftRight_add]
theorem digit_eq (x : BitVec 32) (b : UInt8) (k : Nat) :
    (x &&& 1#32 = 1#32 → (bits BinOp.and IntKind.u32 (bits BinOp.xor IntKind.u32 ((x ^^^ b.toBitVec.setWidth 32 >>> k).toNat : Int) ((b.toNat : Int) / (2 : Int) ^ k)) 1 == 1) = true) ∧
    (¬ x &&& 1#32 = 1#32 → (bits BinOp.and IntKind.u32 (bits BinOp.xor IntKind.u32 ((x ^^^ b.toBitVec.setWidth 32 >>> k).toNat : Int) ((b.toNat : Int) / (2 : Int) ^ k)) 1 == 1) = false) := by
  have hs : (b.toNat : Int) / (2 : Int) ^ k = ((b.toBitVec.setWidth 32 >>> k).toNat : Int) := by
    rw [← shr_u32, byte_u32]; simp
  have h1 := bits_and_u32 x 1#32
  rw [hs, bits_xor_u32, BitVec.xor_assoc, BitVec.xor_self, BitVec.xor_zero]
  refine ⟨fun hb => ?_, fun hb => ?_⟩
  · rw [beq_iff_eq]; refine h1.trans ?_; rw [hb]; rfl
  · rw [beq_eq_false_iff_ne]; intro hh; apply hb
    have := h1.symm.trans hh
    exact BitVec.eq_of_toNat_eq (by have e : (1#32).toNat = 1 := rfl; rw [e]; omega)
theorem digit_next (x : BitVec 32) (b : UInt8) (k : Nat) :
    (x &&& 1#32 = 1#32 → Crc.stp x ^^^ b.toBitVec.setWidth 32 >>> (k + 1) = (x ^^^ b.toBitVec.setWidth 32 >>> k) >>> 1 ^^^ 3988292384#32) ∧
    (¬ x &&& 1#32 = 1#32 → Crc.stp x ^^^ b.toBitVec.setWidth 32 >>> (k + 1) = (x ^^^ b.toBitVec.setWidth 32 >>> k) >>> 1) := by
  refine ⟨fun hb => ?_, fun hb => ?_⟩
  · rw [Crc.stp, if_pos hb, BitVec.ushiftRight_xor_distrib, shr_succ, BitVec.xor_assoc, BitVec.xor_assoc, BitVec.xor_comm 3988292384#32]
  · rw [Crc.stp, if_neg hb, BitVec.ushiftRight_xor_distrib, shr_succ]

set_option maxHeartbeats 400000 in
theorem more_calls (s : BitVec 32) (a : Option Addr) (n c : Nat) (xs : List UInt8) (w : World) (hx : Bytes w w.heap.size a n xs) :
    Calls Tryz.prog 84 #[.int .u32 s.toNat, .slice a n c] w fun e w' => e = .returned (.int .u32 (Crc.more s xs).toNat) ∧ w = w' := by
  have hn := hx.len
  have hroom := hx.room
  have HN := Lib.hid hn
  clear hn
  go_enter Tryz.func84, Tryz.ntmps84
  go_wp2
  go_loop [5, 7, 12] (fun x _c i => ∃ k : Nat, k ≤ n ∧ i = .int .i64 k ∧ x = .int .u32 (Crc.puts (~~~s) (xs.take k)).toNat) (fun _ _ i => n - (intOf i).toNat)
  case atStart =>
    exact ⟨0, by omega, rfl, by rw [notx_u32]; rfl⟩
  case round =>
    obtain ⟨k, hk, rfl, rfl⟩ := hrel
    by_cases hlt : k < n
    · obtain ⟨b, o, hk', rfl, hb, hc⟩ := hx.at_ hlt
      go_wp2_with (go_at_call 105; refine (put_calls _ _ _).mono ?_; rintro e w' ⟨rfl, rfl⟩)
      go_round
      case rel => exact ⟨k + 1, by omega, by go_num, by rw [take_snoc _ _ hk', Crc.puts_snoc]⟩
      case measure => simp [intOf]; omega
    · obtain rfl : k = n := by omega
      go_wp2
      go_ret
      exact ⟨by rw [List.take_of_length_le (by have := HN.out; omega)]; exact congrArg (fun z => Ending.returned (Value.int .u32 z)) (notx_u32 _), rfl⟩

theorem sum_calls (a : Option Addr) (n c : Nat) (xs : List UInt8) (w : World) (hx : Bytes w w.heap.size a n xs) :
    Calls Tryz.prog 64 #[.slice a n c] w fun e w' => e = .returned (.int .u32 (Crc.sum xs).toNat) ∧ w = w' := by
  go_enter Tryz.func64, Tryz.ntmps64
  go_wp2_with (go_at_call 84; refine (more_calls 0#32 _ _ _ xs _ hx).mono ?_; rintro e w' ⟨rfl, rfl⟩)
  go_ret
  exact ⟨rfl, rfl⟩
end Go.Proofs.YtiipnpfaaghekaaGreat
/-
  The small functions of tags: sized, Right, put, erased.
-/
namespace Go.Proofs.YtiipnpfaaghekaaGreat
open Go.RowKit

def Fresh (l : List UInt8) (w : World) (e : Ending) (w' : World) : Prop := ∃ v, e = .returned v ∧ Own byteV 5 w' w.heap.size v l ∧ Below w.heap.size w w'

end Go.Proofs.YtiipnpfaaghekaaGreat
namespace Go.Proofs.YtiipnpfaaghekaaGreat
open Go.RowKit

abbrev tagV (t : Tg) : Value := .agg #[.int .i64 t.k, .int .u32 (t.p : Int), .int .u64 (t.s : Int), .int .u64 (t.e : Int)]
abbrev tagO (t : Tg) : Obj := .cells #[.int .i64 t.k, .int .u32 (t.p : Int), .int .u64 (t.s : Int), .int .u64 (t.e : Int)] 63

theorem fits_yes (n : Nat) (h : Tg.Fits n) (w : World) : Calls Tryz.prog 60 #[.int .i64 n] w fun e w' => e = .returned (.bool true) ∧ w = w' := by
  rcases h with rfl | rfl | rfl | rfl
  all_goals
    go_enter Tryz.func60, Tryz.ntmps60
    go_wp2
    go_ret
    exact ⟨rfl, rfl⟩
theorem fits_no (n : Int) (h : ¬ (n = 64 ∨ n = 128 ∨ n = 256 ∨ n = 512)) (w : World) : Calls Tryz.prog 60 #[.int .i64 n] w fun e w' => e = .returned (.bool false) ∧ w = w' := by
  have h1 : (n == 64) = false := by rw [beq_eq_false_iff_ne]; omega
  have h2 : (n == 128) = false := by rw [beq_eq_false_iff_ne]; omega
  have h3 : (n == 256) = false := by rw [beq_eq_false_iff_ne]; omega
  have h4 : (n == 512) = false := by rw [beq_eq_false_iff_ne]; omega
  clear h
  go_enter Tryz.func60, Tryz.ntmps60
  go_wp2
  go_ret
  exact ⟨rfl, rfl⟩
set_option maxHeartbeats 1000000 in
theorem tput_calls (v0 : Value) (xs : List UInt8) (X n base : Nat) (w : World) (hX : X < 18446744073709551616) (hn : n ≤ 1000) (hl : xs.length ≤ 1000000) (h0 : Own byteV 5 w base v0 xs) (hbase : base ≤ w.heap.size) :
    Calls Tryz.prog 66 #[v0, .int .u64 X, .int .i64 n] w fun e w' => (∃ v, e = .returned v ∧ Own byteV 5 w' base v (xs ++ bigL X n)) ∧ Below base w w' := by
  have H0 := Lib.hid h0
  clear h0
  go_enter Tryz.func66, Tryz.ntmps66
  go_wp2
  go_loopw [0, 1, 8] (fun v x i wr => ∃ k : Nat, k ≤ n ∧ i = .int .i64 k ∧ x = .int .u64 (X / 256 ^ k : Nat) ∧ Own byteV 5 wr base v (xs ++ bigL X k) ∧ Below base w wr) (fun _ _ i _ => n - (intOf i).toNat)
  case atStart =>
    exact ⟨0, by omega, rfl, by simp, by simpa [bigL] using H0.out, Below.refl _ _⟩
  case round =>
    obtain ⟨k, hk, rfl, rfl, ho, hb⟩ := hrel
    have HO := Lib.hid ho
    have HB := Lib.hid hb
    have hsz := hb.size
    have hlt0 : X / 256 ^ k < 18446744073709551616 := Nat.lt_of_le_of_lt (Nat.div_le_self _ _) hX
    have hnext := Lib.hid (show X / 256 ^ k / 256 = X / 256 ^ (k + 1) by rw [Nat.div_div_eq_div_mul, Nat.pow_succ])
    have hbyte := Lib.hid (show (UInt8.ofNat (X / 256 ^ k)).toNat = X / 256 ^ k % 256 by rw [UInt8.toNat_ofNat'])
    generalize hY : X / 256 ^ k = Y at *
    have HY := Lib.hid hY
    clear ho hb hY
    by_cases hlt : k < n
    · have hlit := Lib.hid (show #[Value.int .u8 ((Y : Int) % 256)] = ([UInt8.ofNat Y].map byteV).toArray by
        rw [show ((Y : Int) % 256) = ((Y % 256 : Nat) : Int) by omega, ← hbyte.out]; rfl)
      go_wp2_with (at_builtin; refine wpList_appB rfl _ _ rfl base _ (xs ++ bigL X k) rfl (HO.out.alloc _) _ _ _ _ [UInt8.ofNat Y] rfl (Arr.lit wr 5 [UInt8.ofNat Y] 1 rfl (by omega) hlit.out) (by rw [List.length_append, bigL_len]; omega) (by simp; omega) ?_; intro v1 w1 hown1 hg1 hat1)
      go_roundw
      case rel =>
        refine ⟨k + 1, by omega, by go_num, ?_, ?_, ?_⟩
        · rw [← hnext.out]; exact congrArg (Value.int .u64) (by omega)
        · rw [bigL_snoc, HY.out, ← List.append_assoc]; exact hown1
        · exact below_own (HB.out.alloc (by omega) _) (HO.out.alloc _) hg1 (by simp; omega)
      case measure => simp [intOf]; omega
    · obtain rfl : k = n := by omega
      go_wp2
      go_ret
      exact ⟨⟨_, rfl, HO.out⟩, HB.out⟩

theorem full_take_succ (xs : List UInt8) (k : Nat) (h : k < xs.length) : Tg.full (xs.take (k + 1)) = (Tg.full (xs.take k) && xs[k] == 255) := by
  unfold Tg.full
  rw [List.take_succ_eq_append_getElem h, List.all_append]
  simp only [List.all_cons, List.all_nil, Bool.and_true]
theorem full_no {xs : List UInt8} {k : Nat} (h : k < xs.length) (hne : xs[k] ≠ 255) : Tg.full xs = false := by
  rw [← Bool.not_eq_true]
  intro hf
  rw [Tg.full, List.all_eq_true] at hf
  have := hf xs[k] (List.getElem_mem h)
  simp at this
  exact hne this
theorem b255 (x : UInt8) : ((x.toNat : Int) = 255) ↔ x = 255 := by
  constructor
  · intro h; apply UInt8.toNat_inj.1; have : (255 : UInt8).toNat = 255 := rfl; omega
  · rintro rfl; rfl
set_option maxHeartbeats 1000000 in
theorem erased_calls (a : Option Addr) (n c : Nat) (xs : List UInt8) (w : World) (hx : Bytes w w.heap.size a n xs) :
    Calls Tryz.prog 61 #[.slice a n c] w fun e w' => e = .returned (.bool (Tg.full xs)) ∧ w = w' := by
  have hroom := hx.room
  have HL := Lib.hid hx.len
  go_enter Tryz.func61, Tryz.ntmps61
  go_wp2
  go_loop [4, 7] (fun _x i => ∃ k : Nat, k ≤ n ∧ i = .int .i64 k ∧ Tg.full (xs.take k) = true) (fun _ i => n - (intOf i).toNat)
  case atStart => exact ⟨0, by omega, rfl, rfl⟩
  case round =>
    obtain ⟨k, hk, rfl, hf⟩ := hrel
    have HF := Lib.hid hf
    clear hf
    by_cases hlt : k < n
    · obtain ⟨b, o, hk', rfl, hb, hc⟩ := hx.at_ hlt
      by_cases h2 : xs[k] = 255
      · rw [h2] at hc
        have h3 := full_take_succ xs k hk'
        rw [h2, HF.out] at h3
        have H3 := Lib.hid h3
        clear h3 h2
        go_wp2
        go_round
        case rel => exact ⟨k + 1, by omega, by go_num, H3.out⟩
        case measure => simp [intOf]; omega
      · have h3 : (((xs[k]).toNat : Int) != 255) = true := by rw [bne_iff_ne]; intro h; exact h2 ((b255 _).1 h)
        have h4 := Lib.hid (full_no hk' h2)
        clear h2
        go_wp2
        go_ret
        exact ⟨by rw [h4.out]; rfl, rfl⟩
    · obtain rfl : k = n := by omega
      go_wp2
      go_ret
      rw [List.take_of_length_le (by rw [HL.out]; omega)] at HF
      exact ⟨by rw [HF.out]; rfl, rfl⟩
end Go.Proofs.YtiipnpfaaghekaaGreat
