import Derived.Test.YtcppkaphlcflgaaGreatSlClone
import Derived.Test.YtcppkaphlcflgaaGreatInoPtsM
import Derived.Test.YtcppkaphlcflgaaGreatRows
import Derived.Test.YtcppkaphlcflgaaGreatMem
import Derived.Test.YtcppkaphlcflgaaGreatTagMath
namespace Go.Proofs.YtcppkaphlcflgaaGreat
open Go.RowKit

end Go.Proofs.YtcppkaphlcflgaaGreat
namespace Go.Proofs.YtcppkaphlcflgaaGreat
open Go.RowKit

set_option maxHeartbeats 400000 in
theorem put_calls (r : BitVec 32) (b : UInt8) (w : World) :
  Calls Tryz.prog 169 #[.int .u32 r.toNat, .int .u8 b.toNat] w fun e w' => e = .returned (.int .u32 (Crc.put r b).toNat) ∧ w = w' := by
 have hb0 : b.toNat < 256 := b.toNat_lt
 go_enter Tryz.func169, Tryz.ntmps169
 go_wp2
 go_loop [0, 9] (fun x i => ∃ k : Nat, k ≤ 8 ∧ i = .int .i64 k ∧ x = .int .u32 (Crc.stpN k (r ^^^ b.toBitVec.setWidth 32)).toNat) (fun _ i => 8 - (intOf i).toNat)
 case atStart =>
  exact ⟨0, by omega, rfl, by rw [byte_u32, bits_xor_u32]; rfl⟩
 case round =>
  obtain ⟨k, hk, rfl, rfl⟩ := hrel
  by_cases hlt : k < 8
  ·generalize hx : Crc.stpN k (r ^^^ b.toBitVec.setWidth 32) = x at *
   have HX := Lib.hid hx
   clear hx
   have h1 := bits_and_u32 x 1#32
   by_cases hb : x &&& 1#32 = 1#32
   ·have ht : (bits BinOp.and IntKind.u32 (x.toNat : Int) 1 == 1) = true := by
     rw [beq_iff_eq]; refine h1.trans ?_; rw [hb]; rfl
    clear h1
    have HB := Lib.hid hb
    clear hb
    go_wp2
    go_round
    case rel => exact ⟨k + 1, by omega, by go_num, by
     rw [shr1_u32, show (3988292384 : Int) = ((3988292384#32).toNat : Int) from rfl, bits_xor_u32, Crc.stpN, HX.out, Crc.stp, if_pos HB.out]⟩
    case measure => simp [intOf]; omega
   ·have ht : (bits BinOp.and IntKind.u32 (x.toNat : Int) 1 == 1) = false := by
     rw [beq_eq_false_iff_ne]; intro hh; apply hb
     have := h1.symm.trans hh
     exact BitVec.eq_of_toNat_eq (by have e : (1#32).toNat = 1 := rfl; rw [e]; omega)
    clear h1
    have HB := Lib.hid hb
    clear hb
    go_wp2
    go_round
    case rel => exact ⟨k + 1, by omega, by go_num, by rw [shr1_u32, Crc.stpN, HX.out, Crc.stp, if_neg HB.out]⟩
    case measure => simp [intOf]; omega
  ·obtain rfl : k = 8 := by omega
   go_wp2
   go_ret
   exact ⟨rfl, rfl⟩
end Go.Proofs.YtcppkaphlcflgaaGreat
namespace Go.Proofs.YtcppkaphlcflgaaGreat
open Go.RowKit

theorem take_snoc {α : Type} (l : List α) (k : Nat) (h : k < l.length) : l.take (k + 1) = l.take k ++ [l[k]] := by
 rw [List.take_succ_eq_append_getElem h]

set_option maxHeartbeats 400000 in
theorem more_calls (s : BitVec 32) (a : Option Addr) (n c : Nat) (xs : List UInt8) (w : World) (hx : Bytes w w.heap.size a n xs) :
  Calls Tryz.prog 137 #[.int .u32 s.toNat, .slice a n c] w fun e w' => e = .returned (.int .u32 (Crc.more s xs).toNat) ∧ w = w' := by
 have hn := hx.len
 have hroom := hx.room
 have HN := Lib.hid hn
 clear hn
 go_enter Tryz.func137, Tryz.ntmps137
 go_wp2
 go_loop [5, 7, 12] (fun x _c i => ∃ k : Nat, k ≤ n ∧ i = .int .i64 k ∧ x = .int .u32 (Crc.puts (~~~s) (xs.take k)).toNat) (fun _ _ i => n - (intOf i).toNat)
 case atStart =>
  exact ⟨0, by omega, rfl, by rw [notx_u32]; rfl⟩
 case round =>
  obtain ⟨k, hk, rfl, rfl⟩ := hrel
  by_cases hlt : k < n
  ·obtain ⟨b, o, hk', rfl, hb, hc⟩ := hx.at_ hlt
   go_wp2_with (go_at_call 169; refine (put_calls _ _ _).mono ?_; rintro e w' ⟨rfl, rfl⟩)
   go_round
   case rel => exact ⟨k + 1, by omega, by go_num, by rw [take_snoc _ _ hk', Crc.puts_snoc]⟩
   case measure => simp [intOf]; omega
  ·obtain rfl : k = n := by omega
   go_wp2
   go_ret
   exact ⟨by rw [List.take_of_length_le (by have := HN.out; omega)]; exact congrArg (fun z => Ending.returned (Value.int .u32 z)) (notx_u32 _), rfl⟩

theorem sum_calls (a : Option Addr) (n c : Nat) (xs : List UInt8) (w : World) (hx : Bytes w w.heap.size a n xs) :
  Calls Tryz.prog 87 #[.slice a n c] w fun e w' => e = .returned (.int .u32 (Crc.sum xs).toNat) ∧ w = w' := by
 go_enter Tryz.func87, Tryz.ntmps87
 go_wp2_with (go_at_call 137; refine (more_calls 0#32 _ _ _ xs _ hx).mono ?_; rintro e w' ⟨rfl, rfl⟩)
 go_ret
 exact ⟨rfl, rfl⟩
end Go.Proofs.YtcppkaphlcflgaaGreat
namespace Go.Proofs.YtcppkaphlcflgaaGreat
open Go.RowKit

abbrev tagV (t : Tg) : Value := .agg #[.int .i64 t.k, .int .u32 (t.p : Int), .int .u64 (t.s : Int), .int .u64 (t.e : Int)]
abbrev tagO (t : Tg) : Obj := .cells #[.int .i64 t.k, .int .u32 (t.p : Int), .int .u64 (t.s : Int), .int .u64 (t.e : Int)] 103

theorem fits_yes (n : Nat) (h : Tg.Fits n) (w : World) : Calls Tryz.prog 85 #[.int .i64 n] w fun e w' => e = .returned (.bool true) ∧ w = w' := by
 rcases h with rfl | rfl | rfl | rfl
 all_goals
  go_enter Tryz.func85, Tryz.ntmps85
  go_wp2
  go_ret
  exact ⟨rfl, rfl⟩
set_option maxHeartbeats 1000000 in
theorem tput_calls (v0 : Value) (xs : List UInt8) (X n base : Nat) (w : World) (hX : X < 18446744073709551616) (hn : n ≤ 1000) (hl : xs.length ≤ 1000000) (h0 : Own byteV 5 w base v0 xs) (hbase : base ≤ w.heap.size) :
  Calls Tryz.prog 86 #[v0, .int .u64 X, .int .i64 n] w fun e w' => (∃ v, e = .returned v ∧ Own byteV 5 w' base v (xs ++ bigL X n)) ∧ Below base w w' := by
 have H0 := Lib.hid h0
 clear h0
 go_enter Tryz.func86, Tryz.ntmps86
 go_wp2
 go_loopw [0, 1, 8] (fun v x i wr => ∃ k : Nat, k ≤ n ∧ i = .int .i64 k ∧ x = .int .u64 (X / 256 ^ k : Nat) ∧ Own byteV 5 wr base v (xs ++ bigL X k) ∧ Below base w wr) (fun _ _ i _ => n - (intOf i).toNat)
 case atStart =>
  exact ⟨0, by omega, rfl, by simp, by simpa [bigL] using H0.out, Below.refl _ _⟩
 case round =>
  obtain ⟨k, hk, rfl, rfl, ho, hb⟩ := hrel
  have HO := Lib.hid ho
  have HB := Lib.hid hb
  have hsz := hb.size
  have hlt0 : X / 256 ^ k < 18446744073709551616 := Nat.lt_of_le_of_lt (Nat.div_le_self _ _) hX
  have hnext := Lib.hid (show X / 256 ^ k / 256 = X / 256 ^ (k + 1) by rw [Nat.div_div_eq_div_mul, Nat.pow_succ])
  have hbyte := Lib.hid (show (UInt8.ofNat (X / 256 ^ k)).toNat = X / 256 ^ k % 256 by rw [UInt8.toNat_ofNat'])
  generalize hY : X / 256 ^ k = Y at *
  have HY := Lib.hid hY
  clear ho hb hY
  by_cases hlt : k < n
  ·have hlit := Lib.hid (show #[Value.int .u8 ((Y : Int) % 256)] = ([UInt8.ofNat Y].map byteV).toArray by
    rw [show ((Y : Int) % 256) = ((Y % 256 : Nat) : Int) by omega, ← hbyte.out]; rfl)
   go_wp2_with (at_builtin; refine wpList_appB rfl _ _ rfl base _ (xs ++ bigL X k) rfl (HO.out.alloc _) _ _ _ _ [UInt8.ofNat Y] rfl (Arr.lit wr 5 [UInt8.ofNat Y] 1 rfl (by omega) hlit.out) (by rw [List.length_append, bigL_len]; omega) (by simp; omega) ?_; intro v1 w1 hown1 hg1 hat1)
   go_roundw
   case rel =>
    refine ⟨k + 1, by omega, by go_num, ?_, ?_, ?_⟩
    ·rw [← hnext.out]; exact congrArg (Value.int .u64) (by omega)
    ·rw [bigL_snoc, HY.out, ← List.append_assoc]; exact hown1
    ·exact below_own (HB.out.alloc (by omega) _) (HO.out.alloc _) hg1 (by simp; omega)
   case measure => simp [intOf]; omega
  ·obtain rfl : k = n := by omega
   go_wp2
   go_ret
   exact ⟨⟨_, rfl, HO.out⟩, HB.out⟩

theorem full_take_succ (xs : List UInt8) (k : Nat) (h : k < xs.length) : Tg.full (xs.take (k + 1)) = (Tg.full (xs.take k) && xs[k] == 255) := by
 unfold Tg.full
 rw [List.take_succ_eq_append_getElem h, List.all_append]
 simp only [List.all_cons, List.all_nil, Bool.and_true]
theorem full_no {xs : List UInt8} {k : Nat} (h : k < xs.length) (hne : xs[k] ≠ 255) : Tg.full xs = false := by
 rw [← Bool.not_eq_true]
 intro hf
 rw [Tg.full, List.all_eq_true] at hf
 have := hf xs[k] (List.getElem_mem h)
 simp at this
 exact hne this
theorem b255 (x : UInt8) : ((x.toNat : Int) = 255) ↔ x = 255 := by
 constructor
 ·intro h; apply UInt8.toNat_inj.1; have : (255 : UInt8).toNat = 255 := rfl; omega
 ·rintro rfl; rfl
set_option maxHeartbeats 1000000 in
theorem erased_calls (a : Option Addr) (n c : Nat) (xs : List UInt8) (w : World) (hx : Bytes w w.heap.size a n xs) :
    Calls Tryz.prog 161 #[.slice a n c] w fun e w' => e = .returned (.bool (Tg.full xs)) ∧ w = w' := by
  have hroom := hx.room
  have HL := Lib.hid hx.len
  go_enter Tryz.func161, Tryz.ntmps161
  go_wp2
  go_loop [4, 7] (fun _x i => ∃ k : Nat, k ≤ n ∧ i = .int .i64 k ∧ Tg.full (xs.take k) = true) (fun _ i => n - (intOf i).toNat)
  case atStart => exact ⟨0, by omega, rfl, rfl⟩
  case round =>
    obtain ⟨k, hk, rfl, hf⟩ := hrel
    have HF := Lib.hid hf
    clear hf
    by_cases hlt : k < n
    · obtain ⟨b, o, hk', rfl, hb, hc⟩ := hx.at_ hlt
      by_cases h2 : xs[k] = 255
      · rw [h2] at hc
        have h3 := full_take_succ xs k hk'
        rw [h2, HF.out] at h3
        have H3 := Lib.hid h3
        clear h3 h2
        go_wp2
        go_round
        case rel => exact ⟨k + 1, by omega, by go_num, H3.out⟩
        case measure => simp [intOf]; omega
      · have h3 : (((xs[k]).toNat : Int) != 255) = true := by rw [bne_iff_ne]; intro h; exact h2 ((b255 _).1 h)
        have h4 := Lib.hid (full_no hk' h2)
        clear h2
        go_wp2
        go_ret
        exact ⟨by rw [h4.out]; rfl, rfl⟩
    · obtain rfl : k = n := by omega
      go_wp2
      go_ret
      rw [List.take_of_length_le (by rw [HL.out]; omega)] at HF
      exact ⟨by rw [HF.out]; rfl, rfl⟩
end Go.Proofs.YtcppkaphlcflgaaGreat
namespace Go.Proofs.YtcppkaphlcflgaaGreat
open Go.RowKit

set_option maxHeartbeats 4000000 in
theorem tagRight_calls (t : Tg) (hp : t.p < 4294967296) (hs : t.s < 18446744073709551616) (he : t.e < 18446744073709551616) (w : World) :
  Calls Tryz.prog 84 #[tagV t] w fun e w' => e = .returned (.bool (Tg.rightB t)) ∧ Below w.heap.size w w' := by
 have hbl := Lib.hid ((Below.refl w.heap.size w).alloc (Nat.le_refl _) (tagO t))
 obtain ⟨k, p, s, e⟩ := t
 simp only at hp hs he
 by_cases hk : k = 1 ∨ k = 2
 case neg =>
  have h1 : (k == 1) = false := by rw [beq_eq_false_iff_ne]; omega
  have h2 : (k == 2) = false := by rw [beq_eq_false_iff_ne]; omega
  have hn := Lib.hid (Tg.rightB_no (t := ⟨k, p, s, e⟩) (fun h => hk h.1))
  clear hk
  go_enter Tryz.func84, Tryz.ntmps84
  go_wp2
  go_ret
  exact ⟨by rw [hn.out]; rfl, hbl.out⟩
 by_cases h : p < 8192 ∧ 1 ≤ s ∧ s < 4611686018427387904 ∧ 1 ≤ e ∧ e < 4611686018427387904
 case pos =>
  have hn := Lib.hid (Tg.rightB_yes (t := ⟨k, p, s, e⟩) ⟨hk, h⟩)
  obtain ⟨h1, h2, h3, h4, h5⟩ := h
  have g1 : (p : Int) < 8192 := by omega
  have g2 : (1 : Int) ≤ s := by omega
  have g3 : (s : Int) < 4611686018427387904 := by omega
  have g4 : (1 : Int) ≤ e := by omega
  have g5 : decide ((e : Int) < 4611686018427387904) = true := decide_eq_true (by omega)
  clear h1 h2 h3 h4 h5 hp hs he
  rcases hk with rfl | rfl
  all_goals
   go_enter Tryz.func84, Tryz.ntmps84
   go_wp2
   go_ret
   exact ⟨by rw [hn.out]; rfl, hbl.out⟩
 case neg =>
  have hn := Lib.hid (Tg.rightB_no (t := ⟨k, p, s, e⟩) (fun hh => h hh.2))
  by_cases h1 : p < 8192
  case neg =>
   have g1 : decide ((p : Int) < 8192) = false := decide_eq_false (by omega)
   clear h h1 hp hs he
   rcases hk with rfl | rfl
   all_goals
    go_enter Tryz.func84, Tryz.ntmps84
    go_wp2
    go_ret
    exact ⟨by rw [hn.out]; rfl, hbl.out⟩
  by_cases h2 : 1 ≤ s
  case neg =>
   have g1 : (p : Int) < 8192 := by omega
   have g2 : decide ((1 : Int) ≤ s) = false := decide_eq_false (by omega)
   clear h h1 h2 hp hs he
   rcases hk with rfl | rfl
   all_goals
    go_enter Tryz.func84, Tryz.ntmps84
    go_wp2
    go_ret
    exact ⟨by rw [hn.out]; rfl, hbl.out⟩
  by_cases h3 : s < 4611686018427387904
  case neg =>
   have g1 : (p : Int) < 8192 := by omega
   have g2 : (1 : Int) ≤ s := by omega
   have g3 : decide ((s : Int) < 4611686018427387904) = false := decide_eq_false (by omega)
   clear h h1 h2 h3 hp hs he
   rcases hk with rfl | rfl
   all_goals
    go_enter Tryz.func84, Tryz.ntmps84
    go_wp2
    go_ret
    exact ⟨by rw [hn.out]; rfl, hbl.out⟩
  by_cases h4 : 1 ≤ e
  case neg =>
   have g1 : (p : Int) < 8192 := by omega
   have g2 : (1 : Int) ≤ s := by omega
   have g3 : (s : Int) < 4611686018427387904 := by omega
   have g4 : decide ((1 : Int) ≤ e) = false := decide_eq_false (by omega)
   clear h h1 h2 h3 h4 hp hs he
   rcases hk with rfl | rfl
   all_goals
    go_enter Tryz.func84, Tryz.ntmps84
    go_wp2
    go_ret
    exact ⟨by rw [hn.out]; rfl, hbl.out⟩
  have h5 : ¬ e < 4611686018427387904 := fun h5 => h ⟨h1, h2, h3, h4, h5⟩
  clear h
  have g1 : (p : Int) < 8192 := by omega
  have g2 : (1 : Int) ≤ s := by omega
  have g3 : (s : Int) < 4611686018427387904 := by omega
  have g4 : (1 : Int) ≤ e := by omega
  have g5 : decide ((e : Int) < 4611686018427387904) = false := decide_eq_false (by omega)
  clear h1 h2 h3 h4 h5 hp hs he
  rcases hk with rfl | rfl
  all_goals
   go_enter Tryz.func84, Tryz.ntmps84
   go_wp2
   go_ret
   exact ⟨by rw [hn.out]; rfl, hbl.out⟩
end Go.Proofs.YtcppkaphlcflgaaGreat
namespace Go.Proofs.YtcppkaphlcflgaaGreat
open Go.RowKit

theorem numL_drop (xs : List UInt8) (k : Nat) (h : k < xs.length) : numL (xs.drop k) = xs[k].toNat + 256 * numL (xs.drop (k + 1)) := by
 rw [List.drop_eq_getElem_cons h, numL]
theorem numL_drop_lt {xs : List UInt8} {n : Nat} (hn : n ≤ 8) (hl : xs.length = n) (k : Nat) (hk : 0 < k) (hkn : k ≤ n) : numL (xs.drop k) * 256 ≤ 18446744073709551360 := by
 have h := numL_lt (xs.drop k)
 rw [List.length_drop, hl] at h
 have h2 : (256 : Nat) ^ (n - k) ≤ 256 ^ 7 := Nat.pow_le_pow_right (by omega) (by omega)
 have h3 : (256 : Nat) ^ 7 = 72057594037927936 := by decide
 omega
end Go.Proofs.YtcppkaphlcflgaaGreat
namespace Go.Proofs.YtcppkaphlcflgaaGreat
open Go.RowKit

end Go.Proofs.YtcppkaphlcflgaaGreat
namespace Go.Proofs.YtcppkaphlcflgaaGreat
open Go.RowKit

theorem i64_or_low (X b : Nat) (hX : X < 36028797018963968) (hb : b < 256) : bits .or .i64 ((X : Int) * 256) (b : Int) = ((X * 256 + b : Nat) : Int) := by
 have h1 : X * 256 ||| b = X * 256 + b := by
  have := Nat.two_pow_add_eq_or_of_lt (i := 8) (b := b) hb X
  rw [Nat.mul_comm X 256]
  exact this.symm
 have e : (X : Int) * 256 = ((X * 256 : Nat) : Int) := by omega
 rw [e]
 unfold bits
 have a1 : (BitVec.ofInt 64 ((X * 256 : Nat) : Int)).toNat = X * 256 := ofInt_i64 _ (by omega)
 have a2 : (BitVec.ofInt 64 (b : Int)).toNat = b := ofInt_i64 _ (by omega)
 show IntKind.i64.wrap ((BitVec.ofInt 64 ((X * 256 : Nat) : Int) ||| BitVec.ofInt 64 (b : Int)).toNat : Int) = _
 rw [BitVec.toNat_or, a1, a2, h1]
 exact IntWalk.i64_in _ ⟨by omega, by omega⟩
structure Taken (R B m : Nat) (ys : List UInt8) (w w' : World) : Prop where
 rest : ∃ a' c', Blk w' R 40 #[.slice a' m c'] ∧ Bytes w' B a' m ys ∧ m ≤ c'
 far : ∀ {g t cs}, g ≠ R → Blk w g t cs → Blk w' g t cs
 size : w'.heap.size = w.heap.size
 below : ∀ {D}, D ≤ R → Below D w w'
end Go.Proofs.YtcppkaphlcflgaaGreat
namespace Go.Proofs.YtcppkaphlcflgaaGreat
open Go.RowKit

theorem ofInt_u64 (a : Nat) (ha : a < 18446744073709551616) : (BitVec.ofInt 64 (a : Int)).toNat = a := by
 rw [BitVec.ofInt_natCast, BitVec.toNat_ofNat]; exact Nat.mod_eq_of_lt (by omega)
theorem u64_or_low (X b : Nat) (hX : X * 256 ≤ 18446744073709551360) (hb : b < 256) : bits .or .u64 ((X : Int) * 256) (b : Int) = ((X * 256 + b : Nat) : Int) := by
 have h1 : X * 256 ||| b = X * 256 + b := by
  have := Nat.two_pow_add_eq_or_of_lt (i := 8) (b := b) hb X
  rw [Nat.mul_comm X 256]
  exact this.symm
 have e : (X : Int) * 256 = ((X * 256 : Nat) : Int) := by omega
 rw [e]
 have a1 : (BitVec.ofInt 64 ((X * 256 : Nat) : Int)).toNat = X * 256 := ofInt_u64 _ (by omega)
 have a2 : (BitVec.ofInt 64 (b : Int)).toNat = b := ofInt_u64 _ (by omega)
 show IntKind.u64.wrap ((BitVec.ofInt 64 ((X * 256 : Nat) : Int) ||| BitVec.ofInt 64 (b : Int)).toNat : Int) = _
 rw [BitVec.toNat_or, a1, a2, h1]
 exact IntWalk.u64_in _ ⟨by omega, by omega⟩
set_option maxHeartbeats 1000000 in
theorem ttake_calls (R B : Nat) (a : Option Addr) (n c : Nat) (xs : List UInt8) (k : Nat) (w : World) (hR : Blk w R 40 #[.slice a n c]) (hx : Bytes w B a n xs) (hk : k ≤ n) (hk8 : k ≤ 8) :
  Calls Tryz.prog 162 #[.int .i64 k, .pointer (some ⟨R, 0, none⟩)] w fun e w' => e = .returned (.int .u64 (numL (xs.take k) : Nat)) ∧ w' = w.setCell ⟨R, 0, none⟩ (.slice (cutA a c k) (n - k : Nat) (c - k : Nat)) := by
 have hl := hx.len
 have hm := Lib.hid (hx.take hk)
 have hml : (xs.take k).length = k := by rw [List.length_take]; omega
 generalize hys : xs.take k = ys at *
 clear hys
 have HL := Lib.hid hml
 have c0 := hR.cellv (i := 0) rfl
 have f0 := hR.frozen 0
 clear hml hl
 go_enter Tryz.func162, Tryz.ntmps162
 go_wp2
 go_loop [4, 5] (fun x i => ∃ j : Nat, j ≤ k ∧ i = .int .i64 ((j : Int) - 1) ∧ x = .int .u64 (numL (ys.drop j) : Nat)) (fun _ i => (intOf i + 1).toNat)
 case atStart =>
  exact ⟨k, by omega, rfl, by rw [List.drop_of_length_le (by have := HL.out; omega)]; rfl⟩
 case round =>
  obtain ⟨j, hj, rfl, rfl⟩ := hrel
  by_cases hlt : 0 < j
  ·obtain ⟨b, o, hk', rfl, hb, hc⟩ := hm.out.at_ (k := j - 1) (by omega)
   have hd := numL_drop ys (j - 1) hk'
   rw [Nat.sub_add_cancel hlt] at hd
   have hlt2 := numL_drop_lt hk8 HL.out j hlt hj
   have hbl := (ys[j - 1]).toNat_lt
   have HD := Lib.hid hd
   clear hd
   have hor := u64_or_low (numL (ys.drop j)) (ys[j - 1]).toNat hlt2 hbl
   generalize hX : numL (ys.drop j) = X at *
   generalize hY : ys[j - 1] = y at *
   clear hX hY
   obtain ⟨i, rfl⟩ : ∃ i, j = i + 1 := ⟨j - 1, by omega⟩
   rw [Nat.add_sub_cancel] at hc
   rw [Nat.add_sub_cancel] at HD
   rw [show ((i + 1 : Nat) : Int) - 1 = (i : Int) by omega]
   go_wp2
   go_round
   case rel => exact ⟨i, by omega, by go_num, by rw [HD.out]; exact congrArg (Value.int .u64) (by omega)⟩
   case measure => simp [intOf]
  ·obtain rfl : j = 0 := by omega
   have hcut := cutB_from a n c k hk
   go_wp2
   go_ret
   exact ⟨rfl, rfl⟩
structure TTaken (R B m : Nat) (ys : List UInt8) (w w' : World) : Prop where
 rest : ∃ a' c', Blk w' R 40 #[.slice a' m c'] ∧ Bytes w' B a' m ys ∧ m ≤ c'
 far : ∀ {g t cs}, g ≠ R → Blk w g t cs → Blk w' g t cs
 size : w'.heap.size = w.heap.size
 below : ∀ {D}, D ≤ R → Below D w w'
theorem ttake_next (R B : Nat) (a : Option Addr) (n c : Nat) (xs : List UInt8) (k m j i : Nat) (w : World) (hR : Blk w R 40 #[.slice a n c]) (hx : Bytes w B a n (xs.drop j)) (hnc : n ≤ c) (hB : B ≤ R) (hn : n = m + k) (hi : i = j + k) (hk8 : k ≤ 8) :
  Calls Tryz.prog 162 #[.int .i64 k, .pointer (some ⟨R, 0, none⟩)] w fun e w' => e = .returned (.int .u64 (Tg.num xs j k : Nat)) ∧ TTaken R B m (xs.drop i) w w' := by
 refine (ttake_calls R B a n c (xs.drop j) k w hR hx (by omega) hk8).mono ?_
 rintro e w' ⟨rfl, rfl⟩
 have h := (hx.drop (l := k) (by omega) hnc).below ((Below.refl B w).setCell (p := ⟨R, 0, none⟩) hB (.slice (cutA a c k) (n - k : Nat) (c - k : Nat)))
 have hr := hR.set 0 (.slice (cutA a c k) (n - k : Nat) (c - k : Nat))
 rw [List.drop_drop, ← hi] at h
 have e : n - k = m := by omega
 rw [e] at h hr ⊢
 exact ⟨rfl, ⟨_, _, hr, h, by omega⟩, fun hne hb => hb.far hne _, by simp, fun hD => (Below.refl _ _).setCell hD _⟩
end Go.Proofs.YtcppkaphlcflgaaGreat
