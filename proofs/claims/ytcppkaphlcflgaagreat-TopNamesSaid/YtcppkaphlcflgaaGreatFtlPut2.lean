import Derived.Test.YtcppkaphlcflgaaGreatRows
import Derived.Test.YtcppkaphlcflgaaGreatFtlAt
import Derived.Shelf.Abstract
namespace Go.Proofs.YtcppkaphlcflgaaGreat
open Lib (hid)
set_option maxRecDepth 100000
set_option maxHeartbeats 16000000
section
open Go.RowKit

theorem put_calls (r : BitVec 32) (b : UInt8) (w : World) :
  Calls Tryz.prog 169 #[.int .u32 r.toNat, .int .u8 b.toNat] w fun e w' => e = .returned (.int .u32 (Crc.put r b).toNat) ∧ w = w' := by
 have hb0 : b.toNat < 256 := b.toNat_lt
 go_enter Tryz.func169, Tryz.ntmps169
 go_wp2
 go_loop [0, 9] (fun x i => ∃ k : Nat, k ≤ 8 ∧ i = .int .i64 k ∧ x = .int .u32 (Crc.stpN k (r ^^^ b.toBitVec.setWidth 32)).toNat) (fun _ i => 8 - (intOf i).toNat)
 case atStart =>
  exact ⟨0, by omega, rfl, by rw [byte_u32, bits_xor_u32]; rfl⟩
 case round =>
  obtain ⟨k, hk, rfl, rfl⟩ := hrel
  by_cases hlt : k < 8
  ·generalize hx : Crc.stpN k (r ^^^ b.toBitVec.setWidth 32) = x at *
   have HX := hid hx
   clear hx
   have h1 := bits_and_u32 x 1#32
   by_cases hb : x &&& 1#32 = 1#32
   ·have ht : (bits BinOp.and IntKind.u32 (x.toNat : Int) 1 == 1) = true := by
     rw [beq_iff_eq]; refine h1.trans ?_; rw [hb]; rfl
    clear h1
    have HB := hid hb
    clear hb
    go_wp2
    go_round
    case rel => exact ⟨k + 1, by omega, by go_num, by
     rw [shr1_u32, show (3988292384 : Int) = ((3988292384#32).toNat : Int) from rfl, bits_xor_u32, Crc.stpN, HX.out, Crc.stp, if_pos HB.out]⟩
    case measure => simp [intOf]; omega
   ·have ht : (bits BinOp.and IntKind.u32 (x.toNat : Int) 1 == 1) = false := by
     rw [beq_eq_false_iff_ne]; intro hh; apply hb
     have := h1.symm.trans hh
     exact BitVec.eq_of_toNat_eq (by have e : (1#32).toNat = 1 := rfl; rw [e]; omega)
    clear h1
    have HB := hid hb
    clear hb
    go_wp2
    go_round
    case rel => exact ⟨k + 1, by omega, by go_num, by rw [shr1_u32, Crc.stpN, HX.out, Crc.stp, if_neg HB.out]⟩
    case measure => simp [intOf]; omega
  ·obtain rfl : k = 8 := by omega
   go_wp2
   go_ret
   exact ⟨rfl, rfl⟩
end
section
open Go.RowKit

theorem take_snoc {α : Type} (l : List α) (k : Nat) (h : k < l.length) : l.take (k + 1) = l.take k ++ [l[k]] := by
 rw [List.take_succ_eq_append_getElem h]

theorem more_calls (s : BitVec 32) (a : Option Addr) (n c : Nat) (xs : List UInt8) (w : World) (hx : Bytes w w.heap.size a n xs) :
  Calls Tryz.prog 137 #[.int .u32 s.toNat, .slice a n c] w fun e w' => e = .returned (.int .u32 (Crc.more s xs).toNat) ∧ w = w' := by
 have hn := hx.len
 have hroom := hx.room
 have HN := hid hn
 clear hn
 go_enter Tryz.func137, Tryz.ntmps137
 go_wp2
 go_loop [5, 7, 12] (fun x _c i => ∃ k : Nat, k ≤ n ∧ i = .int .i64 k ∧ x = .int .u32 (Crc.puts (~~~s) (xs.take k)).toNat) (fun _ _ i => n - (intOf i).toNat)
 case atStart =>
  exact ⟨0, by omega, rfl, by rw [notx_u32]; rfl⟩
 case round =>
  obtain ⟨k, hk, rfl, rfl⟩ := hrel
  by_cases hlt : k < n
  ·obtain ⟨b, o, hk', rfl, hb, hc⟩ := hx.at_ hlt
   go_wp2_with (go_at_call 169; refine (put_calls _ _ _).mono ?_; rintro e w' ⟨rfl, rfl⟩)
   go_round
   case rel => exact ⟨k + 1, by omega, by go_num, by rw [take_snoc _ _ hk', Crc.puts_snoc]⟩
   case measure => simp [intOf]; omega
  ·obtain rfl : k = n := by omega
   go_wp2
   go_ret
   exact ⟨by rw [List.take_of_length_le (by have := HN.out; omega)]; exact congrArg (fun z => Ending.returned (Value.int .u32 z)) (notx_u32 _), rfl⟩

theorem sum_calls (a : Option Addr) (n c : Nat) (xs : List UInt8) (w : World) (hx : Bytes w w.heap.size a n xs) :
  Calls Tryz.prog 87 #[.slice a n c] w fun e w' => e = .returned (.int .u32 (Crc.sum xs).toNat) ∧ w = w' := by
 go_enter Tryz.func87, Tryz.ntmps87
 go_wp2_with (go_at_call 137; refine (more_calls 0#32 _ _ _ xs _ hx).mono ?_; rintro e w' ⟨rfl, rfl⟩)
 go_ret
 exact ⟨rfl, rfl⟩
end
section
open Go.RowKit

abbrev tagV (t : Tg) : Value := .agg #[.int .i64 t.k, .int .u32 (t.p : Int), .int .u64 (t.s : Int), .int .u64 (t.e : Int)]
abbrev tagO (t : Tg) : Obj := .cells #[.int .i64 t.k, .int .u32 (t.p : Int), .int .u64 (t.s : Int), .int .u64 (t.e : Int)] 103

theorem fits_yes (n : Nat) (h : Tg.Fits n) (w : World) : Calls Tryz.prog 85 #[.int .i64 n] w fun e w' => e = .returned (.bool true) ∧ w = w' := by
 rcases h with rfl | rfl | rfl | rfl
 all_goals
  go_enter Tryz.func85, Tryz.ntmps85
  go_wp2
  go_ret
  exact ⟨rfl, rfl⟩
theorem tput_calls (v0 : Value) (xs : List UInt8) (X n base : Nat) (w : World) (hX : X < 18446744073709551616) (hn : n ≤ 1000) (hl : xs.length ≤ 1000000) (h0 : Own byteV 5 w base v0 xs) (hbase : base ≤ w.heap.size) :
  Calls Tryz.prog 86 #[v0, .int .u64 X, .int .i64 n] w fun e w' => (∃ v, e = .returned v ∧ Own byteV 5 w' base v (xs ++ bigL X n)) ∧ Below base w w' := by
 have H0 := hid h0
 clear h0
 go_enter Tryz.func86, Tryz.ntmps86
 go_wp2
 go_loopw [0, 1, 8] (fun v x i wr => ∃ k : Nat, k ≤ n ∧ i = .int .i64 k ∧ x = .int .u64 (X / 256 ^ k : Nat) ∧ Own byteV 5 wr base v (xs ++ bigL X k) ∧ Below base w wr) (fun _ _ i _ => n - (intOf i).toNat)
 case atStart =>
  exact ⟨0, by omega, rfl, by simp, by simpa [bigL] using H0.out, Below.refl _ _⟩
 case round =>
  obtain ⟨k, hk, rfl, rfl, ho, hb⟩ := hrel
  have HO := hid ho
  have HB := hid hb
  have hsz := hb.size
  have hlt0 : X / 256 ^ k < 18446744073709551616 := Nat.lt_of_le_of_lt (Nat.div_le_self _ _) hX
  have hnext := hid (show X / 256 ^ k / 256 = X / 256 ^ (k + 1) by rw [Nat.div_div_eq_div_mul, Nat.pow_succ])
  have hbyte := hid (show (UInt8.ofNat (X / 256 ^ k)).toNat = X / 256 ^ k % 256 by rw [UInt8.toNat_ofNat'])
  generalize hY : X / 256 ^ k = Y at *
  have HY := hid hY
  clear ho hb hY
  by_cases hlt : k < n
  ·have hlit := hid (show #[Value.int .u8 ((Y : Int) % 256)] = ([UInt8.ofNat Y].map byteV).toArray by
    rw [show ((Y : Int) % 256) = ((Y % 256 : Nat) : Int) by omega, ← hbyte.out]; rfl)
   go_wp2_with (at_builtin; refine wpList_appB rfl _ _ rfl base _ (xs ++ bigL X k) rfl (HO.out.alloc _) _ _ _ _ [UInt8.ofNat Y] rfl (Arr.lit wr 5 [UInt8.ofNat Y] 1 rfl (by omega) hlit.out) (by rw [List.length_append, bigL_len]; omega) (by simp; omega) ?_; intro v1 w1 hown1 hg1 hat1)
   go_roundw
   case rel =>
    refine ⟨k + 1, by omega, by go_num, ?_, ?_, ?_⟩
    ·rw [← hnext.out]; exact congrArg (Value.int .u64) (by omega)
    ·rw [bigL_snoc, HY.out, ← List.append_assoc]; exact hown1
    ·exact below_own (HB.out.alloc (by omega) _) (HO.out.alloc _) hg1 (by simp; omega)
   case measure => simp [intOf]; omega
  ·obtain rfl : k = n := by omega
   go_wp2
   go_ret
   exact ⟨⟨_, rfl, HO.out⟩, HB.out⟩

theorem full_take_succ (xs : List UInt8) (k : Nat) (h : k < xs.length) : Tg.full (xs.take (k + 1)) = (Tg.full (xs.take k) && xs[k] == 255) := by
 unfold Tg.full
 rw [List.take_succ_eq_append_getElem h, List.all_append]
 simp only [List.all_cons, List.all_nil, Bool.and_true]
theorem full_no {xs : List UInt8} {k : Nat} (h : k < xs.length) (hne : xs[k] ≠ 255) : Tg.full xs = false := by
 rw [← Bool.not_eq_true]
 intro hf
 rw [Tg.full, List.all_eq_true] at hf
 have := hf xs[k] (List.getElem_mem h)
 simp at this
 exact hne this
theorem b255 (x : UInt8) : ((x.toNat : Int) = 255) ↔ x = 255 := by
 constructor
 ·intro h; apply UInt8.toNat_inj.1; have : (255 : UInt8).toNat = 255 := rfl; omega
 ·rintro rfl; rfl
theorem erased_calls (a : Option Addr) (n c : Nat) (xs : List UInt8) (w : World) (hx : Bytes w w.heap.size a n xs) :
    Calls Tryz.prog 161 #[.slice a n c] w fun e w' => e = .returned (.bool (Tg.full xs)) ∧ w = w' := by
  have hroom := hx.room
  have HL := hid hx.len
  go_enter Tryz.func161, Tryz.ntmps161
  go_wp2
  go_loop [4, 7] (fun _x i => ∃ k : Nat, k ≤ n ∧ i = .int .i64 k ∧ Tg.full (xs.take k) = true) (fun _ i => n - (intOf i).toNat)
  case atStart => exact ⟨0, by omega, rfl, rfl⟩
  case round =>
    obtain ⟨k, hk, rfl, hf⟩ := hrel
    have HF := hid hf
    clear hf
    by_cases hlt : k < n
    · obtain ⟨b, o, hk', rfl, hb, hc⟩ := hx.at_ hlt
      by_cases h2 : xs[k] = 255
      · rw [h2] at hc
        have h3 := full_take_succ xs k hk'
        rw [h2, HF.out] at h3
        have H3 := hid h3
        clear h3 h2
        go_wp2
        go_round
        case rel => exact ⟨k + 1, by omega, by go_num, H3.out⟩
        case measure => simp [intOf]; omega
      · have h3 : (((xs[k]).toNat : Int) != 255) = true := by rw [bne_iff_ne]; intro h; exact h2 ((b255 _).1 h)
        have h4 := hid (full_no hk' h2)
        clear h2
        go_wp2
        go_ret
        exact ⟨by rw [h4.out]; rfl, rfl⟩
    · obtain rfl : k = n := by omega
      go_wp2
      go_ret
      rw [List.take_of_length_le (by rw [HL.out]; omega)] at HF
      exact ⟨by rw [HF.out]; rfl, rfl⟩
end
section
open Go.RowKit

theorem ofInt_u64 (a : Nat) (ha : a < 18446744073709551616) : (BitVec.ofInt 64 (a : Int)).toNat = a := by
 rw [BitVec.ofInt_natCast, BitVec.toNat_ofNat]; exact Nat.mod_eq_of_lt (by omega)
theorem u64_or_low (X b : Nat) (hX : X * 256 ≤ 18446744073709551360) (hb : b < 256) : bits .or .u64 ((X : Int) * 256) (b : Int) = ((X * 256 + b : Nat) : Int) := by
 have h1 : X * 256 ||| b = X * 256 + b := by
  have := Nat.two_pow_add_eq_or_of_lt (i := 8) (b := b) hb X
  rw [Nat.mul_comm X 256]
  exact this.symm
 have e : (X : Int) * 256 = ((X * 256 : Nat) : Int) := by omega
 rw [e]
 have a1 : (BitVec.ofInt 64 ((X * 256 : Nat) : Int)).toNat = X * 256 := ofInt_u64 _ (by omega)
 have a2 : (BitVec.ofInt 64 (b : Int)).toNat = b := ofInt_u64 _ (by omega)
 show IntKind.u64.wrap ((BitVec.ofInt 64 ((X * 256 : Nat) : Int) ||| BitVec.ofInt 64 (b : Int)).toNat : Int) = _
 rw [BitVec.toNat_or, a1, a2, h1]
 exact IntWalk.u64_in _ ⟨by omega, by omega⟩
theorem ttake_calls (R B : Nat) (a : Option Addr) (n c : Nat) (xs : List UInt8) (k : Nat) (w : World) (hR : Blk w R 40 #[.slice a n c]) (hx : Bytes w B a n xs) (hk : k ≤ n) (hk8 : k ≤ 8) :
  Calls Tryz.prog 162 #[.int .i64 k, .pointer (some ⟨R, 0, none⟩)] w fun e w' => e = .returned (.int .u64 (numL (xs.take k) : Nat)) ∧ w' = w.setCell ⟨R, 0, none⟩ (.slice (cutA a c k) (n - k : Nat) (c - k : Nat)) := by
 have hl := hx.len
 have hm := hid (hx.take hk)
 have hml : (xs.take k).length = k := by rw [List.length_take]; omega
 generalize hys : xs.take k = ys at *
 clear hys
 have HL := hid hml
 have c0 := hR.cellv (i := 0) rfl
 have f0 := hR.frozen 0
 clear hml hl
 go_enter Tryz.func162, Tryz.ntmps162
 go_wp2
 go_loop [4, 5] (fun x i => ∃ j : Nat, j ≤ k ∧ i = .int .i64 ((j : Int) - 1) ∧ x = .int .u64 (numL (ys.drop j) : Nat)) (fun _ i => (intOf i + 1).toNat)
 case atStart =>
  exact ⟨k, by omega, rfl, by rw [List.drop_of_length_le (by have := HL.out; omega)]; rfl⟩
 case round =>
  obtain ⟨j, hj, rfl, rfl⟩ := hrel
  by_cases hlt : 0 < j
  ·obtain ⟨b, o, hk', rfl, hb, hc⟩ := hm.out.at_ (k := j - 1) (by omega)
   have hd := numL_drop ys (j - 1) hk'
   rw [Nat.sub_add_cancel hlt] at hd
   have hlt2 := numL_drop_lt hk8 HL.out j hlt hj
   have hbl := (ys[j - 1]).toNat_lt
   have HD := hid hd
   clear hd
   have hor := u64_or_low (numL (ys.drop j)) (ys[j - 1]).toNat hlt2 hbl
   generalize hX : numL (ys.drop j) = X at *
   generalize hY : ys[j - 1] = y at *
   clear hX hY
   obtain ⟨i, rfl⟩ : ∃ i, j = i + 1 := ⟨j - 1, by omega⟩
   rw [Nat.add_sub_cancel] at hc
   rw [Nat.add_sub_cancel] at HD
   rw [show ((i + 1 : Nat) : Int) - 1 = (i : Int) by omega]
   go_wp2
   go_round
   case rel => exact ⟨i, by omega, by go_num, by rw [HD.out]; exact congrArg (Value.int .u64) (by omega)⟩
   case measure => simp [intOf]
  ·obtain rfl : j = 0 := by omega
   have hcut := cutB_from a n c k hk
   go_wp2
   go_ret
   exact ⟨rfl, rfl⟩
structure TTaken (R B m : Nat) (ys : List UInt8) (w w' : World) : Prop where
 rest : ∃ a' c', Blk w' R 40 #[.slice a' m c'] ∧ Bytes w' B a' m ys ∧ m ≤ c'
 far : ∀ {g t cs}, g ≠ R → Blk w g t cs → Blk w' g t cs
 size : w'.heap.size = w.heap.size
 below : ∀ {D}, D ≤ R → Below D w w'
theorem ttake_next (R B : Nat) (a : Option Addr) (n c : Nat) (xs : List UInt8) (k m j i : Nat) (w : World) (hR : Blk w R 40 #[.slice a n c]) (hx : Bytes w B a n (xs.drop j)) (hnc : n ≤ c) (hB : B ≤ R) (hn : n = m + k) (hi : i = j + k) (hk8 : k ≤ 8) :
  Calls Tryz.prog 162 #[.int .i64 k, .pointer (some ⟨R, 0, none⟩)] w fun e w' => e = .returned (.int .u64 (Tg.num xs j k : Nat)) ∧ TTaken R B m (xs.drop i) w w' := by
 refine (ttake_calls R B a n c (xs.drop j) k w hR hx (by omega) hk8).mono ?_
 rintro e w' ⟨rfl, rfl⟩
 have h := (hx.drop (l := k) (by omega) hnc).below ((Below.refl B w).setCell (p := ⟨R, 0, none⟩) hB (.slice (cutA a c k) (n - k : Nat) (c - k : Nat)))
 have hr := hR.set 0 (.slice (cutA a c k) (n - k : Nat) (c - k : Nat))
 rw [List.drop_drop, ← hi] at h
 have e : n - k = m := by omega
 rw [e] at h hr ⊢
 exact ⟨rfl, ⟨_, _, hr, h, by omega⟩, fun hne hb => hb.far hne _, by simp, fun hD => (Below.refl _ _).setCell hD _⟩
end
section
open Go.RowKit

theorem tagRight_calls (t : Tg) (hp : t.p < 4294967296) (hs : t.s < 18446744073709551616) (he : t.e < 18446744073709551616) (w : World) :
  Calls Tryz.prog 84 #[tagV t] w fun e w' => e = .returned (.bool (Tg.rightB t)) ∧ Below w.heap.size w w' := by
 have hbl := hid ((Below.refl w.heap.size w).alloc (Nat.le_refl _) (tagO t))
 obtain ⟨k, p, s, e⟩ := t
 simp only at hp hs he
 by_cases hk : k = 1 ∨ k = 2
 case neg =>
  have h1 : (k == 1) = false := by rw [beq_eq_false_iff_ne]; omega
  have h2 : (k == 2) = false := by rw [beq_eq_false_iff_ne]; omega
  have hn := hid (Tg.rightB_no (t := ⟨k, p, s, e⟩) (fun h => hk h.1))
  clear hk
  go_enter Tryz.func84, Tryz.ntmps84
  go_wp2
  go_ret
  exact ⟨by rw [hn.out]; rfl, hbl.out⟩
 by_cases h : p < 8192 ∧ 1 ≤ s ∧ s < 4611686018427387904 ∧ 1 ≤ e ∧ e < 4611686018427387904
 case pos =>
  have hn := hid (Tg.rightB_yes (t := ⟨k, p, s, e⟩) ⟨hk, h⟩)
  obtain ⟨h1, h2, h3, h4, h5⟩ := h
  have g1 : (p : Int) < 8192 := by omega
  have g2 : (1 : Int) ≤ s := by omega
  have g3 : (s : Int) < 4611686018427387904 := by omega
  have g4 : (1 : Int) ≤ e := by omega
  have g5 : decide ((e : Int) < 4611686018427387904) = true := decide_eq_true (by omega)
  clear h1 h2 h3 h4 h5 hp hs he
  rcases hk with rfl | rfl
  all_goals
   go_enter Tryz.func84, Tryz.ntmps84
   go_wp2
   go_ret
   exact ⟨by rw [hn.out]; rfl, hbl.out⟩
 case neg =>
  have hn := hid (Tg.rightB_no (t := ⟨k, p, s, e⟩) (fun hh => h hh.2))
  by_cases h1 : p < 8192
  case neg =>
   have g1 : decide ((p : Int) < 8192) = false := decide_eq_false (by omega)
   clear h h1 hp hs he
   rcases hk with rfl | rfl
   all_goals
    go_enter Tryz.func84, Tryz.ntmps84
    go_wp2
    go_ret
    exact ⟨by rw [hn.out]; rfl, hbl.out⟩
  by_cases h2 : 1 ≤ s
  case neg =>
   have g1 : (p : Int) < 8192 := by omega
   have g2 : decide ((1 : Int) ≤ s) = false := decide_eq_false (by omega)
   clear h h1 h2 hp hs he
   rcases hk with rfl | rfl
   all_goals
    go_enter Tryz.func84, Tryz.ntmps84
    go_wp2
    go_ret
    exact ⟨by rw [hn.out]; rfl, hbl.out⟩
  by_cases h3 : s < 4611686018427387904
  case neg =>
   have g1 : (p : Int) < 8192 := by omega
   have g2 : (1 : Int) ≤ s := by omega
   have g3 : decide ((s : Int) < 4611686018427387904) = false := decide_eq_false (by omega)
   clear h h1 h2 h3 hp hs he
   rcases hk with rfl | rfl
   all_goals
    go_enter Tryz.func84, Tryz.ntmps84
    go_wp2
    go_ret
    exact ⟨by rw [hn.out]; rfl, hbl.out⟩
  by_cases h4 : 1 ≤ e
  case neg =>
   have g1 : (p : Int) < 8192 := by omega
   have g2 : (1 : Int) ≤ s := by omega
   have g3 : (s : Int) < 4611686018427387904 := by omega
   have g4 : decide ((1 : Int) ≤ e) = false := decide_eq_false (by omega)
   clear h h1 h2 h3 h4 hp hs he
   rcases hk with rfl | rfl
   all_goals
    go_enter Tryz.func84, Tryz.ntmps84
    go_wp2
    go_ret
    exact ⟨by rw [hn.out]; rfl, hbl.out⟩
  have h5 : ¬ e < 4611686018427387904 := fun h5 => h ⟨h1, h2, h3, h4, h5⟩
  clear h
  have g1 : (p : Int) < 8192 := by omega
  have g2 : (1 : Int) ≤ s := by omega
  have g3 : (s : Int) < 4611686018427387904 := by omega
  have g4 : (1 : Int) ≤ e := by omega
  have g5 : decide ((e : Int) < 4611686018427387904) = false := decide_eq_false (by omega)
  clear h1 h2 h3 h4 h5 hp hs he
  rcases hk with rfl | rfl
  all_goals
   go_enter Tryz.func84, Tryz.ntmps84
   go_wp2
   go_ret
   exact ⟨by rw [hn.out]; rfl, hbl.out⟩
end
section
open Go.RowKit

theorem twrite_good (t : Tg) (a : Option Addr) (n c : Nat) (pay : List UInt8) (w : World) (ht : Tg.Right t) (hf : Tg.Fits n) (hx : Bytes w w.heap.size a n pay) :
  Calls Tryz.prog 45 #[tagV t, .slice a n c] w fun e w' => (∃ v, e = .returned (.tuple #[v, .int .i64 0]) ∧ Own byteV 5 w' w.heap.size v (Tg.page t pay)) ∧ Below w.heap.size w w' := by
 have hbl := hid ((Below.refl w.heap.size w).alloc (Nat.le_refl _) (tagO t))
 have hrb := Tg.rightB_yes ht
 have HP := hid hx.len
 have hb0 : 64 ≤ n ∧ n ≤ 512 := by unfold Tg.Fits at hf; omega
 obtain ⟨hb1, hb2⟩ := hb0
 have HF := hid hf
 have HX := hid hx
 obtain ⟨k, p, s, e⟩ := t
 obtain ⟨hk, hp, hs0, hs, he0, he⟩ := id ht
 simp only at hk hp hs0 hs he0 he
 have HR := hid ht
 have HHP := hid (show p < 8192 from hp)
 have HHS := hid (show s < 18446744073709551616 by omega)
 have HHE := hid (show e < 18446744073709551616 by omega)
 have hk1 : 1 ≤ k ∧ k ≤ 2 := by omega
 obtain ⟨hk1, hk2⟩ := hk1
 clear hk ht hf hx hs0 he0 hs he
 have bk0 := hid (Blk.new w 103 #[.int .i64 k, .int .u32 (p : Int), .int .u64 (s : Int), .int .u64 (e : Int)])
 have hmk := makeC (n + 32) (by omega)
 rw [show ((n + 32 : Nat) : Int) = (n : Int) + 32 by omega] at hmk
 go_enter Tryz.func45, Tryz.ntmps45
 go_wp2_with fail
 refine (tagRight_calls ⟨k, p, s, e⟩ (show p < 4294967296 by omega) HHS.out HHE.out _).mono ?_
 rw [hrb]
 rintro e1 w1 ⟨rfl, hb⟩
 have bk1 := hid (bk0.out.belowHere hb)
 have HB1 := hid (Below.then_ hbl.out hb)
 have hlt := bk1.out.lt
 clear hb bk0 hbl hrb
 go_wp2_with fail
 refine (fits_yes n HF.out _).mono ?_
 rintro e2 w2 ⟨rfl, rfl⟩
 have ho2 := hid (ownMadeC w1 w1.heap.size (n + 32) (Nat.le_refl _) (by omega))
 have hb2 := HB1.out.alloc HB1.out.size (.cells (Array.replicate (n + 32) (.int .u8 0)) 5)
 have HB2 := hid hb2
 have bk2 := hid (bk1.out.alloc (.cells (Array.replicate (n + 32) (.int .u8 0)) 5))
 have hx2 := hid (HX.out.below hb2)
 clear hb2
 have hlit := hid (show #[Value.int .u8 67, Value.int .u8 85, Value.int .u8 k, Value.int .u8 0] = ([67, 85, UInt8.ofNat k.toNat, 0].map byteV).toArray by
  simp only [List.map_cons, List.map_nil, byteV, UInt8.toNat_ofNat']
  rw [show ((k.toNat % 2 ^ 8 : Nat) : Int) = k by omega]
  rfl)
 go_wp2_with (first
  | (at_builtin; refine wpList_ontoB rfl _ _ rfl w1.heap.size _ [] rfl ho2.out _ _ _ _ pay rfl hx2.out (by simp; omega) (by simp) ?_; intro v3 w3 HO3 hb3; have bk3 := hid (bk2.out.below hb3.out hlt); have hs3 : w1.heap.size < w3.heap.size := (by have := hb3.out.size; simp at this; omega); have q0 := bk3.out.cellv (i := 0) rfl)
  | (at_builtin; refine wpList_litB rfl _ _ rfl w1.heap.size _ ([] ++ pay) rfl HO3.out 4 [67, 85, UInt8.ofNat k.toNat, 0] rfl rfl hlit.out (by rw [List.nil_append, HP.out]; omega) (by omega) ?_; intro v4 w4 HO4 hb4; have bk4 := hid (bk3.out.below hb4.out hlt); have hs4 := hb4.out.size; have q1 := bk4.out.cellv (i := 1) rfl))
 clear q0 q1 hmk
 have hb4 := hid (hb3.out.trans hb4.out)
 generalize hL4 : [] ++ pay ++ [67, 85, UInt8.ofNat k.toNat, 0] = L4 at HO4
 have l4 : L4.length = n + 4 := by rw [← hL4]; simp [HP.out]
 have HL4 := hid hL4
 clear hL4
 refine (tput_calls _ L4 p 4 w1.heap.size _ (by omega) (by omega) (by omega) HO4.out (by omega)).mono ?_
 rintro _ w5 ⟨⟨v5, rfl, ho⟩, hb⟩
 have hs5 := hb.size
 have bk5 := hid (bk4.out.below hb hlt)
 have hb5 := hid (hb4.out.trans hb)
 generalize hL5 : L4 ++ bigL p 4 = L5 at ho
 have l5 : L5.length = n + 8 := by rw [← hL5]; simp [bigL_len]; omega
 have HO5 := hid ho
 have HL5 := hid hL5
 clear ho hb hL5 bk4 hb4 HO4
 have q2 := bk5.out.cellv (i := 2) rfl
 go_wp2_with fail
 clear q2
 refine (tput_calls _ L5 s 8 w1.heap.size _ HHS.out (by omega) (by omega) HO5.out (by omega)).mono ?_
 rintro _ w6 ⟨⟨v6, rfl, ho⟩, hb⟩
 have hs6 := hb.size
 have bk6 := hid (bk5.out.below hb hlt)
 have hb6 := hid (hb5.out.trans hb)
 generalize hL6 : L5 ++ bigL s 8 = L6 at ho
 have l6 : L6.length = n + 16 := by rw [← hL6]; simp [bigL_len]; omega
 have HO6 := hid ho
 have HL6 := hid hL6
 clear ho hb hL6 bk5 hb5 HO5
 have q3 := bk6.out.cellv (i := 3) rfl
 go_wp2_with fail
 clear q3
 refine (tput_calls _ L6 e 8 w1.heap.size _ HHE.out (by omega) (by omega) HO6.out (by omega)).mono ?_
 rintro _ w7 ⟨⟨v7, rfl, ho⟩, hb⟩
 have hs7 := hb.size
 have bk7 := hid (bk6.out.below hb hlt)
 have hb7 := hid (hb6.out.trans hb)
 generalize hL7 : L6 ++ bigL e 8 = L7 at ho
 have l7 : L7.length = n + 24 := by rw [← hL7]; simp [bigL_len]; omega
 have HO7 := hid ho
 have HL7 := hid hL7
 clear ho hb hL7 bk6 hb6 HO6
 have hL7 : L7 = pay ++ Tg.head ⟨k, p, s, e⟩ := by rw [← HL7.out, ← HL6.out, ← HL5.out, ← HL4.out]; simp [Tg.head]
 have HL := hid hL7
 clear hL7
 obtain ⟨a7, c7, rfl, _⟩ := HO7.out.formN l7
 have hb7' := hid (HO7.out.arr (by omega))
 go_wp2_with fail
 refine (sum_calls _ _ _ L7 _ hb7'.out).mono ?_
 rintro _ w8 ⟨rfl, rfl⟩
 have hsum := (Crc.sum L7).isLt
 have HSM := hid (show (Crc.sum L7).toNat = Tg.sumOf ⟨k, p, s, e⟩ pay by rw [HL.out]; rfl)
 generalize (Crc.sum L7).toNat = S at *
 go_wp2_with fail
 refine (tput_calls _ L7 S 4 w1.heap.size _ (by omega) (by omega) (by omega) HO7.out (by omega)).mono ?_
 rintro _ w9 ⟨⟨v9, rfl, ho⟩, hb⟩
 have hs9 := hb.size
 have bk9 := hid (bk7.out.below hb hlt)
 have hb9 := hid (hb7.out.trans hb)
 generalize hL9 : L7 ++ bigL S 4 = L9 at ho
 have l9 : L9.length = n + 28 := by rw [← hL9]; simp [bigL_len]; omega
 have HO9 := hid ho
 have HL9 := hid hL9
 clear ho hb hL9 bk7 hb7 HO7
 go_wp2_with fail
 refine (tput_calls _ L9 0 4 w1.heap.size _ (by omega) (by omega) (by omega) HO9.out (by omega)).mono ?_
 rintro _ w10 ⟨⟨v10, rfl, ho⟩, hb⟩
 have hs10 := hb.size
 have bk10 := hid (bk9.out.below hb hlt)
 have hb10 := hid (hb9.out.trans hb)
 generalize hL10 : L9 ++ bigL 0 4 = L10 at ho
 have l10 : L10.length = n + 32 := by rw [← hL10]; simp [bigL_len]; omega
 have HO10 := hid ho
 have HL10 := hid hL10
 clear ho hb hL10 bk9 hb9 HO9
 have hfin : L10 = Tg.page ⟨k, p, s, e⟩ pay := by rw [← HL10.out, ← HL9.out, HL.out, HSM.out, Tg.page_eq]; rfl
 have HB := hid (HB2.out.trans (hb10.out.mono (Nat.le_of_lt hlt)))
 have HO := hid (hfin ▸ HO10.out.mono (Nat.le_of_lt hlt))
 clear hfin
 go_wp2
 go_ret2
 exact ⟨⟨_, rfl, HO.out⟩, HB.out⟩
end
section
open Go.RowKit

namespace Ftl
def sk (e : En) : Tg × List UInt8 := (e.t, e.d)
structure Same (f f' : Fm) : Prop where
 F : f'.F = f.F
 SE : f'.SE = f.SE
 NO : f'.NO = f.NO
 GO : f'.GO = f.GO
 LA : f'.LA = f.LA
 M : f'.g.M = f.g.M
 ML : f'.g.ML = f.g.ML
 C : f'.g.C = f.g.C
 seq : f'.seq = f.seq
 ep : f'.ep = f.ep
 tv : f'.tv = f.tv
 tx : f'.tx = f.tx
 ov : f'.ov = f.ov
 se : f'.se.map sk = f.se.map sk
 no : f'.no.map sk = f.no.map sk
 go : f'.go.map (fun e => e.t.p) = f.go.map fun e => e.t.p
 gh : f'.g.gh = f.g.gh
theorem Same.refl (f : Fm) : Same f f := ⟨rfl, rfl, rfl, rfl, rfl, rfl, rfl, rfl, rfl, rfl, rfl, rfl, rfl, rfl, rfl, rfl, rfl⟩
theorem Same.trans {a b c : Fm} (h : Same a b) (k : Same b c) : Same a c :=
 ⟨k.F.trans h.F, k.SE.trans h.SE, k.NO.trans h.NO, k.GO.trans h.GO, k.LA.trans h.LA, k.M.trans h.M, k.ML.trans h.ML, k.C.trans h.C, k.seq.trans h.seq, k.ep.trans h.ep, k.tv.trans h.tv, k.tx.trans h.tx, k.ov.trans h.ov, k.se.trans h.se, k.no.trans h.no, k.go.trans h.go, k.gh.trans h.gh⟩
theorem Same.lenE {f f' : Fm} (h : Same f f') : (f'.se ++ f'.no).length = (f.se ++ f.no).length := by
 have h1 := congrArg List.length h.se
 have h2 := congrArg List.length h.no
 simp only [List.length_map] at h1 h2
 rw [List.length_append, List.length_append, h1, h2]
theorem putE_perm {l : List En} {x e : En} (hu : Uq l) (hx : x ∈ l) (hp : x.t.p = e.t.p) : (x :: putE l e).Perm (e :: l) := by
 obtain ⟨l1, l2, rfl⟩ := List.append_of_mem hx
 rw [putE_is hu hp]
 refine ((List.perm_middle (a := e) (l₁ := l1) (l₂ := l2)).cons x).trans ?_
 refine (List.Perm.swap e x (l1 ++ l2)).trans ?_
 exact (List.perm_middle.symm).cons e
end Ftl
end
section
open Go.RowKit

namespace Ftl
theorem enough_is {g : Mg} (h : enough g = true) : 3 ≤ Gc.count 0 g.l ∧ (g.opn ≠ -1 ∨ 4 ≤ Gc.count 0 g.l) := by
 unfold enough at h
 rw [Bool.and_eq_true, Bool.or_eq_true, decide_eq_true_eq, decide_eq_true_eq, decide_eq_true_eq] at h
 exact h
end Ftl
section
open Ftl
variable {NB B n : Nat} {R : Nat → Prop} {w : World} {f : Fm}
def Esd (NB B : Nat) (R : Nat → Prop) (n : Nat) (f : Fm) (w : World) (e : Ending) (w' : World) : Prop :=
 e = .returned (.int .i64 0) ∧ ∃ f', FtR NB B R w w' f' ∧ Same f f' ∧ Fi NB (n + 17 * (NB + 1)) [] f'.g (f'.se ++ f'.no) ∧ Ftl.enough f'.g = true
theorem ensure_calls (h : FtM NB B R w f) (hi : Fi NB n [] f.g (f.se ++ f.no)) (hen : Ftl.enough f.g = true) :
  Calls Tryz.prog 155 #[.pointer (some ⟨f.F, 0, none⟩)] w (Esd NB B R n f w) := by
 have hnb := hi.nb
 obtain ⟨hnb1, hnb2⟩ := hnb
 have c0 := h.c0
 have HG := hid (fGeo_calls h)
 have HH := hid h
 have HI := hid hi
 have HEn := hid hen
 have HB0 := h.base
 have i1 := IntWalk.i64_in (8 * (NB : Int)) ⟨by omega, by omega⟩
 have i2 := IntWalk.i64_in (8 * (NB : Int) * 8) ⟨by omega, by omega⟩
 have hcs := geoCells
 clear h hi hen
 go_enter Tryz.func155, Tryz.ntmps155
 go_wp2_with fail
 refine HG.out.mono ?_
 rintro e w1 ⟨rfl, hb⟩
 have HB1 := hid hb
 unfold geoV
 clear hb c0
 go_wp2_with fail
 have HB2 := hid (HB1.out.alloc HB1.out.size (.cells #[.int .i64 (NB : Int), .int .i64 8, .int .i64 64] 66))
 generalize w1.alloc (.cells #[.int .i64 (NB : Int), .int .i64 8, .int .i64 64] 66) = w2 at *
 go_loopw [2, 4, 16] (fun _ _ v wr => v = .int .i64 0 ∧ Hid (FtR NB B R w2 wr f)) (fun _ _ _ _ => 0)
 case atStart => exact ⟨rfl, ((HH.out.on HB2.out).refl)⟩
 case round =>
  obtain ⟨rfl, H1⟩ := hrel
  have hlt : (0 : Int) < 8 * (NB : Int) * 8 := by omega
  have hE := fEnough_calls H1.out.1 HI.out
  rw [HEn.out] at hE
  have HE := hid hE
  have hBw : B ≤ w2.heap.size := Nat.le_trans HB0 HB2.out.size
  clear hE
  go_wp2_with fail
  refine HE.out.mono ?_
  rintro e w3 ⟨rfl, hb3⟩
  have H3 := hid ((H1.out.on hb3 hBw).from_ HB2.out HB0)
  clear hb3
  go_wp2
  go_ret
  exact ⟨rfl, f, H3.out, Same.refl f, HI.out.le (by omega), HEn.out⟩
end
end
section
open Go.RowKit Ftl

section
variable {NB B n : Nat} {R : Nat → Prop} {w : World} {f : Fm} {x : List Nat} {E : List En}
theorem clean_calls (h : FtM NB B R w f) (hn : NB ≤ 1000) :
  Calls Tryz.prog 154 #[.pointer (some ⟨f.F, 0, none⟩)] w fun e w' => e = .returned (.int .i64 0) ∧ Below w.heap.size w w' := by
 have hb0 := (Below.refl w.heap.size w).alloc (Nat.le_refl _) (.cells #[.bool false, .bool true] 4)
 have HH := hid (h.on hb0)
 have HK := hid (Blk.new w 4 #[.bool false, .bool true])
 have HB0 := hid hb0
 clear h hb0
 go_enter Tryz.func154, Tryz.ntmps154
 go_wp2_with fail
 generalize w.alloc (.cells #[.bool false, .bool true] 4) = w1 at *
 obtain ⟨Q, hQ⟩ : ∃ Q, Q = w.heap.size := ⟨_, rfl⟩
 rw [← hQ] at HK ⊢
 have HQ := hid hQ
 clear hQ
 go_loopw [4, 5, 6, 9] (fun _ _ _ v wr => ∃ i : Nat, i ≤ 2 ∧ v = .int .i64 (i : Int) ∧ wr = w1) (fun _ _ _ v _ => 2 - (intOf v).toNat)
 case atStart => exact ⟨0, by omega, rfl, rfl⟩
 case round =>
  obtain ⟨i, hi, rfl, hw⟩ := hrel
  subst hw
  by_cases hlt : i < 2
  ·have hc : ∃ bv : Bool, wr.cell? ⟨Q, i, none⟩ = some (.bool bv) := by
    rcases (show i = 0 ∨ i = 1 by omega) with rfl | rfl
    ·exact ⟨false, Blk.cellv HK.out rfl⟩
    ·exact ⟨true, Blk.cellv HK.out rfl⟩
   obtain ⟨bv, hc⟩ := hc
   have g1 : (0 : Int) ≤ (i : Int) := by omega
   have g2 : (i : Int) < 2 := by omega
   have c10 := HH.out.c10
   go_wp2_with fail
   go_loopw [5, 6, 18] (fun _ _ v wq => ∃ j : Nat, j ≤ NB ∧ v = .int .i64 (j : Int) ∧ wq = wr) (fun _ _ v _ => NB - (intOf v).toNat)
   case atStart => exact ⟨0, by omega, rfl, rfl⟩
   case round =>
    obtain ⟨j, hj, rfl, hw⟩ := hrel
    subst hw
    by_cases hlj : j < NB
    ·have y0 : wr.cell? ⟨f.LA, j, none⟩ = some (.bool false) := by
      have y9 := (HH.out.hL.cellg (k := j) (by simpa using hlj)).1
      rw [List.getElem_replicate] at y9
      exact y9
     have g3 : (0 : Int) ≤ (j : Int) := by omega
     have g4 : (j : Int) < (NB : Int) := by omega
     go_wp2_with fail
     go_roundw
     case rel => exact ⟨j + 1, by omega, by go_num, trivial⟩
     case measure => simp [intOf]; omega
    ·obtain rfl : j = NB := by omega
     go_wp2_with fail
     go_roundw
     case rel => exact ⟨i + 1, by omega, by go_num, trivial⟩
     case measure => simp [intOf]; omega
  ·obtain rfl : i = 2 := by omega
   go_wp2
   go_ret
   exact ⟨rfl, HB0.out⟩
def Pgm (NB B : Nat) (R : Nat → Prop) (n : Nat) (x : List Nat) (E : List En) (f : Fm) (bs : List UInt8) (w : World) (e : Ending) (w' : World) : Prop :=
 ∃ (k i : Nat) (g' : Mg), e = .returned (.tuple #[.agg #[.int .i64 (k : Int), .int .i64 (i : Int)], .int .i64 0]) ∧ FtR NB B R w w' { f with g := g' } ∧ Pgd NB f.g g' k i bs ∧ Fi NB (n + 1) (k :: x) g' E
theorem program_calls (h : FtM NB B R w f) (hi : Fi NB n x f.g E) (hr : f.g.opn ≠ -1 ∨ 0 < Gc.count 0 f.g.l) (a : Option Addr) (c : Nat) (bs : List UInt8) (hgh : f.g.gh bs) (hbs : Own byteV 5 w 0 (.slice a 96 c) bs) (hap : ∀ q, Value.ownBlock (.slice a 96 c) = some q → ¬ R q) :
  Calls Tryz.prog 156 #[.pointer (some ⟨f.F, 0, none⟩), .slice a 96 c] w (Pgm NB B R n x E f bs w) := by
 have HB0 := h.base
 have hb0 := (Below.refl w.heap.size w).alloc (Nat.le_refl _) (.cells #[.int .i64 0, .int .i64 0] 184)
 have h1 := h.on hb0
 have HK := hid (Blk.new w 184 #[.int .i64 0, .int .i64 0])
 have HZ := hid (h.not_new (Nat.le_refl w.heap.size))
 have HBl := hid hb0
 have HP := hid (fProg_calls h1 hi hr a c bs hgh (hbs.on hb0) hap)
 have c1 := h1.c1
 clear h h1 hi hr hgh hbs hap hb0
 have hcs := placeCells
 go_enter Tryz.func156, Tryz.ntmps156
 go_wp2_with fail
 refine wp_loop_rounds 1 ?_
 rw [rounds_succ]
 generalize w.alloc (.cells #[.int .i64 0, .int .i64 0] 184) = w1 at *
 obtain ⟨Z, hZ⟩ : ∃ Z, Z = w.heap.size := ⟨_, rfl⟩
 rw [← hZ] at HK HZ ⊢
 have HZe := hid hZ
 clear hZ
 go_wp2_with fail
 refine HP.out.mono ?_
 rintro e w2 ⟨k, i, g', rfl, h2, hpg, hfi⟩
 have HK2 := hid (h2.blk HK.out HZ.out)
 have H2 := hid h2
 have HPg := hid hpg
 have HFi := hid hfi
 clear h2 hpg hfi c1
 obtain ⟨k0, k1, f0, f1, q0, q1⟩ := plZ HK2.out k i
 have HF := hid (H2.out.tail HBl.out HB0 (((Kq.refl (fun q => q = Z) w2).setCell (p := ⟨Z, 0, none⟩) (.inl rfl) (.int .i64 (k : Int))).setCell (p := ⟨Z, 1, none⟩) (.inl rfl) (.int .i64 (i : Int))) fun q hq => by subst hq; exact ⟨by rw [HZe.out]; exact Nat.le_refl _, Blk.lt HK.out, HZ.out⟩)
 go_wp2_with fail
 refine bodyPost_ret (v := .tuple #[.agg #[.int .i64 (k : Int), .int .i64 (i : Int)], .int .i64 0]) (by simp [results, Tryz.results156, go_sem, q0, q1]) rfl ⟨k, i, g', rfl, HF.out, HPg.out, HFi.out⟩
end
end
section
open Go.RowKit Ftl

theorem tagCs : Tryz.prog.cellsOf 103 = 4 := by kernel_rfl
section
variable {NB B n : Nat} {R : Nat → Prop} {w : World} {f : Fm}
def Ptd (NB B : Nat) (R : Nat → Prop) (n : Nat) (f : Fm) (t : Tg) (pay : List UInt8) (w : World) (e : Ending) (w' : World) : Prop :=
 ∃ (k i : Nat) (f1 : Fm) (g' : Mg), e = .returned (.tuple #[.agg #[.int .i64 (k : Int), .int .i64 (i : Int)], .int .i64 0]) ∧ FtR NB B R w w' { f1 with g := g', seq := f.seq + 1 } ∧ Same f f1 ∧ Pgd NB f1.g g' k i (Tg.page t pay) ∧ Fi NB (n + 17 * (NB + 1) + 1) [k] g' (f1.se ++ f1.no) ∧ 3 ≤ Gc.count 0 g'.l
theorem Ftl.Pgd.fr {g g' : Mg} {k i : Nat} {bs : List UInt8} (h : Pgd NB g g' k i bs) (he : Ftl.enough g = true) : 3 ≤ Gc.count 0 g'.l := by
 obtain ⟨h1, h2⟩ := enough_is he
 rcases h.was with ⟨a1, _, _, a4⟩ | ⟨a1, _, _, a4⟩
 ·rcases h2 with h2 | h2
  ·exact absurd a1 h2
  ·omega
 ·omega
theorem fput_calls (hen0 : Ftl.enough f.g = true) (h : FtM NB B R w f) (hi : Fi NB n [] f.g (f.se ++ f.no)) (h3 : 3 ≤ Gc.count 0 f.g.l) (hE : (f.se ++ f.no).length + 2 ≤ 8 * (NB - 3)) (hn : n ≤ 1099511000000)
  (kd p : Nat) (hk : kd = 1 ∨ kd = 2) (hp : p < 8192) (hs : 1 ≤ f.seq ∧ f.seq ≤ 1000000000) (he : 1 ≤ f.ep ∧ f.ep ≤ 1000000000) (a : Option Addr) (c : Nat) (pay : List UInt8) (hgh : f.g.gh (Tg.page ⟨(kd : Int), p, f.seq, f.ep⟩ pay)) (hx : Bytes w w.heap.size a 64 pay) (hap : ∀ b o, a = some ⟨b, o, none⟩ → ¬ R b) :
  Calls Tryz.prog 115 #[.pointer (some ⟨f.F, 0, none⟩), .agg #[.int .i64 (kd : Int), .int .u32 (p : Int), .int .u64 0, .int .u64 0], .slice a 64 c] w (Ptd NB B R n f ⟨(kd : Int), p, f.seq, f.ep⟩ pay w) := by
 have HEn0 := hid hen0
 have HB0 := h.base
 obtain ⟨t, ht⟩ : ∃ t : Tg, t = ⟨(kd : Int), p, f.seq, f.ep⟩ := ⟨_, rfl⟩
 have hright : Tg.Right t := by
  rw [ht]
  exact ⟨by rcases hk with rfl | rfl <;> simp, hp, hs.1, by show f.seq < _; omega, he.1, by show f.ep < _; omega⟩
 have HT := hid ht
 have HRt := hid hright
 obtain ⟨w1, hw1⟩ : ∃ w1, w1 = (w.alloc (.cells #[.int .i64 (kd : Int), .int .u32 (p : Int), .int .u64 0, .int .u64 0] 103)).alloc (.cells #[.int .i64 0, .int .i64 0] 184) := ⟨_, rfl⟩
 have hb1 : Below w.heap.size w w1 := by rw [hw1]; exact ((Below.refl _ w).alloc (Nat.le_refl _) _).alloc (by simp) _
 have hq1 : Blk w1 w.heap.size 103 #[.int .i64 (kd : Int), .int .u32 (p : Int), .int .u64 0, .int .u64 0] := by rw [hw1]; exact (Blk.new w _ _).alloc _
 have hz1 : Blk w1 (w.heap.size + 1) 184 #[.int .i64 0, .int .i64 0] := by
  have := Blk.new (w.alloc (.cells #[.int .i64 (kd : Int), .int .u32 (p : Int), .int .u64 0, .int .u64 0] 103)) 184 #[.int .i64 0, .int .i64 0]
  rw [World.size_alloc] at this
  rw [hw1]; exact this
 have HW1 := hid hw1
 have HB1 := hid hb1
 have HQ1 := hid hq1
 have HZ1 := hid hz1
 have HQn := hid (h.not_new (Nat.le_refl w.heap.size))
 have HZn := hid (show ¬ R (w.heap.size + 1) from h.not_new (Nat.le_succ w.heap.size))
 have H1 := hid (h.on hb1)
 have HX1 := hid (hx.on hb1)
 have HAp := hid hap
 have HAb := hid (show ∀ b o, a = some ⟨b, o, none⟩ → b < w.heap.size from fun b o e => by obtain ⟨b', o', e', hlt, _⟩ := hx.2.2 (by omega); rw [e] at e'; injection e' with e'; injection e' with e'; omega)
 have HI := hid hi
 have H3 := hid h3
 have HE := hid hE
 have HN := hid hn
 have HSq := hid hs
 have HEp := hid he
 have HGh := hid (show f.g.gh (Tg.page t pay) by rw [ht]; exact hgh)
 have hnb := hi.nb
 clear hen0 hgh h hi h3 hE hn hk hs he hx hap ht hright hb1 hq1 hz1
 go_enter Tryz.func115, Tryz.ntmps115
 go_upto_region 1 with fail
 rw [← hw1]
 clear hw1
 go_wp2_with fail
 refine (clean_calls H1.out hnb.2).mono ?_
 rintro e w2 ⟨rfl, hb2⟩
 have H2 := hid (H1.out.on hb2)
 have HQ2 := hid (HQ1.out.belowHere hb2)
 have HZ2 := hid (HZ1.out.belowHere hb2)
 have HX2 := hid (HX1.out.on hb2)
 have HB2 := hid (HB1.out.then_ hb2)
 clear hb2
 go_wp2_with fail
 refine (ensure_calls H2.out HI.out HEn0.out).mono ?_
 rintro e w3 ⟨rfl, f1, h3, hsame, hfi, hen⟩
 have H4 := hid h3
 have HS := hid hsame
 have HFi := hid hfi
 have HEn := hid hen
 have HQ3 := hid (h3.blk HQ2.out HQn.out)
 have HZ3 := hid (h3.blk HZ2.out HZn.out)
 have HX3 := hid ((HX2.out.kq (Nat.le_refl _) h3.2 HAp.out).mono h3.2.size)
 have c8 := h3.1.c8
 have c9 := h3.1.c9
 rw [hsame.F, hsame.seq] at c8
 rw [hsame.F, hsame.ep] at c9
 clear h3 hsame hfi hen
 go_upto_region 7 with fail
 have hd := HQ3.out.drew
 have y2 := Blk.cellv (i := 2) hd rfl
 have y3 := Blk.cellv (i := 3) hd rfl
 have u2 := Blk.frozen hd 2
 have u3 := Blk.frozen hd 3
 have hs1 := hd.set 2 (.int .u64 (f.seq : Int))
 have v3 := hs1.cellv (i := 3) (v := .int .u64 0) rfl
 have x3 := hs1.frozen 3
 have HQ4 := hid (hs1.set 3 (.int .u64 (f.ep : Int)))
 have hFQ : f.F ≠ w.heap.size := by
  have h1 := H2.out.inF
  exact fun e => HQn.out (e ▸ h1)
 have HFQ := hid hFQ
 clear hd hs1 hFQ
 obtain ⟨W, hW⟩ : ∃ W, W = w3.drew := ⟨_, rfl⟩
 have hc : W.cell? ⟨f.F, 8, none⟩ = some (.int .u64 (f.seq : Int)) ∧ W.cell? ⟨f.F, 9, none⟩ = some (.int .u64 (f.ep : Int)) := by rw [hW]; exact ⟨c8, c9⟩
 rw [← hW] at y2 y3 u2 u3 v3 x3 HQ4
 have HWe := hid hW
 clear c8 c9
 have far : ∀ (U : World) (i : Nat) (u : Value), (U.cell? ⟨f.F, 8, none⟩ = some (.int .u64 (f.seq : Int)) ∧ U.cell? ⟨f.F, 9, none⟩ = some (.int .u64 (f.ep : Int))) → (U.setCell ⟨w.heap.size, i, none⟩ u).cell? ⟨f.F, 8, none⟩ = some (.int .u64 (f.seq : Int)) ∧ (U.setCell ⟨w.heap.size, i, none⟩ u).cell? ⟨f.F, 9, none⟩ = some (.int .u64 (f.ep : Int)) := fun U i u hU =>
  ⟨(World.cell?_setCell_far U ⟨w.heap.size, i, none⟩ ⟨f.F, 8, none⟩ u (Ne.symm HFQ.out)).trans hU.1, (World.cell?_setCell_far U ⟨w.heap.size, i, none⟩ ⟨f.F, 9, none⟩ u (Ne.symm HFQ.out)).trans hU.2⟩
 have FAR := hid far
 clear far
 refine wp_region_noPanic ?_
 refine wp_region_held_drew (S := (fun W' => W'.cell? ⟨f.F, 8, none⟩ = some (.int .u64 (f.seq : Int)) ∧ W'.cell? ⟨f.F, 9, none⟩ = some (.int .u64 (f.ep : Int)))) (by kernel_rfl) (by rw [← HWe.out]; exact hc) (fun hS0 => ?_)
 rw [← hW] at hS0 ⊢
 clear hW hc
 refine tk 0 ((.pointer (some ⟨f.F, 0, none⟩))) rfl (fun _ _ => rfl) ?_
 try simp only [layR]
 refine tk 1 ((.pointer (some ⟨f.F, 0, none⟩))) rfl (fun _ _ => rfl) ?_
 try simp only [layR]
 refine tk 2 ((.pointer (some ⟨f.F, 8, none⟩))) rfl (fun W hSw => ?_) ?_
 ·skip
  go_simp
 try simp only [layR]
 refine tk 3 ((.int .u64 (f.seq : Int))) rfl (fun W hSw => ?_) ?_
 ·obtain ⟨y8, y9⟩ := hSw
  go_simp
 try simp only [layR]
 refine tk 4 ((.pointer (some ⟨f.F, 0, none⟩))) rfl (fun _ _ => rfl) ?_
 try simp only [layR]
 refine tk 5 ((.pointer (some ⟨f.F, 0, none⟩))) rfl (fun _ _ => rfl) ?_
 try simp only [layR]
 refine tk 6 ((.pointer (some ⟨f.F, 9, none⟩))) rfl (fun W hSw => ?_) ?_
 ·skip
  go_simp
 try simp only [layR]
 refine tk 7 ((.int .u64 (f.ep : Int))) rfl (fun W hSw => ?_) ?_
 ·obtain ⟨y8, y9⟩ := hSw
  go_simp
 try simp only [layR]
 refine tk 8 ((.pointer (some ⟨w.heap.size, 2, none⟩))) rfl (fun W hSw => ?_) ?_
 ·skip
  go_simp
 try simp only [layR]
 refine rd 9 rfl (fun K' hK => ?_)
 go_simp
 have hS1 := FAR.out W 2 (.int .u64 (f.seq : Int)) hS0
 refine hK.out _ _ hS1 (fun hS2 => ?_)
 try simp only [layR]
 refine tk 10 ((.pointer (some ⟨w.heap.size, 3, none⟩))) rfl (fun W hSw => ?_) ?_
 ·skip
  go_simp
 try simp only [layR]
 refine rd 11 rfl (fun K' hK => ?_)
 go_simp
 have hS3 := FAR.out _ 3 (.int .u64 (f.ep : Int)) hS1
 refine hK.out _ _ hS3 (fun hS4 => ?_)
 refine wpAnyH_done (by kernel_rfl) ?_ _
 refine NoPanic.normal ?_
 clear hS0 hS1 hS2 hS3 hS4 y2 y3 u2 u3 v3 x3
 obtain ⟨Z, hZ⟩ : ∃ Z, Z = w.heap.size + 1 := ⟨_, rfl⟩
 rw [← hZ] at HZ2 HZ3 HZn ⊢
 have HZe := hid hZ
 clear hZ
 obtain ⟨Q, hQ⟩ : ∃ Q, Q = w.heap.size := ⟨_, rfl⟩
 have HQe := hid hQ
 have HK5 := hid (((Kq.of (T := fun q => q = Q) (below_drew w3)).setCell (p := ⟨w.heap.size, 2, none⟩) (.inl hQ.symm) (.int .u64 (f.seq : Int))).setCell (p := ⟨w.heap.size, 3, none⟩) (.inl hQ.symm) (.int .u64 (f.ep : Int)))
 rw [← HWe.out] at HK5
 generalize (W.setCell ⟨w.heap.size, 2, none⟩ (.int .u64 (f.seq : Int))).setCell ⟨w.heap.size, 3, none⟩ (.int .u64 (f.ep : Int)) = W5 at *
 rw [← hQ] at HQ4 HQn HQ1 ⊢
 clear hQ
 obtain ⟨R1, hR1⟩ : ∃ R1, R1 = Up R w2 w3 := ⟨_, rfl⟩
 have HR1 := hid hR1
 have hQn1 : ¬ R1 Q := by rw [hR1]; exact H4.out.far HQn.out (by rw [HQe.out]; exact HQ2.out.lt)
 have hZn1 : ¬ R1 (Z) := by rw [hR1]; exact H4.out.far HZn.out HZ2.out.lt
 have hm5 : FtM NB B R1 W5 f1 := by rw [hR1]; exact H4.out.1.kq HK5.out fun q hq e => by rw [hR1] at hQn1; exact hQn1 (e ▸ hq)
 have HM5 := hid hm5
 have HQn1 := hid hQn1
 have HZn1 := hid hZn1
 have HX5 := hid ((HX3.out.kq (Nat.le_refl _) HK5.out fun b o e h1 => by have := HAb.out b o e; have := HQe.out; omega).mono HK5.out.size)
 have HZ5 := hid (HZ3.out.kq HK5.out fun e => by have := HQe.out; have := HZe.out; omega)
 have z0 := Blk.cellv (i := 0) HQ4.out rfl
 have z1 := Blk.cellv (i := 1) HQ4.out rfl
 have z2 := Blk.cellv (i := 2) HQ4.out rfl
 have z3 := Blk.cellv (i := 3) HQ4.out rfl
 have hcs := tagCs
 clear hR1 hm5 hQn1 hZn1
 have HWr := hid (twrite_good t a 64 c pay W5 HRt.out (.inl rfl) HX5.out)
 rw [show tagV t = .agg #[.int .i64 (kd : Int), .int .u32 (p : Int), .int .u64 (f.seq : Int), .int .u64 (f.ep : Int)] by rw [HT.out]] at HWr
 go_wp2_with fail
 refine HWr.out.mono ?_
 rintro e W6 ⟨⟨v6, rfl, ho6⟩, hb6⟩
 have hplen : (Tg.page t pay).length = 96 := by rw [Tg.page_len, HX5.out.len]
 obtain ⟨a6, c6, rfl, hc6⟩ := ho6.formN hplen
 have HO6 := hid ho6
 have HB6 := hid hb6
 have HM6 := hid (HM5.out.on hb6)
 have HZ6 := hid (HZ5.out.belowHere hb6)
 have d8 := HM6.out.c8
 have u8 := HM6.out.frz 8
 rw [HS.out.F, HS.out.seq] at d8
 rw [HS.out.F] at u8
 have i8 := IntWalk.u64_in ((f.seq : Int) + 1) ⟨by omega, by have := HSq.out; omega⟩
 have hm7 := HM6.out.setF 8 (.int .u64 ((f.seq : Int) + 1)) { f1 with seq := f.seq + 1 } (by unfold fmA; simp) rfl rfl rfl rfl rfl rfl rfl rfl rfl rfl rfl
 rw [show (⟨f1.F, 8, none⟩ : Addr) = ⟨f.F, 8, none⟩ by rw [HS.out.F]] at hm7
 have HM7 := hid hm7
 have hF1 : R1 f.F := by have := HM6.out.inF; rw [HS.out.F] at this; exact this
 have HK7 := hid ((Kq.refl R1 W6).setCell (p := ⟨f.F, 8, none⟩) (.inl hF1) (.int .u64 ((f.seq : Int) + 1)))
 clear z0 z1 z2 z3 hb6 ho6 hm7 hF1 hplen
 go_upto_region 12 with fail
 clear d8 u8
 generalize W6.setCell ⟨f.F, 8, none⟩ (.int .u64 ((f.seq : Int) + 1)) = W7 at *
 have hap7 : ∀ q, Value.ownBlock (.slice a6 96 c6) = some q → ¬ R1 q := fun q hq => HM5.out.not_new (HO6.out.blockLt q hq).1
 have HO7 := hid ((HO6.out.kq HK7.out hap7).mono (Nat.zero_le _))
 have HZ7 := hid (HZ6.out.kq HK7.out HZn1.out)
 have hr : f1.g.opn ≠ -1 ∨ 0 < Gc.count 0 f1.g.l := by
  obtain ⟨e1, e2⟩ := enough_is HEn.out
  exact .inr (by omega)
 have HP := hid (program_calls HM7.out HFi.out hr a6 c6 _ (show f1.g.gh (Tg.page t pay) by rw [HS.out.gh]; exact HGh.out) HO7.out hap7)
 rw [show (Value.pointer (some ⟨({ f1 with seq := f.seq + 1 } : Fm).F, 0, none⟩)) = .pointer (some ⟨f.F, 0, none⟩) from congrArg (fun q => Value.pointer (some ⟨q, 0, none⟩)) HS.out.F] at HP
 clear hap7 hr
 go_wp2_with fail
 refine HP.out.mono ?_
 rintro e W8 ⟨k, i, g', rfl, h8, hpg, hfi⟩
 have HZ8 := hid (h8.blk HZ7.out HZn1.out)
 have H8 := hid h8
 have HPg := hid hpg
 have HFi8 := hid hfi
 have HZn2 := hid (h8.far HZn1.out HZ7.out.lt)
 clear h8 hpg hfi
 obtain ⟨k0, k1, f0, f1', q0, q1⟩ := plZ HZ8.out k i
 have hcs2 := placeCells
 go_wp2_with fail
 refine bodyPost_ret (v := .tuple #[.agg #[.int .i64 (k : Int), .int .i64 (i : Int)], .int .i64 0]) (by simp [results, Tryz.results115, go_sem, q0, q1]) rfl ⟨k, i, f1, g', rfl, ?_, HS.out, by have h9 := HPg.out; rw [HT.out] at h9; exact h9, HFi8.out, HPg.out.fr HEn.out⟩
 have s2 := HB2.out.size
 have s3 := H4.out.2.size
 have s5 := HK5.out.size
 have s6 := HB6.out.size
 have s7 := HK7.out.size
 have s8 := H8.out.2.size
 have hR1' : ∀ q, R1 q → R q ∨ (w.heap.size ≤ q ∧ q < w3.heap.size) := fun q hq => by
  rw [HR1.out] at hq
  rcases hq with h1 | h1
  ·exact .inl h1
  ·exact .inr ⟨by omega, h1.2⟩
 have hkz : Kq (fun q => q = Z) W8 ((W8.setCell ⟨Z, 0, none⟩ (.int .i64 (k : Int))).setCell ⟨Z, 1, none⟩ (.int .i64 (i : Int))) := ((Kq.refl (fun q => q = Z) W8).setCell (p := ⟨Z, 0, none⟩) (.inl rfl) _).setCell (p := ⟨Z, 1, none⟩) (.inl rfl) _
 have hm9 := H8.out.1.kq hkz fun q hq e => HZn2.out (e ▸ hq)
 refine ⟨hm9.more (fun q hq => ?_) fun q hq => ?_, ?_⟩
 ·rcases hq with h1 | h1
  ·rcases hR1' q h1 with h2 | h2
   ·exact .inl h2
   ·exact .inr ⟨h2.1, by simp only [World.size_setCell]; omega⟩
  ·exact .inr ⟨by omega, by simp only [World.size_setCell]; omega⟩
 ·rcases hq with h1 | h1
  ·exact hm9.bnd q (.inl (by rw [HR1.out]; exact .inl h1))
  ·exact ⟨by omega, h1.2⟩
 ·have hk3 : Kq R w w3 := (Kq.of HB2.out).trans H4.out.2
  have hk5 : Kq R w W5 := hk3.then_ HK5.out fun q e => .inr (by rw [e, HQe.out]; exact Nat.le_refl _)
  have hk7 : Kq R w W7 := (hk5.on HB6.out).then_ HK7.out fun q hq => by
   rcases hR1' q hq with h2 | h2
   ·exact .inl h2
   ·exact .inr h2.1
  have hk8 : Kq R w W8 := hk7.then_ H8.out.2 fun q hq => by
   rcases hR1' q hq with h2 | h2
   ·exact .inl h2
   ·exact .inr h2.1
  exact hk8.then_ hkz fun q e => .inr (by have := HZe.out; omega)
end
end
end Go.Proofs.YtcppkaphlcflgaaGreat
