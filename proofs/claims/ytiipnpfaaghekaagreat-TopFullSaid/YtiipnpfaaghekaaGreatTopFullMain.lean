/-
  The reference's SameBytes: two slices of bytes, as texts, are the same.
-/
/-
  The statement TopFullSaid: for every input the law cuneiformtop.TopFull returns true, and each argument reads behind the call as it read before.
-/
import Derived.Test.YtiipnpfaaghekaaGreatBytes
import Derived.Test.YtiipnpfaaghekaaGreatNumMath
import Derived.Laws.BytesArg
import Derived.Laws.BytesString
import Derived.Lib.SlicesS
import Derived.Test.YtiipnpfaaghekaaGreatRows
import Derived.Test.YtiipnpfaaghekaaGreatBase
import Derived.Test.YtiipnpfaaghekaaGreatFullM
import Derived.Test.YtiipnpfaaghekaaGreatTopAwake
import Derived.Deep.DeepCutAuto
import Derived.Test.YtiipnpfaaghekaaGreatFrame
/-
  The reference's Among: a raw number as one from 0 to n-1.
-/
namespace Go.Proofs.YtiipnpfaaghekaaGreat
open Go.RowKit Go

theorem convB {w : World} {B : Nat} {a : Option Addr} {n c : Nat} {xs : List UInt8} (hx : Bytes w B a n xs) :
    (convert 22 9 (.slice a n c)).run Tryz.prog w = .ok (.string (strL xs)) w := by
  have hl := hx.len
  by_cases hn : n = 0
  · subst hn
    obtain rfl : xs = [] := List.eq_nil_of_length_eq_zero hl
    rw [run_convert_bytes_string w _ _ _ a 0 c Tryz.underlying22 Tryz.underlying5 Tryz.underlying9]
    cases a with
    | none => rfl
    | some a =>
      have h := run_loadCells_list (P := Tryz.prog) w a [] (fun j v hj => by simp at hj)
      exact run_bytesToString w a 0 c [] h
  · obtain ⟨b, o, _, rfl, _, _⟩ := hx.at_ (k := 0) (by omega)
    have h := run_convert_bytes_arg (P := Tryz.prog) w 22 5 Tryz.underlying22 Tryz.underlying5 b o n c (xs.map fun x => (x.toNat : Int)) (by simp [hl])
      (fun i hi => by
        obtain ⟨b', o', hi', hb, _, hc⟩ := hx.at_ hi
        simp only [Option.some.injEq, Addr.mk.injEq, and_true] at hb
        obtain ⟨rfl, rfl⟩ := hb
        rw [hc]
        simp [List.getD, hi']) 9 Tryz.underlying9
    have e : (xs.map fun x => (x.toNat : Int)).map (fun n => UInt8.ofNat n.toNat) = xs := by
      rw [List.map_map]
      conv => rhs; rw [← List.map_id xs]
      apply List.map_congr_left
      intro x _
      simp
    have e2 : strOfNums (xs.map fun x => (x.toNat : Int)) = strL xs := by
      unfold strOfNums strL
      rw [e]
    rw [e2] at h
    exact h
theorem strL_beq (xs ys : List UInt8) : ((strL xs).toList == (strL ys).toList) = decide (xs = ys) := by
  by_cases h : xs = ys
  · rw [h]; simp
  · rw [decide_eq_false h]
    exact (Lib.bytes_beq_false_iff _ _).2 (fun e => h (strL_inj e))
theorem same_calls (a b : Option Addr) (n c m d : Nat) (xs ys : List UInt8) (w : World) (hx : Bytes w w.heap.size a n xs) (hy : Bytes w w.heap.size b m ys) :
    Calls Tryz.prog 11 #[.slice a n c, .slice b m d] w fun e w' => e = .returned (.bool (decide (xs = ys))) ∧ w = w' := by
  have h1 := convB (c := c) hx
  have h2 := convB (c := d) hy
  go_enter Tryz.func11, Tryz.ntmps11
  go_wp2_with fail
  rw [strL_beq]
  go_ret
  exact ⟨rfl, rfl⟩
theorem same_yes (a b : Option Addr) (n c m d : Nat) (xs : List UInt8) (w : World) (hx : Bytes w w.heap.size a n xs) (hy : Bytes w w.heap.size b m xs) :
    Calls Tryz.prog 11 #[.slice a n c, .slice b m d] w fun e w' => e = .returned (.bool true) ∧ w = w' := by
  refine (same_calls a b n c m d xs xs w hx hy).mono ?_
  rintro e w' ⟨rfl, rfl⟩
  exact ⟨by simp, rfl⟩
end Go.Proofs.YtiipnpfaaghekaaGreat
/-
  A chip holds what it says: the law's walk.
-/
namespace Go.Proofs.YtiipnpfaaghekaaGreat
open Go.RowKit

theorem tmod_neg (k n : Int) (hn : 1 ≤ n) (hk : k < 0) : (k.tmod n = 0 ∧ k % n = 0) ∨ (k.tmod n < 0 ∧ k.tmod n + n = k % n) := by
  have h0 := Int.emod_nonneg k (show n ≠ 0 by omega)
  have h1 := Int.emod_lt_of_pos k (show 0 < n by omega)
  rw [Int.tmod_eq_emod]
  have hnn : (n.natAbs : Int) = n := by omega
  by_cases hd : n ∣ k
  · left
    have := Int.emod_eq_zero_of_dvd hd
    simp [this, hd]
  · right
    have hz : k % n ≠ 0 := fun h => hd (Int.dvd_of_emod_eq_zero h)
    rw [if_neg (by intro h; rcases h with h | h; omega; exact hd h)]
    omega

/-- A raw number as one from 0 to n-1. -/
theorem among_calls (k n : Int) (w : World) (h1 : -9223372036854775808 ≤ k) (h2 : k ≤ 9223372036854775807) (h3 : n ≤ 9223372036854775807) :
    Calls Tryz.prog 16 #[.int .i64 k, .int .i64 n] w fun e w' => e = .returned (.int .i64 (if n < 1 then 0 else k % n)) ∧ w = w' := by
  by_cases hn : n < 1
  · rw [if_pos hn]
    go_enter Tryz.func16, Tryz.ntmps16
    go_wp2
    go_ret
    exact ⟨rfl, rfl⟩
  · rw [if_neg hn]
    have b0 := Int.emod_nonneg k (show n ≠ 0 by omega)
    have b1 := Int.emod_lt_of_pos k (show 0 < n by omega)
    by_cases hk : 0 ≤ k
    · go_enter Tryz.func16, Tryz.ntmps16
      go_wp2
      go_ret
      exact ⟨rfl, rfl⟩
    · rcases tmod_neg k n (by omega) (by omega) with ⟨h4, h5⟩ | ⟨h4, h5⟩
      · have H := Lib.hid h5
        have h6 : 0 ≤ k.tmod n := by omega
        have H4 := Lib.hid h4
        clear h5 h4
        go_enter Tryz.func16, Tryz.ntmps16
        go_wp2
        go_ret
        exact ⟨congrArg (fun z => Ending.returned (Value.int .i64 z)) (H4.out.trans H.out.symm), rfl⟩
      · have H := Lib.hid h5
        have h6 : k.tmod n + n < n := by omega
        have h7 : 0 ≤ k.tmod n + n := by omega
        clear h5
        go_enter Tryz.func16, Tryz.ntmps16
        go_wp2
        go_ret
        exact ⟨congrArg (fun z => Ending.returned (Value.int .i64 z)) H.out, rfl⟩
theorem among_nat (k : Int) (n : Nat) (h : 1 ≤ n) : ∃ m : Nat, (if (n : Int) < 1 then 0 else k % (n : Int)) = (m : Int) ∧ m < n := by
  refine ⟨(k % (n : Int)).toNat, ?_, ?_⟩
  · rw [if_neg (by omega)]
    have := Int.emod_nonneg k (show (n : Int) ≠ 0 by omega)
    omega
  · have := Int.emod_nonneg k (show (n : Int) ≠ 0 by omega)
    have := Int.emod_lt_of_pos k (show (0 : Int) < n by omega)
    omega
end Go.Proofs.YtiipnpfaaghekaaGreat
namespace Go.Proofs.YtiipnpfaaghekaaGreat
open Go.RowKit Ftl Full Opn

theorem fullCells (salt : UInt8) (k : Nat) : #[Value.int .u8 (salt.toNat : Int), .int .u8 ((k : Int) % 256)] = ([salt, UInt8.ofNat k].map byteV).toArray := by
  have h1 : (UInt8.ofNat k).toNat = k % 256 := UInt8.toNat_ofNat'
  show _ = #[Value.int .u8 (salt.toNat : Int), .int .u8 ((UInt8.ofNat k).toNat : Int)]
  rw [h1, show (k : Int) % 256 = ((k % 256 : Nat) : Int) by omega]
theorem fullCap_calls {B n : Nat} {R : Nat → Prop} {w : World} {f : Fm} (h : FtM 16 B R w f) (hi : Fi 16 n [] f.g (f.se ++ f.no)) :
    Calls Tryz.prog 14 #[.pointer (some ⟨f.F, 0, none⟩)] w fun e w' => e = .returned (.int .i64 102) ∧ Below w.heap.size w w' := fCapacity_calls h hi
set_option maxRecDepth 100000 in
set_option maxHeartbeats 16000000 in
theorem topFull_walk (x0 x1 : UInt8) (w : World) :
    Calls Tryz.prog 4 #[.int .u8 (x0.toNat : Int), .int .u8 (x1.toNat : Int)] w fun e w' => e = .returned (.bool true) ∧ Below w.heap.size w w' := by
  have hmk := mk56
  go_enter Tryz.func4, Tryz.ntmps4
  go_wp2_with fail
  refine (made0_calls w).mono ?_
  rintro e w1 ⟨B, R, f, rfl, hB, hf, hd, hgh, hb⟩
  obtain ⟨F, hF⟩ : ∃ F, F = f.F := ⟨_, rfl⟩
  obtain ⟨C, hC⟩ : ∃ C, C = f.g.C := ⟨_, rfl⟩
  have hcp := fullCap_calls hf hd.fc.fi
  rw [← hF] at hcp
  rw [← hF, ← hC]
  have HCp := Lib.hid hcp
  have HS1 := Lib.hid (show Fs w B F C R f x0 0 2 w1 from ⟨hf, Fl.start hd hf.hS.uq hgh, hF.symm, hC.symm, hd.sq, hb, hB⟩)
  clear hB hf hd hb hF hC hgh hcp
  go_wp2_with fail
  refine HCp.out.mono ?_
  rintro e w2 ⟨rfl, hb2⟩
  have HS2 := Lib.hid (HS1.out.on hb2)
  clear hb2 HCp HS1
  go_wp2_with fail
  go_loopw [9] (fun i wr => ∃ (k n : Nat) (R : Nat → Prop) (f : Fm), k ≤ 101 ∧ n ≤ 2 + 2 * k ∧ i = .int .i64 (k : Int) ∧ Fs w B F C R f x0 k n wr ∧ Hid (51 ≤ k → getE f.no 1 = none)) (fun i _ => 101 - (intOf i).toNat)
  case atStart => exact ⟨0, 2, R, f, Nat.zero_le _, Nat.le_refl _, rfl, HS2.out, Lib.hid (fun h => absurd h (by decide))⟩
  case round =>
    obtain ⟨k, n, R, f, hk, hn, rfl, hs, HN⟩ := hrel
    have HS := Lib.hid hs
    clear hs HS2
    by_cases hlt : k < 101
    · have hk0 : (0 : Int) ≤ (k : Int) := by omega
      have hk1 : (k : Int) < 101 := by omega
      have iu := IntWalk.u32_in (k : Int) ⟨by omega, by omega⟩
      have iv := IntWalk.u32_in ((k : Int) + 1) ⟨by omega, by omega⟩
      have q5 : IntKind.u8.wrap (k : Int) = (k : Int) % 256 := IntKind.wrap_u8 _
      by_cases h50 : k = 50
      · have h5b : ((k : Int) == 50) = true := by rw [h50]; rfl
        have HT4 := Lib.hid (HS.out.on ((Below.refl wr.heap.size wr).alloc (Nat.le_refl _) (.cells (Array.replicate 56 (.int .u8 0)) 5)))
        have ho4 := ownMadeZ wr wr.heap.size 56 (Nat.le_refl _) (by omega)
        have HO4 := Lib.hid (ho4.arr (by simp))
        have HAp4 := Lib.hid (HS.out.new ho4)
        have H50 := Lib.hid h50
        clear h50 ho4
        go_wp2_with fail
        refine (fullSeal_calls HT4.out (by omega) (by omega) _ 56 HO4.out HAp4.out).mono ?_
        rintro e w4 ⟨rfl, R4, f4, last, h4, hd4, _⟩
        have HA := Lib.hid (Arr.lit (f := byteV) w4 5 [x0, UInt8.ofNat k] 2 rfl (by omega) (fullCells x0 k))
        have HT := Lib.hid (h4.on ((Below.refl w4.heap.size w4).alloc (Nat.le_refl _) (.cells #[.int .u8 (x0.toNat : Int), .int .u8 ((k : Int) % 256)] 5)))
        have HN4 := Lib.hid (show getE f4.no 1 = none by rw [hd4.no]; rfl)
        clear h4 hd4
        go_wp2_with fail
        refine (page_calls _ 2 2 [x0, UInt8.ofNat k] _ HA.out).mono ?_
        rintro e w5 ⟨⟨a', c', rfl, ho⟩, hb5⟩
        have HT5 := Lib.hid (HT.out.on hb5)
        have HAp := Lib.hid (HT.out.new ho)
        have HO := Lib.hid ho
        clear ho hb5 HA HT
        go_wp2_with fail
        refine (fullWrite_calls HT5.out (by omega) (by omega) a' c' (HO.out.arr (by rw [pageL_len]; decide)) HAp.out).mono ?_
        rintro e w6 ⟨rfl, R6, f6, h6, hn6⟩
        have H6 := Lib.hid h6
        have HN6 := Lib.hid hn6
        clear h6 hn6
        go_wp2_with fail
        go_roundw
        case rel => exact ⟨k + 1, n + 1 + 1, R6, f6, by omega, by omega, by go_num, H6.out, Lib.hid (fun _ => HN6.out (by have := H50.out; omega) HN4.out)⟩
        case measure => simp [intOf]; omega
      · have h5b : ((k : Int) == 50) = false := by rw [beq_eq_false_iff_ne]; omega
        have HA := Lib.hid (Arr.lit (f := byteV) wr 5 [x0, UInt8.ofNat k] 2 rfl (by omega) (fullCells x0 k))
        have HT := Lib.hid (HS.out.on ((Below.refl wr.heap.size wr).alloc (Nat.le_refl _) (.cells #[.int .u8 (x0.toNat : Int), .int .u8 ((k : Int) % 256)] 5)))
        have H50 := Lib.hid h50
        clear h50
        go_wp2_with fail
        refine (page_calls _ 2 2 [x0, UInt8.ofNat k] _ HA.out).mono ?_
        rintro e w5 ⟨⟨a', c', rfl, ho⟩, hb5⟩
        have HT5 := Lib.hid (HT.out.on hb5)
        have HAp := Lib.hid (HT.out.new ho)
        have HO := Lib.hid ho
        clear ho hb5 HA HT
        go_wp2_with fail
        refine (fullWrite_calls HT5.out (by omega) (by omega) a' c' (HO.out.arr (by rw [pageL_len]; decide)) HAp.out).mono ?_
        rintro e w6 ⟨rfl, R6, f6, h6, hn6⟩
        have H6 := Lib.hid h6
        have HN6 := Lib.hid hn6
        clear h6 hn6
        go_wp2_with fail
        go_roundw
        case rel => exact ⟨k + 1, n + 1, R6, f6, by omega, by omega, by go_num, H6.out, Lib.hid (fun h => HN6.out (by omega) (HN.out (by have := H50.out; omega)))⟩
        case measure => simp [intOf]; omega
    · obtain rfl : k = 101 := by omega
      have HN1 := Lib.hid (HN.out (by decide))
      clear HN hk hlt
      have e101 : ((101 : Nat) : Int) = 101 := rfl
      go_wp2_with fail
      refine (page_calls none 0 0 [] _ (Arr.none_ _ _ _)).mono ?_
      rintro e w4 ⟨⟨a4, c4, rfl, ho4⟩, hb4⟩
      have HT4 := Lib.hid (HS.out.on hb4)
      clear ho4 hb4
      go_wp2_with fail
      refine (fullFull_calls (last := 0) HT4.out (.inr HN1.out) a4 c4).mono ?_
      rintro e w5 ⟨rfl, hb5⟩
      have HT5 := Lib.hid (HT4.out.on hb5)
      clear hb5
      go_wp2_with fail
      refine (page_calls none 0 0 [] _ (Arr.none_ _ _ _)).mono ?_
      rintro e w6 ⟨⟨a6, c6, rfl, ho6⟩, hb6⟩
      have HT6 := Lib.hid (HT5.out.on hb6)
      clear ho6 hb6
      go_wp2_with fail
      refine (fullArg_calls HT6.out a6 c6).mono ?_
      rintro e w7 ⟨rfl, hb7⟩
      have HT7 := Lib.hid (HT6.out.on hb7)
      have HT8 := Lib.hid (HT7.out.on ((Below.refl w7.heap.size w7).alloc (Nat.le_refl _) (.cells (Array.replicate 56 (.int .u8 0)) 5)))
      have ho8 := ownMadeZ w7 w7.heap.size 56 (Nat.le_refl _) (by omega)
      have HO8 := Lib.hid (ho8.arr (by simp))
      have HAp8 := Lib.hid (HT7.out.new ho8)
      clear hb7 ho8
      go_wp2_with fail
      refine (fullSeal_calls HT8.out (Nat.le_refl _) (by omega) _ 56 HO8.out HAp8.out).mono ?_
      rintro e w9 ⟨rfl, R9, f9, last, h9, hd9, hl9⟩
      have HS9 := Lib.hid h9
      have HD9 := Lib.hid hd9
      clear h9 hd9
      go_wp2_with fail
      refine (fullOpen_calls HS9.out HD9.out hl9 (by omega)).mono ?_
      rintro e w10 ⟨F2, R2, f2, rfl, hz, hzf⟩
      have HZf := Lib.hid hzf
      have hn1 : n + 1 ≤ 300 := by omega
      obtain ⟨N, hN⟩ : ∃ N, N = n + 1 := ⟨_, rfl⟩
      rw [← hN] at hz hn1
      have HZ := Lib.hid hz
      have HN2 := Lib.hid hn1
      clear hz hzf hN hn1 HS9 HD9 hl9 HT8 HO8 HAp8 HT7 HT6 HT5 HT4 HS HN1 hn hmk
      go_wp2_with fail
      go_loopw [12, 13, 14] (fun i _ _ wr => ∃ k : Nat, k ≤ 101 ∧ i = .int .i64 (k : Int) ∧ Zs w B F2 R2 f2 N wr) (fun i _ _ _ => 101 - (intOf i).toNat)
      case atStart => exact ⟨0, Nat.zero_le _, rfl, HZ.out⟩
      case round =>
        obtain ⟨q, hq, rfl, hs⟩ := hrel
        have HS := Lib.hid hs
        clear hs HZ
        by_cases hlt : q < 101
        · have hk0 : (0 : Int) ≤ (q : Int) := by omega
          have hk1 : (q : Int) < 101 := by omega
          have iu := IntWalk.u32_in (q : Int) ⟨by omega, by omega⟩
          have iv := IntWalk.u32_in ((q : Int) + 1) ⟨by omega, by omega⟩
          have q5 : IntKind.u8.wrap (q : Int) = (q : Int) % 256 := IntKind.wrap_u8 _
          go_wp2_with fail
          refine (fullRead_calls HS.out HZf.out hlt).mono ?_
          rintro e w3 ⟨⟨a3, c3, rfl, hb3⟩, h4⟩
          have HA := Lib.hid (Arr.lit (f := byteV) w3 5 [x0, UInt8.ofNat q] 2 rfl (by omega) (fullCells x0 q))
          have hba := (Below.refl w3.heap.size w3).alloc (Nat.le_refl _) (.cells #[.int .u8 (x0.toNat : Int), .int .u8 ((q : Int) % 256)] 5)
          have HT := Lib.hid (h4.on hba)
          have HX3 := Lib.hid (hb3.on hba)
          clear hb3 h4 hba
          go_wp2_with fail
          refine (page_calls _ 2 2 [x0, UInt8.ofNat q] _ HA.out).mono ?_
          rintro e w4 ⟨⟨a', c', rfl, ho⟩, hb4⟩
          have HT4 := Lib.hid (HT.out.on hb4)
          have HX4 := Lib.hid (HX3.out.on hb4)
          have HO := Lib.hid (ho.arr (by rw [pageL_len]; decide))
          clear ho hb4 HT HX3 HA
          go_wp2_with fail
          refine (same_yes _ _ 64 _ 64 _ _ _ HX4.out HO.out).mono ?_
          rintro e w_ ⟨rfl, rfl⟩
          go_wp2_with fail
          go_roundw
          case rel => exact ⟨q + 1, by omega, by go_num, HT4.out⟩
          case measure => simp [intOf]; omega
        · obtain rfl : q = 101 := by omega
          clear hq hlt
          have e101 : ((101 : Nat) : Int) = 101 := rfl
          go_wp2_with fail
          have hxl := x1.toNat_lt
          rw [IntWalk.wrap64_in (x1.toNat : Int) ⟨by omega, by omega⟩]
          refine (among_calls (x1.toNat : Int) 101 wr (by omega) (by omega) (by decide)).mono ?_
          rintro e w_ ⟨rfl, rfl⟩
          obtain ⟨m, hm, hm1⟩ := among_nat (x1.toNat : Int) 101 (by decide)
          rw [show ((101 : Nat) : Int) = 101 from rfl] at hm
          rw [hm]
          have m0 : (0 : Int) ≤ (m : Int) := by omega
          have m1 : (m : Int) < 101 := by omega
          have iu := IntWalk.u32_in (m : Int) ⟨by omega, by omega⟩
          have iv := IntWalk.u32_in ((m : Int) + 1) ⟨by omega, by omega⟩
          clear hm
          go_wp2_with fail
          obtain ⟨K, hKe⟩ : ∃ K : Nat, K = m + 1 := ⟨_, rfl⟩
          obtain ⟨P, hPe⟩ : ∃ P : Nat, P = K % 101 + 1 := ⟨_, rfl⟩
          rw [show (m : Int) + 1 = (K : Int) by omega]
          have k1 : 1 ≤ K := by omega
          have k2 : K ≤ 101 := by omega
          have p1 : 1 ≤ P := by omega
          have p2 : P ≤ 101 := by omega
          have pk : P ≠ K := by omega
          have hr1 : (K : Int) % 101 = (P : Int) - 1 := by omega
          have hr2 : (0 : Int) ≤ (P : Int) - 1 := by omega
          have hr3 : (P : Int) - 1 < 101 := by omega
          have hr4 : (P : Int) - 1 + 1 = (P : Int) := by omega
          have hr5 := IntWalk.u32_in ((P : Int) - 1) ⟨by omega, by omega⟩
          have hr6 := IntWalk.u32_in (P : Int) ⟨by omega, by omega⟩
          have hr7 : (0 : Int) ≤ (K : Int) := by omega
          have hr8 : (K : Int).tmod 101 = (P : Int) - 1 := (Int.tmod_eq_emod_of_nonneg hr7).trans hr1
          have hr0 : IntKind.u32.wrap 101 = 101 := IntWalk.u32_in 101 ⟨by omega, by omega⟩
          have hmk := mk56
          have HS0 := Lib.hid (HS.out.on (below_drew wr))
          clear HS hKe hPe m0 m1 iu iv hm1 e101 hxl
          refine wp_region_noPanic ?_
          refine wp_region_held_drew (S := (fun _ => True)) (by kernel_rfl) trivial (fun hS0 => ?_)
          refine takeV 0 (v := (.pointer (some ⟨F2, 0, none⟩))) rfl (by kernel_rfl) (by kernel_rfl) (by kernel_rfl) (fun _ _ _ h => h) (by rfl) (fun _ _ => rfl) (by assumption) ?_
          try simp only [layR]
          refine takeV 1 (v := (.int .u32 (K : Int))) rfl (by kernel_rfl) (by kernel_rfl) (by kernel_rfl) (fun _ _ _ h => h) (by rfl) (fun _ _ => rfl) (by assumption) ?_
          try simp only [layR]
          refine wpAnyH_ready (rs := [2]) (by kernel_rfl) (by simp) ?_
          refine AllReadyH.cons rfl (fun K' hK => ?_) AllReadyH.nil
          go_simp
          refine (fullDrop_calls HS0.out HZf.out k1 k2).mono ?_
          rintro e w11 ⟨rfl, R11, f11, h11, hd11⟩
          have HS11 := Lib.hid h11
          have HD11 := Lib.hid hd11
          clear h11 hd11
          refine hK.out _ _ trivial (fun hS1 => ?_)
          try simp only [layR]
          refine takeV 3 (v := (.bool false)) rfl (by kernel_rfl) (by kernel_rfl) (by kernel_rfl) (fun _ _ _ h => h) (by rfl) (fun W hSw => ?_) (by assumption) ?_
          · skip
            go_simp
          try simp only [layR]
          refine takeV 4 (v := (.bool false)) rfl (by kernel_rfl) (by kernel_rfl) (by kernel_rfl) (fun _ _ _ h => h) (by rfl) (fun _ _ => rfl) (by assumption) ?_
          try simp only [layR]
          refine takeV 5 (v := (.pointer (some ⟨F2, 0, none⟩))) rfl (by kernel_rfl) (by kernel_rfl) (by kernel_rfl) (fun _ _ _ h => h) (by rfl) (fun _ _ => rfl) (by assumption) ?_
          try simp only [layR]
          refine takeV 6 (v := (.int .u32 (K : Int))) rfl (by kernel_rfl) (by kernel_rfl) (by kernel_rfl) (fun _ _ _ h => h) (by rfl) (fun _ _ => rfl) (by assumption) ?_
          try simp only [layR]
          refine takeV 7 (v := (.int .i64 101)) rfl (by kernel_rfl) (by kernel_rfl) (by kernel_rfl) (fun _ _ _ h => h) (by rfl) (fun _ _ => rfl) (by assumption) ?_
          try simp only [layR]
          refine takeV 8 (v := (.int .u32 101)) rfl (by kernel_rfl) (by kernel_rfl) (by kernel_rfl) (fun _ _ _ h => h) (by rfl) (fun W hSw => ?_) (by assumption) ?_
          · skip
            go_simp
          try simp only [layR]
          refine takeV 9 (v := (.int .u32 ((P : Int) - 1))) rfl (by kernel_rfl) (by kernel_rfl) (by kernel_rfl) (fun _ _ _ h => h) (by rfl) (fun W hSw => ?_) (by assumption) ?_
          · skip
            go_simp
          try simp only [layR]
          refine takeV 10 (v := (.int .u32 (P : Int))) rfl (by kernel_rfl) (by kernel_rfl) (by kernel_rfl) (fun _ _ _ h => h) (by rfl) (fun W hSw => ?_) (by assumption) ?_
          · skip
            go_simp
          try simp only [layR]
          refine wpAnyH_ready (rs := [11]) (by kernel_rfl) (by simp) ?_
          refine AllReadyH.cons rfl (fun K' hK => ?_) AllReadyH.nil
          go_simp
          refine (page_calls none 0 0 [] _ (Arr.none_ _ _ _)).mono ?_
          rintro e w12 ⟨⟨a12, c12, rfl, ho12⟩, hb12⟩
          have HS12 := Lib.hid (HS11.out.on hb12)
          clear ho12 hb12
          refine hK.out _ _ trivial (fun hS2 => ?_)
          try simp only [layR]
          refine wpAnyH_ready (rs := [12]) (by kernel_rfl) (by simp) ?_
          refine AllReadyH.cons rfl (fun K' hK => ?_) AllReadyH.nil
          go_simp
          refine (fullFull2_calls HS12.out HD11.out p1 p2 a12 c12).mono ?_
          rintro e w13 ⟨rfl, hb13⟩
          have HS13 := Lib.hid (HS12.out.on hb13)
          clear hb13
          refine hK.out _ _ trivial (fun hS3 => ?_)
          try simp only [layR]
          refine takeV 13 (v := (.bool false)) rfl (by kernel_rfl) (by kernel_rfl) (by kernel_rfl) (fun _ _ _ h => h) (by rfl) (fun W hSw => ?_) (by assumption) ?_
          · skip
            go_simp
          try simp only [layR]
          refine takeV 14 (v := (.bool false)) rfl (by kernel_rfl) (by kernel_rfl) (by kernel_rfl) (fun _ _ _ h => h) (by rfl) (fun W hSw => ?_) (by assumption) ?_
          · skip
            go_simp
          try simp only [layR]
          refine takeV 15 (v := (.bool false)) rfl (by kernel_rfl) (by kernel_rfl) (by kernel_rfl) (fun _ _ _ h => h) (by rfl) (fun _ _ => rfl) (by assumption) ?_
          try simp only [layR]
          refine takeV 16 (v := (.pointer (some ⟨F2, 0, none⟩))) rfl (by kernel_rfl) (by kernel_rfl) (by kernel_rfl) (fun _ _ _ h => h) (by rfl) (fun _ _ => rfl) (by assumption) ?_
          try simp only [layR]
          have HS14 := Lib.hid (HS13.out.on ((Below.refl w13.heap.size w13).alloc (Nat.le_refl _) (.cells (Array.replicate 56 (.int .u8 0)) 5)))
          have ho14 := ownMadeZ w13 w13.heap.size 56 (Nat.le_refl _) (by omega)
          have HO14 := Lib.hid (ho14.arr (by simp))
          have HAp14 := Lib.hid (HS13.out.new ho14)
          clear ho14
          refine wpAnyH_ready (rs := [17]) (by kernel_rfl) (by simp) ?_
          refine AllReadyH.cons rfl (fun K' hK => ?_) AllReadyH.nil
          go_simp
          refine hK.out _ _ trivial (fun hS4 => ?_)
          try simp only [layR]
          refine wpAnyH_ready (rs := [18]) (by kernel_rfl) (by simp) ?_
          refine AllReadyH.cons rfl (fun K' hK => ?_) AllReadyH.nil
          go_simp
          refine (fullSeal2_calls HS14.out HD11.out k1 k2 (by have := HN2.out; omega) _ 56 _ HO14.out HAp14.out).mono ?_
          rintro e w15 ⟨rfl, R15, f15, h15, hv15, hl15⟩
          have HS15 := Lib.hid h15
          have HV15 := Lib.hid hv15
          clear h15 hv15
          refine hK.out _ _ trivial (fun hS5 => ?_)
          try simp only [layR]
          refine takeV 19 (v := (.bool false)) rfl (by kernel_rfl) (by kernel_rfl) (by kernel_rfl) (fun _ _ _ h => h) (by rfl) (fun W hSw => ?_) (by assumption) ?_
          · skip
            go_simp
          try simp only [layR]
          refine takeV 20 (v := (.bool false)) rfl (by kernel_rfl) (by kernel_rfl) (by kernel_rfl) (fun _ _ _ h => h) (by rfl) (fun W hSw => ?_) (by assumption) ?_
          · skip
            go_simp
          try simp only [layR]
          refine takeV 21 (v := (.bool false)) rfl (by kernel_rfl) (by kernel_rfl) (by kernel_rfl) (fun _ _ _ h => h) (by rfl) (fun _ _ => rfl) (by assumption) ?_
          try simp only [layR]
          refine takeV 22 (v := (.pointer (some ⟨F2, 0, none⟩))) rfl (by kernel_rfl) (by kernel_rfl) (by kernel_rfl) (fun _ _ _ h => h) (by rfl) (fun _ _ => rfl) (by assumption) ?_
          try simp only [layR]
          refine takeV 23 (v := (.int .u32 (K : Int))) rfl (by kernel_rfl) (by kernel_rfl) (by kernel_rfl) (fun _ _ _ h => h) (by rfl) (fun _ _ => rfl) (by assumption) ?_
          try simp only [layR]
          refine takeV 24 (v := (.int .i64 101)) rfl (by kernel_rfl) (by kernel_rfl) (by kernel_rfl) (fun _ _ _ h => h) (by rfl) (fun _ _ => rfl) (by assumption) ?_
          try simp only [layR]
          refine takeV 25 (v := (.int .u32 101)) rfl (by kernel_rfl) (by kernel_rfl) (by kernel_rfl) (fun _ _ _ h => h) (by rfl) (fun W hSw => ?_) (by assumption) ?_
          · skip
            go_simp
          try simp only [layR]
          refine takeV 26 (v := (.int .u32 ((P : Int) - 1))) rfl (by kernel_rfl) (by kernel_rfl) (by kernel_rfl) (fun _ _ _ h => h) (by rfl) (fun W hSw => ?_) (by assumption) ?_
          · skip
            go_simp
          try simp only [layR]
          refine takeV 27 (v := (.int .u32 (P : Int))) rfl (by kernel_rfl) (by kernel_rfl) (by kernel_rfl) (fun _ _ _ h => h) (by rfl) (fun W hSw => ?_) (by assumption) ?_
          · skip
            go_simp
          try simp only [layR]
          refine wpAnyH_ready (rs := [28]) (by kernel_rfl) (by simp) ?_
          refine AllReadyH.cons rfl (fun K' hK => ?_) AllReadyH.nil
          go_simp
          refine (page_calls none 0 0 [] _ (Arr.none_ _ _ _)).mono ?_
          rintro e w16 ⟨⟨a16, c16, rfl, ho16⟩, hb16⟩
          have HS16 := Lib.hid (HS15.out.on hb16)
          have HO16 := Lib.hid (ho16.arr (by rw [pageL_len]; decide))
          have HAp16 := Lib.hid (HS15.out.new ho16)
          clear ho16 hb16
          refine hK.out _ _ trivial (fun hS6 => ?_)
          try simp only [layR]
          refine wpAnyH_ready (rs := [29]) (by kernel_rfl) (by simp) ?_
          refine AllReadyH.cons rfl (fun K' hK => ?_) AllReadyH.nil
          go_simp
          refine (fullWrite2_calls HS16.out HV15.out hl15 p1 p2 pk (by have := HN2.out; omega) a16 c16 _ HO16.out HAp16.out).mono ?_
          rintro e w17 ⟨rfl, R17, f17, h17, hc17⟩
          have HS17 := Lib.hid h17
          have HC17 := Lib.hid hc17
          clear h17 hc17
          refine hK.out _ _ trivial (fun hS7 => ?_)
          try simp only [layR]
          refine takeV 30 (v := (.bool false)) rfl (by kernel_rfl) (by kernel_rfl) (by kernel_rfl) (fun _ _ _ h => h) (by rfl) (fun W hSw => ?_) (by assumption) ?_
          · skip
            go_simp
          try simp only [layR]
          refine takeV 31 (v := (.bool false)) rfl (by kernel_rfl) (by kernel_rfl) (by kernel_rfl) (fun _ _ _ h => h) (by rfl) (fun W hSw => ?_) (by assumption) ?_
          · skip
            go_simp
          try simp only [layR]
          refine wpAnyH_done (by kernel_rfl) ?_ _
          refine NoPanic.normal ?_
          clear hS0 hS1 hS2 hS3 hS4 hS5 hS6 hS7 hmk
          go_wp2_with fail
          refine (fullNone_calls HS17.out k1 k2 HC17.out).mono ?_
          rintro e w18 ⟨rfl, hb18⟩
          have HB18 := Lib.hid (HS17.out.bel.then_ hb18)
          clear hb18
          go_wp2_with fail
          refine (awake_calls w18).mono ?_
          rintro e w19 ⟨rfl, hb19⟩
          have HB19 := Lib.hid (HB18.out.then_ hb19)
          clear hb19
          go_wp2_with fail
          go_ret
          exact ⟨rfl, HB19.out⟩
end Go.Proofs.YtiipnpfaaghekaaGreat
namespace Go.Proofs.YtiipnpfaaghekaaGreat.topFull
open Go.ChangeShapes Go.WideShapes Go.ChangeAt Go.RowKit
open Go.ChangeMaps (open_string shut_string)

set_option maxRecDepth 100000 in
theorem lifted (os : Os) (started : os.Started) (H : Type) (enc : TypeId × Value → H) :
    ReturnsInHanded {} Tryz.checked os 4 .any (Rows.topFullSpec.pre6 enc Tryz.prog Tryz.f4 Rows.topFullRow.domain false) (Rows.topFullSpec.post enc Tryz.prog Tryz.f4 false true false false) := by
  refine returnsInHanded_of_change_sized (C := Tryz.checked) own started (by kernel_rfl) Tryz.func4
    (ChangeSpec.witness6 (enc := enc) (C := Tryz.checked) false ⟨#[], #[.int .u8 0, .int .u8 0], []⟩ 8 (by kernel_rfl) (by kernel_rfl) (by kernel_rfl) (by kernel_rfl)) ?_
  intro W base args ds gs before hval0 hW _ hsz0 _
  have hval : ∀ (j : Nat) t v, Tryz.f4.params[j]? = some t → args[j]? = some v → Value.okWide Tryz.prog W .any base t v := hval0
  have hsz : (DataW.weightsEach Tryz.prog (Tryz.f4.params.toList ++ Rows.topFullSpec.plain.varTypes Tryz.prog) (ds ++ gs)).all (· ≤ reachBytes) = true := hsz0
  have hW' := hW
  obtain ⟨p, q, hA0, hV, rfl, hfz, hnd⟩ := hW
  have hA : DataW.TrodAll enc Tryz.prog W 0 (fun _ => true) true Tryz.f4.params.toList args.toList ds p := hA0
  rw [Tryz.params4] at hA hval hsz
  obtain ⟨v0, vs0, d0, ds0, p0, q0, hargs, rfl, rfl, h0, r0⟩ := trodAll_cons hA
  obtain ⟨v1, vs1, d1, ds1, p1, q1, rfl, rfl, rfl, h1, r1⟩ := trodAll_cons r0
  obtain ⟨rfl, rfl, rfl⟩ := trodAll_nil r1
  obtain rfl : args = #[v0, v1] := by cases args; simp_all
  obtain ⟨rfl, rfl⟩ := trodVars_none hV
  have k0 := h0
  have lt0 : ∀ x ∈ p0, x.block < W.heap.size := by obtain ⟨m, hm⟩ := k0; exact DataW.trod_lt m _ _ _ hm
  have TR0 := fun (W' : World) (hb : Below W.heap.size W W') => Below.trod laidOut (by kernel_rfl) (of_decide_eq_true (by kernel_rfl)) k0 hb lt0
  clear k0
  obtain ⟨a0, rfl, _, _, w0⟩ := open_int Tryz.underlying5 (hval 0 5 v0 rfl rfl) h0
  obtain ⟨x0, rfl⟩ := as_u8 w0
  have k1 := h1
  have lt1 : ∀ x ∈ p1, x.block < W.heap.size := by obtain ⟨m, hm⟩ := k1; exact DataW.trod_lt m _ _ _ hm
  have TR1 := fun (W' : World) (hb : Below W.heap.size W W') => Below.trod laidOut (by kernel_rfl) (of_decide_eq_true (by kernel_rfl)) k1 hb lt1
  clear k1
  obtain ⟨a1, rfl, _, _, w1⟩ := open_int Tryz.underlying5 (hval 1 5 v1 rfl rfl) h1
  obtain ⟨x1, rfl⟩ := as_u8 w1
  clear hA0 hval0
  refine (topFull_walk x0 x1 W ).mono fun e W' ⟨he, bel⟩ => ?_
  subst he
  exact ⟨_, rfl, _, _, _, [], _, [], hW', trodAll_mk1 (shut_bool Tryz.underlying4 _), (trodAll_cons_mk (TR0 _ bel) (trodAll_cons_mk (TR1 _ bel) trodAll_mk0)), rfl, bel.frame _, fun h => by cases h⟩

theorem over : Rows.topFullRow.holds Tryz.pinned (OpenSpec.ofChange Rows.topFullSpec) :=
  OpenClaim.holds_of_wide 4 Tryz.f4 rfl rfl rfl rfl rfl rfl rfl ⟨rfl, rfl, rfl, rfl, rfl⟩ rfl rfl rfl rfl rfl (by kernel_rfl) Tryz.func4 (by kernel_rfl)
    (of_decide_eq_true (by kernel_rfl)) (by unfold Func.isWrapper; rw [if_neg (by decide +kernel)]; exact ⟨rfl, rfl⟩)
    (fun os started H enc _ => lifted os started H enc)

/-- The statement. -/
theorem proved : Rows.TopFullSaid := over
#print axioms proved
end Go.Proofs.YtiipnpfaaghekaaGreat.topFull
