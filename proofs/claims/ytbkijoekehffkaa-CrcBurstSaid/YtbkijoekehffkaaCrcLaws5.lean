/-
  The walk of the law CrcBurst.
-/
import Derived.Test.YtbkijoekehffkaaCrcLaws4
import Derived.Test.YtbkijoekehffkaaCrcBurst
namespace Go.Proofs.Ytbkijoekehffkaa
open Go.RowKit

theorem byte_beq0 (x : UInt8) : ((x.toNat : Int) == 0) = (x == 0) := by
  rw [Bool.eq_iff_iff, beq_iff_eq, beq_iff_eq]
  exact ⟨fun h => UInt8.toNat_inj.1 (by have : (0 : UInt8).toNat = 0 := rfl; omega), fun h => by rw [h]; rfl⟩

set_option maxHeartbeats 1600000 in
theorem crcBurst_walk (a : Option Addr) (n c : Nat) (xs : List UInt8) (at_ : Int) (b : Option Addr) (m d : Nat) (ys : List UInt8) (w : World)
    (hx : Bytes w w.heap.size a n xs) (_ : n ≤ c) (_ : c ≤ 140737488351232) (h1 : -9223372036854775808 ≤ at_) (h2 : at_ ≤ 9223372036854775807) (hy : Bytes w w.heap.size b m ys) (_ : m ≤ d) (_ : d ≤ 140737488351232) :
    Calls Try.prog 8 #[.slice a n c, .int .i64 at_, .slice b m d] w fun e w' => e = .returned (.bool true) ∧ Below w.heap.size w w' := by
  by_cases hl : 2000 < n ∨ 4 < m ∨ n < m
  · by_cases hl1 : 2000 < n
    · have hd : decide (2000 < n) = true := decide_eq_true hl1
      go_enter Try.func8, Try.ntmps8
      go_wp2_with fail
      refine (long_calls _ _ _ _).mono ?_
      rintro e w1 ⟨rfl, rfl⟩
      rw [hd]
      go_wp2_with fail
      refine (known_calls _).mono ?_
      rintro e wk ⟨rfl, hbk⟩
      have HBk := Lib.hid hbk
      clear hbk
      go_wp2
      go_ret
      exact ⟨rfl, HBk.out⟩
    · have hd : decide (2000 < n) = false := decide_eq_false hl1
      by_cases hl2 : 4 < m
      all_goals
        try (have hl3 : n < m := (by omega))
        clear hl
        go_enter Try.func8, Try.ntmps8
        go_wp2_with fail
        refine (long_calls _ _ _ _).mono ?_
        rintro e w1 ⟨rfl, rfl⟩
        rw [hd]
        go_wp2_with fail
        refine (known_calls _).mono ?_
        rintro e wk ⟨rfl, hbk⟩
        have HBk := Lib.hid hbk
        clear hbk
        go_wp2
        go_ret
        exact ⟨rfl, HBk.out⟩
  have hl1 : ¬ 2000 < n := fun h => hl (.inl h)
  have hl2 : m ≤ 4 := by omega
  have hl3 : m ≤ n := by omega
  clear hl
  have hd : decide (2000 < n) = false := decide_eq_false hl1
  have hnx := Lib.hid hx.len
  have hny := Lib.hid hy.len
  obtain ⟨k, hk, hkn⟩ := among_nat at_ (n - m + 1) (by omega)
  have hK := Lib.hid hk
  clear hk
  go_enter Try.func8, Try.ntmps8
  go_wp2_with fail
  refine (long_calls _ _ _ _).mono ?_
  rintro e w1 ⟨rfl, rfl⟩
  rw [hd]
  clear hd
  go_wp2_with fail
  refine (among_calls at_ ((n : Int) - (m : Int) + 1) _ h1 h2 (by omega)).mono ?_
  rintro e w1 ⟨rfl, rfl⟩
  rw [show ((n : Int) - (m : Int) + 1) = ((n - m + 1 : Nat) : Int) from by omega, hK.out]
  clear hK
  have hE := Crc.burst_zero xs ys k
  go_wp2_with (at_builtin; refine wpList_appB rfl _ _ rfl w.heap.size (.slice none 0 0) [] rfl (Own.nil _ _) w.heap.size _ _ _ xs rfl hx (by simp only [List.length_nil]; omega) (Nat.le_refl _) ?_; intro v1 w1 hown1 hg1 hat1; rw [List.nil_append] at hown1; obtain ⟨a1, c1, hv1, hc1⟩ := hown1.formN (n := n) hnx.out; have hb1 := below_own (Below.refl w.heap.size w) (Own.nil (f := byteV) (e := 5) w w.heap.size) hg1 (Nat.le_refl _); clear hg1 hat1; subst hv1; have HO1 := Lib.hid hown1; have HB1 := Lib.hid hb1; clear hown1 hb1)
  go_loopw [9, 10] (fun s i wr => ∃ j : Nat, j ≤ m ∧ i = .int .i64 j ∧ s = .bool (Crc.allz (ys.take j)) ∧ Own byteV 5 wr w.heap.size (.slice a1 n c1) (Crc.burst xs ys k j) ∧ Below w.heap.size w wr) (fun _ i _ => m - (intOf i).toNat)
  case atStart =>
    exact ⟨0, by omega, rfl, rfl, by rw [hE]; exact HO1.out, HB1.out⟩
  case round =>
    clear HO1 HB1 hE
    obtain ⟨j, hj, rfl, rfl, ho, hb⟩ := hrel
    have HO := Lib.hid ho
    have HB := Lib.hid hb
    have hsz := hb.size
    clear ho hb
    by_cases hlt : j < m
    · obtain ⟨b2, o2, hj2, rfl, hbl2, hc2⟩ := (Arr.below hy HB.out).at_ hlt
      have hlen := Crc.burst_len xs ys k j
      have hkj : k + j < (Crc.burst xs ys k j).length := by rw [hlen, hnx.out]; omega
      obtain ⟨g, rfl, hgb, _⟩ := HO.out.addr (by omega)
      obtain ⟨hcell, hfr⟩ := HO.out.cellg hkj
      have hkx : k + j < xs.length := by rw [hnx.out]; omega
      rw [Crc.burst_here xs ys k j hkj hkx] at hcell
      have hset := Crc.burst_set xs ys k j
      rw [List.getD_eq_getElem?_getD, List.getElem?_eq_getElem hkx, List.getD_eq_getElem?_getD, List.getElem?_eq_getElem hj2] at hset
      simp only [Option.getD_some] at hset
      have Hset := Lib.hid hset
      have hsnoc := Crc.allz_snoc (ys.take j) ys[j]
      rw [← take_snoc _ _ hj2] at hsnoc
      have Hsnoc := Lib.hid hsnoc
      have hj0 : (0 : Int) ≤ (j : Int) := by omega
      have hj1 : (j : Int) < (m : Int) := by omega
      have hkj0 : (0 : Int) ≤ (k : Int) + (j : Int) := by omega
      have hkj1 : (k : Int) + (j : Int) < (n : Int) := by omega
      have hkj2 : ((k : Int) + (j : Int)).toNat = k + j := by omega
      have HT := Lib.hid hkj2
      clear hset hsnoc hlen hkj2
      have hb0 := byte_beq0 ys[j]
      have Hb0 := Lib.hid hb0
      clear hb0
      have hcase : Crc.allz (ys.take j) = true ∨ Crc.allz (ys.take j) = false := by cases Crc.allz (ys.take j) <;> simp
      rcases hcase with hs | hs
      all_goals
        rw [hs]
        have Hs := Lib.hid hs
        clear hs
        go_wp2_with fail
        have hwr := IntWalk.i64_in ((k : Int) + (j : Int)) ⟨by omega, by omega⟩
        have hto := HT.out
        go_still_tail 16, (by kernel_rfl)
        clear hwr hto
        have hcell2 : wr.drew.cell? ⟨g, k + j, none⟩ = some (byteV xs[k + j]) := hcell
        have hfr2 : wr.drew.frozen? ⟨g, k + j, none⟩ = false := hfr
        have HO2 : Hid (Own byteV 5 wr.drew w.heap.size (.slice (some ⟨g, 0, none⟩) n c1) (Crc.burst xs ys k j)) := Lib.hid HO.out.drew
        have HB2 := Lib.hid HB.out.drew
        change wpList _ _ _ _ _ wr.drew
        generalize wr.drew = W2 at *
        clear hcell hfr HO HB hc2
        have Hval := Lib.hid (bits_xor_u8 xs[k + j] ys[j])
        go_wp2_with fail
        go_roundw
        case rel =>
          refine ⟨j + 1, by omega, by go_num, ?_, ?_, HB2.out.setCell hgb _⟩
          · rw [Hsnoc.out, Hs.out]; first | rfl | exact congrArg Value.bool Hb0.out
          · rw [Hval.out, ← Hset.out]
            exact HO2.out.set (k + j) (xs[k + j] ^^^ ys[j])
        case measure => simp [intOf]; omega
    · obtain rfl : j = m := by omega
      have hsb := Crc.sum_burst xs ys k j hny.out hl2 (by rw [hnx.out]; omega)
      have hq : (((Crc.sum (Crc.burst xs ys k j)).toNat : Int) == ((Crc.sum xs).toNat : Int)) = Crc.allz ys := by
        rw [toNat_beq]
        cases hz : Crc.allz ys with
        | true => exact decide_eq_true (hsb.2 hz)
        | false => exact decide_eq_false (fun h => by rw [hsb.1 h] at hz; cases hz)
      have HQ := Lib.hid hq
      have hta : ys.take j = ys := List.take_of_length_le (by rw [hny.out]; omega)
      rw [hta]
      clear hq hsb hta
      have HaD := Lib.hid (Own.arr HO.out (by rw [Crc.burst_len, hnx.out]; omega))
      have HX := Lib.hid (Arr.on hx HB.out)
      generalize hz : Crc.allz ys = z at *
      clear hz
      go_wp2_with fail
      refine (sum_calls _ n _ (Crc.burst xs ys k j) _ HaD.out).mono ?_
      rintro e w3 ⟨rfl, rfl⟩
      go_wp2_with fail
      refine (sum_calls _ n _ xs _ HX.out).mono ?_
      rintro e w3 ⟨rfl, rfl⟩
      have hq := HQ.out
      go_wp2_with fail
      refine (known_calls _).mono ?_
      rintro e wk ⟨rfl, hbk⟩
      have HBk := Lib.hid hbk
      clear hbk
      go_wp2
      go_ret
      exact ⟨rfl, HB.out.trans (HBk.out.mono hsz)⟩
end Go.Proofs.Ytbkijoekehffkaa
