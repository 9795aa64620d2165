/-
  The walks of the laws CrcFour, CrcJoins.
-/
import Derived.Test.YtbkijoekehffkaaCrcBig
import Derived.Test.YtbkijoekehffkaaCrcMath2
import Derived.Test.YtbkijoekehffkaaCrcLaws2
namespace Go.Proofs.Ytbkijoekehffkaa
open Go.RowKit

theorem getElem_bigL (X n i : Nat) (h : i < n) : (bigL X n)[i]? = some (UInt8.ofNat (X / 256 ^ i)) := by
  simp [bigL, h]
theorem bigL4_inj {a b : Nat} (ha : a < 4294967296) (hb : b < 4294967296) (h : bigL a 4 = bigL b 4) : a = b := by
  have key : ∀ i, i < 4 → a / 256 ^ i % 256 = b / 256 ^ i % 256 := fun i hi => by
    have h1 := getElem_bigL a 4 i hi
    rw [h, getElem_bigL b 4 i hi] at h1
    injection h1 with h1
    have h2 := congrArg UInt8.toNat h1
    rw [UInt8.toNat_ofNat', UInt8.toNat_ofNat'] at h2
    exact h2.symm
  have h0 := key 0 (by omega)
  have h1 := key 1 (by omega)
  have h2 := key 2 (by omega)
  have h3 := key 3 (by omega)
  simp only [Nat.pow_zero, Nat.div_one, Nat.pow_one, show 256 ^ 2 = 65536 from rfl, show 256 ^ 3 = 16777216 from rfl] at h0 h1 h2 h3
  omega
theorem four_iff (a b : BitVec 32) : (Crc.sum (bigL a.toNat 4) = Crc.sum (bigL b.toNat 4)) ↔ a = b := by
  rw [Crc.sum_inj_short (by rw [bigL_len, bigL_len]) (by rw [bigL_len]; omega)]
  exact ⟨fun h => BitVec.eq_of_toNat_eq (bigL4_inj a.isLt b.isLt h), fun h => by rw [h]⟩
theorem toNat_beq (x y : BitVec 32) : ((x.toNat : Int) == (y.toNat : Int)) = decide (x = y) := by
  rw [Bool.eq_iff_iff, beq_iff_eq, decide_eq_true_iff]
  exact ⟨fun h => BitVec.eq_of_toNat_eq (by omega), fun h => by rw [h]⟩

set_option maxHeartbeats 1000000 in
theorem crcFour_walk (a b : BitVec 32) (w : World) :
    Calls Try.prog 10 #[.int .u32 a.toNat, .int .u32 b.toNat] w fun e w' => e = .returned (.bool true) ∧ Below w.heap.size w w' := by
  have ha := a.isLt
  have hb := b.isLt
  have h1 : ((a.toNat : Int) == (b.toNat : Int)) = decide (a = b) := toNat_beq a b
  have h2 : (((Crc.sum (bigL a.toNat 4)).toNat : Int) == ((Crc.sum (bigL b.toNat 4)).toNat : Int)) = decide (a = b) := by
    rw [toNat_beq]; exact decide_eq_decide.2 (four_iff a b)
  have HD := Lib.hid (And.intro h1 h2)
  clear h1 h2
  go_enter Try.func10, Try.ntmps10
  go_wp2_with fail
  refine (refBig_calls a.toNat 4 _ (by omega) (by omega)).mono ?_
  rintro e w1 ⟨v1, rfl, ho1, hb1⟩
  obtain ⟨a1, c1, rfl, _⟩ := ho1.form
  have hx1 := Lib.hid (Own.arr ho1 (by rw [bigL_len]; omega))
  have HB1 := Lib.hid hb1
  clear ho1 hb1
  go_wp2_with fail
  refine (sum_calls _ _ _ (bigL a.toNat 4) _ hx1.out).mono ?_
  rintro e w2 ⟨rfl, rfl⟩
  go_wp2_with fail
  refine (refBig_calls b.toNat 4 _ (by omega) (by omega)).mono ?_
  rintro e w2 ⟨v2, rfl, ho2, hb2⟩
  obtain ⟨a2, c2, rfl, _⟩ := ho2.form
  have hx2 := Lib.hid (Own.arr ho2 (by rw [bigL_len]; omega))
  have HB2 := Lib.hid hb2
  clear ho2 hb2
  go_wp2_with fail
  refine (sum_calls _ _ _ (bigL b.toNat 4) _ hx2.out).mono ?_
  rintro e w3 ⟨rfl, rfl⟩
  have h1 := HD.out.1
  have h2 := HD.out.2
  go_wp2_with fail
  refine (known_calls _).mono ?_
  rintro e wk ⟨rfl, hbk⟩
  have HBk := Lib.hid hbk
  clear hbk
  go_wp2
  go_ret
  exact ⟨rfl, (HB1.out.trans (HB2.out.mono HB1.out.size)).trans (HBk.out.mono (Nat.le_trans HB1.out.size HB2.out.size))⟩

set_option maxHeartbeats 1000000 in
theorem crcJoins_walk (a : Option Addr) (n c : Nat) (xs : List UInt8) (b : Option Addr) (m d : Nat) (ys : List UInt8) (k : Int) (w : World)
    (hx : Bytes w w.heap.size a n xs) (_ : n ≤ c) (_ : c ≤ 140737488351232) (hy : Bytes w w.heap.size b m ys) (_ : m ≤ d) (_ : d ≤ 140737488351232) (h1 : -9223372036854775808 ≤ k) (h2 : k ≤ 9223372036854775807) :
    Calls Try.prog 11 #[.slice a n c, .slice b m d, .int .i64 k] w fun e w' => e = .returned (.bool true) ∧ Below w.heap.size w w' := by
  by_cases hl : 2000 < n
  · have hd : decide (2000 < n) = true := decide_eq_true hl
    go_enter Try.func11, Try.ntmps11
    go_wp2_with fail
    refine (long_calls _ _ _ _).mono ?_
    rintro e w1 ⟨rfl, rfl⟩
    rw [hd]
    go_wp2_with fail
    refine (known_calls _).mono ?_
    rintro e wk ⟨rfl, hbk⟩
    have HBk := Lib.hid hbk
    clear hbk
    go_wp2
    go_ret
    exact ⟨rfl, HBk.out⟩
  by_cases hl2 : 2000 < m
  · have hd : decide (2000 < n) = false := decide_eq_false hl
    have hd2 : decide (2000 < m) = true := decide_eq_true hl2
    go_enter Try.func11, Try.ntmps11
    go_wp2_with fail
    refine (long_calls _ _ _ _).mono ?_
    rintro e w1 ⟨rfl, rfl⟩
    rw [hd]
    go_wp2_with fail
    refine (long_calls _ _ _ _).mono ?_
    rintro e w1 ⟨rfl, rfl⟩
    rw [hd2]
    go_wp2_with fail
    refine (known_calls _).mono ?_
    rintro e wk ⟨rfl, hbk⟩
    have HBk := Lib.hid hbk
    clear hbk
    go_wp2
    go_ret
    exact ⟨rfl, HBk.out⟩
  · have hd : decide (2000 < n) = false := decide_eq_false hl
    have hd2 : decide (2000 < m) = false := decide_eq_false hl2
    have hn := Lib.hid hx.len
    have hm := Lib.hid hy.len
    go_enter Try.func11, Try.ntmps11
    go_wp2_with fail
    refine (long_calls _ _ _ _).mono ?_
    rintro e w1 ⟨rfl, rfl⟩
    rw [hd]
    go_wp2_with fail
    refine (long_calls _ _ _ _).mono ?_
    rintro e w1 ⟨rfl, rfl⟩
    rw [hd2]
    clear hd hd2
    go_wp2_with (first
      | (at_builtin; refine wpList_appB rfl (.tmp 19) (.tmp 20) rfl w.heap.size (.slice none 0 0) [] rfl (Own.nil _ _) w.heap.size _ _ _ xs rfl hx (by simp only [List.length_nil]; omega) (Nat.le_refl _) ?_; intro v1 w1 hown1 hg1 hat1; rw [List.nil_append] at hown1; have hbw1 := below_own (Below.refl w.heap.size w) (Own.nil (f := byteV) (e := 5) w w.heap.size) hg1 (Nat.le_refl _))
      | (at_builtin; refine wpList_appB rfl (.tmp 21) (.tmp 22) rfl w.heap.size v1 xs rfl hown1 w1.heap.size _ _ _ ys rfl (Arr.on hy hbw1) (by rw [hn.out]; omega) hbw1.size ?_; intro v2 w2 hown2 hg2 hat2))
    have hb2 : Below w.heap.size w w2 := below_own hbw1 hown1 hg2 hbw1.size
    have HO2 := Lib.hid hown2
    have HB2 := Lib.hid hb2
    have hs2 := hb2.size
    obtain ⟨a2, c2, hv2, _⟩ := hown2.formN (n := n + m) (by rw [List.length_append, hn.out, hm.out])
    clear hown1 hg1 hat1 hbw1 hown2 hg2 hat2 hb2
    subst hv2
    have hab := Lib.hid (Own.arr HO2.out (by rw [List.length_append, hn.out, hm.out]; omega))
    go_wp2_with fail
    refine (sum_calls _ n _ xs _ (Arr.on hx HB2.out)).mono ?_
    rintro e w3 ⟨rfl, rfl⟩
    go_wp2_with fail
    refine (sum_calls _ m _ ys _ (Arr.on hy HB2.out)).mono ?_
    rintro e w3 ⟨rfl, rfl⟩
    go_wp2_with fail
    refine (join_good (Crc.sum xs) (Crc.sum ys) m _ (by omega)).mono ?_
    rintro e w3 ⟨rfl, hb3⟩
    have hjoin := Crc.sum_append xs ys
    rw [hm.out] at hjoin
    rw [hjoin]
    clear hjoin
    have HB3 := Lib.hid hb3
    have hs3 := hb3.size
    clear hb3
    have HA3 := Lib.hid (Arr.on hab.out HB3.out)
    have HB03 := Lib.hid (HB2.out.trans (HB3.out.mono hs2))
    by_cases hk : 0 ≤ k ∧ k ≤ 1073741824
    · obtain ⟨hk0, hk1⟩ := hk
      obtain ⟨q, rfl⟩ := Int.eq_ofNat_of_zero_le hk0
      go_wp2_with fail
      refine (join_good 1#32 2#32 q _ (by omega)).mono ?_
      rintro e w4 ⟨rfl, hb4⟩
      have HB4 := Lib.hid hb4
      clear hb4
      go_wp2_with fail
      refine (refSum_calls _ _ _ (xs ++ ys) _ (Arr.on HA3.out HB4.out)).mono ?_
      rintro e w5 ⟨rfl, rfl⟩
      go_wp2_with fail
      refine (known_calls _).mono ?_
      rintro e wk ⟨rfl, hbk⟩
      have HBk := Lib.hid hbk
      clear hbk
      go_wp2
      go_ret
      exact ⟨rfl, (HB03.out.trans (HB4.out.mono HB03.out.size)).trans (HBk.out.mono (Nat.le_trans HB03.out.size HB4.out.size))⟩
    · have HK := Lib.hid (show k < 0 ∨ 1073741824 < k by omega)
      by_cases hk0 : k < 0
      all_goals
        try (have hk1 : 1073741824 < k := (by omega))
        clear hk
        go_wp2_with fail
        refine (join_bad 1#32 2#32 k _ HK.out).mono ?_
        rintro e w4 ⟨rfl, rfl⟩
        go_wp2_with fail
        refine (refSum_calls _ _ _ (xs ++ ys) _ HA3.out).mono ?_
        rintro e w5 ⟨rfl, rfl⟩
        go_wp2_with fail
        refine (known_calls _).mono ?_
        rintro e wk ⟨rfl, hbk⟩
        have HBk := Lib.hid hbk
        clear hbk
        go_wp2
        go_ret
        exact ⟨congrArg (fun b => Ending.returned (Value.bool b)) (by first | rfl | (simp; omega)), HB03.out.trans (HBk.out.mono HB03.out.size)⟩
end Go.Proofs.Ytbkijoekehffkaa
