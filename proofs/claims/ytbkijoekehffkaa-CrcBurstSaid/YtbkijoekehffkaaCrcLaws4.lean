/-
  The walk of the law CrcThree.
-/
import Derived.Test.YtbkijoekehffkaaCrcLaws3
import Derived.StillTailTactics
namespace Go.Proofs.Ytbkijoekehffkaa
open Go.RowKit

theorem fill_set {α : Type} (l : List α) (z : α) (n k : Nat) (hl : l.length = n) (hk : k < l.length) : (l.take k ++ List.replicate (n - k) z).set k l[k] = l.take (k + 1) ++ List.replicate (n - (k + 1)) z := by
  have h1 : (l.take k).length = k := by rw [List.length_take]; omega
  rw [List.set_append_right _ _ (by omega), h1, Nat.sub_self, show n - k = (n - (k + 1)) + 1 by omega, List.replicate_succ, List.set_cons_zero, List.take_succ_eq_append_getElem hk, List.append_assoc]
  rfl
theorem fill_len {α : Type} (l : List α) (z : α) (n k : Nat) (hl : l.length = n) (hk : k ≤ n) : (l.take k ++ List.replicate (n - k) z).length = n := by
  rw [List.length_append, List.length_take, List.length_replicate]; omega

set_option maxHeartbeats 1000000 in
theorem crcThree_walk (a : Option Addr) (n c : Nat) (xs : List UInt8) (b : Option Addr) (m d : Nat) (ys : List UInt8) (q : Option Addr) (l r : Nat) (zs : List UInt8) (w : World)
    (hx : Bytes w w.heap.size a n xs) (_ : n ≤ c) (_ : c ≤ 140737488351232) (hy : Bytes w w.heap.size b m ys) (_ : m ≤ d) (_ : d ≤ 140737488351232) (hz : Bytes w w.heap.size q l zs) (_ : l ≤ r) (_ : r ≤ 140737488351232) :
    Calls Try.prog 9 #[.slice a n c, .slice b m d, .slice q l r] w fun e w' => e = .returned (.bool true) ∧ Below w.heap.size w w' := by
  by_cases hl : 2000 < n
  · have hd : decide (2000 < n) = true := decide_eq_true hl
    go_enter Try.func9, Try.ntmps9
    go_wp2_with fail
    refine (long_calls _ _ _ _).mono ?_
    rintro e w1 ⟨rfl, rfl⟩
    rw [hd]
    go_wp2_with fail
    refine (known_calls _).mono ?_
    rintro e wk ⟨rfl, hbk⟩
    have HBk := Lib.hid hbk
    clear hbk
    go_wp2
    go_ret
    exact ⟨rfl, HBk.out⟩
  have hd : decide (2000 < n) = false := decide_eq_false hl
  by_cases hnm : n = m
  case neg =>
    have h1 : ((n : Int) == (m : Int)) = false := by rw [beq_eq_false_iff_ne]; omega
    have h2 : ((n : Int) != (m : Int)) = true := by rw [bne_iff_ne]; omega
    go_enter Try.func9, Try.ntmps9
    go_wp2_with fail
    refine (long_calls _ _ _ _).mono ?_
    rintro e w1 ⟨rfl, rfl⟩
    rw [hd]
    go_wp2_with fail
    refine (known_calls _).mono ?_
    rintro e wk ⟨rfl, hbk⟩
    have HBk := Lib.hid hbk
    clear hbk
    go_wp2
    go_ret
    exact ⟨rfl, HBk.out⟩
  subst hnm
  by_cases hnl : n = l
  case neg =>
    have h1 : ((n : Int) == (l : Int)) = false := by rw [beq_eq_false_iff_ne]; omega
    have h2 : ((n : Int) != (l : Int)) = true := by rw [bne_iff_ne]; omega
    have h3 : ((n : Int) == (n : Int)) = true := by rw [beq_iff_eq]
    have h4 : ((n : Int) != (n : Int)) = false := by rw [bne_eq_false_iff_eq]
    go_enter Try.func9, Try.ntmps9
    go_wp2_with fail
    refine (long_calls _ _ _ _).mono ?_
    rintro e w1 ⟨rfl, rfl⟩
    rw [hd]
    go_wp2_with fail
    refine (known_calls _).mono ?_
    rintro e wk ⟨rfl, hbk⟩
    have HBk := Lib.hid hbk
    clear hbk
    go_wp2
    go_ret
    exact ⟨rfl, HBk.out⟩
  subst hnl
  have h3 : ((n : Int) == (n : Int)) = true := by rw [beq_iff_eq]
  have h4 : ((n : Int) != (n : Int)) = false := by rw [bne_eq_false_iff_eq]
  have hnx := Lib.hid hx.len
  have hny := Lib.hid hy.len
  have hnz := Lib.hid hz.len
  obtain ⟨dL, hdL⟩ : ∃ dL, dL = List.zipWith (· ^^^ ·) (List.zipWith (· ^^^ ·) xs ys) zs := ⟨_, rfl⟩
  have hlenD : dL.length = n := by rw [hdL, List.length_zipWith, List.length_zipWith, hnx.out, hny.out, hnz.out]; omega
  have HlenD := Lib.hid hlenD
  have HdL := Lib.hid hdL
  clear hdL hlenD
  have hmk := makeB n (by omega)
  have HOM := Lib.hid (ownMade w w.heap.size n (Nat.le_refl _) (by omega))
  go_enter Try.func9, Try.ntmps9
  go_wp2_with fail
  refine (long_calls _ _ _ _).mono ?_
  rintro e w1 ⟨rfl, rfl⟩
  rw [hd]
  clear hd
  go_wp2_with fail
  clear h3 h4 hmk
  go_loopw [8] (fun i wr => ∃ k : Nat, k ≤ n ∧ i = .int .i64 k ∧ Own byteV 5 wr w.heap.size (.slice (some ⟨w.heap.size, 0, none⟩) n n) (dL.take k ++ List.replicate (n - k) 0) ∧ Below w.heap.size w wr) (fun i _ => n - (intOf i).toNat)
  case atStart =>
    refine ⟨0, by omega, rfl, ?_, (Below.refl _ _).alloc (Nat.le_refl _) _⟩
    have := HOM.out
    simpa [byteV_eq] using this
  case round =>
    clear HOM
    obtain ⟨k, hk, rfl, ho, hb⟩ := hrel
    have HO := Lib.hid ho
    have HB := Lib.hid hb
    have hsz := hb.size
    clear ho hb
    by_cases hlt : k < n
    · obtain ⟨b1, o1, hk1, rfl, hbl1, hc1⟩ := (Arr.below hx HB.out).at_ hlt
      obtain ⟨b2, o2, hk2, rfl, hbl2, hc2⟩ := (Arr.below hy HB.out).at_ hlt
      obtain ⟨b3, o3, hk3, rfl, hbl3, hc3⟩ := (Arr.below hz HB.out).at_ hlt
      have hkd : k < (dL.take k ++ List.replicate (n - k) (0 : UInt8)).length := by rw [fill_len dL 0 n k HlenD.out (by omega)]; exact hlt
      obtain ⟨g, e1, _, _, hcell, hfr⟩ := HO.out.cell hkd
      injection e1 with e1
      subst e1
      have hk0 : (0 : Int) ≤ (k : Int) := by omega
      have hk4 : (k : Int) < (n : Int) := by omega
      go_wp2_with fail
      go_still_tail 17, (by kernel_rfl)
      have hcell2 : wr.drew.cell? ⟨w.heap.size, k, none⟩ = some (byteV (dL.take k ++ List.replicate (n - k) (0 : UInt8))[k]) := hcell
      have hfr2 : wr.drew.frozen? ⟨w.heap.size, k, none⟩ = false := hfr
      have HO2 : Hid (Own byteV 5 wr.drew w.heap.size (.slice (some ⟨w.heap.size, 0, none⟩) n n) (dL.take k ++ List.replicate (n - k) 0)) := Lib.hid HO.out.drew
      have HB2 := Lib.hid HB.out.drew
      change wpList _ _ _ _ _ wr.drew
      generalize wr.drew = W2 at *
      clear hcell hfr HO HB hc1 hc2 hc3
      have hval : bits .xor .u8 (bits .xor .u8 (xs[k].toNat : Int) (ys[k].toNat : Int)) (zs[k].toNat : Int) = ((dL[k]'(by rw [HlenD.out]; exact hlt)).toNat : Int) := by
        rw [bits_xor_u8, bits_xor_u8]
        have := HdL.out
        subst this
        simp
      have Hval := Lib.hid hval
      clear hval
      go_wp2_with fail
      go_roundw
      case rel =>
        refine ⟨k + 1, by omega, by go_num, ?_, HB2.out.setCell (Nat.le_refl _) _⟩
        rw [Hval.out]
        have h9 := HO2.out.set k (dL[k]'(by rw [HlenD.out]; exact hlt))
        rw [fill_set dL 0 n k HlenD.out (by rw [HlenD.out]; exact hlt)] at h9
        exact h9
      case measure => simp [intOf]; omega
    · obtain rfl : k = n := by omega
      have hsum3 := Crc.sum_three xs ys zs (by rw [hnx.out, hny.out]) (by rw [hnx.out, hnz.out])
      rw [← HdL.out] at hsum3
      have Hsum := Lib.hid hsum3
      have hoD := HO.out
      rw [Nat.sub_self, List.replicate_zero, List.append_nil, List.take_of_length_le (by rw [HlenD.out]; omega)] at hoD
      have HaD := Lib.hid (Own.arr hoD (by rw [HlenD.out]; omega))
      clear hoD hsum3 HO
      have HX := Lib.hid (Arr.on hx HB.out)
      have HY := Lib.hid (Arr.on hy HB.out)
      have HZ := Lib.hid (Arr.on hz HB.out)
      go_wp2_with fail
      refine (sum_calls _ k _ xs _ HX.out).mono ?_
      rintro e w3 ⟨rfl, rfl⟩
      go_wp2_with fail
      refine (sum_calls _ k _ ys _ HY.out).mono ?_
      rintro e w3 ⟨rfl, rfl⟩
      go_wp2_with fail
      refine (sum_calls _ k _ zs _ HZ.out).mono ?_
      rintro e w3 ⟨rfl, rfl⟩
      go_wp2_with fail
      refine (sum_calls _ k _ dL _ HaD.out).mono ?_
      rintro e w3 ⟨rfl, rfl⟩
      have hx3 : bits .xor .u32 (bits .xor .u32 ((Crc.sum xs).toNat : Int) ((Crc.sum ys).toNat : Int)) ((Crc.sum zs).toNat : Int) = ((Crc.sum dL).toNat : Int) := by
        rw [bits_xor_u32, bits_xor_u32, Hsum.out]
      rw [hx3]
      clear hx3
      go_wp2_with fail
      refine (known_calls _).mono ?_
      rintro e wk ⟨rfl, hbk⟩
      have HBk := Lib.hid hbk
      clear hbk
      go_wp2
      go_ret
      exact ⟨rfl, HB.out.trans (HBk.out.mono hsz)⟩
end Go.Proofs.Ytbkijoekehffkaa
