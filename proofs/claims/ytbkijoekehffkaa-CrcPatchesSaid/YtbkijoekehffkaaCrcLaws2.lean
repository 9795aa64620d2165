/-
  The walks of the laws CrcCuts, CrcPatches.
-/
import Derived.Test.YtbkijoekehffkaaCrcTop
import Derived.Deep.QuietTactic
import Derived.BigQuiet
import Derived.Deep.RegionHeld3
namespace Go.Proofs.Ytbkijoekehffkaa
open Go.RowKit

theorem quietL {P : Program} {f : FuncId} {args : Array Value} {w : World} {n : Nat} {v : Value}
    (h : Calls P f args (w.drewN n) fun e w' => e = .returned v ∧ w.drewN n = w') : Calls P f args (w.drewN n) fun e w'' => e = .returned v ∧ ∃ m, w'' = w.drewN m :=
  h.mono fun _ _ ⟨he, hm⟩ => ⟨he, n, hm.symm⟩
theorem among_nat (k : Int) (n : Nat) (h : 1 ≤ n) : ∃ m : Nat, (if (n : Int) < 1 then 0 else k % (n : Int)) = (m : Int) ∧ m < n := by
  refine ⟨(k % (n : Int)).toNat, ?_, ?_⟩
  · rw [if_neg (by omega)]
    have := Int.emod_nonneg k (show (n : Int) ≠ 0 by omega)
    omega
  · have := Int.emod_nonneg k (show (n : Int) ≠ 0 by omega)
    have := Int.emod_lt_of_pos k (show (0 : Int) < n by omega)
    omega

set_option maxHeartbeats 1000000 in
theorem crcCuts_walk (a : Option Addr) (n c : Nat) (xs : List UInt8) (k : Int) (w : World) (hx : Bytes w w.heap.size a n xs) (hnc : n ≤ c) (_ : c ≤ 140737488351232) (h1 : -9223372036854775808 ≤ k) (h2 : k ≤ 9223372036854775807) :
    Calls Try.prog 7 #[.slice a n c, .int .i64 k] w fun e w' => e = .returned (.bool true) ∧ Below w.heap.size w w' := by
  by_cases hl : 2000 < n
  · have hd : decide (2000 < n) = true := decide_eq_true hl
    go_enter Try.func7, Try.ntmps7
    go_wp2_with fail
    refine (long_calls _ _ _ _).mono ?_
    rintro e w1 ⟨rfl, rfl⟩
    rw [hd]
    go_wp2_with fail
    refine (known_calls _).mono ?_
    rintro e w1 ⟨rfl, hb⟩
    have HB := Lib.hid hb
    clear hb
    go_wp2
    go_ret
    exact ⟨rfl, HB.out⟩
  · have hd : decide (2000 < n) = false := decide_eq_false hl
    go_enter Try.func7, Try.ntmps7
    go_wp2_with fail
    refine (long_calls _ _ _ _).mono ?_
    rintro e w1 ⟨rfl, rfl⟩
    rw [hd]
    clear hd
    go_wp2_with fail
    refine (among_calls k ((n : Int) + 1) _ h1 h2 (by omega)).mono ?_
    rintro e w1 ⟨rfl, rfl⟩
    obtain ⟨m, hm, hmn⟩ := among_nat k (n + 1) (by omega)
    rw [show ((n : Int) + 1) = ((n + 1 : Nat) : Int) from by omega, hm]
    clear hm
    have hcut1 := cutB_to a n c m (by omega)
    have hcut2 := cutB_from a n c m (by omega)
    go_wp2_with fail
    have hS0 : Crc.more (Crc.sum (xs.take m)) (xs.drop m) = Crc.sum xs := by
      simp only [Crc.sum, Crc.more, BitVec.not_not]
      rw [← Crc.puts_append, List.take_append_drop]
    have HS0 := Lib.hid hS0
    clear hS0
    go_region_held3 (fun w' => Below w.heap.size w w') (first | exact (Below.refl _ _).drew | exact Below.drew (by assumption) | assumption)
      (first
      | (go_at_call 16; ((with_reducible refine (sum_calls _ m _ (xs.take m) _ (Arr.on (Arr.take hx (by omega)) (by assumption))).mono ?_); rintro e w' ⟨rfl, rfl⟩))
      | (go_at_call 16; ((with_reducible refine (sum_calls _ n _ xs _ (Arr.on hx (by assumption))).mono ?_); rintro e w' ⟨rfl, rfl⟩))
      | (go_at_call 18; ((with_reducible refine (more_calls _ (cutA a c m) _ _ (xs.drop m) _ (Arr.on (Arr.drop hx (by omega) hnc) (by assumption))).mono ?_); rintro e w' ⟨rfl, rfl⟩; rw [HS0.out]))
      | (go_at_call 18; ((with_reducible refine (more_calls _ none 0 _ [] _ (Arr.none_ _ _ _)).mono ?_); rintro e w' ⟨rfl, rfl⟩; rw [Crc.more_nil]))
      | (go_at_call 14; refine (known_calls _).mono ?_; rintro e w' ⟨rfl, hb⟩; have hb' := Below.trans (by assumption) (Below.mono hb (Below.size (by assumption)))))
    go_wp2
    go_ret
    exact ⟨rfl, hb'⟩

set_option maxHeartbeats 1000000 in
theorem crcPatches_walk (a : Option Addr) (n c : Nat) (xs : List UInt8) (k : Int) (now : UInt8) (w : World) (hx : Bytes w w.heap.size a n xs) (hnc : n ≤ c) (_ : c ≤ 140737488351232) (h1 : -9223372036854775808 ≤ k) (h2 : k ≤ 9223372036854775807) :
    Calls Try.prog 6 #[.slice a n c, .int .i64 k, .int .u8 now.toNat] w fun e w' => e = .returned (.bool true) ∧ Below w.heap.size w w' := by
  by_cases hl : 2000 < n
  · have hd : decide (2000 < n) = true := decide_eq_true hl
    go_enter Try.func6, Try.ntmps6
    go_wp2_with fail
    refine (long_calls _ _ _ _).mono ?_
    rintro e w1 ⟨rfl, rfl⟩
    rw [hd]
    go_wp2_with fail
    refine (known_calls _).mono ?_
    rintro e w1 ⟨rfl, hb⟩
    have HB := Lib.hid hb
    clear hb
    go_wp2
    go_ret
    exact ⟨rfl, HB.out⟩
  by_cases h0 : n = 0
  · have hd : decide (2000 < n) = false := decide_eq_false hl
    subst h0
    go_enter Try.func6, Try.ntmps6
    go_wp2_with fail
    refine (long_calls _ _ _ _).mono ?_
    rintro e w1 ⟨rfl, rfl⟩
    rw [hd]
    go_wp2_with fail
    refine (known_calls _).mono ?_
    rintro e w1 ⟨rfl, hb⟩
    have HB := Lib.hid hb
    clear hb
    go_wp2
    go_ret
    exact ⟨rfl, HB.out⟩
  · have hd : decide (2000 < n) = false := decide_eq_false hl
    have hlen := Lib.hid hx.len
    have hn0 : ((n : Int) == 0) = false := by rw [beq_eq_false_iff_ne]; omega
    go_enter Try.func6, Try.ntmps6
    go_wp2_with fail
    refine (long_calls _ _ _ _).mono ?_
    rintro e w1 ⟨rfl, rfl⟩
    rw [hd]
    clear hd
    go_wp2_with fail
    refine (among_calls k (n : Int) _ h1 h2 (by omega)).mono ?_
    rintro e w1 ⟨rfl, rfl⟩
    obtain ⟨m, hm, hmn⟩ := among_nat k n (by omega)
    rw [hm]
    clear hm
    go_wp2_with (at_builtin; refine wpList_appB rfl _ _ rfl w.heap.size (.slice none 0 0) [] rfl (Own.nil _ _) w.heap.size _ _ _ xs rfl hx (by simp only [List.length_nil]; omega) (Nat.le_refl _) ?_; intro v1 w1 hown1 hg1 hat1; rw [List.nil_append] at hown1; obtain ⟨g, c1, rfl, hc1, hgb, hgl⟩ := hown1.form_some (by have := hlen.out; omega); rw [hlen.out] at hown1 hc1 ⊢; obtain ⟨g', e1, _, _, hcell, hfr⟩ := hown1.cell (k := m) (by have := hlen.out; omega); injection e1 with e1; subst e1)
    obtain ⟨W, hW⟩ : ∃ W, W = w1.setCell ⟨g, m, none⟩ (.int .u8 (now.toNat : Int)) := ⟨_, rfl⟩
    rw [← hW]
    have hbW : Below w.heap.size w W := by rw [hW]; exact (below_own (Below.refl _ _) (Own.nil (f := byteV) (e := 5) w w.heap.size) hg1 (Nat.le_refl _)).setCell hgb _
    have hoW : Own byteV 5 W w.heap.size (.slice (some ⟨g, 0, none⟩) n c1) (xs.set m now) := by rw [hW]; exact hown1.set m now
    clear hW hcell hfr hown1 hg1 hat1
    have hxW := Arr.on hx hbW
    have HoW := Lib.hid hoW
    have HbW := Lib.hid hbW
    clear hoW hbW
    obtain ⟨b, o, hm', rfl, hbl, hcm⟩ := hxW.at_ hmn
    have hsum := Crc.sum_set xs n m hlen.out hm' now
    have Hsum := Lib.hid hsum
    clear hsum
    have hm0 : (0 : Int) ≤ (m : Int) := by omega
    have hm1 : (m : Int) < (n : Int) := by omega
    go_region_held3 (fun w' => Below W.heap.size W w' ∧ w'.cell? ⟨b, o + m, none⟩ = some (.int .u8 (xs[m].toNat : Int)))
      (first | exact ⟨(Below.refl _ _).drew, hcm⟩ | (refine ⟨?_, ?_⟩ <;> assumption))
      (first
      | (go_at_call 16; ((with_reducible refine (sum_calls _ n _ xs _ (Arr.on hxW (And.left (by assumption)))).mono ?_); rintro e w' ⟨rfl, rfl⟩))
      | (go_at_call 23; ((with_reducible refine (patch_good (Crc.sum xs) n m xs[m] now _ (by omega) hmn).mono ?_); rintro e w' ⟨rfl, hb⟩; rw [Hsum.out]; have hb' := Below.trans (And.left (by assumption)) (Below.mono hb (Below.size (And.left (by assumption)))); have hc' := (hb'.cell (p := ⟨b, o + m, none⟩) hbl).trans hcm)))
    have hb1 : Below W.heap.size W w' := by assumption
    clear hb' hc' hb hxW hcm
    have HB1 := Lib.hid hb1
    clear hb1
    have hoV := Own.on HoW.out HB1.out
    have hlen2 : (xs.set m now).length = n := by rw [List.length_set]; exact hlen.out
    have HaV := Lib.hid (Own.arr hoV (by rw [hlen2]; omega))
    clear hoV hlen2
    have HbV := Lib.hid (Below.trans HbW.out (Below.mono HB1.out HbW.out.size))
    have HsV := Lib.hid HbV.out.size
    by_cases hk : k < 0 ∨ n ≤ k
    · have HK := Lib.hid (show (n : Int) < 1 ∨ 1073741824 < (n : Int) ∨ k < 0 ∨ (n : Int) ≤ k by omega)
      by_cases hk0 : k < 0
      all_goals
        try (have hk1 : (n : Int) ≤ k := (by omega))
        clear hk
        go_wp2_with fail
        refine (patch_bad 5#32 n k 0 0 _ HK.out).mono ?_
        rintro e w2 ⟨rfl, rfl⟩
        go_wp2_with fail
        refine (refSum_calls _ n _ (xs.set m now) _ HaV.out).mono ?_
        rintro e w2 ⟨rfl, rfl⟩
        go_wp2_with fail
        refine (known_calls _).mono ?_
        rintro e w2 ⟨rfl, hb⟩
        have HB := Lib.hid hb
        clear hb
        go_wp2
        go_ret
        exact ⟨congrArg (fun b => Ending.returned (Value.bool b)) (by first | rfl | (simp; omega)), HbV.out.trans (HB.out.mono HsV.out)⟩
    · obtain ⟨k', rfl⟩ := Int.eq_ofNat_of_zero_le (show 0 ≤ k by omega)
      have hk1 : (0 : Int) ≤ (k' : Int) := by omega
      have hk2 : (k' : Int) < (n : Int) := by omega
      clear hk
      go_wp2_with fail
      refine (patch_good 5#32 n k' 0 0 _ (by omega) (by omega)).mono ?_
      rintro e w2 ⟨rfl, hb2⟩
      have HB2 := Lib.hid hb2
      clear hb2
      go_wp2_with fail
      refine (refSum_calls _ n _ (xs.set m now) _ (Arr.on HaV.out HB2.out)).mono ?_
      rintro e w3 ⟨rfl, rfl⟩
      go_wp2_with fail
      refine (known_calls _).mono ?_
      rintro e w3 ⟨rfl, hb⟩
      have HB := Lib.hid hb
      clear hb
      go_wp2
      go_ret
      exact ⟨rfl, (HbV.out.trans (HB2.out.mono HsV.out)).trans (HB.out.mono (Nat.le_trans HsV.out HB2.out.size))⟩
end Go.Proofs.Ytbkijoekehffkaa
