/-
  The reference's Parse.
-/
import Derived.Test.YtnfkbndakdkieaaPathSame
namespace Go.Proofs.Ytnfkbndakdkieaa
open Go.RowKit

namespace Pth
theorem chk_at (xs : List (List UInt8)) (k : Nat) (hk : k < xs.length) (i : Nat) : chk i (xs.drop k) = if nameB xs[k] then (if i = 16 then 30 else chk (i + 1) (xs.drop (k + 1))) else 31 := by
  rw [List.drop_eq_getElem_cons hk, chk]
end Pth
theorem refParse_bad (l : List UInt8) (w : World) (hl : l.length ≤ 140737488351232) (h : l = [] ∨ 255 < l.length ∨ l.head? ≠ some 47) :
    Calls Try.prog 11 #[.string (strL l)] w fun e w' => e = .returned (.tuple #[.slice none 0 0, .int .i64 30]) ∧ w = w' := by
  by_cases h0 : l = []
  · subst h0
    go_enter Try.func11, Try.ntmps11
    go_wp2
    go_ret2
    exact ⟨rfl, rfl⟩
  have g3 : (0 : Nat) < l.length := List.length_pos_iff.2 h0
  have g0 : decide ((l.length : Int) < 1) = false := decide_eq_false (by omega)
  by_cases h1 : 255 < l.length
  · have g2 : decide (255 < (l.length : Int)) = true := decide_eq_true (by omega)
    clear h h0
    go_enter Try.func11, Try.ntmps11
    go_wp2
    go_ret2
    exact ⟨rfl, rfl⟩
  have g2 : decide (255 < (l.length : Int)) = false := decide_eq_false (by omega)
  have g4 : ((l[0].toNat : Int) != 47) = true := by
    have h2 : l.head? ≠ some 47 := by rcases h with h | h | h; exact absurd h h0; omega; exact h
    cases l with
    | nil => exact absurd rfl h0
    | cons c r =>
      rw [bne_iff_ne]
      intro e
      apply h2
      rw [List.head?_cons]
      congr 1
      apply UInt8.toNat_inj.1
      show c.toNat = 47
      rw [List.getElem_cons_zero] at e
      omega
  clear h h0 h1
  go_enter Try.func11, Try.ntmps11
  go_wp2
  go_ret2
  exact ⟨rfl, rfl⟩
set_option maxHeartbeats 2000000 in
theorem refParse_good (l : List UInt8) (w : World) (h0 : l ≠ []) (h1 : l.length ≤ 255) (h2 : l.head? = some 47) :
    Calls Try.prog 11 #[.string (strL l)] w (ParseR l w) := by
  have g3 : (0 : Nat) < l.length := List.length_pos_iff.2 h0
  have g0 : decide ((l.length : Int) < 1) = false := decide_eq_false (by omega)
  have g2 : decide (255 < (l.length : Int)) = false := decide_eq_false (by omega)
  have g4 : ((l[0].toNat : Int) != 47) = false := by
    cases l with
    | nil => exact absurd rfl h0
    | cons c r => simp at h2; subst h2; rfl
  have HV := Lib.hid (show Pth.parse l = if Pth.chk 0 (Pth.parts l) = 0 then (Pth.parts l, 0) else ([], Pth.chk 0 (Pth.parts l)) by unfold Pth.parse; rw [if_neg (by simp [h0, h2]; omega)])
  have HM := Lib.hid (fun x (h : x ∈ Pth.parts l) => Pth.parts_mem h)
  have hpl := Pth.parts_len l
  have hrp := Lib.hid (refParts_calls l w (by omega))
  unfold ParseR
  generalize Pth.parse l = R at *
  generalize Pth.parts l = xs at *
  clear h0 h2
  go_enter Try.func11, Try.ntmps11
  go_wp2_with fail
  refine hrp.out.mono ?_
  rintro e w1 ⟨⟨v, rfl, ho⟩, hb⟩
  obtain ⟨a1, c1, rfl, _⟩ := ho.formN (n := xs.length) rfl
  have HO := Lib.hid ho
  have HA := Lib.hid (ho.arr (by omega))
  have HB := Lib.hid hb
  clear ho hb
  go_wp2
  go_loop [5] (fun i => ∃ k : Nat, k ≤ xs.length ∧ k ≤ 16 ∧ i = .int .i64 k ∧ Pth.chk 0 xs = Pth.chk k (xs.drop k)) (fun i => xs.length - (intOf i).toNat)
  case atStart => exact ⟨0, by omega, by omega, rfl, rfl⟩
  case round =>
    obtain ⟨k, hk, hk16, rfl, hc⟩ := hrel
    have HC := Lib.hid hc
    clear hc
    by_cases hlt : k < xs.length
    · obtain ⟨b1, o1, hk1, rfl, hbl1, hc1⟩ := HA.out.atv hlt
      rw [strV_eq] at hc1
      have HS := Lib.hid (Pth.chk_at xs k hk1 k)
      have hxl := HM.out _ (List.getElem_mem hk1)
      have hnc := Lib.hid (refName_calls xs[k] w1 (by omega))
      generalize xs[k] = x at *
      cases hx : Pth.nameB x
      · rw [show Pth.nameE x = 31 by unfold Pth.nameE; rw [hx]; rfl] at hnc
        rw [hx] at HS
        have hE := Lib.hid (show R = ([], 31) by rw [HV.out, HC.out, HS.out]; rfl)
        clear hx
        go_wp2_with (go_at_call 24; refine hnc.out.mono ?_; rintro e w' ⟨rfl, rfl⟩)
        go_ret2
        rw [hE.out]
        exact ⟨⟨_, rfl, Own.nil _ _⟩, HB.out⟩
      · rw [show Pth.nameE x = 0 by unfold Pth.nameE; rw [hx]; rfl] at hnc
        rw [hx] at HS
        clear hx
        by_cases h16 : k = 16
        · subst h16
          have hE := Lib.hid (show R = ([], 30) by rw [HV.out, HC.out, HS.out]; rfl)
          go_wp2_with (go_at_call 24; refine hnc.out.mono ?_; rintro e w' ⟨rfl, rfl⟩)
          go_ret2
          rw [hE.out]
          exact ⟨⟨_, rfl, Own.nil _ _⟩, HB.out⟩
        · have hS := Lib.hid (show Pth.chk 0 xs = Pth.chk (k + 1) (xs.drop (k + 1)) by rw [HC.out, HS.out, if_pos rfl, if_neg h16])
          have g9 : decide (15 < (k : Int)) = false := decide_eq_false (by omega)
          go_wp2_with (go_at_call 24; refine hnc.out.mono ?_; rintro e w' ⟨rfl, rfl⟩)
          go_round
          case rel => exact ⟨k + 1, by omega, by omega, by go_num, hS.out⟩
          case measure => simp [intOf]; omega
    · obtain rfl : k = xs.length := by omega
      have hE := Lib.hid (show R = (xs, 0) by rw [HV.out, HC.out, List.drop_length]; rfl)
      go_wp2
      go_ret2
      rw [hE.out]
      exact ⟨⟨_, rfl, HO.out⟩, HB.out⟩
theorem refParse_calls (l : List UInt8) (w : World) (hl : l.length ≤ 140737488351232) :
    Calls Try.prog 11 #[.string (strL l)] w (ParseR l w) := by
  by_cases h : l = [] ∨ 255 < l.length ∨ l.head? ≠ some 47
  · refine (refParse_bad l w hl h).mono ?_
    rintro e w' ⟨rfl, rfl⟩
    have hv : Pth.parse l = ([], 30) := by unfold Pth.parse; rw [if_pos h]
    unfold ParseR
    rw [hv]
    exact ⟨⟨_, rfl, Own.nil _ _⟩, Below.refl _ _⟩
  · refine refParse_good l w (fun h1 => h (.inl h1)) ?_ ?_
    · rcases Nat.lt_or_ge 255 l.length with h1 | h1
      · exact absurd (.inr (.inl h1)) h
      · exact h1
    · by_cases h1 : l.head? = some 47
      · exact h1
      · exact absurd (.inr (.inr h1)) h
theorem plong_calls (l : List UInt8) (w : World) :
    Calls Try.prog 8 #[.string (strL l)] w fun e w' => e = .returned (.bool (decide (2000 < l.length))) ∧ w = w' := by
  go_enter Try.func8, Try.ntmps8
  go_wp2
  go_ret
  exact ⟨congrArg (fun z => Ending.returned (Value.bool z)) (by simp; omega), rfl⟩
end Go.Proofs.Ytnfkbndakdkieaa
