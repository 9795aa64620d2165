/-
  Both Joins.
-/
import Derived.Test.YtnfkbndakdkieaaJoin
import Derived.Test.YtnfkbndakdkieaaPathInLaw
import Derived.Lib.Join
namespace Go.Proofs.Ytnfkbndakdkieaa
open Go.RowKit

namespace Pth
def joinP (xs : List (List UInt8)) : List UInt8 × Int := if xs.all nameB then (if 16 < xs.length then ([], 30) else (47 :: Lib.join xs [47], 0)) else ([], 31)
/-- The reference's way. -/
def slashed (xs : List (List UInt8)) : List UInt8 := (xs.map (47 :: ·)).flatten
theorem slashed_snoc (xs : List (List UInt8)) (k : Nat) (h : k < xs.length) : slashed (xs.take (k + 1)) = slashed (xs.take k) ++ (47 :: xs[k]) := by
  unfold slashed
  rw [List.take_succ_eq_append_getElem h, List.map_append, List.flatten_append]; simp
theorem join_slashed (xs : List (List UInt8)) (h : xs ≠ []) : 47 :: Lib.join xs [47] = slashed xs := by
  cases xs with
  | nil => exact absurd rfl h
  | cons x r =>
    rw [Lib.join_cons]
    unfold slashed Lib.joinTail
    simp
theorem slashed_len (xs : List (List UInt8)) : (slashed xs).length = total xs := by
  induction xs with
  | nil => rfl
  | cons x r ih =>
    unfold slashed at ih ⊢
    rw [List.map_cons, List.flatten_cons, List.length_append, ih, total, List.length_cons]; omega
theorem all_snoc (xs : List (List UInt8)) (k : Nat) (h : k < xs.length) : (xs.take (k + 1)).all nameB = ((xs.take k).all nameB && nameB xs[k]) := by
  rw [List.take_succ_eq_append_getElem h, List.all_append]; simp
end Pth
def JoinR (xs : List (List UInt8)) (w : World) (e : Ending) (w' : World) : Prop :=
  e = .returned (.tuple #[.string (strL (Pth.joinP xs).1), .int .i64 (Pth.joinP xs).2]) ∧ Below w.heap.size w w'
theorem sjoin_calls (a : Option Addr) (n c : Nat) (xs : List (List UInt8)) (w : World) (hx : Arr strV w w.heap.size a n xs) (hnc : n ≤ c) (ht : Pth.total xs ≤ 1000000) :
    Calls Try.prog 26 #[.slice a n c, .string ⟨#[47]⟩] w fun e w' => e = .returned (.string (strL (Lib.join xs [47]))) ∧ Below w.heap.size w w' := by
  have hl := hx.len
  by_cases h0 : n = 0
  · subst h0
    obtain rfl : xs = [] := List.eq_nil_of_length_eq_zero hl
    refine (Try.strings_Join_none a c ⟨#[47]⟩ w).mono ?_
    rintro e w' ⟨rfl, rfl⟩
    exact ⟨rfl, Below.refl _ _⟩
  · obtain ⟨b, o, rfl, hb, hc⟩ := hx.2.2 h0
    have hroom := hx.room
    have htl := Pth.total_len xs
    have hm : (xs.map strL).map (·.data.toList) = xs := by
      rw [List.map_map]
      conv => rhs; rw [← List.map_id xs]
      apply List.map_congr_left
      intro x _
      rfl
    have hjl : (Lib.join xs [47]).length ≤ 1000000 := by
      have h1 := Pth.join_slashed xs (by intro e; subst e; simp at hl; omega)
      have h2 := Pth.slashed_len xs
      rw [← h1, List.length_cons] at h2
      omega
    have h := Try.strings_Join b o c (xs.map strL) ⟨#[47]⟩ w (fun j x hj => by
      rw [List.getElem?_map] at hj
      cases hk : xs[j]? with
      | none => rw [hk] at hj; cases hj
      | some y =>
        rw [hk] at hj
        injection hj with hj
        subst hj
        obtain ⟨hjl, hje⟩ := List.getElem?_eq_some_iff.1 hk
        rw [hc j hjl, hje, strV_eq]) hb (by rw [List.length_map]; omega) (by rw [List.length_map]; omega) (by rw [hm]; show (Lib.join xs [47]).length ≤ _; omega)
    rw [hm, List.length_map, hl] at h
    exact h
set_option maxHeartbeats 1000000 in
theorem join_calls (a : Option Addr) (n c : Nat) (xs : List (List UInt8)) (w : World) (hx : Arr strV w w.heap.size a n xs) (hnc : n ≤ c) (ht : Pth.total xs ≤ 1000000) :
    Calls Try.prog 16 #[.slice a n c] w (JoinR xs w) := by
  have HX := Lib.hid hx
  have HL := Lib.hid hx.len
  have HM := Lib.hid (fun x (h : x ∈ xs) => Pth.total_mem h)
  have htl := Pth.total_len xs
  have hn : n ≤ 1000000 := by rw [← hx.len]; omega
  have hjc := Lib.hid (sjoin_calls a n c xs w hx hnc ht)
  have HJ := Lib.hid (show Pth.joinP xs = if xs.all Pth.nameB then (if 16 < xs.length then ([], 30) else (47 :: Lib.join xs [47], 0)) else ([], 31) from rfl)
  have hjl : (Lib.join xs [47]).length ≤ 1000000 := by
    by_cases e : xs = []
    · subst e; decide
    · have h1 := Pth.join_slashed xs e
      have h2 := Pth.slashed_len xs
      rw [← h1, List.length_cons] at h2
      omega
  unfold JoinR
  generalize Pth.joinP xs = J at *
  generalize Lib.join xs [47] = S at *
  clear hx
  go_enter Try.func16, Try.ntmps16
  go_wp2
  go_loop [5, 6, 9] (fun _ _ i => ∃ k : Nat, k ≤ n ∧ i = .int .i64 k ∧ (xs.take k).all Pth.nameB = true) (fun _ _ i => n - (intOf i).toNat)
  case atStart => exact ⟨0, by omega, rfl, rfl⟩
  case round =>
    obtain ⟨k, hk, rfl, hall⟩ := hrel
    have HA := Lib.hid hall
    clear hall
    by_cases hlt : k < n
    · obtain ⟨b1, o1, hk1, rfl, hbl1, hc1⟩ := HX.out.atv hlt
      rw [strV_eq] at hc1
      have HS := Lib.hid (Pth.all_snoc xs k hk1)
      have HMem := Lib.hid (List.getElem_mem hk1)
      have hxl := HM.out _ (List.getElem_mem hk1)
      have hnc2 := Lib.hid (name_calls xs[k] w (by omega))
      generalize xs[k] = x at *
      cases hxn : Pth.nameB x
      · rw [show Pth.nameE x = 31 by unfold Pth.nameE; rw [hxn]; rfl] at hnc2
        have hj := Lib.hid (show J = ([], 31) by
          rw [HJ.out, if_neg]
          intro h
          have := List.all_eq_true.1 h x HMem.out
          rw [hxn] at this
          cases this)
        clear hxn
        go_wp2_with (go_at_call 22; refine hnc2.out.mono ?_; rintro e w' ⟨rfl, rfl⟩)
        go_ret2
        rw [hj.out]
        exact ⟨rfl, Below.refl _ _⟩
      · rw [show Pth.nameE x = 0 by unfold Pth.nameE; rw [hxn]; rfl] at hnc2
        rw [hxn] at HS
        clear hxn
        go_wp2_with (go_at_call 22; refine hnc2.out.mono ?_; rintro e w' ⟨rfl, rfl⟩)
        go_round
        case rel => exact ⟨k + 1, by omega, by go_num, by rw [HS.out, HA.out]; rfl⟩
        case measure => simp [intOf]; omega
    · obtain rfl : k = n := by omega
      have hal := Lib.hid (show xs.all Pth.nameB = true by have := HA.out; rw [List.take_of_length_le (by rw [HL.out]; omega)] at this; exact this)
      by_cases h16 : 16 < k
      · have hj := Lib.hid (show J = ([], 30) by rw [HJ.out, if_pos hal.out, HL.out, if_pos h16])
        have g1 : decide (16 < (k : Int)) = true := decide_eq_true (by omega)
        go_wp2
        go_ret2
        rw [hj.out]
        exact ⟨rfl, Below.refl _ _⟩
      · have hj := Lib.hid (show J = (47 :: S, 0) by rw [HJ.out, if_pos hal.out, HL.out, if_neg h16])
        have g1 : decide (16 < (k : Int)) = false := decide_eq_false (by omega)
        go_wp2_with (go_at_call 26; refine hjc.out.mono ?_; rintro e w1 ⟨rfl, hb⟩; have HB := Lib.hid hb; clear hb)
        go_ret2
        rw [hj.out]
        exact ⟨by rw [show strL (47 :: S) = strL [47] ++ strL S from (strL_append [47] S).symm]; rfl, HB.out⟩
set_option maxHeartbeats 1000000 in
theorem refJoin_calls (a : Option Addr) (n c : Nat) (xs : List (List UInt8)) (w : World) (hx : Arr strV w w.heap.size a n xs) (ht : Pth.total xs ≤ 1000000) :
    Calls Try.prog 19 #[.slice a n c] w (JoinR xs w) := by
  have HX := Lib.hid hx
  have HL := Lib.hid hx.len
  have HM := Lib.hid (fun x (h : x ∈ xs) => Pth.total_mem h)
  have htl := Pth.total_len xs
  have hn : n ≤ 1000000 := by rw [← hx.len]; omega
  have HJ := Lib.hid (show Pth.joinP xs = if xs.all Pth.nameB then (if 16 < xs.length then ([], 30) else (47 :: Lib.join xs [47], 0)) else ([], 31) from rfl)
  have HJS := Lib.hid (show (xs = [] → 47 :: Lib.join xs [47] = [47]) ∧ (xs ≠ [] → 47 :: Lib.join xs [47] = Pth.slashed xs) from ⟨fun e => by subst e; rfl, Pth.join_slashed xs⟩)
  have HT := Lib.hid (fun k => (Pth.slashed_len (xs.take k)))
  unfold JoinR
  generalize Pth.joinP xs = J at *
  generalize Lib.join xs [47] = S at *
  clear hx
  go_enter Try.func19, Try.ntmps19
  go_wp2
  go_loop [4, 5] (fun s i => ∃ k : Nat, k ≤ n ∧ i = .int .i64 k ∧ s = .string (strL (Pth.slashed (xs.take k))) ∧ (xs.take k).all Pth.nameB = true ∧ (Pth.slashed (xs.take k)).length ≤ 1000000) (fun _ i => n - (intOf i).toNat)
  case atStart => exact ⟨0, by omega, rfl, rfl, rfl, by simp [Pth.slashed]⟩
  case round =>
    obtain ⟨k, hk, rfl, rfl, hall, hsl⟩ := hrel
    have HA := Lib.hid hall
    clear hall
    by_cases hlt : k < n
    · obtain ⟨b1, o1, hk1, rfl, hbl1, hc1⟩ := HX.out.atv hlt
      rw [strV_eq] at hc1
      have HS := Lib.hid (Pth.all_snoc xs k hk1)
      have HF := Lib.hid (Pth.slashed_snoc xs k hk1)
      have HMem := Lib.hid (List.getElem_mem hk1)
      have hxl := HM.out _ (List.getElem_mem hk1)
      have hsl2 := Lib.hid (show (Pth.slashed (xs.take (k + 1))).length ≤ 1000000 by
        rw [Pth.slashed_len]
        have h1 : ∀ (l : List (List UInt8)) (j : Nat), Pth.total (l.take j) ≤ Pth.total l := by
          intro l
          induction l with
          | nil => intro j; simp [Pth.total]
          | cons y t ih =>
            intro j
            cases j with
            | zero => simp [Pth.total]
            | succ j => rw [List.take_succ_cons, Pth.total, Pth.total]; have := ih j; omega
        exact Nat.le_trans (h1 xs (k + 1)) ht)
      have hnc2 := Lib.hid (refName_calls xs[k] w (by omega))
      generalize xs[k] = x at *
      generalize Pth.slashed (xs.take k) = F at *
      cases hxn : Pth.nameB x
      · rw [show Pth.nameE x = 31 by unfold Pth.nameE; rw [hxn]; rfl] at hnc2
        have hj := Lib.hid (show J = ([], 31) by
          rw [HJ.out, if_neg]
          intro h
          have := List.all_eq_true.1 h x HMem.out
          rw [hxn] at this
          cases this)
        clear hxn
        go_wp2_with (go_at_call 24; refine hnc2.out.mono ?_; rintro e w' ⟨rfl, rfl⟩)
        go_ret2
        rw [hj.out]
        exact ⟨rfl, Below.refl _ _⟩
      · rw [show Pth.nameE x = 0 by unfold Pth.nameE; rw [hxn]; rfl] at hnc2
        rw [hxn] at HS
        clear hxn
        go_wp2_with (go_at_call 24; refine hnc2.out.mono ?_; rintro e w' ⟨rfl, rfl⟩)
        go_round
        case rel => exact ⟨k + 1, by omega, by go_num, by rw [HF.out, show F ++ 47 :: x = F ++ [47] ++ x by simp, ← strL_append, ← strL_append]; rfl, by rw [HS.out, HA.out]; rfl, hsl2.out⟩
        case measure => simp [intOf]; omega
    · obtain rfl : k = n := by omega
      have hal := Lib.hid (show xs.all Pth.nameB = true by have := HA.out; rw [List.take_of_length_le (by rw [HL.out]; omega)] at this; exact this)
      have htk := Lib.hid (show xs.take k = xs from List.take_of_length_le (by rw [HL.out]; omega))
      by_cases h16 : 16 < k
      · have hj := Lib.hid (show J = ([], 30) by rw [HJ.out, if_pos hal.out, HL.out, if_pos h16])
        have g1 : decide (16 < (k : Int)) = true := decide_eq_true (by omega)
        go_wp2
        go_ret2
        rw [hj.out]
        exact ⟨rfl, Below.refl _ _⟩
      · have hj := Lib.hid (show J = (47 :: S, 0) by rw [HJ.out, if_pos hal.out, HL.out, if_neg h16])
        have g1 : decide (16 < (k : Int)) = false := decide_eq_false (by omega)
        by_cases h0 : k = 0
        · subst h0
          have he := Lib.hid (HJS.out.1 (List.eq_nil_of_length_eq_zero HL.out))
          go_wp2
          go_ret2
          rw [hj.out, he.out]
          exact ⟨rfl, Below.refl _ _⟩
        · have g2 : ((k : Int) == 0) = false := by rw [beq_eq_false_iff_ne]; omega
          have he := Lib.hid (HJS.out.2 (by intro e; have := HL.out; rw [e] at this; simp at this; omega))
          clear h0
          go_wp2
          go_ret2
          rw [hj.out, he.out]
          exact ⟨by rw [htk.out]; rfl, Below.refl _ _⟩
end Go.Proofs.Ytnfkbndakdkieaa
