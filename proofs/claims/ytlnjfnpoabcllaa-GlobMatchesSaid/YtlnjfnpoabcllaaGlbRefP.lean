/-
  The reference's Parts, Same and Size; many (the texts of the path layer, for this seat).
-/
import Derived.Test.YtlnjfnpoabcllaaPathParts
import Derived.Test.YtlnjfnpoabcllaaStrs
import Derived.Test.YtlnjfnpoabcllaaIterOwn
import Derived.WalkMore
import Derived.Deep.QuietTactic
import Derived.BigQuiet
namespace Go.Proofs.Ytlnjfnpoabcllaa
open Go.RowKit

section
attribute [local go_sem] strL_cut
set_option maxHeartbeats 2000000 in
theorem refParts_calls (l : List UInt8) (w : World) (hl : l.length ≤ 100000) :
    Calls Try.prog 31 #[.string (strL l)] w fun e w' => (∃ v, e = .returned v ∧ Own strV 9 w' w.heap.size v (Pth.parts l)) ∧ Below w.heap.size w w' := by
  go_enter Try.func31, Try.ntmps31
  go_wp2
  go_loopw [3, 4, 5] (fun v f i wr => ∃ (xs : List (List UInt8)) (fr k : Nat), f = .int .i64 fr ∧ i = .int .i64 k ∧ fr ≤ k ∧ k ≤ l.length + 1 ∧ xs.length ≤ k ∧ (if k ≤ l.length then Pth.parts l = xs ++ Pth.partsA (Pth.cur l fr k) (l.drop k) else Pth.parts l = xs) ∧ Own strV 9 wr w.heap.size v xs ∧ Below w.heap.size w wr) (fun _ _ i _ => l.length + 1 - (intOf i).toNat)
  case atStart => exact ⟨[], 0, 0, rfl, rfl, by omega, by omega, by simp, by rw [if_pos (by omega)]; rfl, Own.nil _ _, Below.refl _ _⟩
  case round =>
    obtain ⟨xs, fr, k, rfl, rfl, hf, hk, hxk, hp, ho, hb⟩ := hrel
    have HP := Lib.hid hp
    have HO := Lib.hid ho
    have HB := Lib.hid hb
    have hsz := hb.size
    obtain ⟨a1, c1, rfl, _⟩ := ho.formN (n := xs.length) rfl
    clear hp ho hb
    by_cases hend : k = l.length + 1
    · subst hend
      go_wp2
      go_ret
      have hp := HP.out
      rw [if_neg (by omega)] at hp
      exact ⟨⟨_, rfl, by rw [hp]; exact HO.out⟩, HB.out⟩
    have hk2 : k ≤ l.length := by omega
    rw [if_pos hk2] at HP
    have HC := Lib.hid (Pth.opt_cur l fr k hf hk2)
    have hcc := Lib.hid (show (l.drop fr).take (k - fr) = Pth.cur l fr k from rfl)
    by_cases hlast : k = l.length
    · have hn := Lib.hid (show Pth.parts l = xs ++ Pth.opt (Pth.cur l fr k) by have := HP.out; rw [hlast, List.drop_length] at this; rw [hlast]; exact this)
      have g5 : ((k : Int) == (l.length : Int)) = true := by simp [hlast]
      have hlk := Lib.hid (show ¬ (k + 1 ≤ l.length) by omega)
      by_cases hlt : fr < k
      · rw [if_pos hlt] at HC
        have g6 : decide ((fr : Int) < (k : Int)) = true := decide_eq_true (by omega)
        clear hlast
        go_wp2_with (at_builtin; refine wpList_litS rfl _ _ rfl w.heap.size _ xs rfl HO.out 1 [Pth.cur l fr k] rfl rfl rfl (by omega) hsz ?_; intro v2 w2 HO2 hb2)
        go_roundw
        case rel => exact ⟨_, k + 1, k + 1, by go_num, by go_num, by omega, by omega, by simp; omega, by rw [if_neg hlk.out, hn.out, HC.out], HO2.out, HB.out.trans hb2.out⟩
        case measure => simp [intOf]; omega
      · rw [if_neg hlt] at HC
        have g6 : decide ((fr : Int) < (k : Int)) = false := decide_eq_false (by omega)
        clear hlast
        go_wp2
        go_roundw
        case rel => exact ⟨_, k + 1, k + 1, by go_num, by go_num, by omega, by omega, by omega, by rw [if_neg hlk.out, hn.out, HC.out, List.append_nil], HO.out, HB.out⟩
        case measure => simp [intOf]; omega
    · have hkl : k < l.length := by omega
      have g5 : ((k : Int) == (l.length : Int)) = false := by rw [beq_eq_false_iff_ne]; omega
      have HA := Lib.hid (Pth.partsA_at (Pth.cur l fr k) l k hkl)
      have HS := Lib.hid (Pth.cur_snoc l fr k hf hkl)
      have hb9 := (l[k]).toNat_lt
      by_cases hc : l[k] = 47
      · rw [if_pos hc] at HA
        have g7 : ((l[k].toNat : Int) == 47) = true := by rw [hc]; rfl
        have hn := Lib.hid (show Pth.parts l = (xs ++ Pth.opt (Pth.cur l fr k)) ++ Pth.partsA (Pth.cur l (k + 1) (k + 1)) (l.drop (k + 1)) by rw [HP.out, HA.out, Pth.cur_nil, List.append_assoc])
        clear hc hlast hend
        by_cases hlt : fr < k
        · rw [if_pos hlt] at HC
          have g6 : decide ((fr : Int) < (k : Int)) = true := decide_eq_true (by omega)
          go_wp2_with (at_builtin; refine wpList_litS rfl _ _ rfl w.heap.size _ xs rfl HO.out 1 [Pth.cur l fr k] rfl rfl rfl (by omega) hsz ?_; intro v2 w2 HO2 hb2)
          go_roundw
          case rel => exact ⟨_, k + 1, k + 1, by go_num, by go_num, by omega, by omega, by simp; omega, by rw [if_pos (by omega), hn.out, HC.out], HO2.out, HB.out.trans hb2.out⟩
          case measure => simp [intOf]; omega
        · rw [if_neg hlt] at HC
          have g6 : decide ((fr : Int) < (k : Int)) = false := decide_eq_false (by omega)
          go_wp2
          go_roundw
          case rel => exact ⟨_, k + 1, k + 1, by go_num, by go_num, by omega, by omega, by omega, by rw [if_pos (by omega), hn.out, HC.out, List.append_nil], HO.out, HB.out⟩
          case measure => simp [intOf]; omega
      · rw [if_neg hc] at HA
        have g7 : ((l[k].toNat : Int) == 47) = false := by
          rw [beq_eq_false_iff_ne]
          intro e
          apply hc
          apply UInt8.toNat_inj.1
          show l[k].toNat = 47
          omega
        have hn := Lib.hid (show Pth.parts l = xs ++ Pth.partsA (Pth.cur l fr (k + 1)) (l.drop (k + 1)) by rw [HP.out, HA.out, HS.out])
        clear hc hlast hend
        go_wp2
        go_roundw
        case rel => exact ⟨_, fr, k + 1, rfl, by go_num, by omega, by omega, by omega, by rw [if_pos (by omega), hn.out], HO.out, HB.out⟩
        case measure => simp [intOf]; omega
end
set_option maxHeartbeats 1000000 in
theorem same_texts (a b : Option Addr) (n m c d : Nat) (xs ys : List (List UInt8)) (w : World) (hx : Arr strV w w.heap.size a n xs) (hy : Arr strV w w.heap.size b m ys) :
    Calls Try.prog 13 #[.slice a n c, .slice b m d] w fun e w' => e = .returned (.bool (decide (xs = ys))) ∧ Below w.heap.size w w' := by
  have HX := Lib.hid hx
  have HY := Lib.hid hy
  have hn := hx.room
  have lx := hx.len
  have ly := hy.len
  by_cases hl : n = m
  · subst hl
    have HD := Lib.hid (fun (h : ¬ xs = ys) => (decide_eq_false h : decide (xs = ys) = false))
    have HE := Lib.hid (fun (h : xs = ys) => (decide_eq_true h : decide (xs = ys) = true))
    have LX := Lib.hid lx
    have LY := Lib.hid ly
    generalize decide (xs = ys) = D at *
    clear hx hy lx ly
    go_enter Try.func13, Try.ntmps13
    go_wp2
    go_loopw [5] (fun i wr => ∃ k : Nat, k ≤ n ∧ i = .int .i64 k ∧ xs.take k = ys.take k ∧ Below w.heap.size w wr) (fun i _ => n - (intOf i).toNat)
    case atStart => exact ⟨0, by omega, rfl, rfl, Below.refl _ _⟩
    case round =>
      obtain ⟨k, hk, rfl, ht, hb⟩ := hrel
      have HT := Lib.hid ht
      have HB := Lib.hid hb
      clear ht hb
      by_cases hlt : k < n
      · obtain ⟨b1, o1, hk1, rfl, hbl1, hc1⟩ := (HX.out.below HB.out).atv hlt
        obtain ⟨b2, o2, hk2, rfl, hbl2, hc2⟩ := (HY.out.below HB.out).atv hlt
        rw [strV_eq] at hc1 hc2
        have t1 := Lib.hid (List.take_succ_eq_append_getElem hk1)
        have t2 := Lib.hid (List.take_succ_eq_append_getElem hk2)
        have HG := Lib.hid (fun (h : xs = ys) => (by subst h; rfl : xs[k] = ys[k]))
        have g1 : (0 : Int) ≤ (k : Int) := by omega
        have g2 : (k : Int) < (n : Int) := by omega
        generalize xs[k] = x at *
        generalize ys[k] = y at *
        by_cases he : x = y
        · subst he
          have g3 : (x == x) = true := by simp
          go_wp2_with fail
          go_quiet (fail)
          go_wp2
          go_roundw
          case rel => exact ⟨k + 1, by omega, by go_num, by rw [t1.out, t2.out, HT.out], HB.out.trans (below_drewN _ _)⟩
          case measure => simp [intOf]; omega
        · have g3 : (x == y) = false := by simpa using he
          have hd := Lib.hid (HD.out (fun h => he (HG.out h)))
          clear he
          go_wp2_with fail
          go_quiet (fail)
          go_wp2
          go_ret
          exact ⟨by rw [hd.out]; rfl, HB.out.trans (below_drewN _ _)⟩
      · obtain rfl : k = n := by omega
        have hd := Lib.hid (HE.out (by
          have h := HT.out
          rw [List.take_of_length_le (by rw [LX.out]; omega), List.take_of_length_le (by rw [LY.out]; omega)] at h
          exact h))
        go_wp2
        go_ret
        exact ⟨by rw [hd.out]; rfl, HB.out⟩
  · have g1 : ((n : Int) == (m : Int)) = false := by rw [beq_eq_false_iff_ne]; omega
    have g2 : ((n : Int) != (m : Int)) = true := by rw [bne_iff_ne]; omega
    rw [decide_eq_false (show ¬ xs = ys from fun e => hl (by rw [← lx, ← ly, e]))]
    clear hx hy lx ly hl
    go_enter Try.func13, Try.ntmps13
    go_wp2
    go_ret
    exact ⟨rfl, Below.refl _ _⟩
namespace Pth
/-- How many texts and bytes a row has. -/
def total : List (List UInt8) → Nat
  | [] => 0
  | x :: t => 1 + x.length + total t
theorem total_snoc (xs : List (List UInt8)) (k : Nat) (h : k < xs.length) : total (xs.take (k + 1)) = total (xs.take k) + 1 + xs[k].length := by
  induction xs generalizing k with
  | nil => simp at h
  | cons x t ih =>
    cases k with
    | zero => simp [total]
    | succ k =>
      rw [List.take_succ_cons, List.take_succ_cons, total, total, ih k (by simpa using h)]
      simp; omega
theorem total_len (xs : List (List UInt8)) : xs.length ≤ total xs := by
  induction xs with
  | nil => simp [total]
  | cons x t ih => simp [total]; omega
theorem total_mem {xs : List (List UInt8)} {x : List UInt8} (h : x ∈ xs) : x.length ≤ total xs := by
  induction xs with
  | nil => cases h
  | cons y t ih =>
    rcases List.mem_cons.1 h with h | h
    · subst h; simp [total]; omega
    · have := ih h; simp [total]; omega
end Pth
def SizeNR (xs : List (List UInt8)) (w : World) (e : Ending) (w' : World) : Prop := ∃ m : Nat, e = .returned (.int .i64 m) ∧ (m ≤ 400 → m = Pth.total xs) ∧ w = w'
set_option maxHeartbeats 1000000 in
theorem sizeN_calls (a : Option Addr) (n c : Nat) (xs : List (List UInt8)) (w : World) (hx : Arr strV w w.heap.size a n xs) (hm : ∀ x ∈ xs, x.length ≤ 140737488351232) :
    Calls Try.prog 24 #[.slice a n c, .int .i64 400] w (SizeNR xs w) := by
  have HX := Lib.hid hx
  have HM := Lib.hid hm
  have hroom := hx.room
  have HL := Lib.hid hx.len
  clear hx hm
  go_enter Try.func24, Try.ntmps24
  go_wp2
  go_loop [5, 6] (fun s i => ∃ k m : Nat, k ≤ n ∧ i = .int .i64 k ∧ s = .int .i64 m ∧ m = Pth.total (xs.take k) ∧ m ≤ 140737488360000) (fun _ i => n - (intOf i).toNat)
  case atStart => exact ⟨0, 0, by omega, rfl, rfl, rfl, by omega⟩
  case round =>
    obtain ⟨k, m, hk, rfl, rfl, hmm, hmb⟩ := hrel
    have HMM := Lib.hid hmm
    clear hmm
    by_cases hlt : k < n
    · obtain ⟨b1, o1, hk1, rfl, hbl1, hc1⟩ := HX.out.atv hlt
      rw [strV_eq] at hc1
      have HS := Lib.hid (Pth.total_snoc xs k hk1)
      have hxl := HM.out _ (List.getElem_mem hk1)
      generalize xs[k] = x at *
      by_cases hle : m ≤ 400
      · have g1 : decide ((m : Int) ≤ 400) = true := decide_eq_true (by omega)
        go_wp2
        go_round
        case rel => exact ⟨k + 1, m + 1 + x.length, by omega, by go_num, by go_num, by rw [HS.out, ← HMM.out], by omega⟩
        case measure => simp [intOf]; omega
      · have g1 : decide ((m : Int) ≤ 400) = false := decide_eq_false (by omega)
        go_wp2
        go_ret
        exact ⟨m, rfl, fun h => absurd h hle, rfl⟩
    · obtain rfl : k = n := by omega
      go_wp2
      go_ret
      exact ⟨m, rfl, fun _ => by rw [HMM.out, List.take_of_length_le (by rw [HL.out]; omega)], rfl⟩
/-- Whether names are more than the laws look at. -/
def manyB (l : List (List UInt8)) : Prop := 400 < Pth.total l ∨ 20 < l.length
instance (l : List (List UInt8)) : Decidable (manyB l) := inferInstanceAs (Decidable (_ ∨ _))
def ManyR (xs : List (List UInt8)) (n : Nat) (w : World) (e : Ending) (w' : World) : Prop := ∃ b : Bool, e = .returned (.bool b) ∧ (b = false → Pth.total xs ≤ 400 ∧ n ≤ 20) ∧ w = w'
theorem many_calls (a : Option Addr) (n c : Nat) (xs : List (List UInt8)) (w : World) (hx : Arr strV w w.heap.size a n xs) (hm : ∀ x ∈ xs, x.length ≤ 140737488351232) :
    Calls Try.prog 9 #[.slice a n c] w (ManyR xs n w) := by
  have HC := Lib.hid (sizeN_calls a n c xs w hx hm)
  clear hx hm
  go_enter Try.func9, Try.ntmps9
  go_wp2_with fail
  refine HC.out.mono ?_
  rintro e w_ ⟨m, rfl, hm, rfl⟩
  have HM := Lib.hid hm
  clear hm
  by_cases h1 : 400 < m
  · have g1 : decide (400 < (m : Int)) = true := decide_eq_true (by omega)
    go_wp2_with fail
    go_ret
    exact ⟨true, rfl, (fun h => by cases h), rfl⟩
  · have g1 : decide (400 < (m : Int)) = false := decide_eq_false (by omega)
    by_cases h2 : 20 < n
    · have g2 : decide (20 < (n : Int)) = true := decide_eq_true (by omega)
      go_wp2_with fail
      go_ret
      exact ⟨true, rfl, (fun h => by cases h), rfl⟩
    · have g2 : decide (20 < (n : Int)) = false := decide_eq_false (by omega)
      go_wp2_with fail
      go_ret
      exact ⟨false, rfl, fun _ => ⟨by rw [← HM.out (by omega)]; omega, by omega⟩, rfl⟩
end Go.Proofs.Ytlnjfnpoabcllaa
