/-
  The reference's Size and Inside; path.Inside; slices.Equal at texts.
-/
import Derived.Test.YtnfkbndakdkieaaPathSplit
namespace Go.Proofs.Ytnfkbndakdkieaa
open Go.RowKit

namespace Pth
/-- How many texts and bytes a row has. -/
def total : List (List UInt8) → Nat
  | [] => 0
  | x :: t => 1 + x.length + total t
theorem total_snoc (xs : List (List UInt8)) (k : Nat) (h : k < xs.length) : total (xs.take (k + 1)) = total (xs.take k) + 1 + xs[k].length := by
  induction xs generalizing k with
  | nil => simp at h
  | cons x t ih =>
    cases k with
    | zero => simp [total]
    | succ k =>
      rw [List.take_succ_cons, List.take_succ_cons, total, total, ih k (by simpa using h)]
      simp; omega
theorem total_len (xs : List (List UInt8)) : xs.length ≤ total xs := by
  induction xs with
  | nil => simp [total]
  | cons x t ih => simp [total]; omega
theorem total_mem {xs : List (List UInt8)} {x : List UInt8} (h : x ∈ xs) : x.length ≤ total xs := by
  induction xs with
  | nil => cases h
  | cons y t ih =>
    rcases List.mem_cons.1 h with h | h
    · subst h; simp [total]; omega
    · have := ih h; simp [total]; omega
def insideB (xs ys : List (List UInt8)) : Bool := decide (ys.length < xs.length ∧ xs.take ys.length = ys)
end Pth
def SizeR (xs : List (List UInt8)) (w : World) (e : Ending) (w' : World) : Prop := ∃ m : Nat, e = .returned (.int .i64 m) ∧ (m ≤ 900 → m = Pth.total xs) ∧ w = w'
set_option maxHeartbeats 1000000 in
theorem size_calls (a : Option Addr) (n c : Nat) (xs : List (List UInt8)) (w : World) (hx : Arr strV w w.heap.size a n xs) (hm : ∀ x ∈ xs, x.length ≤ 140737488351232) :
    Calls Try.prog 14 #[.slice a n c, .int .i64 900] w (SizeR xs w) := by
  have HX := Lib.hid hx
  have HM := Lib.hid hm
  have hroom := hx.room
  have HL := Lib.hid hx.len
  clear hx hm
  go_enter Try.func14, Try.ntmps14
  go_wp2
  go_loop [5, 6] (fun s i => ∃ k m : Nat, k ≤ n ∧ i = .int .i64 k ∧ s = .int .i64 m ∧ m = Pth.total (xs.take k) ∧ m ≤ 140737488360000) (fun _ i => n - (intOf i).toNat)
  case atStart => exact ⟨0, 0, by omega, rfl, rfl, rfl, by omega⟩
  case round =>
    obtain ⟨k, m, hk, rfl, rfl, hmm, hmb⟩ := hrel
    have HMM := Lib.hid hmm
    clear hmm
    by_cases hlt : k < n
    · obtain ⟨b1, o1, hk1, rfl, hbl1, hc1⟩ := HX.out.atv hlt
      rw [strV_eq] at hc1
      have HS := Lib.hid (Pth.total_snoc xs k hk1)
      have hxl := HM.out _ (List.getElem_mem hk1)
      generalize xs[k] = x at *
      by_cases hle : m ≤ 900
      · have g1 : decide ((m : Int) ≤ 900) = true := decide_eq_true (by omega)
        go_wp2
        go_round
        case rel => exact ⟨k + 1, m + 1 + x.length, by omega, by go_num, by go_num, by rw [HS.out, ← HMM.out], by omega⟩
        case measure => simp [intOf]; omega
      · have g1 : decide ((m : Int) ≤ 900) = false := decide_eq_false (by omega)
        go_wp2
        go_ret
        exact ⟨m, rfl, fun h => absurd h hle, rfl⟩
    · obtain rfl : k = n := by omega
      go_wp2
      go_ret
      exact ⟨m, rfl, fun _ => by rw [HMM.out, List.take_of_length_le (by rw [HL.out]; omega)], rfl⟩
set_option maxHeartbeats 1000000 in
theorem equal_texts (a b : Option Addr) (n m c d : Nat) (xs ys : List (List UInt8)) (w : World) (hx : Arr strV w w.heap.size a n xs) (hy : Arr strV w w.heap.size b m ys) :
    Calls Try.prog 25 #[.slice a n c, .slice b m d] w fun e w' => e = .returned (.bool (decide (xs = ys))) ∧ Below w.heap.size w w' := by
  have HX := Lib.hid hx
  have HY := Lib.hid hy
  have hn := hx.room
  have lx := hx.len
  have ly := hy.len
  by_cases hl : n = m
  · subst hl
    have HD := Lib.hid (fun (h : ¬ xs = ys) => (decide_eq_false h : decide (xs = ys) = false))
    have HE := Lib.hid (fun (h : xs = ys) => (decide_eq_true h : decide (xs = ys) = true))
    have LX := Lib.hid lx
    have LY := Lib.hid ly
    generalize decide (xs = ys) = D at *
    clear hx hy lx ly
    go_enter Try.func25, Try.ntmps25
    go_wp2
    go_loopw [5, 13] (fun _ i wr => ∃ k : Nat, k ≤ n ∧ i = .int .i64 k ∧ xs.take k = ys.take k ∧ Below w.heap.size w wr) (fun _ i _ => n - (intOf i).toNat)
    case atStart => exact ⟨0, by omega, rfl, rfl, Below.refl _ _⟩
    case round =>
      obtain ⟨k, hk, rfl, ht, hb⟩ := hrel
      have HT := Lib.hid ht
      have HB := Lib.hid hb
      clear ht hb
      by_cases hlt : k < n
      · obtain ⟨b1, o1, hk1, rfl, hbl1, hc1⟩ := (HX.out.below HB.out).atv hlt
        obtain ⟨b2, o2, hk2, rfl, hbl2, hc2⟩ := (HY.out.below HB.out).atv hlt
        rw [strV_eq] at hc1 hc2
        have t1 := Lib.hid (List.take_succ_eq_append_getElem hk1)
        have t2 := Lib.hid (List.take_succ_eq_append_getElem hk2)
        have HG := Lib.hid (fun (h : xs = ys) => (by subst h; rfl : xs[k] = ys[k]))
        have g1 : (0 : Int) ≤ (k : Int) := by omega
        have g2 : (k : Int) < (n : Int) := by omega
        generalize xs[k] = x at *
        generalize ys[k] = y at *
        by_cases he : x = y
        · subst he
          have g3 : (x == x) = true := by simp
          go_wp2_with fail
          go_quiet (fail)
          go_wp2
          go_roundw
          case rel => exact ⟨k + 1, by omega, by go_num, by rw [t1.out, t2.out, HT.out], HB.out.trans (below_drewN _ _)⟩
          case measure => simp [intOf]; omega
        · have g3 : (x == y) = false := by simpa using he
          have hd := Lib.hid (HD.out (fun h => he (HG.out h)))
          clear he
          go_wp2_with fail
          go_quiet (fail)
          go_wp2
          go_ret
          exact ⟨by rw [hd.out]; rfl, HB.out.trans (below_drewN _ _)⟩
      · obtain rfl : k = n := by omega
        have hd := Lib.hid (HE.out (by
          have h := HT.out
          rw [List.take_of_length_le (by rw [LX.out]; omega), List.take_of_length_le (by rw [LY.out]; omega)] at h
          exact h))
        go_wp2
        go_ret
        exact ⟨by rw [hd.out]; rfl, HB.out⟩
  · have g1 : ((n : Int) == (m : Int)) = false := by rw [beq_eq_false_iff_ne]; omega
    have g2 : ((n : Int) != (m : Int)) = true := by rw [bne_iff_ne]; omega
    rw [decide_eq_false (show ¬ xs = ys from fun e => hl (by rw [← lx, ← ly, e]))]
    clear hx hy lx ly hl
    go_enter Try.func25, Try.ntmps25
    go_wp2
    go_ret
    exact ⟨rfl, Below.refl _ _⟩
theorem inside_calls (a b : Option Addr) (n m c d : Nat) (xs ys : List (List UInt8)) (w : World) (hx : Arr strV w w.heap.size a n xs) (hy : Arr strV w w.heap.size b m ys) (hnc : n ≤ c) :
    Calls Try.prog 15 #[.slice a n c, .slice b m d] w fun e w' => e = .returned (.bool (Pth.insideB xs ys)) ∧ Below w.heap.size w w' := by
  have lx := hx.len
  have ly := hy.len
  unfold Pth.insideB
  rw [lx, ly]
  by_cases h : m < n
  · have hc := Lib.hid (equal_texts a b m m c d (xs.take m) ys w (hx.take (by omega)) hy)
    have g1 : decide ((m : Int) < (n : Int)) = true := decide_eq_true (by omega)
    have g2 := cutS_to a n c m (by omega)
    rw [show decide (m < n ∧ xs.take m = ys) = decide (xs.take m = ys) by rw [Bool.eq_iff_iff, decide_eq_true_iff, decide_eq_true_iff]; exact ⟨fun h => h.2, fun h' => ⟨h, h'⟩⟩]
    generalize decide (xs.take m = ys) = D at *
    clear hx hy lx ly
    go_enter Try.func15, Try.ntmps15
    go_wp2_with fail
    refine hc.out.mono ?_
    rintro e w1 ⟨rfl, hb⟩
    have HB := Lib.hid hb
    clear hb
    go_wp2
    exact bodyPost_ret (v := .bool D) (by simp [results, Try.results15, go_sem]) rfl ⟨rfl, HB.out⟩
  · have g1 : decide ((m : Int) < (n : Int)) = false := decide_eq_false (by omega)
    have g2 : decide (m < n) = false := decide_eq_false h
    have g3 : n ≤ m := by omega
    rw [decide_eq_false (fun h' => h h'.1)]
    clear hx hy lx ly h
    go_enter Try.func15, Try.ntmps15
    go_wp2
    go_ret
    exact ⟨rfl, Below.refl _ _⟩
set_option maxHeartbeats 1000000 in
theorem refInside_calls (a b : Option Addr) (n m c d : Nat) (xs ys : List (List UInt8)) (w : World) (hx : Arr strV w w.heap.size a n xs) (hy : Arr strV w w.heap.size b m ys) :
    Calls Try.prog 20 #[.slice a n c, .slice b m d] w fun e w' => e = .returned (.bool (Pth.insideB xs ys)) ∧ Below w.heap.size w w' := by
  have HX := Lib.hid hx
  have HY := Lib.hid hy
  have hroom := hx.room
  have lx := hx.len
  have ly := hy.len
  by_cases hl : m < n
  · have HD := Lib.hid (show (∃ k, k < m ∧ xs[k]? ≠ ys[k]?) → Pth.insideB xs ys = false from by
      rintro ⟨k, hk, hne⟩
      refine decide_eq_false ?_
      rintro ⟨_, e⟩
      apply hne
      rw [← e, ly, List.getElem?_take, if_pos hk])
    have HE := Lib.hid (show xs.take m = ys → Pth.insideB xs ys = true from fun h => decide_eq_true ⟨by omega, by rw [ly]; exact h⟩)
    have LY := Lib.hid ly
    generalize Pth.insideB xs ys = D at *
    have g0 : decide (n ≤ m) = false := decide_eq_false (by omega)
    clear hx hy lx ly
    go_enter Try.func20, Try.ntmps20
    go_wp2
    go_loopw [5] (fun i wr => ∃ k : Nat, k ≤ m ∧ i = .int .i64 k ∧ xs.take k = ys.take k ∧ Below w.heap.size w wr) (fun i _ => m - (intOf i).toNat)
    case atStart => exact ⟨0, by omega, rfl, rfl, Below.refl _ _⟩
    case round =>
      obtain ⟨k, hk, rfl, ht, hb⟩ := hrel
      have HT := Lib.hid ht
      have HB := Lib.hid hb
      clear ht hb
      by_cases hlt : k < m
      · obtain ⟨b1, o1, hk1, rfl, hbl1, hc1⟩ := (HX.out.below HB.out).atv (k := k) (by omega)
        obtain ⟨b2, o2, hk2, rfl, hbl2, hc2⟩ := (HY.out.below HB.out).atv hlt
        rw [strV_eq] at hc1 hc2
        have t1 := Lib.hid (List.take_succ_eq_append_getElem hk1)
        have t2 := Lib.hid (List.take_succ_eq_append_getElem hk2)
        have HG := Lib.hid (fun (h : ¬ xs[k] = ys[k]) => (⟨k, hlt, by rw [List.getElem?_eq_getElem hk1, List.getElem?_eq_getElem hk2]; exact fun e => h (Option.some.inj e)⟩ : ∃ k, k < m ∧ xs[k]? ≠ ys[k]?))
        have g1 : (0 : Int) ≤ (k : Int) := by omega
        have g2 : (k : Int) < (m : Int) := by omega
        have g4 : (k : Int) < (n : Int) := by omega
        generalize xs[k] = x at *
        generalize ys[k] = y at *
        by_cases he : x = y
        · subst he
          have g3 : (x == x) = true := by simp
          go_wp2_with fail
          go_quiet (fail)
          go_wp2
          go_roundw
          case rel => exact ⟨k + 1, by omega, by go_num, by rw [t1.out, t2.out, HT.out], HB.out.trans (below_drewN _ _)⟩
          case measure => simp [intOf]; omega
        · have g3 : (x == y) = false := by simpa using he
          have hd := Lib.hid (HD.out (HG.out he))
          clear he
          go_wp2_with fail
          go_quiet (fail)
          go_wp2
          go_ret
          exact ⟨by rw [hd.out]; rfl, HB.out.trans (below_drewN _ _)⟩
      · obtain rfl : k = m := by omega
        have hd := Lib.hid (HE.out (by
          have h := HT.out
          rw [List.take_of_length_le (l := ys) (by rw [LY.out]; omega)] at h
          exact h))
        go_wp2
        go_ret
        exact ⟨by rw [hd.out]; rfl, HB.out⟩
  · have g0 : decide (n ≤ m) = true := decide_eq_true (by omega)
    have g1 : decide ((n : Int) ≤ (m : Int)) = true := decide_eq_true (by omega)
    rw [show Pth.insideB xs ys = false from decide_eq_false (fun h => hl (by omega))]
    clear hx hy lx ly hl
    go_enter Try.func20, Try.ntmps20
    go_wp2
    go_ret
    exact ⟨rfl, Below.refl _ _⟩
end Go.Proofs.Ytnfkbndakdkieaa
