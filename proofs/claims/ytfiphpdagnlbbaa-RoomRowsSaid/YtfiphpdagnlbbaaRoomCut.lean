/-
  room.Cut: slices.IndexFunc and slices.DeleteFunc at its closure; the reference's Same.
-/
import Derived.Test.YtfiphpdagnlbbaaRoomClr
import Derived.Test.YtfiphpdagnlbbaaRoomRefW
namespace Go.Proofs.Ytfiphpdagnlbbaa
open Go.RowKit

theorem cutFn_calls (x n : Int) (NB : Nat) (w : World) (h : w.cell? ⟨NB, 0, none⟩ = some (.int .i64 n)) :
    Calls Try.prog 38 #[.int .i64 x, .pointer (some ⟨NB, 0, none⟩)] w fun e w' => e = .returned (.bool (decide (n ≤ x))) ∧ w = w' := by
  cases hd : decide (n ≤ x)
  · go_enter Try.func38, Try.ntmps38
    go_wp2
    go_ret
    exact ⟨rfl, rfl⟩
  · go_enter Try.func38, Try.ntmps38
    go_wp2
    go_ret
    exact ⟨rfl, rfl⟩
/-- The first place whose number is not below n, or -1. -/
def firstGe (xs : List Int) (n : Int) : Int := if (xs.takeWhile (fun x => decide (x < n))).length < xs.length then ((xs.takeWhile (fun x => decide (x < n))).length : Nat) else -1
theorem firstGe_at {xs : List Int} {n : Int} {k : Nat} (hk : k < xs.length) (h : ∀ j (hj : j < xs.length), j < k → xs[j] < n) (hx : n ≤ xs[k]) : firstGe xs n = k := by
  have e : (xs.takeWhile (fun x => decide (x < n))).length = k := by
    have h1 : xs = xs.take k ++ xs[k] :: xs.drop (k + 1) := by rw [← List.drop_eq_getElem_cons hk, List.take_append_drop]
    have h2 : ∀ x ∈ xs.take k, (fun x => decide (x < n)) x = true := fun x hx => by
      obtain ⟨i, hi, rfl⟩ := List.getElem_of_mem hx
      rw [List.length_take] at hi
      rw [List.getElem_take]
      exact decide_eq_true (h i (by omega) (by omega))
    rw [h1, List.takeWhile_append_of_pos h2, List.takeWhile_cons_of_neg (by simpa using hx), List.append_nil, List.length_take]
    omega
  unfold firstGe
  rw [e, if_pos hk]
theorem firstGe_no {xs : List Int} {n : Int} (h : ∀ j (hj : j < xs.length), xs[j] < n) : firstGe xs n = -1 := by
  have e : xs.takeWhile (fun x => decide (x < n)) = xs := by
    have h2 : ∀ x ∈ xs, (fun x => decide (x < n)) x = true := fun x hx => by
      obtain ⟨i, hi, rfl⟩ := List.getElem_of_mem hx
      exact decide_eq_true (h i hi)
    have := List.takeWhile_append_of_pos (l₁ := xs) (l₂ := []) h2
    simpa using this
  unfold firstGe
  rw [e, if_neg (Nat.lt_irrefl _)]
set_option maxHeartbeats 2000000 in
theorem indexFn_calls (a : Option Addr) (l c : Nat) (xs : List Int) (n : Int) (NB : Nat) (w : World) (hx : Arr intV w w.heap.size a l xs) (h : w.cell? ⟨NB, 0, none⟩ = some (.int .i64 n)) :
    Calls Try.prog 44 #[.slice a l c, .func (.func 38) #[] #[.pointer (some ⟨NB, 0, none⟩)]] w fun e w' => e = .returned (.int .i64 (firstGe xs n)) ∧ w = w' := by
  have HX := Lib.hid hx
  have HL := Lib.hid hx.len
  have hroom := hx.room
  have HC := Lib.hid (fun x => cutFn_calls x n NB w h)
  clear hx h
  go_enter Try.func44, Try.ntmps44
  go_wp2
  go_loop [5, 8] (fun _ i => ∃ k : Nat, k ≤ l ∧ i = .int .i64 k ∧ ∀ j (hj : j < xs.length), j < k → xs[j] < n) (fun _ i => l - (intOf i).toNat)
  case atStart => exact ⟨0, by omega, rfl, fun j _ h => absurd h (by omega)⟩
  case round =>
    obtain ⟨k, hk, rfl, hall⟩ := hrel
    have HAll := Lib.hid hall
    clear hall
    by_cases hlt : k < l
    · obtain ⟨b, o, hk', rfl, _, hcx⟩ := HX.out.atI (k := k) hlt
      have g0 : (0 : Int) ≤ (k : Int) := by omega
      have g1 : (k : Int) < (l : Int) := by omega
      by_cases hge : n ≤ xs[k]
      · have HF := Lib.hid (firstGe_at hk' HAll.out hge)
        have hd := decide_eq_true hge
        generalize xs[k] = x at *
        go_wp2_with fail
        refine (HC.out _).mono ?_
        rintro e w_ ⟨rfl, rfl⟩
        rw [hd]
        go_wp2
        go_ret
        exact ⟨by rw [HF.out]; rfl, rfl⟩
      · have HAll2 := Lib.hid (show ∀ j (hj : j < xs.length), j < k + 1 → xs[j] < n from fun j hj h => by
          by_cases e : j = k
          · subst e; omega
          · exact HAll.out j hj (by omega))
        have hd := decide_eq_false hge
        generalize xs[k] = x at *
        go_wp2_with fail
        refine (HC.out _).mono ?_
        rintro e w_ ⟨rfl, rfl⟩
        rw [hd]
        go_wp2
        go_round
        case rel => exact ⟨k + 1, by omega, by go_num, HAll2.out⟩
        case measure => simp [intOf]; omega
    · have HF := Lib.hid (firstGe_no (xs := xs) (n := n) (fun j hj => HAll.out j hj (by have := HL.out; omega)))
      have g1 : decide ((k : Int) < (l : Int)) = false := decide_eq_false (by omega)
      go_wp2
      go_ret
      exact ⟨by rw [HF.out]; rfl, rfl⟩
theorem cutL_all {l : List Int} {n : Int} (h : ∀ x ∈ l, x < n) : Room.cutL l n = l := List.filter_eq_self.2 fun x hx => decide_eq_true (h x hx)
theorem firstGe_cases (xs : List Int) (n : Int) : (Room.cutL xs n = xs ∧ firstGe xs n = -1) ∨ ∃ k, ∃ _ : k < xs.length, Room.cutL (xs.take (k + 1)) n = xs.take k ∧ firstGe xs n = k := by
  by_cases h : ∀ j (hj : j < xs.length), xs[j] < n
  · left
    exact ⟨cutL_all fun x hx => by obtain ⟨i, hi, rfl⟩ := List.getElem_of_mem hx; exact h i hi, firstGe_no h⟩
  · right
    have h2 : ∃ k, ∃ hk : k < xs.length, n ≤ xs[k] ∧ ∀ j (hj : j < xs.length), j < k → xs[j] < n := by
      induction xs with
      | nil => exact absurd (fun j hj => absurd hj (by simp)) h
      | cons y t ih =>
        by_cases hy : y < n
        · have ht : ¬ ∀ j (hj : j < t.length), t[j] < n := fun ht => h fun j hj => by
            cases j with
            | zero => exact hy
            | succ j => exact ht j (by simpa using hj)
          obtain ⟨k, hk, h1, h2⟩ := ih ht
          refine ⟨k + 1, by simpa using hk, by simpa using h1, fun j hj hjk => ?_⟩
          cases j with
          | zero => exact hy
          | succ j => exact h2 j (by simpa using hj) (by omega)
        · exact ⟨0, by simp, by simpa using hy, fun j _ hjk => absurd hjk (by omega)⟩
    obtain ⟨k, hk, h1, h2⟩ := h2
    refine ⟨k, hk, ?_, firstGe_at hk h2 h1⟩
    rw [List.take_succ_eq_append_getElem hk, cutL_snoc, if_neg (by omega)]
    exact cutL_all fun x hx => by
      obtain ⟨i, hi, rfl⟩ := List.getElem_of_mem hx
      rw [List.length_take] at hi
      rw [List.getElem_take]
      exact h2 i (by omega) (by omega)
/-- What stands in the row behind k rounds of DeleteFunc: m numbers are kept. -/
def DelAt (xs : List Int) (n : Int) (l k m : Nat) (ys : List Int) : Prop := ys.length = l ∧ ys.take m = Room.cutL (xs.take k) n ∧ ys.drop k = xs.drop k ∧ m < k ∧ k ≤ l
theorem DelAt.elem {xs ys : List Int} {n : Int} {l k m : Nat} (h : DelAt xs n l k m ys) (hx : xs.length = l) (hk : k < l) : ∃ (h1 : k < ys.length) (h2 : k < xs.length), ys[k] = xs[k] := by
  obtain ⟨h1, _, h3, _⟩ := h
  refine ⟨by omega, by omega, ?_⟩
  have e := congrArg List.head? h3
  rw [List.head?_drop, List.head?_drop, List.getElem?_eq_getElem (by omega), List.getElem?_eq_getElem (by omega)] at e
  exact Option.some.inj e
theorem drop_more {xs ys : List Int} {k : Nat} (h : ys.drop k = xs.drop k) : ys.drop (k + 1) = xs.drop (k + 1) := by
  rw [← List.drop_drop, ← List.drop_drop, h]
theorem DelAt.skip {xs ys : List Int} {n : Int} {l k m : Nat} (h : DelAt xs n l k m ys) (hk : k < xs.length) (hx : xs.length = l) (hn : n ≤ xs[k]) : DelAt xs n l (k + 1) m ys := by
  obtain ⟨h1, h2, h3, h4, h5⟩ := h
  refine ⟨h1, ?_, drop_more h3, by omega, by omega⟩
  rw [List.take_succ_eq_append_getElem hk, cutL_snoc, if_neg (by omega), h2]
theorem DelAt.put {xs ys : List Int} {n : Int} {l k m : Nat} (h : DelAt xs n l k m ys) (hk : k < xs.length) (hx : xs.length = l) (hn : xs[k] < n) : DelAt xs n l (k + 1) (m + 1) (ys.set m xs[k]) := by
  obtain ⟨h1, h2, h3, h4, h5⟩ := h
  refine ⟨by rw [List.length_set]; exact h1, ?_, ?_, by omega, by omega⟩
  · rw [List.take_succ_eq_append_getElem hk, cutL_snoc, if_pos hn, ← h2, List.take_succ_eq_append_getElem (by rw [List.length_set]; omega)]
    rw [List.getElem_set_self, List.take_set_of_le (Nat.le_refl _)]
  · rw [List.drop_set_of_lt (by omega)]
    exact drop_more h3
set_option maxHeartbeats 2000000 in
theorem deleteFn_calls (v : Value) (xs : List Int) (n : Int) (base NB : Nat) (w : World) (h : Own intV 3 w base v xs) (hl : xs.length ≤ 1000000) (hNB : NB < base) (_hbase : base ≤ w.heap.size) (hc : w.cell? ⟨NB, 0, none⟩ = some (.int .i64 n)) :
    Calls Try.prog 37 #[v, .func (.func 38) #[] #[.pointer (some ⟨NB, 0, none⟩)]] w fun e w' => ∃ v', e = .returned v' ∧ Own intV 3 w' base v' (Room.cutL xs n) ∧ Below base w w' := by
  obtain ⟨l, hll⟩ : ∃ l, l = xs.length := ⟨_, rfl⟩
  rw [← hll] at hl
  obtain ⟨a, c, rfl, hlc⟩ := h.formN (n := l) hll.symm
  have HO0 := Lib.hid h
  have HI := Lib.hid (indexFn_calls a l c xs n NB w (h.arr (by omega)) hc)
  have HL := Lib.hid hll
  have HC0 := Lib.hid hc
  clear h hll hc
  rcases firstGe_cases xs n with ⟨h1, h2⟩ | ⟨k0, hk0, h1, h2⟩
  · have HR := Lib.hid h1
    rw [h2] at HI
    clear h1 h2
    go_enter Try.func37, Try.ntmps37
    go_wp2_with fail
    refine (HI.out).mono ?_
    rintro e w_ ⟨rfl, rfl⟩
    go_wp2
    go_ret
    exact ⟨_, rfl, by rw [HR.out]; exact HO0.out, Below.refl _ _⟩
  · rw [h2] at HI
    have hk1 : k0 < l := by rw [HL.out]; exact hk0
    have HD0 := Lib.hid (show DelAt xs n l (k0 + 1) k0 xs from ⟨HL.out.symm, h1.symm, rfl, by omega, by omega⟩)
    have hne : ((k0 : Int) == -1) = false := by rw [beq_eq_false_iff_ne]; omega
    obtain ⟨g, rfl, hgb, hgl⟩ := HO0.out.addr (by rw [← HL.out]; omega)
    clear h1 h2 hk0
    go_enter Try.func37, Try.ntmps37
    go_wp2_with fail
    refine (HI.out).mono ?_
    rintro e w_ ⟨rfl, rfl⟩
    go_wp2
    go_loopw [5, 6, 7] (fun i j _ wr => ∃ (k m : Nat) (ys : List Int), i = .int .i64 m ∧ j = .int .i64 k ∧ DelAt xs n l k m ys ∧ Own intV 3 wr base (.slice (some ⟨g, 0, none⟩) l c) ys ∧ Below base w wr) (fun _ j _ _ => l - (intOf j).toNat)
    case atStart => exact ⟨k0 + 1, k0, xs, rfl, by go_num, HD0.out, HO0.out, Below.refl _ _⟩
    case round =>
      obtain ⟨k, m, ys, rfl, rfl, hd, ho, hb⟩ := hrel
      have HD := Lib.hid hd
      have HO := Lib.hid ho
      have HB := Lib.hid hb
      have HCf := Lib.hid (fun x => cutFn_calls x n NB wr ((hb.cell (p := ⟨NB, 0, none⟩) hNB).trans HC0.out))
      have hmk := hd.2.2.2.1
      have hkl := hd.2.2.2.2
      clear hd ho hb
      by_cases hlt : k < l
      · obtain ⟨e1, e2, e3⟩ := HD.out.elem HL.out.symm hlt
        have hcell := (HO.out.cellg e1).1
        have hm1 : m < ys.length := by omega
        obtain ⟨hcm, hfm⟩ := HO.out.cellg hm1
        have g0 : (0 : Int) ≤ (k : Int) := by omega
        have g1 : (k : Int) < (l : Int) := by omega
        have g2 : (0 : Int) ≤ (m : Int) := by omega
        have g3 : (m : Int) < (l : Int) := by omega
        rw [e3, intV_eq] at hcell
        clear e3
        by_cases hge : n ≤ xs[k]
        · have HD2 := Lib.hid (HD.out.skip e2 HL.out.symm hge)
          have hdd := decide_eq_true hge
          generalize xs[k] = x at *
          clear hcm hfm e1 hm1
          go_wp2_with fail
          refine (HCf.out _).mono ?_
          rintro e w_ ⟨rfl, rfl⟩
          rw [hdd]
          go_wp2
          go_roundw
          case rel => exact ⟨k + 1, m, ys, rfl, by go_num, HD2.out, HO.out, HB.out⟩
          case measure => simp [intOf]; omega
        · have HD2 := Lib.hid (HD.out.put e2 HL.out.symm (by omega))
          have hdd := decide_eq_false hge
          have HO2 := Lib.hid (HO.out.set m xs[k])
          rw [intV_eq] at HO2
          generalize xs[k] = x at *
          generalize ys[m] = z at *
          clear e1 hm1
          go_wp2_with fail
          refine (HCf.out _).mono ?_
          rintro e w_ ⟨rfl, rfl⟩
          rw [hdd]
          go_wp2
          go_roundw
          case rel => exact ⟨k + 1, m + 1, _, by go_num, by go_num, HD2.out, HO2.out, HB.out.setCell (p := ⟨g, m, none⟩) hgb _⟩
          case measure => simp [intOf]; omega
      · obtain rfl : k = l := by omega
        have hml : m ≤ k := by omega
        have hcf := fun u => cutI_from (some ⟨g, 0, none⟩) k c m hml u
        have hct := fun u => cutI_to (some ⟨g, 0, none⟩) k c m (by omega) u
        obtain ⟨w2, hclr, ho2, hb2⟩ := run_clearIP (w := wr) (off := m) (dl := k - m) (dc := c - m) rfl HO.out (by omega) (by omega)
        have g1 : decide ((k : Int) < (k : Int)) = false := decide_eq_false (by omega)
        have HR := Lib.hid (show Own intV 3 w2 base (.slice (some ⟨g, 0, none⟩) m c) (Room.cutL xs n) by
          have h9 := HD.out.2.1
          rw [List.take_of_length_le (l := xs) (by rw [← HL.out]; exact Nat.le_refl _)] at h9
          have h10 := ho2.cut (m := m) (by simp only [List.length_append, List.length_take, List.length_replicate, List.length_drop, HD.out.1]; omega)
          rw [List.append_assoc, List.take_append_of_le_length (by rw [List.length_take, HD.out.1]; omega), List.take_take, Nat.min_self, h9] at h10
          exact h10)
        have HB2 := Lib.hid (HB.out.trans hb2)
        clear ho2 hb2
        generalize cutA (some ⟨g, 0, none⟩) c m = ad at *
        go_wp2
        go_ret
        exact ⟨_, rfl, HR.out, HB2.out⟩
theorem cut_calls (a : Option Addr) (l c : Nat) (xs : List Int) (n : Int) (w : World) (hx : Arr intV w w.heap.size a l xs) (hl : l ≤ 1000000) :
    Calls Try.prog 23 #[.slice a l c, .int .i64 n] w (FreshI (Room.cutL xs n) w) := by
  have hb0 := (Below.refl w.heap.size w).alloc (Nat.le_refl w.heap.size) (.cells #[.int .i64 n] 3)
  have HCl := Lib.hid (cloneI_calls a l c xs _ (hx.on hb0) hl)
  have bk := Lib.hid (Blk.new w 3 #[.int .i64 n])
  have HB0 := Lib.hid hb0
  have HL := Lib.hid hx.len
  have hsz : (w.alloc (.cells #[.int .i64 n] 3)).heap.size = w.heap.size + 1 := by simp
  clear hx hb0
  go_enter Try.func23, Try.ntmps23
  go_wp2_with fail
  refine HCl.out.mono ?_
  rintro e w1 ⟨⟨v, rfl, ho⟩, hb⟩
  have HD := Lib.hid (deleteFn_calls v xs n _ w.heap.size w1 ho (by rw [HL.out]; exact hl) (by rw [hsz]; omega) hb.size ((bk.out.belowHere hb).cellv (i := 0) rfl))
  have HB1 := Lib.hid (HB0.out.then_ hb)
  have hs := hb.size
  clear ho hb
  go_wp2_with fail
  refine HD.out.mono ?_
  rintro e w2 ⟨v2, rfl, ho, hb⟩
  have HO := Lib.hid (ho.mono (base' := w.heap.size) (by omega))
  have HB2 := Lib.hid (HB1.out.trans (hb.mono (by omega)))
  clear ho hb
  go_wp2
  go_ret
  exact ⟨_, rfl, HO.out, HB2.out⟩
set_option maxHeartbeats 2000000 in
/-- Same: two rows that are the same. -/
theorem sameI_yes (a b : Option Addr) (l c d : Nat) (xs : List Int) (w : World) (hx : Arr intV w w.heap.size a l xs) (hy : Arr intV w w.heap.size b l xs) :
    Calls Try.prog 20 #[.slice a l c, .slice b l d] w fun e w' => e = .returned (.bool true) ∧ Below w.heap.size w w' := by
  have HX := Lib.hid hx
  have HY := Lib.hid hy
  have HL := Lib.hid hx.len
  have hroom := hx.room
  clear hx hy
  go_enter Try.func20, Try.ntmps20
  go_wp2
  go_loopw [5] (fun i wr => ∃ k : Nat, k ≤ l ∧ i = .int .i64 k ∧ Below w.heap.size w wr) (fun i _ => l - (intOf i).toNat)
  case atStart => exact ⟨0, by omega, rfl, Below.refl _ _⟩
  case round =>
    obtain ⟨k, hk, rfl, hb⟩ := hrel
    have HB := Lib.hid hb
    by_cases hlt : k < l
    · obtain ⟨b1, o1, hk', rfl, _, hc1⟩ := (HX.out.on hb).atI (k := k) hlt
      obtain ⟨b2, o2, _, rfl, _, hc2⟩ := (HY.out.on hb).atI (k := k) hlt
      have g0 : (0 : Int) ≤ (k : Int) := by omega
      have g1 : (k : Int) < (l : Int) := by omega
      generalize xs[k] = x at *
      clear hb
      go_wp2
      go_quiet (fail)
      have HB2 := Lib.hid (HB.out.trans (show Below w.heap.size wr (wr.drewN nq) from ⟨rfl, rfl, rfl, Nat.le_refl _, fun _ _ => rfl⟩))
      go_wp2
      go_roundw
      case rel => exact ⟨k + 1, by omega, by go_num, HB2.out⟩
      case measure => simp [intOf]; omega
    · have g1 : decide ((k : Int) < (l : Int)) = false := decide_eq_false (by omega)
      clear hb
      go_wp2
      go_ret
      exact ⟨rfl, HB.out⟩
end Go.Proofs.Ytfiphpdagnlbbaa
