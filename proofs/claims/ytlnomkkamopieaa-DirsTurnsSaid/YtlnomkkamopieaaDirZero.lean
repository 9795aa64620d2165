/-
  Are all bytes 0? dirs.empty, the reference's zero; slices.Equal at bytes.
-/
import Derived.Test.YtlnomkkamopieaaDirMath
import Derived.Test.YtlnomkkamopieaaStr
import Derived.Test.YtlnomkkamopieaaIterOwn
import Derived.Deep.QuietTactic
import Derived.BigQuiet
namespace Go.Proofs.Ytlnomkkamopieaa
open Go.RowKit

namespace Dir
theorem isZ_take_snoc (b : List UInt8) (k : Nat) (h : k < b.length) : isZ (b.take (k + 1)) = (isZ (b.take k) && (b[k] == 0)) := by
  unfold isZ
  rw [List.take_succ_eq_append_getElem h, List.all_append]; simp
theorem isZ_no {b : List UInt8} {k : Nat} (h : k < b.length) (hk : (b[k] == 0) = false) : isZ b = false := by
  cases hz : isZ b
  · rfl
  · rw [isZ, List.all_eq_true] at hz
    rw [hz _ (List.getElem_mem h)] at hk; cases hk
end Dir
theorem byte0 (c : UInt8) : ((c.toNat : Int) == 0) = (c == 0) := by
  rw [Bool.eq_iff_iff, beq_iff_eq, beq_iff_eq]
  constructor
  · intro h; apply UInt8.toNat_inj.1; show c.toNat = 0; omega
  · rintro rfl; rfl
theorem nonzero_calls (c : UInt8) (w : World) : Calls Try.prog 39 #[.int .u8 (c.toNat : Int)] w fun e w' => e = .returned (.bool (!(c == 0))) ∧ w = w' := by
  have h := Lib.hid (byte0 c)
  go_enter Try.func39, Try.ntmps39
  go_wp2
  go_ret
  exact ⟨by rw [← h.out]; rfl, rfl⟩
set_option maxHeartbeats 1000000 in
theorem indexNZ_calls (a : Option Addr) (n c : Nat) (b : List UInt8) (w : World) (hx : Bytes w w.heap.size a n b) :
    Calls Try.prog 41 #[.slice a n c, .func (.func 39) #[] #[]] w fun e w' => (∃ r : Int, e = .returned (.int .i64 r) ∧ -1 ≤ r ∧ Dir.isZ b = decide (r < 0)) ∧ w = w' := by
  have hl := hx.len
  have hroom := hx.room
  have HX := Lib.hid hx
  have HL := Lib.hid hl
  clear hx hl
  go_enter Try.func41, Try.ntmps41
  go_wp2
  go_loop [5, 8] (fun _ i => ∃ k : Nat, k ≤ n ∧ i = .int .i64 k ∧ Dir.isZ (b.take k) = true) (fun _ i => n - (intOf i).toNat)
  case atStart => exact ⟨0, by omega, rfl, rfl⟩
  case round =>
    obtain ⟨k, hk, rfl, hz⟩ := hrel
    have HZ := Lib.hid hz
    clear hz
    by_cases hlt : k < n
    · obtain ⟨b1, o1, hk1, rfl, hbl1, hc1⟩ := HX.out.at_ (k := k) hlt
      have hsn := Lib.hid (Dir.isZ_take_snoc b k hk1)
      have hno := Lib.hid (fun h => Dir.isZ_no hk1 h)
      have hcc := Lib.hid (fun w => nonzero_calls b[k] w)
      cases hb : b[k] == 0
      · rw [hb] at hcc hno
        have hno2 := Lib.hid (hno.out rfl)
        clear hno hsn hb
        go_wp2_with fail
        refine (hcc.out _).mono ?_
        rintro e w_ ⟨rfl, rfl⟩
        go_wp2
        go_ret
        exact ⟨⟨k, rfl, by omega, by rw [hno2.out, decide_eq_false (by omega)]⟩, rfl⟩
      · rw [hb] at hcc hsn
        clear hno hb
        go_wp2_with fail
        refine (hcc.out _).mono ?_
        rintro e w_ ⟨rfl, rfl⟩
        go_wp2
        go_round
        case rel => exact ⟨k + 1, by omega, by go_num, by rw [hsn.out, HZ.out]; rfl⟩
        case measure => simp [intOf]; omega
    · obtain rfl : k = n := by omega
      go_wp2
      go_ret
      exact ⟨⟨-1, rfl, by omega, by rw [List.take_of_length_le (by rw [HL.out]; omega)] at HZ; rw [HZ.out]; rfl⟩, rfl⟩
theorem containsNZ_calls (a : Option Addr) (n c : Nat) (b : List UInt8) (w : World) (hx : Bytes w w.heap.size a n b) :
    Calls Try.prog 38 #[.slice a n c, .func (.func 39) #[] #[]] w fun e w' => e = .returned (.bool (!Dir.isZ b)) ∧ w = w' := by
  go_enter Try.func38, Try.ntmps38
  go_wp2_with fail
  refine (indexNZ_calls a n c b _ hx).mono ?_
  rintro e w_ ⟨⟨r, rfl, hr, hz⟩, rfl⟩
  have HZ := Lib.hid hz
  clear hz
  by_cases h0 : r < 0
  · have g1 : decide ((0 : Int) ≤ r) = false := decide_eq_false (by omega)
    rw [decide_eq_true h0] at HZ
    clear h0
    go_wp2
    go_ret
    exact ⟨by rw [HZ.out]; rfl, rfl⟩
  · have g1 : decide ((0 : Int) ≤ r) = true := decide_eq_true (by omega)
    rw [decide_eq_false h0] at HZ
    clear h0
    go_wp2
    go_ret
    exact ⟨by rw [HZ.out]; rfl, rfl⟩
theorem empty_calls (a : Option Addr) (n c : Nat) (b : List UInt8) (w : World) (hx : Bytes w w.heap.size a n b) :
    Calls Try.prog 29 #[.slice a n c] w fun e w' => e = .returned (.bool (Dir.isZ b)) ∧ w = w' := by
  have hc := Lib.hid (containsNZ_calls a n c b w hx)
  clear hx
  generalize Dir.isZ b = D at *
  cases D
  all_goals
    go_enter Try.func29, Try.ntmps29
    go_wp2_with fail
    refine hc.out.mono ?_
    rintro e w_ ⟨rfl, rfl⟩
    go_wp2
    go_ret
    exact ⟨rfl, rfl⟩
set_option maxHeartbeats 1000000 in
theorem zero_calls (a : Option Addr) (n c : Nat) (b : List UInt8) (w : World) (hx : Bytes w w.heap.size a n b) :
    Calls Try.prog 31 #[.slice a n c] w fun e w' => e = .returned (.bool (Dir.isZ b)) ∧ w = w' := by
  have hl := hx.len
  have hroom := hx.room
  have HX := Lib.hid hx
  have HL := Lib.hid hl
  clear hx hl
  go_enter Try.func31, Try.ntmps31
  go_wp2
  go_loop [3] (fun i => ∃ k : Nat, k ≤ n ∧ i = .int .i64 k ∧ Dir.isZ (b.take k) = true) (fun i => n - (intOf i).toNat)
  case atStart => exact ⟨0, by omega, rfl, rfl⟩
  case round =>
    obtain ⟨k, hk, rfl, hz⟩ := hrel
    have HZ := Lib.hid hz
    clear hz
    by_cases hlt : k < n
    · obtain ⟨b1, o1, hk1, rfl, hbl1, hc1⟩ := HX.out.at_ (k := k) hlt
      have hsn := Lib.hid (Dir.isZ_take_snoc b k hk1)
      have hno := Lib.hid (fun h => Dir.isZ_no hk1 h)
      have hb0 := byte0 b[k]
      cases hb : b[k] == 0
      · rw [hb] at hb0 hno
        have hne : ((b[k].toNat : Int) != 0) = true := by unfold bne; rw [hb0]; rfl
        have hno2 := Lib.hid (hno.out rfl)
        clear hno hsn hb
        go_wp2
        go_ret
        exact ⟨by rw [hno2.out]; rfl, rfl⟩
      · rw [hb] at hb0 hsn
        have hne : ((b[k].toNat : Int) != 0) = false := by unfold bne; rw [hb0]; rfl
        clear hno hb
        go_wp2
        go_round
        case rel => exact ⟨k + 1, by omega, by go_num, by rw [hsn.out, HZ.out]; rfl⟩
        case measure => simp [intOf]; omega
    · obtain rfl : k = n := by omega
      go_wp2
      go_ret
      exact ⟨by rw [List.take_of_length_le (by rw [HL.out]; omega)] at HZ; rw [HZ.out]; rfl, rfl⟩
set_option maxHeartbeats 1000000 in
theorem equal_bytes (a b : Option Addr) (n m c d : Nat) (xs ys : List UInt8) (w : World) (hx : Bytes w w.heap.size a n xs) (hy : Bytes w w.heap.size b m ys) :
    Calls Try.prog 30 #[.slice a n c, .slice b m d] w fun e w' => e = .returned (.bool (decide (xs = ys))) ∧ Below w.heap.size w w' := by
  have HX := Lib.hid hx
  have HY := Lib.hid hy
  have hn := hx.room
  have lx := hx.len
  have ly := hy.len
  by_cases hl : n = m
  · subst hl
    have HD := Lib.hid (fun (h : ¬ xs = ys) => (decide_eq_false h : decide (xs = ys) = false))
    have HE := Lib.hid (fun (h : xs = ys) => (decide_eq_true h : decide (xs = ys) = true))
    have LX := Lib.hid lx
    have LY := Lib.hid ly
    generalize decide (xs = ys) = D at *
    clear hx hy lx ly
    go_enter Try.func30, Try.ntmps30
    go_wp2
    go_loopw [5, 13] (fun _ i wr => ∃ k : Nat, k ≤ n ∧ i = .int .i64 k ∧ xs.take k = ys.take k ∧ Below w.heap.size w wr) (fun _ i _ => n - (intOf i).toNat)
    case atStart => exact ⟨0, by omega, rfl, rfl, Below.refl _ _⟩
    case round =>
      obtain ⟨k, hk, rfl, ht, hb⟩ := hrel
      have HT := Lib.hid ht
      have HB := Lib.hid hb
      clear ht hb
      by_cases hlt : k < n
      · obtain ⟨b1, o1, hk1, rfl, hbl1, hc1⟩ := (HX.out.below HB.out).at_ hlt
        obtain ⟨b2, o2, hk2, rfl, hbl2, hc2⟩ := (HY.out.below HB.out).at_ hlt
        have t1 := Lib.hid (List.take_succ_eq_append_getElem hk1)
        have t2 := Lib.hid (List.take_succ_eq_append_getElem hk2)
        have HG := Lib.hid (fun (h : xs = ys) => (by subst h; rfl : xs[k] = ys[k]))
        have g1 : (0 : Int) ≤ (k : Int) := by omega
        have g2 : (k : Int) < (n : Int) := by omega
        generalize xs[k] = x at *
        generalize ys[k] = y at *
        by_cases he : x = y
        · subst he
          have g3 : ((x.toNat : Int) != (x.toNat : Int)) = false := by simp
          go_wp2_with fail
          go_quiet (fail)
          go_wp2
          go_roundw
          case rel => exact ⟨k + 1, by omega, by go_num, by rw [t1.out, t2.out, HT.out], HB.out.trans (below_drewN _ _)⟩
          case measure => simp [intOf]; omega
        · have g3 : ((x.toNat : Int) != (y.toNat : Int)) = true := by
            rw [bne_iff_ne]
            intro h
            exact he (UInt8.toNat_inj.1 (by omega))
          have hd := Lib.hid (HD.out (fun h => he (HG.out h)))
          clear he
          go_wp2_with fail
          go_quiet (fail)
          go_wp2
          go_ret
          exact ⟨by rw [hd.out]; rfl, HB.out.trans (below_drewN _ _)⟩
      · obtain rfl : k = n := by omega
        have hd := Lib.hid (HE.out (by
          have h := HT.out
          rw [List.take_of_length_le (by rw [LX.out]; omega), List.take_of_length_le (by rw [LY.out]; omega)] at h
          exact h))
        go_wp2
        go_ret
        exact ⟨by rw [hd.out]; rfl, HB.out⟩
  · have g1 : ((n : Int) == (m : Int)) = false := by rw [beq_eq_false_iff_ne]; omega
    have g2 : ((n : Int) != (m : Int)) = true := by rw [bne_iff_ne]; omega
    rw [decide_eq_false (show ¬ xs = ys from fun e => hl (by rw [← lx, ← ly, e]))]
    clear hx hy lx ly hl
    go_enter Try.func30, Try.ntmps30
    go_wp2
    go_ret
    exact ⟨rfl, Below.refl _ _⟩
end Go.Proofs.Ytlnomkkamopieaa
