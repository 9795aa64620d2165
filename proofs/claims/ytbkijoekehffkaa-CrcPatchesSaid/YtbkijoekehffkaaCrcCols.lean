/-
  The matrices of crc: columns.on, columns.twice, byteStep, shifted.
-/
import Derived.Test.YtbkijoekehffkaaCrcMore
namespace Go.Proofs.Ytbkijoekehffkaa
open Go.RowKit

/-- The cells of a matrix's columns. -/
def colsA (M : Nat → BitVec 32) : Array Value := ((List.range 32).map fun i => Value.int .u32 ((M i).toNat : Int)).toArray
theorem colsA_size (M : Nat → BitVec 32) : (colsA M).size = 32 := by simp [colsA]
theorem colsA_at (M : Nat → BitVec 32) (i : Nat) (h : i < 32) : (colsA M)[i]? = some (.int .u32 ((M i).toNat : Int)) := by
  simp [colsA, h]
theorem colsA_set (M : Nat → BitVec 32) (k : Nat) (x : BitVec 32) : (colsA M).setIfInBounds k (.int .u32 (x.toNat : Int)) = colsA (fun i => if i = k then x else M i) := by
  simp only [colsA, List.setIfInBounds_toArray]
  congr 1
  apply List.ext_getElem (by simp)
  intro i h1 h2
  rw [List.getElem_set]
  simp only [List.getElem_map, List.getElem_range]
  by_cases h : k = i
  · rw [if_pos h, if_pos h.symm]
  · rw [if_neg h, if_neg (fun e => h (Eq.symm e))]
theorem colsA_congr {M N : Nat → BitVec 32} (h : ∀ i, i < 32 → M i = N i) : colsA M = colsA N := by
  unfold colsA
  congr 1
  apply List.map_congr_left
  intro i hi
  rw [h i (List.mem_range.1 hi)]
theorem colsA_one (M : Nat → BitVec 32) : (colsA M).all (·.oneCell') = true := by
  rw [Array.all_eq_true_iff_forall_mem]
  intro v hv
  simp only [colsA, List.mem_toArray, List.mem_map] at hv
  obtain ⟨i, _, rfl⟩ := hv
  rfl

set_option maxHeartbeats 400000 in
theorem on_calls (b t : Nat) (M : Nat → BitVec 32) (r : BitVec 32) (w : World) (hM : Blk w b t (colsA M)) :
    Calls Try.prog 28 #[.pointer (some ⟨b, 0, none⟩), .int .u32 r.toNat] w fun e w' => e = .returned (.int .u32 (Crc.on M r).toNat) ∧ w = w' := by
  have HM := Lib.hid hM
  clear hM
  go_enter Try.func28, Try.ntmps28
  go_wp2
  go_loop [5, 6, 7] (fun x _ i => ∃ k : Nat, k ≤ 32 ∧ i = .int .i64 k ∧ x = .int .u32 (Crc.onN M r k).toNat) (fun _ _ i => 32 - (intOf i).toNat)
  case atStart =>
    exact ⟨0, by omega, rfl, rfl⟩
  case round =>
    obtain ⟨k, hk, rfl, rfl⟩ := hrel
    by_cases hlt : k < 32
    · have hc := HM.out.cellv (colsA_at M k hlt)
      have h1 := bits_and_u32 (r >>> k) 1#32
      rw [← shr_u32] at h1
      by_cases hb : (r >>> k) &&& 1#32 = 1#32
      · have ht : (bits BinOp.and IntKind.u32 ((r.toNat : Int) / (2 : Int) ^ k) 1 == 1) = true := by
          rw [beq_iff_eq]; refine (Eq.trans ?_ h1).trans ?_
          · simp
          · rw [hb]; rfl
        clear h1
        have HB := Lib.hid hb
        clear hb
        go_wp2
        go_round
        case rel => exact ⟨k + 1, by omega, by go_num, by rw [bits_xor_u32, Crc.onN, if_pos HB.out]⟩
        case measure => simp [intOf]; omega
      · have ht : (bits BinOp.and IntKind.u32 ((r.toNat : Int) / (2 : Int) ^ k) 1 == 1) = false := by
          rw [beq_eq_false_iff_ne]; intro hh; apply hb
          have h3 := h1.symm.trans (Eq.trans (by simp) hh)
          exact BitVec.eq_of_toNat_eq (by have e : (1#32).toNat = 1 := rfl; rw [e]; omega)
        clear h1
        have HB := Lib.hid hb
        clear hb
        go_wp2
        go_round
        case rel => exact ⟨k + 1, by omega, by go_num, by rw [Crc.onN, if_neg HB.out]⟩
        case measure => simp [intOf]; omega
    · obtain rfl : k = 32 := by omega
      go_wp2
      go_ret
      exact ⟨rfl, rfl⟩
set_option maxHeartbeats 400000 in
theorem byteStep_calls (w : World) :
    Calls Try.prog 27 #[] w fun e w' => e = .returned (.agg (colsA fun i => Crc.put (1#32 <<< i) 0)) ∧ Below w.heap.size w w' := by
  go_enter Try.func27, Try.ntmps27
  go_wp2
  go_loopw [2, 3] (fun _ i wr => ∃ k : Nat, k ≤ 32 ∧ i = .int .i64 k ∧ Blk wr w.heap.size 49 (colsA fun _ => 0#32) ∧ Blk wr (w.heap.size + 1) 49 (colsA fun i => if i < k then Crc.put (1#32 <<< i) 0 else 0#32) ∧ Below w.heap.size w wr) (fun _ i _ => 32 - (intOf i).toNat)
  case atStart =>
    refine ⟨0, by omega, rfl, (Blk.new w _ _).alloc _, ?_, ((Below.refl _ _).alloc (Nat.le_refl _) _).alloc (by simp) _⟩
    have := Blk.new (w.alloc (.cells (colsA fun _ => 0#32) 49)) 49 (colsA fun _ => 0#32)
    rw [World.size_alloc] at this
    exact this
  case round =>
    obtain ⟨k, hk, rfl, h0, h1, hb⟩ := hrel
    have H0 := Lib.hid h0
    have H1 := Lib.hid h1
    have HB := Lib.hid hb
    clear h0 h1 hb
    by_cases hlt : k < 32
    · have hc := H1.out.cellv (colsA_at _ k hlt)
      have hf := H1.out.frozen k
      have hs : (2 : Int) ^ k % 4294967296 = ((1#32 <<< k).toNat : Int) := by
        rw [BitVec.toNat_shiftLeft, Nat.shiftLeft_eq]; simp
      go_wp2_with fail
      rw [hs]
      refine (put_calls (1#32 <<< k) 0 _).mono ?_
      rintro e w' ⟨rfl, rfl⟩
      clear hs
      go_wp2
      go_roundw
      case rel =>
        refine ⟨k + 1, by omega, by go_num, H0.out.far (by simp) _, ?_, HB.out.setCell (by simp) _⟩
        have h3 := H1.out.set k (.int .u32 ((Crc.put (1#32 <<< k) 0).toNat : Int))
        rw [colsA_set] at h3
        have e : (colsA fun i => if i = k then Crc.put (1#32 <<< k) 0 else if i < k then Crc.put (1#32 <<< i) 0 else 0#32) = colsA fun i => if i < k + 1 then Crc.put (1#32 <<< i) 0 else 0#32 := by
          refine colsA_congr fun i _ => ?_
          by_cases hik : i = k
          · subst hik; rw [if_pos rfl, if_pos (by omega)]
          · rw [if_neg hik]
            by_cases hl : i < k
            · rw [if_pos hl, if_pos (by omega)]
            · rw [if_neg hl, if_neg (by omega)]
        rw [e] at h3
        exact h3
      case measure => simp [intOf]; omega
    · obtain rfl : k = 32 := by omega
      have e : (colsA fun i => if i < 32 then Crc.put (1#32 <<< i) 0 else 0#32) = colsA fun i => Crc.put (1#32 <<< i) 0 :=
        colsA_congr fun i hi => if_pos hi
      have H2 : Hid (Blk wr (w.heap.size + 1) 49 (colsA fun i => Crc.put (1#32 <<< i) 0)) := Lib.hid (e ▸ H1.out)
      clear e H1
      go_wp2_with (first | refine wpList_load_blk rfl _ _ rfl (w.heap.size + 1) rfl _ _ _ H2.out Try.underlying49 rfl (by rw [colsA_size]; kernel_rfl) ?_ | refine wpList_store_blk rfl rfl _ _ _ rfl w.heap.size _ rfl rfl _ _ H0.out (by simp [colsA_size]) (by rw [colsA_size]; kernel_rfl) (colsA_one _) ?_)
      refine bodyPost_ret (results_cell_row rfl _ _ w.heap.size _ _ _ _ rfl (H0.out.row _) Try.underlying49 rfl (by rw [colsA_size]; kernel_rfl)) rfl ⟨rfl, HB.out.setRow_ (Nat.le_refl _) _⟩

set_option maxHeartbeats 400000 in
theorem twice_calls (b t : Nat) (M : Nat → BitVec 32) (w : World) (hM : Blk w b t (colsA M)) :
    Calls Try.prog 29 #[.pointer (some ⟨b, 0, none⟩)] w fun e w' => e = .returned (.agg (colsA fun i => Crc.on M (M i))) ∧ Below w.heap.size w w' := by
  have hlt := hM.lt
  have HM := Lib.hid hM
  clear hM
  go_enter Try.func29, Try.ntmps29
  go_wp2
  go_loopw [4, 5] (fun _ i wr => ∃ k : Nat, k ≤ 32 ∧ i = .int .i64 k ∧ Blk wr w.heap.size 49 (colsA fun _ => 0#32) ∧ Blk wr (w.heap.size + 1) 49 (colsA fun i => if i < k then Crc.on M (M i) else 0#32) ∧ Below w.heap.size w wr) (fun _ i _ => 32 - (intOf i).toNat)
  case atStart =>
    refine ⟨0, by omega, rfl, (Blk.new w _ _).alloc _, ?_, ((Below.refl _ _).alloc (Nat.le_refl _) _).alloc (by simp) _⟩
    have := Blk.new (w.alloc (.cells (colsA fun _ => 0#32) 49)) 49 (colsA fun _ => 0#32)
    rw [World.size_alloc] at this
    exact this
  case round =>
    obtain ⟨k, hk, rfl, h0, h1, hb⟩ := hrel
    have H0 := Lib.hid h0
    have H1 := Lib.hid h1
    have HB := Lib.hid hb
    have HM1 := Lib.hid (HM.out.below hb hlt)
    clear h0 h1 hb
    by_cases hlt : k < 32
    · have hc := H1.out.cellv (colsA_at _ k hlt)
      have hf := H1.out.frozen k
      have hcm := HM1.out.cellv (colsA_at _ k hlt)
      go_wp2_with (go_at_call 28; refine (on_calls b t M _ _ HM1.out).mono ?_; rintro e w' ⟨rfl, rfl⟩)
      go_roundw
      case rel =>
        refine ⟨k + 1, by omega, by go_num, H0.out.far (by simp) _, ?_, HB.out.setCell (by simp) _⟩
        have h3 := H1.out.set k (.int .u32 ((Crc.on M (M k)).toNat : Int))
        rw [colsA_set] at h3
        have e : (colsA fun i => if i = k then Crc.on M (M k) else if i < k then Crc.on M (M i) else 0#32) = colsA fun i => if i < k + 1 then Crc.on M (M i) else 0#32 := by
          refine colsA_congr fun i _ => ?_
          by_cases hik : i = k
          · subst hik; rw [if_pos rfl, if_pos (by omega)]
          · rw [if_neg hik]
            by_cases hl : i < k
            · rw [if_pos hl, if_pos (by omega)]
            · rw [if_neg hl, if_neg (by omega)]
        rw [e] at h3
        exact h3
      case measure => simp [intOf]; omega
    · obtain rfl : k = 32 := by omega
      have e : (colsA fun i => if i < 32 then Crc.on M (M i) else 0#32) = colsA fun i => Crc.on M (M i) :=
        colsA_congr fun i hi => if_pos hi
      have H2 : Hid (Blk wr (w.heap.size + 1) 49 (colsA fun i => Crc.on M (M i))) := Lib.hid (e ▸ H1.out)
      clear e H1
      go_wp2_with (first | refine wpList_load_blk rfl _ _ rfl (w.heap.size + 1) rfl _ _ _ H2.out Try.underlying49 rfl (by rw [colsA_size]; kernel_rfl) ?_ | refine wpList_store_blk rfl rfl _ _ _ rfl w.heap.size _ rfl rfl _ _ H0.out (by simp [colsA_size]) (by rw [colsA_size]; kernel_rfl) (colsA_one _) ?_)
      refine bodyPost_ret (results_cell_row rfl _ _ w.heap.size _ _ _ _ rfl (H0.out.row _) Try.underlying49 rfl (by rw [colsA_size]; kernel_rfl)) rfl ⟨rfl, HB.out.setRow_ (Nat.le_refl _) _⟩

theorem shift_odd (p m : Nat) (y z : BitVec 32) (h : Crc.zer (p * m) y = z) (hm : m % 2 = 1) : Crc.zer ((p + p) * (m / 2)) (Crc.zer p y) = z := by
  rw [← h, ← Crc.zer_add]; congr 1
  have e : m = 2 * (m / 2) + 1 := by omega
  generalize m / 2 = q at e
  subst e
  rw [Nat.mul_add, Nat.add_mul, Nat.mul_one, Nat.two_mul, Nat.mul_add]; omega
theorem shift_even (p m : Nat) (y z : BitVec 32) (h : Crc.zer (p * m) y = z) (hm : ¬ m % 2 = 1) : Crc.zer ((p + p) * (m / 2)) y = z := by
  rw [← h]; congr 1
  have e : m = 2 * (m / 2) := by omega
  generalize m / 2 = q at e
  subst e
  rw [Nat.two_mul, Nat.mul_add, Nat.add_mul]

set_option maxHeartbeats 1000000 in
theorem shifted_calls (r : BitVec 32) (n : Nat) (w : World) (hn : n ≤ 1073741824) :
    Calls Try.prog 26 #[.int .u32 r.toNat, .int .i64 n] w fun e w' => e = .returned (.int .u32 (Crc.zer n r).toNat) ∧ Below w.heap.size w w' := by
  go_enter Try.func26, Try.ntmps26
  go_wp2_with fail
  refine (byteStep_calls _).mono ?_
  rintro e w1 ⟨rfl, hb1⟩
  have hs1 := hb1.size
  have HB1 := Lib.hid hb1
  clear hb1
  have hal : ∀ u : World, Blk (u.alloc (.cells (colsA fun _ => 0#32) 49)) u.heap.size 49 (colsA fun _ => 0#32) := fun u => Blk.new u _ _
  go_wp2_with (refine wpList_store_blk rfl rfl _ _ _ rfl w1.heap.size _ rfl rfl 49 (colsA fun _ => 0#32) (hal w1) (by simp [colsA_size]) (by rw [colsA_size]; kernel_rfl) (colsA_one _) ?_)
  have hb2 : Below w.heap.size w ((w1.alloc (.cells (colsA fun _ => 0#32) 49)).setRow w1.heap.size (colsA fun i => Crc.put (1#32 <<< i) 0)) := (HB1.out.alloc hs1 _).setRow_ hs1 _
  have hk2 : Blk ((w1.alloc (.cells (colsA fun _ => 0#32) 49)).setRow w1.heap.size (colsA fun i => Crc.put (1#32 <<< i) 0)) w1.heap.size 49 (colsA fun i => Crc.put (1#32 <<< i) 0) := (hal w1).row _
  have HB2 := Lib.hid hb2
  have HK2 := Lib.hid hk2
  clear hb2 hk2 hal
  go_loopw [0, 1] (fun x i wr => ∃ (m p : Nat) (y : BitVec 32) (M : Nat → BitVec 32), m ≤ n ∧ i = .int .i64 m ∧ x = .int .u32 y.toNat ∧ Crc.zer (p * m) y = Crc.zer n r ∧ Crc.Is M p ∧ Blk wr w1.heap.size 49 (colsA M) ∧ Below w.heap.size w wr) (fun _ i _ => (intOf i).toNat)
  case atStart =>
    exact ⟨n, 1, r, _, Nat.le_refl _, rfl, rfl, by rw [Nat.one_mul], Crc.Is.step, HK2.out, HB2.out⟩
  case round =>
    obtain ⟨m, p, y, M, hm, rfl, rfl, hz, hM, hk, hb⟩ := hrel
    clear HB2 HK2
    have HZ := Lib.hid hz
    have HM := Lib.hid hM
    have HK := Lib.hid hk
    have HB := Lib.hid hb
    clear hz hM hk hb
    by_cases hlt : 0 < m
    · have ho := i64_odd m (by omega)
      by_cases hodd : m % 2 = 1
      · have ht : (bits BinOp.and IntKind.i64 (m : Int) 1 == 1) = true := by rw [beq_iff_eq, ho, hodd]; rfl
        have HO := Lib.hid hodd
        clear ho hodd
        go_wp2_with fail
        refine (on_calls w1.heap.size 49 M y _ HK.out).mono ?_
        rintro e w2 ⟨rfl, rfl⟩
        go_wp2_with fail
        refine (twice_calls w1.heap.size 49 M _ HK.out).mono ?_
        rintro e w3 ⟨rfl, hb3⟩
        have HK3 := Lib.hid (HK.out.belowHere hb3)
        have HB3 := Lib.hid hb3
        clear hb3
        go_wp2_with (refine wpList_store_blk rfl rfl _ _ _ rfl w1.heap.size _ rfl rfl 49 (colsA M) HK3.out (by simp [colsA_size]) (by rw [colsA_size]; kernel_rfl) (colsA_one _) ?_)
        go_roundw
        case rel =>
          refine ⟨m / 2, p + p, Crc.zer p y, _, by omega, by go_num, by rw [HM.out.on], shift_odd p m y _ HZ.out HO.out, HM.out.twice, HK3.out.row _, ?_⟩
          exact (HB.out.trans (HB3.out.mono HB.out.size)).setRow_ hs1 _
        case measure => simp [intOf]; omega
      · have ht : (bits BinOp.and IntKind.i64 (m : Int) 1 == 1) = false := by rw [beq_eq_false_iff_ne, ho]; omega
        have HO := Lib.hid hodd
        clear ho hodd
        go_wp2_with fail
        refine (twice_calls w1.heap.size 49 M _ HK.out).mono ?_
        rintro e w3 ⟨rfl, hb3⟩
        have HK3 := Lib.hid (HK.out.belowHere hb3)
        have HB3 := Lib.hid hb3
        clear hb3
        go_wp2_with (refine wpList_store_blk rfl rfl _ _ _ rfl w1.heap.size _ rfl rfl 49 (colsA M) HK3.out (by simp [colsA_size]) (by rw [colsA_size]; kernel_rfl) (colsA_one _) ?_)
        go_roundw
        case rel =>
          refine ⟨m / 2, p + p, y, _, by omega, by go_num, rfl, shift_even p m y _ HZ.out HO.out, HM.out.twice, HK3.out.row _, ?_⟩
          exact (HB.out.trans (HB3.out.mono HB.out.size)).setRow_ hs1 _
        case measure => simp [intOf]; omega
    · obtain rfl : m = 0 := by omega
      go_wp2
      go_ret
      refine ⟨congrArg (fun z : BitVec 32 => Ending.returned (Value.int .u32 (z.toNat : Int))) ?_, HB.out⟩
      exact HZ.out
end Go.Proofs.Ytbkijoekehffkaa
