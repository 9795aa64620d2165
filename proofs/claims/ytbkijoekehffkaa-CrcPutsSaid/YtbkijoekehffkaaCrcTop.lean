/-
  crc.Zeros, crc.Patch, crc.Join, the reference's Zeros and Big, and the law file's known.
-/
import Derived.Test.YtbkijoekehffkaaCrcCols
import Derived.Test.YtbkijoekehffkaaBytes
import Derived.Lib.SlBytesConst
namespace Go.Proofs.Ytbkijoekehffkaa
open Go.RowKit

abbrev U32 (x : BitVec 32) : Value := .int .u32 (x.toNat : Int)
abbrev pair (x : Value) (e : Int) : Ending := .returned (.tuple #[x, .int .i64 e])

theorem zeros_bad (s : BitVec 32) (n : Int) (w : World) (h : n < 0 ∨ 1073741824 < n) :
    Calls Try.prog 20 #[.int .u32 s.toNat, .int .i64 n] w fun e w' => e = pair (.int .u32 0) 1 ∧ w = w' := by
  by_cases h0 : n < 0
  · go_enter Try.func20, Try.ntmps20
    go_wp2
    go_ret2
    exact ⟨rfl, rfl⟩
  · have h1 : 1073741824 < n := by omega
    clear h
    go_enter Try.func20, Try.ntmps20
    go_wp2
    go_ret2
    exact ⟨rfl, rfl⟩
theorem zeros_good (s : BitVec 32) (n : Nat) (w : World) (hle : n ≤ 1073741824) :
    Calls Try.prog 20 #[.int .u32 s.toNat, .int .i64 n] w fun e w' => e = pair (U32 (Crc.more s (List.replicate n 0))) 0 ∧ Below w.heap.size w w' := by
  have hn := Lib.hid (notx_u32 s)
  go_enter Try.func20, Try.ntmps20
  go_wp2_with fail
  rw [hn.out]
  refine (shifted_calls (~~~s) n _ hle).mono ?_
  rintro e w1 ⟨rfl, hb⟩
  have HB := Lib.hid hb
  clear hb
  go_wp2
  go_ret2
  refine ⟨?_, HB.out⟩
  exact congrArg (fun z => pair (.int .u32 z) 0) (notx_u32 _)

theorem refZeros_bad (s : BitVec 32) (n : Int) (w : World) (h : n < 0 ∨ 1073741824 < n) :
    Calls Try.prog 21 #[.int .u32 s.toNat, .int .i64 n] w fun e w' => e = pair (.int .u32 0) 1 ∧ w = w' := by
  by_cases h0 : n < 0
  · go_enter Try.func21, Try.ntmps21
    go_wp2
    go_ret2
    exact ⟨rfl, rfl⟩
  · have h1 : 1073741824 < n := by omega
    clear h
    go_enter Try.func21, Try.ntmps21
    go_wp2
    go_ret2
    exact ⟨rfl, rfl⟩
theorem replicate_at {α : Type} (n : Nat) (x : α) (i : Nat) (h : i < (List.replicate n x).length) : (List.replicate n x)[i] = x := List.getElem_replicate h
theorem refZeros_good (s : BitVec 32) (n : Nat) (w : World) (h : n ≤ 1073741824) :
    Calls Try.prog 21 #[.int .u32 s.toNat, .int .i64 n] w fun e w' => e = pair (U32 (Crc.more s (List.replicate n 0))) 0 ∧ Below w.heap.size w w' := by
  obtain ⟨i0, hi, hz0, hz1, hz2⟩ := info_parts infoB
  have hmk : ∀ u : World, (Instr.makeSlice 26 (.int .i64 (n : Int)) (.int .i64 (n : Int))).run Try.prog u =
      .ok (.slice (some ⟨u.heap.size, 0, none⟩) n n) (u.alloc (.cells (List.replicate n (.int .u8 0)).toArray 5)) := fun u => by
    have h := run_make (P := Try.prog) u 26 5 i0 (.int .u8 0) Try.underlying26 hi hz0 .i64 .i64 (n : Int) (n : Int) (by omega) (Int.le_refl _) (by rw [hz2]; omega) (by omega)
    rw [Int.toNat_natCast, hz1, Nat.mul_one] at h
    rw [← madeCells_one]
    exact h
  clear hi hz0 hz1 hz2
  go_enter Try.func21, Try.ntmps21
  go_wp2_with fail
  refine (refMore_calls s _ n n (List.replicate n 0) _ ⟨by simp, by omega, fun _ => ⟨w.heap.size, 0, rfl, by simp, fun i hi => ?_⟩⟩).mono ?_
  · rw [(Blk.new w 5 (Array.replicate n (.int .u8 0))).cell]
    rw [List.length_replicate] at hi
    simp [hi, byteV]
  rintro e w' ⟨rfl, rfl⟩
  go_wp2
  go_ret2
  exact ⟨rfl, (Below.refl _ _).alloc (Nat.le_refl _) _⟩

theorem patch_bad (s : BitVec 32) (n k : Int) (old now : UInt8) (w : World) (h : n < 1 ∨ 1073741824 < n ∨ k < 0 ∨ n ≤ k) :
    Calls Try.prog 23 #[.int .u32 s.toNat, .int .i64 n, .int .i64 k, .int .u8 old.toNat, .int .u8 now.toNat] w fun e w' => e = pair (.int .u32 0) 1 ∧ w = w' := by
  by_cases h0 : n < 1
  · clear h
    go_enter Try.func23, Try.ntmps23
    go_wp2
    go_ret2
    exact ⟨rfl, rfl⟩
  by_cases h1 : 1073741824 < n
  · clear h
    go_enter Try.func23, Try.ntmps23
    go_wp2
    go_ret2
    exact ⟨rfl, rfl⟩
  by_cases h2 : k < 0
  · clear h
    go_enter Try.func23, Try.ntmps23
    go_wp2
    go_ret2
    exact ⟨rfl, rfl⟩
  · have h3 : n ≤ k := by omega
    clear h
    go_enter Try.func23, Try.ntmps23
    go_wp2
    go_ret2
    exact ⟨rfl, rfl⟩
theorem bits_xor_u8 (x y : UInt8) : bits .xor .u8 (x.toNat : Int) (y.toNat : Int) = ((x ^^^ y).toNat : Int) := by
  rw [u8_xor_nat _ _ x.toNat_lt y.toNat_lt]; rfl
theorem patch_good (s : BitVec 32) (n k : Nat) (old now : UInt8) (w : World) (hn : n ≤ 1073741824) (hk : k < n) :
    Calls Try.prog 23 #[.int .u32 s.toNat, .int .i64 n, .int .i64 k, .int .u8 old.toNat, .int .u8 now.toNat] w fun e w' => e = pair (U32 (s ^^^ Crc.zer (n - 1 - k) (Crc.put 0#32 (old ^^^ now)))) 0 ∧ Below w.heap.size w w' := by
  have hx := Lib.hid (bits_xor_u8 old now)
  have hm : ((n : Int) - 1 - k) = ((n - 1 - k : Nat) : Int) := by omega
  have HM := Lib.hid hm
  clear hm
  go_enter Try.func23, Try.ntmps23
  go_wp2_with fail
  rw [hx.out]
  refine (put_calls 0#32 (old ^^^ now) _).mono ?_
  rintro e w1 ⟨rfl, rfl⟩
  go_wp2_with fail
  rw [HM.out]
  refine (shifted_calls (Crc.put 0#32 (old ^^^ now)) (n - 1 - k) _ (by omega)).mono ?_
  rintro e w1 ⟨rfl, hb⟩
  have HB := Lib.hid hb
  clear hb
  go_wp2
  go_ret2
  exact ⟨congrArg (fun z => pair (.int .u32 z) 0) (bits_xor_u32 _ _), HB.out⟩

theorem join_bad (a b : BitVec 32) (n : Int) (w : World) (h : n < 0 ∨ 1073741824 < n) :
    Calls Try.prog 25 #[.int .u32 a.toNat, .int .u32 b.toNat, .int .i64 n] w fun e w' => e = pair (.int .u32 0) 1 ∧ w = w' := by
  by_cases h0 : n < 0
  · go_enter Try.func25, Try.ntmps25
    go_wp2
    go_ret2
    exact ⟨rfl, rfl⟩
  · have h1 : 1073741824 < n := by omega
    clear h
    go_enter Try.func25, Try.ntmps25
    go_wp2
    go_ret2
    exact ⟨rfl, rfl⟩
theorem join_good (a b : BitVec 32) (n : Nat) (w : World) (hn : n ≤ 1073741824) :
    Calls Try.prog 25 #[.int .u32 a.toNat, .int .u32 b.toNat, .int .i64 n] w fun e w' => e = pair (U32 (Crc.zer n a ^^^ b)) 0 ∧ Below w.heap.size w w' := by
  go_enter Try.func25, Try.ntmps25
  go_wp2_with fail
  refine (shifted_calls a n _ hn).mono ?_
  rintro e w1 ⟨rfl, hb⟩
  have HB := Lib.hid hb
  clear hb
  go_wp2
  go_ret2
  exact ⟨congrArg (fun z => pair (.int .u32 z) 0) (bits_xor_u32 _ _), HB.out⟩

def digits9 : List UInt8 := [49, 50, 51, 52, 53, 54, 55, 56, 57]
set_option maxRecDepth 100000 in
theorem digits9_sum : Crc.sum digits9 = 3421780262#32 := by decide +kernel
theorem nil_sum : Crc.sum [] = 0#32 := by decide
theorem Bytes.nil (w : World) (B : Nat) : Bytes w B none 0 [] := Arr.none_ _ _ _
set_option maxHeartbeats 1000000 in
theorem known_calls (w : World) :
    Calls Try.prog 14 #[] w fun e w' => e = .returned (.bool true) ∧ Below w.heap.size w w' := by
  have hcv := fun (w : World) (C : Array Value) (n c : Nat) => Lib.run_convert_bytes_const (P := Try.prog) w 26 5 C n c Try.underlying26 Try.underlying5
  go_enter Try.func14, Try.ntmps14
  go_wp2_with fail
  refine (zeros_bad 0#32 (-1) _ (.inl (by omega))).mono ?_
  rintro e w1 ⟨rfl, rfl⟩
  go_wp2_with fail
  refine (patch_bad 0#32 4 4 0 1 _ (by omega)).mono ?_
  rintro e w1 ⟨rfl, rfl⟩
  go_wp2_with fail
  refine (sum_calls _ 9 9 digits9 _ ⟨rfl, by omega, fun _ => ⟨w.heap.size, 0, rfl, by simp, fun i hi => ?_⟩⟩).mono ?_
  · rw [cell_of_row _ _ _ _ _ _ (heap_alloc_new w _)]
    have h9 : i < 9 := hi
    rcases (show i = 0 ∨ i = 1 ∨ i = 2 ∨ i = 3 ∨ i = 4 ∨ i = 5 ∨ i = 6 ∨ i = 7 ∨ i = 8 by omega) with h | h | h | h | h | h | h | h | h <;> subst h <;> rfl
  rintro e w1 ⟨rfl, rfl⟩
  have h1 : ((Crc.sum digits9).toNat : Int) = 3421780262 := by rw [digits9_sum]; rfl
  have H1 := Lib.hid h1
  rw [h1]
  clear h1
  go_wp2_with fail
  refine (sum_calls none 0 0 [] _ (Bytes.nil _ _)).mono ?_
  rintro e w1 ⟨rfl, rfl⟩
  have h2 : ((Crc.sum []).toNat : Int) = 0 := by rw [nil_sum]; rfl
  rw [h2]
  clear h2
  go_wp2_with fail
  go_ret
  exact ⟨rfl, (Below.refl _ _).alloc (Nat.le_refl _) _⟩
end Go.Proofs.Ytbkijoekehffkaa
