/-
  Bytes 255: ones; what is torn: the chip's, and the law's.
-/
import Derived.Test.YtiipnpfaaghekaaGreatNandAsk
import Derived.Test.YtiipnpfaaghekaaGreatSlCopy0
namespace Go.Proofs.YtiipnpfaaghekaaGreat
open Go.RowKit

/-- n bytes, the first k of them 255. -/
def onesK (n k : Nat) : List UInt8 := List.replicate k 255 ++ List.replicate (n - k) 0
theorem onesK_len {n k : Nat} (h : k ≤ n) : (onesK n k).length = n := by simp [onesK]; omega
theorem onesK_zero (n : Nat) : onesK n 0 = List.replicate n 0 := by simp [onesK]
theorem onesK_all (n : Nat) : onesK n n = List.replicate n 255 := by simp [onesK]
theorem onesK_step {n k : Nat} (h : k < n) : (onesK n k).set k 255 = onesK n (k + 1) := by
  unfold onesK
  rw [List.set_append_right _ _ (by simp), List.length_replicate, Nat.sub_self, show n - k = (n - (k + 1)) + 1 by omega, List.replicate_succ, List.set_cons_zero, List.replicate_succ', List.append_assoc]
  rfl
set_option maxHeartbeats 4000000 in
theorem ones_calls (n : Nat) (w : World) (hn : n ≤ 1000000) :
    Calls Tryz.prog 58 #[.int .i64 (n : Int)] w fun e w' => (∃ v, e = .returned v ∧ Own byteV 5 w' w.heap.size v (List.replicate n 255)) ∧ Below w.heap.size w w' := by
  have hmk := makeZ n (by omega)
  have HO0 := Lib.hid (ownMadeZ w w.heap.size n (Nat.le_refl _) (by omega))
  have HB0 := Lib.hid ((Below.refl w.heap.size w).alloc (Nat.le_refl _) (.cells (Array.replicate n (.int .u8 0)) 5))
  go_enter Tryz.func58, Tryz.ntmps58
  go_wp2
  clear hmk
  go_loopw [4, 9] (fun _ i wr => ∃ k : Nat, k ≤ n ∧ i = .int .i64 k ∧ Own byteV 5 wr w.heap.size (.slice (some ⟨w.heap.size, 0, none⟩) n n) (onesK n k) ∧ Below w.heap.size w wr) (fun _ i _ => n - (intOf i).toNat)
  case atStart => exact ⟨0, by omega, rfl, by rw [onesK_zero]; exact HO0.out, HB0.out⟩
  case round =>
    obtain ⟨k, hk, rfl, ho, hb⟩ := hrel
    have HO := Lib.hid ho
    have HB := Lib.hid hb
    clear ho hb HO0 HB0
    by_cases hlt : k < n
    · obtain ⟨c0, f0⟩ := HO.out.cellg (k := k) (by rw [onesK_len hk]; exact hlt)
      have g1 : (0 : Int) ≤ (k : Int) := by omega
      have g2 : (k : Int) < (n : Int) := by omega
      have HS := Lib.hid (HO.out.set k 255)
      rw [onesK_step hlt] at HS
      go_wp2
      go_roundw
      case rel => exact ⟨k + 1, by omega, by go_num, HS.out, HB.out.setCell (p := ⟨w.heap.size, k, none⟩) (Nat.le_refl _) _⟩
      case measure => simp [intOf]; omega
    · obtain rfl : k = n := by omega
      go_wp2
      go_ret
      exact ⟨⟨_, rfl, by have := HO.out; rw [onesK_all] at this; exact this⟩, HB.out⟩
/-- What is torn: the data, and 255 behind them. -/
def tornL (data : List UInt8) : List UInt8 := data ++ List.replicate (96 - data.length) 255
theorem tornL_len {data : List UInt8} (h : data.length ≤ 96) : (tornL data).length = 96 := by simp [tornL]; omega
theorem tornL_eq {data : List UInt8} {m : Nat} (hm : data.length = m) (h : m ≤ 96) : data.take 96 ++ (List.replicate 96 (255 : UInt8)).drop m = tornL data := by
  unfold tornL
  rw [List.take_of_length_le (by omega), List.drop_replicate, hm]
set_option maxHeartbeats 4000000 in
theorem ctorn_calls (base N0 C BL P K nx : Nat) (x : Cn) (ls : Nat → Option (List UInt8)) (fs : List Fl) (a : Option Addr) (m c : Nat) (data : List UInt8) (w : World) (h : Chp base N0 w C BL P K x nx ls fs) (hx : Bytes w w.heap.size a m data) (hm : m ≤ 96) :
    Calls Tryz.prog 69 #[.pointer (some ⟨C, 0, none⟩), .slice a m c] w fun e w' => (∃ v, e = .returned v ∧ Own byteV 5 w' w.heap.size v (tornL data)) ∧ Below w.heap.size w w' := by
  have HF := Lib.hid (full_calls base N0 C BL P K nx x ls fs w h)
  have HX := Lib.hid hx
  have hl := hx.len
  clear h hx
  go_enter Tryz.func69, Tryz.ntmps69
  go_wp2_with fail
  refine (HF.out).mono ?_
  rintro e w_ ⟨rfl, rfl⟩
  go_wp2_with fail
  refine (ones_calls 96 w (by omega)).mono ?_
  rintro e w1 ⟨⟨v, rfl, ho⟩, hb⟩
  obtain ⟨g, cc, hv, hcc, hg, _⟩ := ho.form_some (by simp)
  rw [List.length_replicate] at hv hcc
  subst hv
  have HO := Lib.hid ho
  have HB := Lib.hid hb
  have HX1 := Lib.hid (HX.out.on hb)
  clear ho hb
  go_wp2_with (with_reducible refine wpList_copy0 rfl _ _ rfl w.heap.size g 96 cc _ rfl HO.out _ a m c data rfl HX1.out ?_; intro w2 HO2 HB2)
  go_ret
  refine ⟨⟨_, rfl, ?_⟩, HB.out.trans HB2.out⟩
  have h5 := HO2.out
  rw [tornL_eq hl hm] at h5
  exact h5
end Go.Proofs.YtiipnpfaaghekaaGreat
