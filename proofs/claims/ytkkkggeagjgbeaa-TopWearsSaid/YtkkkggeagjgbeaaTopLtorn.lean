/-
  The law's torn bytes.
-/
import Derived.Test.YtkkkggeagjgbeaaNandOnes
namespace Go.Proofs.Ytkkkggeagjgbeaa
open Go.RowKit

theorem mk96 (u : World) : (Instr.makeSlice 22 (.int .i64 96) (.int .i64 96)).run Try.prog u = .ok (.slice (some ⟨u.heap.size, 0, none⟩) 96 96) (u.alloc (.cells (Array.replicate 96 (.int .u8 0)) 5)) := makeZ 96 (by omega) u
set_option maxHeartbeats 4000000 in
theorem ltorn_calls (a : Option Addr) (m c : Nat) (data : List UInt8) (w : World) (hx : Bytes w w.heap.size a m data) (hm : m ≤ 96) :
    Calls Try.prog 13 #[.slice a m c] w fun e w' => (∃ a' c', e = .returned (.slice a' 96 c') ∧ 96 ≤ c' ∧ Own byteV 5 w' w.heap.size (.slice a' 96 c') (tornL data)) ∧ Below w.heap.size w w' := by
  have hmk := mk96
  have HO0 := Lib.hid (ownMadeZ w w.heap.size 96 (Nat.le_refl _) (by omega))
  have HB0 := Lib.hid ((Below.refl w.heap.size w).alloc (Nat.le_refl _) (.cells (Array.replicate 96 (.int .u8 0)) 5))
  have HX := Lib.hid hx
  have hl := hx.len
  clear hx
  go_enter Try.func13, Try.ntmps13
  go_wp2
  clear hmk
  go_loopw [4] (fun i wr => ∃ k : Nat, k ≤ 96 ∧ i = .int .i64 k ∧ Own byteV 5 wr w.heap.size (.slice (some ⟨w.heap.size, 0, none⟩) 96 96) (onesK 96 k) ∧ Below w.heap.size w wr) (fun i _ => 96 - (intOf i).toNat)
  case atStart => exact ⟨0, by omega, rfl, by rw [onesK_zero]; exact HO0.out, HB0.out⟩
  case round =>
    obtain ⟨k, hk, rfl, ho, hb⟩ := hrel
    have HO := Lib.hid ho
    have HB := Lib.hid hb
    clear ho hb HO0 HB0
    by_cases hlt : k < 96
    · obtain ⟨c0, f0⟩ := HO.out.cellg (k := k) (by rw [onesK_len hk]; exact hlt)
      have g1 : (0 : Int) ≤ (k : Int) := by omega
      have g2 : (k : Int) < 96 := by omega
      have HS := Lib.hid (HO.out.set k 255)
      rw [onesK_step hlt] at HS
      go_wp2
      go_roundw
      case rel => exact ⟨k + 1, by omega, by go_num, HS.out, HB.out.setCell (p := ⟨w.heap.size, k, none⟩) (Nat.le_refl _) _⟩
      case measure => simp [intOf]; omega
    · obtain rfl : k = 96 := by omega
      have HX1 := Lib.hid (HX.out.on HB.out)
      go_wp2_with (with_reducible refine wpList_copy0 rfl _ _ rfl w.heap.size w.heap.size 96 96 _ rfl HO.out _ a m c data rfl HX1.out ?_; intro w2 HO2 HB2)
      go_ret
      refine ⟨⟨_, _, rfl, Nat.le_refl _, ?_⟩, HB.out.trans HB2.out⟩
      have h5 := HO2.out
      rw [onesK_all, tornL_eq hl hm] at h5
      exact h5
end Go.Proofs.Ytkkkggeagjgbeaa
