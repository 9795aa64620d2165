/-
  The law's small functions: page, torn; the reference's Valid; what must come of fixed calls.
-/
import Derived.Test.YtfcikigdmecbnaaNandNew
import Derived.Test.YtfcikigdmecbnaaNandProg
import Derived.Test.YtfcikigdmecbnaaTagWrite
import Derived.Test.YtfcikigdmecbnaaTagRead2
namespace Go.Proofs.Ytfcikigdmecbnaa
open Go.RowKit

/-- 64 bytes that begin so. -/
def pageL (b : List UInt8) : List UInt8 := b.take 64 ++ (List.replicate 64 (0 : UInt8)).drop b.length
theorem pageL_len (b : List UInt8) : (pageL b).length = 64 := by simp [pageL]; omega
theorem mk64 (u : World) : (Instr.makeSlice 23 (.int .i64 64) (.int .i64 64)).run Try.prog u = .ok (.slice (some ⟨u.heap.size, 0, none⟩) 64 64) (u.alloc (.cells (Array.replicate 64 (.int .u8 0)) 5)) := makeZ 64 (by omega) u
theorem mk96 (u : World) : (Instr.makeSlice 23 (.int .i64 96) (.int .i64 96)).run Try.prog u = .ok (.slice (some ⟨u.heap.size, 0, none⟩) 96 96) (u.alloc (.cells (Array.replicate 96 (.int .u8 0)) 5)) := makeZ 96 (by omega) u
set_option maxHeartbeats 4000000 in
theorem page_calls (a : Option Addr) (n c : Nat) (b : List UInt8) (w : World) (hx : Bytes w w.heap.size a n b) :
    Calls Try.prog 8 #[.slice a n c] w fun e w' => (∃ a' c', e = .returned (.slice a' 64 c') ∧ Own byteV 5 w' w.heap.size (.slice a' 64 c') (pageL b)) ∧ Below w.heap.size w w' := by
  have hmk := mk64
  have HO := Lib.hid (ownMadeZ w w.heap.size 64 (Nat.le_refl _) (by omega))
  have HB := Lib.hid ((Below.refl w.heap.size w).alloc (Nat.le_refl _) (.cells (Array.replicate 64 (.int .u8 0)) 5))
  have HX := Lib.hid (hx.alloc (.cells (Array.replicate 64 (.int .u8 0)) 5))
  have hl := hx.len
  clear hx
  go_enter Try.func8, Try.ntmps8
  go_wp2_with (with_reducible refine wpList_copy0 rfl _ _ rfl w.heap.size w.heap.size 64 64 _ rfl HO.out _ a n c b rfl HX.out ?_; intro w2 HO2 HB2)
  go_ret
  refine ⟨⟨_, _, rfl, ?_⟩, HB.out.trans HB2.out⟩
  have h5 := HO2.out
  unfold pageL
  rw [hl]
  exact h5
set_option maxHeartbeats 4000000 in
theorem ltorn_calls (a : Option Addr) (m c : Nat) (data : List UInt8) (w : World) (hx : Bytes w w.heap.size a m data) (hm : m ≤ 96) :
    Calls Try.prog 15 #[.slice a m c] w fun e w' => (∃ a' c', e = .returned (.slice a' 96 c') ∧ 96 ≤ c' ∧ Own byteV 5 w' w.heap.size (.slice a' 96 c') (tornL data)) ∧ Below w.heap.size w w' := by
  have hmk := mk96
  have HO0 := Lib.hid (ownMadeZ w w.heap.size 96 (Nat.le_refl _) (by omega))
  have HB0 := Lib.hid ((Below.refl w.heap.size w).alloc (Nat.le_refl _) (.cells (Array.replicate 96 (.int .u8 0)) 5))
  have HX := Lib.hid hx
  have hl := hx.len
  clear hx
  go_enter Try.func15, Try.ntmps15
  go_wp2
  clear hmk
  go_loopw [4] (fun i wr => ∃ k : Nat, k ≤ 96 ∧ i = .int .i64 k ∧ Own byteV 5 wr w.heap.size (.slice (some ⟨w.heap.size, 0, none⟩) 96 96) (onesK 96 k) ∧ Below w.heap.size w wr) (fun i _ => 96 - (intOf i).toNat)
  case atStart => exact ⟨0, by omega, rfl, by rw [onesK_zero]; exact HO0.out, HB0.out⟩
  case round =>
    obtain ⟨k, hk, rfl, ho, hb⟩ := hrel
    have HO := Lib.hid ho
    have HB := Lib.hid hb
    clear ho hb HO0 HB0
    by_cases hlt : k < 96
    · obtain ⟨c0, f0⟩ := HO.out.cellg (k := k) (by rw [onesK_len hk]; exact hlt)
      have g1 : (0 : Int) ≤ (k : Int) := by omega
      have g2 : (k : Int) < 96 := by omega
      have HS := Lib.hid (HO.out.set k 255)
      rw [onesK_step hlt] at HS
      go_wp2
      go_roundw
      case rel => exact ⟨k + 1, by omega, by go_num, HS.out, HB.out.setCell (p := ⟨w.heap.size, k, none⟩) (Nat.le_refl _) _⟩
      case measure => simp [intOf]; omega
    · obtain rfl : k = 96 := by omega
      have HX1 := Lib.hid (HX.out.on HB.out)
      go_wp2_with (with_reducible refine wpList_copy0 rfl _ _ rfl w.heap.size w.heap.size 96 96 _ rfl HO.out _ a m c data rfl HX1.out ?_; intro w2 HO2 HB2)
      go_ret
      refine ⟨⟨_, _, rfl, Nat.le_refl _, ?_⟩, HB.out.trans HB2.out⟩
      have h5 := HO2.out
      rw [onesK_all, tornL_eq hl hm] at h5
      exact h5
theorem valid_calls (a : Option Addr) (n c : Nat) (xs : List UInt8) (w : World) (hx : Bytes w w.heap.size a n xs) (hnc : n ≤ c) :
    Calls Try.prog 14 #[.slice a n c] w fun e w' => e = .returned (.bool (decide (Tg.readE xs = 0))) ∧ Below w.heap.size w w' := by
  have HR := Lib.hid (refTRead_calls a n c xs w hx hnc)
  clear hx
  go_enter Try.func14, Try.ntmps14
  go_wp2_with fail
  refine HR.out.mono ?_
  rintro e w1 ⟨a1, n1, c1, rfl, _, _, hb⟩
  have HB := Lib.hid (hb.alloc hb.size (tagO (Tg.readT xs)))
  clear hb
  go_wp2
  go_ret
  exact ⟨rfl, HB.out⟩
namespace Tg
def ones : Tg := ⟨1, 1, 1, 1⟩
theorem ones_right : Right ones := by decide
end Tg
set_option maxHeartbeats 4000000 in
theorem awake_calls (w : World) :
    Calls Try.prog 16 #[] w fun e w' => e = .returned (.bool true) ∧ Below w.heap.size w w' := by
  have hmk := mk64
  go_enter Try.func16, Try.ntmps16
  go_wp2_with fail
  refine (small_calls _).mono ?_
  rintro e w1 ⟨rfl, h_⟩
  have HB1 := Lib.hid h_
  clear h_
  go_wp2_with fail
  refine (new_calls 0 (by omega) _).mono ?_
  rintro e w2 ⟨⟨C, BL, P, rfl, hc⟩, hb⟩
  have HB2 := Lib.hid (HB1.out.then_ hb)
  have ho := ownMadeZ w2 w2.heap.size 64 (Nat.le_refl _) (by omega)
  have HX := Lib.hid (ho.arr (by simp))
  have hba := (Below.refl w2.heap.size w2).alloc (Nat.le_refl _) (.cells (Array.replicate 64 (.int .u8 0)) 5)
  have HC := Lib.hid (hc.on hba)
  have HB3 := Lib.hid (HB2.out.then_ hba)
  clear hb hc ho hba
  go_wp2_with fail
  refine (twrite_good Tg.ones _ 64 64 (List.replicate 64 0) _ Tg.ones_right (by decide) HX.out).mono ?_
  rintro e w4 ⟨⟨v, rfl, ho⟩, hb⟩
  have hlen : (Tg.page Tg.ones (List.replicate 64 0)).length = 96 := by rw [Tg.page_len]; rfl
  obtain ⟨a, c, rfl, hcc⟩ := ho.formN hlen
  have HC4 := Lib.hid (HC.out.on hb)
  have HB4 := Lib.hid (HB3.out.then_ hb)
  have HO4 := Lib.hid (ho.mono HC.out.hN)
  clear hb ho hcc hmk hlen
  go_wp2_with fail
  refine (program_ok _ _ C BL P 0 0 cn0 noPg [] a c _ _ HC4.out rfl (by omega) HO4.out rfl (by decide) (by decide) (by decide)).mono ?_
  rintro e w5 ⟨rfl, h5, hk5⟩
  have HB5 := Lib.hid (HC4.out.below hk5)
  clear h5 hk5
  go_wp2
  go_ret
  exact ⟨rfl, HB4.out.trans (HB5.out.mono HB1.out.size)⟩
end Go.Proofs.Ytfcikigdmecbnaa
