/-
  How many blocks of a chip are bad: none.
-/
import Derived.Test.YtiipnpfaaghekaaGreatFtlOps
namespace Go.Proofs.YtiipnpfaaghekaaGreat
open Go.RowKit

section
variable {NB B C BL : Nat} {S : Nat → Prop} {w : World} {ps : Nat → Nat} {bl : Nat → Pb}
set_option maxRecDepth 100000 in
set_option maxHeartbeats 4000000 in
theorem badBlocks_calls (h : ChM NB B S w C BL ps bl) (hnb : NB ≤ 1000) (hb : ∀ k, k < NB → (bl k).bad = false) :
    Calls Tryz.prog 48 #[.pointer (some ⟨C, 0, none⟩)] w fun e w' => e = .returned (.int .i64 0) ∧ Below w.heap.size w w' := by
  have HH := Lib.hid h
  have HBd := Lib.hid hb
  have HG := Lib.hid (chGeo_calls h)
  have hf := geoF0 (.int .i64 (NB : Int)) (.int .i64 8) (.int .i64 64)
  clear h hb
  go_enter Tryz.func48, Tryz.ntmps48
  go_wp2_with fail
  refine HG.out.mono ?_
  rintro e w1 ⟨rfl, hb1⟩
  have HB1 := Lib.hid hb1
  clear hb1
  unfold geoV
  go_wp2_with fail
  go_loopw [3, 4, 8] (fun n _ i wr => ∃ k : Nat, k ≤ NB ∧ i = .int .i64 (k : Int) ∧ n = .int .i64 0 ∧ Below w.heap.size w wr) (fun _ _ i _ => NB - (intOf i).toNat)
  case atStart => exact ⟨0, by omega, rfl, rfl, HB1.out⟩
  case round =>
    obtain ⟨k, hk, rfl, rfl, hb⟩ := hrel
    have HBr := Lib.hid hb
    clear hb
    by_cases hlt : k < NB
    · have hk1 : (k : Int) < (NB : Int) := by omega
      have HBa := Lib.hid (chBad_calls (HH.out.on HBr.out) hlt)
      rw [HBd.out k hlt] at HBa
      go_wp2_with fail
      refine HBa.out.mono ?_
      rintro e w_ ⟨rfl, rfl⟩
      go_wp2_with fail
      go_roundw
      case rel => exact ⟨k + 1, by omega, by go_num, rfl, HBr.out⟩
      case measure => simp [intOf]; omega
    · obtain rfl : k = NB := by omega
      go_wp2_with fail
      go_ret
      exact ⟨rfl, HBr.out⟩
end
end Go.Proofs.YtiipnpfaaghekaaGreat
