/-
  The small functions of codes: the reference's ones, both powers.
-/
import Derived.Test.YtceoogpmcijlaaaBytes
import Derived.Test.YtceoogpmcijlaaaEccMath
namespace Go.Proofs.Ytceoogpmcijlaaa
open Go.RowKit

set_option maxHeartbeats 1000000 in
theorem ones_calls (n : Nat) (w : World) (hn : n < 9223372036854775808) :
    Calls Try.prog 28 #[.int .i64 n] w fun e w' => e = .returned (.int .i64 (Ecc.ones n : Nat)) ∧ w = w' := by
  have hle : ∀ m, Ecc.ones m ≤ m := by
    intro m
    induction m using Nat.strongRecOn with
    | _ m ih =>
      cases m with
      | zero => simp [Ecc.ones]
      | succ m =>
        have := ih ((m + 1) / 2) (by omega)
        rw [Ecc.ones]; omega
  have HL := Lib.hid hle
  clear hle
  go_enter Try.func28, Try.ntmps28
  go_wp2
  go_loop [0, 3] (fun x c => ∃ y z : Nat, x = .int .i64 y ∧ c = .int .i64 z ∧ z + Ecc.ones y = Ecc.ones n ∧ y ≤ n) (fun x _ => (intOf x).toNat)
  case atStart => exact ⟨n, 0, rfl, rfl, by omega, Nat.le_refl _⟩
  case round =>
    obtain ⟨y, z, rfl, rfl, hs, hy⟩ := hrel
    have hz : z ≤ n := by have := HL.out n; omega
    have HS := Lib.hid hs
    clear hs
    by_cases h0 : 0 < y
    · have he := Lib.hid (Ecc.ones_eq y h0)
      have hzz : z + y % 2 ≤ n := by
        have h1 := HS.out
        rw [he.out] at h1
        have := HL.out n
        omega
      go_wp2
      go_round
      case rel => exact ⟨y / 2, z + y % 2, by go_num, by go_num, by have h1 := HS.out; rw [he.out] at h1; omega, by omega⟩
      case measure => simp [intOf]; omega
    · obtain rfl : y = 0 := by omega
      have hv : Hid (Ecc.ones n = z) := Lib.hid (by have h1 := HS.out; rw [Ecc.ones] at h1; omega)
      go_wp2
      go_ret
      exact ⟨by rw [hv.out]; rfl, rfl⟩
end Go.Proofs.Ytceoogpmcijlaaa
