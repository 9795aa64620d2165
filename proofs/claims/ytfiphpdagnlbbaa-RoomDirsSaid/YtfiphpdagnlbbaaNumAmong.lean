/-
  The reference's Among: a raw number as one from 0 to n-1.
-/
import Derived.Test.YtfiphpdagnlbbaaRows
import Derived.Test.YtfiphpdagnlbbaaBase
namespace Go.Proofs.Ytfiphpdagnlbbaa
open Go.RowKit

theorem tmod_neg (k n : Int) (hn : 1 ≤ n) (hk : k < 0) : (k.tmod n = 0 ∧ k % n = 0) ∨ (k.tmod n < 0 ∧ k.tmod n + n = k % n) := by
  have h0 := Int.emod_nonneg k (show n ≠ 0 by omega)
  have h1 := Int.emod_lt_of_pos k (show 0 < n by omega)
  rw [Int.tmod_eq_emod]
  have hnn : (n.natAbs : Int) = n := by omega
  by_cases hd : n ∣ k
  · left
    have := Int.emod_eq_zero_of_dvd hd
    simp [this, hd]
  · right
    have hz : k % n ≠ 0 := fun h => hd (Int.dvd_of_emod_eq_zero h)
    rw [if_neg (by intro h; rcases h with h | h; omega; exact hd h)]
    omega

/-- A raw number as one from 0 to n-1. -/
theorem among_calls (k n : Int) (w : World) (h1 : -9223372036854775808 ≤ k) (h2 : k ≤ 9223372036854775807) (h3 : n ≤ 9223372036854775807) :
    Calls Try.prog 16 #[.int .i64 k, .int .i64 n] w fun e w' => e = .returned (.int .i64 (if n < 1 then 0 else k % n)) ∧ w = w' := by
  by_cases hn : n < 1
  · rw [if_pos hn]
    go_enter Try.func16, Try.ntmps16
    go_wp2
    go_ret
    exact ⟨rfl, rfl⟩
  · rw [if_neg hn]
    have b0 := Int.emod_nonneg k (show n ≠ 0 by omega)
    have b1 := Int.emod_lt_of_pos k (show 0 < n by omega)
    by_cases hk : 0 ≤ k
    · go_enter Try.func16, Try.ntmps16
      go_wp2
      go_ret
      exact ⟨rfl, rfl⟩
    · rcases tmod_neg k n (by omega) (by omega) with ⟨h4, h5⟩ | ⟨h4, h5⟩
      · have H := Lib.hid h5
        have h6 : 0 ≤ k.tmod n := by omega
        have H4 := Lib.hid h4
        clear h5 h4
        go_enter Try.func16, Try.ntmps16
        go_wp2
        go_ret
        exact ⟨congrArg (fun z => Ending.returned (Value.int .i64 z)) (H4.out.trans H.out.symm), rfl⟩
      · have H := Lib.hid h5
        have h6 : k.tmod n + n < n := by omega
        have h7 : 0 ≤ k.tmod n + n := by omega
        clear h5
        go_enter Try.func16, Try.ntmps16
        go_wp2
        go_ret
        exact ⟨congrArg (fun z => Ending.returned (Value.int .i64 z)) H.out, rfl⟩
theorem among_nat (k : Int) (n : Nat) (h : 1 ≤ n) : ∃ m : Nat, (if (n : Int) < 1 then 0 else k % (n : Int)) = (m : Int) ∧ m < n := by
  refine ⟨(k % (n : Int)).toNat, ?_, ?_⟩
  · rw [if_neg (by omega)]
    have := Int.emod_nonneg k (show (n : Int) ≠ 0 by omega)
    omega
  · have := Int.emod_nonneg k (show (n : Int) ≠ 0 by omega)
    have := Int.emod_lt_of_pos k (show (0 : Int) < n by omega)
    omega
end Go.Proofs.Ytfiphpdagnlbbaa
