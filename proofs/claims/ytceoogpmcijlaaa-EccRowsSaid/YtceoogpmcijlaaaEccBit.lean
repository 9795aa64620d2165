/-
  The reference's Bit; ecc.odd and ecc.block.
-/
import Derived.Test.YtceoogpmcijlaaaEccPlaces
namespace Go.Proofs.Ytceoogpmcijlaaa
open Go.RowKit

theorem bit_calls (a : Option Addr) (n c : Nat) (xs : List UInt8) (k : Nat) (w : World) (hx : Bytes w w.heap.size a n xs) (hk : k < 8 * n) :
    Calls Try.prog 40 #[.slice a n c, .int .i64 k] w fun e w' => e = .returned (.bool (Ecc.bit xs k)) ∧ w = w' := by
  have hroom := hx.room
  obtain ⟨b, o, hk', rfl, hbb, hcell⟩ := hx.at_ (k := k / 8) (by omega)
  have hv : Ecc.bit xs k = (xs[k / 8]).toNat.testBit (k % 8) := by
    unfold Ecc.bit
    rw [List.getD_eq_getElem?_getD, List.getElem?_eq_getElem hk']
    rfl
  rw [hv]
  have hb1 := (xs[k / 8]).toNat_lt
  generalize xs[k / 8].toNat = B at *
  have HB := Lib.hid (Nat.testBit_eq_decide_div_mod_eq (x := B) (i := k % 8))
  clear hx hv hk'
  have g1 : (0 : Int) ≤ (k : Int) / 8 := by omega
  have g2 : (k : Int) / 8 < (n : Int) := by omega
  have g3 : ((k : Int) / 8).toNat = k / 8 := by omega
  have g4 : (0 : Int) ≤ (k : Int) % 8 := by omega
  have g5 : (k : Int) % 8 < 8 := by omega
  go_enter Try.func40, Try.ntmps40
  go_wp2
  go_ret
  refine ⟨congrArg (fun z => Ending.returned (Value.bool z)) ?_, rfl⟩
  rw [HB.out, show (B : Int) / 2 ^ (k % 8) = ((B / 2 ^ (k % 8) : Nat) : Int) by simp, Int.tmod_eq_emod_of_nonneg (Int.natCast_nonneg _), Bool.eq_iff_iff, beq_iff_eq, decide_eq_true_iff]
  omega
theorem odd_calls (n : Nat) (w : World) (hn : n < 9223372036854775808) :
    Calls Try.prog 25 #[.int .i64 n] w fun e w' => e = .returned (.int .u32 (n % 2 : Nat)) ∧ w = w' := by
  have h := i64_odd n hn
  have h2 : ((n % 2 : Nat) : Int) ≤ 1 := by omega
  have h3 : (0 : Int) ≤ ((n % 2 : Nat) : Int) := by omega
  go_enter Try.func25, Try.ntmps25
  go_wp2
  go_ret
  exact ⟨by first | rfl | simp [h], rfl⟩
end Go.Proofs.Ytceoogpmcijlaaa
