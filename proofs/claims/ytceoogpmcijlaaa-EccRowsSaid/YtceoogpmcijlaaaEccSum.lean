/-
  The reference's sum of a block's bits.
-/
import Derived.Test.YtceoogpmcijlaaaEccBit
import Derived.Test.YtceoogpmcijlaaaEccRefPlaces
namespace Go.Proofs.Ytceoogpmcijlaaa
open Go.RowKit

theorem i64_xor_nat (a b : Nat) (ha : a < 65536) (hb : b < 65536) : bits .xor .i64 (a : Int) (b : Int) = ((a ^^^ b : Nat) : Int) := by
  have hx : a ^^^ b < 2 ^ 16 := Nat.xor_lt_two_pow (by omega) (by omega)
  show IntKind.i64.wrap ((BitVec.ofInt 64 (a : Int) ^^^ BitVec.ofInt 64 (b : Int)).toNat : Int) = _
  rw [BitVec.toNat_xor, ofInt_i64 a (by omega), ofInt_i64 b (by omega)]
  exact IntWalk.i64_in _ ⟨by omega, by omega⟩
set_option maxHeartbeats 2000000 in
theorem eccSum_calls (a : Option Addr) (n c : Nat) (xs : List UInt8) (w : World) (hx : Bytes w w.heap.size a n xs) (hn : n ≤ 4096) :
    Calls Try.prog 27 #[.slice a n c] w fun e w' => e = .returned (.tuple #[.int .i64 (Ecc.sumX xs (8 * n) : Nat), .int .i64 (Ecc.sumN xs (8 * n) : Nat)]) ∧ Below w.heap.size w w' := by
  have HX := Lib.hid hx
  clear hx
  go_enter Try.func27, Try.ntmps27
  go_wp2_with fail
  refine (refPlaces_calls n w hn).mono ?_
  rintro e w1 ⟨⟨v1, rfl, ho⟩, hb⟩
  obtain ⟨a1, c1, rfl, _⟩ := ho.formN (n := 8 * n) (Ecc.places_len _)
  have HA := Lib.hid (ho.arr (by rw [Ecc.places_len]; omega))
  have HB := Lib.hid hb
  have HX1 := Lib.hid (HX.out.on hb)
  clear ho hb
  go_wp2
  go_loop [5, 6, 7] (fun x m i => ∃ k : Nat, k ≤ 8 * n ∧ i = .int .i64 k ∧ x = .int .i64 (Ecc.sumX xs k : Nat) ∧ m = .int .i64 (Ecc.sumN xs k : Nat)) (fun _ _ i => 8 * n - (intOf i).toNat)
  case atStart => exact ⟨0, by omega, rfl, rfl, rfl⟩
  case round =>
    obtain ⟨k, hk, rfl, rfl, rfl⟩ := hrel
    by_cases hlt : k < 8 * n
    · have hbc := Lib.hid (bit_calls a n c xs k w1 HX1.out hlt)
      obtain ⟨b, o, hk', rfl, hbb, hcell⟩ := HA.out.atv hlt
      have hcv : w1.cell? ⟨b, o + k, none⟩ = some (.int .i64 (Ecc.place k : Int)) := by
        rw [hcell]
        simp [Ecc.places, intV]
      have hX := Ecc.sumX_lt xs k (by omega)
      have hN := Ecc.sumN_le xs k
      have hP := Ecc.place_bound k (by omega)
      have hxor := i64_xor_nat (Ecc.sumX xs k) (Ecc.place k) hX hP
      have HX2 := Lib.hid (show Ecc.sumX xs (k + 1) = if Ecc.bit xs k then Ecc.sumX xs k ^^^ Ecc.place k else Ecc.sumX xs k from rfl)
      have HN2 := Lib.hid (show Ecc.sumN xs (k + 1) = if Ecc.bit xs k then Ecc.sumN xs k + 1 else Ecc.sumN xs k from rfl)
      clear hcell hk'
      generalize Ecc.sumX xs k = X at *
      generalize Ecc.sumN xs k = M at *
      generalize Ecc.place k = P at *
      cases hbit : Ecc.bit xs k
      all_goals
        rw [hbit] at hbc HX2 HN2
        clear hbit
        go_wp2_with (go_at_call 40; refine hbc.out.mono ?_; rintro e w' ⟨rfl, rfl⟩)
        go_round
        case rel => exact ⟨k + 1, by omega, by go_num, by rw [HX2.out]; first | rfl | exact congrArg (Value.int .i64) hxor, by rw [HN2.out]; first | rfl | go_num⟩
        case measure => simp [intOf]; omega
    · obtain rfl : k = 8 * n := by omega
      go_wp2
      go_ret2
      exact ⟨rfl, HB.out⟩
end Go.Proofs.Ytceoogpmcijlaaa
