/-
  squeeze.item.
-/
import Derived.Test.YtpjjfehocibljaaSqzLaw
import Derived.Test.YtpjjfehocibljaaSqzRefB
namespace Go.Proofs.Ytpjjfehocibljaa
open Go.RowKit

theorem i64_or_far (x y : Nat) (hx : x < 256) (hy : y < 256) : bits .or .i64 (x : Int) ((y : Int) * 256) = ((x + 256 * y : Nat) : Int) := by
  have e : x ||| (y * 256) = x + 256 * y := by
    have := Nat.two_pow_add_eq_or_of_lt (i := 8) (b := x) (by omega) y
    rw [Nat.or_comm, Nat.mul_comm y 256, show 256 = 2 ^ 8 from rfl, ← this]
    omega
  have hz : x ||| (y * 256) < 2 ^ 63 := by rw [e]; omega
  rw [show (y : Int) * 256 = ((y * 256 : Nat) : Int) by omega]
  show IntKind.i64.wrap ((BitVec.ofInt 64 (x : Int) ||| BitVec.ofInt 64 ((y * 256 : Nat) : Int)).toNat : Int) = _
  rw [BitVec.toNat_or, ofInt_i64 x (by omega), ofInt_i64 (y * 256) (by omega), IntKind.wrap_i64, e]
  omega
def ItemR (r : Nat × Nat × Nat) (w : World) (e : Ending) (w' : World) : Prop := e = .returned (.tuple #[.int .i64 (r.1 : Int), .int .i64 (r.2.1 : Int), .int .i64 (r.2.2 : Int)]) ∧ Below w.heap.size w w'
set_option maxHeartbeats 2000000 in
theorem item_calls (a : Option Addr) (n c : Nat) (b : List UInt8) (w : World) (hx : Bytes w w.heap.size a n b) (hn : 0 < n) :
    Calls Try.prog 23 #[.slice a n c] w (ItemR (Sqz.item b) w) := by
  have hl := hx.len
  have hroom := hx.room
  obtain ⟨b1, o1, hk1, rfl, _, hc1⟩ := hx.at_ (k := 0) hn
  obtain ⟨c0, hc0⟩ : ∃ c0, c0 = b[0].toNat := ⟨_, rfl⟩
  have hlt := b[0].toNat_lt
  have e0 : (b[0]?.getD 0).toNat = c0 := by rw [List.getElem?_eq_getElem hk1, Option.getD_some, hc0]
  rw [← hc0] at hlt hc1
  have hI : Sqz.item b = if c0 < 128 then (if n < c0 + 2 then (0, 0, 0) else (c0 + 1, 0, c0 + 2)) else if n < 3 then (0, 0, 0) else (c0 - 125, (b[1]?.getD 0).toNat + 256 * (b[2]?.getD 0).toNat, 3) := by
    unfold Sqz.item
    dsimp only
    rw [e0, hl]
  rw [Nat.add_zero] at hc1
  clear hc0 e0
  by_cases h1 : c0 < 128
  · rw [if_pos h1] at hI
    have g1 : decide ((c0 : Int) < 128) = true := decide_eq_true (by omega)
    by_cases h2 : n < c0 + 2
    · rw [if_pos h2] at hI
      rw [hI]
      have g2 : decide ((n : Int) < (c0 : Int) + 2) = true := decide_eq_true (by omega)
      clear hI hx hl
      go_enter Try.func23, Try.ntmps23
      go_wp2
      go_ret3
      exact ⟨rfl, Below.refl _ _⟩
    · rw [if_neg h2] at hI
      rw [hI]
      have g2 : decide ((n : Int) < (c0 : Int) + 2) = false := decide_eq_false (by omega)
      clear hI hx hl
      go_enter Try.func23, Try.ntmps23
      go_wp2
      go_ret3
      exact ⟨rfl, Below.refl _ _⟩
  · rw [if_neg h1] at hI
    have g1 : decide ((c0 : Int) < 128) = false := decide_eq_false (by omega)
    by_cases h2 : n < 3
    · rw [if_pos h2] at hI
      rw [hI]
      have g2 : decide ((n : Int) < 3) = true := decide_eq_true (by omega)
      clear hI hx hl
      go_enter Try.func23, Try.ntmps23
      go_wp2
      go_ret3
      exact ⟨rfl, Below.refl _ _⟩
    · rw [if_neg h2] at hI
      rw [hI]
      have g2 : decide ((n : Int) < 3) = false := decide_eq_false (by omega)
      obtain ⟨b2, o2, hk2, he2, _, hc2⟩ := hx.at_ (k := 1) (by omega)
      obtain ⟨b3, o3, hk3, he3, _, hc3⟩ := hx.at_ (k := 2) (by omega)
      simp only [Option.some.injEq, Addr.mk.injEq, and_true] at he2 he3
      obtain ⟨rfl, rfl⟩ := he2
      obtain ⟨rfl, rfl⟩ := he3
      rw [List.getElem?_eq_getElem hk2, List.getElem?_eq_getElem hk3, Option.getD_some, Option.getD_some]
      have l2 := b[1].toNat_lt
      have l3 := b[2].toNat_lt
      generalize b[1].toNat = x at *
      generalize b[2].toNat = y at *
      have hor := i64_or_far x y l2 l3
      have q1 : (1 : Int) < (n : Int) := by omega
      have q2 : (2 : Int) < (n : Int) := by omega
      have HN := Lib.hid (show (c0 : Int) - 128 + 3 = ((c0 - 125 : Nat) : Int) by omega)
      clear hI hx hl
      go_enter Try.func23, Try.ntmps23
      go_wp2_with fail
      go_quiet (fail)
      go_wp2
      go_ret3
      exact ⟨by rw [HN.out]; rfl, below_drewN _ _⟩
end Go.Proofs.Ytpjjfehocibljaa
