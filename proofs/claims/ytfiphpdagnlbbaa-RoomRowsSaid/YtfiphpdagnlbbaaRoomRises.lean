/-
  room.rises.
-/
import Derived.Test.YtfiphpdagnlbbaaRoomRefF
import Derived.Deep.DeepCutAuto
import Derived.Deep.CutBlock
namespace Go.Proofs.Ytfiphpdagnlbbaa
open Go.RowKit

set_option maxHeartbeats 4000000 in
theorem rises_calls (a : Option Addr) (n c : Nat) (xs : List Int) (w : World) (hx : Arr intV w w.heap.size a n xs) (hn : n ≤ 4000) :
    Calls Try.prog 27 #[.slice a n c] w (fun e w' => e = .returned (.bool (decide (Room.Inc xs))) ∧ Below w.heap.size w w') := by
  have hl := hx.len
  have HX := Lib.hid hx
  have HL := Lib.hid hl
  clear hx hl
  obtain ⟨r, hr⟩ : ∃ r, r = decide (Room.Inc xs) := ⟨_, rfl⟩
  rw [← hr]
  have HR := Lib.hid hr
  clear hr
  go_enter Try.func27, Try.ntmps27
  go_wp2
  go_step3
  go_wp2
  go_step3
  go_wp2
  go_loopw [3, 4] (fun g i wr => ∃ k : Nat, 1 ≤ k ∧ k ≤ n + 1 ∧ g = .bool true ∧ i = .int .i64 k ∧ (∀ j (hj : j + 1 < xs.length), j + 1 < k → xs[j] < xs[j + 1]) ∧ ∃ d, wr = w.drewN d) (fun _ i _ => n + 1 - (intOf i).toNat)
  case atStart => exact ⟨1, by omega, by omega, rfl, rfl, by omega, 0, rfl⟩
  case round =>
    obtain ⟨k, hk1, hk2, rfl, rfl, hadj, d, rfl⟩ := hrel
    have HAdj := Lib.hid hadj
    have HDr := Lib.hid (fun e => (show (w.drewN d).drewN e = w.drewN (d + e) from World.drewN_drewN _ _ _))
    clear hadj
    by_cases hlt : k < n
    · obtain ⟨b, o, hj1, rfl, hbb, hc1⟩ := HX.out.atI (k := k) hlt
      obtain ⟨b', o', hj0, hab, _, hc0⟩ := HX.out.atI (k := k - 1) (by omega)
      simp only [Option.some.injEq, Addr.mk.injEq, and_true] at hab
      obtain ⟨rfl, rfl⟩ := hab
      obtain ⟨j, rfl⟩ : ∃ j, k = j + 1 := ⟨k - 1, by omega⟩
      simp only [Nat.add_sub_cancel] at hj0 hc0
      have hc1' : (w.drewN d).cell? ⟨b, o + (j + 1), none⟩ = some (.int .i64 xs[j + 1]) := hc1
      have hc0' : (w.drewN d).cell? ⟨b, o + j, none⟩ = some (.int .i64 xs[j]) := hc0
      have HY := Lib.hid (fun h : xs[j] < xs[j + 1] => (show ∀ i (hi : i + 1 < xs.length), i + 1 < j + 1 + 1 → xs[i] < xs[i + 1] from fun i hi h2 => by
        by_cases e : i = j
        · subst e; exact h
        · exact HAdj.out i hi (by omega)))
      have HNo := Lib.hid (fun h : xs[j + 1] ≤ xs[j] => (show ¬ Room.Inc xs from fun hinc => by
        have := List.pairwise_iff_getElem.1 hinc j (j + 1) hj0 hj1 (by omega); omega))
      generalize xs[j + 1] = y at *
      generalize xs[j] = x at *
      have q1 : IntKind.i64.wrap ((j : Int) + 1 - 1) = (j : Int) := by rw [show (j : Int) + 1 - 1 = j by omega]; exact IntWalk.i64_in _ ⟨by omega, by omega⟩
      have q2 : (0 : Int) ≤ (j : Int) := by omega
      have q3 : (j : Int) < (n : Int) := by omega
      have q4 : (0 : Int) ≤ (j : Int) + 1 := by omega
      have q5 : (j : Int) + 1 < (n : Int) := by omega
      have q6 : ((j : Int) + 1).toNat = j + 1 := by omega
      clear hc1 hc0
      by_cases hyx : y ≤ x
      · have g1 : decide (y ≤ x) = true := decide_eq_true hyx
        have HF := Lib.hid (HR.out.trans (decide_eq_false (HNo.out hyx)))
        clear hyx
        generalize w.drewN d = wz at *
        go_wp2_with fail
        go_quiet (fail)
        go_wp2
        rw [Exit.noGoto_ret]
        go_ret
        exact ⟨by rw [HF.out]; rfl, by rw [HDr.out]; exact below_dN _ _⟩
      · have g1 : decide (y ≤ x) = false := decide_eq_false hyx
        have HY2 := Lib.hid (HY.out (by omega))
        clear hyx
        generalize w.drewN d = wz at *
        go_wp2_with fail
        go_quiet (fail)
        go_wp2
        go_roundw
        case rel => exact ⟨j + 1 + 1, by omega, by omega, rfl, by go_num, HY2.out, d + nq, HDr.out nq⟩
        case measure => simp [intOf]; omega
    · have hinc := Lib.hid (Room.inc_adj (l := xs) fun i hi => HAdj.out i hi (by have := HL.out; omega))
      have g9 : decide ((k : Int) < (n : Int)) = false := decide_eq_false (by omega)
      have HBw := Lib.hid (show Below w.heap.size w (w.drewN d) from below_dN w d)
      have HF := Lib.hid (HR.out.trans (decide_eq_true hinc.out))
      clear HAdj HDr
      generalize w.drewN d = wz at *
      go_wp2
      rw [Exit.noGoto_ret]
      go_ret
      exact ⟨by rw [HF.out]; rfl, HBw.out⟩
end Go.Proofs.Ytfiphpdagnlbbaa
