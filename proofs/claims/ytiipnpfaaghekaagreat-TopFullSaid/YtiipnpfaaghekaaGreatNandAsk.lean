/-
  The chip asked: there, asked, full, Start.
-/
import Derived.Test.YtiipnpfaaghekaaGreatNandMem
namespace Go.Proofs.YtiipnpfaaghekaaGreat
open Go.RowKit

theorem there_calls (base N0 C BL P K nx : Nat) (x : Cn) (ls : Nat → Option (List UInt8)) (fs : List Fl) (w : World) (h : Chp base N0 w C BL P K x nx ls fs) :
    Calls Tryz.prog 56 #[.pointer (some ⟨C, 0, none⟩), .int .i64 (K : Int)] w fun e w' => e = .returned (.bool true) ∧ w = w' := by
  have c3 := h.c3
  have g1 : (0 : Int) ≤ (K : Int) := by omega
  have g2 : decide ((K : Int) < 16) = true := decide_eq_true (by have := h.hK; omega)
  have g3 : (K : Int) < 16 := by have := h.hK; omega
  clear h
  go_enter Tryz.func56, Tryz.ntmps56
  go_wp2
  go_ret
  exact ⟨rfl, rfl⟩
theorem full_calls (base N0 C BL P K nx : Nat) (x : Cn) (ls : Nat → Option (List UInt8)) (fs : List Fl) (w : World) (h : Chp base N0 w C BL P K x nx ls fs) :
    Calls Tryz.prog 59 #[.pointer (some ⟨C, 0, none⟩)] w fun e w' => e = .returned (.int .i64 96) ∧ w = w' := by
  have c2 := h.c2
  clear h
  go_enter Tryz.func59, Tryz.ntmps59
  go_wp2
  go_ret
  exact ⟨rfl, rfl⟩
theorem asked_calls (base N0 C BL P K nx i : Nat) (x : Cn) (ls : Nat → Option (List UInt8)) (fs : List Fl) (w : World) (h : Chp base N0 w C BL P K x nx ls fs) (hd : x.dn = false) (hi : i < 8) :
    Calls Tryz.prog 57 #[.pointer (some ⟨C, 0, none⟩), .int .i64 (K : Int), .int .i64 (i : Int)] w fun e w' => e = .returned (.int .i64 0) ∧ w = w' := by
  have c1 := h.c1
  have c6 := h.c6
  rw [hd] at c6
  have HT := Lib.hid (there_calls base N0 C BL P K nx x ls fs w h)
  have g1 : decide ((i : Int) < 0) = false := decide_eq_false (by omega)
  have g2 : (i : Int) < 8 := by omega
  clear h hd
  go_enter Tryz.func57, Tryz.ntmps57
  go_wp2_with fail
  refine (HT.out).mono ?_
  rintro e w_ ⟨rfl, rfl⟩
  go_wp2
  go_ret
  exact ⟨rfl, rfl⟩
end Go.Proofs.YtiipnpfaaghekaaGreat
