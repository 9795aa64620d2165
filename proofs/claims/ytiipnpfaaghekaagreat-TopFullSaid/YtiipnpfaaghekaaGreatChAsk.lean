/-
  What a chip is asked: there, full, asked, Up, Geo, Bad, Wear.
-/
import Derived.Test.YtiipnpfaaghekaaGreatChMem
namespace Go.Proofs.YtiipnpfaaghekaaGreat
open Go.RowKit

section
variable {NB B C BL : Nat} {S : Nat → Prop} {w : World} {ps : Nat → Nat} {bl : Nat → Pb}
theorem chThere_calls (h : ChM NB B S w C BL ps bl) {k : Nat} (hk : k < NB) :
    Calls Tryz.prog 56 #[.pointer (some ⟨C, 0, none⟩), .int .i64 (k : Int)] w fun e w' => e = .returned (.bool true) ∧ w = w' := by
  have c3 := h.c3
  have g1 : (0 : Int) ≤ (k : Int) := by omega
  have g2 : (k : Int) < (NB : Int) := by omega
  clear h hk
  go_enter Tryz.func56, Tryz.ntmps56
  go_wp2
  go_ret
  exact ⟨rfl, rfl⟩
theorem chFull_calls (h : ChM NB B S w C BL ps bl) :
    Calls Tryz.prog 59 #[.pointer (some ⟨C, 0, none⟩)] w fun e w' => e = .returned (.int .i64 96) ∧ w = w' := by
  have c2 := h.c2
  clear h
  go_enter Tryz.func59, Tryz.ntmps59
  go_wp2
  go_ret
  exact ⟨rfl, rfl⟩
theorem chAsked_calls (h : ChM NB B S w C BL ps bl) {k i : Nat} (hk : k < NB) (hi : i < 8) :
    Calls Tryz.prog 57 #[.pointer (some ⟨C, 0, none⟩), .int .i64 (k : Int), .int .i64 (i : Int)] w fun e w' => e = .returned (.int .i64 0) ∧ w = w' := by
  have HT := Lib.hid (chThere_calls h hk)
  have c1 := h.c1
  have c6 := h.c6
  have g1 : (0 : Int) ≤ (i : Int) := by omega
  have g2 : (i : Int) < 8 := by omega
  clear h hk hi
  go_enter Tryz.func57, Tryz.ntmps57
  go_wp2_with fail
  refine (HT.out).mono ?_
  rintro e w_ ⟨rfl, rfl⟩
  go_wp2
  go_ret
  exact ⟨rfl, rfl⟩
theorem chUp_calls (h : ChM NB B S w C BL ps bl) :
    Calls Tryz.prog 39 #[.pointer (some ⟨C, 0, none⟩)] w fun e w' => e = .returned (.bool true) ∧ w = w' := by
  have c6 := h.c6
  clear h
  go_enter Tryz.func39, Tryz.ntmps39
  go_wp2
  go_ret
  exact ⟨rfl, rfl⟩
def geoV (NB : Nat) : Value := .agg #[.int .i64 (NB : Int), .int .i64 8, .int .i64 64]
theorem geoCells : Tryz.prog.cellsOf 48 = 3 := by kernel_rfl
theorem chGeo_calls (h : ChM NB B S w C BL ps bl) :
    Calls Tryz.prog 29 #[.pointer (some ⟨C, 0, none⟩)] w fun e w' => e = .returned (geoV NB) ∧ Below w.heap.size w w' := by
  have hb := (Below.refl w.heap.size w).alloc (Nat.le_refl _) (.cells #[.int .i64 0, .int .i64 0, .int .i64 0] 48)
  have h1 := h.on hb
  have hk := Blk.new w 48 #[.int .i64 0, .int .i64 0, .int .i64 0]
  have c0 := h1.c0
  have c1 := h1.c1
  have c2 := h1.c2
  have k0 := hk.cellv (i := 0) rfl
  have k1 := hk.cellv (i := 1) rfl
  have k2 := hk.cellv (i := 2) rfl
  have f0 := hk.frozen 0
  have f1 := hk.frozen 1
  have f2 := hk.frozen 2
  have hcs := geoCells
  clear h h1 hb hk
  go_enter Tryz.func29, Tryz.ntmps29
  go_wp2
  refine bodyPost_ret (v := geoV NB) (by simp [results, Tryz.results29, go_sem, geoV]) rfl ⟨rfl, (Below.refl _ _).alloc (Nat.le_refl _) _⟩
theorem chBad_calls (h : ChM NB B S w C BL ps bl) {k : Nat} (hk : k < NB) :
    Calls Tryz.prog 30 #[.pointer (some ⟨C, 0, none⟩), .int .i64 (k : Int)] w fun e w' => e = .returned (.bool (bl k).bad) ∧ w = w' := by
  have HT := Lib.hid (chThere_calls h hk)
  have c3 := h.c3
  have b3 := (h.b3 hk).1
  have g1 : (0 : Int) ≤ (k : Int) := by omega
  have g2 : (k : Int) < (NB : Int) := by omega
  clear h hk
  go_enter Tryz.func30, Tryz.ntmps30
  go_wp2_with fail
  refine (HT.out).mono ?_
  rintro e w_ ⟨rfl, rfl⟩
  go_wp2
  go_ret
  exact ⟨rfl, rfl⟩
theorem chWear_calls (h : ChM NB B S w C BL ps bl) {k : Nat} (hk : k < NB) :
    Calls Tryz.prog 31 #[.pointer (some ⟨C, 0, none⟩), .int .i64 (k : Int)] w fun e w' => e = .returned (.int .i64 ((bl k).wear : Int)) ∧ w = w' := by
  have HT := Lib.hid (chThere_calls h hk)
  have c3 := h.c3
  have b4 := (h.b4 hk).1
  have g1 : (0 : Int) ≤ (k : Int) := by omega
  have g2 : (k : Int) < (NB : Int) := by omega
  clear h hk
  go_enter Tryz.func31, Tryz.ntmps31
  go_wp2_with fail
  refine (HT.out).mono ?_
  rintro e w_ ⟨rfl, rfl⟩
  go_wp2
  go_ret
  exact ⟨rfl, rfl⟩
end
end Go.Proofs.YtiipnpfaaghekaaGreat
