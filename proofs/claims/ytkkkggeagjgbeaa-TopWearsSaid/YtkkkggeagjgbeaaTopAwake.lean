/-
  A new chip.
-/
/-
  What must come of fixed calls.
-/
import Derived.Test.YtkkkggeagjgbeaaNandBlank
import Derived.Test.YtkkkggeagjgbeaaNandProg
import Derived.Test.YtkkkggeagjgbeaaTagWrite
namespace Go.Proofs.Ytkkkggeagjgbeaa
open Go.RowKit

def noPg : Nat → Option (List UInt8) := fun _ => none
/-- A blank chip, as the chip in memory. -/
theorem BlI.chp {base B K : Nat} {w wr : World} (h : BlI base K w wr 16) (hK : K < 16) (hB : B ≤ base) : ∃ P, Chp B wr.heap.size wr (base + 2) (base + 1) P K cn0 0 noPg [] := by
  obtain ⟨h1, h2, ⟨bs, b1, b2, b3, b4⟩, h4⟩ := h
  obtain ⟨P, p1, p2, p3⟩ := b4 hK
  have hP : P < wr.heap.size := (p2.blockLt P rfl).2
  have hC := h2.lt
  refine ⟨P, h2, ⟨bs, b1, p1, b2.mono hB⟩, ⟨nil8, rfl, p2.mono hB, fun i hi => ?_⟩, Flts.nil _ _, ⟨by omega, by omega, by omega, hC, by omega, hP, by omega, by omega, by omega⟩, hK, Nat.le_refl _⟩
  show nil8[i] = .slice none 0 0
  exact List.eq_of_mem_replicate (n := 8) (List.getElem_mem hi)
set_option maxRecDepth 100000 in
set_option maxHeartbeats 4000000 in
theorem new_calls (K : Nat) (hK : K < 16) (w : World) :
    Calls Try.prog 4 #[.agg #[.int .i64 16, .int .i64 8, .int .i64 64], .slice none 0 0] w fun e w' => (∃ C BL P, e = .returned (.tuple #[.pointer (some ⟨C, 0, none⟩), .int .i64 0]) ∧ Chp w.heap.size w'.heap.size w' C BL P K cn0 0 noPg []) ∧ Below w.heap.size w w' := by
  have B1 := Lib.hid (Blk.new w 28 #[.int .i64 16, .int .i64 8, .int .i64 64])
  have HB0 := Lib.hid ((Below.refl w.heap.size w).alloc (Nat.le_refl _) (.cells #[.int .i64 16, .int .i64 8, .int .i64 64] 28))
  go_enter Try.func4, Try.ntmps4
  have c0 := B1.out.cellv (i := 0) rfl
  have c1 := B1.out.cellv (i := 1) rfl
  have c2 := B1.out.cellv (i := 2) rfl
  go_wp2_with fail
  refine (right_calls _).mono ?_
  rintro e w1 ⟨rfl, hb⟩
  have HB1 := Lib.hid (HB0.out.then_ hb)
  have B2 := B1.out.belowHere hb
  clear hb c0 c1 c2 HB0 B1
  have c0 := B2.cellv (i := 0) rfl
  have c1 := B2.cellv (i := 1) rfl
  have c2 := B2.cellv (i := 2) rfl
  clear B2
  go_wp2_with fail
  refine (blank_calls K hK _).mono ?_
  rintro e w2 ⟨rfl, hI⟩
  have HB2 := Lib.hid (HB1.out.then_ hI.hb)
  obtain ⟨P, hC⟩ := hI.chp (B := w.heap.size) hK HB1.out.size
  have HC := Lib.hid hC
  generalize w1.heap.size = g at *
  clear hI hC c0 c1 c2
  go_wp2
  go_loopw [8, 16] (fun _ i wr => i = .int .i64 0 ∧ wr = w2) (fun _ _ _ => 0)
  case atStart => exact ⟨rfl, rfl⟩
  case round =>
    obtain ⟨rfl, rfl⟩ := hrel
    go_wp2
    go_ret2
    exact ⟨⟨_, _, _, rfl, HC.out⟩, HB2.out⟩
end Go.Proofs.Ytkkkggeagjgbeaa
namespace Go.Proofs.Ytkkkggeagjgbeaa
open Go.RowKit

theorem mk64 (u : World) : (Instr.makeSlice 22 (.int .i64 64) (.int .i64 64)).run Try.prog u = .ok (.slice (some ⟨u.heap.size, 0, none⟩) 64 64) (u.alloc (.cells (Array.replicate 64 (.int .u8 0)) 5)) := makeZ 64 (by omega) u
namespace Tg
def ones : Tg := ⟨1, 1, 1, 1⟩
theorem ones_right : Right ones := by decide
end Tg
set_option maxHeartbeats 4000000 in
theorem awake_calls (w : World) :
    Calls Try.prog 16 #[] w fun e w' => e = .returned (.bool true) ∧ Below w.heap.size w w' := by
  have hmk := mk64
  go_enter Try.func16, Try.ntmps16
  go_wp2_with fail
  refine (small_calls _).mono ?_
  rintro e w1 ⟨rfl, h_⟩
  have HB1 := Lib.hid h_
  clear h_
  go_wp2_with fail
  refine (new_calls 0 (by omega) _).mono ?_
  rintro e w2 ⟨⟨C, BL, P, rfl, hc⟩, hb⟩
  have HB2 := Lib.hid (HB1.out.then_ hb)
  have ho := ownMadeZ w2 w2.heap.size 64 (Nat.le_refl _) (by omega)
  have HX := Lib.hid (ho.arr (by simp))
  have hba := (Below.refl w2.heap.size w2).alloc (Nat.le_refl _) (.cells (Array.replicate 64 (.int .u8 0)) 5)
  have HC := Lib.hid (hc.on hba)
  have HB3 := Lib.hid (HB2.out.then_ hba)
  clear hb hc ho hba
  go_wp2_with fail
  refine (twrite_good Tg.ones _ 64 64 (List.replicate 64 0) _ Tg.ones_right (by decide) HX.out).mono ?_
  rintro e w4 ⟨⟨v, rfl, ho⟩, hb⟩
  have hlen : (Tg.page Tg.ones (List.replicate 64 0)).length = 96 := by rw [Tg.page_len]; rfl
  obtain ⟨a, c, rfl, hcc⟩ := ho.formN hlen
  have HC4 := Lib.hid (HC.out.on hb)
  have HB4 := Lib.hid (HB3.out.then_ hb)
  have HO4 := Lib.hid (ho.mono HC.out.hN)
  clear hb ho hcc hmk hlen
  go_wp2_with fail
  refine (program_ok _ _ C BL P 0 0 cn0 noPg [] a c _ _ HC4.out rfl (by omega) HO4.out rfl (by decide) (by decide) (by decide)).mono ?_
  rintro e w5 ⟨rfl, h5, hk5⟩
  have HB5 := Lib.hid (HC4.out.below hk5)
  clear h5 hk5
  go_wp2
  go_ret
  exact ⟨rfl, HB4.out.trans (HB5.out.mono HB1.out.size)⟩
end Go.Proofs.Ytkkkggeagjgbeaa
