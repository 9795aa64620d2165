/-
  A stroke without faults.
-/
import Derived.Test.YtiipnpfaaghekaaGreatChAsk
namespace Go.Proofs.YtiipnpfaaghekaaGreat
open Go.RowKit

section
variable {NB B C BL : Nat} {S : Nat → Prop} {w : World} {ps : Nat → Nat} {bl : Nat → Pb}
theorem ChM.set5 (h : ChM NB B S w C BL ps bl) (x : Int) : ChM NB B S (w.setCell ⟨C, 5, none⟩ (.int .i64 x)) C BL ps bl := h.setC 5 _ fun _ sk rd => ⟨x, sk, rd, rfl⟩
theorem ChM.set7 (h : ChM NB B S w C BL ps bl) (x : Int) : ChM NB B S (w.setCell ⟨C, 7, none⟩ (.int .i64 x)) C BL ps bl := h.setC 7 _ fun si _ rd => ⟨si, x, rd, rfl⟩
theorem ChM.set8 (h : ChM NB B S w C BL ps bl) (x : Int) : ChM NB B S (w.setCell ⟨C, 8, none⟩ (.int .i64 x)) C BL ps bl := h.setC 8 _ fun si sk _ => ⟨si, sk, x, rfl⟩
set_option maxHeartbeats 4000000 in
theorem chFault_calls (h : ChM NB B S w C BL ps bl) :
    Calls Tryz.prog 67 #[.pointer (some ⟨C, 0, none⟩)] w fun e w' => e = .returned (.agg #[.int .i64 0, .int .i64 0, .slice none 0 0]) ∧ ChM NB B S w' C BL ps bl ∧ Kq (fun q => q = C) w w' := by
  obtain ⟨si, sk, rd, hC⟩ := h.hC
  have c5 : w.cell? ⟨C, 5, none⟩ = some (.int .i64 si) := hC.cellv rfl
  have c7 : w.cell? ⟨C, 7, none⟩ = some (.int .i64 sk) := hC.cellv rfl
  have c4 := h.c4
  have f5 := h.frzC 5
  have f7 := h.frzC 7
  have hA := (h.set5 (wrap64 (si + 1))).set7 (wrap64 (sk + 1))
  have hK := (Kq.one (w := w) ⟨C, 5, none⟩ (.int .i64 (wrap64 (si + 1)))).setCell (p := ⟨C, 7, none⟩) (.inl rfl) (.int .i64 (wrap64 (sk + 1)))
  have HA := Lib.hid hA
  have HG := Lib.hid (show ((w.setCell ⟨C, 5, none⟩ (.int .i64 (wrap64 (si + 1)))).setCell ⟨C, 7, none⟩ (.int .i64 (wrap64 (sk + 1)))).heap.size = w.heap.size by simp)
  have HK := Lib.hid hK
  have hlt := h.ltC
  clear h hC hA hK
  go_enter Tryz.func67, Tryz.ntmps67
  go_wp2
  go_step3
  go_wp2_with fail
  clear c5 c7 c4 f5 f7
  generalize (w.setCell ⟨C, 5, none⟩ (.int .i64 (wrap64 (si + 1)))).setCell ⟨C, 7, none⟩ (.int .i64 (wrap64 (sk + 1))) = wA at *
  generalize w.heap.size = g at *
  have hbb := ((Below.refl wA.heap.size wA).alloc (Nat.le_refl _) (.cells #[.int .i64 0, .int .i64 0, .slice none 0 0] 114)).alloc (by simp) (.cells #[.int .i64 0, .int .i64 0, .slice none 0 0] 114)
  have ra := (Blk.new wA 114 #[.int .i64 0, .int .i64 0, .slice none 0 0]).alloc (.cells #[.int .i64 0, .int .i64 0, .slice none 0 0] 114)
  have rb := Blk.new (wA.alloc (.cells #[.int .i64 0, .int .i64 0, .slice none 0 0] 114)) 114 #[.int .i64 0, .int .i64 0, .slice none 0 0]
  rw [World.size_alloc] at rb
  rw [HG.out] at ra rb
  have HBb := Lib.hid hbb
  have H2 := HA.out.on hbb
  have c4 := H2.c4
  generalize (wA.alloc (.cells #[.int .i64 0, .int .i64 0, .slice none 0 0] 114)).alloc (.cells #[.int .i64 0, .int .i64 0, .slice none 0 0] 114) = w2 at *
  have e0 := rb.cellv (i := 0) rfl
  have e1 := rb.cellv (i := 1) rfl
  have e2 := rb.cellv (i := 2) rfl
  have i0 := ra.cellv (i := 0) rfl
  have i1 := ra.cellv (i := 1) rfl
  have i2 := ra.cellv (i := 2) rfl
  have j0 := ra.frozen 0
  have j1 := ra.frozen 1
  have j2 := ra.frozen 2
  have HR := Lib.hid ra
  clear hbb H2 ra rb
  go_step3
  go_wp2
  go_loopw [6, 31] (fun _ i wr => i = .int .i64 0 ∧ wr = w2) (fun _ _ _ => 0)
  case atStart => exact ⟨rfl, rfl⟩
  case round =>
    obtain ⟨rfl, rfl⟩ := hrel
    have hgA : wA.heap.size ≤ g := by have := HG.out; omega
    have HB2 := Lib.hid (((HBb.out.setCell (p := ⟨g, 0, none⟩) hgA (.int .i64 0)).setCell (p := ⟨g, 1, none⟩) hgA (.int .i64 0)).setCell (p := ⟨g, 2, none⟩) hgA (.slice none 0 0))
    have hs := ((HR.out.set 0 (.int .i64 0)).set 1 (.int .i64 0)).set 2 (.slice none 0 0)
    have q0 := hs.cellv (i := 0) (v := .int .i64 0) rfl
    have q1 := hs.cellv (i := 1) (v := .int .i64 0) rfl
    have q2 := hs.cellv (i := 2) (v := .slice none 0 0) rfl
    clear hs hgA
    go_wp2
    rw [Exit.noGoto_ret]
    refine bodyPost_ret (v := .agg #[.int .i64 0, .int .i64 0, .slice none 0 0]) (by simp [results, Tryz.results67, go_sem, q0, q1, q2]) rfl ⟨rfl, HA.out.on HB2.out, HK.out.on HB2.out⟩
end
end Go.Proofs.YtiipnpfaaghekaaGreat
