/-
  The small geometry, and that it is right.
-/
import Derived.Test.YtiipnpfaaghekaaGreatNandMem
namespace Go.Proofs.YtiipnpfaaghekaaGreat
open Go.RowKit

def geoA : Array Value := #[.int .i64 16, .int .i64 8, .int .i64 64]
theorem small_calls (w : World) : Calls Tryz.prog 19 #[] w fun e w' => e = .returned (.agg #[.int .i64 16, .int .i64 8, .int .i64 64]) ∧ Below w.heap.size w w' := by
  go_enter Tryz.func19, Tryz.ntmps19
  go_wp2
  refine bodyPost_ret (v := .agg #[.int .i64 16, .int .i64 8, .int .i64 64]) (by simp [results, Tryz.results19, go_sem]) rfl ⟨rfl, ?_⟩
  exact (Below.refl _ _).alloc (Nat.le_refl _) _
theorem index_calls (b o : Nat) (w : World) (h : w.cell? ⟨b, o, none⟩ = some (.int .i64 64)) :
    Calls Tryz.prog 86 #[.slice (some ⟨b, o, none⟩) 4 4, .int .i64 64] w fun e w' => e = .returned (.int .i64 0) ∧ w = w' := by
  go_enter Tryz.func86, Tryz.ntmps86
  go_wp2
  go_loop [5, 8] (fun _ i => i = .int .i64 0) (fun _ _ => 0)
  case atStart => exact rfl
  case round =>
    subst hrel
    go_wp2
    go_ret
    exact ⟨rfl, rfl⟩
theorem contains_calls (b o : Nat) (w : World) (h : w.cell? ⟨b, o, none⟩ = some (.int .i64 64)) :
    Calls Tryz.prog 72 #[.slice (some ⟨b, o, none⟩) 4 4, .int .i64 64] w fun e w' => e = .returned (.bool true) ∧ w = w' := by
  have HI := Lib.hid (index_calls b o w h)
  clear h
  go_enter Tryz.func72, Tryz.ntmps72
  go_wp2_with fail
  refine (HI.out).mono ?_
  rintro e w_ ⟨rfl, rfl⟩
  go_wp2
  go_ret
  exact ⟨rfl, rfl⟩
set_option maxRecDepth 100000 in
set_option maxHeartbeats 4000000 in
theorem right_calls (w : World) : Calls Tryz.prog 46 #[.agg #[.int .i64 16, .int .i64 8, .int .i64 64]] w fun e w' => e = .returned (.bool true) ∧ Below w.heap.size w w' := by
  have B1 := (Blk.new w 48 #[.int .i64 16, .int .i64 8, .int .i64 64]).alloc (.cells #[.int .i64 64, .int .i64 128, .int .i64 256, .int .i64 512] 123)
  have B2 := Blk.new (w.alloc (.cells #[.int .i64 16, .int .i64 8, .int .i64 64] 48)) 123 #[.int .i64 64, .int .i64 128, .int .i64 256, .int .i64 512]
  rw [World.size_alloc] at B2
  have hb := ((Below.refl w.heap.size w).alloc (Nat.le_refl _) (.cells #[.int .i64 16, .int .i64 8, .int .i64 64] 48)).alloc (by simp) (.cells #[.int .i64 64, .int .i64 128, .int .i64 256, .int .i64 512] 123)
  obtain ⟨w2, hw2⟩ : ∃ w2, w2 = (w.alloc (.cells #[.int .i64 16, .int .i64 8, .int .i64 64] 48)).alloc (.cells #[.int .i64 64, .int .i64 128, .int .i64 256, .int .i64 512] 123) := ⟨_, rfl⟩
  obtain ⟨g, hg⟩ : ∃ g, g = w.heap.size := ⟨_, rfl⟩
  obtain ⟨g2, hg2⟩ : ∃ g2, g2 = w.heap.size + 1 := ⟨_, rfl⟩
  rw [← hw2] at B1 B2 hb
  rw [← hg] at B1
  rw [← hg2] at B2
  have HB := Lib.hid hb
  have HB1 := Lib.hid B1
  have HB2 := Lib.hid B2
  have HC := Lib.hid (fun u (h : Blk u g2 123 #[.int .i64 64, .int .i64 128, .int .i64 256, .int .i64 512]) => contains_calls g2 0 u (h.cellv (i := 0) rfl))
  clear B1 B2 hb
  go_enter Tryz.func46, Tryz.ntmps46
  go_wp2_with fail
  rw [← hw2, ← hg2, ← hg]
  clear hw2 hg hg2
  refine wp_region_noPanic ?_
  refine wp_region_held_drew (S := (fun W' => Blk W' g 48 #[.int .i64 16, .int .i64 8, .int .i64 64] ∧ Blk W' g2 123 #[.int .i64 64, .int .i64 128, .int .i64 256, .int .i64 512])) (by kernel_rfl) ⟨HB1.out, HB2.out⟩ (fun hS0 => ?_)
  refine takeV 0 (v := (.pointer (some ⟨g, 0, none⟩))) rfl (by kernel_rfl) (by kernel_rfl) (by kernel_rfl) (fun _ _ _ h => h) (by rfl) (fun W hSw => ?_) (by assumption) ?_
  · skip
    go_simp
  try simp only [layR]
  refine takeV 1 (v := (.int .i64 16)) rfl (by kernel_rfl) (by kernel_rfl) (by kernel_rfl) (fun _ _ _ h => h) (by rfl) (fun W hSw => ?_) (by assumption) ?_
  · have c9 := (hSw.1.cellv (i := 0) rfl)
    go_simp
  try simp only [layR]
  refine takeV 2 (v := (.bool true)) rfl (by kernel_rfl) (by kernel_rfl) (by kernel_rfl) (fun _ _ _ h => h) (by rfl) (fun W hSw => ?_) (by assumption) ?_
  · skip
    go_simp
  try simp only [layR]
  refine takeV 3 (v := (.bool true)) rfl (by kernel_rfl) (by kernel_rfl) (by kernel_rfl) (fun _ _ _ h => h) (by rfl) (fun _ _ => rfl) (by assumption) ?_
  try simp only [layR]
  refine takeV 4 (v := (.pointer (some ⟨g, 0, none⟩))) rfl (by kernel_rfl) (by kernel_rfl) (by kernel_rfl) (fun _ _ _ h => h) (by rfl) (fun W hSw => ?_) (by assumption) ?_
  · skip
    go_simp
  try simp only [layR]
  refine takeV 5 (v := (.int .i64 16)) rfl (by kernel_rfl) (by kernel_rfl) (by kernel_rfl) (fun _ _ _ h => h) (by rfl) (fun W hSw => ?_) (by assumption) ?_
  · have c9 := (hSw.1.cellv (i := 0) rfl)
    go_simp
  try simp only [layR]
  refine takeV 6 (v := (.bool true)) rfl (by kernel_rfl) (by kernel_rfl) (by kernel_rfl) (fun _ _ _ h => h) (by rfl) (fun W hSw => ?_) (by assumption) ?_
  · skip
    go_simp
  try simp only [layR]
  refine takeV 7 (v := (.bool true)) rfl (by kernel_rfl) (by kernel_rfl) (by kernel_rfl) (fun _ _ _ h => h) (by rfl) (fun W hSw => ?_) (by assumption) ?_
  · skip
    go_simp
  try simp only [layR]
  refine takeV 8 (v := (.bool true)) rfl (by kernel_rfl) (by kernel_rfl) (by kernel_rfl) (fun _ _ _ h => h) (by rfl) (fun _ _ => rfl) (by assumption) ?_
  try simp only [layR]
  refine takeV 9 (v := (.pointer (some ⟨g, 1, none⟩))) rfl (by kernel_rfl) (by kernel_rfl) (by kernel_rfl) (fun _ _ _ h => h) (by rfl) (fun W hSw => ?_) (by assumption) ?_
  · skip
    go_simp
  try simp only [layR]
  refine takeV 10 (v := (.int .i64 8)) rfl (by kernel_rfl) (by kernel_rfl) (by kernel_rfl) (fun _ _ _ h => h) (by rfl) (fun W hSw => ?_) (by assumption) ?_
  · have c9 := (hSw.1.cellv (i := 1) rfl)
    go_simp
  try simp only [layR]
  refine takeV 11 (v := (.bool true)) rfl (by kernel_rfl) (by kernel_rfl) (by kernel_rfl) (fun _ _ _ h => h) (by rfl) (fun W hSw => ?_) (by assumption) ?_
  · skip
    go_simp
  try simp only [layR]
  refine takeV 12 (v := (.bool true)) rfl (by kernel_rfl) (by kernel_rfl) (by kernel_rfl) (fun _ _ _ h => h) (by rfl) (fun W hSw => ?_) (by assumption) ?_
  · skip
    go_simp
  try simp only [layR]
  refine takeV 13 (v := (.bool true)) rfl (by kernel_rfl) (by kernel_rfl) (by kernel_rfl) (fun _ _ _ h => h) (by rfl) (fun _ _ => rfl) (by assumption) ?_
  try simp only [layR]
  refine takeV 14 (v := (.pointer (some ⟨g, 1, none⟩))) rfl (by kernel_rfl) (by kernel_rfl) (by kernel_rfl) (fun _ _ _ h => h) (by rfl) (fun W hSw => ?_) (by assumption) ?_
  · skip
    go_simp
  try simp only [layR]
  refine takeV 15 (v := (.int .i64 8)) rfl (by kernel_rfl) (by kernel_rfl) (by kernel_rfl) (fun _ _ _ h => h) (by rfl) (fun W hSw => ?_) (by assumption) ?_
  · have c9 := (hSw.1.cellv (i := 1) rfl)
    go_simp
  try simp only [layR]
  refine takeV 16 (v := (.bool true)) rfl (by kernel_rfl) (by kernel_rfl) (by kernel_rfl) (fun _ _ _ h => h) (by rfl) (fun W hSw => ?_) (by assumption) ?_
  · skip
    go_simp
  try simp only [layR]
  refine takeV 17 (v := (.bool true)) rfl (by kernel_rfl) (by kernel_rfl) (by kernel_rfl) (fun _ _ _ h => h) (by rfl) (fun W hSw => ?_) (by assumption) ?_
  · skip
    go_simp
  try simp only [layR]
  refine takeV 18 (v := (.bool true)) rfl (by kernel_rfl) (by kernel_rfl) (by kernel_rfl) (fun _ _ _ h => h) (by rfl) (fun _ _ => rfl) (by assumption) ?_
  try simp only [layR]
  refine takeV 19 (v := (.slice (some ⟨g2, 0, none⟩) 4 4)) rfl (by kernel_rfl) (by kernel_rfl) (by kernel_rfl) (fun _ _ _ h => h) (by rfl) (fun W hSw => ?_) (by assumption) ?_
  · skip
    go_simp
  try simp only [layR]
  refine takeV 20 (v := (.pointer (some ⟨g, 2, none⟩))) rfl (by kernel_rfl) (by kernel_rfl) (by kernel_rfl) (fun _ _ _ h => h) (by rfl) (fun W hSw => ?_) (by assumption) ?_
  · skip
    go_simp
  try simp only [layR]
  refine takeV 21 (v := (.int .i64 64)) rfl (by kernel_rfl) (by kernel_rfl) (by kernel_rfl) (fun _ _ _ h => h) (by rfl) (fun W hSw => ?_) (by assumption) ?_
  · have c9 := (hSw.1.cellv (i := 2) rfl)
    go_simp
  try simp only [layR]
  refine wpAnyH_ready (rs := [22]) (by kernel_rfl) (by simp) ?_
  refine AllReadyH.cons rfl (fun K' hK => ?_) AllReadyH.nil
  go_simp
  refine (HC.out _ hS0.2).mono ?_
  rintro e w_ ⟨rfl, rfl⟩
  refine hK.out _ _ hS0 (fun hS1 => ?_)
  try simp only [layR]
  refine takeV 23 (v := (.bool true)) rfl (by kernel_rfl) (by kernel_rfl) (by kernel_rfl) (fun _ _ _ h => h) (by rfl) (fun W hSw => ?_) (by assumption) ?_
  · skip
    go_simp
  try simp only [layR]
  refine takeV 24 (v := (.bool true)) rfl (by kernel_rfl) (by kernel_rfl) (by kernel_rfl) (fun _ _ _ h => h) (by rfl) (fun _ _ => rfl) (by assumption) ?_
  try simp only [layR]
  refine wpAnyH_done (by kernel_rfl) ?_ _
  refine NoPanic.normal ?_
  clear hS0 hS1
  go_wp2_with fail
  go_ret
  exact ⟨rfl, HB.out.drew⟩
end Go.Proofs.YtiipnpfaaghekaaGreat
