/-
  A block's next page is laid: put.
-/
import Derived.Test.YtfcikigdmecbnaaNandOnes
namespace Go.Proofs.Ytfcikigdmecbnaa
open Go.RowKit

set_option maxRecDepth 100000 in
set_option maxHeartbeats 4000000 in
theorem bput_calls (base N0 C BL P K nx : Nat) (x : Cn) (ls : Nat → Option (List UInt8)) (fs : List Fl) (a : Option Addr) (n c : Nat) (L : List UInt8) (w : World) (h : Chp base N0 w C BL P K x nx ls fs) (hn : nx < 8) (hv : PgAt w N0 (.slice a n c) (some L)) :
    Calls Try.prog 27 #[.pointer (some ⟨BL, K * 5, none⟩), .slice a n c] w fun e w' => e = .returned (.tuple #[]) ∧ Chp base N0 w' C BL P K x (nx + 1) (fun i => if i = nx then some L else ls i) fs ∧ Kp C BL P w w' := by
  have hbd : Below w.heap.size w w.drew := ⟨rfl, rfl, rfl, Nat.le_refl _, fun _ _ => rfl⟩
  have hd := (h.on hbd)
  have b0 := hd.b0.1
  have b1 := hd.b1.1
  obtain ⟨vp, p0, p1, _⟩ := hd.page hn
  have H1 := Lib.hid (h.setP nx hv).drew
  have HB1 := Lib.hid (((Kp.refl C BL P w).setCell (p := ⟨P, nx, none⟩) (.inr (.inr rfl)) (.slice a n c)).on (below_drew _))
  have dBP : P ≠ BL := Ne.symm h.dis.2.2.1
  have g1 : (0 : Int) ≤ (nx : Int) := by omega
  have g2 : (nx : Int) < 8 := by omega
  clear h hv hd hbd
  go_enter Try.func27, Try.ntmps27
  go_wp2_with fail
  refine wp_region_noPanic ?_
  refine wp_region_held_drew (S := (fun W' => W'.cell? ⟨BL, K * 5, none⟩ = some (.slice (some ⟨P, 0, none⟩) 8 8) ∧ W'.cell? ⟨BL, K * 5 + 1, none⟩ = some (.int .i64 (nx : Int)))) (by kernel_rfl) ⟨b0, b1⟩ (fun hS0 => ?_)
  refine takeV 0 (v := (.pointer (some ⟨BL, K * 5, none⟩))) rfl (by kernel_rfl) (by kernel_rfl) (by kernel_rfl) (fun _ _ _ h => h) (by rfl) (fun _ _ => rfl) (by assumption) ?_
  try simp only [layR]
  refine takeV 1 (v := (.pointer (some ⟨BL, K * 5, none⟩))) rfl (by kernel_rfl) (by kernel_rfl) (by kernel_rfl) (fun _ _ _ h => h) (by rfl) (fun W hSw => ?_) (by assumption) ?_
  · skip
    go_simp
  try simp only [layR]
  refine takeV 2 (v := (.pointer (some ⟨BL, K * 5, none⟩))) rfl (by kernel_rfl) (by kernel_rfl) (by kernel_rfl) (fun _ _ _ h => h) (by rfl) (fun W hSw => ?_) (by assumption) ?_
  · skip
    go_simp
  try simp only [layR]
  refine takeV 3 (v := (.slice (some ⟨P, 0, none⟩) 8 8)) rfl (by kernel_rfl) (by kernel_rfl) (by kernel_rfl) (fun _ _ _ h => h) (by rfl) (fun W hSw => ?_) (by assumption) ?_
  · have c9 := hSw.1
    go_simp
  try simp only [layR]
  refine takeV 4 (v := (.pointer (some ⟨BL, K * 5, none⟩))) rfl (by kernel_rfl) (by kernel_rfl) (by kernel_rfl) (fun _ _ _ h => h) (by rfl) (fun _ _ => rfl) (by assumption) ?_
  try simp only [layR]
  refine takeV 5 (v := (.pointer (some ⟨BL, K * 5, none⟩))) rfl (by kernel_rfl) (by kernel_rfl) (by kernel_rfl) (fun _ _ _ h => h) (by rfl) (fun W hSw => ?_) (by assumption) ?_
  · skip
    go_simp
  try simp only [layR]
  refine takeV 6 (v := (.pointer (some ⟨BL, K * 5 + 1, none⟩))) rfl (by kernel_rfl) (by kernel_rfl) (by kernel_rfl) (fun _ _ _ h => h) (by rfl) (fun W hSw => ?_) (by assumption) ?_
  · skip
    go_simp
  try simp only [layR]
  refine takeV 7 (v := (.int .i64 (nx : Int))) rfl (by kernel_rfl) (by kernel_rfl) (by kernel_rfl) (fun _ _ _ h => h) (by rfl) (fun W hSw => ?_) (by assumption) ?_
  · have c9 := hSw.2
    go_simp
  try simp only [layR]
  refine takeV 8 (v := (.slice a n c)) rfl (by kernel_rfl) (by kernel_rfl) (by kernel_rfl) (fun _ _ _ h => h) (by rfl) (fun _ _ => rfl) (by assumption) ?_
  try simp only [layR]
  refine takeV 9 (v := (.pointer (some ⟨P, nx, none⟩))) rfl (by kernel_rfl) (by kernel_rfl) (by kernel_rfl) (fun _ _ _ h => h) (by rfl) (fun W hSw => ?_) (by assumption) ?_
  · skip
    go_simp
  try simp only [layR]
  refine wpAnyH_ready (rs := [10]) (by kernel_rfl) (by simp) ?_
  refine AllReadyH.cons rfl (fun K' hK => ?_) AllReadyH.nil
  go_simp
  refine hK.out _ _ ⟨(World.cell?_setCell_far _ _ _ _ (by simpa using dBP)).trans hS0.1, (World.cell?_setCell_far _ _ _ _ (by simpa using dBP)).trans hS0.2⟩ (fun hS1 => ?_)
  try simp only [layR]
  refine wpAnyH_done (by kernel_rfl) ?_ _
  refine NoPanic.normal ?_
  clear hS0 hS1 b0 b1 p0 p1
  obtain ⟨w2, hw2⟩ : ∃ w2, w2 = (w.setCell ⟨P, nx, none⟩ (.slice a n c)).drew := ⟨_, rfl⟩
  rw [← hw2] at H1 HB1
  have c1 := H1.out.b1.1
  have f1 := H1.out.b1.2
  have H2 := Lib.hid (H1.out.setN (nx + 1))
  have HB2 := Lib.hid (HB1.out.setCell (p := ⟨BL, K * 5 + 1, none⟩) (.inr (.inl rfl)) (.int .i64 ((nx + 1 : Nat) : Int)))
  have e1 : ((nx + 1 : Nat) : Int) = (nx : Int) + 1 := by omega
  rw [e1] at H2 HB2
  rw [← hw2]
  clear hw2 e1
  go_wp2
  go_end0
  exact ⟨rfl, H2.out, HB2.out⟩
end Go.Proofs.Ytfcikigdmecbnaa
