/-
  A blank chip.
-/
import Derived.Test.YtiipnpfaaghekaaGreatNandRight
import Derived.Deep.DeepCutAuto
namespace Go.Proofs.YtiipnpfaaghekaaGreat
open Go.RowKit

def bv0 : Bv := ⟨.slice none 0 0, 0, false, false, 0⟩
def bvs0 : List Bv := List.replicate 16 bv0
def nil8 : List Value := List.replicate 8 (.slice none 0 0)
set_option maxRecDepth 100000 in
theorem makeBlk (u : World) : (Instr.makeSlice 91 (.int .i64 16) (.int .i64 16)).run Tryz.prog u = .ok (.slice (some ⟨u.heap.size, 0, none⟩) 16 16) (u.alloc (.cells (bvs0.flatMap bvL).toArray 90)) := by
  kernel_rfl
set_option maxRecDepth 100000 in
theorem makePgs (u : World) : (Instr.makeSlice 88 (.int .i64 8) (.int .i64 8)).run Tryz.prog u = .ok (.slice (some ⟨u.heap.size, 0, none⟩) 8 8) (u.alloc (.cells (nil8.map vId).toArray 22)) := by
  kernel_rfl
theorem ownBlk (u : World) (base : Nat) (hb : base ≤ u.heap.size) : OwnM 5 bvL 90 (u.alloc (.cells (bvs0.flatMap bvL).toArray 90)) base (.slice (some ⟨u.heap.size, 0, none⟩) 16 16) bvs0 :=
  ⟨bv_len, by rfl, .inr ⟨u.heap.size, 16, _, rfl, hb, heap_alloc_new u _, Nat.le_refl _, by decide, by rfl, by rfl⟩⟩
theorem ownPgs (u : World) (base : Nat) (hb : base ≤ u.heap.size) : Own vId 22 (u.alloc (.cells (nil8.map vId).toArray 22)) base (.slice (some ⟨u.heap.size, 0, none⟩) 8 8) nil8 :=
  ⟨by rfl, .inr ⟨u.heap.size, 8, _, rfl, hb, heap_alloc_new u _, Nat.le_refl _, by decide, by rfl, by rfl⟩⟩
def cn0 : Cn := ⟨.slice none 0 0, 0, false, 0, 0⟩
/-- The first k blocks have their rows of pages. -/
structure BlI (base K : Nat) (w wr : World) (k : Nat) : Prop where
  hG : Blk wr base 48 #[.int .i64 16, .int .i64 8, .int .i64 64]
  hC : Blk wr (base + 2) 94 (chA (base + 1) cn0)
  hB : ∃ bs : List Bv, bs.length = 16 ∧ OwnM 5 bvL 90 wr base (.slice (some ⟨base + 1, 0, none⟩) 16 16) bs ∧ (k ≤ K → bs[K]? = some bv0) ∧
    (K < k → ∃ P, bs[K]? = some ⟨.slice (some ⟨P, 0, none⟩) 8 8, 0, false, false, 0⟩ ∧ Own vId 22 wr base (.slice (some ⟨P, 0, none⟩) 8 8) nil8 ∧ base + 2 < P)
  hb : Below base w wr
theorem BlI.on {base K k : Nat} {w wr w' : World} (h : BlI base K w wr k) (hb : Below wr.heap.size wr w') : BlI base K w w' k := by
  obtain ⟨h1, h2, ⟨bs, b1, b2, b3, b4⟩, h4⟩ := h
  have hsz : base ≤ wr.heap.size := Nat.le_of_lt h1.lt
  exact ⟨h1.belowHere hb, h2.belowHere hb, ⟨bs, b1, b2.on hb, b3, fun hk => by obtain ⟨P, p1, p2, p3⟩ := b4 hk; exact ⟨P, p1, p2.on hb, p3⟩⟩, h4.trans (hb.mono hsz)⟩
theorem BlI.step {base K k : Nat} {w wr : World} (h : BlI base K w wr k) (hk : k < 16) :
    BlI base K w ((wr.alloc (.cells (nil8.map vId).toArray 22)).setCell ⟨base + 1, k * 5, none⟩ (.slice (some ⟨wr.heap.size, 0, none⟩) 8 8)) (k + 1) := by
  have hlt := h.hC.lt
  have ho := ownPgs wr base (by omega)
  obtain ⟨h1, h2, ⟨bs, b1, b2, b3, b4⟩, h4⟩ := h.on ((Below.refl wr.heap.size wr).alloc (Nat.le_refl _) (.cells (nil8.map vId).toArray 22))
  have b5 : ∀ hKk : K < k, ∃ P, bs[K]? = some ⟨.slice (some ⟨P, 0, none⟩) 8 8, 0, false, false, 0⟩ ∧ Own vId 22 (wr.alloc (.cells (nil8.map vId).toArray 22)) base (.slice (some ⟨P, 0, none⟩) 8 8) nil8 ∧ base + 2 < P := b4
  generalize wr.alloc (.cells (nil8.map vId).toArray 22) = wp at *
  have hkb : k < bs.length := by omega
  have hset := b2.set (i := k) (j := 0) (u := .slice (some ⟨wr.heap.size, 0, none⟩) 8 8) (y := { bs[k] with pages := .slice (some ⟨wr.heap.size, 0, none⟩) 8 8 }) hkb (by omega) rfl
  refine ⟨h1.far (by simp) _, h2.far (by simp) _, ⟨_, by rw [List.length_set]; exact b1, hset, fun hle => ?_, fun hlt2 => ?_⟩, h4.setCell (p := ⟨base + 1, k * 5, none⟩) (by simp) _⟩
  · rw [List.getElem?_set_ne (by omega)]
    exact b3 (by omega)
  · by_cases e : K = k
    · subst e
      refine ⟨wr.heap.size, ?_, ho.far (by simp [Value.ownBlock]; omega) _, hlt⟩
      have hz := b3 (Nat.le_refl _)
      rw [List.getElem?_eq_getElem hkb] at hz
      rw [List.getElem?_set_self hkb, Option.some.inj hz]
      rfl
    · obtain ⟨P, p1, p2, p3⟩ := b5 (by omega)
      exact ⟨P, by rw [List.getElem?_set_ne (by omega)]; exact p1, p2.far (by simp [Value.ownBlock]; omega) _, p3⟩
set_option maxRecDepth 100000 in
set_option maxHeartbeats 4000000 in
theorem blank_calls (K : Nat) (hK : K < 16) (w : World) :
    Calls Tryz.prog 47 #[.agg #[.int .i64 16, .int .i64 8, .int .i64 64]] w fun e w' => e = .returned (.pointer (some ⟨w.heap.size + 2, 0, none⟩)) ∧ BlI w.heap.size K w w' 16 := by
  have B1 := Blk.new w 48 #[.int .i64 16, .int .i64 8, .int .i64 64]
  have hb := (Below.refl w.heap.size w).alloc (Nat.le_refl _) (.cells #[.int .i64 16, .int .i64 8, .int .i64 64] 48)
  obtain ⟨w1, hw1⟩ : ∃ w1, w1 = w.alloc (.cells #[.int .i64 16, .int .i64 8, .int .i64 64] 48) := ⟨_, rfl⟩
  obtain ⟨g, hg⟩ : ∃ g, g = w.heap.size := ⟨_, rfl⟩
  have hs1 : w1.heap.size = g + 1 := by rw [hw1, hg]; simp
  rw [← hw1] at B1 hb
  rw [← hg] at B1 hb ⊢
  have HBd := Lib.hid (show Blk w1.drew g 48 #[.int .i64 16, .int .i64 8, .int .i64 64] from B1)
  have HB := Lib.hid hb
  have HS1 := Lib.hid hs1
  have hmk := makeBlk w1.drew
  have HBg := Lib.hid B1
  have hC0 := Blk.new (w1.alloc (.cells (bvs0.flatMap bvL).toArray 90)) 94 (chA (g + 1) cn0)
  have hG0 := (B1.alloc (.cells (bvs0.flatMap bvL).toArray 90)).alloc (.cells (chA (g + 1) cn0) 94)
  have hO0 := (ownBlk w1 g (by omega)).alloc (.cells (chA (g + 1) cn0) 94)
  have hB0 := (hb.alloc (by omega) (.cells (bvs0.flatMap bvL).toArray 90)).alloc (by simp; omega) (.cells (chA (g + 1) cn0) 94)
  rw [World.size_alloc, hs1] at hC0
  rw [hs1] at hO0
  have HI := Lib.hid (show BlI g K w ((w1.alloc (.cells (bvs0.flatMap bvL).toArray 90)).alloc (.cells (chA (g + 1) cn0) 94)) 0 from ⟨hG0, hC0, ⟨bvs0, rfl, hO0, fun _ => by unfold bvs0; rw [List.getElem?_replicate, if_pos hK], fun h => absurd h (by omega)⟩, hB0⟩)
  clear B1 hb hC0 hG0 hO0 hB0
  go_enter Tryz.func47, Tryz.ntmps47
  go_wp2_with fail
  rw [← hw1, ← hg]
  clear hw1 hg hs1
  refine wp_region_noPanic ?_
  refine wp_region_held_drew (S := (fun W' => Blk W' g 48 #[.int .i64 16, .int .i64 8, .int .i64 64])) (by kernel_rfl) HBd.out (fun hS0 => ?_)
  refine takeV 0 (v := (.agg #[.int .i64 16, .int .i64 8, .int .i64 64])) rfl (by kernel_rfl) (by kernel_rfl) (by kernel_rfl) (fun _ _ _ h => h) (by rfl) (fun W hSw => ?_) (by assumption) ?_
  · have y0 := hSw.cellv (i := 0) rfl; have y1 := hSw.cellv (i := 1) rfl; have y2 := hSw.cellv (i := 2) rfl
    go_simp
  try simp only [layR]
  refine takeV 1 (v := (.pointer (some ⟨g, 0, none⟩))) rfl (by kernel_rfl) (by kernel_rfl) (by kernel_rfl) (fun _ _ _ h => h) (by rfl) (fun W hSw => ?_) (by assumption) ?_
  · skip
    go_simp
  try simp only [layR]
  refine takeV 2 (v := (.int .i64 16)) rfl (by kernel_rfl) (by kernel_rfl) (by kernel_rfl) (fun _ _ _ h => h) (by rfl) (fun W hSw => ?_) (by assumption) ?_
  · have y0 := hSw.cellv (i := 0) rfl
    go_simp
  try simp only [layR]
  refine wpAnyH_ready (rs := [3]) (by kernel_rfl) (by simp) ?_
  refine AllReadyH.cons rfl (fun K' hK => ?_) AllReadyH.nil
  go_simp
  refine hK.out _ _ (HBg.out.alloc _).drew (fun hS1 => ?_)
  try simp only [layR]
  refine takeV 4 (v := (.agg #[.int .i64 16, .int .i64 8, .int .i64 64, .slice (some ⟨w1.heap.size, 0, none⟩) 16 16, .slice none 0 0, .int .i64 0, .bool false, .int .i64 0, .int .i64 0])) rfl (by kernel_rfl) (by kernel_rfl) (by kernel_rfl) (fun _ _ _ h => h) (by rfl) (fun W hSw => ?_) (by assumption) ?_
  · skip
    go_simp
  try simp only [layR]
  refine wpAnyH_ready (rs := [5]) (by kernel_rfl) (by simp) ?_
  refine AllReadyH.cons rfl (fun K' hK => ?_) AllReadyH.nil
  go_simp
  refine hK.out _ _ ((HBg.out.alloc _).alloc _).drew (fun hS2 => ?_)
  try simp only [layR]
  refine takeV 6 (v := (.pointer (some ⟨w1.heap.size + 1, 0, none⟩))) rfl (by kernel_rfl) (by kernel_rfl) (by kernel_rfl) (fun _ _ _ h => h) (by rfl) (fun _ _ => rfl) (by assumption) ?_
  try simp only [layR]
  refine wpAnyH_done (by kernel_rfl) ?_ _
  refine NoPanic.normal ?_
  clear hS0 hS1 hS2 hmk
  rw [HS1.out]
  change Exit.then _ _ _ _ ((w1.alloc (.cells (bvs0.flatMap bvL).toArray 90)).alloc (.cells (chA (g + 1) cn0) 94)).drew
  have HI3 := HI.out.on (below_drew _)
  generalize ((w1.alloc (.cells (bvs0.flatMap bvL).toArray 90)).alloc (.cells (chA (g + 1) cn0) 94)).drew = w3 at *
  have c3 : w3.cell? ⟨g + 1 + 1, 3, none⟩ = some (.slice (some ⟨g + 1, 0, none⟩) 16 16) := HI3.hC.cellv rfl
  have HJ := Lib.hid HI3
  clear HI HI3 HB HBd HBg HS1
  go_wp2_with fail
  go_loopw [4, 16] (fun _ i wr => ∃ k : Nat, k ≤ 16 ∧ i = .int .i64 k ∧ BlI g K w wr k) (fun _ i _ => 16 - (intOf i).toNat)
  case atStart => exact ⟨0, by omega, rfl, HJ.out⟩
  case round =>
    obtain ⟨k, hk, rfl, hI⟩ := hrel
    have HI := Lib.hid hI
    clear HJ
    by_cases hlt : k < 16
    · have hst := (hI.step hlt).on (below_drew _)
      have HSt := Lib.hid hst
      have hmk := makePgs wr.drew
      have k0 : (0 : Int) ≤ (k : Int) := by omega
      have k1 : (k : Int) < 16 := by omega
      have e3 : wr.drew.cell? ⟨g + 1 + 1, 3, none⟩ = some (.slice (some ⟨g + 1, 0, none⟩) 16 16) := (hI.on (below_drew _)).hC.cellv rfl
      have e1 : wr.drew.cell? ⟨g, 1, none⟩ = some (.int .i64 8) := (hI.on (below_drew _)).hG.cellv rfl
      have hgl := hI.hC.lt
      have HA := Lib.hid (hI.on (((Below.refl wr.heap.size wr).alloc (Nat.le_refl _) (.cells (nil8.map vId).toArray 22)).drew))
      obtain ⟨bs, b1, b2, _, _⟩ := HA.out.hB
      obtain ⟨z1, z2⟩ := b2.cellg (i := k) (j := 0) (by omega) (by omega)
      have z3 : ((wr.alloc (.cells (nil8.map vId).toArray 22)).drew).cell? ⟨g + 1, k * 5, none⟩ = some bs[k].pages := z1
      have z4 : ((wr.alloc (.cells (nil8.map vId).toArray 22)).drew).frozen? ⟨g + 1, k * 5, none⟩ = false := z2
      clear hst z1 z2 b2 hI
      go_upto_region 5 with fail
      refine wp_region_noPanic ?_
      refine wp_region_held_drew (S := (fun W' => W'.cell? ⟨g + 1 + 1, 3, none⟩ = some (.slice (some ⟨g + 1, 0, none⟩) 16 16) ∧ W'.cell? ⟨g, 1, none⟩ = some (.int .i64 8))) (by kernel_rfl) ⟨e3, e1⟩ (fun hS0 => ?_)
      refine takeV 0 (v := (.pointer (some ⟨g + 1 + 1, 0, none⟩))) rfl (by kernel_rfl) (by kernel_rfl) (by kernel_rfl) (fun _ _ _ h => h) (by rfl) (fun _ _ => rfl) (by assumption) ?_
      try simp only [layR]
      refine takeV 1 (v := (.pointer (some ⟨g + 1 + 1, 0, none⟩))) rfl (by kernel_rfl) (by kernel_rfl) (by kernel_rfl) (fun _ _ _ h => h) (by rfl) (fun W hSw => ?_) (by assumption) ?_
      · skip
        go_simp
      try simp only [layR]
      refine takeV 2 (v := (.pointer (some ⟨g + 1 + 1, 3, none⟩))) rfl (by kernel_rfl) (by kernel_rfl) (by kernel_rfl) (fun _ _ _ h => h) (by rfl) (fun W hSw => ?_) (by assumption) ?_
      · skip
        go_simp
      try simp only [layR]
      refine takeV 3 (v := (.slice (some ⟨g + 1, 0, none⟩) 16 16)) rfl (by kernel_rfl) (by kernel_rfl) (by kernel_rfl) (fun _ _ _ h => h) (by rfl) (fun W hSw => ?_) (by assumption) ?_
      · have c9 := hSw.1
        go_simp
      try simp only [layR]
      refine takeV 4 (v := (.int .i64 (k : Int))) rfl (by kernel_rfl) (by kernel_rfl) (by kernel_rfl) (fun _ _ _ h => h) (by rfl) (fun _ _ => rfl) (by assumption) ?_
      try simp only [layR]
      refine takeV 5 (v := (.pointer (some ⟨g, 1, none⟩))) rfl (by kernel_rfl) (by kernel_rfl) (by kernel_rfl) (fun _ _ _ h => h) (by rfl) (fun W hSw => ?_) (by assumption) ?_
      · skip
        go_simp
      try simp only [layR]
      refine takeV 6 (v := (.int .i64 8)) rfl (by kernel_rfl) (by kernel_rfl) (by kernel_rfl) (fun _ _ _ h => h) (by rfl) (fun W hSw => ?_) (by assumption) ?_
      · have c9 := hSw.2
        go_simp
      try simp only [layR]
      refine wpAnyH_ready (rs := [7]) (by kernel_rfl) (by simp) ?_
      refine AllReadyH.cons rfl (fun K' hK => ?_) AllReadyH.nil
      go_simp
      have hlC : g + 1 + 1 < wr.drew.heap.size := hgl
      have hlG : g < wr.drew.heap.size := by show g < wr.heap.size; omega
      have hba := (Below.refl wr.drew.heap.size wr.drew).alloc (Nat.le_refl _) (.cells (nil8.map vId).toArray 22)
      refine hK.out _ _ ⟨(hba.cell (p := ⟨g + 1 + 1, 3, none⟩) hlC).trans hS0.1, (hba.cell (p := ⟨g, 1, none⟩) hlG).trans hS0.2⟩ (fun hS1 => ?_)
      try simp only [layR]
      refine takeV 8 (v := (.pointer (some ⟨g + 1, k * 5, none⟩))) rfl (by kernel_rfl) (by kernel_rfl) (by kernel_rfl) (fun _ _ _ h => h) (by rfl) (fun W hSw => ?_) (by assumption) ?_
      · skip
        go_simp
      try simp only [layR]
      refine takeV 9 (v := (.pointer (some ⟨g + 1, k * 5, none⟩))) rfl (by kernel_rfl) (by kernel_rfl) (by kernel_rfl) (fun _ _ _ h => h) (by rfl) (fun W hSw => ?_) (by assumption) ?_
      · skip
        go_simp
      try simp only [layR]
      refine wpAnyH_ready (rs := [10]) (by kernel_rfl) (by simp) ?_
      refine AllReadyH.cons rfl (fun K' hK => ?_) AllReadyH.nil
      go_simp
      refine hK.out _ _ ⟨(World.cell?_setCell_far _ _ _ _ (by simp)).trans hS1.1, (World.cell?_setCell_far _ _ _ _ (by simp)).trans hS1.2⟩ (fun hS2 => ?_)
      try simp only [layR]
      refine wpAnyH_done (by kernel_rfl) ?_ _
      refine NoPanic.normal ?_
      clear hS0 hS1 hS2 hmk hba
      go_wp2_with fail
      go_roundw
      case rel => exact ⟨k + 1, by omega, by go_num, HSt.out⟩
      case measure => simp [intOf]; omega
    · obtain rfl : k = 16 := by omega
      clear hI
      go_wp2_with fail
      go_ret
      exact ⟨rfl, HI.out⟩
end Go.Proofs.YtiipnpfaaghekaaGreat
