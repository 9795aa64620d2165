/-
  A new chip, all its blocks.
-/
import Derived.Test.YtkkkggeagjgbeaaChMem
import Derived.Test.YtkkkggeagjgbeaaNandRight
namespace Go.Proofs.Ytkkkggeagjgbeaa
open Go.RowKit

def rowJ (ps : Nat → Nat) (k j : Nat) : Bv := if j < k then pbV (ps j) (fresh 0) else bv0
/-- The first k blocks have their rows of pages. -/
structure BlJ (g : Nat) (w wr : World) (k : Nat) (ps : Nat → Nat) : Prop where
  hG : Blk wr g 28 #[.int .i64 16, .int .i64 8, .int .i64 64]
  hC : Blk wr (g + 2) 58 (chQ 16 (g + 1) 0 0 0)
  hB : OwnM 5 bvL 54 wr g (.slice (some ⟨g + 1, 0, none⟩) 16 16) ((List.range 16).map (rowJ ps k))
  hP : ∀ j, j < k → Own vId 22 wr g (.slice (some ⟨ps j, 0, none⟩) 8 8) nil8 ∧ g + 2 < ps j ∧ ps j < wr.heap.size
  inj : ∀ i j, i < k → j < k → ps i = ps j → i = j
  hb : Below g w wr
theorem BlJ.on {g k : Nat} {w wr w' : World} {ps : Nat → Nat} (h : BlJ g w wr k ps) (hb : Below wr.heap.size wr w') : BlJ g w w' k ps := by
  obtain ⟨h1, h2, h3, h4, h5, h6⟩ := h
  exact ⟨h1.belowHere hb, h2.belowHere hb, h3.on hb, fun j hj => ⟨(h4 j hj).1.on hb, (h4 j hj).2.1, Nat.lt_of_lt_of_le (h4 j hj).2.2 hb.size⟩, h5, h6.trans (hb.mono (Nat.le_of_lt h1.lt))⟩
theorem BlJ.step {g k : Nat} {w wr : World} {ps : Nat → Nat} (h : BlJ g w wr k ps) (hk : k < 16) :
    BlJ g w ((wr.alloc (.cells (nil8.map vId).toArray 22)).setCell ⟨g + 1, k * 5, none⟩ (.slice (some ⟨wr.heap.size, 0, none⟩) 8 8)) (k + 1) (upd ps k wr.heap.size) := by
  have hlt := h.hC.lt
  have hbe := h.hb
  have ho := ownPgs wr g (by omega)
  have hold := fun j hj => (h.hP j hj).2.2
  have hinj := h.inj
  have hsz : (wr.alloc (.cells (nil8.map vId).toArray 22)).heap.size = wr.heap.size + 1 := by simp
  obtain ⟨h1, h2, h3, h4, h5, h6⟩ := h.on ((Below.refl wr.heap.size wr).alloc (Nat.le_refl _) (.cells (nil8.map vId).toArray 22))
  generalize wr.alloc (.cells (nil8.map vId).toArray 22) = wp at *
  have hset := h3.set (i := k) (j := 0) (u := .slice (some ⟨wr.heap.size, 0, none⟩) 8 8) (y := pbV wr.heap.size (fresh 0)) (by simpa using hk) (by omega) (by
    rw [List.getElem_map, List.getElem_range, rowJ, if_neg (Nat.lt_irrefl _)]; rfl)
  refine ⟨h1.far (by simp) _, h2.far (by simp) _, ?_, fun j hj => ?_, fun i j hi hj e => ?_, h6.setCell (p := ⟨g + 1, k * 5, none⟩) (by simp) _⟩
  · have e : ((List.range 16).map (rowJ ps k)).set k (pbV wr.heap.size (fresh 0)) = (List.range 16).map (rowJ (upd ps k wr.heap.size) (k + 1)) := by
      apply List.ext_getElem
      · simp
      · intro i g1 g2
        rw [List.getElem_set]
        simp only [List.getElem_map, List.getElem_range, rowJ]
        by_cases e : k = i
        · subst e; rw [if_pos rfl, if_pos (by omega), upd_same]
        · rw [if_neg e, upd_other _ _ (Ne.symm e)]
          by_cases e2 : i < k
          · rw [if_pos e2, if_pos (by omega)]
          · rw [if_neg e2, if_neg (by omega)]
    rw [e] at hset
    exact hset
  · by_cases e : j = k
    · subst e
      rw [upd_same]
      exact ⟨ho.far (by simp [Value.ownBlock]; omega) _, hlt, by rw [World.size_setCell]; omega⟩
    · rw [upd_other _ _ e]
      obtain ⟨p1, p2, p3⟩ := h4 j (by omega)
      exact ⟨p1.far (by simp [Value.ownBlock]; omega) _, p2, by rw [World.size_setCell]; exact p3⟩
  · by_cases e1 : i = k
    · by_cases e2 : j = k
      · rw [e1, e2]
      · rw [e1, upd_same, upd_other _ _ e2] at e
        have := hold j (by omega); omega
    · by_cases e2 : j = k
      · rw [e2, upd_same, upd_other _ _ e1] at e
        have := hold i (by omega); omega
      · rw [upd_other _ _ e1, upd_other _ _ e2] at e
        exact hinj i j (by omega) (by omega) e
set_option maxRecDepth 100000 in
set_option maxHeartbeats 4000000 in
theorem blankJ_calls (w : World) :
    Calls Try.prog 18 #[.agg #[.int .i64 16, .int .i64 8, .int .i64 64]] w fun e w' => e = .returned (.pointer (some ⟨w.heap.size + 2, 0, none⟩)) ∧ ∃ ps, BlJ w.heap.size w w' 16 ps := by
  have B1 := Blk.new w 28 #[.int .i64 16, .int .i64 8, .int .i64 64]
  have hb := (Below.refl w.heap.size w).alloc (Nat.le_refl _) (.cells #[.int .i64 16, .int .i64 8, .int .i64 64] 28)
  obtain ⟨w1, hw1⟩ : ∃ w1, w1 = w.alloc (.cells #[.int .i64 16, .int .i64 8, .int .i64 64] 28) := ⟨_, rfl⟩
  obtain ⟨g, hg⟩ : ∃ g, g = w.heap.size := ⟨_, rfl⟩
  have hs1 : w1.heap.size = g + 1 := by rw [hw1, hg]; simp
  rw [← hw1] at B1 hb
  rw [← hg] at B1 hb ⊢
  have HBd := Lib.hid (show Blk w1.drew g 28 #[.int .i64 16, .int .i64 8, .int .i64 64] from B1)
  have HB := Lib.hid hb
  have HS1 := Lib.hid hs1
  have hmk := makeBlk w1.drew
  have HBg := Lib.hid B1
  have hC0 := Blk.new (w1.alloc (.cells (bvs0.flatMap bvL).toArray 54)) 58 (chQ 16 (g + 1) 0 0 0)
  have hG0 := (B1.alloc (.cells (bvs0.flatMap bvL).toArray 54)).alloc (.cells (chQ 16 (g + 1) 0 0 0) 58)
  have hO0 := (ownBlk w1 g (by omega)).alloc (.cells (chQ 16 (g + 1) 0 0 0) 58)
  have hB0 := (hb.alloc (by omega) (.cells (bvs0.flatMap bvL).toArray 54)).alloc (by simp; omega) (.cells (chQ 16 (g + 1) 0 0 0) 58)
  rw [World.size_alloc, hs1] at hC0
  rw [hs1] at hO0
  have HI := Lib.hid (show BlJ g w ((w1.alloc (.cells (bvs0.flatMap bvL).toArray 54)).alloc (.cells (chQ 16 (g + 1) 0 0 0) 58)) 0 (fun _ => 0) from ⟨hG0, hC0, hO0, fun _ h => absurd h (by omega), fun _ _ h => absurd h (by omega), hB0⟩)
  clear B1 hb hC0 hG0 hO0 hB0
  go_enter Try.func18, Try.ntmps18
  go_wp2_with fail
  rw [← hw1, ← hg]
  clear hw1 hg hs1
  refine wp_region_noPanic ?_
  refine wp_region_held_drew (S := (fun W' => Blk W' g 28 #[.int .i64 16, .int .i64 8, .int .i64 64])) (by kernel_rfl) HBd.out (fun hS0 => ?_)
  refine takeV 0 (v := (.agg #[.int .i64 16, .int .i64 8, .int .i64 64])) rfl (by kernel_rfl) (by kernel_rfl) (by kernel_rfl) (fun _ _ _ h => h) (by rfl) (fun W hSw => ?_) (by assumption) ?_
  · have y0 := hSw.cellv (i := 0) rfl; have y1 := hSw.cellv (i := 1) rfl; have y2 := hSw.cellv (i := 2) rfl
    go_simp
  try simp only [layR]
  refine takeV 1 (v := (.pointer (some ⟨g, 0, none⟩))) rfl (by kernel_rfl) (by kernel_rfl) (by kernel_rfl) (fun _ _ _ h => h) (by rfl) (fun W hSw => ?_) (by assumption) ?_
  · skip
    go_simp
  try simp only [layR]
  refine takeV 2 (v := (.int .i64 16)) rfl (by kernel_rfl) (by kernel_rfl) (by kernel_rfl) (fun _ _ _ h => h) (by rfl) (fun W hSw => ?_) (by assumption) ?_
  · have y0 := hSw.cellv (i := 0) rfl
    go_simp
  try simp only [layR]
  refine wpAnyH_ready (rs := [3]) (by kernel_rfl) (by simp) ?_
  refine AllReadyH.cons rfl (fun K' hK => ?_) AllReadyH.nil
  go_simp
  refine hK.out _ _ (HBg.out.alloc _).drew (fun hS1 => ?_)
  try simp only [layR]
  refine takeV 4 (v := (.agg #[.int .i64 16, .int .i64 8, .int .i64 64, .slice (some ⟨w1.heap.size, 0, none⟩) 16 16, .slice none 0 0, .int .i64 0, .bool false, .int .i64 0, .int .i64 0])) rfl (by kernel_rfl) (by kernel_rfl) (by kernel_rfl) (fun _ _ _ h => h) (by rfl) (fun W hSw => ?_) (by assumption) ?_
  · skip
    go_simp
  try simp only [layR]
  refine wpAnyH_ready (rs := [5]) (by kernel_rfl) (by simp) ?_
  refine AllReadyH.cons rfl (fun K' hK => ?_) AllReadyH.nil
  go_simp
  refine hK.out _ _ ((HBg.out.alloc _).alloc _).drew (fun hS2 => ?_)
  try simp only [layR]
  refine takeV 6 (v := (.pointer (some ⟨w1.heap.size + 1, 0, none⟩))) rfl (by kernel_rfl) (by kernel_rfl) (by kernel_rfl) (fun _ _ _ h => h) (by rfl) (fun _ _ => rfl) (by assumption) ?_
  try simp only [layR]
  refine wpAnyH_done (by kernel_rfl) ?_ _
  refine NoPanic.normal ?_
  clear hS0 hS1 hS2 hmk
  rw [HS1.out]
  change Exit.then _ _ _ _ ((w1.alloc (.cells (bvs0.flatMap bvL).toArray 54)).alloc (.cells (chQ 16 (g + 1) 0 0 0) 58)).drew
  have HI3 := HI.out.on (below_drew _)
  generalize ((w1.alloc (.cells (bvs0.flatMap bvL).toArray 54)).alloc (.cells (chQ 16 (g + 1) 0 0 0) 58)).drew = w3 at *
  have c3 : w3.cell? ⟨g + 1 + 1, 3, none⟩ = some (.slice (some ⟨g + 1, 0, none⟩) 16 16) := HI3.hC.cellv rfl
  have HJ := Lib.hid HI3
  clear HI HI3 HB HBd HBg HS1
  go_wp2_with fail
  go_loopw [4, 16] (fun _ i wr => ∃ k : Nat, k ≤ 16 ∧ i = .int .i64 k ∧ ∃ ps, BlJ g w wr k ps) (fun _ i _ => 16 - (intOf i).toNat)
  case atStart => exact ⟨0, by omega, rfl, _, HJ.out⟩
  case round =>
    obtain ⟨k, hk, rfl, ps, hI⟩ := hrel
    have HI := Lib.hid hI
    clear HJ
    by_cases hlt : k < 16
    · have hst := (hI.step hlt).on (below_drew _)
      have HSt := Lib.hid hst
      have hmk := makePgs wr.drew
      have k0 : (0 : Int) ≤ (k : Int) := by omega
      have k1 : (k : Int) < 16 := by omega
      have e3 : wr.drew.cell? ⟨g + 1 + 1, 3, none⟩ = some (.slice (some ⟨g + 1, 0, none⟩) 16 16) := (hI.on (below_drew _)).hC.cellv rfl
      have e1 : wr.drew.cell? ⟨g, 1, none⟩ = some (.int .i64 8) := (hI.on (below_drew _)).hG.cellv rfl
      have hgl := hI.hC.lt
      have HA := Lib.hid (hI.on (((Below.refl wr.heap.size wr).alloc (Nat.le_refl _) (.cells (nil8.map vId).toArray 22)).drew))
      obtain ⟨z1, z2⟩ := HA.out.hB.cellg (i := k) (j := 0) (by simpa using hlt) (by omega)
      obtain ⟨vz, z3⟩ : ∃ vz, ((wr.alloc (.cells (nil8.map vId).toArray 22)).drew).cell? ⟨g + 1, k * 5, none⟩ = some vz := ⟨_, z1⟩
      have z4 : ((wr.alloc (.cells (nil8.map vId).toArray 22)).drew).frozen? ⟨g + 1, k * 5, none⟩ = false := z2
      clear hst z1 z2 hI
      go_upto_region 5 with fail
      refine wp_region_noPanic ?_
      refine wp_region_held_drew (S := (fun W' => W'.cell? ⟨g + 1 + 1, 3, none⟩ = some (.slice (some ⟨g + 1, 0, none⟩) 16 16) ∧ W'.cell? ⟨g, 1, none⟩ = some (.int .i64 8))) (by kernel_rfl) ⟨e3, e1⟩ (fun hS0 => ?_)
      refine takeV 0 (v := (.pointer (some ⟨g + 1 + 1, 0, none⟩))) rfl (by kernel_rfl) (by kernel_rfl) (by kernel_rfl) (fun _ _ _ h => h) (by rfl) (fun _ _ => rfl) (by assumption) ?_
      try simp only [layR]
      refine takeV 1 (v := (.pointer (some ⟨g + 1 + 1, 0, none⟩))) rfl (by kernel_rfl) (by kernel_rfl) (by kernel_rfl) (fun _ _ _ h => h) (by rfl) (fun W hSw => ?_) (by assumption) ?_
      · skip
        go_simp
      try simp only [layR]
      refine takeV 2 (v := (.pointer (some ⟨g + 1 + 1, 3, none⟩))) rfl (by kernel_rfl) (by kernel_rfl) (by kernel_rfl) (fun _ _ _ h => h) (by rfl) (fun W hSw => ?_) (by assumption) ?_
      · skip
        go_simp
      try simp only [layR]
      refine takeV 3 (v := (.slice (some ⟨g + 1, 0, none⟩) 16 16)) rfl (by kernel_rfl) (by kernel_rfl) (by kernel_rfl) (fun _ _ _ h => h) (by rfl) (fun W hSw => ?_) (by assumption) ?_
      · have c9 := hSw.1
        go_simp
      try simp only [layR]
      refine takeV 4 (v := (.int .i64 (k : Int))) rfl (by kernel_rfl) (by kernel_rfl) (by kernel_rfl) (fun _ _ _ h => h) (by rfl) (fun _ _ => rfl) (by assumption) ?_
      try simp only [layR]
      refine takeV 5 (v := (.pointer (some ⟨g, 1, none⟩))) rfl (by kernel_rfl) (by kernel_rfl) (by kernel_rfl) (fun _ _ _ h => h) (by rfl) (fun W hSw => ?_) (by assumption) ?_
      · skip
        go_simp
      try simp only [layR]
      refine takeV 6 (v := (.int .i64 8)) rfl (by kernel_rfl) (by kernel_rfl) (by kernel_rfl) (fun _ _ _ h => h) (by rfl) (fun W hSw => ?_) (by assumption) ?_
      · have c9 := hSw.2
        go_simp
      try simp only [layR]
      refine wpAnyH_ready (rs := [7]) (by kernel_rfl) (by simp) ?_
      refine AllReadyH.cons rfl (fun K' hK => ?_) AllReadyH.nil
      go_simp
      have hlC : g + 1 + 1 < wr.drew.heap.size := hgl
      have hlG : g < wr.drew.heap.size := by show g < wr.heap.size; omega
      have hba := (Below.refl wr.drew.heap.size wr.drew).alloc (Nat.le_refl _) (.cells (nil8.map vId).toArray 22)
      refine hK.out _ _ ⟨(hba.cell (p := ⟨g + 1 + 1, 3, none⟩) hlC).trans hS0.1, (hba.cell (p := ⟨g, 1, none⟩) hlG).trans hS0.2⟩ (fun hS1 => ?_)
      try simp only [layR]
      refine takeV 8 (v := (.pointer (some ⟨g + 1, k * 5, none⟩))) rfl (by kernel_rfl) (by kernel_rfl) (by kernel_rfl) (fun _ _ _ h => h) (by rfl) (fun W hSw => ?_) (by assumption) ?_
      · skip
        go_simp
      try simp only [layR]
      refine takeV 9 (v := (.pointer (some ⟨g + 1, k * 5, none⟩))) rfl (by kernel_rfl) (by kernel_rfl) (by kernel_rfl) (fun _ _ _ h => h) (by rfl) (fun W hSw => ?_) (by assumption) ?_
      · skip
        go_simp
      try simp only [layR]
      refine wpAnyH_ready (rs := [10]) (by kernel_rfl) (by simp) ?_
      refine AllReadyH.cons rfl (fun K' hK => ?_) AllReadyH.nil
      go_simp
      refine hK.out _ _ ⟨(World.cell?_setCell_far _ _ _ _ (by simp)).trans hS1.1, (World.cell?_setCell_far _ _ _ _ (by simp)).trans hS1.2⟩ (fun hS2 => ?_)
      try simp only [layR]
      refine wpAnyH_done (by kernel_rfl) ?_ _
      refine NoPanic.normal ?_
      clear hS0 hS1 hS2 hmk hba
      go_wp2_with fail
      go_roundw
      case rel => exact ⟨k + 1, by omega, by go_num, _, HSt.out⟩
      case measure => simp [intOf]; omega
    · obtain rfl : k = 16 := by omega
      clear hI
      go_wp2_with fail
      go_ret
      exact ⟨rfl, _, HI.out⟩
/-- All that was made is the chip's own. -/
theorem BlJ.chm {g B : Nat} {w wr : World} {ps : Nat → Nat} (h : BlJ g w wr 16 ps) (hB : B ≤ g) : ChM 16 B (fun q => g ≤ q ∧ q < wr.heap.size) wr (g + 2) (g + 1) ps (fun _ => fresh 0) := by
  obtain ⟨h1, h2, h3, h4, h5, h6⟩ := h
  have hlt := h2.lt
  have e : (List.range 16).map (rowJ ps 16) = (List.range 16).map fun k => pbV (ps k) (fresh 0) := List.map_congr_left fun j hj => by rw [rowJ, if_pos (List.mem_range.1 hj)]
  rw [e] at h3
  refine ⟨⟨0, 0, 0, h2⟩, h3.mono (Nat.zero_le _), fun k hk => ⟨nil8, rfl, (h4 k hk).1.mono (Nat.zero_le _), fun i hi => ?_⟩, ⟨by omega, fun j hj => ?_, fun j hj => ?_, h5⟩, fun q hq => ?_, fun q hq => by omega, fun q hq => hq.2⟩
  · exact List.eq_of_mem_replicate (n := 8) (List.getElem_mem hi)
  · have := (h4 j hj).2.1; omega
  · have := (h4 j hj).2.1; omega
  · rcases hq with rfl | rfl | ⟨j, hj, rfl⟩
    · exact ⟨by omega, hlt⟩
    · exact ⟨by omega, by omega⟩
    · exact ⟨by have := (h4 j hj).2.1; omega, (h4 j hj).2.2⟩
set_option maxRecDepth 100000 in
set_option maxHeartbeats 4000000 in
theorem chNew_calls (w : World) :
    Calls Try.prog 4 #[.agg #[.int .i64 16, .int .i64 8, .int .i64 64], .slice none 0 0] w fun e w' => (∃ S C BL ps, e = .returned (.tuple #[.pointer (some ⟨C, 0, none⟩), .int .i64 0]) ∧ ChM 16 w.heap.size S w' C BL ps (fun _ => fresh 0)) ∧ Below w.heap.size w w' := by
  have B1 := Lib.hid (Blk.new w 28 #[.int .i64 16, .int .i64 8, .int .i64 64])
  have HB0 := Lib.hid ((Below.refl w.heap.size w).alloc (Nat.le_refl _) (.cells #[.int .i64 16, .int .i64 8, .int .i64 64] 28))
  go_enter Try.func4, Try.ntmps4
  have c0 := B1.out.cellv (i := 0) rfl
  have c1 := B1.out.cellv (i := 1) rfl
  have c2 := B1.out.cellv (i := 2) rfl
  go_wp2_with fail
  refine (right_calls _).mono ?_
  rintro e w1 ⟨rfl, hb⟩
  have HB1 := Lib.hid (HB0.out.then_ hb)
  have B2 := B1.out.belowHere hb
  clear hb c0 c1 c2 HB0 B1
  have c0 := B2.cellv (i := 0) rfl
  have c1 := B2.cellv (i := 1) rfl
  have c2 := B2.cellv (i := 2) rfl
  clear B2
  go_wp2_with fail
  refine (blankJ_calls _).mono ?_
  rintro e w2 ⟨rfl, ps, hI⟩
  have HB2 := Lib.hid (HB1.out.then_ hI.hb)
  have HC := Lib.hid (hI.chm (B := w.heap.size) HB1.out.size)
  generalize w1.heap.size = g at *
  clear hI c0 c1 c2
  go_wp2
  go_loopw [8, 16] (fun _ i wr => i = .int .i64 0 ∧ wr = w2) (fun _ _ _ => 0)
  case atStart => exact ⟨rfl, rfl⟩
  case round =>
    obtain ⟨rfl, rfl⟩ := hrel
    go_wp2
    go_ret2
    exact ⟨⟨_, _, _, _, rfl, HC.out⟩, HB2.out⟩
end Go.Proofs.Ytkkkggeagjgbeaa
