import Derived.Test.YtcppkaphlcflgaaGreatChFault
import Derived.Test.YtcppkaphlcflgaaGreatNandBlank
import Derived.Test.YtcppkaphlcflgaaGreatChRead
import Derived.Test.YtcppkaphlcflgaaGreatSlClone
import Derived.Test.YtcppkaphlcflgaaGreatFtlPut2
import Derived.Test.YtcppkaphlcflgaaGreatFtlFmt
namespace Go.Proofs.YtcppkaphlcflgaaGreat
open Go.RowKit

def rowJ (ps : Nat → Nat) (k j : Nat) : Bv := if j < k then pbV (ps j) (fresh 0) else bv0
structure BlJ (g : Nat) (w wr : World) (k : Nat) (ps : Nat → Nat) : Prop where
 hG : Blk wr g 66 #[.int .i64 16, .int .i64 8, .int .i64 64]
 hC : Blk wr (g + 2) 130 (chQ 16 (g + 1) 0 0 0)
 hB : OwnM 5 bvL 126 wr g (.slice (some ⟨g + 1, 0, none⟩) 16 16) ((List.range 16).map (rowJ ps k))
 hP : ∀ j, j < k → Own vId 40 wr g (.slice (some ⟨ps j, 0, none⟩) 8 8) nil8 ∧ g + 2 < ps j ∧ ps j < wr.heap.size
 inj : ∀ i j, i < k → j < k → ps i = ps j → i = j
 hb : Below g w wr
theorem BlJ.on {g k : Nat} {w wr w' : World} {ps : Nat → Nat} (h : BlJ g w wr k ps) (hb : Below wr.heap.size wr w') : BlJ g w w' k ps := by
 obtain ⟨h1, h2, h3, h4, h5, h6⟩ := h
 exact ⟨h1.belowHere hb, h2.belowHere hb, h3.on hb, fun j hj => ⟨(h4 j hj).1.on hb, (h4 j hj).2.1, Nat.lt_of_lt_of_le (h4 j hj).2.2 hb.size⟩, h5, h6.trans (hb.mono (Nat.le_of_lt h1.lt))⟩
theorem BlJ.step {g k : Nat} {w wr : World} {ps : Nat → Nat} (h : BlJ g w wr k ps) (hk : k < 16) :
  BlJ g w ((wr.alloc (.cells (nil8.map vId).toArray 40)).setCell ⟨g + 1, k * 5, none⟩ (.slice (some ⟨wr.heap.size, 0, none⟩) 8 8)) (k + 1) (upd ps k wr.heap.size) := by
 have hlt := h.hC.lt
 have hbe := h.hb
 have ho := ownPgs wr g (by omega)
 have hold := fun j hj => (h.hP j hj).2.2
 have hinj := h.inj
 have hsz : (wr.alloc (.cells (nil8.map vId).toArray 40)).heap.size = wr.heap.size + 1 := by simp
 obtain ⟨h1, h2, h3, h4, h5, h6⟩ := h.on ((Below.refl wr.heap.size wr).alloc (Nat.le_refl _) (.cells (nil8.map vId).toArray 40))
 generalize wr.alloc (.cells (nil8.map vId).toArray 40) = wp at *
 have hset := h3.set (i := k) (j := 0) (u := .slice (some ⟨wr.heap.size, 0, none⟩) 8 8) (y := pbV wr.heap.size (fresh 0)) (by simpa using hk) (by omega) (by
  rw [List.getElem_map, List.getElem_range, rowJ, if_neg (Nat.lt_irrefl _)]; rfl)
 refine ⟨h1.far (by simp) _, h2.far (by simp) _, ?_, fun j hj => ?_, fun i j hi hj e => ?_, h6.setCell (p := ⟨g + 1, k * 5, none⟩) (by simp) _⟩
 ·have e : ((List.range 16).map (rowJ ps k)).set k (pbV wr.heap.size (fresh 0)) = (List.range 16).map (rowJ (upd ps k wr.heap.size) (k + 1)) := by
   apply List.ext_getElem
   ·simp
   ·intro i g1 g2
    rw [List.getElem_set]
    simp only [List.getElem_map, List.getElem_range, rowJ]
    by_cases e : k = i
    ·subst e; rw [if_pos rfl, if_pos (by omega), upd_same]
    ·rw [if_neg e, upd_other _ _ (Ne.symm e)]
     by_cases e2 : i < k
     ·rw [if_pos e2, if_pos (by omega)]
     ·rw [if_neg e2, if_neg (by omega)]
  rw [e] at hset
  exact hset
 ·by_cases e : j = k
  ·subst e
   rw [upd_same]
   exact ⟨ho.far (by simp [Value.ownBlock]; omega) _, hlt, by rw [World.size_setCell]; omega⟩
  ·rw [upd_other _ _ e]
   obtain ⟨p1, p2, p3⟩ := h4 j (by omega)
   exact ⟨p1.far (by simp [Value.ownBlock]; omega) _, p2, by rw [World.size_setCell]; exact p3⟩
 ·by_cases e1 : i = k
  ·by_cases e2 : j = k
   ·rw [e1, e2]
   ·rw [e1, upd_same, upd_other _ _ e2] at e
    have := hold j (by omega); omega
  ·by_cases e2 : j = k
   ·rw [e2, upd_same, upd_other _ _ e1] at e
    have := hold i (by omega); omega
   ·rw [upd_other _ _ e1, upd_other _ _ e2] at e
    exact hinj i j (by omega) (by omega) e
set_option maxRecDepth 100000 in
set_option maxHeartbeats 4000000 in
theorem blankJ_calls (w : World) :
  Calls Tryz.prog 60 #[.agg #[.int .i64 16, .int .i64 8, .int .i64 64]] w fun e w' => e = .returned (.pointer (some ⟨w.heap.size + 2, 0, none⟩)) ∧ ∃ ps, BlJ w.heap.size w w' 16 ps := by
 have B1 := Blk.new w 66 #[.int .i64 16, .int .i64 8, .int .i64 64]
 have hb := (Below.refl w.heap.size w).alloc (Nat.le_refl _) (.cells #[.int .i64 16, .int .i64 8, .int .i64 64] 66)
 obtain ⟨w1, hw1⟩ : ∃ w1, w1 = w.alloc (.cells #[.int .i64 16, .int .i64 8, .int .i64 64] 66) := ⟨_, rfl⟩
 obtain ⟨g, hg⟩ : ∃ g, g = w.heap.size := ⟨_, rfl⟩
 have hs1 : w1.heap.size = g + 1 := by rw [hw1, hg]; simp
 rw [← hw1] at B1 hb
 rw [← hg] at B1 hb ⊢
 have HBd := Lib.hid (show Blk w1.drew g 66 #[.int .i64 16, .int .i64 8, .int .i64 64] from B1)
 have HB := Lib.hid hb
 have HS1 := Lib.hid hs1
 have hmk := makeBlk w1.drew
 have HBg := Lib.hid B1
 have hC0 := Blk.new (w1.alloc (.cells (bvs0.flatMap bvL).toArray 126)) 130 (chQ 16 (g + 1) 0 0 0)
 have hG0 := (B1.alloc (.cells (bvs0.flatMap bvL).toArray 126)).alloc (.cells (chQ 16 (g + 1) 0 0 0) 130)
 have hO0 := (ownBlk w1 g (by omega)).alloc (.cells (chQ 16 (g + 1) 0 0 0) 130)
 have hB0 := (hb.alloc (by omega) (.cells (bvs0.flatMap bvL).toArray 126)).alloc (by simp; omega) (.cells (chQ 16 (g + 1) 0 0 0) 130)
 rw [World.size_alloc, hs1] at hC0
 rw [hs1] at hO0
 have HI := Lib.hid (show BlJ g w ((w1.alloc (.cells (bvs0.flatMap bvL).toArray 126)).alloc (.cells (chQ 16 (g + 1) 0 0 0) 130)) 0 (fun _ => 0) from ⟨hG0, hC0, hO0, fun _ h => absurd h (by omega), fun _ _ h => absurd h (by omega), hB0⟩)
 clear B1 hb hC0 hG0 hO0 hB0
 go_enter Tryz.func60, Tryz.ntmps60
 go_wp2_with fail
 rw [← hw1, ← hg]
 clear hw1 hg hs1
 refine wp_region_noPanic ?_
 refine wp_region_held_drew (S := (fun W' => Blk W' g 66 #[.int .i64 16, .int .i64 8, .int .i64 64])) (by kernel_rfl) HBd.out (fun hS0 => ?_)
 refine takeV 0 (v := (.agg #[.int .i64 16, .int .i64 8, .int .i64 64])) rfl (by kernel_rfl) (by kernel_rfl) (by kernel_rfl) (fun _ _ _ h => h) (by rfl) (fun W hSw => ?_) (by assumption) ?_
 ·have y0 := hSw.cellv (i := 0) rfl; have y1 := hSw.cellv (i := 1) rfl; have y2 := hSw.cellv (i := 2) rfl
  go_simp
 try simp only [layR]
 refine takeV 1 (v := (.pointer (some ⟨g, 0, none⟩))) rfl (by kernel_rfl) (by kernel_rfl) (by kernel_rfl) (fun _ _ _ h => h) (by rfl) (fun W hSw => ?_) (by assumption) ?_
 ·skip
  go_simp
 try simp only [layR]
 refine takeV 2 (v := (.int .i64 16)) rfl (by kernel_rfl) (by kernel_rfl) (by kernel_rfl) (fun _ _ _ h => h) (by rfl) (fun W hSw => ?_) (by assumption) ?_
 ·have y0 := hSw.cellv (i := 0) rfl
  go_simp
 try simp only [layR]
 refine wpAnyH_ready (rs := [3]) (by kernel_rfl) (by simp) ?_
 refine AllReadyH.cons rfl (fun K' hK => ?_) AllReadyH.nil
 go_simp
 refine hK.out _ _ (HBg.out.alloc _).drew (fun hS1 => ?_)
 try simp only [layR]
 refine takeV 4 (v := (.agg #[.int .i64 16, .int .i64 8, .int .i64 64, .slice (some ⟨w1.heap.size, 0, none⟩) 16 16, .slice none 0 0, .int .i64 0, .bool false, .int .i64 0, .int .i64 0])) rfl (by kernel_rfl) (by kernel_rfl) (by kernel_rfl) (fun _ _ _ h => h) (by rfl) (fun W hSw => ?_) (by assumption) ?_
 ·skip
  go_simp
 try simp only [layR]
 refine wpAnyH_ready (rs := [5]) (by kernel_rfl) (by simp) ?_
 refine AllReadyH.cons rfl (fun K' hK => ?_) AllReadyH.nil
 go_simp
 refine hK.out _ _ ((HBg.out.alloc _).alloc _).drew (fun hS2 => ?_)
 try simp only [layR]
 refine takeV 6 (v := (.pointer (some ⟨w1.heap.size + 1, 0, none⟩))) rfl (by kernel_rfl) (by kernel_rfl) (by kernel_rfl) (fun _ _ _ h => h) (by rfl) (fun _ _ => rfl) (by assumption) ?_
 try simp only [layR]
 refine wpAnyH_done (by kernel_rfl) ?_ _
 refine NoPanic.normal ?_
 clear hS0 hS1 hS2 hmk
 rw [HS1.out]
 change Exit.then _ _ _ _ ((w1.alloc (.cells (bvs0.flatMap bvL).toArray 126)).alloc (.cells (chQ 16 (g + 1) 0 0 0) 130)).drew
 have HI3 := HI.out.on (below_drew _)
 generalize ((w1.alloc (.cells (bvs0.flatMap bvL).toArray 126)).alloc (.cells (chQ 16 (g + 1) 0 0 0) 130)).drew = w3 at *
 have c3 : w3.cell? ⟨g + 1 + 1, 3, none⟩ = some (.slice (some ⟨g + 1, 0, none⟩) 16 16) := HI3.hC.cellv rfl
 have HJ := Lib.hid HI3
 clear HI HI3 HB HBd HBg HS1
 go_wp2_with fail
 go_loopw [4, 16] (fun _ i wr => ∃ k : Nat, k ≤ 16 ∧ i = .int .i64 k ∧ ∃ ps, BlJ g w wr k ps) (fun _ i _ => 16 - (intOf i).toNat)
 case atStart => exact ⟨0, by omega, rfl, _, HJ.out⟩
 case round =>
  obtain ⟨k, hk, rfl, ps, hI⟩ := hrel
  have HI := Lib.hid hI
  clear HJ
  by_cases hlt : k < 16
  ·have hst := (hI.step hlt).on (below_drew _)
   have HSt := Lib.hid hst
   have hmk := makePgs wr.drew
   have k0 : (0 : Int) ≤ (k : Int) := by omega
   have k1 : (k : Int) < 16 := by omega
   have e3 : wr.drew.cell? ⟨g + 1 + 1, 3, none⟩ = some (.slice (some ⟨g + 1, 0, none⟩) 16 16) := (hI.on (below_drew _)).hC.cellv rfl
   have e1 : wr.drew.cell? ⟨g, 1, none⟩ = some (.int .i64 8) := (hI.on (below_drew _)).hG.cellv rfl
   have hgl := hI.hC.lt
   have HA := Lib.hid (hI.on (((Below.refl wr.heap.size wr).alloc (Nat.le_refl _) (.cells (nil8.map vId).toArray 40)).drew))
   obtain ⟨z1, z2⟩ := HA.out.hB.cellg (i := k) (j := 0) (by simpa using hlt) (by omega)
   obtain ⟨vz, z3⟩ : ∃ vz, ((wr.alloc (.cells (nil8.map vId).toArray 40)).drew).cell? ⟨g + 1, k * 5, none⟩ = some vz := ⟨_, z1⟩
   have z4 : ((wr.alloc (.cells (nil8.map vId).toArray 40)).drew).frozen? ⟨g + 1, k * 5, none⟩ = false := z2
   clear hst z1 z2 hI
   go_upto_region 5 with fail
   refine wp_region_noPanic ?_
   refine wp_region_held_drew (S := (fun W' => W'.cell? ⟨g + 1 + 1, 3, none⟩ = some (.slice (some ⟨g + 1, 0, none⟩) 16 16) ∧ W'.cell? ⟨g, 1, none⟩ = some (.int .i64 8))) (by kernel_rfl) ⟨e3, e1⟩ (fun hS0 => ?_)
   refine takeV 0 (v := (.pointer (some ⟨g + 1 + 1, 0, none⟩))) rfl (by kernel_rfl) (by kernel_rfl) (by kernel_rfl) (fun _ _ _ h => h) (by rfl) (fun _ _ => rfl) (by assumption) ?_
   try simp only [layR]
   refine takeV 1 (v := (.pointer (some ⟨g + 1 + 1, 0, none⟩))) rfl (by kernel_rfl) (by kernel_rfl) (by kernel_rfl) (fun _ _ _ h => h) (by rfl) (fun W hSw => ?_) (by assumption) ?_
   ·skip
    go_simp
   try simp only [layR]
   refine takeV 2 (v := (.pointer (some ⟨g + 1 + 1, 3, none⟩))) rfl (by kernel_rfl) (by kernel_rfl) (by kernel_rfl) (fun _ _ _ h => h) (by rfl) (fun W hSw => ?_) (by assumption) ?_
   ·skip
    go_simp
   try simp only [layR]
   refine takeV 3 (v := (.slice (some ⟨g + 1, 0, none⟩) 16 16)) rfl (by kernel_rfl) (by kernel_rfl) (by kernel_rfl) (fun _ _ _ h => h) (by rfl) (fun W hSw => ?_) (by assumption) ?_
   ·have c9 := hSw.1
    go_simp
   try simp only [layR]
   refine takeV 4 (v := (.int .i64 (k : Int))) rfl (by kernel_rfl) (by kernel_rfl) (by kernel_rfl) (fun _ _ _ h => h) (by rfl) (fun _ _ => rfl) (by assumption) ?_
   try simp only [layR]
   refine takeV 5 (v := (.pointer (some ⟨g, 1, none⟩))) rfl (by kernel_rfl) (by kernel_rfl) (by kernel_rfl) (fun _ _ _ h => h) (by rfl) (fun W hSw => ?_) (by assumption) ?_
   ·skip
    go_simp
   try simp only [layR]
   refine takeV 6 (v := (.int .i64 8)) rfl (by kernel_rfl) (by kernel_rfl) (by kernel_rfl) (fun _ _ _ h => h) (by rfl) (fun W hSw => ?_) (by assumption) ?_
   ·have c9 := hSw.2
    go_simp
   try simp only [layR]
   refine wpAnyH_ready (rs := [7]) (by kernel_rfl) (by simp) ?_
   refine AllReadyH.cons rfl (fun K' hK => ?_) AllReadyH.nil
   go_simp
   have hlC : g + 1 + 1 < wr.drew.heap.size := hgl
   have hlG : g < wr.drew.heap.size := by show g < wr.heap.size; omega
   have hba := (Below.refl wr.drew.heap.size wr.drew).alloc (Nat.le_refl _) (.cells (nil8.map vId).toArray 40)
   refine hK.out _ _ ⟨(hba.cell (p := ⟨g + 1 + 1, 3, none⟩) hlC).trans hS0.1, (hba.cell (p := ⟨g, 1, none⟩) hlG).trans hS0.2⟩ (fun hS1 => ?_)
   try simp only [layR]
   refine takeV 8 (v := (.pointer (some ⟨g + 1, k * 5, none⟩))) rfl (by kernel_rfl) (by kernel_rfl) (by kernel_rfl) (fun _ _ _ h => h) (by rfl) (fun W hSw => ?_) (by assumption) ?_
   ·skip
    go_simp
   try simp only [layR]
   refine takeV 9 (v := (.pointer (some ⟨g + 1, k * 5, none⟩))) rfl (by kernel_rfl) (by kernel_rfl) (by kernel_rfl) (fun _ _ _ h => h) (by rfl) (fun W hSw => ?_) (by assumption) ?_
   ·skip
    go_simp
   try simp only [layR]
   refine wpAnyH_ready (rs := [10]) (by kernel_rfl) (by simp) ?_
   refine AllReadyH.cons rfl (fun K' hK => ?_) AllReadyH.nil
   go_simp
   refine hK.out _ _ ⟨(World.cell?_setCell_far _ _ _ _ (by simp)).trans hS1.1, (World.cell?_setCell_far _ _ _ _ (by simp)).trans hS1.2⟩ (fun hS2 => ?_)
   try simp only [layR]
   refine wpAnyH_done (by kernel_rfl) ?_ _
   refine NoPanic.normal ?_
   clear hS0 hS1 hS2 hmk hba
   go_wp2_with fail
   go_roundw
   case rel => exact ⟨k + 1, by omega, by go_num, _, HSt.out⟩
   case measure => simp [intOf]; omega
  ·obtain rfl : k = 16 := by omega
   clear hI
   go_wp2_with fail
   go_ret
   exact ⟨rfl, _, HI.out⟩
theorem BlJ.chm {g B : Nat} {w wr : World} {ps : Nat → Nat} (h : BlJ g w wr 16 ps) (hB : B ≤ g) : ChM 16 B (fun q => g ≤ q ∧ q < wr.heap.size) wr (g + 2) (g + 1) ps (fun _ => fresh 0) := by
 obtain ⟨h1, h2, h3, h4, h5, h6⟩ := h
 have hlt := h2.lt
 have e : (List.range 16).map (rowJ ps 16) = (List.range 16).map fun k => pbV (ps k) (fresh 0) := List.map_congr_left fun j hj => by rw [rowJ, if_pos (List.mem_range.1 hj)]
 rw [e] at h3
 refine ⟨⟨0, 0, 0, h2⟩, h3.mono (Nat.zero_le _), fun k hk => ⟨nil8, rfl, (h4 k hk).1.mono (Nat.zero_le _), fun i hi => ?_⟩, ⟨by omega, fun j hj => ?_, fun j hj => ?_, h5⟩, fun q hq => ?_, fun q hq => by omega, fun q hq => hq.2⟩
 ·exact List.eq_of_mem_replicate (n := 8) (List.getElem_mem hi)
 ·have := (h4 j hj).2.1; omega
 ·have := (h4 j hj).2.1; omega
 ·rcases hq with rfl | rfl | ⟨j, hj, rfl⟩
  ·exact ⟨by omega, hlt⟩
  ·exact ⟨by omega, by omega⟩
  ·exact ⟨by have := (h4 j hj).2.1; omega, (h4 j hj).2.2⟩
set_option maxRecDepth 100000 in
set_option maxHeartbeats 4000000 in
theorem chNew_calls (w : World) :
  Calls Tryz.prog 23 #[.agg #[.int .i64 16, .int .i64 8, .int .i64 64], .slice none 0 0] w fun e w' => (∃ S C BL ps, e = .returned (.tuple #[.pointer (some ⟨C, 0, none⟩), .int .i64 0]) ∧ ChM 16 w.heap.size S w' C BL ps (fun _ => fresh 0)) ∧ Below w.heap.size w w' := by
 have B1 := Lib.hid (Blk.new w 66 #[.int .i64 16, .int .i64 8, .int .i64 64])
 have HB0 := Lib.hid ((Below.refl w.heap.size w).alloc (Nat.le_refl _) (.cells #[.int .i64 16, .int .i64 8, .int .i64 64] 66))
 go_enter Tryz.func23, Tryz.ntmps23
 have c0 := B1.out.cellv (i := 0) rfl
 have c1 := B1.out.cellv (i := 1) rfl
 have c2 := B1.out.cellv (i := 2) rfl
 go_wp2_with fail
 refine (right_calls _).mono ?_
 rintro e w1 ⟨rfl, hb⟩
 have HB1 := Lib.hid (HB0.out.then_ hb)
 have B2 := B1.out.belowHere hb
 clear hb c0 c1 c2 HB0 B1
 have c0 := B2.cellv (i := 0) rfl
 have c1 := B2.cellv (i := 1) rfl
 have c2 := B2.cellv (i := 2) rfl
 clear B2
 go_wp2_with fail
 refine (blankJ_calls _).mono ?_
 rintro e w2 ⟨rfl, ps, hI⟩
 have HB2 := Lib.hid (HB1.out.then_ hI.hb)
 have HC := Lib.hid (hI.chm (B := w.heap.size) HB1.out.size)
 generalize w1.heap.size = g at *
 clear hI c0 c1 c2
 go_wp2
 go_loopw [8, 16] (fun _ i wr => i = .int .i64 0 ∧ wr = w2) (fun _ _ _ => 0)
 case atStart => exact ⟨rfl, rfl⟩
 case round =>
  obtain ⟨rfl, rfl⟩ := hrel
  go_wp2
  go_ret2
  exact ⟨⟨_, _, _, _, rfl, HC.out⟩, HB2.out⟩
end Go.Proofs.YtcppkaphlcflgaaGreat
namespace Go.Proofs.YtcppkaphlcflgaaGreat
open Go.RowKit

set_option maxRecDepth 100000 in
set_option maxHeartbeats 4000000 in
theorem bput_calls (base N0 C BL P K nx : Nat) (x : Cn) (ls : Nat → Option (List UInt8)) (fs : List Fl) (a : Option Addr) (n c : Nat) (L : List UInt8) (w : World) (h : Chp base N0 w C BL P K x nx ls fs) (hn : nx < 8) (hv : PgAt w N0 (.slice a n c) (some L)) :
  Calls Tryz.prog 91 #[.pointer (some ⟨BL, K * 5, none⟩), .slice a n c] w fun e w' => e = .returned (.tuple #[]) ∧ Chp base N0 w' C BL P K x (nx + 1) (fun i => if i = nx then some L else ls i) fs ∧ Kp C BL P w w' := by
 have hbd : Below w.heap.size w w.drew := ⟨rfl, rfl, rfl, Nat.le_refl _, fun _ _ => rfl⟩
 have hd := (h.on hbd)
 have b0 := hd.b0.1
 have b1 := hd.b1.1
 obtain ⟨vp, p0, p1, _⟩ := hd.page hn
 have H1 := Lib.hid (h.setP nx hv).drew
 have HB1 := Lib.hid (((Kp.refl C BL P w).setCell (p := ⟨P, nx, none⟩) (.inr (.inr rfl)) (.slice a n c)).on (below_drew _))
 have dBP : P ≠ BL := Ne.symm h.dis.2.2.1
 have g1 : (0 : Int) ≤ (nx : Int) := by omega
 have g2 : (nx : Int) < 8 := by omega
 clear h hv hd hbd
 go_enter Tryz.func91, Tryz.ntmps91
 go_wp2_with fail
 refine wp_region_noPanic ?_
 refine wp_region_held_drew (S := (fun W' => W'.cell? ⟨BL, K * 5, none⟩ = some (.slice (some ⟨P, 0, none⟩) 8 8) ∧ W'.cell? ⟨BL, K * 5 + 1, none⟩ = some (.int .i64 (nx : Int)))) (by kernel_rfl) ⟨b0, b1⟩ (fun hS0 => ?_)
 refine takeV 0 (v := (.pointer (some ⟨BL, K * 5, none⟩))) rfl (by kernel_rfl) (by kernel_rfl) (by kernel_rfl) (fun _ _ _ h => h) (by rfl) (fun _ _ => rfl) (by assumption) ?_
 try simp only [layR]
 refine takeV 1 (v := (.pointer (some ⟨BL, K * 5, none⟩))) rfl (by kernel_rfl) (by kernel_rfl) (by kernel_rfl) (fun _ _ _ h => h) (by rfl) (fun W hSw => ?_) (by assumption) ?_
 ·skip
  go_simp
 try simp only [layR]
 refine takeV 2 (v := (.pointer (some ⟨BL, K * 5, none⟩))) rfl (by kernel_rfl) (by kernel_rfl) (by kernel_rfl) (fun _ _ _ h => h) (by rfl) (fun W hSw => ?_) (by assumption) ?_
 ·skip
  go_simp
 try simp only [layR]
 refine takeV 3 (v := (.slice (some ⟨P, 0, none⟩) 8 8)) rfl (by kernel_rfl) (by kernel_rfl) (by kernel_rfl) (fun _ _ _ h => h) (by rfl) (fun W hSw => ?_) (by assumption) ?_
 ·have c9 := hSw.1
  go_simp
 try simp only [layR]
 refine takeV 4 (v := (.pointer (some ⟨BL, K * 5, none⟩))) rfl (by kernel_rfl) (by kernel_rfl) (by kernel_rfl) (fun _ _ _ h => h) (by rfl) (fun _ _ => rfl) (by assumption) ?_
 try simp only [layR]
 refine takeV 5 (v := (.pointer (some ⟨BL, K * 5, none⟩))) rfl (by kernel_rfl) (by kernel_rfl) (by kernel_rfl) (fun _ _ _ h => h) (by rfl) (fun W hSw => ?_) (by assumption) ?_
 ·skip
  go_simp
 try simp only [layR]
 refine takeV 6 (v := (.pointer (some ⟨BL, K * 5 + 1, none⟩))) rfl (by kernel_rfl) (by kernel_rfl) (by kernel_rfl) (fun _ _ _ h => h) (by rfl) (fun W hSw => ?_) (by assumption) ?_
 ·skip
  go_simp
 try simp only [layR]
 refine takeV 7 (v := (.int .i64 (nx : Int))) rfl (by kernel_rfl) (by kernel_rfl) (by kernel_rfl) (fun _ _ _ h => h) (by rfl) (fun W hSw => ?_) (by assumption) ?_
 ·have c9 := hSw.2
  go_simp
 try simp only [layR]
 refine takeV 8 (v := (.slice a n c)) rfl (by kernel_rfl) (by kernel_rfl) (by kernel_rfl) (fun _ _ _ h => h) (by rfl) (fun _ _ => rfl) (by assumption) ?_
 try simp only [layR]
 refine takeV 9 (v := (.pointer (some ⟨P, nx, none⟩))) rfl (by kernel_rfl) (by kernel_rfl) (by kernel_rfl) (fun _ _ _ h => h) (by rfl) (fun W hSw => ?_) (by assumption) ?_
 ·skip
  go_simp
 try simp only [layR]
 refine wpAnyH_ready (rs := [10]) (by kernel_rfl) (by simp) ?_
 refine AllReadyH.cons rfl (fun K' hK => ?_) AllReadyH.nil
 go_simp
 refine hK.out _ _ ⟨(World.cell?_setCell_far _ _ _ _ (by simpa using dBP)).trans hS0.1, (World.cell?_setCell_far _ _ _ _ (by simpa using dBP)).trans hS0.2⟩ (fun hS1 => ?_)
 try simp only [layR]
 refine wpAnyH_done (by kernel_rfl) ?_ _
 refine NoPanic.normal ?_
 clear hS0 hS1 b0 b1 p0 p1
 obtain ⟨w2, hw2⟩ : ∃ w2, w2 = (w.setCell ⟨P, nx, none⟩ (.slice a n c)).drew := ⟨_, rfl⟩
 rw [← hw2] at H1 HB1
 have c1 := H1.out.b1.1
 have f1 := H1.out.b1.2
 have H2 := Lib.hid (H1.out.setN (nx + 1))
 have HB2 := Lib.hid (HB1.out.setCell (p := ⟨BL, K * 5 + 1, none⟩) (.inr (.inl rfl)) (.int .i64 ((nx + 1 : Nat) : Int)))
 have e1 : ((nx + 1 : Nat) : Int) = (nx : Int) + 1 := by omega
 rw [e1] at H2 HB2
 rw [← hw2]
 clear hw2 e1
 go_wp2
 go_end0
 exact ⟨rfl, H2.out, HB2.out⟩
end Go.Proofs.YtcppkaphlcflgaaGreat
namespace Go.Proofs.YtcppkaphlcflgaaGreat
open Go.RowKit

set_option maxRecDepth 100000 in
set_option maxHeartbeats 4000000 in
theorem program_ok (base N0 C BL P K i : Nat) (x : Cn) (ls : Nat → Option (List UInt8)) (fs : List Fl) (a : Option Addr) (c : Nat) (bs : List UInt8) (w : World) (h : Chp base N0 w C BL P K x i ls fs) (hd : x.dn = false) (hi : i < 8) (hx : Own byteV 5 w N0 (.slice a 96 c) bs) (hk : (fnd fs x.si).kind = 0) (hsi : x.si ≤ 1000000) (hsk : x.sk ≤ 1000000) (hfl : fs.length ≤ 1000) :
  Calls Tryz.prog 46 #[.pointer (some ⟨C, 0, none⟩), .int .i64 (K : Int), .int .i64 (i : Int), .slice a 96 c] w fun e w' => e = .returned (.int .i64 0) ∧ Chp base N0 w' C BL P K { x with si := x.si + 1, sk := x.sk + 1 } (i + 1) (fun j => if j = i then some bs else ls j) fs ∧ Kp C BL P w w' := by
 have HA := Lib.hid (asked_calls base N0 C BL P K i i x ls fs w h hd hi)
 have HF := Lib.hid (full_calls base N0 C BL P K i x ls fs w h)
 have HFa := Lib.hid (fault_calls base N0 C BL P K i x ls fs w h hsi hsk hfl)
 rw [hk] at HFa
 have c3 := h.c3
 have b1 := h.b1.1
 have b2 := h.b2.1
 have b3 := h.b3.1
 have g1 : (0 : Int) ≤ (K : Int) := by omega
 have g2 : (K : Int) < 16 := by have := h.hK; omega
 have HX := Lib.hid hx
 have HLen := Lib.hid (show bs.length = 96 by obtain ⟨_, _, e, _⟩ := hx.form; injection e with _ e2 _; exact e2.symm)
 have hd4 := h.dis.2.2.2.1
 have hd5 := h.dis.2.2.2.2.1
 have hd6 := h.dis.2.2.2.2.2.1
 clear h hx hd hk
 go_enter Tryz.func46, Tryz.ntmps46
 go_wp2_with fail
 refine (HA.out).mono ?_
 rintro e w_ ⟨rfl, rfl⟩
 go_wp2_with fail
 refine HF.out.mono ?_
 rintro e w_ ⟨rfl, rfl⟩
 go_wp2_with fail
 refine HFa.out.mono ?_
 rintro e w1 ⟨⟨no, dv, rfl, hdv⟩, h1, hk1⟩
 obtain ⟨ad, nd, rfl, hnd⟩ := hdv.form
 have H1 := Lib.hid (h1.on ((Below.refl w1.heap.size w1).alloc (Nat.le_refl _) (.cells #[.int .i64 no, .int .i64 0, .slice ad (fnd fs x.si).data.length nd] 159)))
 have HK1 := Lib.hid (hk1.on ((Below.refl w1.heap.size w1).alloc (Nat.le_refl _) (.cells #[.int .i64 no, .int .i64 0, .slice ad (fnd fs x.si).data.length nd] 159)))
 have HO1 := Lib.hid (Own.kp HX.out HK1.out hd4 hd5 hd6)
 clear h1 hk1 hdv hnd
 generalize (fnd fs x.si).data.length = m at *
 go_wp2_with fail
 refine (clone_calls a 96 c bs _ (HO1.out.arr (by rw [HLen.out]; omega))).mono ?_
 rintro e w3 ⟨⟨v, rfl, hv⟩, hb3⟩
 have H3 := Lib.hid (H1.out.on hb3)
 have HK3 := Lib.hid (HK1.out.on hb3)
 have hlen := HLen.out
 obtain ⟨a3, c3, rfl, hc3⟩ := hv.formN hlen
 have HV := Lib.hid (show PgAt w3 N0 (.slice a3 96 c3) (some bs) from ⟨by rw [hlen]; omega, hv.mono H1.out.hN⟩)
 clear hb3 hv hc3 hlen
 go_wp2_with fail
 refine (bput_calls base N0 C BL P K i _ ls fs a3 96 c3 bs w3 H3.out hi HV.out).mono ?_
 rintro e w4 ⟨rfl, h4, hk4⟩
 have H4 := Lib.hid h4
 have HK4 := Lib.hid (HK3.out.trans hk4)
 clear h4 hk4
 go_wp2_with fail
 go_ret
 exact ⟨rfl, H4.out, HK4.out⟩
end Go.Proofs.YtcppkaphlcflgaaGreat
namespace Go.Proofs.YtcppkaphlcflgaaGreat
open Go.RowKit

def noPg : Nat → Option (List UInt8) := fun _ => none
theorem BlI.chp {base B K : Nat} {w wr : World} (h : BlI base K w wr 16) (hK : K < 16) (hB : B ≤ base) : ∃ P, Chp B wr.heap.size wr (base + 2) (base + 1) P K cn0 0 noPg [] := by
 obtain ⟨h1, h2, ⟨bs, b1, b2, b3, b4⟩, h4⟩ := h
 obtain ⟨P, p1, p2, p3⟩ := b4 hK
 have hP : P < wr.heap.size := (p2.blockLt P rfl).2
 have hC := h2.lt
 refine ⟨P, h2, ⟨bs, b1, p1, b2.mono hB⟩, ⟨nil8, rfl, p2.mono hB, fun i hi => ?_⟩, Flts.nil _ _, ⟨by omega, by omega, by omega, hC, by omega, hP, by omega, by omega, by omega⟩, hK, Nat.le_refl _⟩
 show nil8[i] = .slice none 0 0
 exact List.eq_of_mem_replicate (n := 8) (List.getElem_mem hi)
set_option maxRecDepth 100000 in
set_option maxHeartbeats 4000000 in
theorem new_calls (K : Nat) (hK : K < 16) (w : World) :
  Calls Tryz.prog 23 #[.agg #[.int .i64 16, .int .i64 8, .int .i64 64], .slice none 0 0] w fun e w' => (∃ C BL P, e = .returned (.tuple #[.pointer (some ⟨C, 0, none⟩), .int .i64 0]) ∧ Chp w.heap.size w'.heap.size w' C BL P K cn0 0 noPg []) ∧ Below w.heap.size w w' := by
 have B1 := Lib.hid (Blk.new w 66 #[.int .i64 16, .int .i64 8, .int .i64 64])
 have HB0 := Lib.hid ((Below.refl w.heap.size w).alloc (Nat.le_refl _) (.cells #[.int .i64 16, .int .i64 8, .int .i64 64] 66))
 go_enter Tryz.func23, Tryz.ntmps23
 have c0 := B1.out.cellv (i := 0) rfl
 have c1 := B1.out.cellv (i := 1) rfl
 have c2 := B1.out.cellv (i := 2) rfl
 go_wp2_with fail
 refine (right_calls _).mono ?_
 rintro e w1 ⟨rfl, hb⟩
 have HB1 := Lib.hid (HB0.out.then_ hb)
 have B2 := B1.out.belowHere hb
 clear hb c0 c1 c2 HB0 B1
 have c0 := B2.cellv (i := 0) rfl
 have c1 := B2.cellv (i := 1) rfl
 have c2 := B2.cellv (i := 2) rfl
 clear B2
 go_wp2_with fail
 refine (blank_calls K hK _).mono ?_
 rintro e w2 ⟨rfl, hI⟩
 have HB2 := Lib.hid (HB1.out.then_ hI.hb)
 obtain ⟨P, hC⟩ := hI.chp (B := w.heap.size) hK HB1.out.size
 have HC := Lib.hid hC
 generalize w1.heap.size = g at *
 clear hI hC c0 c1 c2
 go_wp2
 go_loopw [8, 16] (fun _ i wr => i = .int .i64 0 ∧ wr = w2) (fun _ _ _ => 0)
 case atStart => exact ⟨rfl, rfl⟩
 case round =>
  obtain ⟨rfl, rfl⟩ := hrel
  go_wp2
  go_ret2
  exact ⟨⟨_, _, _, rfl, HC.out⟩, HB2.out⟩
end Go.Proofs.YtcppkaphlcflgaaGreat
namespace Go.Proofs.YtcppkaphlcflgaaGreat
open Go.RowKit

theorem mk64 (u : World) : (Instr.makeSlice 40 (.int .i64 64) (.int .i64 64)).run Tryz.prog u = .ok (.slice (some ⟨u.heap.size, 0, none⟩) 64 64) (u.alloc (.cells (Array.replicate 64 (.int .u8 0)) 5)) := makeZ 64 (by omega) u
namespace Tg
def ones : Tg := ⟨1, 1, 1, 1⟩
theorem ones_right : Right ones := by decide
end Tg
set_option maxHeartbeats 4000000 in
theorem awake_calls (w : World) :
  Calls Tryz.prog 14 #[] w fun e w' => e = .returned (.bool true) ∧ Below w.heap.size w w' := by
 have hmk := mk64
 go_enter Tryz.func14, Tryz.ntmps14
 go_wp2_with fail
 refine (small_calls _).mono ?_
 rintro e w1 ⟨rfl, h_⟩
 have HB1 := Lib.hid h_
 clear h_
 go_wp2_with fail
 refine (new_calls 0 (by omega) _).mono ?_
 rintro e w2 ⟨⟨C, BL, P, rfl, hc⟩, hb⟩
 have HB2 := Lib.hid (HB1.out.then_ hb)
 have ho := ownMadeZ w2 w2.heap.size 64 (Nat.le_refl _) (by omega)
 have HX := Lib.hid (ho.arr (by simp))
 have hba := (Below.refl w2.heap.size w2).alloc (Nat.le_refl _) (.cells (Array.replicate 64 (.int .u8 0)) 5)
 have HC := Lib.hid (hc.on hba)
 have HB3 := Lib.hid (HB2.out.then_ hba)
 clear hb hc ho hba
 go_wp2_with fail
 refine (twrite_good Tg.ones _ 64 64 (List.replicate 64 0) _ Tg.ones_right (by decide) HX.out).mono ?_
 rintro e w4 ⟨⟨v, rfl, ho⟩, hb⟩
 have hlen : (Tg.page Tg.ones (List.replicate 64 0)).length = 96 := by rw [Tg.page_len]; rfl
 obtain ⟨a, c, rfl, hcc⟩ := ho.formN hlen
 have HC4 := Lib.hid (HC.out.on hb)
 have HB4 := Lib.hid (HB3.out.then_ hb)
 have HO4 := Lib.hid (ho.mono HC.out.hN)
 clear hb ho hcc hmk hlen
 go_wp2_with fail
 refine (program_ok _ _ C BL P 0 0 cn0 noPg [] a c _ _ HC4.out rfl (by omega) HO4.out rfl (by decide) (by decide) (by decide)).mono ?_
 rintro e w5 ⟨rfl, h5, hk5⟩
 have HB5 := Lib.hid (HC4.out.below hk5)
 clear h5 hk5
 go_wp2
 go_ret
 exact ⟨rfl, HB4.out.trans (HB5.out.mono HB1.out.size)⟩
end Go.Proofs.YtcppkaphlcflgaaGreat
namespace Go.Proofs.YtcppkaphlcflgaaGreat
open Go.RowKit

end Go.Proofs.YtcppkaphlcflgaaGreat
namespace Go.Proofs.YtcppkaphlcflgaaGreat
open Go.RowKit Ftl

theorem mk56 (u : World) : (Instr.makeSlice 40 (.int .i64 56) (.int .i64 56)).run Tryz.prog u = .ok (.slice (some ⟨u.heap.size, 0, none⟩) 56 56) (u.alloc (.cells (Array.replicate 56 (.int .u8 0)) 5)) := makeZ 56 (by omega) u
def Maded (P : List UInt8 → Prop) (w : World) (e : Ending) (w' : World) : Prop :=
 ∃ B R f, e = .returned (.tuple #[.pointer (some ⟨f.F, 0, none⟩), .pointer (some ⟨f.g.C, 0, none⟩)]) ∧ w.heap.size ≤ B ∧ FtM 16 B R w' f ∧ Fmd f (List.replicate 56 0) ∧ f.g.gh = P ∧ Below w.heap.size w w'
set_option maxRecDepth 100000 in
set_option maxHeartbeats 4000000 in
theorem made0_calls (w : World) : Calls Tryz.prog 5 #[] w (Maded (sealP (List.replicate 56 0)) w) := by
 have hmk := mk56
 go_enter Tryz.func5, Tryz.ntmps5
 go_wp2_with fail
 refine (small_calls _).mono ?_
 rintro e w1 ⟨rfl, h_⟩
 have HB1 := Lib.hid h_
 clear h_
 go_wp2_with fail
 refine (chNew_calls w1).mono ?_
 rintro e w2 ⟨⟨S, C, BL, ps, rfl, hc⟩, hb2⟩
 have hb3 := (Below.refl w2.heap.size w2).alloc (Nat.le_refl _) (.cells (Array.replicate 56 (.int .u8 0)) 5)
 have HC := Lib.hid (hc.on hb3)
 have HB2 := Lib.hid ((HB1.out.then_ hb2).then_ hb3)
 have HX := Lib.hid ((ownMadeZ w2 w2.heap.size 56 (Nat.le_refl _) (by omega)).arr (by simp))
 have HSn := Lib.hid (show ∀ b o, (some ⟨w2.heap.size, 0, none⟩ : Option Addr) = some ⟨b, o, none⟩ → ¬ S b from fun b o e h => by
  have := hc.hi b h
  injection e with e
  injection e with e
  omega)
 have HBs := Lib.hid HB1.out.size
 clear hc hb2 hb3
 go_wp2_with fail
 refine (fFormat_calls HC.out _ 56 (List.replicate 56 0) HX.out HSn.out).mono ?_
 rintro e w4 ⟨f, rfl, hfr, hfc, hfd, hgh⟩
 have HGh := Lib.hid hgh
 have HF := Lib.hid hfr
 have HD := Lib.hid hfd
 have HCC := Lib.hid hfc
 have HB4 := Lib.hid (HB2.out.trans (hfr.2.below (fun q hq => by have := HC.out.lo q hq; have := HBs.out; omega) HB2.out.size))
 clear hfr hfd hfc hgh
 go_wp2_with fail
 go_ret2
 exact ⟨w1.heap.size, _, f, by rw [HCC.out]; rfl, HBs.out, HF.out.1, HD.out, HGh.out, HB4.out⟩
theorem made_calls (w : World) : Calls Tryz.prog 5 #[] w (Maded (fun _ => True) w) := by
 refine (made0_calls w).mono ?_
 rintro e w' ⟨B, R, f, rfl, hB, hf, hd, _, hb⟩
 exact ⟨B, R, gsF f fun _ => True, rfl, hB, hf.ghost _, hd.ghost fun _ _ => trivial, rfl, hb⟩
end Go.Proofs.YtcppkaphlcflgaaGreat
