/-
  A block is erased.
-/
import Derived.Test.YtkkkggeagjgbeaaChProg
namespace Go.Proofs.Ytkkkggeagjgbeaa
open Go.RowKit

section
variable {NB B C BL : Nat} {S : Nat → Prop} {w : World} {ps : Nat → Nat} {bl : Nat → Pb}
/-- A block's row is written anew: new pages, erased once more. -/
theorem ChM.erased {r : Nat} (h : ChM NB B S w C BL ps bl) {k P' : Nat} (hk : k < NB) (ho : Own vId 22 w 0 (.slice (some ⟨P', 0, none⟩) 8 8) nil8) (hP : ¬ S P') (hB : B ≤ P') :
    ChM NB B (fun q => S q ∨ q = P') (((((w.setCell ⟨BL, k * 5, none⟩ (.slice (some ⟨P', 0, none⟩) 8 8)).setCell ⟨BL, k * 5 + 1, none⟩ (.int .i64 0)).setCell ⟨BL, k * 5 + 2, none⟩ (.bool false)).setCell ⟨BL, k * 5 + 3, none⟩ (.bool false)).setCell ⟨BL, k * 5 + 4, none⟩ (.int .i64 (r : Int))) C BL (upd ps k P') (upd bl k (fresh r)) := by
  have h1 := h.setN hk ho hP hB { bl k with pgs := fun _ => none } ⟨rfl, rfl, rfl, rfl⟩ rfl
  have h2 := h1.setB (k := k) (j := 1) hk (by omega) (.int .i64 ((0 : Nat) : Int)) { bl k with pgs := fun _ => none, nx := 0 } (by simp only [upd_same]; rfl) (by rw [upd_same])
  rw [upd_upd] at h2
  have h3 := h2.setB (k := k) (j := 2) hk (by omega) (.bool false) { bl k with pgs := fun _ => none, nx := 0, broken := false } (by simp only [upd_same]; rfl) (by rw [upd_same])
  rw [upd_upd] at h3
  have h4 := h3.setB (k := k) (j := 3) hk (by omega) (.bool false) ⟨fun _ => none, 0, false, false, (bl k).wear⟩ (by simp only [upd_same]; rfl) (by rw [upd_same])
  rw [upd_upd] at h4
  have h5 := h4.setB (k := k) (j := 4) hk (by omega) (.int .i64 (r : Int)) (fresh r) (by simp only [upd_same]; rfl) (by rw [upd_same]; rfl)
  rw [upd_upd] at h5
  exact h5
theorem kq_erased {r : Nat} {T : Nat → Prop} {a b : World} (h : Kq T a b) {k P' : Nat} (hT : T BL) :
    Kq T a (((((b.setCell ⟨BL, k * 5, none⟩ (.slice (some ⟨P', 0, none⟩) 8 8)).setCell ⟨BL, k * 5 + 1, none⟩ (.int .i64 0)).setCell ⟨BL, k * 5 + 2, none⟩ (.bool false)).setCell ⟨BL, k * 5 + 3, none⟩ (.bool false)).setCell ⟨BL, k * 5 + 4, none⟩ (.int .i64 (r : Int))) :=
  ((((h.setCell (.inl hT) _).setCell (.inl hT) _).setCell (.inl hT) _).setCell (.inl hT) _).setCell (.inl hT) _
set_option maxRecDepth 100000 in
set_option maxHeartbeats 4000000 in
theorem chErase_calls (h : ChM NB B S w C BL ps bl) {k : Nat} (hk : k < NB) (hb1 : (bl k).bad = false) (hw : (bl k).wear ≤ 1099511627776) :
    Calls Try.prog 31 #[.pointer (some ⟨C, 0, none⟩), .int .i64 (k : Int)] w fun e w' => e = .returned (.int .i64 0) ∧ (∃ ps', ChM NB B (Up S w w') w' C BL ps' (upd bl k (fresh ((bl k).wear + 1)))) ∧ Kq S w w' := by
  have HA := Lib.hid (chAsked_calls h hk (i := 0) (by omega))
  have HFa := Lib.hid (chFault_calls h)
  have c3 := h.c3
  have b3 := (h.b3 hk).1
  rw [hb1] at b3
  have g1 : (0 : Int) ≤ (k : Int) := by omega
  have g2 : (k : Int) < (NB : Int) := by omega
  have HH := Lib.hid h
  have HW := Lib.hid hw
  clear h hb1 hw
  go_enter Try.func31, Try.ntmps31
  go_wp2_with fail
  refine HA.out.mono ?_
  rintro e w_ ⟨rfl, rfl⟩
  go_wp2_with fail
  refine HFa.out.mono ?_
  rintro e w1 ⟨rfl, h1, hk1⟩
  have hba := (Below.refl w1.heap.size w1).alloc (Nat.le_refl _) (.cells #[.int .i64 0, .int .i64 0, .slice none 0 0] 92)
  have H1 := Lib.hid (h1.on hba)
  have HK1 := Lib.hid ((hk1.mono (T' := S) fun q hq => hq ▸ HH.out.hS C (.inl rfl)).on hba)
  clear h1 hk1 hba c3 b3
  go_upto_region 19 with fail
  generalize w1.alloc (.cells #[.int .i64 0, .int .i64 0, .slice none 0 0] 92) = w2 at *
  have hmk := makePgs w2.drew
  have HD := Lib.hid (H1.out.on (below_drew w2))
  have c1 := HD.out.c1
  have b4 := (HD.out.b4 hk).1
  have hww := HW.out
  have i1 := IntWalk.i64_in (((bl k).wear : Int) + 1) ⟨by omega, by omega⟩
  generalize hr : (bl k).wear = r at *
  refine wp_region_noPanic ?_
  refine wp_region_held_drew (S := (fun W' => W'.cell? ⟨C, 1, none⟩ = some (.int .i64 8))) (by kernel_rfl) c1 (fun hS0 => ?_)
  refine takeV 0 (v := (.pointer (some ⟨BL, k * 5, none⟩))) rfl (by kernel_rfl) (by kernel_rfl) (by kernel_rfl) (fun _ _ _ h => h) (by rfl) (fun _ _ => rfl) (by assumption) ?_
  try simp only [layR]
  refine takeV 1 (v := (.pointer (some ⟨C, 0, none⟩))) rfl (by kernel_rfl) (by kernel_rfl) (by kernel_rfl) (fun _ _ _ h => h) (by rfl) (fun _ _ => rfl) (by assumption) ?_
  try simp only [layR]
  refine takeV 2 (v := (.pointer (some ⟨C, 0, none⟩))) rfl (by kernel_rfl) (by kernel_rfl) (by kernel_rfl) (fun _ _ _ h => h) (by rfl) (fun W hSw => ?_) (by assumption) ?_
  · skip
    go_simp
  try simp only [layR]
  refine takeV 3 (v := (.pointer (some ⟨C, 0, none⟩))) rfl (by kernel_rfl) (by kernel_rfl) (by kernel_rfl) (fun _ _ _ h => h) (by rfl) (fun W hSw => ?_) (by assumption) ?_
  · skip
    go_simp
  try simp only [layR]
  refine takeV 4 (v := (.pointer (some ⟨C, 1, none⟩))) rfl (by kernel_rfl) (by kernel_rfl) (by kernel_rfl) (fun _ _ _ h => h) (by rfl) (fun W hSw => ?_) (by assumption) ?_
  · skip
    go_simp
  try simp only [layR]
  refine takeV 5 (v := (.int .i64 8)) rfl (by kernel_rfl) (by kernel_rfl) (by kernel_rfl) (fun _ _ _ h => h) (by rfl) (fun W hSw => ?_) (by assumption) ?_
  · skip
    go_simp
  try simp only [layR]
  refine takeV 7 (v := (.pointer (some ⟨BL, k * 5, none⟩))) rfl (by kernel_rfl) (by kernel_rfl) (by kernel_rfl) (fun _ _ _ h => h) (by rfl) (fun _ _ => rfl) (by assumption) ?_
  try simp only [layR]
  refine takeV 8 (v := (.pointer (some ⟨BL, k * 5, none⟩))) rfl (by kernel_rfl) (by kernel_rfl) (by kernel_rfl) (fun _ _ _ h => h) (by rfl) (fun W hSw => ?_) (by assumption) ?_
  · skip
    go_simp
  try simp only [layR]
  refine takeV 9 (v := (.pointer (some ⟨BL, k * 5 + 4, none⟩))) rfl (by kernel_rfl) (by kernel_rfl) (by kernel_rfl) (fun _ _ _ h => h) (by rfl) (fun W hSw => ?_) (by assumption) ?_
  · skip
    go_simp
  try simp only [layR]
  have hba := ((Below.refl w2.heap.size w2).alloc (Nat.le_refl _) (.cells (nil8.map vId).toArray 22)).drew
  have HC3 := Lib.hid (H1.out.on hba)
  have HK3 := Lib.hid (HK1.out.on hba)
  have HS3 := Lib.hid (show w.heap.size ≤ w2.heap.size from HK1.out.size)
  have HO3 := Lib.hid (ownPgs w2 0 (Nat.zero_le _)).drew
  have HR := Lib.hid hr
  clear hba
  refine wpAnyH_ready (rs := [6, 10]) (by kernel_rfl) (by simp) ?_
  refine AllReadyH.cons rfl (fun K' hK => ?_) (AllReadyH.cons rfl (fun K' hK => ?_) AllReadyH.nil)
  · go_simp
    have d1 := HC3.out.c1
    have d4 := (HC3.out.b4 hk).1
    rw [HR.out] at d4
    clear hmk c1 b4
    generalize (w2.alloc (.cells (nil8.map vId).toArray 22)).drew = w3 at *
    generalize hP : w2.heap.size = P' at *
    refine hK.out _ _ d1 (fun hS1 => ?_)
    try simp only [layR]
    refine wpAnyH_ready (rs := [10]) (by kernel_rfl) (by simp) ?_
    refine AllReadyH.cons rfl (fun K' hK => ?_) AllReadyH.nil
    go_simp
    clear d4
    refine hK.out _ _ d1 (fun hS9 => ?_)
    try simp only [layR]
    clear hS9
    refine takeV 11 (v := (.int .i64 ((r : Int) + 1))) rfl (by kernel_rfl) (by kernel_rfl) (by kernel_rfl) (fun _ _ _ h => h) (by rfl) (fun W hSw => ?_) (by assumption) ?_
    · skip
      go_simp
    try simp only [layR]
    refine takeV 12 (v := (.agg #[.slice (some ⟨P', 0, none⟩) 8 8, .int .i64 0, .bool false, .bool false, .int .i64 ((r : Int) + 1)])) rfl (by kernel_rfl) (by kernel_rfl) (by kernel_rfl) (fun _ _ _ h => h) (by rfl) (fun W hSw => ?_) (by assumption) ?_
    · skip
      go_simp
    try simp only [layR]
    refine takeV 13 (v := (.pointer (some ⟨BL, k * 5, none⟩))) rfl (by kernel_rfl) (by kernel_rfl) (by kernel_rfl) (fun _ _ _ h => h) (by rfl) (fun W hSw => ?_) (by assumption) ?_
    · skip
      go_simp
    try simp only [layR]
    obtain ⟨x0, y0⟩ := HC3.out.b0 hk
    obtain ⟨x1, y1⟩ := HC3.out.b1 hk
    obtain ⟨x2, y2⟩ := HC3.out.b2 hk
    obtain ⟨x3, y3⟩ := HC3.out.b3 hk
    obtain ⟨x4, y4⟩ := HC3.out.b4 hk
    have hE := (HC3.out.erased (r := r + 1) hk HO3.out (fun hs => by have := HH.out.hi P' hs; have := HS3.out; omega) (Nat.le_trans HH.out.base HS3.out))
    have hKE := (kq_erased (BL := BL) (r := r + 1) (P' := P') (k := k) HK3.out (HH.out.hS BL (.inr (.inl rfl))))
    rw [show ((r + 1 : Nat) : Int) = (r : Int) + 1 by omega] at hE hKE
    have HE := Lib.hid hE
    have HKE := Lib.hid hKE
    have HP3 := Lib.hid (show P' < w3.heap.size from (HO3.out.blockLt P' rfl).2)
    have d9 := hE.c1
    clear hE hKE
    refine wpAnyH_ready (rs := [14]) (by kernel_rfl) (by simp) ?_
    refine AllReadyH.cons rfl (fun K' hK => ?_) AllReadyH.nil
    go_simp
    refine hK.out _ _ d9 (fun hS2 => ?_)
    try simp only [layR]
    refine wpAnyH_done (by kernel_rfl) ?_ _
    refine NoPanic.normal ?_
    clear hS0 hS1 hS2 x0 x1 x2 x3 x4 y0 y1 y2 y3 y4 d1 d9
    go_wp2_with fail
    go_ret
    refine ⟨rfl, ⟨upd ps k P', ?_⟩, HKE.out⟩
    rw [HR.out]
    refine HE.out.wide (fun q hq => ?_) (fun q hq => ?_) (fun q hq => ?_)
    · rcases hq with h1 | h1
      · exact .inl h1
      · exact .inr ⟨h1 ▸ HS3.out, h1 ▸ (HE.out.hi P' (.inr rfl))⟩
    · rcases hq with h1 | h1
      · exact HH.out.lo q h1
      · have := HH.out.base; omega
    · rcases hq with h1 | h1
      · exact HE.out.hi q (.inl h1)
      · exact h1.2
  · go_simp
    refine hK.out _ _ c1 (fun hS1 => ?_)
    try simp only [layR]
    clear b4
    refine takeV 11 (v := (.int .i64 ((r : Int) + 1))) rfl (by kernel_rfl) (by kernel_rfl) (by kernel_rfl) (fun _ _ _ h => h) (by rfl) (fun W hSw => ?_) (by assumption) ?_
    · skip
      go_simp
    try simp only [layR]
    refine wpAnyH_ready (rs := [6]) (by kernel_rfl) (by simp) ?_
    refine AllReadyH.cons rfl (fun K' hK => ?_) AllReadyH.nil
    go_simp
    have d1 := HC3.out.c1
    clear hmk c1 hS1
    generalize (w2.alloc (.cells (nil8.map vId).toArray 22)).drew = w3 at *
    generalize hP : w2.heap.size = P' at *
    refine hK.out _ _ d1 (fun hS1 => ?_)
    try simp only [layR]
    refine takeV 12 (v := (.agg #[.slice (some ⟨P', 0, none⟩) 8 8, .int .i64 0, .bool false, .bool false, .int .i64 ((r : Int) + 1)])) rfl (by kernel_rfl) (by kernel_rfl) (by kernel_rfl) (fun _ _ _ h => h) (by rfl) (fun W hSw => ?_) (by assumption) ?_
    · skip
      go_simp
    try simp only [layR]
    refine takeV 13 (v := (.pointer (some ⟨BL, k * 5, none⟩))) rfl (by kernel_rfl) (by kernel_rfl) (by kernel_rfl) (fun _ _ _ h => h) (by rfl) (fun W hSw => ?_) (by assumption) ?_
    · skip
      go_simp
    try simp only [layR]
    obtain ⟨x0, y0⟩ := HC3.out.b0 hk
    obtain ⟨x1, y1⟩ := HC3.out.b1 hk
    obtain ⟨x2, y2⟩ := HC3.out.b2 hk
    obtain ⟨x3, y3⟩ := HC3.out.b3 hk
    obtain ⟨x4, y4⟩ := HC3.out.b4 hk
    have hE := (HC3.out.erased (r := r + 1) hk HO3.out (fun hs => by have := HH.out.hi P' hs; have := HS3.out; omega) (Nat.le_trans HH.out.base HS3.out))
    have hKE := (kq_erased (BL := BL) (r := r + 1) (P' := P') (k := k) HK3.out (HH.out.hS BL (.inr (.inl rfl))))
    rw [show ((r + 1 : Nat) : Int) = (r : Int) + 1 by omega] at hE hKE
    have HE := Lib.hid hE
    have HKE := Lib.hid hKE
    have HP3 := Lib.hid (show P' < w3.heap.size from (HO3.out.blockLt P' rfl).2)
    have d9 := hE.c1
    clear hE hKE
    refine wpAnyH_ready (rs := [14]) (by kernel_rfl) (by simp) ?_
    refine AllReadyH.cons rfl (fun K' hK => ?_) AllReadyH.nil
    go_simp
    refine hK.out _ _ d9 (fun hS2 => ?_)
    try simp only [layR]
    refine wpAnyH_done (by kernel_rfl) ?_ _
    refine NoPanic.normal ?_
    clear hS0 hS1 hS2 x0 x1 x2 x3 x4 y0 y1 y2 y3 y4 d1 d9
    go_wp2_with fail
    go_ret
    refine ⟨rfl, ⟨upd ps k P', ?_⟩, HKE.out⟩
    rw [HR.out]
    refine HE.out.wide (fun q hq => ?_) (fun q hq => ?_) (fun q hq => ?_)
    · rcases hq with h1 | h1
      · exact .inl h1
      · exact .inr ⟨h1 ▸ HS3.out, h1 ▸ (HE.out.hi P' (.inr rfl))⟩
    · rcases hq with h1 | h1
      · exact HH.out.lo q h1
      · have := HH.out.base; omega
    · rcases hq with h1 | h1
      · exact HE.out.hi q (.inl h1)
      · exact h1.2
end
end Go.Proofs.Ytkkkggeagjgbeaa
