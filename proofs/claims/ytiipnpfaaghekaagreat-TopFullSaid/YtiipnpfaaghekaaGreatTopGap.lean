/-
  The law's gap: what the greatest erase count is more than the least.
-/
import Derived.Test.YtiipnpfaaghekaaGreatChAsk
import Derived.Test.YtiipnpfaaghekaaGreatBlkSmall
namespace Go.Proofs.YtiipnpfaaghekaaGreat
open Go.RowKit

namespace Gap
def lo (f : Nat → Nat) : Nat → Nat
  | 0 => 0
  | k + 1 => if k = 0 ∨ f k < lo f k then f k else lo f k
def hi (f : Nat → Nat) : Nat → Nat
  | 0 => 0
  | k + 1 => if k = 0 ∨ hi f k < f k then f k else hi f k
theorem lo_spec (f : Nat → Nat) : ∀ k, 0 < k → (∃ j, j < k ∧ lo f k = f j) ∧ ∀ i, i < k → lo f k ≤ f i := by
  intro k
  induction k with
  | zero => intro h; omega
  | succ k ih =>
    intro _
    by_cases h0 : k = 0
    · subst h0
      rw [lo, if_pos (.inl rfl)]
      exact ⟨⟨0, by omega, rfl⟩, fun i hi => by obtain rfl : i = 0 := by omega
                                                exact Nat.le_refl _⟩
    · obtain ⟨⟨j, hj, e⟩, hle⟩ := ih (by omega)
      by_cases h1 : f k < lo f k
      · rw [lo, if_pos (.inr h1)]
        exact ⟨⟨k, by omega, rfl⟩, fun i hi => by
          by_cases e : i = k
          · rw [e]; exact Nat.le_refl _
          · have := hle i (by omega); omega⟩
      · rw [lo, if_neg (by omega)]
        exact ⟨⟨j, by omega, e⟩, fun i hi => by
          by_cases e : i = k
          · rw [e]; omega
          · exact hle i (by omega)⟩
theorem hi_spec (f : Nat → Nat) : ∀ k, 0 < k → (∃ j, j < k ∧ hi f k = f j) ∧ ∀ i, i < k → f i ≤ hi f k := by
  intro k
  induction k with
  | zero => intro h; omega
  | succ k ih =>
    intro _
    by_cases h0 : k = 0
    · subst h0
      rw [hi, if_pos (.inl rfl)]
      exact ⟨⟨0, by omega, rfl⟩, fun i hi => by obtain rfl : i = 0 := by omega
                                                exact Nat.le_refl _⟩
    · obtain ⟨⟨j, hj, e⟩, hle⟩ := ih (by omega)
      by_cases h1 : hi f k < f k
      · rw [hi, if_pos (.inr h1)]
        exact ⟨⟨k, by omega, rfl⟩, fun i hi => by
          by_cases e : i = k
          · rw [e]; exact Nat.le_refl _
          · have := hle i (by omega); omega⟩
      · rw [hi, if_neg (by omega)]
        exact ⟨⟨j, by omega, e⟩, fun i hi => by
          by_cases e : i = k
          · rw [e]; omega
          · exact hle i (by omega)⟩
/-- All differ by no more than four: so does the gap. -/
theorem small {f : Nat → Nat} {k : Nat} (hk : 0 < k) (h : ∀ i j, i < k → j < k → f i ≤ f j + 4) : (hi f k : Int) - lo f k ≤ 4 := by
  obtain ⟨⟨i, hi1, e1⟩, _⟩ := hi_spec f k hk
  obtain ⟨⟨j, hj1, e2⟩, _⟩ := lo_spec f k hk
  rw [e1, e2]
  have := h i j hi1 hj1
  omega
end Gap
section
variable {NB B C BL : Nat} {S : Nat → Prop} {w : World} {ps : Nat → Nat} {bl : Nat → Pb}
set_option maxRecDepth 100000 in
set_option maxHeartbeats 4000000 in
theorem gap_calls (h : ChM NB B S w C BL ps bl) (hN : 0 < NB) (hnb : NB ≤ 1000) (hb : ∀ k, k < NB → (bl k).bad = false) (hw : ∀ k, k < NB → (bl k).wear ≤ 1099511627776) :
    Calls Tryz.prog 9 #[.pointer (some ⟨C, 0, none⟩)] w fun e w' => e = .returned (.int .i64 ((Gap.hi (fun k => (bl k).wear) NB : Int) - (Gap.lo (fun k => (bl k).wear) NB : Int))) ∧ Below w.heap.size w w' := by
  have HH := Lib.hid h
  have HBd := Lib.hid hb
  have HW := Lib.hid hw
  have HL := Lib.hid (fun k hk => (Gap.lo_spec (fun k => (bl k).wear) k hk).1)
  have HI := Lib.hid (fun k hk => (Gap.hi_spec (fun k => (bl k).wear) k hk).1)
  have HLs := Lib.hid (fun k => (show Gap.lo (fun k => (bl k).wear) (k + 1) = if k = 0 ∨ (bl k).wear < Gap.lo (fun k => (bl k).wear) k then (bl k).wear else Gap.lo (fun k => (bl k).wear) k from rfl))
  have HIs := Lib.hid (fun k => (show Gap.hi (fun k => (bl k).wear) (k + 1) = if k = 0 ∨ Gap.hi (fun k => (bl k).wear) k < (bl k).wear then (bl k).wear else Gap.hi (fun k => (bl k).wear) k from rfl))
  have hlz : Gap.lo (fun k => (bl k).wear) 0 = 0 := rfl
  have hhz : Gap.hi (fun k => (bl k).wear) 0 = 0 := rfl
  generalize Gap.lo (fun k => (bl k).wear) = lo at *
  generalize Gap.hi (fun k => (bl k).wear) = hi at *
  clear h hb hw
  go_enter Tryz.func9, Tryz.ntmps9
  go_wp2
  go_loopw [3, 4, 5, 6] (fun l m f i wr => ∃ k : Nat, k ≤ NB ∧ i = .int .i64 (k : Int) ∧ l = .int .i64 (lo k : Int) ∧ m = .int .i64 (hi k : Int) ∧ f = .bool (decide (0 < k)) ∧ Below w.heap.size w wr) (fun _ _ _ i _ => NB - (intOf i).toNat)
  case atStart => exact ⟨0, by omega, rfl, by rw [hlz]; rfl, by rw [hhz]; rfl, rfl, Below.refl _ _⟩
  case round =>
    obtain ⟨k, hk, rfl, rfl, rfl, rfl, hb⟩ := hrel
    have HBr := Lib.hid hb
    have HG := Lib.hid (chGeo_calls (HH.out.on hb))
    have hf := geoF0 (.int .i64 (NB : Int)) (.int .i64 8) (.int .i64 64)
    clear hb
    go_wp2_with fail
    refine HG.out.mono ?_
    rintro e w1 ⟨rfl, hb1⟩
    have HB1 := Lib.hid (HBr.out.then_ hb1)
    have HC1 := Lib.hid (HH.out.on HB1.out)
    clear hb1
    unfold geoV
    by_cases hlt : k < NB
    · have hk1 : (k : Int) < (NB : Int) := by omega
      have HBa := Lib.hid (chBad_calls HC1.out hlt)
      rw [HBd.out k hlt] at HBa
      have HWe := Lib.hid (chWear_calls HC1.out hlt)
      have hl1 := HLs.out k
      have hi1 := HIs.out k
      generalize (bl k).wear = we at *
      go_wp2_with fail
      refine HBa.out.mono ?_
      rintro e w_ ⟨rfl, rfl⟩
      by_cases hk0 : k = 0
      · subst hk0
        rw [if_pos (.inl rfl)] at hl1 hi1
        have HL1 := Lib.hid hl1
        have HI1 := Lib.hid hi1
        clear hl1 hi1
        go_wp2_with fail
        refine HWe.out.mono ?_
        rintro e w_ ⟨rfl, rfl⟩
        go_wp2_with fail
        refine HWe.out.mono ?_
        rintro e w_ ⟨rfl, rfl⟩
        go_wp2_with fail
        go_roundw
        case rel => exact ⟨1, by omega, by go_num, by rw [HL1.out], by rw [HI1.out], rfl, HB1.out⟩
        case measure => simp [intOf]; omega
      · have hd0 : decide (0 < k) = true := decide_eq_true (by omega)
        by_cases ha : we < lo k
        · rw [if_pos (.inr ha)] at hl1
          by_cases hc : hi k < we
          · rw [if_pos (.inr hc)] at hi1
            have HL1 := Lib.hid hl1
            have HI1 := Lib.hid hi1
            have h0 := Lib.hid hk0
            clear hl1 hi1 hk0
            go_wp2_with fail
            refine HWe.out.mono ?_
            rintro e w_ ⟨rfl, rfl⟩
            go_wp2_with fail
            refine HWe.out.mono ?_
            rintro e w_ ⟨rfl, rfl⟩
            go_wp2_with fail
            refine HWe.out.mono ?_
            rintro e w_ ⟨rfl, rfl⟩
            go_wp2_with fail
            refine HWe.out.mono ?_
            rintro e w_ ⟨rfl, rfl⟩
            go_wp2_with fail
            go_roundw
            case rel => exact ⟨k + 1, by omega, by go_num, by rw [HL1.out], by rw [HI1.out], by rw [decide_eq_true (show 0 < k + 1 by omega)], HB1.out⟩
            case measure => simp [intOf]; omega
          · rw [if_neg (fun h => by rcases h with h | h; exact hk0 h; exact hc h)] at hi1
            have HL1 := Lib.hid hl1
            have HI1 := Lib.hid hi1
            have h0 := Lib.hid hk0
            clear hl1 hi1 hk0
            go_wp2_with fail
            refine HWe.out.mono ?_
            rintro e w_ ⟨rfl, rfl⟩
            go_wp2_with fail
            refine HWe.out.mono ?_
            rintro e w_ ⟨rfl, rfl⟩
            go_wp2_with fail
            refine HWe.out.mono ?_
            rintro e w_ ⟨rfl, rfl⟩
            go_wp2_with fail
            go_roundw
            case rel => exact ⟨k + 1, by omega, by go_num, by rw [HL1.out], by rw [HI1.out], by rw [decide_eq_true (show 0 < k + 1 by omega)], HB1.out⟩
            case measure => simp [intOf]; omega
        · rw [if_neg (fun h => by rcases h with h | h; exact hk0 h; exact ha h)] at hl1
          by_cases hc : hi k < we
          · rw [if_pos (.inr hc)] at hi1
            have HL1 := Lib.hid hl1
            have HI1 := Lib.hid hi1
            have h0 := Lib.hid hk0
            clear hl1 hi1 hk0
            go_wp2_with fail
            refine HWe.out.mono ?_
            rintro e w_ ⟨rfl, rfl⟩
            go_wp2_with fail
            refine HWe.out.mono ?_
            rintro e w_ ⟨rfl, rfl⟩
            go_wp2_with fail
            refine HWe.out.mono ?_
            rintro e w_ ⟨rfl, rfl⟩
            go_wp2_with fail
            go_roundw
            case rel => exact ⟨k + 1, by omega, by go_num, by rw [HL1.out], by rw [HI1.out], by rw [decide_eq_true (show 0 < k + 1 by omega)], HB1.out⟩
            case measure => simp [intOf]; omega
          · rw [if_neg (fun h => by rcases h with h | h; exact hk0 h; exact hc h)] at hi1
            have HL1 := Lib.hid hl1
            have HI1 := Lib.hid hi1
            have h0 := Lib.hid hk0
            clear hl1 hi1 hk0
            go_wp2_with fail
            refine HWe.out.mono ?_
            rintro e w_ ⟨rfl, rfl⟩
            go_wp2_with fail
            refine HWe.out.mono ?_
            rintro e w_ ⟨rfl, rfl⟩
            go_wp2_with fail
            go_roundw
            case rel => exact ⟨k + 1, by omega, by go_num, by rw [HL1.out], by rw [HI1.out], by rw [decide_eq_true (show 0 < k + 1 by omega)], HB1.out⟩
            case measure => simp [intOf]; omega
    · obtain rfl : k = NB := by omega
      obtain ⟨j1, hj1, e1⟩ := HL.out k hN
      obtain ⟨j2, hj2, e2⟩ := HI.out k hN
      have hw1 := HW.out j1 hj1
      have hw2 := HW.out j2 hj2
      have i1 := IntWalk.i64_in ((hi k : Int) - lo k) ⟨by omega, by omega⟩
      clear e1 e2 hw1 hw2
      go_wp2_with fail
      go_ret
      exact ⟨rfl, HB1.out⟩
end
end Go.Proofs.YtiipnpfaaghekaaGreat
