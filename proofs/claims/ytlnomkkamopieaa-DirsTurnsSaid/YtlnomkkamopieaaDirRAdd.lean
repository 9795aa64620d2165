/-
  The reference's Add, over a row of entries.
-/
import Derived.Test.YtlnomkkamopieaaDirRTurn
namespace Go.Proofs.Ytlnomkkamopieaa
open Go.RowKit

namespace Dir
def refAddE (l : List Ent) (e : Ent) : Int := if writeE e = 0 then (if 0 ≤ findA l e.nm then 61 else 0) else writeE e
end Dir
set_option maxHeartbeats 4000000 in
theorem refAdd_calls (a : Option Addr) (n c : Nat) (l : List Ent) (e : Ent) (w : World) (hx : EntsA w w.heap.size a n l) (hn : n ≤ 100000) (hnm : e.nm.length ≤ 140737488351232) :
    Calls Try.prog 19 #[.slice a n c, entV e] w (RefL (Dir.refAddE l e) (fun xs => ∃ r, Dir.RoomL l r ∧ xs = Dir.addL l e r) w) := by
  have hb0 := (Below.refl w.heap.size w).alloc (Nat.le_refl _) (entO e)
  have HX0 := Lib.hid (hx.on hb0)
  have HB0 := Lib.hid hb0
  have HE0 := Lib.hid (Blk.new w 23 #[.int .i64 e.i, .string (strL e.nm)])
  have HL := Lib.hid hx.len
  have HW := Lib.hid (refWrite_calls e (w.alloc (entO e)) hnm)
  clear hx hb0
  unfold entO at HB0 HX0 HW
  unfold WriteR at HW
  by_cases hw : Dir.writeE e = 0
  case neg =>
    have hE : Dir.refAddE l e = Dir.writeE e := if_neg hw
    rw [hE]
    have HNE := Lib.hid hw
    generalize Dir.writeE e = E at *
    have g1 : (E != 0) = true := by simpa using hw
    clear hw hE
    obtain ⟨i, nm⟩ := e
    go_enter Try.func19, Try.ntmps19
    go_wp2_with fail
    refine HW.out.mono ?_
    rintro e w1 ⟨⟨v, rfl, _⟩, hb⟩
    have HB1 := Lib.hid (HB0.out.then_ hb)
    clear hb
    go_wp2
    go_ret2
    exact refL_bad HNE.out HB1.out
  rw [hw] at HW
  have hE : Dir.refAddE l e = if 0 ≤ Dir.findA l e.nm then 61 else 0 := if_pos hw
  rw [hE]
  clear hw hE
  obtain ⟨F, hF⟩ : ∃ F, F = Dir.findA l e.nm := ⟨_, rfl⟩
  have HF := Lib.hid (fun W (hb : Below w.heap.size w W) (hx : EntsA W W.heap.size a n l) => refFind_calls a n c l e.nm W hx)
  rw [← hF] at HF ⊢
  clear hF
  have HEE := Lib.hid (show ∀ x : Int, encE ⟨x, e.nm⟩ = [.int .i64 x, .string (strL e.nm)] from fun _ => rfl)
  by_cases hf : 0 ≤ F
  · rw [if_pos hf]
    have g1 : decide (0 ≤ F) = true := decide_eq_true hf
    clear hf
    obtain ⟨i, nm⟩ := e
    go_enter Try.func19, Try.ntmps19
    go_wp2_with fail
    refine HW.out.mono ?_
    rintro e w1 ⟨⟨v, rfl, _⟩, hb⟩
    have HB1 := Lib.hid (HB0.out.then_ hb)
    have HX1 := Lib.hid (HX0.out.on hb)
    have z0 := (HE0.out.below hb (by simp)).cellv (i := 0) rfl
    have z1 := (HE0.out.below hb (by simp)).cellv (i := 1) rfl
    clear hb
    go_wp2_with fail
    refine (HF.out _ HB1.out HX1.out).mono ?_
    rintro e w_ ⟨rfl, rfl⟩
    go_wp2
    go_ret2
    exact refL_bad (by decide) HB1.out
  rw [if_neg hf]
  have g1 : decide (0 ≤ F) = false := decide_eq_false hf
  clear hf
  obtain ⟨i, nm⟩ := e
  go_enter Try.func19, Try.ntmps19
  go_wp2_with fail
  refine HW.out.mono ?_
  rintro e w1 ⟨⟨v, rfl, _⟩, hb⟩
  have HB1 := Lib.hid (HB0.out.then_ hb)
  have HX1 := Lib.hid (HX0.out.on hb)
  have HE1 := Lib.hid (HE0.out.below hb (by simp))
  have z0 := HE1.out.cellv (i := 0) rfl
  have z1 := HE1.out.cellv (i := 1) rfl
  have hsz1 : w.heap.size < w1.heap.size := Nat.lt_of_lt_of_le (by simp) hb.size
  clear hb
  go_wp2_with fail
  refine (HF.out _ HB1.out HX1.out).mono ?_
  rintro e w_ ⟨rfl, rfl⟩
  go_wp2_with (at_builtin; refine wpList_ontoE rfl _ _ rfl (w.heap.size + 1) _ [] rfl (OwnM.nil encE_len _ _) _ a n c l rfl HX1.out (by simp; omega) (by omega) ?_; intro v2 w2 HO2 hb2 hk2)
  clear hk2
  rw [List.nil_append] at HO2
  obtain ⟨a2, c2, rfl, hc2⟩ := HO2.out.formN (n := n) HL.out
  have HE2 := Lib.hid (HE1.out.below hb2.out (by omega))
  have HB2 := Lib.hid (HB1.out.trans (hb2.out.mono (by omega)))
  clear z0 z1
  have z0 := HE2.out.cellv (i := 0) rfl
  have z1 := HE2.out.cellv (i := 1) rfl
  clear hb2
  go_wp2_with fail
  go_loop [9] (fun o => ∃ k : Nat, k ≤ n ∧ o = .int .i64 (k : Int) ∧ ∀ j (h : j < l.length), j < k → l[j].i ≠ 0) (fun o => n - (intOf o).toNat)
  case atStart => exact ⟨0, by omega, rfl, fun j h hj => by omega⟩
  case round =>
    obtain ⟨k, hk, rfl, hz⟩ := hrel
    have HZ := Lib.hid hz
    clear hz
    by_cases hlt : k < n
    · have hkl : k < l.length := by rw [HL.out]; exact hlt
      obtain ⟨g, c3, hv, hc3, hgb, hgl⟩ := HO2.out.form_some (by omega)
      rw [HL.out] at hv
      injection hv with hv1 hv2 hv3
      subst hv1 hv3
      have d0 : w2.cell? ⟨g, k * 2, none⟩ = some (.int .i64 l[k].i) := (HO2.out.cellg (i := k) (j := 0) hkl (by omega)).1
      have f0 : w2.frozen? ⟨g, k * 2, none⟩ = false := (HO2.out.cellg (i := k) (j := 0) hkl (by omega)).2
      have d1 : w2.cell? ⟨g, k * 2 + 1, none⟩ = some (.string (strL l[k].nm)) := (HO2.out.cellg (i := k) (j := 1) hkl (by omega)).1
      have f1 : w2.frozen? ⟨g, k * 2 + 1, none⟩ = false := (HO2.out.cellg (i := k) (j := 1) hkl (by omega)).2
      by_cases hx : l[k].i = 0
      · have h1 := HO2.out.set (i := k) (j := 0) (u := .int .i64 i) (y := ⟨i, l[k].nm⟩) hkl (by omega) rfl
        have h2 := h1.set (i := k) (j := 1) (u := .string (strL nm)) (y := ⟨i, nm⟩) (by rw [List.length_set]; exact hkl) (by omega) (by rw [List.getElem_set_self]; rfl)
        rw [List.set_set, Nat.add_zero] at h2
        have HS := Lib.hid h2
        have hR := Lib.hid (show Dir.RoomL l k ∧ Dir.addL l ⟨i, nm⟩ k = l.set k ⟨i, nm⟩ from ⟨⟨by omega, HZ.out, fun _ => hx⟩, if_neg (by omega)⟩)
        rw [hx] at d0
        generalize l[k].nm = y0 at d1
        clear h1 h2 hx hkl
        go_wp2
        go_ret2
        exact ⟨⟨_, _, rfl, HS.out.mono (by omega), fun _ => ⟨k, hR.out.1, hR.out.2.symm⟩, fun h => absurd rfl h⟩, (HB2.out.setCell (p := ⟨g, k * 2, none⟩) (by simp; omega) _).setCell (p := ⟨g, k * 2 + 1, none⟩) (by simp; omega) _⟩
      · have hnx := Lib.hid (fun (j : Nat) (h : j < l.length) (hj : j < k + 1) => (show l[j].i ≠ 0 by
          by_cases e : j = k
          · subst e; exact hx
          · exact HZ.out j h (by omega)))
        have g3 : (l[k].i == 0) = false := by simpa using hx
        generalize l[k].i = x at *
        generalize l[k].nm = y0 at *
        clear hx hkl
        go_wp2
        go_round
        case rel => exact ⟨k + 1, by omega, by go_num, hnx.out⟩
        case measure => simp [intOf]; omega
    · obtain rfl : k = n := by omega
      have hR := Lib.hid (show Dir.RoomL l k ∧ Dir.addL l ⟨i, nm⟩ k = l ++ [⟨i, nm⟩] from ⟨⟨by rw [HL.out]; exact Nat.le_refl _, HZ.out, fun h => by have := HL.out; omega⟩, if_pos HL.out.symm⟩)
      go_wp2_with (at_builtin; refine wpList_litE rfl _ _ rfl (w.heap.size + 1) _ _ rfl HO2.out ⟨i, nm⟩ _ rfl rfl rfl (by have := HL.out; omega) (by have := HB2.out.size; have := HE2.out.lt; omega) ?_; intro v3 w3 HO3 hb3)
      go_ret2
      exact ⟨⟨_, _, rfl, HO3.out.mono (by omega), fun _ => ⟨k, hR.out.1, hR.out.2.symm⟩, fun h => absurd rfl h⟩, HB2.out.trans (hb3.out.mono (by omega))⟩
end Go.Proofs.Ytlnomkkamopieaa
