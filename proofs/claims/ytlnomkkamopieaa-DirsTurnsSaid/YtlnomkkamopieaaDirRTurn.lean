/-
  The reference's Turn, over a row of entries.
-/
import Derived.Test.YtlnomkkamopieaaDirEnts
namespace Go.Proofs.Ytlnomkkamopieaa
open Go.RowKit

namespace Dir
def refTurnE (l : List Ent) (nm : List UInt8) (to : Int) : Int := if findA l nm < 0 then 60 else if okI to = true then 0 else 1
theorem findA_cases (l : List Ent) (nm : List UInt8) : findA l nm = -1 ∨ ∃ i, ∃ h : i < l.length, findA l nm = (i : Int) ∧ 0 < l[i].i ∧ l[i].nm = nm := by
  unfold findA
  have h := findL_spec (l := l) (nm := nm) 0 (by omega) (fun j h hj => by omega)
  rw [Nat.sub_zero] at h
  rcases h with ⟨h1, _⟩ | ⟨i, hi, h1, h2, h3, _⟩
  · exact .inl h1
  · exact .inr ⟨i, hi, h1, h2, h3⟩
end Dir
def RefL (E : Int) (P : List Ent → Prop) (w : World) (x : Ending) (w' : World) : Prop :=
  (∃ v xs, x = .returned (.tuple #[v, .int .i64 E]) ∧ EntsO w' w.heap.size v xs ∧ (E = 0 → P xs) ∧ (E ≠ 0 → xs = [])) ∧ Below w.heap.size w w'
theorem refL_bad {E : Int} {P : List Ent → Prop} {w w' : World} (hE : E ≠ 0) (hb : Below w.heap.size w w') : RefL E P w (.returned (.tuple #[.slice none 0 0, .int .i64 E])) w' :=
  ⟨⟨_, [], rfl, OwnM.nil encE_len _ _, fun h => absurd h hE, fun _ => rfl⟩, hb⟩
set_option maxHeartbeats 800000 in
theorem refTurn_calls (a : Option Addr) (n c : Nat) (l : List Ent) (nm : List UInt8) (to : Int) (w : World) (hx : EntsA w w.heap.size a n l) (hn : n ≤ 100000) :
    Calls Try.prog 21 #[.slice a n c, .string (strL nm), .int .i64 to] w (RefL (Dir.refTurnE l nm to) (fun xs => xs = l.set (Dir.findA l nm).toNat ⟨to, nm⟩) w) := by
  have HX := Lib.hid hx
  have HL := Lib.hid hx.len
  have HF := Lib.hid (refFind_calls a n c l nm w hx)
  clear hx
  rcases Dir.findA_cases l nm with h | ⟨k, hk, h, -, hnm⟩
  · have hE : Dir.refTurnE l nm to = 60 := by unfold Dir.refTurnE; rw [h]; rfl
    rw [hE]
    rw [h] at HF ⊢
    clear h hE
    go_enter Try.func21, Try.ntmps21
    go_wp2_with fail
    refine HF.out.mono ?_
    rintro e w1 ⟨rfl, rfl⟩
    go_wp2
    go_ret2
    exact refL_bad (by decide) (Below.refl _ _)
  have g1 : decide ((k : Int) < 0) = false := decide_eq_false (by omega)
  by_cases hi : Dir.okI to = true
  case neg =>
    have hE : Dir.refTurnE l nm to = 1 := by unfold Dir.refTurnE; rw [h, if_neg (by omega), if_neg hi]
    rw [hE]
    rw [h] at HF ⊢
    rw [Dir.okI_iff] at hi
    have hc : decide (to < 1) = true ∨ (decide (to < 1) = false ∧ decide (65535 < to) = true) := by
      by_cases h : to < 1
      · exact .inl (decide_eq_true h)
      · exact .inr ⟨decide_eq_false h, decide_eq_true (by omega)⟩
    clear hi hE h
    rcases hc with g2 | ⟨g2, g3⟩
    all_goals
      go_enter Try.func21, Try.ntmps21
      go_wp2_with fail
      refine HF.out.mono ?_
      rintro e w1 ⟨rfl, rfl⟩
      go_wp2
      go_ret2
      exact refL_bad (by decide) (Below.refl _ _)
  have hE : Dir.refTurnE l nm to = 0 := by unfold Dir.refTurnE; rw [h, if_neg (by omega), if_pos hi]
  have hi' := (Dir.okI_iff to).1 hi
  have g2 : decide (to < 1) = false := decide_eq_false (by omega)
  have g3 : decide (65535 < to) = false := decide_eq_false (by omega)
  rw [hE]
  rw [h] at HF ⊢
  rw [Int.toNat_natCast]
  have hkn : k < n := by rw [← HL.out]; exact hk
  have HN := Lib.hid hnm
  clear h hE hi hi' hnm
  go_enter Try.func21, Try.ntmps21
  go_wp2_with fail
  refine HF.out.mono ?_
  rintro e w1 ⟨rfl, rfl⟩
  go_wp2_with (at_builtin; refine wpList_ontoE rfl _ _ rfl w.heap.size _ [] rfl (OwnM.nil encE_len _ _) _ a n c l rfl HX.out (by simp; omega) (Nat.le_refl _) ?_; intro v2 w2 HO2 hb2 hk2)
  clear hk2
  rw [List.nil_append] at HO2
  obtain ⟨g, c2, rfl, hc2, hgb, hgl⟩ := HO2.out.form_some (by omega)
  have HLl := HL.out
  rw [HLl] at HO2 hc2 ⊢
  have d0 : w2.cell? ⟨g, k * 2, none⟩ = some (.int .i64 l[k].i) := (HO2.out.cellg (i := k) (j := 0) hk (by omega)).1
  have f0 : w2.frozen? ⟨g, k * 2, none⟩ = false := (HO2.out.cellg (i := k) (j := 0) hk (by omega)).2
  have hset := Lib.hid (HO2.out.set (i := k) (j := 0) (u := .int .i64 to) (y := ⟨to, nm⟩) hk (by omega) (by have := HN.out; generalize l[k] = e at *; obtain ⟨ei, en⟩ := e; dsimp only at this; subst this; rfl))
  rw [Nat.add_zero] at hset
  clear HLl
  generalize l[k].i = x0 at d0
  clear HN hk
  go_wp2
  go_simp
  go_wp2
  go_ret2
  exact ⟨⟨_, _, rfl, hset.out, fun _ => rfl, fun h => absurd rfl h⟩, hb2.out.setCell (p := ⟨g, k * 2, none⟩) hgb _⟩
end Go.Proofs.Ytlnomkkamopieaa
