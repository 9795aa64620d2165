/-
  The reference's Remove, over a row of entries.
-/
import Derived.Test.YtlnomkkamopieaaDirRTurn
namespace Go.Proofs.Ytlnomkkamopieaa
open Go.RowKit

namespace Dir
def refRemoveE (l : List Ent) (nm : List UInt8) : Int := if findA l nm < 0 then 60 else 0
end Dir
theorem cutE_to (a : Option Addr) (n c h : Nat) (hl : h ≤ c) (w : World) : (Instr.slice 37 (.slice a n c) none (some (.int .i64 (h : Int))) none).run Try.prog w = .ok (.slice a h c) w := by
  obtain ⟨i0, hi, hz0, hz1, hz2⟩ := info_parts infoEnt
  exact run_cut_to Try.underlying37 hi a n c h hl w
set_option maxHeartbeats 4000000 in
theorem refRemove_calls (a : Option Addr) (n c : Nat) (l : List Ent) (nm : List UInt8) (w : World) (hx : EntsA w w.heap.size a n l) (hn : n ≤ 100000) :
    Calls Try.prog 20 #[.slice a n c, .string (strL nm)] w (RefL (Dir.refRemoveE l nm) (fun xs => ∃ t, Dir.TrimE (l.set (Dir.findA l nm).toNat Dir.none_) t ∧ xs = (l.set (Dir.findA l nm).toNat Dir.none_).take t) w) := by
  have HX := Lib.hid hx
  have HL := Lib.hid hx.len
  have HF := Lib.hid (refFind_calls a n c l nm w hx)
  clear hx
  rcases Dir.findA_cases l nm with h | ⟨k, hk, h, -, -⟩
  · have hE : Dir.refRemoveE l nm = 60 := by unfold Dir.refRemoveE; rw [h]; rfl
    rw [hE]
    rw [h] at HF ⊢
    clear h hE
    go_enter Try.func20, Try.ntmps20
    go_wp2_with fail
    refine HF.out.mono ?_
    rintro e w1 ⟨rfl, rfl⟩
    go_wp2
    go_ret2
    exact refL_bad (by decide) (Below.refl _ _)
  have g1 : decide ((k : Int) < 0) = false := decide_eq_false (by omega)
  have hE : Dir.refRemoveE l nm = 0 := by unfold Dir.refRemoveE; rw [h, if_neg (by omega)]
  rw [hE]
  rw [h] at HF ⊢
  rw [Int.toNat_natCast]
  have hkn : k < n := by rw [← HL.out]; exact hk
  obtain ⟨L, hL⟩ : ∃ L, L = l.set k Dir.none_ := ⟨_, rfl⟩
  rw [← hL]
  have HLq := Lib.hid hL
  clear h hE hL
  go_enter Try.func20, Try.ntmps20
  go_wp2_with fail
  refine HF.out.mono ?_
  rintro e w1 ⟨rfl, rfl⟩
  go_wp2_with (at_builtin; refine wpList_ontoE rfl _ _ rfl w.heap.size _ [] rfl (OwnM.nil encE_len _ _) _ a n c l rfl HX.out (by simp; omega) (Nat.le_refl _) ?_; intro v2 w2 HO2 hb2 hk2)
  clear hk2
  rw [List.nil_append] at HO2
  obtain ⟨g, c2, rfl, hc2, hgb, hgl⟩ := HO2.out.form_some (by omega)
  have HLl := HL.out
  rw [HLl] at HO2 hc2 ⊢
  have d0 : w2.cell? ⟨g, k * 2, none⟩ = some (.int .i64 l[k].i) := (HO2.out.cellg (i := k) (j := 0) hk (by omega)).1
  have f0 : w2.frozen? ⟨g, k * 2, none⟩ = false := (HO2.out.cellg (i := k) (j := 0) hk (by omega)).2
  have d1 : w2.cell? ⟨g, k * 2 + 1, none⟩ = some (.string (strL l[k].nm)) := (HO2.out.cellg (i := k) (j := 1) hk (by omega)).1
  have f1 : w2.frozen? ⟨g, k * 2 + 1, none⟩ = false := (HO2.out.cellg (i := k) (j := 1) hk (by omega)).2
  have h1 := HO2.out.set (i := k) (j := 0) (u := .int .i64 0) (y := ⟨0, l[k].nm⟩) hk (by omega) rfl
  have h2 := h1.set (i := k) (j := 1) (u := .string ⟨#[]⟩) (y := Dir.none_) (by rw [List.length_set]; exact hk) (by omega) (by rw [List.getElem_set_self]; rfl)
  rw [List.set_set, Nat.add_zero, ← HLq.out] at h2
  have HS := Lib.hid h2
  have HB := Lib.hid ((hb2.out.setCell (p := ⟨g, k * 2, none⟩) hgb (.int .i64 0)).setCell (p := ⟨g, k * 2 + 1, none⟩) hgb (.string ⟨#[]⟩))
  have HLs := Lib.hid (show L.length = n by rw [HLq.out, List.length_set]; exact HLl)
  clear HLl h1 h2
  generalize l[k].i = x0 at d0
  generalize l[k].nm = y0 at d1
  clear hk
  go_wp2
  go_simp
  go_wp2
  generalize (w2.setCell ⟨g, k * 2, none⟩ (.int .i64 0)).setCell ⟨g, k * 2 + 1, none⟩ (.string ⟨#[]⟩) = w3 at *
  clear d0 f0 d1 f1 HO2 hb2
  go_loop [7] (fun o => ∃ m : Nat, m ≤ n ∧ o = .slice (some ⟨g, 0, none⟩) m c2 ∧ ∀ j (h : j < L.length), m ≤ j → L[j].i = 0) (fun o => lenV o)
  case atStart => exact ⟨n, Nat.le_refl _, rfl, fun j h hj => by have := HLs.out; omega⟩
  case round =>
    obtain ⟨m, hm, rfl, hz⟩ := hrel
    have HZ := Lib.hid hz
    clear hz
    have HOm := Lib.hid (HS.out.take (k := m) hm)
    cases m with
    | zero =>
      go_wp2
      go_ret2
      exact ⟨⟨_, L.take 0, rfl, HOm.out, fun _ => ⟨0, ⟨by omega, HZ.out, .inl rfl⟩, rfl⟩, fun h => absurd rfl h⟩, HB.out⟩
    | succ m =>
      have hml : m < L.length := by rw [HLs.out]; omega
      have d0 : w3.cell? ⟨g, m * 2, none⟩ = some (.int .i64 L[m].i) := (HS.out.cellg (i := m) (j := 0) hml (by omega)).1
      have hlast := Lib.hid (fun (h : L[m].i = 0) (j : Nat) (hj : j < L.length) (hmj : m ≤ j) => (show L[j].i = 0 by
        by_cases e : j = m
        · subst e; exact h
        · exact HZ.out j hj (by omega)))
      have hstop := Lib.hid (fun (h : L[m].i ≠ 0) => (show Dir.TrimE L (m + 1) from ⟨by omega, HZ.out, .inr ⟨hml, h⟩⟩))
      generalize L[m].i = x at *
      clear hml
      have g2 : decide ((0 : Int) < ((m + 1 : Nat) : Int)) = true := decide_eq_true (by omega)
      by_cases hx : x = 0
      · subst hx
        have hcut := cutE_to (some ⟨g, 0, none⟩) (m + 1) c2 m (by omega)
        go_wp2
        exact ⟨⟨m, by omega, rfl, hlast.out rfl⟩, by simp [lenV]⟩
      · have g3 : (x == 0) = false := by simpa using hx
        have hT := Lib.hid (hstop.out hx)
        clear hx
        go_wp2
        go_ret2
        exact ⟨⟨_, L.take (m + 1), rfl, HOm.out, fun _ => ⟨m + 1, hT.out, rfl⟩, fun h => absurd rfl h⟩, HB.out⟩
end Go.Proofs.Ytlnomkkamopieaa
