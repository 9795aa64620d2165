/-
  tag.Right and the reference's.
-/
import Derived.Test.YtiipnpfaaghekaaGreatTagSmall
namespace Go.Proofs.YtiipnpfaaghekaaGreat
open Go.RowKit

set_option maxHeartbeats 4000000 in
theorem tagRight_calls (t : Tg) (hp : t.p < 4294967296) (hs : t.s < 18446744073709551616) (he : t.e < 18446744073709551616) (w : World) :
    Calls Tryz.prog 63 #[tagV t] w fun e w' => e = .returned (.bool (Tg.rightB t)) ∧ Below w.heap.size w w' := by
  have hbl := Lib.hid ((Below.refl w.heap.size w).alloc (Nat.le_refl _) (tagO t))
  obtain ⟨k, p, s, e⟩ := t
  simp only at hp hs he
  by_cases hk : k = 1 ∨ k = 2
  case neg =>
    have h1 : (k == 1) = false := by rw [beq_eq_false_iff_ne]; omega
    have h2 : (k == 2) = false := by rw [beq_eq_false_iff_ne]; omega
    have hn := Lib.hid (Tg.rightB_no (t := ⟨k, p, s, e⟩) (fun h => hk h.1))
    clear hk
    go_enter Tryz.func63, Tryz.ntmps63
    go_wp2
    go_ret
    exact ⟨by rw [hn.out]; rfl, hbl.out⟩
  by_cases h : p < 8192 ∧ 1 ≤ s ∧ s < 4611686018427387904 ∧ 1 ≤ e ∧ e < 4611686018427387904
  case pos =>
    have hn := Lib.hid (Tg.rightB_yes (t := ⟨k, p, s, e⟩) ⟨hk, h⟩)
    obtain ⟨h1, h2, h3, h4, h5⟩ := h
    have g1 : (p : Int) < 8192 := by omega
    have g2 : (1 : Int) ≤ s := by omega
    have g3 : (s : Int) < 4611686018427387904 := by omega
    have g4 : (1 : Int) ≤ e := by omega
    have g5 : decide ((e : Int) < 4611686018427387904) = true := decide_eq_true (by omega)
    clear h1 h2 h3 h4 h5 hp hs he
    rcases hk with rfl | rfl
    all_goals
      go_enter Tryz.func63, Tryz.ntmps63
      go_wp2
      go_ret
      exact ⟨by rw [hn.out]; rfl, hbl.out⟩
  case neg =>
    have hn := Lib.hid (Tg.rightB_no (t := ⟨k, p, s, e⟩) (fun hh => h hh.2))
    by_cases h1 : p < 8192
    case neg =>
      have g1 : decide ((p : Int) < 8192) = false := decide_eq_false (by omega)
      clear h h1 hp hs he
      rcases hk with rfl | rfl
      all_goals
        go_enter Tryz.func63, Tryz.ntmps63
        go_wp2
        go_ret
        exact ⟨by rw [hn.out]; rfl, hbl.out⟩
    by_cases h2 : 1 ≤ s
    case neg =>
      have g1 : (p : Int) < 8192 := by omega
      have g2 : decide ((1 : Int) ≤ s) = false := decide_eq_false (by omega)
      clear h h1 h2 hp hs he
      rcases hk with rfl | rfl
      all_goals
        go_enter Tryz.func63, Tryz.ntmps63
        go_wp2
        go_ret
        exact ⟨by rw [hn.out]; rfl, hbl.out⟩
    by_cases h3 : s < 4611686018427387904
    case neg =>
      have g1 : (p : Int) < 8192 := by omega
      have g2 : (1 : Int) ≤ s := by omega
      have g3 : decide ((s : Int) < 4611686018427387904) = false := decide_eq_false (by omega)
      clear h h1 h2 h3 hp hs he
      rcases hk with rfl | rfl
      all_goals
        go_enter Tryz.func63, Tryz.ntmps63
        go_wp2
        go_ret
        exact ⟨by rw [hn.out]; rfl, hbl.out⟩
    by_cases h4 : 1 ≤ e
    case neg =>
      have g1 : (p : Int) < 8192 := by omega
      have g2 : (1 : Int) ≤ s := by omega
      have g3 : (s : Int) < 4611686018427387904 := by omega
      have g4 : decide ((1 : Int) ≤ e) = false := decide_eq_false (by omega)
      clear h h1 h2 h3 h4 hp hs he
      rcases hk with rfl | rfl
      all_goals
        go_enter Tryz.func63, Tryz.ntmps63
        go_wp2
        go_ret
        exact ⟨by rw [hn.out]; rfl, hbl.out⟩
    have h5 : ¬ e < 4611686018427387904 := fun h5 => h ⟨h1, h2, h3, h4, h5⟩
    clear h
    have g1 : (p : Int) < 8192 := by omega
    have g2 : (1 : Int) ≤ s := by omega
    have g3 : (s : Int) < 4611686018427387904 := by omega
    have g4 : (1 : Int) ≤ e := by omega
    have g5 : decide ((e : Int) < 4611686018427387904) = false := decide_eq_false (by omega)
    clear h1 h2 h3 h4 h5 hp hs he
    rcases hk with rfl | rfl
    all_goals
      go_enter Tryz.func63, Tryz.ntmps63
      go_wp2
      go_ret
      exact ⟨by rw [hn.out]; rfl, hbl.out⟩
end Go.Proofs.YtiipnpfaaghekaaGreat
