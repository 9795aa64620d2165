/-
  inode.Right and the reference's.
-/
import Derived.Test.YtjnjemhnceejeaaInoSmall
import Derived.Test.YtjnjemhnceejeaaInoEq
namespace Go.Proofs.Ytjnjemhnceejeaa
open Go.RowKit

theorem page_yes (p : Int) (h : Nod.Pg p) (w : World) : Calls Try.prog 45 #[.int .i64 p] w fun e w' => e = .returned (.bool true) ∧ w = w' := by
  refine (page_calls p w).mono ?_
  rw [decide_eq_true (show 0 ≤ p ∧ p < 8192 from h)]
  exact fun _ _ h => h
theorem page_no (p : Int) (h : ¬ Nod.Pg p) (w : World) : Calls Try.prog 45 #[.int .i64 p] w fun e w' => e = .returned (.bool false) ∧ w = w' := by
  refine (page_calls p w).mono ?_
  rw [decide_eq_false (show ¬ (0 ≤ p ∧ p < 8192) from h)]
  exact fun _ _ h => h
set_option maxHeartbeats 4000000 in
theorem right_calls (i : Nod) (w : World) :
    Calls Try.prog 20 #[nodV i] w fun e w' => e = .returned (.bool (Nod.rightB i)) ∧ Below w.heap.size w w' := by
  have hbl := Lib.hid ((Below.refl w.heap.size w).alloc (Nat.le_refl _) (nodO i))
  obtain ⟨k, l, s, d0, d1, d2, d3, d4, d5, a, b⟩ := i
  by_cases hk : k = 0
  · subst hk
    have hv : Nod.rightB ⟨0, l, s, d0, d1, d2, d3, d4, d5, a, b⟩ = nodEq ⟨0, l, s, d0, d1, d2, d3, d4, d5, a, b⟩ ⟨0, 0, 0, 0, 0, 0, 0, 0, 0, 0, 0⟩ := by
      rw [Bool.eq_iff_iff, nodEq_iff, Nod.rightB, decide_eq_true_iff, Nod.right_zero rfl]
      simp [Nod.Free]
    rw [hv]
    clear hv
    go_enter Try.func20, Try.ntmps20
    go_wp2
    go_ret
    exact ⟨rfl, hbl.out⟩
  · have hu := Nod.right_used (i := ⟨k, l, s, d0, d1, d2, d3, d4, d5, a, b⟩) hk
    have HU := Lib.hid hu
    clear hu
    have hkb : (k == 0) = false := by rw [beq_eq_false_iff_ne]; exact hk
    have HK := Lib.hid hk
    clear hk
    go_enter Try.func20, Try.ntmps20
    go_wp2
    have BK := Lib.hid (Blk.new w 36 #[.int .i64 k, .int .i64 l, .int .i64 s, .int .i64 d0, .int .i64 d1, .int .i64 d2, .int .i64 d3, .int .i64 d4, .int .i64 d5, .int .i64 a, .int .i64 b])
    generalize w.alloc (nodO ⟨k, l, s, d0, d1, d2, d3, d4, d5, a, b⟩) = w1 at *
    go_loop [2, 4, 13] (fun r _x i => ∃ m : Nat, m ≤ 6 ∧ r = .bool false ∧ i = .int .i64 m ∧ (0 < m → Nod.Pg d0) ∧ (1 < m → Nod.Pg d1) ∧ (2 < m → Nod.Pg d2) ∧ (3 < m → Nod.Pg d3) ∧ (4 < m → Nod.Pg d4) ∧ (5 < m → Nod.Pg d5)) (fun _ _ i => 6 - (intOf i).toNat)
    case atStart => exact ⟨0, by omega, rfl, rfl, by omega, by omega, by omega, by omega, by omega, by omega⟩
    case round =>
      obtain ⟨m, hm, rfl, rfl, g0, g1, g2, g3, g4, g5⟩ := hrel
      have hc : m = 0 ∨ m = 1 ∨ m = 2 ∨ m = 3 ∨ m = 4 ∨ m = 5 ∨ m = 6 := by omega
      rcases hc with rfl | rfl | rfl | rfl | rfl | rfl | rfl
      · by_cases hp : Nod.Pg d0
        · go_wp2_with (go_at_call 45; refine (page_yes d0 hp _).mono ?_; rintro e w' ⟨rfl, rfl⟩)
          go_round
          case rel => exact ⟨1, by omega, rfl, rfl, fun _ => hp, by omega, by omega, by omega, by omega, by omega⟩
          case measure => simp [intOf]
        · go_wp2_with (go_at_call 45; refine (page_no d0 hp _).mono ?_; rintro e w' ⟨rfl, rfl⟩)
          go_ret
          exact ⟨by rw [Nod.rightB_no (fun h => hp (by have := HU.out.1 h; exact this.2.2.2.2.2.1.1))]; rfl, hbl.out⟩
      · by_cases hp : Nod.Pg d1
        · go_wp2_with (go_at_call 45; refine (page_yes d1 hp _).mono ?_; rintro e w' ⟨rfl, rfl⟩)
          go_round
          case rel => exact ⟨2, by omega, rfl, rfl, fun _ => g0 (by omega), fun _ => hp, by omega, by omega, by omega, by omega⟩
          case measure => simp [intOf]
        · go_wp2_with (go_at_call 45; refine (page_no d1 hp _).mono ?_; rintro e w' ⟨rfl, rfl⟩)
          go_ret
          exact ⟨by rw [Nod.rightB_no (fun h => hp (by have := HU.out.1 h; exact this.2.2.2.2.2.1.2.1))]; rfl, hbl.out⟩
      · by_cases hp : Nod.Pg d2
        · go_wp2_with (go_at_call 45; refine (page_yes d2 hp _).mono ?_; rintro e w' ⟨rfl, rfl⟩)
          go_round
          case rel => exact ⟨3, by omega, rfl, rfl, fun _ => g0 (by omega), fun _ => g1 (by omega), fun _ => hp, by omega, by omega, by omega⟩
          case measure => simp [intOf]
        · go_wp2_with (go_at_call 45; refine (page_no d2 hp _).mono ?_; rintro e w' ⟨rfl, rfl⟩)
          go_ret
          exact ⟨by rw [Nod.rightB_no (fun h => hp (by have := HU.out.1 h; exact this.2.2.2.2.2.1.2.2.1))]; rfl, hbl.out⟩
      · by_cases hp : Nod.Pg d3
        · go_wp2_with (go_at_call 45; refine (page_yes d3 hp _).mono ?_; rintro e w' ⟨rfl, rfl⟩)
          go_round
          case rel => exact ⟨4, by omega, rfl, rfl, fun _ => g0 (by omega), fun _ => g1 (by omega), fun _ => g2 (by omega), fun _ => hp, by omega, by omega⟩
          case measure => simp [intOf]
        · go_wp2_with (go_at_call 45; refine (page_no d3 hp _).mono ?_; rintro e w' ⟨rfl, rfl⟩)
          go_ret
          exact ⟨by rw [Nod.rightB_no (fun h => hp (by have := HU.out.1 h; exact this.2.2.2.2.2.1.2.2.2.1))]; rfl, hbl.out⟩
      · by_cases hp : Nod.Pg d4
        · go_wp2_with (go_at_call 45; refine (page_yes d4 hp _).mono ?_; rintro e w' ⟨rfl, rfl⟩)
          go_round
          case rel => exact ⟨5, by omega, rfl, rfl, fun _ => g0 (by omega), fun _ => g1 (by omega), fun _ => g2 (by omega), fun _ => g3 (by omega), fun _ => hp, by omega⟩
          case measure => simp [intOf]
        · go_wp2_with (go_at_call 45; refine (page_no d4 hp _).mono ?_; rintro e w' ⟨rfl, rfl⟩)
          go_ret
          exact ⟨by rw [Nod.rightB_no (fun h => hp (by have := HU.out.1 h; exact this.2.2.2.2.2.1.2.2.2.2.1))]; rfl, hbl.out⟩
      · by_cases hp : Nod.Pg d5
        · go_wp2_with (go_at_call 45; refine (page_yes d5 hp _).mono ?_; rintro e w' ⟨rfl, rfl⟩)
          go_round
          case rel => exact ⟨6, by omega, rfl, rfl, fun _ => g0 (by omega), fun _ => g1 (by omega), fun _ => g2 (by omega), fun _ => g3 (by omega), fun _ => g4 (by omega), fun _ => hp⟩
          case measure => simp [intOf]
        · go_wp2_with (go_at_call 45; refine (page_no d5 hp _).mono ?_; rintro e w' ⟨rfl, rfl⟩)
          go_ret
          exact ⟨by rw [Nod.rightB_no (fun h => hp (by have := HU.out.1 h; exact this.2.2.2.2.2.1.2.2.2.2.2))]; rfl, hbl.out⟩
      · obtain ⟨g0, g1, g2, g3, g4, g5⟩ : Nod.Pg d0 ∧ Nod.Pg d1 ∧ Nod.Pg d2 ∧ Nod.Pg d3 ∧ Nod.Pg d4 ∧ Nod.Pg d5 := ⟨g0 (by omega), g1 (by omega), g2 (by omega), g3 (by omega), g4 (by omega), g5 (by omega)⟩
        have c0 := BK.out.cellv (i := 0) rfl
        have c1 := BK.out.cellv (i := 1) rfl
        have c2 := BK.out.cellv (i := 2) rfl
        have c3 := BK.out.cellv (i := 9) rfl
        have c4 := BK.out.cellv (i := 10) rfl
        by_cases hk2 : k = 1 ∨ k = 2
        case neg =>
          have h1 : (k == 1) = false := by rw [beq_eq_false_iff_ne]; omega
          have h2 : (k == 2) = false := by rw [beq_eq_false_iff_ne]; omega
          have hk2 := Lib.hid hk2
          go_wp2
          go_ret
          exact ⟨by rw [Nod.rightB_no (fun h => hk2.out (HU.out.1 h).1)]; rfl, hbl.out⟩
        by_cases hl1 : 0 ≤ l
        case neg =>
          have hn := Lib.hid (Nod.rightB_no (fun h => hl1 (HU.out.1 h).2.1))
          rcases hk2 with rfl | rfl
          all_goals
            go_wp2
            go_ret
            exact ⟨by rw [hn.out]; rfl, hbl.out⟩
        by_cases hl2 : l ≤ 1000
        case neg =>
          have hn := Lib.hid (Nod.rightB_no (fun h => hl2 (HU.out.1 h).2.2.1))
          rcases hk2 with rfl | rfl
          all_goals
            go_wp2
            go_ret
            exact ⟨by rw [hn.out]; rfl, hbl.out⟩
        by_cases hs1 : 0 ≤ s
        case neg =>
          have hn := Lib.hid (Nod.rightB_no (fun h => hs1 (HU.out.1 h).2.2.2.1))
          rcases hk2 with rfl | rfl
          all_goals
            go_wp2
            go_ret
            exact ⟨by rw [hn.out]; rfl, hbl.out⟩
        by_cases hs2 : s ≤ 2147483647
        case neg =>
          have hn := Lib.hid (Nod.rightB_no (fun h => hs2 (HU.out.1 h).2.2.2.2.1))
          rcases hk2 with rfl | rfl
          all_goals
            go_wp2
            go_ret
            exact ⟨by rw [hn.out]; rfl, hbl.out⟩
        by_cases ha : Nod.Pg a
        case neg =>
          have hn := Lib.hid (Nod.rightB_no (fun h => ha (HU.out.1 h).2.2.2.2.2.2.1))
          rcases hk2 with rfl | rfl
          all_goals
            go_wp2_with (go_at_call 45; refine (page_no a ha _).mono ?_; rintro e w' ⟨rfl, rfl⟩)
            go_ret
            exact ⟨by rw [hn.out]; rfl, hbl.out⟩
        by_cases hb : Nod.Pg b
        case neg =>
          have hn := Lib.hid (Nod.rightB_no (fun h => hb (HU.out.1 h).2.2.2.2.2.2.2))
          rcases hk2 with rfl | rfl
          all_goals
            go_wp2_with (go_at_call 45; first | (refine (page_yes a ha _).mono ?_; rintro e w' ⟨rfl, rfl⟩) | (refine (page_no b hb _).mono ?_; rintro e w' ⟨rfl, rfl⟩))
            go_ret
            exact ⟨by rw [hn.out]; rfl, hbl.out⟩
        have hy := Lib.hid (Nod.rightB_yes (HU.out.2 ⟨hk2, hl1, hl2, hs1, hs2, ⟨g0, g1, g2, g3, g4, g5⟩, ha, hb⟩))
        rcases hk2 with rfl | rfl
        all_goals
          go_wp2_with (go_at_call 45; first | (refine (page_yes a ha _).mono ?_; rintro e w' ⟨rfl, rfl⟩) | (refine (page_yes b hb _).mono ?_; rintro e w' ⟨rfl, rfl⟩))
          go_ret
          exact ⟨by rw [hy.out]; rfl, hbl.out⟩
end Go.Proofs.Ytjnjemhnceejeaa
