/-
  The reference's Right.
-/
import Derived.Test.YtjnjemhnceejeaaInoRight
namespace Go.Proofs.Ytjnjemhnceejeaa
open Go.RowKit

def Nod.ptrs (i : Nod) : List Int := [i.d0, i.d1, i.d2, i.d3, i.d4, i.d5, i.a, i.b]
theorem pointers_calls (i : Nod) (w : World) :
    Calls Try.prog 42 #[nodV i] w fun e w' => (∃ v, e = .returned v ∧ Own intV 3 w' w.heap.size v i.ptrs) ∧ Below w.heap.size w w' := by
  obtain ⟨k, l, s, d0, d1, d2, d3, d4, d5, a, b⟩ := i
  go_enter Try.func42, Try.ntmps42
  go_wp2
  go_ret
  refine ⟨⟨_, rfl, ?_⟩, ?_⟩
  · exact Own.made_at (xs := [d0, d1, d2, d3, d4, d5, a, b]) (by simp) rfl (by simp; omega) (by decide)
  · exact (((Below.refl _ _).alloc (Nat.le_refl _) _).alloc (by simp) _).alloc (by simp; omega) _
theorem refRight_zero (i : Nod) (w : World) (hk : i.k = 0) :
    Calls Try.prog 21 #[nodV i] w fun e w' => e = .returned (.bool (Nod.rightB i)) ∧ Below w.heap.size w w' := by
  have hbl := Lib.hid ((Below.refl w.heap.size w).alloc (Nat.le_refl _) (nodO i))
  obtain ⟨k, l, s, d0, d1, d2, d3, d4, d5, a, b⟩ := i
  subst hk
  have hv : Nod.rightB ⟨0, l, s, d0, d1, d2, d3, d4, d5, a, b⟩ = nodEq ⟨0, l, s, d0, d1, d2, d3, d4, d5, a, b⟩ ⟨0, 0, 0, 0, 0, 0, 0, 0, 0, 0, 0⟩ := by
    rw [Bool.eq_iff_iff, nodEq_iff, Nod.rightB, decide_eq_true_iff, Nod.right_zero rfl]
    simp [Nod.Free]
  rw [hv]
  clear hv
  go_enter Try.func21, Try.ntmps21
  go_wp2
  go_ret
  exact ⟨rfl, hbl.out⟩
def Nod.Head (i : Nod) : Prop := (i.k = 1 ∨ i.k = 2) ∧ 0 ≤ i.l ∧ i.l ≤ 1000 ∧ 0 ≤ i.s ∧ i.s ≤ 2147483647
theorem Nod.used_iff (i : Nod) : Nod.Used i ↔ Nod.Head i ∧ ∀ p ∈ i.ptrs, Nod.Pg p := by
  unfold Nod.Used Nod.Head Nod.Dirs Nod.ptrs
  simp only [List.mem_cons, List.not_mem_nil, or_false, forall_eq_or_imp, forall_eq]
  constructor
  · rintro ⟨a, b, c, d, e, ⟨g0, g1, g2, g3, g4, g5⟩, ha, hb⟩
    exact ⟨⟨a, b, c, d, e⟩, g0, g1, g2, g3, g4, g5, ha, hb⟩
  · rintro ⟨⟨a, b, c, d, e⟩, g0, g1, g2, g3, g4, g5, ha, hb⟩
    exact ⟨a, b, c, d, e, ⟨g0, g1, g2, g3, g4, g5⟩, ha, hb⟩
set_option maxHeartbeats 4000000 in
theorem refRight_head (i : Nod) (w : World) (hk : i.k ≠ 0) (hh : ¬ Nod.Head i) :
    Calls Try.prog 21 #[nodV i] w fun e w' => e = .returned (.bool (Nod.rightB i)) ∧ Below w.heap.size w w' := by
  have hbl := Lib.hid ((Below.refl w.heap.size w).alloc (Nat.le_refl _) (nodO i))
  rw [Nod.rightB_no (fun h => hh ((Nod.used_iff i).1 ((Nod.right_used hk).1 h)).1)]
  obtain ⟨k, l, s, d0, d1, d2, d3, d4, d5, a, b⟩ := i
  have h0 : (k == 0) = false := by rw [beq_eq_false_iff_ne]; exact hk
  simp only [Nod.Head] at hh hk
  by_cases h1 : k = 1 ∨ k = 2
  case neg =>
    have h2 : (k != 1) = true := by rw [bne_iff_ne]; omega
    have h3 : (k != 2) = true := by rw [bne_iff_ne]; omega
    have h4 : (k == 1) = false := by rw [beq_eq_false_iff_ne]; omega
    have h5 : (k == 2) = false := by rw [beq_eq_false_iff_ne]; omega
    clear h1 hh hk
    go_enter Try.func21, Try.ntmps21
    go_wp2
    go_ret
    exact ⟨rfl, hbl.out⟩
  have hr : l < 0 ∨ (0 ≤ l ∧ 1000 < l) ∨ (0 ≤ l ∧ l ≤ 1000 ∧ s < 0) ∨ (0 ≤ l ∧ l ≤ 1000 ∧ 0 ≤ s ∧ 2147483647 < s) := by omega
  clear hh hk
  rcases h1 with rfl | rfl
  all_goals
    rcases hr with hr | ⟨h1, h2⟩ | ⟨h1, h2, h3⟩ | ⟨h1, h2, h3, h4⟩
    all_goals
      go_enter Try.func21, Try.ntmps21
      go_wp2
      go_ret
      exact ⟨rfl, hbl.out⟩
set_option maxHeartbeats 4000000 in
theorem refRight_good (i : Nod) (w : World) (hk : i.k ≠ 0) (hh : Nod.Head i) :
    Calls Try.prog 21 #[nodV i] w fun e w' => e = .returned (.bool (Nod.rightB i)) ∧ Below w.heap.size w w' := by
  have hbl := Lib.hid ((Below.refl w.heap.size w).alloc (Nat.le_refl _) (nodO i))
  have hu := Lib.hid ((Nod.right_used hk).trans (Nod.used_iff i))
  have hl : i.ptrs.length = 8 := rfl
  obtain ⟨k, l, s, d0, d1, d2, d3, d4, d5, a, b⟩ := i
  generalize hps : Nod.ptrs ⟨k, l, s, d0, d1, d2, d3, d4, d5, a, b⟩ = ps at *
  have HPS := Lib.hid hps
  have HH := Lib.hid hh
  simp only [Nod.Head] at hh hk
  obtain ⟨h1, h2, h3, h4, h5⟩ := hh
  clear hps hk
  rcases h1 with rfl | rfl
  all_goals
    go_enter Try.func21, Try.ntmps21
    go_wp2_with fail
    refine (pointers_calls ⟨_, l, s, d0, d1, d2, d3, d4, d5, a, b⟩ _).mono ?_
    rw [HPS.out]
    rintro e w1 ⟨⟨v, rfl, ho⟩, hb⟩
    obtain ⟨ad, c, rfl, hc⟩ := ho.formN hl
    have HA := Lib.hid (ho.arr (by omega))
    have HB := Lib.hid (Below.then_ hbl.out hb)
    clear ho hb
    go_wp2
    go_loop [4] (fun i => ∃ m : Nat, m ≤ 8 ∧ i = .int .i64 m ∧ ∀ p ∈ ps.take m, Nod.Pg p) (fun i => 8 - (intOf i).toNat)
    case atStart => exact ⟨0, by omega, rfl, by simp⟩
    case round =>
      obtain ⟨m, hm, rfl, hg⟩ := hrel
      have HG := Lib.hid hg
      clear hg
      by_cases hlt : m < 8
      · obtain ⟨g, o, hm', rfl, hb, hc⟩ := HA.out.atv hlt
        have hmem := List.getElem_mem hm'
        have HT := Lib.hid (List.take_succ_eq_append_getElem hm')
        generalize hx : ps[m] = x at *
        clear hx
        by_cases hp : Nod.Pg x
        · obtain ⟨p1, p2⟩ : 0 ≤ x ∧ x ≤ 8191 := by unfold Nod.Pg at hp; omega
          have HP := Lib.hid hp
          clear hp
          go_wp2
          go_round
          case rel =>
            refine ⟨m + 1, by omega, by go_num, fun q hq => ?_⟩
            rw [HT.out, List.mem_append, List.mem_singleton] at hq
            rcases hq with hq | rfl
            · exact HG.out q hq
            · exact HP.out
          case measure => simp [intOf]; omega
        · have hn := Lib.hid (Nod.rightB_no (fun h => hp ((hu.out.1 h).2 x hmem)))
          have hq : x < 0 ∨ (0 ≤ x ∧ 8191 < x) := by unfold Nod.Pg at hp; omega
          clear hp
          rcases hq with q1 | ⟨q1, q2⟩
          all_goals
            go_wp2
            go_ret
            exact ⟨by rw [hn.out]; rfl, HB.out⟩
      · obtain rfl : m = 8 := by omega
        have hy := Lib.hid (Nod.rightB_yes (hu.out.2 ⟨HH.out, fun p hp => HG.out p (by rw [List.take_of_length_le (by omega)]; exact hp)⟩))
        go_wp2
        go_ret
        exact ⟨by rw [hy.out]; rfl, HB.out⟩
theorem refRight_calls (i : Nod) (w : World) :
    Calls Try.prog 21 #[nodV i] w fun e w' => e = .returned (.bool (Nod.rightB i)) ∧ Below w.heap.size w w' := by
  by_cases hk : i.k = 0
  · exact refRight_zero i w hk
  · by_cases hh : Nod.Head i
    · exact refRight_good i w hk hh
    · exact refRight_head i w hk hh
end Go.Proofs.Ytjnjemhnceejeaa
