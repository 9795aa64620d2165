/-
  The reference's best: the longest copy at a place.
-/
import Derived.Test.YtpjjfehocibljaaSqzMath
import Derived.Test.YtpjjfehocibljaaIterOwn
import Derived.Test.YtpjjfehocibljaaBytes
import Derived.Deep.QuietTactic
import Derived.BigQuiet
namespace Go.Proofs.Ytpjjfehocibljaa
open Go.RowKit

namespace Sqz
theorem sameF_go {b : List UInt8} {a k m S : Nat} (hm : m < 130) (h : sameF b a k (130 - m) m = S) (h1 : k + m < b.length) (h2 : b[a + m]? = b[k + m]?) : sameF b a k (130 - (m + 1)) (m + 1) = S := by
  rw [show 130 - m = (130 - (m + 1)) + 1 by omega, sameF, if_pos ⟨h1, h2⟩] at h
  exact h
theorem sameF_stop {b : List UInt8} {a k m S : Nat} (hm : m ≤ 130) (h : sameF b a k (130 - m) m = S) (h1 : m = 130 ∨ ¬ (k + m < b.length) ∨ b[a + m]? ≠ b[k + m]?) : m = S := by
  by_cases hm2 : m = 130
  · subst hm2; exact h
  · rw [show 130 - m = (130 - (m + 1)) + 1 by omega, sameF, if_neg (by
      rintro ⟨q1, q2⟩
      rcases h1 with h1 | h1 | h1
      · exact hm2 h1
      · exact h1 q1
      · exact h1 q2)] at h
    exact h
end Sqz
set_option maxRecDepth 100000 in
set_option maxHeartbeats 4000000 in
theorem refBest_calls (a : Option Addr) (n c k : Nat) (b : List UInt8) (w : World) (hx : Bytes w w.heap.size a n b) (hk : k < n) :
    Calls Try.prog 21 #[.slice a n c, .int .i64 (k : Int)] w fun e w' => e = .returned (.tuple #[.int .i64 ((Sqz.best b k).1 : Int), .int .i64 ((Sqz.best b k).2 : Int)]) ∧ Below w.heap.size w w' := by
  have hl := hx.len
  have hroom := hx.room
  have HX := Lib.hid hx
  have HL := Lib.hid hl
  have HBest := Lib.hid (show Sqz.best b k = Sqz.bestTo b k (min 4096 k) from rfl)
  clear hx hl
  generalize Sqz.best b k = R at *
  go_enter Try.func21, Try.ntmps21
  go_wp2
  go_loopw [6, 7, 8, 9] (fun s6 s7 s8 _ wr => ∃ d : Nat, d ≤ 4096 ∧ d ≤ k ∧ s8 = .int .i64 ((d : Int) + 1) ∧ s6 = .int .i64 ((Sqz.bestTo b k d).1 : Int) ∧ s7 = .int .i64 ((Sqz.bestTo b k d).2 : Int) ∧ Below w.heap.size w wr) (fun _ _ i _ _ => 5000 - (intOf i).toNat)
  case atStart => exact ⟨0, by omega, by omega, rfl, rfl, rfl, Below.refl _ _⟩
  case round =>
    obtain ⟨d, hd1, hd2, rfl, rfl, rfl, hb⟩ := hrel
    have HB := Lib.hid hb
    have HS1 := Lib.hid (show Sqz.bestTo b k (d + 1) = Sqz.best1 b k (Sqz.bestTo b k d) (d + 1) from rfl)
    have hle := Sqz.bestTo_le b k d
    clear hb
    by_cases hlt : d < 4096 ∧ d < k
    · obtain ⟨hlt1, hlt2⟩ := hlt
      obtain ⟨S, hS⟩ : ∃ S, S = Sqz.same b (k - (d + 1)) k := ⟨_, rfl⟩
      have HSS := Lib.hid hS
      have hSle := Sqz.same_le b (k - (d + 1)) k
      rw [← hS] at hSle
      clear hS
      have HUp := Lib.hid (fun (h : 2 < S ∧ (Sqz.bestTo b k d).1 < S) => (show Sqz.bestTo b k (d + 1) = (S, d + 1) by rw [HS1.out, Sqz.best1, ← HSS.out, if_pos h]))
      have HDn := Lib.hid (fun (h : ¬ (2 < S ∧ (Sqz.bestTo b k d).1 < S)) => (show (Sqz.bestTo b k (d + 1)).1 = (Sqz.bestTo b k d).1 ∧ (Sqz.bestTo b k (d + 1)).2 = (Sqz.bestTo b k d).2 by rw [HS1.out, Sqz.best1, ← HSS.out, if_neg h]; exact ⟨rfl, rfl⟩))
      clear HS1
      generalize (Sqz.bestTo b k d).1 = bn at *
      generalize (Sqz.bestTo b k d).2 = bf at *
      go_wp2
      obtain ⟨wo, rfl⟩ : ∃ wo : World, wo = wr := ⟨_, rfl⟩
      go_loopw [9] (fun s9 wq => ∃ m : Nat, m ≤ 130 ∧ k + m ≤ n ∧ s9 = .int .i64 (m : Int) ∧ Sqz.sameF b (k - (d + 1)) k (130 - m) m = S ∧ Below w.heap.size w wq) (fun s _ => 130 - (intOf s).toNat)
      case atStart => exact ⟨0, by omega, by omega, rfl, HSS.out.symm, HB.out⟩
      case round =>
        obtain ⟨m, hm1, hm2, rfl, hsm, hb⟩ := hrel
        have HM := Lib.hid hsm
        have HB2 := Lib.hid hb
        clear hb hsm
        by_cases h1 : m < 130
        case neg =>
          obtain rfl := Sqz.sameF_stop hm1 HM.out (.inl (by omega))
          have d1 : decide ((m : Int) < 130) = false := decide_eq_false (by omega)
          go_wp2_with fail
          go_quiet (fail)
          by_cases hc1 : 2 < m
          · by_cases hc2 : bn < m
            · have hup := Lib.hid (HUp.out ⟨hc1, hc2⟩)
              have g8 : decide (2 < (m : Int)) = true := decide_eq_true (by omega)
              have g9 : decide ((bn : Int) < (m : Int)) = true := decide_eq_true (by omega)
              go_wp2
              go_roundw
              case rel => exact ⟨d + 1, by omega, by omega, by go_num, by rw [hup.out], by rw [hup.out]; show _ = Value.int .i64 ((d + 1 : Nat) : Int); go_num, HB2.out.trans (below_drewN _ _)⟩
              case measure => simp [intOf]; omega
            · have hdn := Lib.hid (HDn.out (fun h => hc2 h.2))
              have g8 : decide (2 < (m : Int)) = true := decide_eq_true (by omega)
              have g9 : decide ((bn : Int) < (m : Int)) = false := decide_eq_false (by omega)
              go_wp2
              go_roundw
              case rel => exact ⟨d + 1, by omega, by omega, by go_num, by rw [hdn.out.1], by rw [hdn.out.2], HB2.out.trans (below_drewN _ _)⟩
              case measure => simp [intOf]; omega
          · have hdn := Lib.hid (HDn.out (fun h => hc1 h.1))
            have g8 : decide (2 < (m : Int)) = false := decide_eq_false (by omega)
            go_wp2
            go_roundw
            case rel => exact ⟨d + 1, by omega, by omega, by go_num, by rw [hdn.out.1], by rw [hdn.out.2], HB2.out.trans (below_drewN _ _)⟩
            case measure => simp [intOf]; omega
        by_cases h2 : k + m < n
        case neg =>
          obtain rfl := Sqz.sameF_stop hm1 HM.out (.inr (.inl (by rw [HL.out]; exact h2)))
          have d1 : decide ((m : Int) < 130) = true := decide_eq_true (by omega)
          have d2 : decide ((k : Int) + (m : Int) < (n : Int)) = false := decide_eq_false (by omega)
          go_wp2_with fail
          go_quiet (fail)
          by_cases hc1 : 2 < m
          · by_cases hc2 : bn < m
            · have hup := Lib.hid (HUp.out ⟨hc1, hc2⟩)
              have g8 : decide (2 < (m : Int)) = true := decide_eq_true (by omega)
              have g9 : decide ((bn : Int) < (m : Int)) = true := decide_eq_true (by omega)
              go_wp2
              go_roundw
              case rel => exact ⟨d + 1, by omega, by omega, by go_num, by rw [hup.out], by rw [hup.out]; show _ = Value.int .i64 ((d + 1 : Nat) : Int); go_num, HB2.out.trans (below_drewN _ _)⟩
              case measure => simp [intOf]; omega
            · have hdn := Lib.hid (HDn.out (fun h => hc2 h.2))
              have g8 : decide (2 < (m : Int)) = true := decide_eq_true (by omega)
              have g9 : decide ((bn : Int) < (m : Int)) = false := decide_eq_false (by omega)
              go_wp2
              go_roundw
              case rel => exact ⟨d + 1, by omega, by omega, by go_num, by rw [hdn.out.1], by rw [hdn.out.2], HB2.out.trans (below_drewN _ _)⟩
              case measure => simp [intOf]; omega
          · have hdn := Lib.hid (HDn.out (fun h => hc1 h.1))
            have g8 : decide (2 < (m : Int)) = false := decide_eq_false (by omega)
            go_wp2
            go_roundw
            case rel => exact ⟨d + 1, by omega, by omega, by go_num, by rw [hdn.out.1], by rw [hdn.out.2], HB2.out.trans (below_drewN _ _)⟩
            case measure => simp [intOf]; omega
        obtain ⟨b1, o1, hk1, rfl, hbl1, hc1⟩ := (HX.out.below HB2.out).at_ (k := k + m) h2
        obtain ⟨b2, o2, hk2, he2, hbl2, hc2⟩ := (HX.out.below HB2.out).at_ (k := k - (d + 1) + m) (by omega)
        simp only [Option.some.injEq, Addr.mk.injEq, and_true] at he2
        obtain ⟨rfl, rfl⟩ := he2
        have HGo := Lib.hid (fun h => Sqz.sameF_go (b := b) (a := k - (d + 1)) (k := k) h1 HM.out hk1 h)
        have HSt := Lib.hid (fun h => Sqz.sameF_stop (b := b) (a := k - (d + 1)) (k := k) hm1 HM.out (.inr (.inr h)))
        rw [List.getElem?_eq_getElem hk1, List.getElem?_eq_getElem hk2] at HGo HSt
        generalize b[k + m] = x at *
        generalize b[k - (d + 1) + m] = y at *
        have d1 : decide ((m : Int) < 130) = true := decide_eq_true (by omega)
        have d2 : decide ((k : Int) + (m : Int) < (n : Int)) = true := decide_eq_true (by omega)
        have q1 : IntKind.i64.wrap ((k : Int) + (m : Int)) = (k : Int) + (m : Int) := IntWalk.i64_in _ ⟨by omega, by omega⟩
        have q2 : IntKind.i64.wrap ((k : Int) + (m : Int) - ((d : Int) + 1)) = (k : Int) + (m : Int) - ((d : Int) + 1) := IntWalk.i64_in _ ⟨by omega, by omega⟩
        have q3 : (0 : Int) ≤ (k : Int) + (m : Int) := by omega
        have q4 : (0 : Int) ≤ (k : Int) + (m : Int) - ((d : Int) + 1) := by omega
        have q5 : (k : Int) + (m : Int) < (n : Int) := by omega
        have q6 : (k : Int) + (m : Int) - ((d : Int) + 1) < (n : Int) := by omega
        have q7 : ((k : Int) + (m : Int)).toNat = k + m := by omega
        have q8 : ((k : Int) + (m : Int) - ((d : Int) + 1)).toNat = k - (d + 1) + m := by omega
        by_cases he : y = x
        · subst he
          have hgo := Lib.hid (HGo.out rfl)
          have g3 : ((y.toNat : Int) == (y.toNat : Int)) = true := by simp
          clear HGo HSt
          go_wp2_with fail
          go_quiet (fail)
          clear q1 q2 q3 q4 q5 q6 q7 q8
          go_wp2
          go_roundw
          case rel => exact ⟨m + 1, by omega, by omega, by go_num, hgo.out, HB2.out.trans (below_drewN _ _)⟩
          case measure => simp [intOf]; omega
        · obtain rfl := HSt.out (by intro h; injection h with h; exact he h)
          have g3 : ((x.toNat : Int) == (y.toNat : Int)) = false := by
            rw [beq_eq_false_iff_ne]; intro h; exact he (UInt8.toNat_inj.1 (by omega))
          clear he HGo HSt
          go_wp2_with fail
          go_quiet (fail)
          clear q1 q2 q3 q4 q5 q6 q7 q8
          by_cases hc1 : 2 < m
          · by_cases hc2 : bn < m
            · have hup := Lib.hid (HUp.out ⟨hc1, hc2⟩)
              have g8 : decide (2 < (m : Int)) = true := decide_eq_true (by omega)
              have g9 : decide ((bn : Int) < (m : Int)) = true := decide_eq_true (by omega)
              go_wp2
              go_roundw
              case rel => exact ⟨d + 1, by omega, by omega, by go_num, by rw [hup.out], by rw [hup.out]; show _ = Value.int .i64 ((d + 1 : Nat) : Int); go_num, HB2.out.trans (below_drewN _ _)⟩
              case measure => simp [intOf]; omega
            · have hdn := Lib.hid (HDn.out (fun h => hc2 h.2))
              have g8 : decide (2 < (m : Int)) = true := decide_eq_true (by omega)
              have g9 : decide ((bn : Int) < (m : Int)) = false := decide_eq_false (by omega)
              go_wp2
              go_roundw
              case rel => exact ⟨d + 1, by omega, by omega, by go_num, by rw [hdn.out.1], by rw [hdn.out.2], HB2.out.trans (below_drewN _ _)⟩
              case measure => simp [intOf]; omega
          · have hdn := Lib.hid (HDn.out (fun h => hc1 h.1))
            have g8 : decide (2 < (m : Int)) = false := decide_eq_false (by omega)
            go_wp2
            go_roundw
            case rel => exact ⟨d + 1, by omega, by omega, by go_num, by rw [hdn.out.1], by rw [hdn.out.2], HB2.out.trans (below_drewN _ _)⟩
            case measure => simp [intOf]; omega
    · have hmin : d = min 4096 k := by omega
      have hR := Lib.hid (show R = Sqz.bestTo b k d by rw [HBest.out, hmin])
      have hd3 : ¬ (d < 4096 ∧ d < k) := hlt
      clear hlt hmin
      clear HS1
      generalize Sqz.bestTo b k d = st at *
      by_cases hd4 : d < 4096
      · have hd5 : d = k := by omega
        have g1 : decide ((d : Int) + 1 ≤ 4096) = true := decide_eq_true (by omega)
        have g2 : decide ((d : Int) + 1 ≤ (k : Int)) = false := decide_eq_false (by omega)
        clear hd3 hd5
        go_wp2
        go_ret2
        exact ⟨by rw [hR.out]; rfl, HB.out⟩
      · have g1 : decide ((d : Int) + 1 ≤ 4096) = false := decide_eq_false (by omega)
        clear hd3
        go_wp2
        go_ret2
        exact ⟨by rw [hR.out]; rfl, HB.out⟩
end Go.Proofs.Ytpjjfehocibljaa
