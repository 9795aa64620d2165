/-
  The finder's same: how many bytes from two places on are the same.
-/
import Derived.Test.YtpjjfehocibljaaSqzRefB
namespace Go.Proofs.Ytpjjfehocibljaa
open Go.RowKit

set_option maxRecDepth 100000 in
set_option maxHeartbeats 4000000 in
theorem fsame_calls (C M : Nat) (ad : Option Addr) (n c p k : Nat) (b : List UInt8) (w : World) (hx : Bytes w w.heap.size ad n b) (hC : Blk w C 42 #[.slice ad n c, .map (some M)]) (hpk : p < k) (hk : k ≤ n) :
    Calls Try.prog 26 #[.pointer (some ⟨C, 0, none⟩), .int .i64 (p : Int), .int .i64 (k : Int)] w fun e w' => e = .returned (.int .i64 ((Sqz.same b p k : Nat) : Int)) ∧ Below w.heap.size w w' := by
  have hl := hx.len
  have hroom := hx.room
  have HX := Lib.hid hx
  have HL := Lib.hid hl
  have HC := Lib.hid hC
  obtain ⟨S, hS⟩ : ∃ S, S = Sqz.same b p k := ⟨_, rfl⟩
  have HSS := Lib.hid hS
  have hSle := Sqz.same_le b p k
  rw [← hS] at hSle ⊢
  clear hx hl hC hS
  go_enter Try.func26, Try.ntmps26
  go_wp2
  go_loopw [7] (fun s wq => ∃ m : Nat, m ≤ 130 ∧ k + m ≤ n ∧ s = .int .i64 (m : Int) ∧ Sqz.sameF b p k (130 - m) m = S ∧ Below w.heap.size w wq) (fun s _ => 130 - (intOf s).toNat)
  case atStart => exact ⟨0, by omega, by omega, rfl, HSS.out.symm, Below.refl _ _⟩
  case round =>
    obtain ⟨m, hm1, hm2, rfl, hsm, hb⟩ := hrel
    have HM := Lib.hid hsm
    have HB2 := Lib.hid hb
    have c0 := (HC.out.belowHere hb).cellv (i := 0) rfl
    clear hb hsm
    by_cases h1 : m < 130
    case neg =>
      obtain rfl := Sqz.sameF_stop hm1 HM.out (.inl (by omega))
      have d1 : decide ((m : Int) < 130) = false := decide_eq_false (by omega)
      go_wp2_with fail
      go_quiet (fail)
      go_wp2
      go_ret
      exact ⟨rfl, HB2.out.trans (below_drewN _ _)⟩
    by_cases h2 : k + m < n
    case neg =>
      obtain rfl := Sqz.sameF_stop hm1 HM.out (.inr (.inl (by rw [HL.out]; exact h2)))
      have d1 : decide ((m : Int) < 130) = true := decide_eq_true (by omega)
      have d2 : decide ((k : Int) + (m : Int) < (n : Int)) = false := decide_eq_false (by omega)
      go_wp2_with fail
      go_quiet (fail)
      go_wp2
      go_ret
      exact ⟨rfl, HB2.out.trans (below_drewN _ _)⟩
    obtain ⟨b1, o1, hk1, rfl, hbl1, hc1⟩ := (HX.out.below HB2.out).at_ (k := k + m) h2
    obtain ⟨b2, o2, hk2, he2, hbl2, hc2⟩ := (HX.out.below HB2.out).at_ (k := p + m) (by omega)
    simp only [Option.some.injEq, Addr.mk.injEq, and_true] at he2
    obtain ⟨rfl, rfl⟩ := he2
    have HGo := Lib.hid (fun h => Sqz.sameF_go (b := b) (a := p) (k := k) h1 HM.out hk1 h)
    have HSt := Lib.hid (fun h => Sqz.sameF_stop (b := b) (a := p) (k := k) hm1 HM.out (.inr (.inr h)))
    rw [List.getElem?_eq_getElem hk1, List.getElem?_eq_getElem hk2] at HGo HSt
    generalize b[k + m] = x at *
    generalize b[p + m] = y at *
    have d1 : decide ((m : Int) < 130) = true := decide_eq_true (by omega)
    have d2 : decide ((k : Int) + (m : Int) < (n : Int)) = true := decide_eq_true (by omega)
    have q1 : IntKind.i64.wrap ((k : Int) + (m : Int)) = (k : Int) + (m : Int) := IntWalk.i64_in _ ⟨by omega, by omega⟩
    have q2 : IntKind.i64.wrap ((p : Int) + (m : Int)) = (p : Int) + (m : Int) := IntWalk.i64_in _ ⟨by omega, by omega⟩
    have q3 : (0 : Int) ≤ (k : Int) + (m : Int) := by omega
    have q4 : (0 : Int) ≤ (p : Int) + (m : Int) := by omega
    have q5 : (k : Int) + (m : Int) < (n : Int) := by omega
    have q6 : (p : Int) + (m : Int) < (n : Int) := by omega
    have q7 : ((k : Int) + (m : Int)).toNat = k + m := by omega
    have q8 : ((p : Int) + (m : Int)).toNat = p + m := by omega
    by_cases he : y = x
    · subst he
      have hgo := Lib.hid (HGo.out rfl)
      have g3 : ((y.toNat : Int) == (y.toNat : Int)) = true := by simp
      clear HGo HSt
      go_wp2_with fail
      go_quiet (fail)
      clear q1 q2 q3 q4 q5 q6 q7 q8
      go_wp2
      go_roundw
      case rel => exact ⟨m + 1, by omega, by omega, by go_num, hgo.out, HB2.out.trans (below_drewN _ _)⟩
      case measure => simp [intOf]; omega
    · obtain rfl := HSt.out (by intro h; injection h with h; exact he h)
      have g3 : ((y.toNat : Int) == (x.toNat : Int)) = false := by
        rw [beq_eq_false_iff_ne]; intro h; exact he (UInt8.toNat_inj.1 (by omega))
      clear he HGo HSt
      go_wp2_with fail
      go_quiet (fail)
      clear q1 q2 q3 q4 q5 q6 q7 q8
      go_wp2
      go_ret
      exact ⟨rfl, HB2.out.trans (below_drewN _ _)⟩
end Go.Proofs.Ytpjjfehocibljaa
