/-
  The reference's Open.
-/
import Derived.Test.YtpjjfehocibljaaSqzOpen
namespace Go.Proofs.Ytpjjfehocibljaa
open Go.RowKit

namespace Sqz
theorem item_drop {b : List UInt8} {i n c0 : Nat} (hn : b.length = n) (hi : i < n) (hc : c0 = (b[i]?.getD 0).toNat) : item (b.drop i) = if c0 < 128 then (if n < i + c0 + 2 then (0, 0, 0) else (c0 + 1, 0, c0 + 2)) else if n < i + 3 then (0, 0, 0) else (c0 - 125, (b[i + 1]?.getD 0).toNat + 256 * (b[i + 2]?.getD 0).toNat, 3) := by
  unfold item
  dsimp only
  rw [List.getElem?_drop, List.getElem?_drop, List.getElem?_drop, Nat.add_zero, ← hc, List.length_drop, hn]
  by_cases h1 : c0 < 128
  · rw [if_pos h1, if_pos h1]
    by_cases h2 : n < i + c0 + 2
    · rw [if_pos h2, if_pos (by omega)]
    · rw [if_neg h2, if_neg (by omega)]
  · rw [if_neg h1, if_neg h1]
    by_cases h2 : n < i + 3
    · rw [if_pos h2, if_pos (by omega)]
    · rw [if_neg h2, if_neg (by omega)]
theorem isCopy_drop {b : List UInt8} {i c0 : Nat} (hc : c0 = (b[i]?.getD 0).toNat) : isCopy (b.drop i) = decide (128 ≤ c0) := by
  unfold isCopy
  rw [List.getElem?_drop, Nat.add_zero, ← hc]
end Sqz
set_option maxRecDepth 100000 in
set_option maxHeartbeats 4000000 in
theorem refOpen_calls (a : Option Addr) (n c : Nat) (b : List UInt8) (most : Int) (w : World) (hx : Bytes w w.heap.size a n b) (hnc : n ≤ c) :
    Calls Try.prog 14 #[.slice a n c, .int .i64 most] w (OpenR (Sqz.openR b most) w) := by
  by_cases h1 : most < 0
  · have hr : Sqz.openR b most = ([], 1) := by unfold Sqz.openR; rw [if_pos (.inl h1)]
    rw [hr]
    have g1 : decide (most < 0) = true := decide_eq_true h1
    clear hr h1
    go_enter Try.func14, Try.ntmps14
    go_wp2
    go_ret2
    exact openR_err (Below.refl _ _)
  by_cases h2 : 1048576 < most
  · have hr : Sqz.openR b most = ([], 1) := by unfold Sqz.openR; rw [if_pos (.inr h2)]
    rw [hr]
    have g1 : decide (most < 0) = false := decide_eq_false h1
    have g2 : decide (1048576 < most) = true := decide_eq_true h2
    clear hr h1
    go_enter Try.func14, Try.ntmps14
    go_wp2
    go_ret2
    exact openR_err (Below.refl _ _)
  obtain ⟨m, rfl⟩ : ∃ m : Nat, most = (m : Int) := ⟨most.toNat, by omega⟩
  have HR := Lib.hid (show Sqz.openR b (m : Int) = Sqz.opn 50 2 m b [] by unfold Sqz.openR; rw [if_neg (by omega)]; rfl)
  have g1 : decide ((m : Int) < 0) = false := decide_eq_false h1
  have g2 : decide (1048576 < (m : Int)) = false := decide_eq_false h2
  have hm : m ≤ 1048576 := by omega
  have hroom := hx.room
  have HX := Lib.hid hx
  have HL := Lib.hid hx.len
  generalize Sqz.openR b (m : Int) = R at *
  clear h1 h2 hx
  go_enter Try.func14, Try.ntmps14
  go_wp2
  go_loopw [6, 7] (fun s6 s7 wr => ∃ (i : Nat) (out : List UInt8), i ≤ n ∧ s7 = .int .i64 (i : Int) ∧ R = Sqz.opn 50 2 m (b.drop i) out ∧ out.length ≤ m ∧ Own byteV 5 wr w.heap.size s6 out ∧ Below w.heap.size w wr) (fun _ s _ => n - (intOf s).toNat)
  case atStart => exact ⟨0, [], by omega, rfl, HR.out, by simp, Own.nil _ _, Below.refl _ _⟩
  case round =>
    obtain ⟨i, out, hin, rfl, hR, hout, hown, hb⟩ := hrel
    obtain ⟨q, hq⟩ : ∃ q, q = out.length := ⟨_, rfl⟩
    obtain ⟨ao, co, rfl, hco⟩ := hown.formN hq.symm
    rw [← hq] at hout
    have HQ := Lib.hid hq
    have HRR := Lib.hid hR
    have HO := Lib.hid hown
    have HB := Lib.hid hb
    have hsw := hb.size
    by_cases hlt : i < n
    case neg =>
      obtain rfl : i = n := by omega
      have hr := Lib.hid (show R = (out, 0) by rw [HRR.out, List.drop_of_length_le (by rw [HL.out]; omega), Sqz.opn_nil])
      clear hR hown hb hq
      go_wp2
      go_ret2
      exact ⟨⟨_, by rw [hr.out]; rfl, by rw [hr.out]; exact HO.out⟩, HB.out⟩
    have hrne : b.drop i ≠ [] := by intro e; have := congrArg List.length e; rw [List.length_drop, HL.out] at this; simp at this; omega
    obtain ⟨b1, o1, hk1, rfl, hbl1, hc1⟩ := (HX.out.below HB.out).at_ (k := i) hlt
    obtain ⟨c0, hc0⟩ : ∃ c0, c0 = b[i].toNat := ⟨_, rfl⟩
    have hcl := b[i].toNat_lt
    rw [← hc0] at hc1 hcl
    have hcd : c0 = (b[i]?.getD 0).toNat := by rw [List.getElem?_eq_getElem hk1, Option.getD_some, hc0]
    have hI := Sqz.item_drop HL.out hlt hcd
    have hone : Sqz.open1 50 2 m (b.drop i) out = if (Sqz.item (b.drop i)).2.2 = 0 ∨ (decide (128 ≤ c0) = true ∧ ((Sqz.item (b.drop i)).2.1 = 0 ∨ q < (Sqz.item (b.drop i)).2.1)) then .inr 50 else if m - q < (Sqz.item (b.drop i)).1 then .inr 2
        else if decide (128 ≤ c0) = false then .inl (out ++ ((b.drop i).take (Sqz.item (b.drop i)).2.2).drop 1) else .inl (Sqz.copyOut (Sqz.item (b.drop i)).2.1 (Sqz.item (b.drop i)).1 out) := by
      unfold Sqz.open1; rw [Sqz.isCopy_drop hcd, hq]
    have HErr := Lib.hid (fun e (h : Sqz.open1 50 2 m (b.drop i) out = .inr e) => (show R = ([], e) by rw [HRR.out, Sqz.opn_err hrne h]))
    have HGo := Lib.hid (fun o (h : Sqz.open1 50 2 m (b.drop i) out = .inl o) => (show R = Sqz.opn 50 2 m (b.drop (i + (Sqz.item (b.drop i)).2.2)) o by rw [HRR.out, Sqz.opn_step hrne h, List.drop_drop]))
    rw [hone] at HErr HGo
    rw [hI] at HErr HGo
    clear hone hI hcd hc0 hrne hR hown hb hq
    by_cases hc : c0 < 128
    · have q1 : decide ((c0 : Int) < 128) = true := decide_eq_true (by omega)
      rw [if_pos hc] at HErr HGo
      by_cases hz : n < i + c0 + 2
      · rw [if_pos hz] at HErr HGo
        have hr := Lib.hid (HErr.out 50 (by rw [if_pos (.inl rfl)]))
        have q2 : decide ((n : Int) < (i : Int) + (c0 : Int) + 2) = true := decide_eq_true (by omega)
        clear HErr HGo
        go_wp2
        go_ret2
        rw [hr.out]
        exact openR_err HB.out
      have q2 : decide ((n : Int) < (i : Int) + (c0 : Int) + 2) = false := decide_eq_false (by omega)
      rw [if_neg hz] at HErr HGo
      dsimp only at HErr HGo
      rw [decide_eq_false (show ¬ 128 ≤ c0 by omega), if_neg (by simp)] at HErr HGo
      by_cases hl : m - q < c0 + 1
      · have hr := Lib.hid (HErr.out 2 (by rw [if_pos hl]))
        have q3 : decide ((m : Int) < (q : Int) + (c0 : Int) + 1) = true := decide_eq_true (by omega)
        clear HErr HGo
        go_wp2
        go_ret2
        rw [hr.out]
        exact openR_err HB.out
      have q3 : decide ((m : Int) < (q : Int) + (c0 : Int) + 1) = false := decide_eq_false (by omega)
      have hgo := Lib.hid (HGo.out _ (by rw [if_neg hl, if_pos rfl]))
      have hcm := cutB_mid (some ⟨b1, o1, none⟩) n c (i + 1) (i + c0 + 2) (by omega) (by omega)
      rw [show ((i + 1 : Nat) : Int) = (i : Int) + 1 by omega, show ((i + c0 + 2 : Nat) : Int) = (i : Int) + (c0 : Int) + 2 by omega, show i + c0 + 2 - (i + 1) = c0 + 1 by omega] at hcm
      have HY := Lib.hid (((HX.out.below HB.out).drop (l := i + 1) (by omega) hnc).take (k := c0 + 1) (by omega))
      have HYL := Lib.hid (show (b.drop (i + 1)).take (c0 + 1) = ((b.drop i).take (c0 + 2)).drop 1 by rw [List.drop_take, List.drop_drop]; rfl)
      clear HErr HGo
      go_wp2_with (at_builtin; refine wpList_ontoB rfl (.tmp 42) (.tmp 50) rfl w.heap.size (.slice ao q co) out rfl HO.out w.heap.size (cutA (some ⟨b1, o1, none⟩) c (i + 1)) (c0 + 1) (c - (i + 1)) ((b.drop (i + 1)).take (c0 + 1)) rfl HY.out (by rw [← HQ.out]; omega) hsw ?_; intro v3 w3 HO3 HB3)
      go_roundw
      case rel => exact ⟨i + (c0 + 2), out ++ (b.drop (i + 1)).take (c0 + 1), by omega, by go_num, by rw [hgo.out, HYL.out], by rw [List.length_append, ← HQ.out, HY.out.len]; omega, HO3.out, HB.out.trans HB3.out⟩
      case measure => simp [intOf]; omega
    have q1 : decide ((c0 : Int) < 128) = false := decide_eq_false (by omega)
    rw [if_neg hc] at HErr HGo
    by_cases hz : n < i + 3
    · rw [if_pos hz] at HErr HGo
      have hr := Lib.hid (HErr.out 50 (by rw [if_pos (.inl rfl)]))
      have q2 : decide ((n : Int) < (i : Int) + 3) = true := decide_eq_true (by omega)
      clear HErr HGo
      go_wp2
      go_ret2
      rw [hr.out]
      exact openR_err HB.out
    have q2 : decide ((n : Int) < (i : Int) + 3) = false := decide_eq_false (by omega)
    rw [if_neg hz] at HErr HGo
    obtain ⟨b2, o2, hk2, he2, _, hc2⟩ := (HX.out.below HB.out).at_ (k := i + 1) (by omega)
    obtain ⟨b3, o3, hk3, he3, _, hc3⟩ := (HX.out.below HB.out).at_ (k := i + 2) (by omega)
    simp only [Option.some.injEq, Addr.mk.injEq, and_true] at he2 he3
    obtain ⟨rfl, rfl⟩ := he2
    obtain ⟨rfl, rfl⟩ := he3
    rw [List.getElem?_eq_getElem hk2, List.getElem?_eq_getElem hk3, Option.getD_some, Option.getD_some] at HErr HGo
    have l2 := b[i + 1].toNat_lt
    have l3 := b[i + 2].toNat_lt
    generalize b[i + 1].toNat = x at *
    generalize b[i + 2].toNat = y at *
    dsimp only at HErr HGo
    obtain ⟨far, hfar⟩ : ∃ far, far = x + 256 * y := ⟨_, rfl⟩
    rw [← hfar, decide_eq_true (show 128 ≤ c0 by omega)] at HErr HGo
    have HFar := Lib.hid (show (x : Int) + 256 * (y : Int) = (far : Int) by omega)
    have z1 : (i : Int) + 1 < (n : Int) := by omega
    have z2 : (i : Int) + 2 < (n : Int) := by omega
    have z3 : (0 : Int) ≤ (i : Int) + 1 := by omega
    have z4 : (0 : Int) ≤ (i : Int) + 2 := by omega
    have z5 : ((i : Int) + 1).toNat = i + 1 := by omega
    have z6 : ((i : Int) + 2).toNat = i + 2 := by omega
    have z7 : IntKind.i64.wrap ((i : Int) + 1) = (i : Int) + 1 := IntWalk.i64_in _ ⟨by omega, by omega⟩
    have z8 : IntKind.i64.wrap ((i : Int) + 2) = (i : Int) + 2 := IntWalk.i64_in _ ⟨by omega, by omega⟩
    have z9 : IntKind.i64.wrap (256 * (y : Int)) = 256 * (y : Int) := IntWalk.i64_in _ ⟨by omega, by omega⟩
    have z10 : IntKind.i64.wrap ((x : Int) + 256 * (y : Int)) = (far : Int) := by rw [IntWalk.i64_in _ ⟨by omega, by omega⟩]; exact HFar.out
    clear hfar
    go_wp2_with fail
    go_quiet (fail)
    clear z1 z2 z3 z4 z5 z6 z7 z8 z9 z10 hc1 hc2 hc3
    have HB2 := Lib.hid (HB.out.trans (below_drewN (n0 := w.heap.size) wr nq))
    have HO2 := Lib.hid (HO.out.on (below_drewN (n0 := wr.heap.size) wr nq))
    generalize wr.drewN nq = w2 at *
    have hs2 := HB2.out.size
    by_cases hf0 : far = 0
    · have hr := Lib.hid (HErr.out 50 (by rw [if_pos (.inr ⟨trivial, .inl hf0⟩)]))
      have q3 : ((far : Int) == 0) = true := by rw [beq_iff_eq]; omega
      clear HErr HGo
      go_wp2
      go_ret2
      rw [hr.out]
      exact openR_err HB2.out
    have q3 : ((far : Int) == 0) = false := by rw [beq_eq_false_iff_ne]; omega
    by_cases hf1 : q < far
    · have hr := Lib.hid (HErr.out 50 (by rw [if_pos (.inr ⟨trivial, .inr hf1⟩)]))
      have q4 : decide ((q : Int) < (far : Int)) = true := decide_eq_true (by omega)
      clear HErr HGo
      go_wp2
      go_ret2
      rw [hr.out]
      exact openR_err HB2.out
    have q4 : decide ((q : Int) < (far : Int)) = false := decide_eq_false (by omega)
    have hno : ¬ (3 = 0 ∨ True ∧ (far = 0 ∨ q < far)) := by rintro (h | ⟨_, h | h⟩); cases h; exact hf0 h; exact hf1 h
    rw [if_neg hno] at HErr HGo
    by_cases hl : m - q < c0 - 125
    · have hr := Lib.hid (HErr.out 2 (by rw [if_pos hl]))
      have q5 : decide ((m : Int) < (q : Int) + (c0 : Int) - 125) = true := decide_eq_true (by omega)
      clear HErr HGo hno
      go_wp2
      go_ret2
      rw [hr.out]
      exact openR_err HB2.out
    have q5 : decide ((m : Int) < (q : Int) + (c0 : Int) - 125) = false := decide_eq_false (by omega)
    have hgo := Lib.hid (HGo.out _ (by rw [if_neg hl, if_neg (by simp)]))
    have hfq : far ≤ q := by omega
    have hf2 : 1 ≤ far := by omega
    have hnq : q + (c0 - 125) ≤ m := by omega
    have HLen := Lib.hid (fun t => Sqz.copyOut_len far t out)
    have HSn := Lib.hid (fun t => Sqz.copyOut_snoc far t out)
    clear HErr HGo hno
    go_wp2
    obtain ⟨wo, rfl⟩ : ∃ wo : World, wo = w2 := ⟨_, rfl⟩
    go_loopw [6, 10] (fun s6 s10 wq => ∃ t : Nat, t ≤ c0 - 125 ∧ s10 = .int .i64 (t : Int) ∧ Own byteV 5 wq w.heap.size s6 (Sqz.copyOut far t out) ∧ Below w.heap.size w wq) (fun _ s _ => c0 - (intOf s).toNat)
    case atStart => exact ⟨0, by omega, rfl, HO2.out, HB2.out⟩
    case round =>
      obtain ⟨t, ht, rfl, hoi, hbi⟩ := hrel
      have hl6 := HLen.out t
      rw [← HQ.out] at hl6
      obtain ⟨g, ci, h1, h2, hgb, _⟩ := hoi.form_some (by omega)
      rw [hl6] at h1
      subst h1
      have HOi := Lib.hid hoi
      have HBi := Lib.hid hbi
      have hsi := hbi.size
      by_cases hlt : t < c0 - 125
      · have hcell := (hoi.cellg (k := q + t - far) (by omega)).1
        have hsn := HSn.out t
        rw [hl6, List.getElem?_eq_getElem (by omega), Option.getD_some] at hsn
        generalize (Sqz.copyOut far t out)[q + t - far]'(by omega) = x at *
        have HSn2 := Lib.hid hsn
        have HL6 := Lib.hid hl6
        have q7 : IntKind.i64.wrap ((q : Int) + (t : Int) - (far : Int)) = (q : Int) + (t : Int) - (far : Int) := IntWalk.i64_in _ ⟨by omega, by omega⟩
        have q8 : (0 : Int) ≤ (q : Int) + (t : Int) - (far : Int) := by omega
        have q9 : (q : Int) + (t : Int) - (far : Int) < (q : Int) + (t : Int) := by omega
        have q10 : ((q : Int) + (t : Int) - (far : Int)).toNat = q + t - far := by omega
        have q11 : decide ((t : Int) < (c0 : Int) - 125) = true := decide_eq_true (by omega)
        clear hoi hbi hl6 hsn h2
        go_wp2_with (at_builtin; refine wpList_litB rfl (.tmp 96) (.tmp 104) rfl w.heap.size _ (Sqz.copyOut far t out) rfl HOi.out 1 [x] rfl rfl rfl (by rw [HL6.out]; omega) hsi ?_; intro v3 w3 HO3 HB3)
        go_roundw
        case rel => exact ⟨t + 1, by omega, by go_num, by rw [HSn2.out]; exact HO3.out, HBi.out.trans HB3.out⟩
        case measure => simp [intOf]; omega
      · have q11 : decide ((t : Int) < (c0 : Int) - 125) = false := decide_eq_false (by omega)
        have HT := Lib.hid (show t = c0 - 125 by omega)
        clear hoi hbi hl6
        go_wp2
        go_roundw
        case rel => exact ⟨i + 3, Sqz.copyOut far (c0 - 125) out, by omega, by go_num, by rw [hgo.out], by rw [HLen.out, ← HQ.out]; omega, by rw [← HT.out]; exact HOi.out, HBi.out⟩
        case measure => simp [intOf]; omega
end Go.Proofs.Ytpjjfehocibljaa
