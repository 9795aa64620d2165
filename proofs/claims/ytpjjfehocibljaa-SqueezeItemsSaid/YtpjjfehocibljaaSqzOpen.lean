/-
  squeeze.Open.
-/
import Derived.Test.YtpjjfehocibljaaSqzItem
import Derived.Test.YtpjjfehocibljaaSqzRun
namespace Go.Proofs.Ytpjjfehocibljaa
open Go.RowKit

namespace Sqz
/-- What Open answers: the bytes, and the error's number. -/
def openR (b : List UInt8) (most : Int) : List UInt8 × Nat := if most < 0 ∨ 1048576 < most then ([], 1) else opn 50 2 most.toNat b []
theorem copyOut_succ (far n : Nat) (out : List UInt8) : copyOut far (n + 1) out = copyOut far n (out ++ [out[out.length - far]?.getD 0]) := rfl
theorem copyOut_snoc (far n : Nat) (out : List UInt8) : copyOut far (n + 1) out = copyOut far n out ++ [(copyOut far n out)[(copyOut far n out).length - far]?.getD 0] := by
  induction n generalizing out with
  | zero => rfl
  | succ n ih => rw [copyOut_succ, ih, ← copyOut_succ]
theorem isCopy_item {b : List UInt8} (h : isCopy b = false) : (item b).2.2 ≠ 0 → (item b).1 = (item b).2.2 - 1 := by
  intro h0
  unfold isCopy at h
  have h1 := of_decide_eq_false h
  unfold item at *
  dsimp only at *
  rw [if_pos (by omega)] at h0 ⊢
  split at h0
  · exact absurd rfl h0
  · rename_i hl
    rw [if_neg hl]
    rfl
theorem isCopy_far {b : List UInt8} : (item b).1 ≤ 128 + 2 ∧ (item b).2.2 ≤ 129 := by
  have hc := (b[0]?.getD 0).toNat_lt
  unfold item
  dsimp only
  split
  · rename_i hc1
    split
    · simp
    · exact ⟨by show _ + 1 ≤ _; omega, by show _ + 2 ≤ _; omega⟩
  · split
    · simp
    · exact ⟨by show _ - 125 ≤ _; omega, by show 3 ≤ _; omega⟩
end Sqz
def OpenR (r : List UInt8 × Nat) (w : World) (e : Ending) (w' : World) : Prop := (∃ v, e = .returned (.tuple #[v, .int .i64 (r.2 : Int)]) ∧ Own byteV 5 w' w.heap.size v r.1) ∧ Below w.heap.size w w'
theorem openR_err {E : Nat} {w w' : World} (hb : Below w.heap.size w w') : OpenR ([], E) w (.returned (.tuple #[.slice none 0 0, .int .i64 (E : Int)])) w' := ⟨⟨_, rfl, Own.nil _ _⟩, hb⟩
set_option maxRecDepth 100000 in
set_option maxHeartbeats 8000000 in
theorem open_calls (a : Option Addr) (n c : Nat) (b : List UInt8) (most : Int) (w : World) (hx : Bytes w w.heap.size a n b) (hnc : n ≤ c) :
    Calls Try.prog 13 #[.slice a n c, .int .i64 most] w (OpenR (Sqz.openR b most) w) := by
  by_cases h1 : most < 0
  · have hr : Sqz.openR b most = ([], 1) := by unfold Sqz.openR; rw [if_pos (.inl h1)]
    rw [hr]
    have g1 : decide (most < 0) = true := decide_eq_true h1
    clear hr h1
    go_enter Try.func13, Try.ntmps13
    go_wp2
    go_ret2
    exact openR_err (Below.refl _ _)
  by_cases h2 : 1048576 < most
  · have hr : Sqz.openR b most = ([], 1) := by unfold Sqz.openR; rw [if_pos (.inr h2)]
    rw [hr]
    have g1 : decide (most < 0) = false := decide_eq_false h1
    have g2 : decide (1048576 < most) = true := decide_eq_true h2
    clear hr h1
    go_enter Try.func13, Try.ntmps13
    go_wp2
    go_ret2
    exact openR_err (Below.refl _ _)
  obtain ⟨m, rfl⟩ : ∃ m : Nat, most = (m : Int) := ⟨most.toNat, by omega⟩
  have HR := Lib.hid (show Sqz.openR b (m : Int) = Sqz.opn 50 2 m b [] by unfold Sqz.openR; rw [if_neg (by omega)]; rfl)
  have g1 : decide ((m : Int) < 0) = false := decide_eq_false h1
  have g2 : decide (1048576 < (m : Int)) = false := decide_eq_false h2
  have hm : m ≤ 1048576 := by omega
  have HX := Lib.hid hx
  have HL := Lib.hid hx.len
  generalize Sqz.openR b (m : Int) = R at *
  clear h1 h2 hx
  go_enter Try.func13, Try.ntmps13
  go_wp2
  go_loopw [0, 6, 7, 8, 9, 10, 31] (fun s0 s6 _ _ _ _ _ wr => ∃ (a' : Option Addr) (n' c' : Nat) (r out : List UInt8), s0 = .slice a' n' c' ∧ Bytes wr w.heap.size a' n' r ∧ n' ≤ n ∧ n' ≤ c' ∧ c' ≤ c ∧ R = Sqz.opn 50 2 m r out ∧ out.length ≤ m ∧ Own byteV 5 wr w.heap.size s6 out ∧ Below w.heap.size w wr) (fun s _ _ _ _ _ _ _ => match s with | .slice _ n' _ => n' | _ => 0)
  case atStart => exact ⟨a, n, c, b, [], rfl, HX.out, by omega, hnc, by omega, HR.out, by simp, Own.nil _ _, Below.refl _ _⟩
  case round =>
    obtain ⟨a', n', c', r, out, rfl, hxr, hn', hnc', hcc', hR, hout, hown, hb⟩ := hrel
    obtain ⟨q, hq⟩ : ∃ q, q = out.length := ⟨_, rfl⟩
    obtain ⟨ao, co, rfl, hco⟩ := hown.formN hq.symm
    rw [← hq] at hout
    have HQ := Lib.hid hq
    have HRR := Lib.hid hR
    have HXR := Lib.hid hxr
    have HO := Lib.hid hown
    have HB := Lib.hid hb
    have hsw := hb.size
    have hrl := hxr.len
    have hroom := hxr.room
    by_cases h0 : n' = 0
    · subst h0
      obtain rfl : r = [] := List.eq_nil_of_length_eq_zero hrl
      have hr := Lib.hid (show R = (out, 0) by rw [HRR.out, Sqz.opn_nil])
      clear hR hxr hown hb hq hrl
      go_wp2
      go_ret2
      exact ⟨⟨_, by rw [hr.out]; rfl, by rw [hr.out]; exact HO.out⟩, HB.out⟩
    have hrne : r ≠ [] := by intro e; rw [e] at hrl; simp at hrl; omega
    have hit := Lib.hid (item_calls a' n' c' r wr (hxr.mono hsw) (by omega))
    unfold ItemR at hit
    obtain ⟨b1, o1, hk1, rfl, hbl1, hc1⟩ := hxr.at_ (k := 0) (by omega)
    obtain ⟨c0, hc0⟩ : ∃ c0, c0 = r[0].toNat := ⟨_, rfl⟩
    rw [← hc0, Nat.add_zero] at hc1
    have hcl := r[0].toNat_lt
    rw [← hc0] at hcl
    have hic : Sqz.isCopy r = decide (128 ≤ c0) := by unfold Sqz.isCopy; rw [List.getElem?_eq_getElem hk1, Option.getD_some, hc0]
    have hz := fun h => Sqz.item_size (b := r) h
    have hfar := Sqz.isCopy_far (b := r)
    have hrun := fun h => Sqz.isCopy_item (b := r) h
    have hone : Sqz.open1 50 2 m r out = if (Sqz.item r).2.2 = 0 ∨ (decide (128 ≤ c0) = true ∧ ((Sqz.item r).2.1 = 0 ∨ q < (Sqz.item r).2.1)) then .inr 50 else if m - q < (Sqz.item r).1 then .inr 2
        else if decide (128 ≤ c0) = false then .inl (out ++ (r.take (Sqz.item r).2.2).drop 1) else .inl (Sqz.copyOut (Sqz.item r).2.1 (Sqz.item r).1 out) := by
      unfold Sqz.open1; rw [hic, hq]
    rw [hic] at hrun
    have HErr := Lib.hid (fun e (h : Sqz.open1 50 2 m r out = .inr e) => (show R = ([], e) by rw [HRR.out, Sqz.opn_err hrne h]))
    have HGo := Lib.hid (fun o (h : Sqz.open1 50 2 m r out = .inl o) => (show R = Sqz.opn 50 2 m (r.drop (Sqz.item r).2.2) o by rw [HRR.out, Sqz.opn_step hrne h]))
    rw [hone] at HErr HGo
    generalize Sqz.item r = I at *
    obtain ⟨nn, far, sz⟩ := I
    dsimp only at *
    have hco2 : ((c0 : Int) ≤ 255) := by omega
    clear hc0 hic hone hR hown hb hq hrl hrne hxr
    by_cases hsz : sz = 0
    · have hr := Lib.hid (HErr.out 50 (by rw [if_pos (.inl hsz)]))
      have q1 : ((sz : Int) == 0) = true := by rw [beq_iff_eq]; omega
      clear hrun hz HErr HGo hsz
      by_cases hcp : 128 ≤ c0
      · have q2 : decide ((128 : Int) ≤ (c0 : Int)) = true := decide_eq_true (by omega)
        go_wp2_with fail
        refine hit.out.mono ?_
        rintro e w2 ⟨rfl, hb2⟩
        have hc2 := (hb2.cell (p := ⟨b1, o1, none⟩) (by show b1 < _; omega)).trans hc1
        have HB2 := Lib.hid (HB.out.trans (hb2.mono hsw))
        clear hb2
        go_wp2
        go_ret2
        rw [hr.out]
        exact openR_err HB2.out
      · have q2 : decide ((128 : Int) ≤ (c0 : Int)) = false := decide_eq_false (by omega)
        go_wp2_with fail
        refine hit.out.mono ?_
        rintro e w2 ⟨rfl, hb2⟩
        have hc2 := (hb2.cell (p := ⟨b1, o1, none⟩) (by show b1 < _; omega)).trans hc1
        have HB2 := Lib.hid (HB.out.trans (hb2.mono hsw))
        clear hb2
        go_wp2
        go_ret2
        rw [hr.out]
        exact openR_err HB2.out
    obtain ⟨hz1, hz2⟩ := hz hsz
    have q1 : ((sz : Int) == 0) = false := by rw [beq_eq_false_iff_ne]; omega
    have hcf := cutB_from (some ⟨b1, o1, none⟩) n' c' sz (by have := HXR.out.len; omega)
    have HXD := Lib.hid (HXR.out.drop (l := sz) (by have := HXR.out.len; omega) hnc')
    have hszn : sz ≤ n' := by have := HXR.out.len; omega
    by_cases hcp : 128 ≤ c0
    · have q2 : decide ((128 : Int) ≤ (c0 : Int)) = true := decide_eq_true (by omega)
      rw [decide_eq_true hcp] at HErr HGo
      by_cases hf0 : far = 0
      · have hr := Lib.hid (HErr.out 50 (by rw [if_pos (.inr ⟨rfl, .inl hf0⟩)]))
        have q3 : ((far : Int) == 0) = true := by rw [beq_iff_eq]; omega
        clear hrun HErr HGo hcf HXD
        go_wp2_with fail
        refine hit.out.mono ?_
        rintro e w2 ⟨rfl, hb2⟩
        have hc2 := (hb2.cell (p := ⟨b1, o1, none⟩) (by show b1 < _; omega)).trans hc1
        have HB2 := Lib.hid (HB.out.trans (hb2.mono hsw))
        clear hb2
        go_wp2
        go_ret2
        rw [hr.out]
        exact openR_err HB2.out
      have q3 : ((far : Int) == 0) = false := by rw [beq_eq_false_iff_ne]; omega
      by_cases hf1 : q < far
      · have hr := Lib.hid (HErr.out 50 (by rw [if_pos (.inr ⟨rfl, .inr hf1⟩)]))
        have q4 : decide ((q : Int) < (far : Int)) = true := decide_eq_true (by omega)
        clear hrun HErr HGo hcf HXD
        go_wp2_with fail
        refine hit.out.mono ?_
        rintro e w2 ⟨rfl, hb2⟩
        have hc2 := (hb2.cell (p := ⟨b1, o1, none⟩) (by show b1 < _; omega)).trans hc1
        have HB2 := Lib.hid (HB.out.trans (hb2.mono hsw))
        clear hb2
        go_wp2
        go_ret2
        rw [hr.out]
        exact openR_err HB2.out
      have q4 : decide ((q : Int) < (far : Int)) = false := decide_eq_false (by omega)
      have hno : ¬ (sz = 0 ∨ true = true ∧ (far = 0 ∨ q < far)) := by rintro (h | ⟨_, h | h⟩); exact hsz h; exact hf0 h; exact hf1 h
      rw [if_neg hno] at HErr HGo
      by_cases hl : m - q < nn
      · have hr := Lib.hid (HErr.out 2 (by rw [if_pos hl]))
        have q5 : decide ((m : Int) - (q : Int) < (nn : Int)) = true := decide_eq_true (by omega)
        clear hrun HErr HGo hcf HXD hno
        go_wp2_with fail
        refine hit.out.mono ?_
        rintro e w2 ⟨rfl, hb2⟩
        have hc2 := (hb2.cell (p := ⟨b1, o1, none⟩) (by show b1 < _; omega)).trans hc1
        have HB2 := Lib.hid (HB.out.trans (hb2.mono hsw))
        clear hb2
        go_wp2
        go_ret2
        rw [hr.out]
        exact openR_err HB2.out
      have q5 : decide ((m : Int) - (q : Int) < (nn : Int)) = false := decide_eq_false (by omega)
      have hgo := Lib.hid (HGo.out _ (by rw [if_neg hl, if_neg (by simp)]))
      clear hrun HErr HGo hno
      go_wp2_with fail
      refine hit.out.mono ?_
      rintro e w2 ⟨rfl, hb2⟩
      have hc2 := (hb2.cell (p := ⟨b1, o1, none⟩) (by show b1 < _; omega)).trans hc1
      have HB2 := Lib.hid (HB.out.trans (hb2.mono hsw))
      have HO2 := Lib.hid (HO.out.on hb2)
      have HXD2 := Lib.hid (HXD.out.below (hb2.mono hsw))
      clear hb2
      have hfq : far ≤ q := by omega
      have hf1 : 1 ≤ far := by omega
      have hnq : q + nn ≤ m := by omega
      have HLen := Lib.hid (fun i => Sqz.copyOut_len far i out)
      have HSn := Lib.hid (fun i => Sqz.copyOut_snoc far i out)
      go_wp2
      go_loopw [6, 31] (fun s6 s31 wq => ∃ i : Nat, i ≤ nn ∧ s31 = .int .i64 (i : Int) ∧ Own byteV 5 wq w.heap.size s6 (Sqz.copyOut far i out) ∧ Below w.heap.size w wq ∧ Bytes wq w.heap.size (cutA (some ⟨b1, o1, none⟩) c' sz) (n' - sz) (r.drop sz)) (fun _ s _ => nn - (intOf s).toNat)
      case atStart => exact ⟨0, by omega, rfl, HO2.out, HB2.out, HXD2.out⟩
      case round =>
        obtain ⟨i, hi, rfl, hoi, hbi, hxi⟩ := hrel
        have hl6 := HLen.out i
        rw [← HQ.out] at hl6
        obtain ⟨g, ci, h1, h2, hgb, _⟩ := hoi.form_some (by omega)
        rw [hl6] at h1
        subst h1
        have HOi := Lib.hid hoi
        have HBi := Lib.hid hbi
        have HXi := Lib.hid hxi
        have hsi := hbi.size
        by_cases hlt : i < nn
        · have hcell := (hoi.cellg (k := q + i - far) (by omega)).1
          have hsn := HSn.out i
          rw [hl6, List.getElem?_eq_getElem (by omega), Option.getD_some] at hsn
          generalize (Sqz.copyOut far i out)[q + i - far]'(by omega) = x at *
          have HSn2 := Lib.hid hsn
          have HL6 := Lib.hid hl6
          have q7 : IntKind.i64.wrap ((q : Int) + (i : Int) - (far : Int)) = (q : Int) + (i : Int) - (far : Int) := IntWalk.i64_in _ ⟨by omega, by omega⟩
          have q8 : (0 : Int) ≤ (q : Int) + (i : Int) - (far : Int) := by omega
          have q9 : (q : Int) + (i : Int) - (far : Int) < (q : Int) + (i : Int) := by omega
          have q10 : ((q : Int) + (i : Int) - (far : Int)).toNat = q + i - far := by omega
          clear hoi hbi hxi hl6 hsn h2
          go_wp2_with (at_builtin; refine wpList_litB rfl (.tmp 33) (.tmp 41) rfl w.heap.size _ (Sqz.copyOut far i out) rfl HOi.out 1 [x] rfl rfl rfl (by rw [HL6.out]; omega) hsi ?_; intro v3 w3 HO3 HB3)
          go_roundw
          case rel => exact ⟨i + 1, by omega, by go_num, by rw [HSn2.out]; exact HO3.out, HBi.out.trans HB3.out, HXi.out.below HB3.out⟩
          case measure => simp [intOf]; omega
        · obtain rfl : i = nn := by omega
          clear hoi hbi hxi hl6
          go_wp2
          go_roundw
          case rel => exact ⟨_, _, _, r.drop sz, Sqz.copyOut far i out, rfl, HXi.out, by omega, by omega, by omega, by rw [hgo.out], by rw [HLen.out, ← HQ.out]; omega, HOi.out, HBi.out⟩
          case measure => show n' - sz < n'; omega
    · have q2 : decide ((128 : Int) ≤ (c0 : Int)) = false := decide_eq_false (by omega)
      rw [decide_eq_false hcp] at HErr HGo
      have hno : ¬ (sz = 0 ∨ false = true ∧ (far = 0 ∨ q < far)) := by rintro (h | ⟨h, _⟩); exact hsz h; cases h
      rw [if_neg hno] at HErr HGo
      by_cases hl : m - q < nn
      · have hr := Lib.hid (HErr.out 2 (by rw [if_pos hl]))
        have q5 : decide ((m : Int) - (q : Int) < (nn : Int)) = true := decide_eq_true (by omega)
        clear hrun HErr HGo hcf HXD hno
        go_wp2_with fail
        refine hit.out.mono ?_
        rintro e w2 ⟨rfl, hb2⟩
        have hc2 := (hb2.cell (p := ⟨b1, o1, none⟩) (by show b1 < _; omega)).trans hc1
        have HB2 := Lib.hid (HB.out.trans (hb2.mono hsw))
        clear hb2
        go_wp2
        go_ret2
        rw [hr.out]
        exact openR_err HB2.out
      have q5 : decide ((m : Int) - (q : Int) < (nn : Int)) = false := decide_eq_false (by omega)
      have hgo := Lib.hid (HGo.out _ (by rw [if_neg hl, if_pos rfl]))
      have hnn := hrun (decide_eq_false hcp) hsz
      have hcm := cutB_mid (some ⟨b1, o1, none⟩) n' c' 1 sz (by omega) (by omega)
      rw [show ((1 : Nat) : Int) = 1 from rfl] at hcm
      have HNN := Lib.hid hnn
      have HY := Lib.hid ((HXR.out.drop (l := 1) (by omega) hnc').take (k := sz - 1) (by omega))
      have HYL := Lib.hid (show (r.drop 1).take (sz - 1) = (r.take sz).drop 1 from (List.drop_take ..).symm)
      have hnq : q + (sz - 1) ≤ m := by omega
      clear hrun HErr HGo hno hnn
      go_wp2_with fail
      refine hit.out.mono ?_
      rintro e w2 ⟨rfl, hb2⟩
      have hc2 := (hb2.cell (p := ⟨b1, o1, none⟩) (by show b1 < _; omega)).trans hc1
      have HB2 := Lib.hid (HB.out.trans (hb2.mono hsw))
      have HO2 := Lib.hid (HO.out.on hb2)
      have HXD2 := Lib.hid (HXD.out.below (hb2.mono hsw))
      have HY2 := Lib.hid (HY.out.below (hb2.mono hsw))
      have hs2 := HB2.out.size
      clear hb2
      go_wp2_with (at_builtin; refine wpList_ontoB rfl (.tmp 70) (.tmp 73) rfl w.heap.size _ out rfl HO2.out w.heap.size (cutA (some ⟨b1, o1, none⟩) c' 1) (sz - 1) (c' - 1) ((r.drop 1).take (sz - 1)) rfl HY2.out (by rw [← HQ.out]; omega) hs2 ?_; intro v3 w3 HO3 HB3)
      go_roundw
      case rel => exact ⟨_, _, _, r.drop sz, out ++ (r.drop 1).take (sz - 1), rfl, HXD2.out.below HB3.out, by omega, by omega, by omega, by rw [hgo.out, HYL.out], by rw [List.length_append, ← HQ.out, HY2.out.len]; omega, HO3.out, HB2.out.trans HB3.out⟩
      case measure => show n' - sz < n'; omega
end Go.Proofs.Ytpjjfehocibljaa
