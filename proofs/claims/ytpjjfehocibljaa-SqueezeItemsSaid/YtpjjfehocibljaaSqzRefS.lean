/-
  The reference's runs and Squeeze.
-/
import Derived.Test.YtpjjfehocibljaaSqzOpen
import Derived.Test.YtpjjfehocibljaaSqzSqz
namespace Go.Proofs.Ytpjjfehocibljaa
open Go.RowKit

def RunsR (b : List UInt8) (w : World) (e : Ending) (w' : World) : Prop := (∃ v, e = .returned v ∧ Own byteV 5 w' w.heap.size v (Sqz.runs b)) ∧ Below w.heap.size w w'
set_option maxRecDepth 100000 in
set_option maxHeartbeats 4000000 in
theorem refRuns_calls (a : Option Addr) (n c : Nat) (b : List UInt8) (w : World) (hx : Bytes w w.heap.size a n b) (hnc : n ≤ c) (hn : n ≤ 1000000) :
    Calls Try.prog 22 #[.slice a n c] w (RunsR b w) := by
  have HX := Lib.hid hx
  have HL := Lib.hid hx.len
  unfold RunsR
  generalize hR : Sqz.runs b = R at *
  have HR := Lib.hid hR
  clear hx hR
  go_enter Try.func22, Try.ntmps22
  go_wp2
  go_loopw [0, 3] (fun s0 s3 wr => ∃ (a' : Option Addr) (n' c' : Nat) (r out : List UInt8), s0 = .slice a' n' c' ∧ Bytes wr w.heap.size a' n' r ∧ n' ≤ c' ∧ c' ≤ c ∧ n' ≤ n ∧ R = out ++ Sqz.runs r ∧ out.length + 2 * n' ≤ 2 * n ∧ Own byteV 5 wr w.heap.size s3 out ∧ Below w.heap.size w wr) (fun s _ _ => match s with | .slice _ n' _ => n' | _ => 0)
  case atStart => exact ⟨a, n, c, b, [], rfl, HX.out, hnc, by omega, by omega, by rw [← HR.out]; rfl, by simp, Own.nil _ _, Below.refl _ _⟩
  case round =>
    obtain ⟨a', n', c', r, out, rfl, hxr, hnc', hcc', hn', hR, hout, hown, hb⟩ := hrel
    obtain ⟨q, hq⟩ : ∃ q, q = out.length := ⟨_, rfl⟩
    obtain ⟨ao, co, rfl, hco⟩ := hown.formN hq.symm
    rw [← hq] at hout
    have HQ := Lib.hid hq
    have HRR := Lib.hid hR
    have HXR := Lib.hid hxr
    have HO := Lib.hid hown
    have HB := Lib.hid hb
    have hsw := hb.size
    have hrl := hxr.len
    by_cases h0 : n' = 0
    · subst h0
      obtain rfl : r = [] := List.eq_nil_of_length_eq_zero hrl
      have hr := Lib.hid (show R = out by rw [HRR.out, Sqz.runs_nil, List.append_nil])
      clear hR hxr hown hb hq hrl
      go_wp2
      go_ret
      exact ⟨⟨_, rfl, by rw [hr.out]; exact HO.out⟩, HB.out⟩
    have hrne : r ≠ [] := by intro e; rw [e] at hrl; simp at hrl; omega
    have hst := Lib.hid (show R = out ++ [UInt8.ofNat (min n' 128 - 1)] ++ r.take (min n' 128) ++ Sqz.runs (r.drop (min n' 128)) by
      rw [HRR.out, Sqz.runs_step hrne, hrl]
      by_cases h9 : n' ≤ 128
      · rw [Nat.min_eq_left h9, List.take_of_length_le (by omega), List.take_of_length_le (by omega), List.drop_of_length_le (by omega), List.drop_of_length_le (by omega)]; simp [List.append_assoc]
      · rw [Nat.min_eq_right (by omega)]; simp [List.append_assoc])
    obtain ⟨e, he⟩ : ∃ e, e = min n' 128 := ⟨_, rfl⟩
    rw [← he] at hst
    have hc1 := cutB_to a' n' c' e (by omega)
    have hc2 := cutB_from a' n' c' e (by omega)
    have HT := Lib.hid (HXR.out.take (k := e) (by omega))
    have HD := Lib.hid (HXR.out.drop (l := e) (by omega) hnc')
    have hbv := Lib.hid (show (e : Int) - 1 = ((UInt8.ofNat (e - 1)).toNat : Int) by rw [UInt8.toNat_ofNat']; omega)
    have he1 : 1 ≤ e := by omega
    have he2 : e ≤ 128 := by omega
    have he3 : e ≤ n' := by omega
    have HC1 := Lib.hid hc1
    clear hR hxr hown hb hq hrl hrne hc1
    by_cases h128 : 128 < n'
    · obtain rfl : e = 128 := by omega
      have g1 : decide ((128 : Int) < (n' : Int)) = true := decide_eq_true (by omega)
      rw [show ((128 : Nat) : Int) = 128 from rfl] at HC1 hc2
      clear he h128 hbv
      go_wp2_with fail
      refine wp_region_noPanic ?_
      refine wp_region_held_drew (S := (fun _ => True)) (by kernel_rfl) trivial (fun hS0 => ?_)
      refine takeV 0 (v := (.slice ao q co)) rfl (by kernel_rfl) (by kernel_rfl) (by kernel_rfl) (fun _ _ _ h => h) (by rfl) (fun _ _ => rfl) (by assumption) ?_
      try simp only [layR]
      refine takeV 1 (v := (.int .i64 (128 : Int))) rfl (by kernel_rfl) (by kernel_rfl) (by kernel_rfl) (fun _ _ _ h => h) (by rfl) (fun _ _ => rfl) (by assumption) ?_
      try simp only [layR]
      refine takeV 2 (v := (.int .i64 127)) rfl (by kernel_rfl) (by kernel_rfl) (by kernel_rfl) (fun _ _ _ h => h) (by rfl) (fun W hSw => ?_) (by assumption) ?_
      · have g : IntKind.i64.wrap 127 = 127 := by decide
        go_simp
      try simp only [layR]
      refine takeV 3 (v := (.int .u8 127)) rfl (by kernel_rfl) (by kernel_rfl) (by kernel_rfl) (fun _ _ _ h => h) (by rfl) (fun W hSw => ?_) (by assumption) ?_
      · have g : IntKind.u8.wrap 127 = 127 := by decide
        go_simp
      try simp only [layR]
      refine takeV 6 (v := (.slice a' n' c')) rfl (by kernel_rfl) (by kernel_rfl) (by kernel_rfl) (fun _ _ _ h => h) (by rfl) (fun W hSw => ?_) (by assumption) ?_
      · skip
        go_simp
      try simp only [layR]
      refine takeV 7 (v := (.int .i64 (128 : Int))) rfl (by kernel_rfl) (by kernel_rfl) (by kernel_rfl) (fun _ _ _ h => h) (by rfl) (fun W hSw => ?_) (by assumption) ?_
      · skip
        go_simp
      try simp only [layR]
      refine takeV 8 (v := (.slice a' 128 c')) rfl (by kernel_rfl) (by kernel_rfl) (by kernel_rfl) (fun _ _ _ h => h) (by rfl) (fun W hSw => ?_) (by assumption) ?_
      · have g := HC1.out
        go_simp
      try simp only [layR]
      refine wpAnyH_ready (rs := [4]) (by kernel_rfl) (by simp) ?_
      refine AllReadyH.cons rfl (fun K' hK => ?_) AllReadyH.nil
      go_simp
      have ho2 := (HO.out.alloc (.cells #[.int .u8 127] 5)).drew
      have hl2 : Bytes (wr.alloc (.cells #[.int .u8 127] 5)).drew (wr.alloc (.cells #[.int .u8 127] 5)).drew.heap.size (some ⟨wr.heap.size, 0, none⟩) 1 [UInt8.ofNat (128 - 1)] := Arr.lit wr 5 [UInt8.ofNat (128 - 1)] 1 rfl (by omega) (by rfl)
      have hb2 := ((Below.refl wr.heap.size wr).alloc (Nat.le_refl _) (.cells #[.int .u8 127] 5)).drew
      refine hK.out _ _ trivial (fun hS1 => ?_)
      try simp only [layR]
      clear hS0 hS1
      generalize (wr.alloc (.cells #[.int .u8 127] 5)).drew = W2 at *
      have hsz2 := hb2.size
      refine wpAnyH_ready (rs := [5]) (by kernel_rfl) (by simp) ?_
      refine AllReadyH.cons rfl (fun K' hK => ?_) AllReadyH.nil
      refine step_appB rfl _ _ rfl w.heap.size _ out rfl ho2 _ (some ⟨wr.heap.size, 0, none⟩) 1 1 [UInt8.ofNat (128 - 1)] rfl hl2 (by rw [← HQ.out]; omega) (by omega) ?_
      intro v3 w3 HO3 HB3
      have hx3 := (HT.out.below (hb2.mono hsw)).below HB3.out
      refine hK.out _ _ trivial (fun hS1 => ?_)
      try simp only [layR]
      refine wpAnyH_ready (rs := [9]) (by kernel_rfl) (by simp) ?_
      refine AllReadyH.cons rfl (fun K' hK => ?_) AllReadyH.nil
      refine step_appB rfl _ _ rfl w.heap.size _ _ rfl HO3.out _ a' 128 c' (r.take 128) rfl hx3 (by rw [List.length_append, ← HQ.out]; simp; omega) (by have := HB3.out.size; omega) ?_
      intro v4 w4 HO4 HB4
      refine hK.out _ _ trivial (fun hS2 => ?_)
      refine takeV 10 (v := v4) rfl (by kernel_rfl) (by kernel_rfl) (by kernel_rfl) (fun _ _ _ h => h) (by rfl) (fun _ _ => rfl) (by assumption) ?_
      refine wpAnyH_done (by kernel_rfl) ?_ _
      refine NoPanic.normal ?_
      have HX4 := Lib.hid (((HD.out.below (hb2.mono hsw)).below HB3.out).below HB4.out)
      have HB5 := Lib.hid (((HB.out.trans (hb2.mono hsw)).trans HB3.out).trans HB4.out)
      clear hb2 ho2 hl2 hx3 hS1 hS2
      go_wp2
      go_roundw
      case rel => exact ⟨_, _, _, r.drop 128, _, rfl, HX4.out, by omega, by omega, by omega, hst.out, by rw [List.length_append, List.length_append, ← HQ.out, List.length_take, HXR.out.len]; simp; omega, HO4.out, HB5.out⟩
      case measure => show n' - 128 < n'; omega
    · obtain rfl : e = n' := by omega
      have g1 : decide ((128 : Int) < (e : Int)) = false := decide_eq_false (by omega)
      clear he h128
      go_wp2_with fail
      refine wp_region_noPanic ?_
      refine wp_region_held_drew (S := (fun _ => True)) (by kernel_rfl) trivial (fun hS0 => ?_)
      refine takeV 0 (v := (.slice ao q co)) rfl (by kernel_rfl) (by kernel_rfl) (by kernel_rfl) (fun _ _ _ h => h) (by rfl) (fun _ _ => rfl) (by assumption) ?_
      try simp only [layR]
      refine takeV 1 (v := (.int .i64 (e : Int))) rfl (by kernel_rfl) (by kernel_rfl) (by kernel_rfl) (fun _ _ _ h => h) (by rfl) (fun _ _ => rfl) (by assumption) ?_
      try simp only [layR]
      refine takeV 2 (v := (.int .i64 ((e : Int) - 1))) rfl (by kernel_rfl) (by kernel_rfl) (by kernel_rfl) (fun _ _ _ h => h) (by rfl) (fun W hSw => ?_) (by assumption) ?_
      · have g := IntWalk.i64_in ((e : Int) - 1) ⟨by omega, by omega⟩
        go_simp
      try simp only [layR]
      refine takeV 3 (v := (.int .u8 ((e : Int) - 1))) rfl (by kernel_rfl) (by kernel_rfl) (by kernel_rfl) (fun _ _ _ h => h) (by rfl) (fun W hSw => ?_) (by assumption) ?_
      · have g := IntWalk.u8_in ((e : Int) - 1) ⟨by omega, by omega⟩
        go_simp
      try simp only [layR]
      refine takeV 6 (v := (.slice a' e c')) rfl (by kernel_rfl) (by kernel_rfl) (by kernel_rfl) (fun _ _ _ h => h) (by rfl) (fun W hSw => ?_) (by assumption) ?_
      · skip
        go_simp
      try simp only [layR]
      refine takeV 7 (v := (.int .i64 (e : Int))) rfl (by kernel_rfl) (by kernel_rfl) (by kernel_rfl) (fun _ _ _ h => h) (by rfl) (fun W hSw => ?_) (by assumption) ?_
      · skip
        go_simp
      try simp only [layR]
      refine takeV 8 (v := (.slice a' e c')) rfl (by kernel_rfl) (by kernel_rfl) (by kernel_rfl) (fun _ _ _ h => h) (by rfl) (fun W hSw => ?_) (by assumption) ?_
      · have g := HC1.out
        go_simp
      try simp only [layR]
      refine wpAnyH_ready (rs := [4]) (by kernel_rfl) (by simp) ?_
      refine AllReadyH.cons rfl (fun K' hK => ?_) AllReadyH.nil
      go_simp
      have ho2 := (HO.out.alloc (.cells #[.int .u8 ((e : Int) - 1)] 5)).drew
      have hl2 : Bytes (wr.alloc (.cells #[.int .u8 ((e : Int) - 1)] 5)).drew (wr.alloc (.cells #[.int .u8 ((e : Int) - 1)] 5)).drew.heap.size (some ⟨wr.heap.size, 0, none⟩) 1 [UInt8.ofNat (e - 1)] := Arr.lit wr 5 [UInt8.ofNat (e - 1)] 1 rfl (by omega) (by rw [hbv.out]; rfl)
      have hb2 := ((Below.refl wr.heap.size wr).alloc (Nat.le_refl _) (.cells #[.int .u8 ((e : Int) - 1)] 5)).drew
      refine hK.out _ _ trivial (fun hS1 => ?_)
      try simp only [layR]
      clear hS0 hS1
      generalize (wr.alloc (.cells #[.int .u8 ((e : Int) - 1)] 5)).drew = W2 at *
      have hsz2 := hb2.size
      refine wpAnyH_ready (rs := [5]) (by kernel_rfl) (by simp) ?_
      refine AllReadyH.cons rfl (fun K' hK => ?_) AllReadyH.nil
      refine step_appB rfl _ _ rfl w.heap.size _ out rfl ho2 _ (some ⟨wr.heap.size, 0, none⟩) 1 1 [UInt8.ofNat (e - 1)] rfl hl2 (by rw [← HQ.out]; omega) (by omega) ?_
      intro v3 w3 HO3 HB3
      have hx3 := (HT.out.below (hb2.mono hsw)).below HB3.out
      refine hK.out _ _ trivial (fun hS1 => ?_)
      try simp only [layR]
      refine wpAnyH_ready (rs := [9]) (by kernel_rfl) (by simp) ?_
      refine AllReadyH.cons rfl (fun K' hK => ?_) AllReadyH.nil
      refine step_appB rfl _ _ rfl w.heap.size _ _ rfl HO3.out _ a' e c' (r.take e) rfl hx3 (by rw [List.length_append, ← HQ.out]; simp; omega) (by have := HB3.out.size; omega) ?_
      intro v4 w4 HO4 HB4
      refine hK.out _ _ trivial (fun hS2 => ?_)
      refine takeV 10 (v := v4) rfl (by kernel_rfl) (by kernel_rfl) (by kernel_rfl) (fun _ _ _ h => h) (by rfl) (fun _ _ => rfl) (by assumption) ?_
      refine wpAnyH_done (by kernel_rfl) ?_ _
      refine NoPanic.normal ?_
      have HX4 := Lib.hid (((HD.out.below (hb2.mono hsw)).below HB3.out).below HB4.out)
      have HB5 := Lib.hid (((HB.out.trans (hb2.mono hsw)).trans HB3.out).trans HB4.out)
      clear hb2 ho2 hl2 hx3 hS1 hS2
      go_wp2
      go_roundw
      case rel => exact ⟨_, _, _, r.drop e, _, rfl, by have h := HX4.out; rw [Nat.sub_self] at h; exact h, by omega, by omega, by omega, hst.out, by rw [List.length_append, List.length_append, ← HQ.out, List.length_take, HXR.out.len]; simp; omega, HO4.out, HB5.out⟩
      case measure => show 0 < e; omega
def Apart (u v : Value) : Prop := u.ownBlock = none ∨ u.ownBlock ≠ v.ownBlock
theorem Apart.nil (u : Value) : Apart u (.slice none 0 0) := by
  unfold Apart
  cases h : u.ownBlock with
  | none => exact .inl rfl
  | some g => exact .inr (by simp [Value.ownBlock])
theorem Apart.step {α : Type} {f : α → Value} {e : TypeId} {B : Nat} {w w' : World} {u v v' : Value} {xs : List α} (h : Apart u v) (hu : Own f e w B u xs) (hr : RowTo w v w' v') : Apart u v' := by
  rcases h with h | h
  · exact .inl h
  · rcases hr.2 with k | ⟨g, k, hg⟩
    · exact .inr (by rw [k]; exact h)
    · exact .inr (fun e => by rw [k] at e; have := (hu.blockLt g e).2; omega)
theorem Own.apart {α : Type} {f : α → Value} {e : TypeId} {B : Nat} {w w' : World} {u v v' : Value} {xs : List α} (hu : Own f e w B u xs) (h : Apart u v) (hr : RowTo w v w' v') : Own f e w' B u xs := hu.grown hr.1 h
set_option maxRecDepth 100000 in
set_option maxHeartbeats 2000000 in
theorem refSqueeze_calls (a : Option Addr) (n c : Nat) (b : List UInt8) (w : World) (hx : Bytes w w.heap.size a n b) (hnc : n ≤ c) :
    Calls Try.prog 11 #[.slice a n c] w (OpenR (Sqz.sqzR b) w) := by
  have hl := hx.len
  by_cases h1 : 65536 < n
  · have hr : Sqz.sqzR b = ([], 2) := by unfold Sqz.sqzR; rw [if_pos (by omega)]
    rw [hr]
    have g1 : decide ((65536 : Int) < (n : Int)) = true := decide_eq_true (by omega)
    clear hr hx hl
    go_enter Try.func11, Try.ntmps11
    go_wp2
    go_ret2
    exact openR_err (Below.refl _ _)
  have HR := Lib.hid (show Sqz.sqzR b = (Sqz.sqz b 0 0, 0) by unfold Sqz.sqzR; rw [if_neg (by omega)]; rfl)
  have g1 : decide ((65536 : Int) < (n : Int)) = false := decide_eq_false (by omega)
  have HX := Lib.hid hx
  have HL := Lib.hid hl
  generalize Sqz.sqzR b = R at *
  clear hx hl
  go_enter Try.func11, Try.ntmps11
  go_wp2
  go_loopw [4, 5, 6] (fun s4 s5 s6 wr => ∃ (k fr : Nat) (out : List UInt8), fr ≤ k ∧ k ≤ n ∧ s6 = .int .i64 (k : Int) ∧ Own byteV 5 wr w.heap.size s4 out ∧ Own byteV 5 wr w.heap.size s5 ((b.drop fr).take (k - fr)) ∧ Apart s4 s5 ∧ R = (out ++ Sqz.sqz b k fr, 0) ∧ out.length ≤ 2 * fr ∧ Below w.heap.size w wr) (fun _ _ s _ => n - (intOf s).toNat)
  case atStart => exact ⟨0, 0, [], by omega, by omega, rfl, Own.nil _ _, Own.nil _ _, Apart.nil _, HR.out, by simp, Below.refl _ _⟩
  case round =>
    obtain ⟨k, fr, out, hfk, hkn, rfl, hown, hown5, hap, hR, hol, hb⟩ := hrel
    obtain ⟨q, hq⟩ : ∃ q, q = out.length := ⟨_, rfl⟩
    obtain ⟨ao, co, rfl, hco⟩ := hown.formN hq.symm
    have hl5 : ((b.drop fr).take (k - fr)).length = k - fr := by rw [List.length_take, List.length_drop, HL.out]; omega
    obtain ⟨d, hd⟩ : ∃ d, d = k - fr := ⟨_, rfl⟩
    obtain ⟨a5, c5, rfl, hc5⟩ := hown5.formN (n := d) (by rw [hl5, hd])
    rw [← hq] at hol
    have HQ := Lib.hid hq
    have HD := Lib.hid hd
    have HL5 := Lib.hid hl5
    have HRR := Lib.hid hR
    have HO := Lib.hid hown
    have HO5 := Lib.hid hown5
    have HA5 := Lib.hid (hown5.arr (by omega))
    have HAp := Lib.hid hap
    have HB := Lib.hid hb
    have hsw := hb.size
    have hdl : d ≤ n := by omega
    have hdk : d + fr ≤ k := by omega
    have hdk2 : k ≤ d + fr := by omega
    clear hown hown5 hap hR hb hq hl5 hd
    by_cases hlt : k < n
    · have hbest := Lib.hid (refBest_calls a n c k b wr ((HX.out.below HB.out).mono hsw) hlt)
      have hbl := Sqz.best_le b k
      have hbr := Sqz.best_room (b := b) (k := k) (by rw [HL.out]; omega)
      rw [HL.out] at hbr
      have hbs := Sqz.best_spec b k
      have HOwn := Lib.hid (fun h => Sqz.sqz_own (b := b) (k := k) (fr := fr) (by rw [HL.out]; exact hlt) h)
      have HCopy := Lib.hid (fun h => Sqz.sqz_copy (b := b) (k := k) (fr := fr) (by rw [HL.out]; exact hlt) h)
      generalize Sqz.best b k = nf at *
      obtain ⟨nn, far⟩ := nf
      dsimp only at *
      by_cases h0 : nn = 0
      · have q1 : ((nn : Int) == 0) = true := by rw [beq_iff_eq]; omega
        have hso := Lib.hid (HOwn.out h0)
        obtain ⟨b1, o1, hk1, rfl, hbl1, hc1⟩ := HX.out.at_ (k := k) hlt
        have hst := Lib.hid (show (b.drop fr).take (k + 1 - fr) = (b.drop fr).take (k - fr) ++ [b[k]] by
          rw [show k + 1 - fr = (k - fr) + 1 by omega, List.take_succ_eq_append_getElem (by rw [List.length_drop]; omega), List.getElem_drop]
          congr 2
          congr 1
          omega)
        generalize b[k] = x at *
        clear hbs HOwn HCopy
        go_wp2_with fail
        refine hbest.out.mono ?_
        rintro e w2 ⟨rfl, hb2⟩
        have HB2 := Lib.hid (HB.out.trans (hb2.mono hsw))
        have HO2 := Lib.hid (HO.out.on hb2)
        have HO52 := Lib.hid (HO5.out.on hb2)
        have hc2 := (HB2.out.cell (p := ⟨b1, o1 + k, none⟩) hbl1).trans hc1
        have hs2 := HB2.out.size
        clear hb2
        go_wp2_with (at_builtin; refine wpList_litTo rfl (.tmp 24) (.tmp 29) rfl w.heap.size (.slice a5 d c5) _ rfl HO52.out 1 [x] rfl rfl rfl (by rw [HL5.out, ← HD.out]; omega) hs2 ?_; intro v3 w3 HO3 HR3)
        go_roundw
        case rel => exact ⟨k + 1, fr, out, by omega, by omega, by go_num, HO2.out.apart HAp.out HR3.out, by rw [hst.out]; exact HO3.out, HAp.out.step HO2.out HR3.out, by rw [HRR.out, hso.out], by rw [← HQ.out]; omega, HB2.out.trans (HR3.out.belowB HO52.out hs2)⟩
        case measure => simp [intOf]; omega
      · have q1 : ((nn : Int) == 0) = false := by rw [beq_eq_false_iff_ne]; omega
        have hcp := Lib.hid (HCopy.out h0)
        obtain ⟨n3, f1, f2⟩ : 3 ≤ nn ∧ far ≤ 4096 ∧ nn ≤ 130 := by
          rcases hbs with e | ⟨e1, _, e3, _⟩
          · injection e with e _; exact absurd e h0
          · exact ⟨e1, e3, hbl⟩
        have y0 := Lib.hid (show (nn : Int) + 125 = ((UInt8.ofNat (nn + 125)).toNat : Int) by rw [UInt8.toNat_ofNat']; omega)
        have y1 := Lib.hid (show (far : Int) % 256 = ((UInt8.ofNat far).toNat : Int) by rw [UInt8.toNat_ofNat']; omega)
        have y2 := Lib.hid (show (far : Int) / 256 = ((UInt8.ofNat (far / 256)).toNat : Int) by rw [UInt8.toNat_ofNat']; omega)
        have hrl := Sqz.runs_len ((b.drop fr).take (k - fr))
        rw [HL5.out] at hrl
        clear hbs HOwn HCopy
        go_wp2_with fail
        refine hbest.out.mono ?_
        rintro e w2 ⟨rfl, hb2⟩
        have HB2 := Lib.hid (HB.out.trans (hb2.mono hsw))
        have HO2 := Lib.hid (HO.out.on hb2)
        have HA52 := Lib.hid (HA5.out.on hb2)
        have hs2 := HB2.out.size
        clear hb2
        go_wp2_with fail
        refine (refRuns_calls a5 d c5 ((b.drop fr).take (k - fr)) w2 HA52.out hc5 (by omega)).mono ?_
        rintro e w3 ⟨⟨v3, rfl, ho3⟩, hb3⟩
        obtain ⟨p, hp⟩ : ∃ p, p = (Sqz.runs ((b.drop fr).take (k - fr))).length := ⟨_, rfl⟩
        obtain ⟨a3, c3, rfl, _⟩ := ho3.formN hp.symm
        have hpl : p ≤ 2 * d := by omega
        have HA3 := Lib.hid (ho3.arr (by omega))
        have HP := Lib.hid hp
        have HB3 := Lib.hid (HB2.out.trans (hb3.mono hs2))
        have HO3 := Lib.hid (HO2.out.on hb3)
        have hs3 := HB3.out.size
        clear ho3 hb3 hp hrl
        go_wp2_with (first
          | (at_builtin; refine wpList_ontoB rfl (.tmp 33) (.tmp 35) rfl w.heap.size (.slice ao q co) out rfl HO3.out _ a3 p c3 _ rfl HA3.out (by rw [← HQ.out]; omega) hs3 ?_; intro v4 w4 HO4 HB4; have hs4 := (HB3.out.trans HB4.out).size)
          | (at_builtin; refine wpList_litTo rfl (.tmp 37) (.tmp 47) rfl w.heap.size v4 _ rfl HO4.out 3 [UInt8.ofNat (nn + 125), UInt8.ofNat far, UInt8.ofNat (far / 256)] rfl rfl (by rw [y0.out, y1.out, y2.out]; rfl) (by rw [List.length_append, ← HQ.out, ← HP.out]; omega) hs4 ?_; intro v5 w5 HO5' HR5))
        have HB5 := Lib.hid ((HB3.out.trans HB4.out).trans (HR5.out.belowB HO4.out hs4))
        have HRN := Lib.hid (show R = ((out ++ Sqz.runs ((b.drop fr).take (k - fr)) ++ [UInt8.ofNat (nn + 125), UInt8.ofNat far, UInt8.ofNat (far / 256)]) ++ Sqz.sqz b (k + nn) (k + nn), 0) by rw [HRR.out, hcp.out]; simp [List.append_assoc])
        go_roundw
        case rel => exact ⟨k + nn, k + nn, _, by omega, by omega, by go_num, HO5'.out, by rw [Nat.sub_self, List.take_zero]; exact Own.nil _ _, Apart.nil _, HRN.out, by rw [List.length_append, List.length_append, ← HQ.out, ← HP.out]; simp; omega, HB5.out⟩
        case measure => simp [intOf]; omega
    · obtain rfl : k = n := by omega
      have hend := Lib.hid (Sqz.sqz_end (b := b) (k := k) (fr := fr) (by rw [HL.out]; exact hlt))
      have hdr := Lib.hid (show (b.drop fr).take (k - fr) = b.drop fr by rw [List.take_of_length_le (by rw [List.length_drop, HL.out]; omega)])
      have hrl := Sqz.runs_len ((b.drop fr).take (k - fr))
      rw [HL5.out] at hrl
      go_wp2_with fail
      refine (refRuns_calls a5 d c5 ((b.drop fr).take (k - fr)) wr HA5.out hc5 (by omega)).mono ?_
      rintro e w3 ⟨⟨v3, rfl, ho3⟩, hb3⟩
      obtain ⟨p, hp⟩ : ∃ p, p = (Sqz.runs ((b.drop fr).take (k - fr))).length := ⟨_, rfl⟩
      obtain ⟨a3, c3, rfl, _⟩ := ho3.formN hp.symm
      have hpl : p ≤ 2 * d := by omega
      have HA3 := Lib.hid (ho3.arr (by omega))
      have HP := Lib.hid hp
      have HB3 := Lib.hid (HB.out.trans (hb3.mono hsw))
      have HO3 := Lib.hid (HO.out.on hb3)
      have hs3 := HB3.out.size
      clear ho3 hb3 hp hrl
      go_wp2_with (at_builtin; refine wpList_ontoB rfl (.tmp 52) (.tmp 54) rfl w.heap.size (.slice ao q co) out rfl HO3.out _ a3 p c3 _ rfl HA3.out (by rw [← HQ.out]; omega) hs3 ?_; intro v4 w4 HO4 HB4)
      go_ret2
      exact ⟨⟨_, by rw [HRR.out]; rfl, by rw [HRR.out, hend.out, ← hdr.out]; exact HO4.out⟩, HB3.out.trans HB4.out⟩
end Go.Proofs.Ytpjjfehocibljaa
