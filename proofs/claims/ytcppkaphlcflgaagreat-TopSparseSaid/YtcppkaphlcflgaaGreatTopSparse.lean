import Derived.Test.YtcppkaphlcflgaaGreatSpsW
import Derived.Test.YtcppkaphlcflgaaGreatFtlMade
import Derived.Test.YtcppkaphlcflgaaGreatNumSame
import Derived.Test.YtcppkaphlcflgaaGreatRoomMore
import Derived.Test.YtcppkaphlcflgaaGreatU16Frame
import Derived.Deep.DeepCutAuto
namespace Go.Proofs.YtcppkaphlcflgaaGreat
open Go.RowKit Ftl Pol

set_option maxRecDepth 100000 in
set_option maxHeartbeats 16000000 in
theorem topSparse_walk (a0 : Option Addr) (n0 c0 : Nat) (x0 : List Nat) (w : World) (g0 : Arr u16V w w.heap.size a0 n0 x0) (nc0 : n0 ≤ c0) (_ : c0 ≤ 140737488351232) (b0 : ∀ x ∈ x0, x < 65536) :
  Calls Tryz.prog 3 #[.slice a0 n0 c0] w fun e w' => e = .returned (.bool true) ∧ Below w.heap.size w w' := by
 have HX := Lib.hid g0
 have HXl := Lib.hid g0.len
 have HB0 := Lib.hid b0
 clear g0 b0
 go_enter Tryz.func3, Tryz.ntmps3
 go_wp2_with fail
 refine (made_calls w).mono ?_
 rintro e w1 ⟨B, R, f, rfl, hB, hf, hd, _, hb⟩
 have HOp := Lib.hid (show Calls Tryz.prog 6 #[.pointer (some ⟨f.F, 0, none⟩), .agg #[.int .i64 1, .int .i64 2, .int .i64 60, .int .i64 0], .slice none 0 0] w1 fun e w' => ∃ Z, e = .returned (.tuple #[.pointer (some ⟨Z, 0, none⟩), .int .i64 0]) ∧ PlR 16 B R w1 w' Z f (Ps.new0 f 1 60 0) ∧ w1.heap.size ≤ Z from
  polOpen_calls (tb := 1) (np := 60) (ino := 0) hf hd.fc (by rw [hd.tv, List.length_replicate]) (by omega) (by omega) (by omega))
 obtain ⟨F, hF⟩ : ∃ F, F = f.F := ⟨_, rfl⟩
 rw [← hF] at HOp ⊢
 have HB1 := Lib.hid hb
 have HF1 := Lib.hid hf
 have HBb := Lib.hid hB
 clear hb hf hd hB hF
 go_wp2_with fail
 refine HOp.out.mono ?_
 rintro e w2 ⟨Z, rfl, hpl, _⟩
 have HPl := Lib.hid hpl
 clear hpl HOp
 go_upto_region 6 with fail
 obtain ⟨I, hI⟩ : ∃ I, I = w2.heap.size := ⟨_, rfl⟩
 have hsp : SpW w B I Z f (Ps.new0 f 1 60 0) Sps.fi0 (.slice none 0 0) [] (Up R w1 w2) (w2.alloc (.cells (nfC Sps.fi0) 35)) := by
  have h1 := HPl.out.1
  have h2 : Below w.heap.size w w2 := HB1.out.trans (HPl.out.2.below (fun q hq => Nat.le_trans HBb.out (HF1.out.bnd q hq).1) HB1.out.size)
  have hba : Below w2.heap.size w2 (w2.alloc (.cells (nfC Sps.fi0) 35)) := (Below.refl _ w2).alloc (Nat.le_refl _) _
  exact ⟨h1.on hba, HBb.out, by rw [hI]; exact Blk.new w2 _ _, h1.not_new (by omega), by rw [hI]; exact h2.size, Own.nil _ _, fun q hq => (by cases hq), h2.then_ hba⟩
 rw [← hI]
 generalize HW3 : w2.alloc (.cells #[.int .i64 1, .int .i64 0, .int .i64 0, .int .i64 0, .int .i64 0, .int .i64 0, .int .i64 0, .int .i64 0, .int .i64 0, .int .i64 0, .int .i64 0] 35) = w3
 have hsp2 : SpW w B I Z f (Ps.new0 f 1 60 0) Sps.fi0 (.slice none 0 0) [] (Up R w1 w2) w3 := by rw [← HW3]; exact hsp
 have HS0 := Lib.hid hsp2
 obtain ⟨K, hK⟩ : ∃ K, K = min n0 8 := ⟨_, rfl⟩
 have HK := Lib.hid hK
 have hK8 : K ≤ 8 := by omega
 have hKn : K ≤ n0 := by omega
 have HOf := Lib.hid (show ∀ k, k < n0 → x0.getD k 0 < 65536 from fun k hk => by
  have hl := HXl.out
  rw [List.getD_eq_getElem?_getD, List.getElem?_eq_getElem (by omega)]
  exact HB0.out _ (List.getElem_mem _))
 have HCe := Lib.hid (show ∀ k, k < n0 → ∃ b o, a0 = some ⟨b, o, none⟩ ∧ b < w.heap.size ∧ w.cell? ⟨b, o + k, none⟩ = some (.int .u16 (x0.getD k 0 : Nat)) from fun k hk => by
  have hl := HXl.out
  obtain ⟨b, o, ha, hlt, hc⟩ := HX.out.2.2 (by omega)
  refine ⟨b, o, ha, hlt, ?_⟩
  rw [hc k (by omega), List.getD_eq_getElem?_getD, List.getElem?_eq_getElem (by omega)]
  rfl)
 clear hsp hsp2 HW3 hI hK HPl HB1 HF1 HX
 go_wp2_with fail
 go_loopw [8, 9, 10, 11] (fun v8 v9 _ _ wr => ∃ (k : Nat) (s : Ps) (fi : Nf) (l : List Int) (R : Nat → Prop), v9 = .int .i64 (k : Int) ∧ k ≤ K ∧ Hid (Sps.St x0 k s fi l) ∧ Hid (SpW w B I Z f s fi v8 l R wr)) (fun _ v9 _ _ _ => K - (intOf v9).toNat)
 case atStart => exact ⟨0, _, _, _, _, rfl, Nat.zero_le _, Lib.hid (Sps.St.start x0 f), HS0⟩
 case round =>
  obtain ⟨k, s, fi, l, R3, rfl, hk, HSt, HSp⟩ := hrel
  clear HS0
  go_upto_region 8 with fail
  go_cut [39] from 32 to 74 (fun v wx => v = .bool (decide (k < K)) ∧ wx = wr)
  case first =>
   by_cases h1 : k < n0
   ·have q1 : (k : Int) < (n0 : Int) := by omega
    by_cases h2 : k < 8
    ·have q2 : (k : Int) < 8 := by omega
     go_wp2_with fail
     go_meet
     case rel => exact ⟨by rw [decide_eq_true (show k < K by have := HK.out; omega)], rfl⟩
    ·have q2 : ¬ (k : Int) < 8 := by omega
     go_wp2_with fail
     go_meet
     case rel => exact ⟨by rw [decide_eq_false (show ¬ k < K by omega)], rfl⟩
   ·have q1 : ¬ (k : Int) < (n0 : Int) := by omega
    go_wp2_with fail
    go_meet
    case rel => exact ⟨by rw [decide_eq_false (show ¬ k < K by omega)], rfl⟩
  case rest =>
   obtain ⟨rfl, rfl⟩ := hcut
   by_cases hlt : k < K
   ·have hd : decide (k < K) = true := decide_eq_true hlt
    rw [hd]
    go_upto_region 10 with fail
    have hk8 : k < 8 := by omega
    obtain ⟨off, hoff⟩ : ∃ off, off = x0.getD k 0 := ⟨_, rfl⟩
    obtain ⟨vb, hvb⟩ : ∃ vb, vb = UInt8.ofNat (k + 1) := ⟨_, rfl⟩
    have ho6 := HOf.out k (by omega)
    rw [← hoff] at ho6
    have HO6 := Lib.hid ho6
    have hstep := HSt.out.step hk8 hoff ho6 hvb
    obtain ⟨s9, hs9⟩ : ∃ x, x = (Nod.wrS 1 s fi.io off [vb]).1 := ⟨_, rfl⟩
    obtain ⟨fi9, hfi⟩ : ∃ x, x = withS fi (max fi.s ((off + 1 : Nat) : Int)) (Nod.wrS 1 s fi.io off [vb]).2 := ⟨_, rfl⟩
    have hst9 := hstep.st
    rw [← hs9, ← hfi, show ((off / 64 : Nat) : Int) = (off : Int) / 64 from by omega] at hst9
    have HSt9 := Lib.hid hst9
    have HStep := Lib.hid hstep
    have HLn := Lib.hid hstep.ln
    have HS9 := Lib.hid hs9
    have HFi := Lib.hid hfi
    have HVb := Lib.hid (show #[.int .u8 ((k : Int) + 1)] = ([vb].map byteV).toArray from by
     rw [hvb, List.map_cons, List.map_nil, ← byte_low (k + 1) (by omega)]
     rfl)
    obtain ⟨b, o, rfl, hbl, hce⟩ := HCe.out k (by omega)
    rw [← hoff] at hce
    have HSf := Lib.hid (fun W s' R' (h : SpW w B I Z f s' fi u8 l R' W) => (⟨h.i, (h.bel.cell (p := ⟨b, o + k, none⟩) hbl).trans hce⟩ : Blk W I 35 (nfC fi) ∧ W.cell? ⟨b, o + k, none⟩ = some (.int .u16 (off : Int))))
    have HCel := Lib.hid (fun W (h : Below w.heap.size w W) => ((h.cell (p := ⟨b, o + k, none⟩) hbl).trans hce : W.cell? ⟨b, o + k, none⟩ = some (.int .u16 (off : Int))))
    have HOff := Lib.hid hoff
    clear hoff hvb hs9 hfi hstep hst9 hbl hce hd hk8
    go_cut [10, 11] from 32 to 74 (fun v10 v11 wx => ∃ (J : Nat) (R : Nat → Prop), v10 = .pointer (some ⟨J, 0, none⟩) ∧ v11 = .int .i64 0 ∧ Hid (SpW w B I Z f s9 fi u8 l R wx ∧ Jb w I u8 R wx J (nfC fi9)))
    case first =>
     have HSpD := Lib.hid (HSp.out.on (below_drew wc))
     refine wp_region_noPanic ?_
     refine wp_region_held_drew (S := (fun W' => Blk W' I 35 (nfC fi) ∧ W'.cell? ⟨b, o + k, none⟩ = some (.int .u16 (off : Int)))) (by kernel_rfl) (HSf.out _ _ _ HSpD.out) (fun hS0 => ?_)
     generalize wc.drew = W0 at *
     refine takeV 0 (v := (.pointer (some ⟨Z, 0, none⟩))) rfl (by kernel_rfl) (by kernel_rfl) (by kernel_rfl) (fun _ _ _ h => h) (by rfl) (fun _ _ => rfl) (by assumption) ?_
     try simp only [layR]
     refine takeV 1 (v := (.agg (nfC fi))) rfl (by kernel_rfl) (by kernel_rfl) (by kernel_rfl) (fun _ _ _ h => h) (by rfl) (fun W hSw => ?_) (by assumption) ?_
     ·obtain ⟨y0, y1, y2, y3, y4, y5, y6, y7, y8, y9, y10⟩ := nf_cells hSw.1; unfold nfC
      go_simp
     try simp only [layR]
     refine takeV 2 (v := (.slice (some ⟨b, o, none⟩) n0 c0)) rfl (by kernel_rfl) (by kernel_rfl) (by kernel_rfl) (fun _ _ _ h => h) (by rfl) (fun _ _ => rfl) (by assumption) ?_
     try simp only [layR]
     refine takeV 3 (v := (.int .i64 (k : Int))) rfl (by kernel_rfl) (by kernel_rfl) (by kernel_rfl) (fun _ _ _ h => h) (by rfl) (fun _ _ => rfl) (by assumption) ?_
     try simp only [layR]
     refine takeV 4 (v := (.pointer (some ⟨b, o + k, none⟩))) rfl (by kernel_rfl) (by kernel_rfl) (by kernel_rfl) (fun _ _ _ h => h) (by rfl) (fun W hSw => ?_) (by assumption) ?_
     ·have z0 : (0 : Int) ≤ (k : Int) := (by omega); have z1 : (k : Int) < (n0 : Int) := (by omega)
      go_simp
     try simp only [layR]
     refine takeV 5 (v := (.int .u16 (off : Int))) rfl (by kernel_rfl) (by kernel_rfl) (by kernel_rfl) (fun _ _ _ h => h) (by rfl) (fun W hSw => ?_) (by assumption) ?_
     ·have y0 := hSw.2
      go_simp
     try simp only [layR]
     refine takeV 6 (v := (.int .i64 (off : Int))) rfl (by kernel_rfl) (by kernel_rfl) (by kernel_rfl) (fun _ _ _ h => h) (by rfl) (fun W hSw => ?_) (by assumption) ?_
     ·have y0 := IntWalk.i64_in (off : Int) ⟨by omega, by omega⟩
      go_simp
     try simp only [layR]
     refine takeV 7 (v := (.int .i64 (k : Int))) rfl (by kernel_rfl) (by kernel_rfl) (by kernel_rfl) (fun _ _ _ h => h) (by rfl) (fun _ _ => rfl) (by assumption) ?_
     try simp only [layR]
     refine takeV 8 (v := (.int .u8 (k : Int))) rfl (by kernel_rfl) (by kernel_rfl) (by kernel_rfl) (fun _ _ _ h => h) (by rfl) (fun W hSw => ?_) (by assumption) ?_
     ·have y0 := IntWalk.u8_in (k : Int) ⟨by omega, by omega⟩
      go_simp
     try simp only [layR]
     refine takeV 9 (v := (.int .u8 ((k : Int) + 1))) rfl (by kernel_rfl) (by kernel_rfl) (by kernel_rfl) (fun _ _ _ h => h) (by rfl) (fun W hSw => ?_) (by assumption) ?_
     ·have y0 := IntWalk.u8_in ((k : Int) + 1) ⟨by omega, by omega⟩
      go_simp
     try simp only [layR]
     refine wpAnyH_ready (rs := [10, 15]) (by kernel_rfl) (by simp) ?_
     refine AllReadyH.cons rfl (fun K' hK => ?_) (AllReadyH.cons rfl (fun K' hK => ?_) (AllReadyH.nil))
     ·go_simp
      have hb := (Below.refl W0.heap.size W0).alloc (Nat.le_refl _) (.cells #[.int .u8 ((k : Int) + 1)] 5)
      have HSp1 := Lib.hid (HSpD.out.on hb)
      have HA1 := Lib.hid (lit_at W0 (g := W0.heap.size) (by simp) HVb.out)
      have HG1 := Lib.hid (g_at HSpD.out (g := W0.heap.size) (by simp) (.cells #[.int .u8 ((k : Int) + 1)] 5))
      clear hb
      refine hK.out _ _ (HSf.out _ _ _ HSp1.out) (fun hS1 => ?_)
      try simp only [layR]
      refine wpAnyH_ready (rs := [11, 15]) (by kernel_rfl) (by simp) ?_
      refine AllReadyH.cons rfl (fun K' hK => ?_) (AllReadyH.cons rfl (fun K' hK => ?_) (AllReadyH.nil))
      ·go_simp
       refine (spWrite HSp1.out HStep.out HA1.out HG1.out HO6.out HS9.out HFi.out).mono ?_
       rintro e V2 ⟨rfl, hsp, hkk⟩
       have HSp2 := Lib.hid hsp
       clear hsp hkk
       refine hK.out _ _ (HSf.out _ _ _ HSp2.out) (fun hS2 => ?_)
       try simp only [layR]
       refine takeV 12 (v := (.tuple #[.agg (nfC fi9), .int .i64 0])) rfl (by kernel_rfl) (by kernel_rfl) (by kernel_rfl) (fun _ _ _ h => h) (by rfl) (fun _ _ => rfl) (by assumption) ?_
       try simp only [layR]
       refine takeV 13 (v := (.agg (nfC fi9))) rfl (by kernel_rfl) (by kernel_rfl) (by kernel_rfl) (fun _ _ _ h => h) (by rfl) (fun _ _ => rfl) (by assumption) ?_
       try simp only [layR]
       refine takeV 14 (v := (.int .i64 0)) rfl (by kernel_rfl) (by kernel_rfl) (by kernel_rfl) (fun _ _ _ h => h) (by rfl) (fun _ _ => rfl) (by assumption) ?_
       try simp only [layR]
       refine wpAnyH_ready (rs := [15]) (by kernel_rfl) (by simp) ?_
       refine AllReadyH.cons rfl (fun K' hK => ?_) AllReadyH.nil
       go_simp
       have hb := (Below.refl V2.heap.size V2).alloc (Nat.le_refl _) (.cells #[.int .i64 0, .int .i64 0, .int .i64 0, .int .i64 0, .int .i64 0, .int .i64 0, .int .i64 0, .int .i64 0, .int .i64 0, .int .i64 0, .int .i64 0] 35)
       have HSp3 := Lib.hid (HSp2.out.on hb)
       have HJ3 := Lib.hid (jb_newAt HSp2.out #[.int .i64 0, .int .i64 0, .int .i64 0, .int .i64 0, .int .i64 0, .int .i64 0, .int .i64 0, .int .i64 0, .int .i64 0, .int .i64 0, .int .i64 0] (J := V2.heap.size) (by simp))
       clear hb
       refine hK.out _ _ (HSf.out _ _ _ HSp3.out) (fun hS3 => ?_)
       try simp only [layR]
       refine wpAnyH_ready (rs := [16]) (by kernel_rfl) (by simp) ?_
       refine AllReadyH.cons rfl (fun K' hK => ?_) AllReadyH.nil
       refine step_storeB rfl _ _ _ rfl (V2.heap.size) (nfC fi9) rfl rfl 35 _ HJ3.out.1 nfInfo rfl (nfOne fi9) ?_
       have HSp4 := Lib.hid (jb_set HSp3.out HJ3.out (nfC fi9))
       refine hK.out _ _ (HSf.out _ _ _ HSp4.out.1) (fun hS4 => ?_)
       try simp only [layR]
       refine takeV 17 (v := (.int .i64 0)) rfl (by kernel_rfl) (by kernel_rfl) (by kernel_rfl) (fun _ _ _ h => h) (by rfl) (fun _ _ => rfl) (by assumption) ?_
       refine wpAnyH_done (by kernel_rfl) ?_ _
       refine NoPanic.normal ?_
       go_wp2_with fail
       go_meet
       case rel => exact ⟨_, _, rfl, rfl, HSp4⟩
      ·go_simp
       have hb := (Below.refl (W0.alloc (.cells #[.int .u8 ((k : Int) + 1)] 5)).heap.size (W0.alloc (.cells #[.int .u8 ((k : Int) + 1)] 5))).alloc (Nat.le_refl _) (.cells #[.int .i64 0, .int .i64 0, .int .i64 0, .int .i64 0, .int .i64 0, .int .i64 0, .int .i64 0, .int .i64 0, .int .i64 0, .int .i64 0, .int .i64 0] 35)
       have HSp5 := Lib.hid (HSp1.out.on hb)
       have HJ5 := Lib.hid (jb_newAt HSp1.out #[.int .i64 0, .int .i64 0, .int .i64 0, .int .i64 0, .int .i64 0, .int .i64 0, .int .i64 0, .int .i64 0, .int .i64 0, .int .i64 0, .int .i64 0] (J := (W0.heap.size + 1)) (by simp))
       have HA5 := Lib.hid (HA1.out.on hb)
       have HG5 := Lib.hid (And.intro HG1.out.1 (Nat.lt_of_lt_of_le HG1.out.2 hb.size))
       clear hb
       refine hK.out _ _ (HSf.out _ _ _ HSp5.out) (fun hS5 => ?_)
       try simp only [layR]
       refine wpAnyH_ready (rs := [11]) (by kernel_rfl) (by simp) ?_
       refine AllReadyH.cons rfl (fun K' hK => ?_) AllReadyH.nil
       go_simp
       refine (spWrite HSp5.out HStep.out HA5.out HG5.out HO6.out HS9.out HFi.out).mono ?_
       rintro e V6 ⟨rfl, hsp, hkk⟩
       have HSp6 := Lib.hid hsp
       have HJ6 := Lib.hid (jb_call HJ5.out hkk)
       clear hsp hkk
       refine hK.out _ _ (HSf.out _ _ _ HSp6.out) (fun hS6 => ?_)
       try simp only [layR]
       refine takeV 12 (v := (.tuple #[.agg (nfC fi9), .int .i64 0])) rfl (by kernel_rfl) (by kernel_rfl) (by kernel_rfl) (fun _ _ _ h => h) (by rfl) (fun _ _ => rfl) (by assumption) ?_
       try simp only [layR]
       refine takeV 13 (v := (.agg (nfC fi9))) rfl (by kernel_rfl) (by kernel_rfl) (by kernel_rfl) (fun _ _ _ h => h) (by rfl) (fun _ _ => rfl) (by assumption) ?_
       try simp only [layR]
       refine takeV 14 (v := (.int .i64 0)) rfl (by kernel_rfl) (by kernel_rfl) (by kernel_rfl) (fun _ _ _ h => h) (by rfl) (fun _ _ => rfl) (by assumption) ?_
       try simp only [layR]
       refine wpAnyH_ready (rs := [16]) (by kernel_rfl) (by simp) ?_
       refine AllReadyH.cons rfl (fun K' hK => ?_) AllReadyH.nil
       refine step_storeB rfl _ _ _ rfl ((W0.heap.size + 1)) (nfC fi9) rfl rfl 35 _ HJ6.out.1 nfInfo rfl (nfOne fi9) ?_
       have HSp7 := Lib.hid (jb_set HSp6.out HJ6.out (nfC fi9))
       refine hK.out _ _ (HSf.out _ _ _ HSp7.out.1) (fun hS7 => ?_)
       try simp only [layR]
       refine takeV 17 (v := (.int .i64 0)) rfl (by kernel_rfl) (by kernel_rfl) (by kernel_rfl) (fun _ _ _ h => h) (by rfl) (fun _ _ => rfl) (by assumption) ?_
       refine wpAnyH_done (by kernel_rfl) ?_ _
       refine NoPanic.normal ?_
       go_wp2_with fail
       go_meet
       case rel => exact ⟨_, _, rfl, rfl, HSp7⟩
     ·go_simp
      have hb := (Below.refl W0.heap.size W0).alloc (Nat.le_refl _) (.cells #[.int .i64 0, .int .i64 0, .int .i64 0, .int .i64 0, .int .i64 0, .int .i64 0, .int .i64 0, .int .i64 0, .int .i64 0, .int .i64 0, .int .i64 0] 35)
      have HSp8 := Lib.hid (HSpD.out.on hb)
      have HJ8 := Lib.hid (jb_newAt HSpD.out #[.int .i64 0, .int .i64 0, .int .i64 0, .int .i64 0, .int .i64 0, .int .i64 0, .int .i64 0, .int .i64 0, .int .i64 0, .int .i64 0, .int .i64 0] (J := W0.heap.size) (by simp))
      clear hb
      refine hK.out _ _ (HSf.out _ _ _ HSp8.out) (fun hS8 => ?_)
      try simp only [layR]
      refine wpAnyH_ready (rs := [10]) (by kernel_rfl) (by simp) ?_
      refine AllReadyH.cons rfl (fun K' hK => ?_) AllReadyH.nil
      go_simp
      have hb := (Below.refl (W0.alloc (.cells #[.int .i64 0, .int .i64 0, .int .i64 0, .int .i64 0, .int .i64 0, .int .i64 0, .int .i64 0, .int .i64 0, .int .i64 0, .int .i64 0, .int .i64 0] 35)).heap.size (W0.alloc (.cells #[.int .i64 0, .int .i64 0, .int .i64 0, .int .i64 0, .int .i64 0, .int .i64 0, .int .i64 0, .int .i64 0, .int .i64 0, .int .i64 0, .int .i64 0] 35))).alloc (Nat.le_refl _) (.cells #[.int .u8 ((k : Int) + 1)] 5)
      have HSp9 := Lib.hid (HSp8.out.on hb)
      have HA9 := Lib.hid (lit_at (W0.alloc (.cells #[.int .i64 0, .int .i64 0, .int .i64 0, .int .i64 0, .int .i64 0, .int .i64 0, .int .i64 0, .int .i64 0, .int .i64 0, .int .i64 0, .int .i64 0] 35)) (g := (W0.heap.size + 1)) (by simp) HVb.out)
      have HG9 := Lib.hid (g_at HSp8.out (g := (W0.heap.size + 1)) (by simp) (.cells #[.int .u8 ((k : Int) + 1)] 5))
      have HJ9 := Lib.hid (jb_on HJ8.out hb)
      clear hb
      refine hK.out _ _ (HSf.out _ _ _ HSp9.out) (fun hS9 => ?_)
      try simp only [layR]
      refine wpAnyH_ready (rs := [11]) (by kernel_rfl) (by simp) ?_
      refine AllReadyH.cons rfl (fun K' hK => ?_) AllReadyH.nil
      go_simp
      refine (spWrite HSp9.out HStep.out HA9.out HG9.out HO6.out HS9.out HFi.out).mono ?_
      rintro e V10 ⟨rfl, hsp, hkk⟩
      have HSp10 := Lib.hid hsp
      have HJ10 := Lib.hid (jb_call HJ9.out hkk)
      clear hsp hkk
      refine hK.out _ _ (HSf.out _ _ _ HSp10.out) (fun hS10 => ?_)
      try simp only [layR]
      refine takeV 12 (v := (.tuple #[.agg (nfC fi9), .int .i64 0])) rfl (by kernel_rfl) (by kernel_rfl) (by kernel_rfl) (fun _ _ _ h => h) (by rfl) (fun _ _ => rfl) (by assumption) ?_
      try simp only [layR]
      refine takeV 13 (v := (.agg (nfC fi9))) rfl (by kernel_rfl) (by kernel_rfl) (by kernel_rfl) (fun _ _ _ h => h) (by rfl) (fun _ _ => rfl) (by assumption) ?_
      try simp only [layR]
      refine takeV 14 (v := (.int .i64 0)) rfl (by kernel_rfl) (by kernel_rfl) (by kernel_rfl) (fun _ _ _ h => h) (by rfl) (fun _ _ => rfl) (by assumption) ?_
      try simp only [layR]
      refine wpAnyH_ready (rs := [16]) (by kernel_rfl) (by simp) ?_
      refine AllReadyH.cons rfl (fun K' hK => ?_) AllReadyH.nil
      refine step_storeB rfl _ _ _ rfl (W0.heap.size) (nfC fi9) rfl rfl 35 _ HJ10.out.1 nfInfo rfl (nfOne fi9) ?_
      have HSp11 := Lib.hid (jb_set HSp10.out HJ10.out (nfC fi9))
      refine hK.out _ _ (HSf.out _ _ _ HSp11.out.1) (fun hS11 => ?_)
      try simp only [layR]
      refine takeV 17 (v := (.int .i64 0)) rfl (by kernel_rfl) (by kernel_rfl) (by kernel_rfl) (fun _ _ _ h => h) (by rfl) (fun _ _ => rfl) (by assumption) ?_
      refine wpAnyH_done (by kernel_rfl) ?_ _
      refine NoPanic.normal ?_
      go_wp2_with fail
      go_meet
      case rel => exact ⟨_, _, rfl, rfl, HSp11⟩
    case rest =>
     obtain ⟨J, R4, rfl, rfl, HC⟩ := hcut
     have HSp4 := Lib.hid HC.out.1
     have HJ4 := Lib.hid HC.out.2
     generalize wc = W5 at *
     clear HC HSf HStep
     obtain ⟨av, cv, hv8, _⟩ := HSp4.out.o.form
     subst hv8
     go_upto_region 14 with (first | refine wpList_load_blk rfl _ _ rfl J rfl 35 _ _ HJ4.out.1 Tryz.underlying35 rfl nfInfo ?_ | refine wpList_store_blk rfl rfl _ _ _ rfl I (nfC fi9) rfl rfl 35 _ HSp4.out.i rfl nfInfo (nfOne fi9) ?_)
     have HSp5 := Lib.hid ((HSp4.out.setI fi9).on (below_drew _))
     refine wp_region_noPanic ?_
     refine wp_region_held_drew (S := (fun W' => W'.cell? ⟨b, o + k, none⟩ = some (.int .u16 (off : Int)))) (by kernel_rfl) (HCel.out _ HSp5.out.bel) (fun hS0 => ?_)
     generalize (W5.setRow I (nfC fi9)).drew = W6 at *
     have z0 : (0 : Int) ≤ (k : Int) := by omega
     have z1 : (k : Int) < (n0 : Int) := by omega
     refine takeV 0 (v := (.slice av l.length cv)) rfl (by kernel_rfl) (by kernel_rfl) (by kernel_rfl) (fun _ _ _ h => h) (by rfl) (fun _ _ => rfl) (by assumption) ?_
     try simp only [layR]
     refine takeV 1 (v := (.slice (some ⟨b, o, none⟩) n0 c0)) rfl (by kernel_rfl) (by kernel_rfl) (by kernel_rfl) (fun _ _ _ h => h) (by rfl) (fun _ _ => rfl) (by assumption) ?_
     try simp only [layR]
     refine takeV 2 (v := (.int .i64 (k : Int))) rfl (by kernel_rfl) (by kernel_rfl) (by kernel_rfl) (fun _ _ _ h => h) (by rfl) (fun _ _ => rfl) (by assumption) ?_
     try simp only [layR]
     refine takeV 3 (v := (.pointer (some ⟨b, o + k, none⟩))) rfl (by kernel_rfl) (by kernel_rfl) (by kernel_rfl) (fun _ _ _ h => h) (by rfl) (fun W hSw => ?_) (by assumption) ?_
     ·skip
      go_simp
     try simp only [layR]
     refine takeV 4 (v := (.int .u16 (off : Int))) rfl (by kernel_rfl) (by kernel_rfl) (by kernel_rfl) (fun _ _ _ h => h) (by rfl) (fun W hSw => ?_) (by assumption) ?_
     ·have y0 := hSw
      go_simp
     try simp only [layR]
     refine takeV 5 (v := (.int .i64 (off : Int))) rfl (by kernel_rfl) (by kernel_rfl) (by kernel_rfl) (fun _ _ _ h => h) (by rfl) (fun W hSw => ?_) (by assumption) ?_
     ·have y0 := IntWalk.i64_in (off : Int) ⟨by omega, by omega⟩
      go_simp
     try simp only [layR]
     refine takeV 6 (v := (.int .i64 ((off : Int) / 64))) rfl (by kernel_rfl) (by kernel_rfl) (by kernel_rfl) (fun _ _ _ h => h) (by rfl) (fun W hSw => ?_) (by assumption) ?_
     ·have y0 := IntWalk.i64_in ((off : Int) / 64) ⟨by omega, by omega⟩
      go_simp
     try simp only [layR]
     refine takeV 7 (v := (.slice (some ⟨b, o, none⟩) n0 c0)) rfl (by kernel_rfl) (by kernel_rfl) (by kernel_rfl) (fun _ _ _ h => h) (by rfl) (fun _ _ => rfl) (by assumption) ?_
     try simp only [layR]
     refine takeV 8 (v := (.int .i64 (k : Int))) rfl (by kernel_rfl) (by kernel_rfl) (by kernel_rfl) (fun _ _ _ h => h) (by rfl) (fun _ _ => rfl) (by assumption) ?_
     try simp only [layR]
     refine takeV 9 (v := (.pointer (some ⟨b, o + k, none⟩))) rfl (by kernel_rfl) (by kernel_rfl) (by kernel_rfl) (fun _ _ _ h => h) (by rfl) (fun W hSw => ?_) (by assumption) ?_
     ·skip
      go_simp
     try simp only [layR]
     refine takeV 10 (v := (.int .u16 (off : Int))) rfl (by kernel_rfl) (by kernel_rfl) (by kernel_rfl) (fun _ _ _ h => h) (by rfl) (fun W hSw => ?_) (by assumption) ?_
     ·have y0 := hSw
      go_simp
     try simp only [layR]
     refine takeV 11 (v := (.int .i64 (off : Int))) rfl (by kernel_rfl) (by kernel_rfl) (by kernel_rfl) (fun _ _ _ h => h) (by rfl) (fun W hSw => ?_) (by assumption) ?_
     ·have y0 := IntWalk.i64_in (off : Int) ⟨by omega, by omega⟩
      go_simp
     try simp only [layR]
     refine takeV 12 (v := (.int .i64 ((off : Int) / 64))) rfl (by kernel_rfl) (by kernel_rfl) (by kernel_rfl) (fun _ _ _ h => h) (by rfl) (fun W hSw => ?_) (by assumption) ?_
     ·have y0 := IntWalk.i64_in ((off : Int) / 64) ⟨by omega, by omega⟩
      go_simp
     try simp only [layR]
     refine takeV 13 (v := (.int .i64 ((off : Int) / 64 + 1))) rfl (by kernel_rfl) (by kernel_rfl) (by kernel_rfl) (fun _ _ _ h => h) (by rfl) (fun W hSw => ?_) (by assumption) ?_
     ·have y0 := IntWalk.i64_in ((off : Int) / 64 + 1) ⟨by omega, by omega⟩
      go_simp
     try simp only [layR]
     refine wpAnyH_ready (rs := [14]) (by kernel_rfl) (by simp) ?_
     refine AllReadyH.cons rfl (fun K' hK => ?_) AllReadyH.nil
     go_simp
     refine (with_calls av l.length cv l ((off : Int) / 64) ((off : Int) / 64 + 1) W6 (HSp5.out.o.arr (by have := HLn.out; omega)) HLn.out (by unfold Room.more; split <;> omega)).mono ?_
     rintro e W7 ⟨v7, rfl, ho7, hb7⟩
     have HSp7 := Lib.hid (HSp5.out.setV ho7 hb7)
     clear ho7 hb7
     refine hK.out _ _ (HCel.out _ HSp7.out.bel) (fun hS9 => ?_)
     try simp only [layR]
     refine takeV 15 (v := v7) rfl (by kernel_rfl) (by kernel_rfl) (by kernel_rfl) (fun _ _ _ h => h) (by rfl) (fun _ _ => rfl) (by assumption) ?_
     refine wpAnyH_done (by kernel_rfl) ?_ _
     refine NoPanic.normal ?_
     clear hS0 hS9 z0 z1
     have q9 := IntWalk.i64_in ((k : Int) + 1) ⟨by omega, by omega⟩
     go_wp2_with fail
     go_roundw
     case rel => exact ⟨k + 1, s9, fi9, _, R4, by go_num, by omega, HSt9, HSp7⟩
     case measure => simp [intOf]; omega
   ·have hd : decide (k < K) = false := decide_eq_false hlt
    rw [hd]
    obtain rfl : k = K := by omega
    clear hlt hd
    obtain ⟨av, cv, hv8, _⟩ := HSp.out.o.form
    subst hv8
    obtain ⟨D, e1, e2, e3, e4, e5, e6, e7⟩ := HSt.out.count hK8
    have HE2 := Lib.hid e2
    have HE4 := Lib.hid (show s.np = 60 ∧ s.us.length = D from ⟨e3, e4⟩)
    have HFl := Lib.hid (file_calls 64 av l.length cv l wc (HSp.out.o.arr (by omega)) e7 (by omega))
    rw [e1] at HFl
    clear e1 e2 e3 e4 e6 e7
    go_wp2_with fail
    refine HFl.out.mono ?_
    rintro e W4 ⟨rfl, hb4⟩
    have HSp4 := Lib.hid (HSp.out.on hb4)
    clear hb4 HFl
    have HTk := Lib.hid (nodTakes_calls HSp4.out.p HSt.out.wf)
    rw [HE2.out] at HTk
    unfold nfV nfC at HTk
    obtain ⟨y0, y1, y2, y3, y4, y5, y6, y7, y8, y9, y10⟩ := nf_cells HSp4.out.i
    go_wp2_with fail
    refine HTk.out.mono ?_
    rintro e W5 ⟨rfl, hp5, hk5⟩
    have HSp5 := Lib.hid (HSp4.out.ask hp5 hk5)
    clear hp5 hk5 y0 y1 y2 y3 y4 y5 y6 y7 y8 y9 y10
    go_wp2_with fail
    have HRm := Lib.hid (polRoom_calls HSp5.out.p)
    rw [HE4.out.1, HE4.out.2] at HRm
    refine HRm.out.mono ?_
    rintro e W6 ⟨rfl, hb6⟩
    have HSp6 := Lib.hid (HSp5.out.on hb6)
    clear hb6 HRm HTk
    have q1 := IntWalk.i64_in ((60 : Int) - (D : Int)) ⟨by omega, by omega⟩
    go_wp2_with fail
    clear q1 HSp5 HSp4
    go_loopw [14, 15, 16, 17, 18] (fun v14 _ _ _ _ wr => ∃ (n : Nat) (R : Nat → Prop), v14 = .int .i64 (n : Int) ∧ n ≤ k ∧ Hid (SpW w B I Z f s fi (.slice av l.length cv) l R wr)) (fun v14 _ _ _ _ _ => k - (intOf v14).toNat)
    case atStart => exact ⟨0, _, rfl, Nat.zero_le _, HSp6⟩
    case round =>
     obtain ⟨n, R5, rfl, hn, HSp7⟩ := hrel
     clear HSp6
     go_upto_region 19 with fail
     go_cut [103] from 96 to 149 (fun v wx => v = .bool (decide (n < k)) ∧ wx = wr)
     case first =>
      by_cases h1 : n < n0
      ·have q1 : (n : Int) < (n0 : Int) := by omega
       by_cases h2 : n < 8
       ·have q2 : (n : Int) < 8 := by omega
        go_wp2_with fail
        go_meet
        case rel => exact ⟨by rw [decide_eq_true (show n < k by have := HK.out; omega)], rfl⟩
       ·have q2 : ¬ (n : Int) < 8 := by omega
        go_wp2_with fail
        go_meet
        case rel => exact ⟨by rw [decide_eq_false (show ¬ n < k by omega)], rfl⟩
      ·have q1 : ¬ (n : Int) < (n0 : Int) := by omega
       go_wp2_with fail
       go_meet
       case rel => exact ⟨by rw [decide_eq_false (show ¬ n < k by omega)], rfl⟩
     case rest =>
      obtain ⟨rfl, rfl⟩ := hcut
      by_cases hlt : n < k
      ·have hd : decide (n < k) = true := decide_eq_true hlt
       rw [hd]
       obtain ⟨b, o, rfl, hbl, _⟩ := HCe.out n (by omega)
       have HCel := Lib.hid (show ∀ j, j < n0 → ∀ W, Below w.heap.size w W → W.cell? ⟨b, o + j, none⟩ = some (.int .u16 ((x0.getD j 0 : Nat) : Int)) from fun j hj W hW => by
        obtain ⟨b2, o2, e, hbl2, hce2⟩ := HCe.out j hj
        injection e with e
        injection e with e1 e2
        subst e1 e2
        exact (hW.cell (p := ⟨b, o + j, none⟩) hbl2).trans hce2)
       clear hbl hd
       go_wp2_with fail
       go_loopw [15, 16] (fun v15 v16 wr => ∃ (m last : Nat), v15 = .int .i64 (last : Int) ∧ v16 = .int .i64 (m : Int) ∧ n ≤ m ∧ m ≤ k ∧ Hid (Sps.La x0 n m last) ∧ Hid (SpW w B I Z f s fi (.slice av l.length cv) l R5 wr)) (fun _ v16 _ => k - (intOf v16).toNat)
       case atStart => exact ⟨n, n, rfl, rfl, Nat.le_refl _, hn, Lib.hid (Sps.La.start (by omega)), HSp7⟩
       case round =>
        obtain ⟨m, last, rfl, rfl, hnm, hm, HLa, HSp8⟩ := hrel
        clear HSp7
        go_upto_region 23 with fail
        go_cut [115] from 108 to 127 (fun v wx => v = .bool (decide (m < k)) ∧ wx = wr)
        case first =>
         by_cases h1 : m < n0
         ·have q1 : (m : Int) < (n0 : Int) := by omega
          by_cases h2 : m < 8
          ·have q2 : (m : Int) < 8 := by omega
           go_wp2_with fail
           go_meet
           case rel => exact ⟨by rw [decide_eq_true (show m < k by have := HK.out; omega)], rfl⟩
          ·have q2 : ¬ (m : Int) < 8 := by omega
           go_wp2_with fail
           go_meet
           case rel => exact ⟨by rw [decide_eq_false (show ¬ m < k by omega)], rfl⟩
         ·have q1 : ¬ (m : Int) < (n0 : Int) := by omega
          go_wp2_with fail
          go_meet
          case rel => exact ⟨by rw [decide_eq_false (show ¬ m < k by omega)], rfl⟩
        case rest =>
         obtain ⟨rfl, rfl⟩ := hcut
         by_cases hlt3 : m < k
         ·have hd : decide (m < k) = true := decide_eq_true hlt3
          rw [hd]
          go_upto_region 25 with fail
          obtain ⟨xm, hxm⟩ : ∃ x, x = x0.getD m 0 := ⟨_, rfl⟩
          obtain ⟨xn, hxn⟩ : ∃ x, x = x0.getD n 0 := ⟨_, rfl⟩
          have HCm := Lib.hid (fun W (h : Below w.heap.size w W) => HCel.out m (by omega) W h)
          have HCn := Lib.hid (fun W (h : Below w.heap.size w W) => HCel.out n (by omega) W h)
          rw [← hxm] at HCm
          rw [← hxn] at HCn
          have HXm := Lib.hid hxm
          have HXn := Lib.hid hxn
          have HSp9 := Lib.hid (HSp8.out.on (below_drew wc))
          have z0 : (0 : Int) ≤ (m : Int) := by omega
          have z1 : (m : Int) < (n0 : Int) := by omega
          have z2 : (0 : Int) ≤ (n : Int) := by omega
          have z3 : (n : Int) < (n0 : Int) := by omega
          have q9 := IntWalk.i64_in ((m : Int) + 1) ⟨by omega, by omega⟩
          clear hd hxm hxn
          refine wp_region_noPanic ?_
          refine wp_region_held_drew (S := (fun W' => Below w.heap.size w W')) (by kernel_rfl) HSp9.out.bel (fun hS0 => ?_)
          generalize wc.drew = W7 at *
          refine takeV 0 (v := (.slice (some ⟨b, o, none⟩) n0 c0)) rfl (by kernel_rfl) (by kernel_rfl) (by kernel_rfl) (fun _ _ _ h => h) (by rfl) (fun _ _ => rfl) (by assumption) ?_
          try simp only [layR]
          refine takeV 1 (v := (.int .i64 (m : Int))) rfl (by kernel_rfl) (by kernel_rfl) (by kernel_rfl) (fun _ _ _ h => h) (by rfl) (fun _ _ => rfl) (by assumption) ?_
          try simp only [layR]
          refine takeV 2 (v := (.pointer (some ⟨b, o + m, none⟩))) rfl (by kernel_rfl) (by kernel_rfl) (by kernel_rfl) (fun _ _ _ h => h) (by rfl) (fun W hSw => ?_) (by assumption) ?_
          ·skip
           go_simp
          try simp only [layR]
          refine takeV 3 (v := (.int .u16 (xm : Int))) rfl (by kernel_rfl) (by kernel_rfl) (by kernel_rfl) (fun _ _ _ h => h) (by rfl) (fun W hSw => ?_) (by assumption) ?_
          ·have y0 := HCm.out _ hSw
           go_simp
          try simp only [layR]
          refine takeV 4 (v := (.slice (some ⟨b, o, none⟩) n0 c0)) rfl (by kernel_rfl) (by kernel_rfl) (by kernel_rfl) (fun _ _ _ h => h) (by rfl) (fun _ _ => rfl) (by assumption) ?_
          try simp only [layR]
          refine takeV 5 (v := (.int .i64 (n : Int))) rfl (by kernel_rfl) (by kernel_rfl) (by kernel_rfl) (fun _ _ _ h => h) (by rfl) (fun _ _ => rfl) (by assumption) ?_
          try simp only [layR]
          refine takeV 6 (v := (.pointer (some ⟨b, o + n, none⟩))) rfl (by kernel_rfl) (by kernel_rfl) (by kernel_rfl) (fun _ _ _ h => h) (by rfl) (fun W hSw => ?_) (by assumption) ?_
          ·skip
           go_simp
          try simp only [layR]
          refine takeV 7 (v := (.int .u16 (xn : Int))) rfl (by kernel_rfl) (by kernel_rfl) (by kernel_rfl) (fun _ _ _ h => h) (by rfl) (fun W hSw => ?_) (by assumption) ?_
          ·have y0 := HCn.out _ hSw
           go_simp
          try simp only [layR]
          by_cases he : xm = xn
          ·have q1 : ((xm : Int) == (xn : Int)) = true := by rw [beq_iff_eq]; omega
           refine takeV 8 (v := (.bool true)) rfl (by kernel_rfl) (by kernel_rfl) (by kernel_rfl) (fun _ _ _ h => h) (by rfl) (fun W hSw => ?_) (by assumption) ?_
           ·skip
            go_simp
           try simp only
           refine wpAnyH_done (by kernel_rfl) ?_ _
           refine NoPanic.normal ?_
           have HLa2 := Lib.hid (HLa.out.same (by omega) (by omega) (by rw [← HXm.out, ← HXn.out]; exact he))
           clear hS0 z0 z1 z2 z3 he q1
           go_wp2_with fail
           go_roundw
           case rel => exact ⟨m + 1, m, rfl, by go_num, by omega, by omega, HLa2, HSp9⟩
           case measure => simp [intOf]; omega
          ·have q1 : ((xm : Int) == (xn : Int)) = false := by rw [beq_eq_false_iff_ne]; omega
           refine takeV 8 (v := (.bool false)) rfl (by kernel_rfl) (by kernel_rfl) (by kernel_rfl) (fun _ _ _ h => h) (by rfl) (fun W hSw => ?_) (by assumption) ?_
           ·skip
            go_simp
           try simp only
           refine wpAnyH_done (by kernel_rfl) ?_ _
           refine NoPanic.normal ?_
           have HLa2 := Lib.hid (HLa.out.other (by omega) (by rw [← HXm.out, ← HXn.out]; exact he))
           clear hS0 z0 z1 z2 z3 he q1
           go_wp2_with fail
           go_roundw
           case rel => exact ⟨m + 1, last, rfl, by go_num, by omega, by omega, HLa2, HSp9⟩
           case measure => simp [intOf]; omega
         ·have hd : decide (m < k) = false := decide_eq_false hlt3
          rw [hd]
          obtain rfl : m = k := by omega
          go_upto_region 27 with fail
          obtain ⟨xn, hxn⟩ : ∃ x, x = x0.getD n 0 := ⟨_, rfl⟩
          obtain ⟨vb, hvb⟩ : ∃ x, x = UInt8.ofNat (last + 1) := ⟨_, rfl⟩
          have HCn := Lib.hid (fun W (h : Below w.heap.size w W) => HCel.out n (by omega) W h)
          rw [← hxn] at HCn
          have HX6 := Lib.hid (HOf.out n (by omega))
          rw [← hxn] at HX6
          have hx6 := HX6.out
          have HLast := Lib.hid HLa.out.1
          have hl8 := HLa.out.1
          have HVb := Lib.hid (show #[.int .u8 ((last : Int) + 1)] = ([vb].map byteV).toArray from by
           rw [hvb, List.map_cons, List.map_nil, ← byte_low (last + 1) (by omega)]
           rfl)
          have HSp9 := Lib.hid (HSp8.out.on (below_drew wc))
          have HRd := Lib.hid (show ∀ W, SpW w B I Z f s fi (.slice av l.length cv) l R5 W → Calls Tryz.prog 12 #[.pointer (some ⟨Z, 0, none⟩), .agg (nfC fi), .int .i64 (xn : Int), .int .i64 1] W (NodGot 16 B R5 Z f s [vb] W) from fun W hW => by
           obtain ⟨z, hz1, hz2, hz3⟩ := HSt.out.read (n := n) (by omega)
           have h := nodRead_calls (n := 1) (off := xn) hW.p HSt.out.wf (by omega) hz1 hz2 (by omega)
           rw [hxn, hz3, HLa.out.2.2 (by omega), ← hvb] at h
           rw [hxn]
           exact h)
          have z2 : (0 : Int) ≤ (n : Int) := by omega
          have z3 : (n : Int) < (n0 : Int) := by omega
          clear hd hxn hvb
          refine wp_region_noPanic ?_
          refine wp_region_held_drew (S := (fun W' => Blk W' I 35 (nfC fi) ∧ Below w.heap.size w W')) (by kernel_rfl) ⟨HSp9.out.i, HSp9.out.bel⟩ (fun hS0 => ?_)
          generalize wc.drew = W7 at *
          refine takeV 0 (v := (.pointer (some ⟨Z, 0, none⟩))) rfl (by kernel_rfl) (by kernel_rfl) (by kernel_rfl) (fun _ _ _ h => h) (by rfl) (fun _ _ => rfl) (by assumption) ?_
          try simp only [layR]
          refine takeV 1 (v := (.agg (nfC fi))) rfl (by kernel_rfl) (by kernel_rfl) (by kernel_rfl) (fun _ _ _ h => h) (by rfl) (fun W hSw => ?_) (by assumption) ?_
          ·obtain ⟨y0, y1, y2, y3, y4, y5, y6, y7, y8, y9, y10⟩ := nf_cells hSw.1; unfold nfC
           go_simp
          try simp only [layR]
          refine takeV 2 (v := (.slice (some ⟨b, o, none⟩) n0 c0)) rfl (by kernel_rfl) (by kernel_rfl) (by kernel_rfl) (fun _ _ _ h => h) (by rfl) (fun _ _ => rfl) (by assumption) ?_
          try simp only [layR]
          refine takeV 3 (v := (.int .i64 (n : Int))) rfl (by kernel_rfl) (by kernel_rfl) (by kernel_rfl) (fun _ _ _ h => h) (by rfl) (fun _ _ => rfl) (by assumption) ?_
          try simp only [layR]
          refine takeV 4 (v := (.pointer (some ⟨b, o + n, none⟩))) rfl (by kernel_rfl) (by kernel_rfl) (by kernel_rfl) (fun _ _ _ h => h) (by rfl) (fun W hSw => ?_) (by assumption) ?_
          ·skip
           go_simp
          try simp only [layR]
          refine takeV 5 (v := (.int .u16 (xn : Int))) rfl (by kernel_rfl) (by kernel_rfl) (by kernel_rfl) (fun _ _ _ h => h) (by rfl) (fun W hSw => ?_) (by assumption) ?_
          ·have y0 := HCn.out _ hSw.2
           go_simp
          try simp only [layR]
          refine takeV 6 (v := (.int .i64 (xn : Int))) rfl (by kernel_rfl) (by kernel_rfl) (by kernel_rfl) (fun _ _ _ h => h) (by rfl) (fun W hSw => ?_) (by assumption) ?_
          ·have y0 := IntWalk.i64_in (xn : Int) ⟨by omega, by omega⟩
           go_simp
          try simp only [layR]
          refine wpAnyH_ready (rs := [7]) (by kernel_rfl) (by simp) ?_
          refine AllReadyH.cons rfl (fun K' hK => ?_) AllReadyH.nil
          go_simp
          refine (HRd.out W7 HSp9.out).mono ?_
          rintro e W8 ⟨⟨v8, rfl, ho8⟩, hp8, hk8⟩
          obtain ⟨a8, c8, rfl, _⟩ := ho8.formN rfl
          have HO8 := Lib.hid (ho8.arr (by simp))
          have HSpA := Lib.hid (HSp9.out.ask hp8 hk8)
          clear ho8 hp8 hk8
          refine hK.out _ _ (⟨HSpA.out.i, HSpA.out.bel⟩) (fun hS9 => ?_)
          try simp only [layR]
          refine takeV 8 (v := (.tuple #[.slice a8 1 c8, .int .i64 0])) rfl (by kernel_rfl) (by kernel_rfl) (by kernel_rfl) (fun _ _ _ h => h) (by rfl) (fun _ _ => rfl) (by assumption) ?_
          try simp only [layR]
          refine takeV 9 (v := (.slice a8 1 c8)) rfl (by kernel_rfl) (by kernel_rfl) (by kernel_rfl) (fun _ _ _ h => h) (by rfl) (fun _ _ => rfl) (by assumption) ?_
          try simp only [layR]
          refine takeV 10 (v := (.int .i64 0)) rfl (by kernel_rfl) (by kernel_rfl) (by kernel_rfl) (fun _ _ _ h => h) (by rfl) (fun _ _ => rfl) (by assumption) ?_
          try simp only [layR]
          refine takeV 11 (v := (.slice a8 1 c8)) rfl (by kernel_rfl) (by kernel_rfl) (by kernel_rfl) (fun _ _ _ h => h) (by rfl) (fun _ _ => rfl) (by assumption) ?_
          try simp only [layR]
          refine takeV 12 (v := (.int .i64 0)) rfl (by kernel_rfl) (by kernel_rfl) (by kernel_rfl) (fun _ _ _ h => h) (by rfl) (fun _ _ => rfl) (by assumption) ?_
          try simp only [layR]
          refine wpAnyH_done (by kernel_rfl) ?_ _
          refine NoPanic.normal ?_
          clear hS0 hS9 z2 z3
          have q1 := IntWalk.u8_in (last : Int) ⟨by omega, by omega⟩
          have q2 := IntWalk.u8_in ((last : Int) + 1) ⟨by omega, by omega⟩
          have q9 := IntWalk.i64_in ((n : Int) + 1) ⟨by omega, by omega⟩
          go_wp2_with fail
          have hba := (Below.refl W8.heap.size W8).alloc (Nat.le_refl _) (.cells #[.int .u8 ((last : Int) + 1)] 5)
          have HSpB := Lib.hid (HSpA.out.on hba)
          have HOb := Lib.hid (HO8.out.on hba)
          clear hba
          refine (same_yes a8 (some ⟨W8.heap.size, 0, none⟩) 1 c8 1 1 [vb] _ HOb.out (lit_at W8 rfl HVb.out)).mono ?_
          rintro e w_ ⟨rfl, rfl⟩
          go_wp2_with fail
          go_roundw
          case rel => exact ⟨n + 1, R5, by go_num, by omega, HSpB⟩
          case measure => simp [intOf]; omega
      ·have hd : decide (n < k) = false := decide_eq_false hlt
       rw [hd]
       go_wp2_with fail
       refine (awake_calls _).mono ?_
       rintro e W9 ⟨rfl, hb9⟩
       have HB9 := Lib.hid (HSp7.out.bel.then_ hb9)
       clear hb9
       go_wp2
       go_ret
       exact ⟨rfl, HB9.out⟩
end Go.Proofs.YtcppkaphlcflgaaGreat
