import Derived.Test.YtcppkaphlcflgaaGreatNodPoint
namespace Go.Proofs.YtcppkaphlcflgaaGreat
open Lib (hid)
set_option maxRecDepth 100000
set_option maxHeartbeats 16000000
open Go.RowKit Pol Nod
variable {NB B P : Nat} {Q : Nat → Prop} {w w' : World} {f : Fm} {s : Ps}

section
variable {F : Nat} {fi : Nf}
theorem NfM.setD (h : NfM w F P fi) {n : Nat} (hn : n < 6) (tt : Nat) : NfM (w.setCell ⟨F, 4 + n, none⟩ (.int .i64 (tt : Int))) F P { fi with io := { fi.io with d := fi.io.d.set n tt } } := by
 refine ⟨?_, by show (fi.io.d.set n tt).length = 6; rw [List.length_set]; exact h.dl⟩
 have hb := h.blk.set (4 + n) (.int .i64 (tt : Int))
 have e : (nfL P fi).toArray.setIfInBounds (4 + n) (.int .i64 (tt : Int)) = (nfL P { fi with io := { fi.io with d := fi.io.d.set n tt } }).toArray := by
  rw [List.setIfInBounds_toArray]
  congr 1
  have hd := h.dl
  unfold nfL
  rw [List.set_append_left _ _ (by simp [hd]; omega), List.set_append_right _ _ (by simp)]
  simp only [List.length_cons, List.length_nil, Nat.zero_add, Nat.reduceAdd, Nat.add_sub_cancel_left]
  rw [List.map_set]
  rfl
 rw [e] at hb
 exact hb
theorem NfM.setS (h : NfM w F P fi) (tt : Nat) : NfM (w.setCell ⟨F, 10, none⟩ (.int .i64 (tt : Int))) F P { fi with io := { fi.io with s := tt } } := by
 refine ⟨?_, h.dl⟩
 have hb := h.blk.set 10 (.int .i64 (tt : Int))
 have e : (nfL P fi).toArray.setIfInBounds 10 (.int .i64 (tt : Int)) = (nfL P { fi with io := { fi.io with s := tt } }).toArray := by
  rw [List.setIfInBounds_toArray]
  congr 1
  have hd := h.dl
  unfold nfL
  rw [List.set_append_right _ _ (by simp [hd])]
  simp [hd, Pol.iV]
 rw [e] at hb
 exact hb
theorem NfM.setB (h : NfM w F P fi) (tt : Nat) : NfM (w.setCell ⟨F, 11, none⟩ (.int .i64 (tt : Int))) F P { fi with io := { fi.io with b := tt } } := by
 refine ⟨?_, h.dl⟩
 have hb := h.blk.set 11 (.int .i64 (tt : Int))
 have e : (nfL P fi).toArray.setIfInBounds 11 (.int .i64 (tt : Int)) = (nfL P { fi with io := { fi.io with b := tt } }).toArray := by
  rw [List.setIfInBounds_toArray]
  congr 1
  have hd := h.dl
  unfold nfL
  rw [List.set_append_right _ _ (by simp [hd])]
  simp [hd, Pol.iV]
 rw [e] at hb
 exact hb
end
def NodSet (NB B : Nat) (Q : Nat → Prop) (F P : Nat) (f : Fm) (s : Ps) (fi : Nf) (io : Spr.Io) (w : World) (e : Ending) (w' : World) : Prop :=
 (∃ v, e = .returned v) ∧ PlM NB B (Up Q w w') w' P f s ∧ NfM w' F P { fi with io := io } ∧ Kq (fun q => Q q ∨ q = F) w w'
theorem nodSet_end {w2 w3 w4 : World} {F : Nat} {fi : Nf} {io : Spr.Io} {s' : Ps} (h : PlM NB B Q w P f s) (hb : Below w.heap.size w w2) (h3 : PlR NB B Q w2 w3 P f s') (hk : Kq (fun q => q = F) w3 w4) (hF : ¬ Q F) (hl : F < w2.heap.size) (hN : NfM w4 F P { fi with io := io }) : NodSet NB B Q F P f s' fi io w (.returned (.tuple #[])) w4 := by
 have h4 := PlR.from_ hb h3 h.base
 have hs := h4.size
 have hsk := hk.size
 have hb2 := hb.size
 refine ⟨⟨_, rfl⟩, (h3.1.kq hk fun q hq e => h3.far hF hl (e ▸ hq)).more (fun q hq => ?_) fun q hq => ?_, hN, (h4.2.mono fun q h => .inl h).trans (hk.mono fun q e => .inr e)⟩
 ·rcases hq with h | h
  ·exact .inl h
  ·exact .inr ⟨by omega, by omega⟩
 ·rcases hq with h5 | h5
  ·have := h.bnd q h5; omega
  ·have := h.base; omega
theorem pointS_np (s : Ps) (p k tt : Nat) : (pointS s p k tt).1.np = s.np := by
 have h := pointS_eq (s := s) (p := p) (k := k) (tt := tt) rfl rfl
 rw [h]
 by_cases h0 : p = 0
 ·simp only [h0, if_true]
  split <;> rfl
 ·simp only [h0, if_false]
  split <;> rfl
theorem nodSet0_calls {fi : Nf} {F tt : Nat} (h : PlM NB B Q w P f s) (hN : NfM w F P fi) (hF : ¬ Q F) {n : Nat} (hn : n < 6) :
  Calls Tryz.prog 35 #[.pointer (some ⟨F, 0, none⟩), .int .i64 (n : Int), .int .i64 (tt : Int)] w (NodSet NB B Q F P f (setS s fi.io n tt).1 fi (setS s fi.io n tt).2 w) := by
 have hS := hid (polSize_calls h)
 have he := way64 (n := n) (by omega)
 obtain ⟨a, b, c⟩ : Ino.wayA 64 (n : Int) = 0 ∧ Ino.wayB 64 (n : Int) = (n : Int) ∧ Ino.wayC 64 (n : Int) = 0 := by
  rcases Ino.way_forms he with ⟨a, b, c, _⟩ | ⟨_, _, _, d, _⟩ | ⟨_, _, _, d⟩
  ·exact ⟨a, b, c⟩
  ·omega
  ·omega
 have hT := hid (to_calls 64 (n : Int) w (by omega) (by omega))
 have HW := hid (show wayV 64 (n : Int) = .tuple #[.agg #[.int .i64 0, .int .i64 (n : Int), .int .i64 0], .int .i64 0] by unfold wayV; rw [a, b, c, he])
 have HSs := hid (show setS s fi.io n tt = (s, { fi.io with d := fi.io.d.set n tt }) from if_pos hn)
 have HN := hid hN
 have hp := hN.p
 have HPl := hid h
 have HFn := hid hF
 clear h hN he a b c hF
 go_enter Tryz.func35, Tryz.ntmps35
 go_wp2_with fail
 refine hS.out.mono ?_
 rintro e w_ ⟨rfl, rfl⟩
 go_wp2_with fail
 refine hT.out.mono ?_
 rintro e w1 ⟨rfl, hb1⟩
 rw [HW.out]
 have HB1 := hid hb1
 have HN1 := hid (HN.out.on hb1)
 clear hb1
 go_upto_region 3 with fail
 have hba := (Below.refl w1.heap.size w1).alloc (Nat.le_refl _) (.cells #[.int .i64 0, .int .i64 (n : Int), .int .i64 0] 93)
 have HB2 := hid (HB1.out.then_ hba)
 have HQ := hid (Blk.new w1 93 #[.int .i64 0, .int .i64 (n : Int), .int .i64 0])
 have HN2 := hid (HN1.out.on hba)
 have HZ := hid (show F < w1.heap.size ∧ w.heap.size ≤ w1.heap.size from ⟨HN1.out.lt, HB1.out.size⟩)
 have HP2 := hid ((HPl.out.on (HB1.out.then_ hba)).drew)
 clear hp hba
 generalize w1.alloc (.cells #[.int .i64 0, .int .i64 (n : Int), .int .i64 0] 93) = W2 at *
 generalize w1.heap.size = Z at *
 have HBd := hid (HB2.out.then_ (below_drew W2))
 have HNd := hid (HN2.out.on (below_drew W2))
 have HZn := hid (HPl.out.not_new HZ.out.2)
 have g0 : (0 : Int) ≤ (n : Int) := by omega
 have g1 : (n : Int) < 6 := by omega
 refine wp_region_noPanic ?_
 refine wp_region_held_drew (S := (fun W' => Blk W' Z 93 #[.int .i64 0, .int .i64 (n : Int), .int .i64 0])) (by kernel_rfl) HQ.out.drew (fun hS0 => ?_)
 refine tk 0 ((.pointer (some ⟨F, 0, none⟩))) rfl (fun _ _ => rfl) ?_
 try simp only [layR]
 refine tk 1 ((.pointer (some ⟨Z, 1, none⟩))) rfl (fun W hSw => ?_) ?_
 ·skip
  go_simp
 try simp only [layR]
 refine tk 2 ((.int .i64 (n : Int))) rfl (fun W hSw => ?_) ?_
 ·have y9 := hSw.cellv (i := 1) rfl
  go_simp
 try simp only [layR]
 refine tk 3 ((.int .i64 (tt : Int))) rfl (fun _ _ => rfl) ?_
 try simp only [layR]
 refine tk 4 ((.pointer (some ⟨F, 0, none⟩))) rfl (fun W hSw => ?_) ?_
 ·skip
  go_simp
 try simp only [layR]
 refine tk 5 ((.pointer (some ⟨F, 1, none⟩))) rfl (fun W hSw => ?_) ?_
 ·skip
  go_simp
 try simp only [layR]
 refine tk 6 ((.pointer (some ⟨F, 4, none⟩))) rfl (fun W hSw => ?_) ?_
 ·skip
  go_simp
 try simp only [layR]
 refine tk 7 ((.pointer (some ⟨F, 4 + n, none⟩))) rfl (fun W hSw => ?_) ?_
 ·skip
  go_simp
 try simp only [layR]
 have s1 := HNd.out.d hn
 have s2 := HNd.out.blk.frozen (4 + n)
 have HN3 := hid (HNd.out.setD hn tt)
 have HKs := hid (show Kq (fun q => q = F) W2.drew (W2.drew.setCell ⟨F, 4 + n, none⟩ (.int .i64 (tt : Int))) from Kq.one ⟨F, 4 + n, none⟩ _)
 refine rd 8 rfl (fun K' hK => ?_)
 go_simp
 refine hK.out _ _ (hS0.kq HKs.out (fun e => by have := HZ.out; omega)) (fun hS1 => ?_)
 try simp only [layR]
 refine wpAnyH_done (by kernel_rfl) ?_ _
 refine NoPanic.normal ?_
 clear hS0 hS1 s1 s2
 go_wp2
 go_end0
 rw [HSs.out]
 have hp3 := HP2.out.kq HKs.out fun q hq e => HFn.out (e ▸ hq)
 have hsz := HBd.out.size
 have hsk := HKs.out.size
 refine ⟨⟨_, rfl⟩, hp3.more (fun q hq => .inl hq) fun q hq => ?_, HN3.out, ((Kq.of HBd.out).mono fun q h => h).trans (HKs.out.mono fun q e => .inr e)⟩
 rcases hq with h | h
 ·have := HPl.out.bnd q h; exact ⟨this.1, Nat.lt_of_lt_of_le this.2 (Nat.le_trans hsz hsk)⟩
 ·have := HPl.out.base; exact ⟨by omega, h.2⟩
theorem nodSet1_calls {fi : Nf} {F tt : Nat} (h : PlM NB B Q w P f s) (hN : NfM w F P fi) (hF : ¬ Q F) {n : Nat} (hn6 : 6 ≤ n) (hn : n < 38) (hp0 : Gd s fi.io.s) (hal : fi.io.s = 0 → s.us.length < s.np) (ht : tt < 8192) :
  Calls Tryz.prog 35 #[.pointer (some ⟨F, 0, none⟩), .int .i64 (n : Int), .int .i64 (tt : Int)] w (NodSet NB B Q F P f (setS s fi.io n tt).1 fi (setS s fi.io n tt).2 w) := by
 have hS := hid (polSize_calls h)
 have he := way64 (n := n) (by omega)
 obtain ⟨a, b, c⟩ : Ino.wayA 64 (n : Int) = 1 ∧ Ino.wayB 64 (n : Int) = ((n - 6 : Nat) : Int) ∧ Ino.wayC 64 (n : Int) = 0 := by
  rcases Ino.way_forms he with ⟨_, _, _, d⟩ | ⟨a, b, c, d, _⟩ | ⟨_, _, _, d⟩
  ·omega
  ·exact ⟨a, by omega, c⟩
  ·omega
 have hT := hid (to_calls 64 (n : Int) w (by omega) (by omega))
 have HW := hid (show wayV 64 (n : Int) = .tuple #[.agg #[.int .i64 1, .int .i64 ((n - 6 : Nat) : Int), .int .i64 0], .int .i64 0] by unfold wayV; rw [a, b, c, he])
 have HSs := hid (show setS s fi.io n tt = ((pointS s fi.io.s (n - 6) tt).1, { fi.io with s := (pointS s fi.io.s (n - 6) tt).2 }) from (if_neg (by omega)).trans (if_pos hn))
 obtain ⟨m, hm⟩ : ∃ m, m = n - 6 := ⟨_, rfl⟩
 rw [← hm] at HW HSs
 have hm32 : m < 32 := by omega
 have HGd := hid hp0
 have HAl := hid hal
 clear hm hp0 hal
 have HN := hid hN
 have hp := hN.p
 have HPl := hid h
 have HFn := hid hF
 clear h hN he a b c hF
 go_enter Tryz.func35, Tryz.ntmps35
 go_wp2_with fail
 refine hS.out.mono ?_
 rintro e w_ ⟨rfl, rfl⟩
 go_wp2_with fail
 refine hT.out.mono ?_
 rintro e w1 ⟨rfl, hb1⟩
 rw [HW.out]
 have HB1 := hid hb1
 have HN1 := hid (HN.out.on hb1)
 clear hb1
 go_upto_region 5 with fail
 have hba := (Below.refl w1.heap.size w1).alloc (Nat.le_refl _) (.cells #[.int .i64 1, .int .i64 (m : Int), .int .i64 0] 93)
 have HB2 := hid (HB1.out.then_ hba)
 have HQ := hid (Blk.new w1 93 #[.int .i64 1, .int .i64 (m : Int), .int .i64 0])
 have HN2 := hid (HN1.out.on hba)
 have HZ := hid (show F < w1.heap.size ∧ w.heap.size ≤ w1.heap.size from ⟨HN1.out.lt, HB1.out.size⟩)
 have HP2 := hid ((HPl.out.on (HB1.out.then_ hba)).drew)
 clear hp hba
 generalize w1.alloc (.cells #[.int .i64 1, .int .i64 (m : Int), .int .i64 0] 93) = W2 at *
 generalize w1.heap.size = Z at *
 have HBd := hid (HB2.out.then_ (below_drew W2))
 have HNd := hid (HN2.out.on (below_drew W2))
 have HZn := hid (HPl.out.not_new HZ.out.2)
 refine wp_region_noPanic ?_
 refine wp_region_held_drew (S := (fun W' => Blk W' Z 93 #[.int .i64 1, .int .i64 (m : Int), .int .i64 0])) (by kernel_rfl) HQ.out.drew (fun hS0 => ?_)
 refine tk 0 ((.pointer (some ⟨F, 0, none⟩))) rfl (fun _ _ => rfl) ?_
 try simp only [layR]
 refine tk 1 ((.pointer (some ⟨F, 0, none⟩))) rfl (fun _ _ => rfl) ?_
 try simp only [layR]
 refine tk 2 ((.pointer (some ⟨F, 0, none⟩))) rfl (fun _ _ => rfl) ?_
 try simp only [layR]
 refine tk 3 ((.pointer (some ⟨F, 0, none⟩))) rfl (fun W hSw => ?_) ?_
 ·skip
  go_simp
 try simp only [layR]
 refine tk 4 ((.pointer (some ⟨F, 1, none⟩))) rfl (fun W hSw => ?_) ?_
 ·skip
  go_simp
 try simp only [layR]
 refine tk 5 ((.pointer (some ⟨F, 10, none⟩))) rfl (fun W hSw => ?_) ?_
 ·skip
  go_simp
 try simp only [layR]
 refine tk 7 ((.pointer (some ⟨Z, 1, none⟩))) rfl (fun W hSw => ?_) ?_
 ·skip
  go_simp
 try simp only [layR]
 refine tk 8 ((.int .i64 (m : Int))) rfl (fun W hSw => ?_) ?_
 ·have y9 := hSw.cellv (i := 1) rfl
  go_simp
 try simp only [layR]
 refine tk 9 ((.int .i64 (tt : Int))) rfl (fun _ _ => rfl) ?_
 try simp only [layR]
 have s1 := HNd.out.s
 refine rd 6 rfl (fun K' hK => ?_)
 go_simp
 refine hK.out _ _ hS0 (fun hS1 => ?_)
 try simp only [layR]
 refine rd 10 rfl (fun K' hK => ?_)
 go_simp
 refine (nodPoint_calls HP2.out HNd.out.p HFn.out HNd.out.lt HGd.out HAl.out hm32 ht).mono ?_
 rintro e w3 ⟨rfl, hp3⟩
 have hk3 := hp3.2
 have HN3 := hid (HNd.out.kq hk3 HFn.out)
 have HQ3 := hid (hS0.kq hk3 HZn.out)
 have HP3 := hid hp3
 obtain ⟨r, hr⟩ : ∃ r, r = (pointS s fi.io.s m tt).2 := ⟨_, rfl⟩
 obtain ⟨s', hs'⟩ : ∃ s', s' = (pointS s fi.io.s m tt).1 := ⟨_, rfl⟩
 rw [← hr, ← hs'] at HSs
 rw [← hs'] at HP3
 rw [← hr]
 have HRr := hid hr
 clear hp3 hk3 hr hs'
 refine hK.out _ _ HQ3.out (fun hS2 => ?_)
 try simp only [layR]
 refine tk 11 ((.pointer (some ⟨F, 0, none⟩))) rfl (fun W hSw => ?_) ?_
 ·skip
  go_simp
 try simp only [layR]
 refine tk 12 ((.pointer (some ⟨F, 1, none⟩))) rfl (fun W hSw => ?_) ?_
 ·skip
  go_simp
 try simp only [layR]
 refine tk 13 ((.pointer (some ⟨F, 10, none⟩))) rfl (fun W hSw => ?_) ?_
 ·skip
  go_simp
 try simp only [layR]
 have s2 := HN3.out.s
 have s3 := HN3.out.blk.frozen 10
 have HN4 := hid (HN3.out.setS r)
 have HKs := hid (show Kq (fun q => q = F) w3 (w3.setCell ⟨F, 10, none⟩ (.int .i64 (r : Int))) from Kq.one ⟨F, 10, none⟩ _)
 refine rd 14 rfl (fun K' hK => ?_)
 go_simp
 refine hK.out _ _ (HQ3.out.kq HKs.out (fun e => by have := HZ.out; omega)) (fun hS3 => ?_)
 try simp only [layR]
 refine wpAnyH_done (by kernel_rfl) ?_ _
 refine NoPanic.normal ?_
 clear hS0 hS1 hS2 hS3 s1 s2 s3
 go_wp2
 go_end0
 rw [HSs.out]
 exact nodSet_end HPl.out HBd.out HP3.out HKs.out HFn.out HNd.out.lt HN4.out
theorem nodSet2_calls {fi : Nf} {F tt : Nat} (h : PlM NB B Q w P f s) (hN : NfM w F P fi) (hF : ¬ Q F) {n : Nat} (hn6 : 38 ≤ n) (hn : n < 1062) (hp0 : Gd s fi.io.b) (hp1 : Gd s (ptP s.g fi.io.b ((n - 38) / 32))) (hal : ptP s.g fi.io.b ((n - 38) / 32) = 0 → s.us.length < s.np) (ht : tt < 8192) (hp2 : Gd (pointS s (ptP s.g fi.io.b ((n - 38) / 32)) ((n - 38) % 32) tt).1 fi.io.b) (hal2 : fi.io.b = 0 → (pointS s (ptP s.g fi.io.b ((n - 38) / 32)) ((n - 38) % 32) tt).1.us.length < s.np) (ht2 : (pointS s (ptP s.g fi.io.b ((n - 38) / 32)) ((n - 38) % 32) tt).2 < 8192) :
  Calls Tryz.prog 35 #[.pointer (some ⟨F, 0, none⟩), .int .i64 (n : Int), .int .i64 (tt : Int)] w (NodSet NB B Q F P f (setS s fi.io n tt).1 fi (setS s fi.io n tt).2 w) := by
 have hS := hid (polSize_calls h)
 have he := way64 (n := n) (by omega)
 obtain ⟨a, b, c⟩ : Ino.wayA 64 (n : Int) = 2 ∧ Ino.wayB 64 (n : Int) = (((n - 38) / 32 : Nat) : Int) ∧ Ino.wayC 64 (n : Int) = (((n - 38) % 32 : Nat) : Int) := by
  rcases Ino.way_forms he with ⟨_, _, _, d⟩ | ⟨_, _, _, _, d⟩ | ⟨a, b, c, d⟩
  ·omega
  ·omega
  ·exact ⟨a, by omega, by omega⟩
 have hT := hid (to_calls 64 (n : Int) w (by omega) (by omega))
 have HW := hid (show wayV 64 (n : Int) = .tuple #[.agg #[.int .i64 2, .int .i64 (((n - 38) / 32 : Nat) : Int), .int .i64 (((n - 38) % 32 : Nat) : Int)], .int .i64 0] by unfold wayV; rw [a, b, c, he])
 have HSs := hid (show setS s fi.io n tt = ((pointS (pointS s (ptP s.g fi.io.b ((n - 38) / 32)) ((n - 38) % 32) tt).1 fi.io.b ((n - 38) / 32) (pointS s (ptP s.g fi.io.b ((n - 38) / 32)) ((n - 38) % 32) tt).2).1, { fi.io with b := (pointS (pointS s (ptP s.g fi.io.b ((n - 38) / 32)) ((n - 38) % 32) tt).1 fi.io.b ((n - 38) / 32) (pointS s (ptP s.g fi.io.b ((n - 38) / 32)) ((n - 38) % 32) tt).2).2 }) from (if_neg (by omega)).trans (if_neg (by omega)))
 obtain ⟨m, hm⟩ : ∃ m, m = (n - 38) / 32 := ⟨_, rfl⟩
 obtain ⟨j, hj⟩ : ∃ j, j = (n - 38) % 32 := ⟨_, rfl⟩
 have hm32 : m < 32 := by omega
 have hj32 : j < 32 := by omega
 rw [← hm, ← hj] at HW HSs hp2 hal2 ht2
 rw [← hm] at hp1 hal
 have HGd0 := hid hp0
 have HGd1 := hid hp1
 have HAl := hid hal
 have HNp := hid (show (pointS s (ptP s.g fi.io.b m) j tt).1.np = s.np from pointS_np ..)
 obtain ⟨s1', hs1'⟩ : ∃ x, x = (pointS s (ptP s.g fi.io.b m) j tt).1 := ⟨_, rfl⟩
 obtain ⟨r1, hr1⟩ : ∃ x, x = (pointS s (ptP s.g fi.io.b m) j tt).2 := ⟨_, rfl⟩
 rw [← hs1', ← hr1] at HSs
 rw [← hs1'] at hp2 hal2 HNp
 rw [← hr1] at ht2
 have HS1' := hid hs1'
 have HR1' := hid hr1
 have HGd2 := hid hp2
 have HAl2 := hid hal2
 have HT2 := hid ht2
 clear hm hj hp0 hp1 hal hp2 hal2 hs1' hr1 ht2
 have HN := hid hN
 have hp := hN.p
 have HPl := hid h
 have HFn := hid hF
 clear h hN he a b c hF
 go_enter Tryz.func35, Tryz.ntmps35
 go_wp2_with fail
 refine hS.out.mono ?_
 rintro e w_ ⟨rfl, rfl⟩
 go_wp2_with fail
 refine hT.out.mono ?_
 rintro e w1 ⟨rfl, hb1⟩
 rw [HW.out]
 have HB1 := hid hb1
 have HN1 := hid (HN.out.on hb1)
 clear hb1
 go_upto_region 7 with fail
 have hba := (Below.refl w1.heap.size w1).alloc (Nat.le_refl _) (.cells #[.int .i64 2, .int .i64 (m : Int), .int .i64 (j : Int)] 93)
 have HB2 := hid (HB1.out.then_ hba)
 have HQ := hid (Blk.new w1 93 #[.int .i64 2, .int .i64 (m : Int), .int .i64 (j : Int)])
 have HN2 := hid (HN1.out.on hba)
 have HZ := hid (show F < w1.heap.size ∧ w.heap.size ≤ w1.heap.size from ⟨HN1.out.lt, HB1.out.size⟩)
 have HP2 := hid ((HPl.out.on (HB1.out.then_ hba)).drew)
 clear hp hba
 generalize w1.alloc (.cells #[.int .i64 2, .int .i64 (m : Int), .int .i64 (j : Int)] 93) = W2 at *
 generalize w1.heap.size = Z at *
 have HBd := hid (HB2.out.then_ (below_drew W2))
 have HNd := hid (HN2.out.on (below_drew W2))
 have HZn := hid (HPl.out.not_new HZ.out.2)
 have HSS := hid (show ∀ W, Kq Q W2.drew W → Blk W Z 93 #[.int .i64 2, .int .i64 (m : Int), .int .i64 (j : Int)] ∧ W.cell? ⟨F, 11, none⟩ = some (.int .i64 (fi.io.b : Int)) from fun W hW => ⟨HQ.out.drew.kq hW HZn.out, (HNd.out.kq hW HFn.out).b⟩)
 refine wp_region_noPanic ?_
 refine wp_region_held_drew (S := (fun W' => Blk W' Z 93 #[.int .i64 2, .int .i64 (m : Int), .int .i64 (j : Int)] ∧ W'.cell? ⟨F, 11, none⟩ = some (.int .i64 (fi.io.b : Int)))) (by kernel_rfl) (HSS.out _ (Kq.refl _ _)) (fun hS0 => ?_)
 refine tk 0 ((.pointer (some ⟨F, 0, none⟩))) rfl (fun _ _ => rfl) ?_
 try simp only [layR]
 refine tk 1 ((.pointer (some ⟨F, 0, none⟩))) rfl (fun _ _ => rfl) ?_
 try simp only [layR]
 refine tk 2 ((.pointer (some ⟨F, 0, none⟩))) rfl (fun _ _ => rfl) ?_
 try simp only [layR]
 refine tk 3 ((.pointer (some ⟨F, 0, none⟩))) rfl (fun W hSw => ?_) ?_
 ·skip
  go_simp
 try simp only [layR]
 refine tk 4 ((.pointer (some ⟨F, 1, none⟩))) rfl (fun W hSw => ?_) ?_
 ·skip
  go_simp
 try simp only [layR]
 refine tk 5 ((.pointer (some ⟨F, 11, none⟩))) rfl (fun W hSw => ?_) ?_
 ·skip
  go_simp
 try simp only [layR]
 refine tk 6 ((.int .i64 (fi.io.b : Int))) rfl (fun W hSw => ?_) ?_
 ·have y9 := hSw.2
  go_simp
 try simp only [layR]
 refine tk 7 ((.pointer (some ⟨Z, 1, none⟩))) rfl (fun W hSw => ?_) ?_
 ·skip
  go_simp
 try simp only [layR]
 refine tk 8 ((.int .i64 (m : Int))) rfl (fun W hSw => ?_) ?_
 ·have y9 := hSw.1.cellv (i := 1) rfl
  go_simp
 try simp only [layR]
 refine tk 10 ((.pointer (some ⟨Z, 2, none⟩))) rfl (fun W hSw => ?_) ?_
 ·skip
  go_simp
 try simp only [layR]
 refine tk 11 ((.int .i64 (j : Int))) rfl (fun W hSw => ?_) ?_
 ·have y9 := hSw.1.cellv (i := 2) rfl
  go_simp
 try simp only [layR]
 refine tk 12 ((.int .i64 (tt : Int))) rfl (fun _ _ => rfl) ?_
 try simp only [layR]
 refine rd 9 rfl (fun K' hK => ?_)
 go_simp
 refine (nodPointer_calls HP2.out (F := F) (n := fi.io.b) (k := m) HNd.out.p HGd0.out hm32 (gd_lt HP2.out HGd1.out)).mono ?_
 rintro e w3 ⟨rfl, hp3, hk3⟩
 have HP3 := hid (PlM.same_ hp3 hk3 HP2.out.base)
 have HN3 := hid (HNd.out.kq hk3 HFn.out)
 have HK3 := hid hk3
 clear hp3 hk3
 refine hK.out _ _ (HSS.out w3 HK3.out) (fun hS1 => ?_)
 try simp only [layR]
 refine rd 13 rfl (fun K' hK => ?_)
 go_simp
 refine (nodPoint_calls HP3.out.1 HN3.out.p (HP3.out.far HFn.out HNd.out.lt) HN3.out.lt HGd1.out HAl.out hj32 ht).mono ?_
 rintro e w4 ⟨rfl, hp4⟩
 rw [← HS1'.out] at hp4
 rw [← HR1'.out]
 have HP4 := hid (HP3.out.then_ hp4)
 have HN4 := hid (HN3.out.kq hp4.2 (HP3.out.far HFn.out HNd.out.lt))
 clear hp4
 refine hK.out _ _ (HSS.out w4 HP4.out.2) (fun hS2 => ?_)
 try simp only [layR]
 refine tk 14 ((.int .i64 (r1 : Int))) rfl (fun _ _ => rfl) ?_
 try simp only [layR]
 refine wpAnyH_done (by kernel_rfl) ?_ _
 refine NoPanic.normal ?_
 clear hS0 hS1 hS2
 have HQ4 := hid (HSS.out w4 HP4.out.2).1
 go_upto_region 8 with fail
 have HN5 := hid (HN4.out.on (below_drew w4))
 have HPd := hid (HP4.out.on (below_drew w4) HP2.out.base)
 have HZ4 := hid (HPd.out.far HZn.out HQ.out.drew.lt)
 have HF4 := hid (HPd.out.far HFn.out HNd.out.lt)
 have HP5 := hid HPd.out.1
 refine wp_region_noPanic ?_
 refine wp_region_held_drew (S := (fun W' => Blk W' Z 93 #[.int .i64 2, .int .i64 (m : Int), .int .i64 (j : Int)])) (by kernel_rfl) HQ4.out.drew (fun hS0 => ?_)
 generalize w4.drew = w5 at *
 refine tk 0 ((.pointer (some ⟨F, 0, none⟩))) rfl (fun _ _ => rfl) ?_
 try simp only [layR]
 refine tk 1 ((.pointer (some ⟨F, 0, none⟩))) rfl (fun _ _ => rfl) ?_
 try simp only [layR]
 refine tk 2 ((.pointer (some ⟨F, 0, none⟩))) rfl (fun _ _ => rfl) ?_
 try simp only [layR]
 refine tk 3 ((.pointer (some ⟨F, 0, none⟩))) rfl (fun W hSw => ?_) ?_
 ·skip
  go_simp
 try simp only [layR]
 refine tk 4 ((.pointer (some ⟨F, 1, none⟩))) rfl (fun W hSw => ?_) ?_
 ·skip
  go_simp
 try simp only [layR]
 refine tk 5 ((.pointer (some ⟨F, 11, none⟩))) rfl (fun W hSw => ?_) ?_
 ·skip
  go_simp
 try simp only [layR]
 refine tk 7 ((.pointer (some ⟨Z, 1, none⟩))) rfl (fun W hSw => ?_) ?_
 ·skip
  go_simp
 try simp only [layR]
 refine tk 8 ((.int .i64 (m : Int))) rfl (fun W hSw => ?_) ?_
 ·have y9 := hSw.cellv (i := 1) rfl
  go_simp
 try simp only [layR]
 refine tk 9 ((.int .i64 (r1 : Int))) rfl (fun _ _ => rfl) ?_
 try simp only [layR]
 have s1 := HN5.out.b
 refine rd 6 rfl (fun K' hK => ?_)
 go_simp
 refine hK.out _ _ hS0 (fun hS1 => ?_)
 try simp only [layR]
 refine rd 10 rfl (fun K' hK => ?_)
 go_simp
 refine (nodPoint_calls HP5.out HN5.out.p HF4.out HN5.out.lt HGd2.out (fun h0 => by rw [HNp.out]; exact HAl2.out h0) hm32 HT2.out).mono ?_
 rintro e w6 ⟨rfl, hp6⟩
 have hk6 := hp6.2
 have HN6 := hid (HN5.out.kq hk6 HF4.out)
 have HQ6 := hid (hS0.kq hk6 HZ4.out)
 have HP6 := hid (HPd.out.then_ hp6)
 obtain ⟨r, hr⟩ : ∃ r, r = (pointS s1' fi.io.b m r1).2 := ⟨_, rfl⟩
 obtain ⟨s', hs'⟩ : ∃ s', s' = (pointS s1' fi.io.b m r1).1 := ⟨_, rfl⟩
 rw [← hr, ← hs'] at HSs
 rw [← hs'] at HP6
 rw [← hr]
 clear hp6 hk6 hr hs'
 refine hK.out _ _ HQ6.out (fun hS2 => ?_)
 try simp only [layR]
 refine tk 11 ((.pointer (some ⟨F, 0, none⟩))) rfl (fun W hSw => ?_) ?_
 ·skip
  go_simp
 try simp only [layR]
 refine tk 12 ((.pointer (some ⟨F, 1, none⟩))) rfl (fun W hSw => ?_) ?_
 ·skip
  go_simp
 try simp only [layR]
 refine tk 13 ((.pointer (some ⟨F, 11, none⟩))) rfl (fun W hSw => ?_) ?_
 ·skip
  go_simp
 try simp only [layR]
 have s2 := HN6.out.b
 have s3 := HN6.out.blk.frozen 11
 have HN7 := hid (HN6.out.setB r)
 have HKs := hid (show Kq (fun q => q = F) w6 (w6.setCell ⟨F, 11, none⟩ (.int .i64 (r : Int))) from Kq.one ⟨F, 11, none⟩ _)
 refine rd 14 rfl (fun K' hK => ?_)
 go_simp
 refine hK.out _ _ (HQ6.out.kq HKs.out (fun e => by have := HZ.out; omega)) (fun hS3 => ?_)
 try simp only [layR]
 refine wpAnyH_done (by kernel_rfl) ?_ _
 refine NoPanic.normal ?_
 clear hS0 hS1 hS2 hS3 s1 s2 s3
 go_wp2
 go_end0
 rw [HSs.out]
 exact nodSet_end HPl.out HBd.out HP6.out HKs.out HFn.out HNd.out.lt HN7.out
theorem nodSet_calls {fi : Nf} {F n tt : Nat} (h : PlM NB B Q w P f s) (hN : NfM w F P fi) (hF : ¬ Q F) (ho : SetOk s fi.io n tt) :
  Calls Tryz.prog 35 #[.pointer (some ⟨F, 0, none⟩), .int .i64 (n : Int), .int .i64 (tt : Int)] w (NodSet NB B Q F P f (setS s fi.io n tt).1 fi (setS s fi.io n tt).2 w) := by
 by_cases h6 : n < 6
 ·exact nodSet0_calls h hN hF h6
 ·by_cases h38 : n < 38
  ·obtain ⟨h1, h2⟩ := ho.one (by omega) h38
   exact nodSet1_calls h hN hF (by omega) h38 h1 h2 ho.ht
  ·obtain ⟨h1, h2, h3, h4, h5, h7⟩ := ho.two (by omega)
   exact nodSet2_calls h hN hF (by omega) ho.hn h1 h2 h3 ho.ht h4 h5 h7
end Go.Proofs.YtcppkaphlcflgaaGreat
