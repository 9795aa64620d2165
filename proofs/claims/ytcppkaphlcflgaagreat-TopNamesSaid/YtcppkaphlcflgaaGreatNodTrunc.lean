import Derived.Test.YtcppkaphlcflgaaGreatNodWrite
import Derived.Deep.DeepCutAuto
namespace Go.Proofs.YtcppkaphlcflgaaGreat
open Lib (hid)
set_option maxRecDepth 100000
set_option maxHeartbeats 16000000
open Go.RowKit Pol Nod
variable {NB B P : Nat} {Q : Nat → Prop} {w w' : World} {f : Fm} {s : Ps}

theorem nodTrunc_calls {fi : Nf} {z tt : Nat} {ns : List Nat} {rs : List Int} (h : PlM NB B Q w P f s) (hz : fi.s = (z : Int)) (ht : tt < 67968)
  (hns : (numsI (yl s.g fi.io)).reverse = (ns.map fun n : Nat => (n : Int)) ++ rs) (hk : ∀ n ∈ ns, (tt + 63) / 64 ≤ n) (hr : ∀ x, rs.head? = some x → x < (((tt + 63) / 64 : Nat) : Int)) (hok : TrOk ns s fi.io) :
  Calls Tryz.prog 57 #[.pointer (some ⟨P, 0, none⟩), nfV fi, .int .i64 (tt : Int)] w fun e w' => e = .returned (.tuple #[nfV (withS fi (tt : Int) (trL ns s fi.io).2), .int .i64 0]) ∧ PlR NB B Q w w' P f (trT (trL ns s fi.io).1 (trL ns s fi.io).2 z tt) := by
 have HH := hid h
 have HZ := hid hz
 have HW := hid hok.wf
 have HOk := hid hok
 have HNs := hid hns
 have HKe := hid hk
 have HRs := hid hr
 have HDl := hid hok.wf.dl
 have HLn := hid (Nat.le_trans (numsI_len (yl s.g fi.io)) (yl_len h.ok fi.io))
 have hln := HLn.out
 have hnl := congrArg List.length hns
 rw [List.length_reverse, List.length_append, List.length_map] at hnl
 obtain ⟨N, hN⟩ : ∃ N, N = (numsI (yl s.g fi.io)).length := ⟨_, rfl⟩
 rw [← hN] at hln hnl
 have HNl := hid hnl
 have HN := hid hN
 unfold nfV nfC
 have g0 : ¬ (tt : Int) < 0 := by omega
 have g3 : ¬ (67968 : Int) < (tt : Int) := by omega
 have g6 := IntWalk.i64_in (64 : Int) ⟨by omega, by omega⟩
 have g7 := IntWalk.i64_in ((tt : Int) + 64) ⟨by omega, by omega⟩
 have g8 := IntWalk.i64_in ((tt : Int) + 64 - 1) ⟨by omega, by omega⟩
 have g9 : IntKind.i64.wrap (Int.tdiv ((tt : Int) + 64 - 1) 64) = ((tt : Int) + 64 - 1) / 64 := by
  rw [Int.tdiv_eq_ediv_of_nonneg (by omega)]
  exact IntWalk.i64_in (((tt : Int) + 64 - 1) / 64) ⟨by omega, by omega⟩
 have HMs := hid (show Ino.most 64 = 67968 from by decide)
 clear h hz hns hk hr hok hN hnl
 go_enter Tryz.func57, Tryz.ntmps57
 have hb2 : Below w.heap.size w ((w.alloc (.cells (nfC fi) 35)).alloc (.cells #[.int .i64 0, .int .i64 0, .int .i64 0, .int .i64 0, .int .i64 0, .int .i64 0, .int .i64 0, .int .i64 0, .int .i64 0, .int .i64 0, .int .i64 0] 35)) := ((Below.refl _ w).alloc (Nat.le_refl _) _).alloc (by simp) _
 have hz0 := (Blk.new w 35 (nfC fi)).alloc (.cells #[.int .i64 0, .int .i64 0, .int .i64 0, .int .i64 0, .int .i64 0, .int .i64 0, .int .i64 0, .int .i64 0, .int .i64 0, .int .i64 0, .int .i64 0] 35)
 have hz1 := Blk.new (w.alloc (.cells (nfC fi) 35)) 35 #[.int .i64 0, .int .i64 0, .int .i64 0, .int .i64 0, .int .i64 0, .int .i64 0, .int .i64 0, .int .i64 0, .int .i64 0, .int .i64 0, .int .i64 0]
 have hs2 : ((w.alloc (.cells (nfC fi) 35)).alloc (.cells #[.int .i64 0, .int .i64 0, .int .i64 0, .int .i64 0, .int .i64 0, .int .i64 0, .int .i64 0, .int .i64 0, .int .i64 0, .int .i64 0, .int .i64 0] 35)).heap.size = w.heap.size + 2 := by simp
 simp only [World.size_alloc] at hz1
 unfold nfC at hb2 hz0 hz1 hs2
 have HB2 := hid hb2
 have HZ0 := hid hz0
 have HZ1 := hid hz1
 have HS2 := hid hs2
 clear hb2 hz0 hz1 hs2
 go_wp2_with fail
 generalize (w.alloc (.cells #[.int .i64 fi.k, .int .i64 fi.l, .int .i64 fi.s, .int .i64 (nd fi 0), .int .i64 (nd fi 1), .int .i64 (nd fi 2), .int .i64 (nd fi 3), .int .i64 (nd fi 4), .int .i64 (nd fi 5), .int .i64 (fi.io.s : Int), .int .i64 (fi.io.b : Int)] 35)).alloc (.cells #[.int .i64 0, .int .i64 0, .int .i64 0, .int .i64 0, .int .i64 0, .int .i64 0, .int .i64 0, .int .i64 0, .int .i64 0, .int .i64 0, .int .i64 0] 35) = w2 at *
 have HP2 := hid (HH.out.on HB2.out)
 refine (polSize_calls HP2.out).mono ?_
 rintro e w_ ⟨rfl, rfl⟩
 go_wp2_with fail
 refine (most_calls 64 w2).mono ?_
 rintro e w_ ⟨rfl, rfl⟩
 rw [HMs.out]
 have y0 := HZ0.out.cellv (i := 0) rfl
 have y1 := HZ0.out.cellv (i := 1) rfl
 have y2 := HZ0.out.cellv (i := 2) rfl
 have y3 := HZ0.out.cellv (i := 3) rfl
 have y4 := HZ0.out.cellv (i := 4) rfl
 have y5 := HZ0.out.cellv (i := 5) rfl
 have y6 := HZ0.out.cellv (i := 6) rfl
 have y7 := HZ0.out.cellv (i := 7) rfl
 have y8 := HZ0.out.cellv (i := 8) rfl
 have y9 := HZ0.out.cellv (i := 9) rfl
 have y10 := HZ0.out.cellv (i := 10) rfl
 have HZn := hid (show ∀ k, w.heap.size ≤ k → ¬ Q k from fun k hk => HH.out.not_new hk)
 go_upto_region 8 with fail
 obtain ⟨w3, hw3⟩ : ∃ w3, w3 = w2.alloc (.cells (nfA P fi) 82) := ⟨_, rfl⟩
 have hb3 : Below w2.heap.size w2 w3 := by rw [hw3]; exact (Below.refl _ w2).alloc (Nat.le_refl _) _
 have hn3 : NfM w3 w2.heap.size P fi := by rw [hw3]; exact NfM.made w2 HDl.out P
 have hs3 : w3.heap.size = w2.heap.size + 1 := by rw [hw3]; simp
 have HW3 := hid hw3
 obtain ⟨F, hF⟩ : ∃ F, F = w2.heap.size := ⟨_, rfl⟩
 rw [← hF] at hn3 hs3
 have HF := hid (show F = w.heap.size + 2 from hF.trans HS2.out)
 have HP3 := hid (HP2.out.on hb3)
 have HN3 := hid hn3
 have HB3 := hid (HB2.out.then_ hb3)
 have HZ3 := hid (HZ0.out.belowHere hb3)
 have HR3 := hid (HZ1.out.belowHere hb3)
 rw [← hF, show w2.alloc (.cells #[.pointer (some ⟨P, 0, none⟩), .int .i64 fi.k, .int .i64 fi.l, .int .i64 fi.s, .int .i64 (nd fi 0), .int .i64 (nd fi 1), .int .i64 (nd fi 2), .int .i64 (nd fi 3), .int .i64 (nd fi 4), .int .i64 (nd fi 5), .int .i64 (fi.io.s : Int), .int .i64 (fi.io.b : Int)] 82) = w3 from HW3.out.symm]
 clear y0 y1 y2 y3 y4 y5 y6 y7 y8 y9 y10 hb3 hn3 hw3 hF HP2
 have HPg := hid (nodPages_calls (fi := fi) HP3.out HW.out)
 unfold nfV nfC at HPg
 have y0 := HZ3.out.cellv (i := 0) rfl
 have y1 := HZ3.out.cellv (i := 1) rfl
 have y2 := HZ3.out.cellv (i := 2) rfl
 have y3 := HZ3.out.cellv (i := 3) rfl
 have y4 := HZ3.out.cellv (i := 4) rfl
 have y5 := HZ3.out.cellv (i := 5) rfl
 have y6 := HZ3.out.cellv (i := 6) rfl
 have y7 := HZ3.out.cellv (i := 7) rfl
 have y8 := HZ3.out.cellv (i := 8) rfl
 have y9 := HZ3.out.cellv (i := 9) rfl
 have y10 := HZ3.out.cellv (i := 10) rfl
 go_wp2_with fail
 refine (polSize_calls HP3.out).mono ?_
 rintro e w_ ⟨rfl, rfl⟩
 go_wp2_with fail
 refine HPg.out.mono ?_
 rintro e w4 ⟨⟨v, rfl, ho⟩, hp4, hk4⟩
 obtain ⟨a4, c4, rfl, _⟩ := ho.formN HN.out.symm
 have HO4 := hid ho
 have HP4 := hid hp4
 have HK4 := hid hk4
 clear ho hp4 hk4 y0 y1 y2 y3 y4 y5 y6 y7 y8 y9 y10
 go_wp2_with fail
 refine (reverse_calls (.slice a4 N c4) _ w3.heap.size w4 HO4.out (by rw [← HN.out]; omega)).mono ?_
 rintro e w1 ⟨rfl, ho, hb⟩
 rw [HNs.out] at ho
 have hk1 : Kq Q w3 w1 := ⟨hb.os.trans HK4.out.os, hb.tape.trans HK4.out.tape, hb.output.trans HK4.out.output, Nat.le_trans HK4.out.size hb.size, fun k hk hn => (hb.block k (by omega)).trans (HK4.out.block k hk hn)⟩
 have hp1 : PlM NB B Q w1 P f s := HP4.out.kq (T := fun k => w3.heap.size ≤ k) (kq_from hb) fun q hq h3 => by have := (HP3.out.bnd q hq).2; omega
 have HO1 := hid ho
 have HK1 := hid hk1
 have HNF := hid (show ¬ Q F from HZn.out F (by have := HF.out; omega))
 have HFl := hid (show F < w1.heap.size by have := hk1.size; omega)
 have HZ1' := hid (HZ3.out.kq hk1 (HZn.out _ (Nat.le_refl _)))
 have HR1 := hid (HR3.out.kq hk1 (HZn.out _ (by omega)))
 have HI := hid (show Nwr NB B Q w1 F P f s fi fi.io w1 from ⟨hp1.more (fun q h => .inl h) fun q h => by
  rcases h with h | h
  ·exact hp1.bnd q h
  ·omega, HN3.out.kq hk1 HNF.out, Kq.refl _ _, fun q h => (hp1.bnd q h).2, hp1.base⟩)
 have HOn := hid (show ∀ W, Kq (fun q => Q q ∨ q = F) w1 W → Own intV 3 W w3.heap.size (.slice a4 N c4) (ns.map (fun n : Nat => (n : Int)) ++ rs) from fun W hW => HO1.out.kq hW fun q hq h => by
  have h1 := HO1.out.blockLt q hq
  rcases h with h | h
  ·have := (HP3.out.bnd q h).2; omega
  ·have := HF.out; omega)
 obtain ⟨R, hR⟩ : ∃ R, R = trL ns s fi.io := ⟨_, rfl⟩
 have HR := hid hR
 clear ho hb hk1 hp1 hR HO4 HP4 HK4 HPg
 have hkp : ((tt : Int) + 64 - 1) / 64 = (((tt + 63) / 64 : Nat) : Int) := by omega

 go_upto_block 1 with fail
 have HWf : ∀ (l : List Nat) (s' : Ps) (io' : Spr.Io), TrOk l s' io' → Wf (trL l s' io').1 (trL l s' io').2 := fun l => by
  induction l with
  | nil => exact fun _ _ h => h
  | cons n l ih => exact fun s' io' h => ih _ _ h.2
 have HWR := hid (show Wf R.1 R.2 from by rw [HR.out]; exact HWf _ _ _ HOk.out)
 clear HWf
 go_cut [] (fun wx => Hid (Nwr NB B Q w1 F P f R.1 fi R.2 wx))
 case first =>
  go_wp2_with fail
  go_loopw [13, 51] (fun _ v51 wr => ∃ (i : Nat) (l : List Nat) (s' : Ps) (io' : Spr.Io), v51 = .int .i64 (i : Int) ∧ i ≤ ns.length ∧ Hid (ns.drop i = l) ∧ Hid (TrOk l s' io' ∧ trL l s' io' = R) ∧ Hid (Nwr NB B Q w1 F P f s' fi io' wr)) (fun _ v51 _ => N - (intOf v51).toNat)
  case atStart => exact ⟨0, ns, s, fi.io, rfl, Nat.zero_le _, hid rfl, hid ⟨HOk.out, HR.out.symm⟩, HI⟩
  case round =>
   obtain ⟨i, l, s', io', rfl, hi, HL, HT, HNw⟩ := hrel
   have HOw := hid (HOn.out wr HNw.out.k)
   have z0 : (0 : Int) ≤ (i : Int) := by omega
   by_cases h0 : i < ns.length
   ·have z1 : (i : Int) < (N : Int) := by have := HNl.out; omega
    obtain ⟨n, hn⟩ : ∃ n, n = ns[i] := ⟨_, rfl⟩
    have hd : ns.drop i = n :: ns.drop (i + 1) := by rw [List.drop_eq_getElem_cons h0, hn]
    have hl : l = n :: ns.drop (i + 1) := HL.out.symm.trans hd
    subst hl
    have HKn := hid (show (tt + 63) / 64 ≤ n from HKe.out n (by rw [hn]; exact List.getElem_mem _))
    have HT1 := hid (show Tr1Ok s' io' n from HT.out.1.1)
    have HT2 := hid (show TrOk (ns.drop (i + 1)) (tr1 s' io' n).1 (tr1 s' io' n).2 ∧ trL (ns.drop (i + 1)) (tr1 s' io' n).1 (tr1 s' io' n).2 = R from ⟨HT.out.1.2, HT.out.2⟩)
    obtain ⟨g, rfl, _, _⟩ := HO1.out.addr (by rw [List.length_append, List.length_map]; omega)
    obtain ⟨hy, _⟩ := HOw.out.cellg (k := i) (by rw [List.length_append, List.length_map]; omega)
    rw [List.getElem_append_left (by rw [List.length_map]; exact h0), List.getElem_map, ← hn] at hy
    have hy : wr.cell? ⟨g, i, none⟩ = some (.int .i64 (n : Int)) := hy
    have z2 : ¬ (n : Int) < ((tt : Int) + 63) / 64 := by have := HKn.out; omega
    have q9 := IntWalk.i64_in ((i : Int) + 1) ⟨by omega, by omega⟩
    obtain ⟨At, hAt⟩ : ∃ At, At = atP s'.g io' n := ⟨_, rfl⟩
    have HAc := hid (show Calls Tryz.prog 33 #[.pointer (some ⟨F, 0, none⟩), .int .i64 (n : Int)] wr (PolAsked NB B (Up Q w1 wr) P f s' (.int .i64 (At : Int)) wr) from by
     rw [hAt]
     exact nodAt_calls HNw.out.p HNw.out.n (HNw.out.far HNF.out HFl.out) HT1.out.wf HT1.out.hn)
    have HAt := hid hAt
    have HUs := hid (show At ∈ s'.us from hAt ▸ HT1.out.us)
    have HSo := hid (show SetOk (s'.del At) io' n 0 from hAt ▸ HT1.out.set)
    have HI1 := hid hi
    clear hn hd hAt hi
    go_wp2_with fail
    refine HAc.out.mono ?_
    rintro e W2 ⟨rfl, hp2, hk2⟩
    have HN2 := hid (HNw.out.asked HNF.out HFl.out hp2 hk2)
    clear hp2 hk2
    go_wp2_with fail
    refine (polFree_calls HN2.out.p HUs.out).mono ?_
    rintro e W3 ⟨rfl, hp3⟩
    have HN3 := hid (HN2.out.call HNF.out HFl.out hp3)
    clear hp3
    go_wp2_with fail
    refine (nodSet_calls HN3.out.p HN3.out.n (HN3.out.far HNF.out HFl.out) HSo.out).mono ?_
    rintro e W4 hs4
    have HN4 := hid (HN3.out.set hs4)
    obtain ⟨⟨_, rfl⟩, _⟩ := hs4
    go_wp2_with fail
    go_roundw
    case rel =>
     refine ⟨i + 1, ns.drop (i + 1), (tr1 s' io' n).1, (tr1 s' io' n).2, by go_num, h0, hid rfl, HT2, hid ?_⟩
     have := HN4.out
     unfold tr1
     rw [← HAt.out]
     exact this
    case measure =>
     have := HNl.out
     simp [intOf]
     omega
   ·obtain rfl : i = ns.length := by omega
    have hl : l = [] := HL.out.symm.trans (List.drop_length ..)
    subst hl
    have HE := hid (show R = (s', io') from HT.out.2.symm)
    have HNe := hid (show Nwr NB B Q w1 F P f R.1 fi R.2 wr from by rw [HE.out]; exact HNw.out)
    rcases hrs : rs with _ | ⟨x, rs'⟩
    ·have z1 : ¬ ((ns.length : Nat) : Int) < (N : Int) := by have := HNl.out; rw [hrs, List.length_nil] at this; omega
     clear h0 hi hrs
     go_wp2_with fail
     go_meet
     case rel => exact HNe
    ·have z1 : ((ns.length : Nat) : Int) < (N : Int) := by have := HNl.out; rw [hrs, List.length_cons] at this; omega
     have z2 : x < ((tt : Int) + 63) / 64 := by have := HRs.out x (by rw [hrs]; rfl); omega
     obtain ⟨g, rfl, _, _⟩ := HO1.out.addr (by rw [List.length_append, hrs, List.length_cons]; omega)
     obtain ⟨hy0, _⟩ := HOw.out.cellg (k := ns.length) (by rw [List.length_append, List.length_map, hrs, List.length_cons]; omega)
     rw [List.getElem_append_right (by rw [List.length_map]; omega)] at hy0
     simp only [List.length_map, Nat.sub_self] at hy0
     have hy : wr.cell? ⟨g, ns.length, none⟩ = some (.int .i64 x) := by rw [hy0]; subst hrs; rfl
     clear hy0 h0 hi hrs
     go_wp2_with fail
     go_meet
     case rel => exact HNe
 case rest =>
  have HNc := hcut
  generalize wc = W5 at *
  have q1 := IntWalk.i64_in ((tt : Int) / 64) ⟨by omega, by omega⟩
  have q2 : IntKind.i64.wrap (Int.tdiv (tt : Int) 64) = (tt : Int) / 64 := by
   rw [Int.tdiv_eq_ediv_of_nonneg (by omega)]
   exact q1
  have q3 : Int.tmod (tt : Int) 64 = (tt : Int) % 64 := Int.tmod_eq_emod_of_nonneg (by omega)
  have q4 := IntWalk.i64_in ((tt : Int) % 64) ⟨by omega, by omega⟩
  obtain ⟨At, hAt⟩ : ∃ At, At = atP R.1.g R.2 (tt / 64) := ⟨_, rfl⟩
  have HAc := hid (show Calls Tryz.prog 33 #[.pointer (some ⟨F, 0, none⟩), .int .i64 ((tt : Int) / 64)] W5 (PolAsked NB B (Up Q w1 W5) P f R.1 (.int .i64 (At : Int)) W5) from by
   rw [hAt, show (tt : Int) / 64 = ((tt / 64 : Nat) : Int) from by omega]
   exact nodAt_calls HNc.out.p HNc.out.n (HNc.out.far HNF.out HFl.out) HWR.out (by omega))
  have HAt := hid hAt
  clear hAt
  go_wp2_with fail
  refine HAc.out.mono ?_
  rintro e W6 ⟨rfl, hp6, hk6⟩
  have HN6 := hid (HNc.out.asked HNF.out HFl.out hp6 hk6)
  have HZ6 := hid (HZ1'.out.kq HN6.out.k fun h => h.elim (HZn.out _ (Nat.le_refl _)) (fun e => by have := HF.out; omega))
  have y2 := HZ6.out.cellv (i := 2) (v := .int .i64 fi.s) rfl
  rw [HZ.out] at y2
  clear hp6 hk6 HAc HNc
  obtain ⟨b, hb⟩ : ∃ b : Bool, b = decide (At ≠ 0 ∧ tt % 64 ≠ 0 ∧ tt < z) := ⟨_, rfl⟩
  have HBb := hid hb
  clear hb
  go_upto_region 20 with fail
  go_cut [85] from 72 to 86 (fun v wx => v = .bool b ∧ wx = W6)
  case first =>
   by_cases c1 : At = 0
   ·have gz : ((At : Int) != 0) = false := by rw [bne_eq_false_iff_eq]; omega
    have hbf : b = false := HBb.out.trans (decide_eq_false (by omega))
    subst hbf
    go_wp2_with fail
    go_meet
    case rel => exact ⟨rfl, rfl⟩
   ·have gz : ((At : Int) != 0) = true := by rw [bne_iff_ne]; omega
    by_cases c2 : tt % 64 = 0
    ·have gy : ((tt : Int) % 64 != 0) = false := by rw [bne_eq_false_iff_eq]; omega
     have hbf : b = false := HBb.out.trans (decide_eq_false (by omega))
     subst hbf
     go_wp2_with fail
     go_meet
     case rel => exact ⟨rfl, rfl⟩
    ·have gy : ((tt : Int) % 64 != 0) = true := by rw [bne_iff_ne]; omega
     by_cases c3 : tt < z
     ·have gx : (tt : Int) < (z : Int) := by omega
      have hbf : b = true := HBb.out.trans (decide_eq_true (by omega))
      subst hbf
      go_wp2_with fail
      go_meet
      case rel => exact ⟨rfl, rfl⟩
     ·have gx : ¬ (tt : Int) < (z : Int) := by omega
      have hbf : b = false := HBb.out.trans (decide_eq_false (by omega))
      subst hbf
      go_wp2_with fail
      go_meet
      case rel => exact ⟨rfl, rfl⟩
  case rest =>
   obtain ⟨rfl, rfl⟩ := hcut
   go_upto_if 85 with fail
   go_cut [] from 86 to 105 (fun wx => Hid (Nwr NB B Q w1 F P f (trT R.1 R.2 z tt) fi R.2 wx))
   case first =>
    by_cases hc : At ≠ 0 ∧ tt % 64 ≠ 0 ∧ tt < z
    ·have hbt : b = true := HBb.out.trans (decide_eq_true hc)
     subst hbt
     have HTr := hid (show trT R.1 R.2 z tt = R.1.put At (trX (R.1.g At) tt) from by unfold trT; rw [← HAt.out, if_pos hc])
     have HTh := hid (show R.1.There At from by
      have h := HWR.out.at_ (n := tt / 64) (by omega)
      rw [← HAt.out] at h
      exact h.there hc.1)
     have HX5 := hid (HN6.out.p.ok.sz At HTh.out)
     have q5 : (0 : Int) ≤ (tt : Int) % 64 := by omega
     have q6 : (tt : Int) % 64 ≤ 64 := by omega
     obtain ⟨M6, hM6⟩ : ∃ M6, M6 = tt % 64 := ⟨_, rfl⟩
     have hm6 : M6 < 64 := by omega
     have HM6 := hid hM6
     rw [show (tt : Int) % 64 = (M6 : Int) from by omega] at *
     clear hc hM6
     go_wp2_with fail
     refine (polGet_calls HN6.out.p HTh.out).mono ?_
     rintro e W7 ⟨⟨v, rfl, ho⟩, hp7, hk7⟩
     obtain ⟨a7, c7, rfl, _⟩ := ho.formN HX5.out
     obtain ⟨g, rfl, hgb, _⟩ := ho.addr (by rw [HX5.out]; omega)
     have hcut7 := cutB_from (some ⟨g, 0, none⟩) 64 c7 M6 (by omega)
     have HO7 := hid ho
     have HP7 := hid hp7
     have HK7 := hid hk7
     clear ho hp7 hk7 hgb
     go_wp2_with (refine wpList_clearB rfl _ rfl wc.heap.size g 64 c7 M6 (R.1.g At) _ (64 - M6) (c7 - M6) rfl rfl HO7.out (by omega) (by omega) ?_; intro W8 HO8 HB8)
     have HN8 := hid (HN6.out.got HNF.out HFl.out HP7.out HK7.out HB8.out)
     have hx8 := HO8.out
     rw [show M6 + (64 - M6) = 64 by omega, List.drop_eq_nil_of_le (by rw [HX5.out]; omega), List.append_nil] at hx8
     replace hx8 : Own byteV 5 W8 wc.heap.size (.slice (some ⟨g, 0, none⟩) 64 c7) (trX (R.1.g At) tt) := by unfold trX; rw [← HM6.out]; exact hx8
     refine (polPut_calls HN8.out.p HTh.out (some ⟨g, 0, none⟩) c7 (trX (R.1.g At) tt) (hx8.arr (by rw [trX_len HX5.out]; decide))).mono ?_
     rintro e W9 ⟨rfl, hp9⟩
     have HN9 := hid (HN8.out.call HNF.out HFl.out hp9)
     clear hp9 hx8 hcut7
     go_wp2_with fail
     go_meet
     case rel => rw [HTr.out]; exact HN9
    ·have hbf : b = false := HBb.out.trans (decide_eq_false hc)
     subst hbf
     have HTr := hid (show trT R.1 R.2 z tt = R.1 from by unfold trT; rw [← HAt.out, if_neg hc])
     clear hc
     go_wp2_with fail
     go_meet
     case rel => rw [HTr.out]; exact HN6
   case rest =>
    have HN' := hcut
    generalize wc = wr at *
    have hfc := HN'.out.n.cells
    have e1 : wr.cell? ⟨F, 1, none⟩ = some (.int .i64 fi.k) := hfc.cellv (i := 1) rfl
    have e2 : wr.cell? ⟨F, 2, none⟩ = some (.int .i64 fi.l) := hfc.cellv (i := 2) rfl
    have e3 : wr.cell? ⟨F, 3, none⟩ = some (.int .i64 fi.s) := hfc.cellv (i := 3) rfl
    have e4 : wr.cell? ⟨F, 4, none⟩ = some (.int .i64 (nd (withS fi (tt : Int) R.2) 0)) := hfc.cellv (i := 4) rfl
    have e5 : wr.cell? ⟨F, 5, none⟩ = some (.int .i64 (nd (withS fi (tt : Int) R.2) 1)) := hfc.cellv (i := 5) rfl
    have e6 : wr.cell? ⟨F, 6, none⟩ = some (.int .i64 (nd (withS fi (tt : Int) R.2) 2)) := hfc.cellv (i := 6) rfl
    have e7 : wr.cell? ⟨F, 7, none⟩ = some (.int .i64 (nd (withS fi (tt : Int) R.2) 3)) := hfc.cellv (i := 7) rfl
    have e8 : wr.cell? ⟨F, 8, none⟩ = some (.int .i64 (nd (withS fi (tt : Int) R.2) 4)) := hfc.cellv (i := 8) rfl
    have e9 : wr.cell? ⟨F, 9, none⟩ = some (.int .i64 (nd (withS fi (tt : Int) R.2) 5)) := hfc.cellv (i := 9) rfl
    have e10 : wr.cell? ⟨F, 10, none⟩ = some (.int .i64 (R.2.s : Int)) := hfc.cellv (i := 10) rfl
    have e11 : wr.cell? ⟨F, 11, none⟩ = some (.int .i64 (R.2.b : Int)) := hfc.cellv (i := 11) rfl
    have f3 := hfc.frozen 3
    have hst : Kq (fun q => q = F) wr (wr.setCell ⟨F, 3, none⟩ (.int .i64 (tt : Int))) := Kq.one ⟨F, 3, none⟩ _
    have hF2 : F ≠ w.heap.size + 1 := by have := HF.out; omega
    have hr1 : Blk wr (w.heap.size + 1) 35 #[.int .i64 0, .int .i64 0, .int .i64 0, .int .i64 0, .int .i64 0, .int .i64 0, .int .i64 0, .int .i64 0, .int .i64 0, .int .i64 0, .int .i64 0] := HR1.out.kq HN'.out.k fun h => h.elim (HZn.out _ (by omega)) (fun e => hF2 e.symm)
    have HR9 := hid (hr1.kq hst fun e => hF2 e.symm)
    have HSt := hid hst
    have HP9 := hid (HN'.out.p.kq hst fun q hq e => HN'.out.far HNF.out HFl.out (e ▸ hq))
    have HK9 := hid (((((Kq.of (T := fun q => Q q ∨ q = F) HB3.out).trans (HK1.out.mono fun q h => .inl h))).trans HN'.out.k).trans (hst.mono fun q h => .inr h))
    have HS9 := hid (show w3.heap.size ≤ w1.heap.size from HK1.out.size)
    clear hfc hst hr1 q1 q2 q3 q4 hkp
    go_wp2_with (refine wpList_store_blk rfl rfl _ _ _ rfl (w.heap.size + 1) #[.int .i64 fi.k, .int .i64 fi.l, .int .i64 (tt : Int), .int .i64 (nd (withS fi (tt : Int) R.2) 0), .int .i64 (nd (withS fi (tt : Int) R.2) 1), .int .i64 (nd (withS fi (tt : Int) R.2) 2), .int .i64 (nd (withS fi (tt : Int) R.2) 3), .int .i64 (nd (withS fi (tt : Int) R.2) 4), .int .i64 (nd (withS fi (tt : Int) R.2) 5), .int .i64 (R.2.s : Int), .int .i64 (R.2.b : Int)] rfl rfl 35 #[.int .i64 0, .int .i64 0, .int .i64 0, .int .i64 0, .int .i64 0, .int .i64 0, .int .i64 0, .int .i64 0, .int .i64 0, .int .i64 0, .int .i64 0] HR9.out rfl nfInfo (nfOne (withS fi (tt : Int) R.2)) ?_)
    rw [← HR.out]
    obtain ⟨W9, hW9⟩ : ∃ W, W = (wr.setCell ⟨F, 3, none⟩ (.int .i64 (tt : Int))).setRow (w.heap.size + 1) #[.int .i64 fi.k, .int .i64 fi.l, .int .i64 (tt : Int), .int .i64 (nd (withS fi (tt : Int) R.2) 0), .int .i64 (nd (withS fi (tt : Int) R.2) 1), .int .i64 (nd (withS fi (tt : Int) R.2) 2), .int .i64 (nd (withS fi (tt : Int) R.2) 3), .int .i64 (nd (withS fi (tt : Int) R.2) 4), .int .i64 (nd (withS fi (tt : Int) R.2) 5), .int .i64 (R.2.s : Int), .int .i64 (R.2.b : Int)] := ⟨_, rfl⟩
    rw [← hW9]
    have hrow : Blk W9 (w.heap.size + 1) 35 #[.int .i64 fi.k, .int .i64 fi.l, .int .i64 (tt : Int), .int .i64 (nd (withS fi (tt : Int) R.2) 0), .int .i64 (nd (withS fi (tt : Int) R.2) 1), .int .i64 (nd (withS fi (tt : Int) R.2) 2), .int .i64 (nd (withS fi (tt : Int) R.2) 3), .int .i64 (nd (withS fi (tt : Int) R.2) 4), .int .i64 (nd (withS fi (tt : Int) R.2) 5), .int .i64 (R.2.s : Int), .int .i64 (R.2.b : Int)] := by rw [hW9]; exact HR9.out.row _
    have hk9 := kq_rowOne (wr.setCell ⟨F, 3, none⟩ (.int .i64 (tt : Int))) (w.heap.size + 1) #[.int .i64 fi.k, .int .i64 fi.l, .int .i64 (tt : Int), .int .i64 (nd (withS fi (tt : Int) R.2) 0), .int .i64 (nd (withS fi (tt : Int) R.2) 1), .int .i64 (nd (withS fi (tt : Int) R.2) 2), .int .i64 (nd (withS fi (tt : Int) R.2) 3), .int .i64 (nd (withS fi (tt : Int) R.2) 4), .int .i64 (nd (withS fi (tt : Int) R.2) 5), .int .i64 (R.2.s : Int), .int .i64 (R.2.b : Int)]
    rw [← hW9] at hk9
    have z0 := hrow.cellv (i := 0) rfl
    have z1 := hrow.cellv (i := 1) rfl
    have z2 := hrow.cellv (i := 2) rfl
    have z3 := hrow.cellv (i := 3) rfl
    have z4 := hrow.cellv (i := 4) rfl
    have z5 := hrow.cellv (i := 5) rfl
    have z6 := hrow.cellv (i := 6) rfl
    have z7 := hrow.cellv (i := 7) rfl
    have z8 := hrow.cellv (i := 8) rfl
    have z9 := hrow.cellv (i := 9) rfl
    have z10 := hrow.cellv (i := 10) rfl
    refine bodyPost_ret (v := .tuple #[nfV (withS fi (tt : Int) R.2), .int .i64 0]) (by simp [results, Tryz.results57, go_sem, nfV, nfC, withS, z0, z1, z2, z3, z4, z5, z6, z7, z8, z9, z10]) rfl ⟨rfl, ?_⟩
    have hs2 := HS2.out
    refine HH.out.fin (HP9.out.kq hk9 fun q hq e => ?_) (fun q hq => ?_) (HK9.out.then_ hk9 fun q e => .inr (by omega)) fun q hq => ?_
    ·have := HN'.out.q
     rcases hq with h1 | h1
     ·have := (HH.out.bnd q h1).2; omega
     ·have := HS9.out; have := HF.out; omega
    ·rcases hq with h1 | h1
     ·exact .inl h1
     ·have := HS9.out; have := HF.out; exact .inr (by omega)
    ·rcases hq with h1 | h1
     ·exact .inl h1
     ·exact .inr (by have := HF.out; omega)
end Go.Proofs.YtcppkaphlcflgaaGreat
