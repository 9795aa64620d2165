import Derived.Test.YtcppkaphlcflgaaGreatRoomPtr
import Derived.Carry
import Derived.WideLaws
namespace Go.Proofs.YtcppkaphlcflgaaGreat
open Lib (hid)
set_option maxRecDepth 100000
set_option maxHeartbeats 16000000
section
open Go.RowKit Go.Maps Go.ChangeMaps

theorem Ptr.weaken {L : List (Int × Int)} {a b : Int} {w : World} {M : Nat} (h : Ptr L a w M) (hab : a ≤ b) : Ptr L b w M := by
 obtain ⟨l, h1, h2, h3, h4⟩ := h
 exact ⟨l, h1, fun p hp => by obtain ⟨x, v, e, hx, h0, h5⟩ := h2 p hp; exact ⟨x, v, e, hx, h0, by omega⟩, h3, h4⟩
theorem Below.grownM {B M : Nat} {a w w' : World} (h : Below B a w) (hg : w.grownBy w' (some M)) (hM : B ≤ M) (hB : B ≤ a.heap.size := by exact Nat.le_refl _) : Below B a w' :=
 h.trans ⟨hg.os, hg.tape, hg.output, hg.size, fun i hi => hg.block i (by have := h.size; omega) (by simp; omega)⟩
theorem Room.nd_le (L : List (Int × Int)) : Room.nd L ≤ L.length := by
 induction L with
 | nil => exact Nat.le_refl _
 | cons x t ih => unfold Room.nd; split <;> simp <;> omega
theorem Room.nd_kl_le (s : Int) (l : List Int) (k : Nat) (h : l.length ≤ k) : Room.nd (Room.kl s l) ≤ 2 * k := by
 have h1 := Room.nd_le (Room.kl s l)
 have h2 : (Room.kl s l).length ≤ 2 * l.length := by
  clear h h1
  induction l with
  | nil => simp [Room.kl]
  | cons x t ih =>
   have h3 : (Room.keys s x).length ≤ 2 := by unfold Room.keys; split; simp; split <;> simp
   have h4 : Room.kl s (x :: t) = Room.keys s x ++ Room.kl s t := by simp [Room.kl]
   rw [h4, List.length_append, List.length_cons]
   omega
 omega
theorem below_drewR {B : Nat} (w : World) : Below B w w.drew := ⟨rfl, rfl, rfl, Nat.le_refl _, fun _ _ => rfl⟩
theorem Below.heap_allocB (w : World) (o : Obj) : Below w.heap.size w (w.alloc o) := (Below.refl _ _).alloc (Nat.le_refl _) o
theorem per_pos {s : Int} (h : Ino.Sized s) : Ino.perPage s ≠ 0 := by rcases h with rfl | rfl | rfl | rfl <;> decide
theorem file_calls (s : Int) (a : Option Addr) (n c : Nat) (xs : List Int) (w : World) (hx : Arr intV w w.heap.size a n xs) (hb : ∀ x ∈ xs, -9223372036854775808 ≤ x ∧ x ≤ 9223372036854775807) (hn : n ≤ 4000) :
  Calls Tryz.prog 9 #[.int .i64 s, .slice a n c] w (FileR (Room.file s xs) w) := by
 have hl := hx.len
 have HX := hid hx
 have HL := hid hl
 have HBd := hid hb
 by_cases hs : Ino.Sized s
 case neg =>
  rw [Room.file_arg (.inl hs)]
  have hp := per_zero hs
  clear hs hx hl hb
  go_enter Tryz.func9, Tryz.ntmps9
  go_wp2_with fail
  refine (rperPage_calls _ _).mono ?_
  rintro e w_ ⟨rfl, rfl⟩
  rw [hp]
  go_wp2
  go_ret2
  exact ⟨rfl, Below.refl _ _⟩
 have hp : (Ino.perPage s == 0) = false := by rw [beq_eq_false_iff_ne]; exact per_pos hs
 have HS := hid hs
 clear hx hl hs hb
 obtain ⟨r, hr⟩ : ∃ r, r = Room.file s xs := ⟨_, rfl⟩
 rw [← hr]
 have HR := hid hr
 have HRi := hid (rises_calls a n c xs w HX.out hn)
 clear hr
 by_cases hinc0 : Room.Inc xs
 case neg =>
  have HF := hid (HR.out.trans (Room.file_arg (s := s) (.inr hinc0)))
  rw [show decide (Room.Inc xs) = false from decide_eq_false hinc0] at HRi
  clear hinc0
  go_enter Tryz.func9, Tryz.ntmps9
  go_wp2_with fail
  refine (rperPage_calls _ _).mono ?_
  rintro e w_ ⟨rfl, rfl⟩
  generalize Ino.perPage s = pp at *
  go_wp2_with fail
  refine HRi.out.mono ?_
  rintro e w1 ⟨rfl, hb1⟩
  have HB1 := hid hb1
  clear hb1
  go_wp2
  go_ret2
  exact ⟨by rw [HF.out]; rfl, HB1.out⟩
 rw [show decide (Room.Inc xs) = true from decide_eq_true hinc0] at HRi
 have hinc := hid hinc0
 clear hinc0
 go_enter Tryz.func9, Tryz.ntmps9
 go_wp2_with fail
 refine (rperPage_calls _ _).mono ?_
 rintro e w_ ⟨rfl, rfl⟩
 generalize Ino.perPage s = pp at *
 go_wp2_with fail
 refine HRi.out.mono ?_
 rintro e w1 ⟨rfl, hb1⟩
 have hs1 := hb1.size
 have HB1 := hid (hb1.alloc hs1 (.map #[] 0))
 have HP1 := hid (Ptr.made w1)
 have HM0 := hid hs1
 clear hb1 hs1
 have hmm := @run_makeMap Tryz.prog
 go_upto_region 4 with fail
 clear hmm
 generalize w1.alloc (.map #[] 0) = wm at *
 obtain ⟨M, hM⟩ : ∃ M, M = w1.heap.size := ⟨_, rfl⟩
 rw [← hM] at HP1 HM0 ⊢
 clear hM
 have HM := HM0
 clear HM0
 go_wp2_with fail
 go_loopw [8, 9, 10, 22] (fun _ _ _ i wr => ∃ q : Nat, q ≤ n ∧ i = .int .i64 q ∧ (∀ j (h : j < xs.length), j < q → Ino.wayE s xs[j] = 0) ∧ Ptr (Room.kl s (xs.take q)) (2 * (q : Int)) wr M ∧ Below w.heap.size w wr) (fun _ _ _ i _ => n - (intOf i).toNat)
 case atStart => exact ⟨0, by omega, rfl, by omega, by simpa [Room.kl] using HP1.out, HB1.out⟩
 case round =>
  obtain ⟨q, hq, rfl, hok, hpt, hb⟩ := hrel
  have HOk := hid hok
  have HP0 := hid hpt
  have HB := hid hb
  have hsz := hb.size
  clear hok hpt
  by_cases hqn : q < n
  ·obtain ⟨b, o, hq', rfl, _, hcx⟩ := (HX.out.on hb).atI (k := q) hqn
   have hbx := HBd.out xs[q] (List.getElem_mem hq')
   have hTo := hid (to_calls s xs[q] wr hbx.1 hbx.2)
   have g0 : (0 : Int) ≤ (q : Int) := by omega
   have g1 : (q : Int) < (n : Int) := by omega
   have g2 : decide ((q : Int) < (n : Int)) = true := decide_eq_true g1
   have HKl0 := hid (show Room.kl s (xs.take (q + 1)) = Room.kl s (xs.take q) ++ Room.keys s xs[q] by rw [List.take_succ_eq_append_getElem hq', Room.kl_snoc])
   by_cases he : Ino.wayE s xs[q] = 0
   ·have HOk2 := hid (show ∀ j (h : j < xs.length), j < q + 1 → Ino.wayE s xs[j] = 0 from fun j h hj => by
     by_cases e : j = q
     ·subst e; exact he
     ·exact HOk.out j h (by omega))
    have hA3 := Room.way_le he he (Int.le_refl _)
    have HBB := hid (show i64In (Ino.wayB s xs[q]) by
     have h1 := Ino.way_forms he
     have h2 := (Ino.way_bound he).1
     have h3 := Ino.way_bound he
     unfold i64In
     omega)
    have HWV := hid (show wayV s xs[q] = .tuple #[.agg #[.int .i64 (Ino.wayA s xs[q]), .int .i64 (Ino.wayB s xs[q]), .int .i64 (Ino.wayC s xs[q])], .int .i64 0] by unfold wayV; rw [he])
    have hA02 : Ino.wayA s xs[q] = 0 ∨ Ino.wayA s xs[q] = 1 ∨ Ino.wayA s xs[q] = 2 := by omega
    have HKs := hid (show Room.keys s xs[q] = if Ino.wayA s xs[q] = 1 then [(1, 0)] else if Ino.wayA s xs[q] = 2 then [(2, -1), (2, Ino.wayB s xs[q])] else [] from rfl)
    rw [HKs.out] at HKl0
    clear he hA3 hb HKs
    obtain ⟨L, hL⟩ : ∃ L, L = Room.kl s (xs.take q) := ⟨_, rfl⟩
    rw [← hL] at HP0 HKl0
    clear hL
    generalize Ino.wayA s xs[q] = A at *
    generalize Ino.wayB s xs[q] = B at *
    generalize Ino.wayC s xs[q] = C at *
    generalize xs[q] = x at *
    rcases hA02 with rfl | rfl | rfl
    ·skip
     have HKl := hid (show Room.kl s (xs.take (q + 1)) = L by have h := HKl0.out; simpa using h)
     clear HKl0
     go_wp2_with fail
     refine hTo.out.mono ?_
     rintro e w2 ⟨rfl, hb2⟩
     rw [HWV.out]
     have hs2 := hb2.size
     have hML := HP0.out.lt
     have hlt2 : M < w2.heap.size := Nat.lt_of_lt_of_le hML hs2
     have bn := Blk.new w2 93 #[.int .i64 0, .int .i64 B, .int .i64 C]
     have HB3 := hid (HB.out.then_ (hb2.then_ ((Below.refl _ _).alloc (Nat.le_refl _) (.cells #[.int .i64 0, .int .i64 B, .int .i64 C] 93))))
     have HP := hid ((HP0.out.on hb2).on (Below.heap_allocB w2 (.cells #[.int .i64 0, .int .i64 B, .int .i64 C] 93)))
     have n0 := bn.cellv (i := 0) rfl
     have n1 := bn.cellv (i := 1) rfl
     have n2 := bn.cellv (i := 2) rfl
     have BN := hid bn
     clear bn hb2 HP0
     go_upto_region 10 with fail
     generalize w2.alloc (.cells #[.int .i64 0, .int .i64 B, .int .i64 C] 93) = wd at *
     generalize w2.heap.size = NB at *
     go_wp2
     go_roundw
     case rel => exact ⟨q + 1, by omega, by go_num, HOk2.out, by rw [HKl.out]; exact HP.out.weaken (by omega), HB3.out⟩
     case measure => simp [intOf]; omega
    ·skip
     have HKl := hid (show Room.kl s (xs.take (q + 1)) = L ++ [(1, 0)] by have h := HKl0.out; simpa using h)
     clear HKl0
     go_wp2_with fail
     refine hTo.out.mono ?_
     rintro e w2 ⟨rfl, hb2⟩
     rw [HWV.out]
     have hs2 := hb2.size
     have hML := HP0.out.lt
     have hlt2 : M < w2.heap.size := Nat.lt_of_lt_of_le hML hs2
     have bn := Blk.new w2 93 #[.int .i64 1, .int .i64 B, .int .i64 C]
     have HB3 := hid (HB.out.then_ (hb2.then_ ((Below.refl _ _).alloc (Nat.le_refl _) (.cells #[.int .i64 1, .int .i64 B, .int .i64 C] 93))))
     have HP := hid ((HP0.out.on hb2).on (Below.heap_allocB w2 (.cells #[.int .i64 1, .int .i64 B, .int .i64 C] 93)))
     have n0 := bn.cellv (i := 0) rfl
     have n1 := bn.cellv (i := 1) rfl
     have n2 := bn.cellv (i := 2) rfl
     have BN := hid bn
     clear bn hb2 HP0
     go_upto_region 10 with fail
     generalize w2.alloc (.cells #[.int .i64 1, .int .i64 B, .int .i64 C] 93) = wd at *
     generalize w2.heap.size = NB at *
     go_upto_region 12 with fail
     obtain ⟨v, st, o_, hv0, hv1, hlk, hme, hlk2, hg1, o2_, hst, hP2, hg2⟩ := Ptr.step (w := wd.drew) (M := M) (L := L) (bd := 2 * (q : Int)) HP.out (1, 0) (by unfold i64In; omega) (by unfold i64In; omega) (by omega)
     simp only [kV] at hlk hme hlk2
     have hwv : IntKind.i64.wrap (v + 1) = v + 1 := IntWalk.i64_in _ ⟨by omega, by omega⟩
     refine wp_region_noPanic ?_
     refine wp_region_held_drew (S := (fun _ => True)) (by kernel_rfl) trivial (fun hS0 => ?_)
     refine tk 0 ((.map (some M))) rfl (fun _ _ => rfl) ?_
     try simp only [layR]
     refine tk 1 ((.agg #[.int .i64 1, .int .i64 0, .int .i64 0])) rfl (fun W hSw => ?_) ?_
     ·skip
      go_simp
     try simp only [layR]
     refine wpAnyH_ready (rs := [2, 4]) (by kernel_rfl) (by simp) ?_
     refine AllReadyH.cons rfl (fun K' hK => ?_) (AllReadyH.cons rfl (fun K' hK => ?_) AllReadyH.nil)
     ·refine step_exec rfl (exec_lookup _ _ _ _ rfl hlk) ?_
      refine hK.out _ _ hS0 (fun hS1 => ?_)
      try simp only [layR]
      refine tk 3 ((.int .i64 (v + 1))) rfl (fun W hSw => ?_) ?_
      ·skip
       go_simp
      try simp only
      refine rd 4 rfl (fun K' hK => ?_)
      refine step_exec rfl (exec_mapEntry _ _ _ rfl hme) ?_
      refine hK.out _ _ (trivial) (fun hS2 => ?_)
      refine tk 5 (st) rfl (fun _ _ => rfl) ?_
      refine rd 6 rfl (fun K' hK => ?_)
      refine step_skip rfl (exec_entryStore _ _ _ _ rfl hst) ?_
      refine hK.out _ _ (trivial) (fun hS3 => ?_)
      refine wpAnyH_done (by kernel_rfl) ?_ _
      refine NoPanic.normal ?_
      have HP2 := hid hP2
      have HB4 := hid (Below.grownM (Below.grownM (HB3.out.trans (show Below w.heap.size wd wd.drew from below_drewR wd)) hg1 HM.out) hg2 HM.out)
      clear hP2 hg1 hg2 hst hlk hlk2 hme hS0 hS1 hS2 hS3
      generalize setBlock (setBlock wd.drew M o_) M o2_ = wf at *
      go_wp2
      go_roundw
      case rel => exact ⟨q + 1, by omega, by go_num, HOk2.out, by rw [HKl.out]; exact HP2.out.weaken (by omega), HB4.out⟩
      case measure => simp [intOf]; omega
     ·refine step_exec rfl (exec_mapEntry _ _ _ rfl hme) ?_
      refine hK.out _ _ (trivial) (fun hS1 => ?_)
      refine tk 5 (st) rfl (fun _ _ => rfl) ?_
      refine rd 2 rfl (fun K' hK => ?_)
      refine step_exec rfl (exec_lookup _ _ _ _ rfl hlk2) ?_
      refine hK.out _ _ hS1 (fun hS2 => ?_)
      try simp only
      refine tk 3 ((.int .i64 (v + 1))) rfl (fun W hSw => ?_) ?_
      ·skip
       go_simp
      try simp only
      refine rd 6 rfl (fun K' hK => ?_)
      refine step_skip rfl (exec_entryStore _ _ _ _ rfl hst) ?_
      refine hK.out _ _ (trivial) (fun hS3 => ?_)
      refine wpAnyH_done (by kernel_rfl) ?_ _
      refine NoPanic.normal ?_
      have HP2 := hid hP2
      have HB4 := hid (Below.grownM (Below.grownM (HB3.out.trans (show Below w.heap.size wd wd.drew from below_drewR wd)) hg1 HM.out) hg2 HM.out)
      clear hP2 hg1 hg2 hst hlk hlk2 hme hS0 hS1 hS2 hS3
      generalize setBlock (setBlock wd.drew M o_) M o2_ = wf at *
      go_wp2
      go_roundw
      case rel => exact ⟨q + 1, by omega, by go_num, HOk2.out, by rw [HKl.out]; exact HP2.out.weaken (by omega), HB4.out⟩
      case measure => simp [intOf]; omega
    ·skip
     have HKl := hid (show Room.kl s (xs.take (q + 1)) = L ++ [(2, -1), (2, B)] by have h := HKl0.out; simpa using h)
     clear HKl0
     go_wp2_with fail
     refine hTo.out.mono ?_
     rintro e w2 ⟨rfl, hb2⟩
     rw [HWV.out]
     have hs2 := hb2.size
     have hML := HP0.out.lt
     have hlt2 : M < w2.heap.size := Nat.lt_of_lt_of_le hML hs2
     have bn := Blk.new w2 93 #[.int .i64 2, .int .i64 B, .int .i64 C]
     have HB3 := hid (HB.out.then_ (hb2.then_ ((Below.refl _ _).alloc (Nat.le_refl _) (.cells #[.int .i64 2, .int .i64 B, .int .i64 C] 93))))
     have HP := hid ((HP0.out.on hb2).on (Below.heap_allocB w2 (.cells #[.int .i64 2, .int .i64 B, .int .i64 C] 93)))
     have n0 := bn.cellv (i := 0) rfl
     have n1 := bn.cellv (i := 1) rfl
     have n2 := bn.cellv (i := 2) rfl
     have BN := hid bn
     clear bn hb2 HP0
     go_upto_region 10 with fail
     generalize w2.alloc (.cells #[.int .i64 2, .int .i64 B, .int .i64 C] 93) = wd at *
     generalize w2.heap.size = NB at *
     go_upto_region 14 with fail
     go_cut [] (fun wx => Ptr (L ++ [(2, -1)]) (2 * (q : Int) + 1) wx M ∧ Below w.heap.size w wx ∧ Blk wx NB 93 #[.int .i64 2, .int .i64 B, .int .i64 C])
     case first =>
      obtain ⟨v, st, o_, hv0, hv1, hlk, hme, hlk2, hg1, o2_, hst, hP2, hg2⟩ := Ptr.step (w := wd.drew) (M := M) (L := L) (bd := 2 * (q : Int)) HP.out (2, -1) (by unfold i64In; omega) (by unfold i64In; omega) (by omega)
      simp only [kV] at hlk hme hlk2
      have hwv : IntKind.i64.wrap (v + 1) = v + 1 := IntWalk.i64_in _ ⟨by omega, by omega⟩
      refine wp_region_noPanic ?_
      refine wp_region_held_drew (S := (fun W' => Blk W' NB 93 #[.int .i64 2, .int .i64 B, .int .i64 C])) (by kernel_rfl) BN.out (fun hS0 => ?_)
      refine tk 0 ((.map (some M))) rfl (fun _ _ => rfl) ?_
      try simp only [layR]
      refine tk 1 ((.agg #[.int .i64 2, .int .i64 (-1), .int .i64 0])) rfl (fun W hSw => ?_) ?_
      ·skip
       go_simp
      try simp only [layR]
      refine wpAnyH_ready (rs := [2, 4]) (by kernel_rfl) (by simp) ?_
      refine AllReadyH.cons rfl (fun K' hK => ?_) (AllReadyH.cons rfl (fun K' hK => ?_) AllReadyH.nil)
      ·refine step_exec rfl (exec_lookup _ _ _ _ rfl hlk) ?_
       refine hK.out _ _ hS0 (fun hS1 => ?_)
       try simp only [layR]
       refine tk 3 ((.int .i64 (v + 1))) rfl (fun W hSw => ?_) ?_
       ·skip
        go_simp
       try simp only
       refine rd 4 rfl (fun K' hK => ?_)
       refine step_exec rfl (exec_mapEntry _ _ _ rfl hme) ?_
       refine hK.out _ _ (hS1.grown hg1 (by simp; omega)) (fun hS2 => ?_)
       refine tk 5 (st) rfl (fun _ _ => rfl) ?_
       refine rd 6 rfl (fun K' hK => ?_)
       refine step_skip rfl (exec_entryStore _ _ _ _ rfl hst) ?_
       refine hK.out _ _ (hS2.grown hg2 (by simp; omega)) (fun hS3 => ?_)
       refine wpAnyH_done (by kernel_rfl) ?_ _
       refine NoPanic.normal ?_
       have hB4 := Below.grownM (Below.grownM (HB3.out.trans (show Below w.heap.size wd wd.drew from below_drewR wd)) hg1 HM.out) hg2 HM.out
       clear hg1 hg2 hst hlk hlk2 hme hS0 hS1 hS2
       go_wp2_with fail
       go_meet
       exact ⟨hP2, hB4, hS3⟩
      ·refine step_exec rfl (exec_mapEntry _ _ _ rfl hme) ?_
       refine hK.out _ _ (hS0.grown hg1 (by simp; omega)) (fun hS1 => ?_)
       refine tk 5 (st) rfl (fun _ _ => rfl) ?_
       refine rd 2 rfl (fun K' hK => ?_)
       refine step_exec rfl (exec_lookup _ _ _ _ rfl hlk2) ?_
       refine hK.out _ _ hS1 (fun hS2 => ?_)
       try simp only
       refine tk 3 ((.int .i64 (v + 1))) rfl (fun W hSw => ?_) ?_
       ·skip
        go_simp
       try simp only
       refine rd 6 rfl (fun K' hK => ?_)
       refine step_skip rfl (exec_entryStore _ _ _ _ rfl hst) ?_
       refine hK.out _ _ (hS2.grown hg2 (by simp; omega)) (fun hS3 => ?_)
       refine wpAnyH_done (by kernel_rfl) ?_ _
       refine NoPanic.normal ?_
       have hB4 := Below.grownM (Below.grownM (HB3.out.trans (show Below w.heap.size wd wd.drew from below_drewR wd)) hg1 HM.out) hg2 HM.out
       clear hg1 hg2 hst hlk hlk2 hme hS0 hS1 hS2
       go_wp2_with fail
       go_meet
       exact ⟨hP2, hB4, hS3⟩
     case rest =>
      obtain ⟨hc1, hc2, hc3⟩ := hcut
      have HPc := hid hc1
      have HBc := hid hc2
      have BNc := hid hc3
      have m1 := hc3.cellv (i := 1) rfl
      clear hc1 hc2 hc3 HP HB3 BN n0 n1 n2
      have hltc := BNc.out.lt
      obtain ⟨wf, hwf⟩ : ∃ wf, wf = wc := ⟨_, rfl⟩
      subst hwf
      go_upto_region 15 with fail
      obtain ⟨v, st, o_, hv0, hv1, hlk, hme, hlk2, hg1, o2_, hst, hP2, hg2⟩ := Ptr.step (w := wf.drew) (M := M) (L := L ++ [(2, -1)]) (bd := 2 * (q : Int) + 1) HPc.out (2, B) (by unfold i64In; omega) HBB.out (by omega)
      simp only [kV] at hlk hme hlk2
      have hwv : IntKind.i64.wrap (v + 1) = v + 1 := IntWalk.i64_in _ ⟨by omega, by omega⟩
      refine wp_region_noPanic ?_
      refine wp_region_held_drew (S := (fun W' => Blk W' NB 93 #[.int .i64 2, .int .i64 B, .int .i64 C])) (by kernel_rfl) BNc.out (fun hS0 => ?_)
      refine tk 0 ((.map (some M))) rfl (fun _ _ => rfl) ?_
      try simp only [layR]
      refine tk 1 ((.pointer (some ⟨NB, 1, none⟩))) rfl (fun _ _ => rfl) ?_
      try simp only [layR]
      refine tk 2 ((.int .i64 B)) rfl (fun W hSw => ?_) ?_
      ·have c := hSw.cellv (i := 1) rfl
       go_simp
      try simp only [layR]
      refine tk 3 ((.agg #[.int .i64 2, .int .i64 B, .int .i64 0])) rfl (fun W hSw => ?_) ?_
      ·skip
       go_simp
      try simp only [layR]
      refine wpAnyH_ready (rs := [4, 6]) (by kernel_rfl) (by simp) ?_
      refine AllReadyH.cons rfl (fun K' hK => ?_) (AllReadyH.cons rfl (fun K' hK => ?_) AllReadyH.nil)
      ·refine step_exec rfl (exec_lookup _ _ _ _ rfl hlk) ?_
       refine hK.out _ _ hS0 (fun hS1 => ?_)
       try simp only [layR]
       refine tk 5 ((.int .i64 (v + 1))) rfl (fun W hSw => ?_) ?_
       ·skip
        go_simp
       try simp only
       refine rd 6 rfl (fun K' hK => ?_)
       refine step_exec rfl (exec_mapEntry _ _ _ rfl hme) ?_
       refine hK.out _ _ (hS1.grown hg1 (by simp; omega)) (fun hS2 => ?_)
       refine tk 7 (st) rfl (fun _ _ => rfl) ?_
       refine rd 8 rfl (fun K' hK => ?_)
       refine step_skip rfl (exec_entryStore _ _ _ _ rfl hst) ?_
       refine hK.out _ _ (hS2.grown hg2 (by simp; omega)) (fun hS3 => ?_)
       refine wpAnyH_done (by kernel_rfl) ?_ _
       refine NoPanic.normal ?_
       have HP3 := hid hP2
       have HB5 := hid (Below.grownM (Below.grownM (HBc.out.trans (show Below w.heap.size wf wf.drew from below_drewR wf)) hg1 HM.out) hg2 HM.out)
       clear hP2 hg1 hg2 hst hlk hlk2 hme hS0 hS1 hS2 hS3
       generalize setBlock (setBlock wf.drew M o_) M o2_ = wg at *
       go_wp2
       go_roundw
       case rel => exact ⟨q + 1, by omega, by go_num, HOk2.out, by rw [HKl.out]; have h9 := HP3.out; rw [List.append_assoc] at h9; exact h9.weaken (by omega), HB5.out⟩
       case measure => simp [intOf]; omega
      ·refine step_exec rfl (exec_mapEntry _ _ _ rfl hme) ?_
       refine hK.out _ _ (hS0.grown hg1 (by simp; omega)) (fun hS1 => ?_)
       refine tk 7 (st) rfl (fun _ _ => rfl) ?_
       refine rd 4 rfl (fun K' hK => ?_)
       refine step_exec rfl (exec_lookup _ _ _ _ rfl hlk2) ?_
       refine hK.out _ _ hS1 (fun hS2 => ?_)
       try simp only
       refine tk 5 ((.int .i64 (v + 1))) rfl (fun W hSw => ?_) ?_
       ·skip
        go_simp
       try simp only
       refine rd 8 rfl (fun K' hK => ?_)
       refine step_skip rfl (exec_entryStore _ _ _ _ rfl hst) ?_
       refine hK.out _ _ (hS2.grown hg2 (by simp; omega)) (fun hS3 => ?_)
       refine wpAnyH_done (by kernel_rfl) ?_ _
       refine NoPanic.normal ?_
       have HP3 := hid hP2
       have HB5 := hid (Below.grownM (Below.grownM (HBc.out.trans (show Below w.heap.size wf wf.drew from below_drewR wf)) hg1 HM.out) hg2 HM.out)
       clear hP2 hg1 hg2 hst hlk hlk2 hme hS0 hS1 hS2 hS3
       generalize setBlock (setBlock wf.drew M o_) M o2_ = wg at *
       go_wp2
       go_roundw
       case rel => exact ⟨q + 1, by omega, by go_num, HOk2.out, by rw [HKl.out]; have h9 := HP3.out; rw [List.append_assoc] at h9; exact h9.weaken (by omega), HB5.out⟩
       case measure => simp [intOf]; omega
   ·have HF := hid (HR.out.trans (Room.file_idx HS.out hinc.out (List.getElem_mem hq') he))
    have hw0 : Ino.wayE s xs[q] = 52 := by
     unfold Ino.wayE at he ⊢
     rw [if_pos HS.out] at he ⊢
     by_cases h : xs[q] < 0 ∨ Ino.pages s ≤ xs[q]
     ·rw [if_pos h]
     ·rw [if_neg h] at he; exact absurd rfl he
    have HWV := hid (show wayV s xs[q] = .tuple #[.agg #[.int .i64 0, .int .i64 0, .int .i64 0], .int .i64 52] by simp [wayV, Ino.wayA, Ino.wayB, Ino.wayC, hw0])
    clear he hw0 hb HKl0
    generalize xs[q] = x at *
    go_wp2_with fail
    refine hTo.out.mono ?_
    rintro e w2 ⟨rfl, hb2⟩
    rw [HWV.out]
    have HB2 := hid (HB.out.then_ (hb2.then_ ((Below.refl _ _).alloc (Nat.le_refl _) (.cells #[.int .i64 0, .int .i64 0, .int .i64 0] 93))))
    clear hb2
    go_wp2
    go_ret2
    exact ⟨by rw [HF.out]; rfl, HB2.out⟩
  ·obtain rfl : q = n := by omega
   have g2 : decide ((q : Int) < (q : Int)) = false := decide_eq_false (by omega)
   have HF := hid (HR.out.trans (Room.file_ok HS.out hinc.out (fun y hy => by
    obtain ⟨i, hi, rfl⟩ := List.getElem_of_mem hy
    exact HOk.out i hi (by rw [← HL.out]; exact hi))))
   obtain ⟨es, clock, hes, hsize⟩ := HP0.out.size
   have hnd : es.size ≤ 2 * q := by
    rw [hsize]; exact Room.nd_kl_le s _ _ (by rw [List.length_take]; omega)
   have HN := hid (show q + es.size = Room.fileN s xs by rw [hsize]; unfold Room.fileN; rw [HL.out, List.take_of_length_le (by rw [HL.out]; exact Nat.le_refl _)])
   have hln := fun ty => run_len_map (P := Tryz.prog) wr 91 ty M es clock (by simp [Program.mapKeyOf, Program.mapElemOf, Tryz.underlying91]) hes
   clear hb hsize HP0
   go_wp2
   go_ret2
   exact ⟨by rw [HF.out, ← HN.out]; simp, HB.out⟩
end
section
open Go.RowKit

theorem with_calls (a : Option Addr) (n c : Nat) (xs : List Int) (f t : Int) (w : World) (hx : Arr intV w w.heap.size a n xs) (hn : n ≤ 2000) (hm : Room.more f t ≤ 2000) :
  Calls Tryz.prog 8 #[.slice a n c, .int .i64 f, .int .i64 t] w (FreshI (Room.row (Room.all xs f t)) w) := by
 have HCl := hid (cloneI_calls a n c xs w hx (by omega))
 have HL := hid hx.len
 have HM := hid (show Room.more f t = if 0 ≤ f ∧ t ≤ 131072 then (t - f).toNat else 0 from rfl)
 have HAll := hid (show Room.all xs f t = xs ++ Room.span f (Room.more f t) from rfl)
 obtain ⟨al, hal⟩ : ∃ al, al = Room.all xs f t := ⟨_, rfl⟩
 rw [← hal] at HAll ⊢
 generalize Room.more f t = m at *
 have hall : al.length = n + m := by rw [HAll.out, List.length_append, Room.span_len, HL.out]
 have HLen := hid hall
 clear hx hal hall
 go_enter Tryz.func8, Tryz.ntmps8
 go_wp2_with fail
 refine HCl.out.mono ?_
 rintro e w1 ⟨⟨v1, rfl, ho1⟩, hb1⟩
 have HO1 := hid ho1
 have HB1 := hid hb1
 have hs1 := hb1.size
 clear ho1 hb1
 by_cases h3 : 0 ≤ f
 case neg =>
  have h6 : decide (0 ≤ f) = false := decide_eq_false h3
  have h7 : m = 0 := by rw [HM.out, if_neg (fun h => h3 h.1)]
  have HZ := hid (show al = xs by rw [HAll.out, h7]; simp [Room.span])
  clear h7 h3
  have HS := hid (sort_calls _ al w.heap.size _ (by rw [HZ.out]; exact HO1.out) (by rw [HLen.out]; omega))
  have HB7 := hid (HB1.out)
  go_wp2_with fail
  refine HS.out.mono ?_
  rintro e w3 ⟨rfl, ho3, hb3⟩
  have HB3 := hid (HB7.out.trans hb3)
  have HC := hid (compact_calls _ (sortL al) w.heap.size w3 ho3 (by rw [sortL_len, HLen.out]; omega))
  clear ho3 hb3
  go_wp2_with fail
  refine HC.out.mono ?_
  rintro e w4 ⟨v4, rfl, ho4, hb4⟩
  have HO4 := hid ho4
  have HB4 := hid (HB3.out.trans hb4)
  clear ho4 hb4
  go_wp2
  go_ret
  exact ⟨_, rfl, HO4.out, HB4.out⟩
 by_cases h4 : t ≤ 131072
 case neg =>
  have h6 : decide (t ≤ 131072) = false := decide_eq_false h4
  have h7 : m = 0 := by rw [HM.out, if_neg (fun h => h4 h.2)]
  have HZ := hid (show al = xs by rw [HAll.out, h7]; simp [Room.span])
  clear h7 h4
  have HS := hid (sort_calls _ al w.heap.size _ (by rw [HZ.out]; exact HO1.out) (by rw [HLen.out]; omega))
  have HB7 := hid (HB1.out)
  go_wp2_with fail
  refine HS.out.mono ?_
  rintro e w3 ⟨rfl, ho3, hb3⟩
  have HB3 := hid (HB7.out.trans hb3)
  have HC := hid (compact_calls _ (sortL al) w.heap.size w3 ho3 (by rw [sortL_len, HLen.out]; omega))
  clear ho3 hb3
  go_wp2_with fail
  refine HC.out.mono ?_
  rintro e w4 ⟨v4, rfl, ho4, hb4⟩
  have HO4 := hid ho4
  have HB4 := hid (HB3.out.trans hb4)
  clear ho4 hb4
  go_wp2
  go_ret
  exact ⟨_, rfl, HO4.out, HB4.out⟩
 have h7 : m = (t - f).toNat := by rw [HM.out, if_pos ⟨h3, h4⟩]
 have HM2 := hid h7
 clear h7
 go_wp2_with fail
 go_loopw [7, 8] (fun v i wr => ∃ k : Nat, k ≤ m ∧ i = .int .i64 (f + k) ∧ Own intV 3 wr w.heap.size v (xs ++ Room.span f k) ∧ Below w.heap.size w wr) (fun _ i _ => (f + m - intOf i).toNat)
 case atStart => exact ⟨0, by omega, by simp, by simpa [Room.span] using HO1.out, HB1.out⟩
 case round =>
  obtain ⟨k, hk, rfl, ho, hb⟩ := hrel
  have HO := hid ho
  have HB := hid hb
  have hsz := hb.size
  have hlen : (xs ++ Room.span f k).length = n + k := by rw [List.length_append, Room.span_len, HL.out]
  have HLn := hid hlen
  clear ho hb hlen
  by_cases hlt : k < m
  ·have h2 : f + k < t := by have := HM2.out; omega
   go_wp2_with (at_builtin; refine wpList_litI rfl _ _ rfl w.heap.size _ _ rfl HO.out (f + (k : Int)) rfl rfl (by rw [HLn.out]; omega) hsz ?_; intro v2 w2 HO2 HB2)
   go_roundw
   case rel => exact ⟨k + 1, by omega, by congr 1; omega, by rw [Room.span_snoc, ← List.append_assoc]; exact HO2.out, HB.out.trans HB2.out⟩
   case measure => simp [intOf]; omega
  ·obtain rfl : k = m := by omega
   have h5 : ¬ f + (k : Int) < t := by have := HM2.out; omega
   have h6 : decide (f + (k : Int) < t) = false := decide_eq_false h5
   have HS := hid (sort_calls _ al w.heap.size _ (by rw [HAll.out]; exact HO.out) (by rw [HLen.out]; omega))
   have HB7 := hid (HB.out)
   go_wp2_with fail
   refine HS.out.mono ?_
   rintro e w3 ⟨rfl, ho3, hb3⟩
   have HB3 := hid (HB7.out.trans hb3)
   have HC := hid (compact_calls _ (sortL al) w.heap.size w3 ho3 (by rw [sortL_len, HLen.out]; omega))
   clear ho3 hb3
   go_wp2_with fail
   refine HC.out.mono ?_
   rintro e w4 ⟨v4, rfl, ho4, hb4⟩
   have HO4 := hid ho4
   have HB4 := hid (HB3.out.trans hb4)
   clear ho4 hb4
   go_wp2
   go_ret
   exact ⟨_, rfl, HO4.out, HB4.out⟩
end
section
open Go.RowKit

namespace Room
def dirN (s n : Int) : Nat := ((n * 16 + s - 1) / s).toNat
def dir (s n : Int) : Int × Int := if ¬ Ino.Sized s ∨ n < 0 then (0, 1) else if Ino.most s / 16 < n then (0, 52) else file s (upto (dirN s n))
theorem dir_arg {s n : Int} (h : ¬ Ino.Sized s ∨ n < 0) : dir s n = (0, 1) := if_pos h
theorem dir_idx {s n : Int} (h : Ino.Sized s) (h0 : 0 ≤ n) (h1 : Ino.most s / 16 < n) : dir s n = (0, 52) := by
 unfold dir
 rw [if_neg (by rintro (a | a); exact a h; omega), if_pos h1]
theorem dir_ok {s n : Int} (h : Ino.Sized s) (h0 : 0 ≤ n) (h1 : ¬ Ino.most s / 16 < n) : dir s n = file s (upto (dirN s n)) := by
 unfold dir
 rw [if_neg (by rintro (a | a); exact a h; omega), if_neg h1]
theorem span_zero (n : Nat) : span 0 n = upto n := by
 unfold span upto
 simp
theorem dirN_le {s n : Int} (h : Ino.Sized s) (h0 : 0 ≤ n) (h1 : n ≤ 6000) : dirN s n ≤ 1500 := by
 unfold dirN
 rcases h with rfl | rfl | rfl | rfl <;> omega
theorem all_nil {k : Nat} (hk : k ≤ 131072) : row (all [] 0 k) = upto k := by
 unfold all more
 rw [List.nil_append, if_pos ⟨Int.le_refl _, by omega⟩, show ((k : Int) - 0).toNat = k by omega, span_zero]
 exact row_self (upto_inc k)
end Room
theorem most_ge {s : Int} (h : Ino.Sized s) : 0 ≤ Ino.most s ∧ Ino.most s < 40000000 := by
 rcases h with rfl | rfl | rfl | rfl <;> exact ⟨by decide, by decide⟩
theorem dir_calls (s n : Int) (w : World) (hn : -9223372036854775808 ≤ n ∧ n ≤ 9223372036854775807) (h5 : n ≤ 6000 ∨ 1099511627776 ≤ n) :
  Calls Tryz.prog 19 #[.int .i64 s, .int .i64 n] w (FileR (Room.dir s n) w) := by
 by_cases hs : Ino.Sized s
 case neg =>
  rw [Room.dir_arg (.inl hs)]
  have hp := per_zero hs
  clear hs
  go_enter Tryz.func19, Tryz.ntmps19
  go_wp2_with fail
  refine (rperPage_calls _ _).mono ?_
  rintro e w_ ⟨rfl, rfl⟩
  rw [hp]
  go_wp2
  go_ret2
  exact ⟨rfl, Below.refl _ _⟩
 have hp : (Ino.perPage s == 0) = false := by rw [beq_eq_false_iff_ne]; exact per_pos hs
 have HS := hid hs
 by_cases h0 : n < 0
 ·rw [Room.dir_arg (.inr h0)]
  have g0 : decide (n < 0) = true := decide_eq_true h0
  clear hs
  go_enter Tryz.func19, Tryz.ntmps19
  go_wp2_with fail
  refine (rperPage_calls _ _).mono ?_
  rintro e w_ ⟨rfl, rfl⟩
  generalize Ino.perPage s = pp at *
  go_wp2
  go_ret2
  exact ⟨rfl, Below.refl _ _⟩
 have g0 : decide (n < 0) = false := decide_eq_false h0
 obtain ⟨hm0, hm1⟩ := most_ge hs
 by_cases h1 : Ino.most s / 16 < n
 ·rw [Room.dir_idx hs (by omega) h1]
  have HM := hid (rmost_calls s w)
  have g1 : decide (Ino.most s / 16 < n) = true := decide_eq_true h1
  clear hs
  go_enter Tryz.func19, Tryz.ntmps19
  go_wp2_with fail
  refine (rperPage_calls _ _).mono ?_
  rintro e w_ ⟨rfl, rfl⟩
  generalize Ino.perPage s = pp at *
  go_wp2_with fail
  refine HM.out.mono ?_
  rintro e w_ ⟨rfl, rfl⟩
  generalize Ino.most s = ms at *
  go_wp2
  go_ret2
  exact ⟨rfl, Below.refl _ _⟩
 rw [Room.dir_ok hs (by omega) h1]
 have hn6 : n ≤ 6000 := by omega
 have hd := Room.dirN_le hs (by omega) hn6
 have HD := hid (show ((Room.dirN s n : Nat) : Int) = (n * 16 + s - 1) / s by
  unfold Room.dirN
  rcases hs with rfl | rfl | rfl | rfl <;> omega)
 have HM := hid (rmost_calls s w)
 have g1 : decide (Ino.most s / 16 < n) = false := decide_eq_false h1
 obtain ⟨k, hk⟩ : ∃ k, k = Room.dirN s n := ⟨_, rfl⟩
 rw [← hk] at hd HD ⊢
 have HU := hid (Room.all_nil (k := k) (by omega))
 have HW := hid (with_calls none 0 0 [] 0 (k : Int) w (Arr.none_ _ _ _) (by omega) (by unfold Room.more; split <;> omega))
 rw [HU.out] at HW
 obtain ⟨W, hW⟩ : ∃ W, W = (n * 16 + s - 1) / s := ⟨_, rfl⟩
 rw [← hW] at HD
 have hsz : 0 ≤ s ∧ s ≤ 512 ∧ s ≠ 0 := by rcases hs with rfl | rfl | rfl | rfl <;> exact ⟨by decide, by decide, by decide⟩
 obtain ⟨hs0, hs5, hsn⟩ := hsz
 have HDk := hid (show Int.tdiv (n * 16 + s - 1) s = (k : Int) by rw [Int.tdiv_eq_ediv_of_nonneg (by omega), ← hW, HD.out])
 clear hk hs hW
 go_enter Tryz.func19, Tryz.ntmps19
 go_wp2_with fail
 refine (rperPage_calls _ _).mono ?_
 rintro e w_ ⟨rfl, rfl⟩
 generalize Ino.perPage s = pp at *
 go_wp2_with fail
 refine HM.out.mono ?_
 rintro e w_ ⟨rfl, rfl⟩
 generalize Ino.most s = ms at *
 have hdv := HDk.out
 go_wp2_with fail
 refine HW.out.mono ?_
 rintro e w1 ⟨v1, rfl, ho1, hb1⟩
 obtain ⟨a1, c1, rfl, hc1⟩ := ho1.formN (n := k) (Room.upto_len k)
 have HA1 := hid (ho1.arr (by rw [Room.upto_len]; omega))
 have HB1 := hid hb1
 have HF := hid (file_calls s a1 k c1 (Room.upto k) w1 (HA1.out) (fun x hx => by rw [Room.upto_mem] at hx; omega) (by omega))
 clear ho1 hb1 hdv
 go_wp2_with fail
 refine HF.out.mono ?_
 rintro e w2 ⟨rfl, hb2⟩
 have HB2 := hid (HB1.out.then_ hb2)
 clear hb2
 go_wp2
 go_ret2
 exact ⟨rfl, HB2.out⟩
end
section
open Go.RowKit

theorem rmore_calls (s : Int) (a : Option Addr) (n c : Nat) (xs : List Int) (f t : Int) (w : World) (hx : Arr intV w w.heap.size a n xs) (hb : ∀ x ∈ xs, -9223372036854775808 ≤ x ∧ x ≤ 9223372036854775807) (hn : n ≤ 2000) (hm : Room.more f t ≤ 2000) :
  Calls Tryz.prog 31 #[.int .i64 s, .slice a n c, .int .i64 f, .int .i64 t] w (FileR (Room.moreR s xs f t) w) := by
 have hl := hx.len
 have HX := hid hx
 have HBd := hid hb
 have HF := hid (file_calls s a n c xs w hx hb (by omega))
 have hb1 := Room.file_b s xs
 have hb2 := Room.file_b s (Room.row (Room.all xs f t))
 have hal := Room.all_len (xs := xs) (f := f) (t := t)
 have HAb := hid (Room.all_bd (f := f) (t := t) hb)
 have hr : Room.moreR s xs f t = if (Room.file s xs).2 ≠ 0 then (0, (Room.file s xs).2) else if (Room.file s (Room.row (Room.all xs f t))).2 ≠ 0 then (0, (Room.file s (Room.row (Room.all xs f t))).2) else ((Room.file s (Room.row (Room.all xs f t))).1 - (Room.file s xs).1, 0) := rfl
 obtain ⟨ys, hy⟩ : ∃ ys, ys = Room.row (Room.all xs f t) := ⟨_, rfl⟩
 have HW := hid (fun (u : World) (hu : Arr intV u u.heap.size a n xs) => with_calls a n c xs f t u hu hn hm)
 rw [← hy] at hr hb2 hal HAb HW
 obtain ⟨⟨x0, x1⟩, hfx⟩ : ∃ r, r = Room.file s xs := ⟨_, rfl⟩
 obtain ⟨⟨y0, y1⟩, hfy⟩ : ∃ r, r = Room.file s ys := ⟨_, rfl⟩
 have HFy := hid hfy
 rw [← hfx, ← hfy] at hr
 rw [← hfx] at hb1 HF
 rw [← hfy] at hb2
 simp only at hr hb1 hb2
 obtain ⟨b0, b1⟩ := hb1
 obtain ⟨b2, b3⟩ := hb2
 have hyl : ys.length ≤ 4000 := by omega
 have hx9 : x0 ≤ 100000 := by omega
 have hy9 : y0 ≤ 100000 := by omega
 clear hx hb hfx hfy hy hl b1 b3 hal
 by_cases h1 : x1 = 0
 case neg =>
  rw [if_pos h1] at hr
  rw [hr]
  have g1 : (x1 != 0) = true := by simpa using h1
  clear hr
  go_enter Tryz.func31, Tryz.ntmps31
  go_wp2_with fail
  refine (HF.out).mono ?_
  rintro e w1 ⟨rfl, h_⟩
  have HB1 := hid h_
  clear h_
  go_wp2
  go_ret2
  exact ⟨rfl, HB1.out⟩
 subst h1
 rw [if_neg (by decide)] at hr
 by_cases h2 : y1 = 0
 case neg =>
  rw [if_pos h2] at hr
  rw [hr]
  have g1 : (y1 != 0) = true := by simpa using h2
  clear hr
  go_enter Tryz.func31, Tryz.ntmps31
  go_wp2_with fail
  refine (HF.out).mono ?_
  rintro e w1 ⟨rfl, h_⟩
  have HB1 := hid h_
  clear h_
  go_wp2_with fail
  refine (HW.out _ (HX.out.on HB1.out)).mono ?_
  rintro e w2 ⟨v2, rfl, ho, hb2⟩
  obtain ⟨a2, c2, rfl, _⟩ := ho.formN (n := ys.length) rfl
  have HB2 := hid (HB1.out.then_ hb2)
  have HF2 := hid (file_calls s a2 ys.length c2 ys w2 (ho.arr (by omega)) HAb.out hyl)
  rw [← HFy.out] at HF2
  clear ho hb2
  go_wp2_with fail
  refine HF2.out.mono ?_
  rintro e w3 ⟨rfl, hb3⟩
  have HB3 := hid (HB2.out.then_ hb3)
  clear hb3
  go_wp2
  go_ret2
  exact ⟨rfl, HB3.out⟩
 subst h2
 rw [if_neg (by decide)] at hr
 rw [hr]
 clear hr
 go_enter Tryz.func31, Tryz.ntmps31
 go_wp2_with fail
 refine (HF.out).mono ?_
 rintro e w1 ⟨rfl, h_⟩
 have HB1 := hid h_
 clear h_
 go_wp2_with fail
 refine (HW.out _ (HX.out.on HB1.out)).mono ?_
 rintro e w2 ⟨v2, rfl, ho, hb2⟩
 obtain ⟨a2, c2, rfl, _⟩ := ho.formN (n := ys.length) rfl
 have HB2 := hid (HB1.out.then_ hb2)
 have HF2 := hid (file_calls s a2 ys.length c2 ys w2 (ho.arr (by omega)) HAb.out hyl)
 rw [← HFy.out] at HF2
 clear ho hb2
 go_wp2_with fail
 refine HF2.out.mono ?_
 rintro e w3 ⟨rfl, hb3⟩
 have HB3 := hid (HB2.out.then_ hb3)
 clear hb3
 go_wp2
 go_ret2
 exact ⟨rfl, HB3.out⟩
end
end Go.Proofs.YtcppkaphlcflgaaGreat
