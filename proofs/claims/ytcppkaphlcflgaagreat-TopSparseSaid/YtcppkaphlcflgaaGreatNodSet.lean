import Derived.Test.YtcppkaphlcflgaaGreatNodPtr
import Derived.Test.YtcppkaphlcflgaaGreatPolAct
import Derived.Test.YtcppkaphlcflgaaGreatInoPoint2
import Derived.Test.YtcppkaphlcflgaaGreatNodPoint
namespace Go.Proofs.YtcppkaphlcflgaaGreat
open Go.RowKit Pol Nod
variable {NB B P : Nat} {Q : Nat → Prop} {w w' : World} {f : Fm} {s : Ps}

theorem way64 {n : Nat} (hn : n < 1062) : Ino.wayE 64 (n : Int) = 0 := Ino.wayE_of (.inl rfl) (by omega) (by rw [Ino.pages_64]; omega)
set_option maxRecDepth 100000 in
theorem nodAt0_calls {fi : Nf} {F : Nat} (h : PlM NB B Q w P f s) (hN : NfM w F P fi) {n : Nat} (hn : n < 6) :
  Calls Tryz.prog 33 #[.pointer (some ⟨F, 0, none⟩), .int .i64 (n : Int)] w (PolAsked NB B Q P f s (.int .i64 (atP s.g fi.io n : Int)) w) := by
 have hS := Lib.hid (polSize_calls h)
 have he := way64 (n := n) (by omega)
 obtain ⟨a, b, c⟩ : Ino.wayA 64 (n : Int) = 0 ∧ Ino.wayB 64 (n : Int) = n ∧ Ino.wayC 64 (n : Int) = 0 := by
  rcases Ino.way_forms he with ⟨a, b, c, _⟩ | ⟨_, _, _, d, _⟩ | ⟨_, _, _, d⟩
  ·exact ⟨a, b, c⟩
  ·omega
  ·omega
 have hT := Lib.hid (to_calls 64 (n : Int) w (by omega) (by omega))
 have HW := Lib.hid (show wayV 64 (n : Int) = .tuple #[.agg #[.int .i64 0, .int .i64 (n : Int), .int .i64 0], .int .i64 0] by unfold wayV; rw [a, b, c, he])
 have HN := Lib.hid hN
 have hp := hN.p
 have HL := Lib.hid (show fi.io.d.getD n 0 = atP s.g fi.io n from (if_pos hn).symm)
 have HPl := Lib.hid h
 clear h hN he a b c
 go_enter Tryz.func33, Tryz.ntmps33
 go_wp2_with fail
 refine hS.out.mono ?_
 rintro e w_ ⟨rfl, rfl⟩
 go_wp2_with fail
 refine hT.out.mono ?_
 rintro e w1 ⟨rfl, hb1⟩
 rw [HW.out]
 have HB1 := Lib.hid hb1
 have HN1 := Lib.hid (HN.out.on hb1)
 clear hb1
 go_upto_region 6 with fail
 have HB2 := Lib.hid (HB1.out.alloc HB1.out.size (.cells #[.int .i64 0, .int .i64 (n : Int), .int .i64 0] 93))
 have hq := Blk.new w1 93 #[.int .i64 0, .int .i64 (n : Int), .int .i64 0]
 have q1 := hq.cellv (i := 1) rfl
 have HQ := Lib.hid q1
 have hd := (HN1.out.on ((Below.refl w1.heap.size w1).alloc (Nat.le_refl _) (.cells #[.int .i64 0, .int .i64 (n : Int), .int .i64 0] 93))).d hn
 rw [HL.out] at hd
 have HD := Lib.hid hd
 obtain ⟨L, hL⟩ : ∃ L, L = atP s.g fi.io n := ⟨_, rfl⟩
 rw [← hL] at HD
 have HLe := Lib.hid hL
 clear hq q1 hd hp hL HL
 generalize w1.alloc (.cells #[.int .i64 0, .int .i64 (n : Int), .int .i64 0] 93) = W2 at *
 generalize w1.heap.size = Q at *
 have g0 : (0 : Int) ≤ (n : Int) := by omega
 have g1 : (n : Int) < 6 := by omega
 refine wp_region_noPanic ?_
 refine wp_region_held_drew (S := (fun W' => W'.cell? ⟨Q, 1, none⟩ = some (.int .i64 (n : Int)) ∧ W'.cell? ⟨F, 4 + n, none⟩ = some (.int .i64 (L : Nat)))) (by kernel_rfl) ⟨HQ.out, HD.out⟩ (fun hS0 => ?_)
 refine takeV 0 (v := (.pointer (some ⟨F, 0, none⟩))) rfl (by kernel_rfl) (by kernel_rfl) (by kernel_rfl) (fun _ _ _ h => h) (by rfl) (fun _ _ => rfl) (by assumption) ?_
 try simp only [layR]
 refine takeV 1 (v := (.pointer (some ⟨Q, 1, none⟩))) rfl (by kernel_rfl) (by kernel_rfl) (by kernel_rfl) (fun _ _ _ h => h) (by rfl) (fun W hSw => ?_) (by assumption) ?_
 ·skip
  go_simp
 try simp only [layR]
 refine takeV 2 (v := (.int .i64 (n : Int))) rfl (by kernel_rfl) (by kernel_rfl) (by kernel_rfl) (fun _ _ _ h => h) (by rfl) (fun W hSw => ?_) (by assumption) ?_
 ·have y9 := hSw.1
  go_simp
 try simp only [layR]
 refine takeV 3 (v := (.pointer (some ⟨F, 0, none⟩))) rfl (by kernel_rfl) (by kernel_rfl) (by kernel_rfl) (fun _ _ _ h => h) (by rfl) (fun W hSw => ?_) (by assumption) ?_
 ·skip
  go_simp
 try simp only [layR]
 refine takeV 4 (v := (.pointer (some ⟨F, 1, none⟩))) rfl (by kernel_rfl) (by kernel_rfl) (by kernel_rfl) (fun _ _ _ h => h) (by rfl) (fun W hSw => ?_) (by assumption) ?_
 ·skip
  go_simp
 try simp only [layR]
 refine takeV 5 (v := (.pointer (some ⟨F, 4, none⟩))) rfl (by kernel_rfl) (by kernel_rfl) (by kernel_rfl) (fun _ _ _ h => h) (by rfl) (fun W hSw => ?_) (by assumption) ?_
 ·skip
  go_simp
 try simp only [layR]
 refine takeV 6 (v := (.pointer (some ⟨F, 4 + n, none⟩))) rfl (by kernel_rfl) (by kernel_rfl) (by kernel_rfl) (fun _ _ _ h => h) (by rfl) (fun W hSw => ?_) (by assumption) ?_
 ·skip
  go_simp
 try simp only [layR]
 refine takeV 7 (v := (.int .i64 (L : Nat))) rfl (by kernel_rfl) (by kernel_rfl) (by kernel_rfl) (fun _ _ _ h => h) (by rfl) (fun W hSw => ?_) (by assumption) ?_
 ·have y9 := hSw.2
  go_simp
 try simp only [layR]
 refine takeV 8 (v := (.int .i64 (L : Nat))) rfl (by kernel_rfl) (by kernel_rfl) (by kernel_rfl) (fun _ _ _ h => h) (by rfl) (fun _ _ => rfl) (by assumption) ?_
 try simp only [layR]
 refine wpAnyH_done (by kernel_rfl) ?_ _
 refine NoPanic.normal ?_
 clear hS0
 go_wp2
 go_ret
 refine ⟨?_, HPl.out.on (HB2.out.then_ (below_drew W2)), Kq.of (HB2.out.then_ (below_drew W2))⟩
 rw [← HLe.out]
 rfl
theorem gd_lt (h : PlM NB B Q w P f s) {p : Nat} (hp : Gd s p) : p < 8192 := hp.lt h.ok h.bd
set_option maxRecDepth 100000 in
theorem nodAt1_calls {fi : Nf} {F : Nat} (h : PlM NB B Q w P f s) (hN : NfM w F P fi) (hF : ¬ Q F) (hR : Wf s fi.io) {n : Nat} (hn6 : 6 ≤ n) (hn : n < 38) :
  Calls Tryz.prog 33 #[.pointer (some ⟨F, 0, none⟩), .int .i64 (n : Int)] w (PolAsked NB B Q P f s (.int .i64 (atP s.g fi.io n : Int)) w) := by
 have hS := Lib.hid (polSize_calls h)
 have he := way64 (n := n) (by omega)
 obtain ⟨a, b, c⟩ : Ino.wayA 64 (n : Int) = 1 ∧ Ino.wayB 64 (n : Int) = ((n - 6 : Nat) : Int) ∧ Ino.wayC 64 (n : Int) = 0 := by
  rcases Ino.way_forms he with ⟨_, _, _, d⟩ | ⟨a, b, c, d, _⟩ | ⟨_, _, _, d⟩
  ·omega
  ·exact ⟨a, by omega, c⟩
  ·omega
 have hT := Lib.hid (to_calls 64 (n : Int) w (by omega) (by omega))
 have HW := Lib.hid (show wayV 64 (n : Int) = .tuple #[.agg #[.int .i64 1, .int .i64 ((n - 6 : Nat) : Int), .int .i64 0], .int .i64 0] by unfold wayV; rw [a, b, c, he])
 have hat : ptP s.g fi.io.s (n - 6) = atP s.g fi.io n := by unfold atP; rw [if_neg (by omega), if_pos hn]
 have hgl := gd_lt h (hR.at_ (n := n) (by omega))
 obtain ⟨m, hm⟩ : ∃ m, m = n - 6 := ⟨_, rfl⟩
 rw [← hm] at HW hat
 rw [← hat] at hgl
 rw [← hat]
 have HGl := Lib.hid hgl
 have hm32 : m < 32 := by omega
 have HN := Lib.hid hN
 have hp := hN.p
 have HP := Lib.hid h
 have HR := Lib.hid hR
 have HFn := Lib.hid hF
 clear h hN hR he a b c hm hat hgl
 go_enter Tryz.func33, Tryz.ntmps33
 go_wp2_with fail
 refine hS.out.mono ?_
 rintro e w_ ⟨rfl, rfl⟩
 go_wp2_with fail
 refine hT.out.mono ?_
 rintro e w1 ⟨rfl, hb1⟩
 rw [HW.out]
 have HB1 := Lib.hid hb1
 have HN1 := Lib.hid (HN.out.on hb1)
 have HP1 := Lib.hid (HP.out.on hb1)
 clear hb1
 go_upto_region 8 with fail
 have hba := (Below.refl w1.heap.size w1).alloc (Nat.le_refl _) (.cells #[.int .i64 1, .int .i64 (m : Int), .int .i64 0] 93)
 have HB2 := Lib.hid (HB1.out.then_ hba)
 have HN2 := Lib.hid (HN1.out.on hba)
 have HP2 := Lib.hid (HP1.out.on hba).drew
 have HQ := Lib.hid (Blk.cellv (Blk.new w1 93 #[.int .i64 1, .int .i64 (m : Int), .int .i64 0]) (i := 1) rfl)
 have HD := Lib.hid HN2.out.s
 have hQl : w1.heap.size < (w1.alloc (.cells #[.int .i64 1, .int .i64 (m : Int), .int .i64 0] 93)).heap.size := by simp
 have HQn := Lib.hid HB1.out.size
 clear hp hba
 generalize w1.alloc (.cells #[.int .i64 1, .int .i64 (m : Int), .int .i64 0] 93) = W2 at *
 generalize w1.heap.size = Z at *
 have HC := Lib.hid (nodPointer_calls HP2.out (F := F) (n := fi.io.s) (k := m) (HN2.out.on (below_drew W2)).p HR.out.ws hm32 HGl.out)
 have HZn := Lib.hid (HP.out.not_new HQn.out)
 refine wp_region_noPanic ?_
 refine wp_region_held_drew (S := (fun W' => W'.cell? ⟨Z, 1, none⟩ = some (.int .i64 (m : Int)) ∧ W'.cell? ⟨F, 10, none⟩ = some (.int .i64 (fi.io.s : Nat)))) (by kernel_rfl) ⟨HQ.out, HD.out⟩ (fun hS0 => ?_)
 refine takeV 0 (v := (.pointer (some ⟨F, 0, none⟩))) rfl (by kernel_rfl) (by kernel_rfl) (by kernel_rfl) (fun _ _ _ h => h) (by rfl) (fun _ _ => rfl) (by assumption) ?_
 try simp only [layR]
 refine takeV 1 (v := (.pointer (some ⟨F, 0, none⟩))) rfl (by kernel_rfl) (by kernel_rfl) (by kernel_rfl) (fun _ _ _ h => h) (by rfl) (fun _ _ => rfl) (by assumption) ?_
 try simp only [layR]
 refine takeV 2 (v := (.pointer (some ⟨F, 0, none⟩))) rfl (by kernel_rfl) (by kernel_rfl) (by kernel_rfl) (fun _ _ _ h => h) (by rfl) (fun W hSw => ?_) (by assumption) ?_
 ·skip
  go_simp
 try simp only [layR]
 refine takeV 3 (v := (.pointer (some ⟨F, 1, none⟩))) rfl (by kernel_rfl) (by kernel_rfl) (by kernel_rfl) (fun _ _ _ h => h) (by rfl) (fun W hSw => ?_) (by assumption) ?_
 ·skip
  go_simp
 try simp only [layR]
 refine takeV 4 (v := (.pointer (some ⟨F, 10, none⟩))) rfl (by kernel_rfl) (by kernel_rfl) (by kernel_rfl) (fun _ _ _ h => h) (by rfl) (fun W hSw => ?_) (by assumption) ?_
 ·skip
  go_simp
 try simp only [layR]
 refine takeV 5 (v := (.int .i64 (fi.io.s : Nat))) rfl (by kernel_rfl) (by kernel_rfl) (by kernel_rfl) (fun _ _ _ h => h) (by rfl) (fun W hSw => ?_) (by assumption) ?_
 ·have y9 := hSw.2
  go_simp
 try simp only [layR]
 refine takeV 6 (v := (.pointer (some ⟨Z, 1, none⟩))) rfl (by kernel_rfl) (by kernel_rfl) (by kernel_rfl) (fun _ _ _ h => h) (by rfl) (fun W hSw => ?_) (by assumption) ?_
 ·skip
  go_simp
 try simp only [layR]
 refine takeV 7 (v := (.int .i64 (m : Int))) rfl (by kernel_rfl) (by kernel_rfl) (by kernel_rfl) (fun _ _ _ h => h) (by rfl) (fun W hSw => ?_) (by assumption) ?_
 ·have y9 := hSw.1
  go_simp
 try simp only [layR]
 refine wpAnyH_ready (rs := [8]) (by kernel_rfl) (by simp) ?_
 refine AllReadyH.cons rfl (fun K' hK => ?_) AllReadyH.nil
 go_simp
 refine HC.out.mono ?_
 rintro e w3 ⟨rfl, hp3, hk3⟩
 have HK3 := Lib.hid ((Kq.of (T := Q) (HB2.out.then_ (below_drew W2))).trans hk3)
 have HP3 := Lib.hid hp3
 refine hK.out _ _ (show _ ∧ _ from ⟨(World.cell?_of_block (a := ⟨Z, 1, none⟩) (hk3.block Z hQl HZn.out)).trans HQ.out, (World.cell?_of_block (a := ⟨F, 10, none⟩) (hk3.block F HN2.out.lt HFn.out)).trans HD.out⟩) (fun hS1 => ?_)
 try simp only [layR]
 clear hp3 hk3
 refine takeV 9 (v := (.int .i64 (ptP s.g fi.io.s m : Nat))) rfl (by kernel_rfl) (by kernel_rfl) (by kernel_rfl) (fun _ _ _ h => h) (by rfl) (fun _ _ => rfl) (by assumption) ?_
 try simp only [layR]
 refine wpAnyH_done (by kernel_rfl) ?_ _
 refine NoPanic.normal ?_
 clear hS0 hS1
 go_wp2
 go_ret
 exact ⟨rfl, HP3.out, HK3.out⟩
set_option maxRecDepth 100000 in
theorem nodAt2_calls {fi : Nf} {F : Nat} (h : PlM NB B Q w P f s) (hN : NfM w F P fi) (hF : ¬ Q F) (hR : Wf s fi.io) {n : Nat} (hn6 : 38 ≤ n) (hn : n < 1062) :
  Calls Tryz.prog 33 #[.pointer (some ⟨F, 0, none⟩), .int .i64 (n : Int)] w (PolAsked NB B Q P f s (.int .i64 (atP s.g fi.io n : Int)) w) := by
 have hS := Lib.hid (polSize_calls h)
 have he := way64 (n := n) (by omega)
 obtain ⟨a, b, c⟩ : Ino.wayA 64 (n : Int) = 2 ∧ Ino.wayB 64 (n : Int) = (((n - 38) / 32 : Nat) : Int) ∧ Ino.wayC 64 (n : Int) = (((n - 38) % 32 : Nat) : Int) := by
  rcases Ino.way_forms he with ⟨_, _, _, d⟩ | ⟨_, _, _, _, d⟩ | ⟨a, b, c, d⟩
  ·omega
  ·omega
  ·exact ⟨a, by omega, by omega⟩
 have hT := Lib.hid (to_calls 64 (n : Int) w (by omega) (by omega))
 have HW := Lib.hid (show wayV 64 (n : Int) = .tuple #[.agg #[.int .i64 2, .int .i64 (((n - 38) / 32 : Nat) : Int), .int .i64 (((n - 38) % 32 : Nat) : Int)], .int .i64 0] by unfold wayV; rw [a, b, c, he])
 have hat : ptP s.g (ptP s.g fi.io.b ((n - 38) / 32)) ((n - 38) % 32) = atP s.g fi.io n := by unfold atP; rw [if_neg (by omega), if_neg (by omega)]
 have hgl := gd_lt h (hR.at_ (n := n) (by omega))
 obtain ⟨m, hm⟩ : ∃ m, m = (n - 38) / 32 := ⟨_, rfl⟩
 obtain ⟨q, hq⟩ : ∃ q, q = (n - 38) % 32 := ⟨_, rfl⟩
 rw [← hm, ← hq] at HW hat
 rw [← hat] at hgl
 rw [← hat]
 have HGl := Lib.hid hgl
 have hm32 : m < 32 := by omega
 have hq32 : q < 32 := by omega
 have HN := Lib.hid hN
 have hp := hN.p
 have HP := Lib.hid h
 have HR := Lib.hid hR
 have HFn := Lib.hid hF
 clear h hN hR he a b c hm hq hat hgl
 go_enter Tryz.func33, Tryz.ntmps33
 go_wp2_with fail
 refine hS.out.mono ?_
 rintro e w_ ⟨rfl, rfl⟩
 go_wp2_with fail
 refine hT.out.mono ?_
 rintro e w1 ⟨rfl, hb1⟩
 rw [HW.out]
 have HB1 := Lib.hid hb1
 have HN1 := Lib.hid (HN.out.on hb1)
 have HP1 := Lib.hid (HP.out.on hb1)
 clear hb1
 go_upto_region 9 with fail
 have hba := (Below.refl w1.heap.size w1).alloc (Nat.le_refl _) (.cells #[.int .i64 2, .int .i64 (m : Int), .int .i64 (q : Int)] 93)
 have HB2 := Lib.hid (HB1.out.then_ hba)
 have HN2 := Lib.hid (HN1.out.on hba)
 have HP2 := Lib.hid (HP1.out.on hba).drew
 have HQ := Lib.hid (Blk.cellv (Blk.new w1 93 #[.int .i64 2, .int .i64 (m : Int), .int .i64 (q : Int)]) (i := 1) rfl)
 have HQ2 := Lib.hid (Blk.cellv (Blk.new w1 93 #[.int .i64 2, .int .i64 (m : Int), .int .i64 (q : Int)]) (i := 2) rfl)
 have HQb := Lib.hid (Blk.new w1 93 #[.int .i64 2, .int .i64 (m : Int), .int .i64 (q : Int)])
 have HD := Lib.hid HN2.out.b
 have HQn := Lib.hid HB1.out.size
 clear hp hba
 generalize w1.alloc (.cells #[.int .i64 2, .int .i64 (m : Int), .int .i64 (q : Int)] 93) = W2 at *
 generalize w1.heap.size = Z at *
 have HC := Lib.hid (nodPointer_calls HP2.out (F := F) (n := fi.io.b) (k := m) (HN2.out.on (below_drew W2)).p HR.out.wb hm32 (gd_lt HP.out (HR.out.bj m hm32)))
 have HZn := Lib.hid (HP.out.not_new HQn.out)
 have hQl : Z < W2.heap.size := (Array.getElem?_eq_some_iff.1 HQb.out).1
 refine wp_region_noPanic ?_
 refine wp_region_held_drew (S := (fun W' => (W'.cell? ⟨Z, 1, none⟩ = some (.int .i64 (m : Int)) ∧ W'.cell? ⟨Z, 2, none⟩ = some (.int .i64 (q : Int))) ∧ W'.cell? ⟨F, 11, none⟩ = some (.int .i64 (fi.io.b : Nat)))) (by kernel_rfl) ⟨⟨HQ.out, HQ2.out⟩, HD.out⟩ (fun hS0 => ?_)
 refine takeV 0 (v := (.pointer (some ⟨F, 0, none⟩))) rfl (by kernel_rfl) (by kernel_rfl) (by kernel_rfl) (fun _ _ _ h => h) (by rfl) (fun _ _ => rfl) (by assumption) ?_
 try simp only [layR]
 refine takeV 1 (v := (.pointer (some ⟨F, 0, none⟩))) rfl (by kernel_rfl) (by kernel_rfl) (by kernel_rfl) (fun _ _ _ h => h) (by rfl) (fun _ _ => rfl) (by assumption) ?_
 try simp only [layR]
 refine takeV 2 (v := (.pointer (some ⟨F, 0, none⟩))) rfl (by kernel_rfl) (by kernel_rfl) (by kernel_rfl) (fun _ _ _ h => h) (by rfl) (fun _ _ => rfl) (by assumption) ?_
 try simp only [layR]
 refine takeV 3 (v := (.pointer (some ⟨F, 0, none⟩))) rfl (by kernel_rfl) (by kernel_rfl) (by kernel_rfl) (fun _ _ _ h => h) (by rfl) (fun W hSw => ?_) (by assumption) ?_
 ·skip
  go_simp
 try simp only [layR]
 refine takeV 4 (v := (.pointer (some ⟨F, 1, none⟩))) rfl (by kernel_rfl) (by kernel_rfl) (by kernel_rfl) (fun _ _ _ h => h) (by rfl) (fun W hSw => ?_) (by assumption) ?_
 ·skip
  go_simp
 try simp only [layR]
 refine takeV 5 (v := (.pointer (some ⟨F, 11, none⟩))) rfl (by kernel_rfl) (by kernel_rfl) (by kernel_rfl) (fun _ _ _ h => h) (by rfl) (fun W hSw => ?_) (by assumption) ?_
 ·skip
  go_simp
 try simp only [layR]
 refine takeV 6 (v := (.int .i64 (fi.io.b : Nat))) rfl (by kernel_rfl) (by kernel_rfl) (by kernel_rfl) (fun _ _ _ h => h) (by rfl) (fun W hSw => ?_) (by assumption) ?_
 ·have y9 := hSw.2
  go_simp
 try simp only [layR]
 refine takeV 7 (v := (.pointer (some ⟨Z, 1, none⟩))) rfl (by kernel_rfl) (by kernel_rfl) (by kernel_rfl) (fun _ _ _ h => h) (by rfl) (fun W hSw => ?_) (by assumption) ?_
 ·skip
  go_simp
 try simp only [layR]
 refine takeV 8 (v := (.int .i64 (m : Int))) rfl (by kernel_rfl) (by kernel_rfl) (by kernel_rfl) (fun _ _ _ h => h) (by rfl) (fun W hSw => ?_) (by assumption) ?_
 ·have y9 := hSw.1.1
  go_simp
 try simp only [layR]
 refine takeV 10 (v := (.pointer (some ⟨Z, 2, none⟩))) rfl (by kernel_rfl) (by kernel_rfl) (by kernel_rfl) (fun _ _ _ h => h) (by rfl) (fun W hSw => ?_) (by assumption) ?_
 ·skip
  go_simp
 try simp only [layR]
 refine takeV 11 (v := (.int .i64 (q : Int))) rfl (by kernel_rfl) (by kernel_rfl) (by kernel_rfl) (fun _ _ _ h => h) (by rfl) (fun W hSw => ?_) (by assumption) ?_
 ·have y9 := hSw.1.2
  go_simp
 try simp only [layR]
 refine wpAnyH_ready (rs := [9]) (by kernel_rfl) (by simp) ?_
 refine AllReadyH.cons rfl (fun K' hK => ?_) AllReadyH.nil
 go_simp
 refine HC.out.mono ?_
 rintro e w3 ⟨rfl, hp3, hk3⟩
 have HK3 := Lib.hid ((Kq.of (T := Q) (HB2.out.then_ (below_drew W2))).trans hk3)
 have HP3 := Lib.hid hp3
 have HW3 := Lib.hid (show W2.heap.size ≤ w3.heap.size from hk3.size)
 have HN3 := Lib.hid ((HN2.out.on (below_drew W2)).kq hk3 HFn.out)
 have hS1 : (w3.cell? ⟨Z, 1, none⟩ = some (.int .i64 (m : Int)) ∧ w3.cell? ⟨Z, 2, none⟩ = some (.int .i64 (q : Int))) ∧ w3.cell? ⟨F, 11, none⟩ = some (.int .i64 (fi.io.b : Nat)) :=
  ⟨⟨(World.cell?_of_block (a := ⟨Z, 1, none⟩) (hk3.block Z hQl HZn.out)).trans HQ.out, (World.cell?_of_block (a := ⟨Z, 2, none⟩) (hk3.block Z hQl HZn.out)).trans HQ2.out⟩, (World.cell?_of_block (a := ⟨F, 11, none⟩) (hk3.block F HN2.out.lt HFn.out)).trans HD.out⟩
 refine hK.out _ _ hS1 (fun hS2 => ?_)
 try simp only [layR]
 clear hk3 hp3
 have HC2 := Lib.hid (nodPointer_calls HP3.out (F := F) (n := ptP s.g fi.io.b m) (k := q) HN3.out.p (HR.out.bj m hm32) hq32 HGl.out)
 refine wpAnyH_ready (rs := [12]) (by kernel_rfl) (by simp) ?_
 refine AllReadyH.cons rfl (fun K' hK => ?_) AllReadyH.nil
 go_simp
 refine HC2.out.mono ?_
 rintro e w4 ⟨rfl, hp4, hk4⟩
 have HK4 := Lib.hid (HK3.out.trans hk4)
 have HP4 := Lib.hid hp4
 have hS3 : (w4.cell? ⟨Z, 1, none⟩ = some (.int .i64 (m : Int)) ∧ w4.cell? ⟨Z, 2, none⟩ = some (.int .i64 (q : Int))) ∧ w4.cell? ⟨F, 11, none⟩ = some (.int .i64 (fi.io.b : Nat)) := by
  have hQ3 : Z < w3.heap.size := Nat.lt_of_lt_of_le hQl HW3.out
  exact ⟨⟨(World.cell?_of_block (a := ⟨Z, 1, none⟩) (hk4.block Z hQ3 HZn.out)).trans hS1.1.1, (World.cell?_of_block (a := ⟨Z, 2, none⟩) (hk4.block Z hQ3 HZn.out)).trans hS1.1.2⟩, (World.cell?_of_block (a := ⟨F, 11, none⟩) (hk4.block F HN3.out.lt HFn.out)).trans hS1.2⟩
 refine hK.out _ _ hS3 (fun hS4 => ?_)
 try simp only [layR]
 clear hk4 hp4 hS1 hS3
 refine takeV 13 (v := (.int .i64 (ptP s.g (ptP s.g fi.io.b m) q : Nat))) rfl (by kernel_rfl) (by kernel_rfl) (by kernel_rfl) (fun _ _ _ h => h) (by rfl) (fun _ _ => rfl) (by assumption) ?_
 try simp only [layR]
 refine wpAnyH_done (by kernel_rfl) ?_ _
 refine NoPanic.normal ?_
 clear hS0 hS2 hS4
 go_wp2
 go_ret
 exact ⟨rfl, HP4.out, HK4.out⟩
theorem nodAt_calls {fi : Nf} {F : Nat} (h : PlM NB B Q w P f s) (hN : NfM w F P fi) (hF : ¬ Q F) (hR : Wf s fi.io) {n : Nat} (hn : n < 1062) :
  Calls Tryz.prog 33 #[.pointer (some ⟨F, 0, none⟩), .int .i64 (n : Int)] w (PolAsked NB B Q P f s (.int .i64 (atP s.g fi.io n : Int)) w) := by
 by_cases h6 : n < 6
 ·exact nodAt0_calls h hN h6
 ·by_cases h38 : n < 38
  ·exact nodAt1_calls h hN hF hR (by omega) h38
  ·exact nodAt2_calls h hN hF hR (by omega) hn
end Go.Proofs.YtcppkaphlcflgaaGreat
namespace Go.Proofs.YtcppkaphlcflgaaGreat
open Go.RowKit Pol Nod
variable {NB B P : Nat} {Q : Nat → Prop} {w w' : World} {f : Fm} {s : Ps}

section
variable {F : Nat} {fi : Nf}
theorem NfM.setD (h : NfM w F P fi) {n : Nat} (hn : n < 6) (tt : Nat) : NfM (w.setCell ⟨F, 4 + n, none⟩ (.int .i64 (tt : Int))) F P { fi with io := { fi.io with d := fi.io.d.set n tt } } := by
 refine ⟨?_, by show (fi.io.d.set n tt).length = 6; rw [List.length_set]; exact h.dl⟩
 have hb := h.blk.set (4 + n) (.int .i64 (tt : Int))
 have e : (nfL P fi).toArray.setIfInBounds (4 + n) (.int .i64 (tt : Int)) = (nfL P { fi with io := { fi.io with d := fi.io.d.set n tt } }).toArray := by
  rw [List.setIfInBounds_toArray]
  congr 1
  have hd := h.dl
  unfold nfL
  rw [List.set_append_left _ _ (by simp [hd]; omega), List.set_append_right _ _ (by simp)]
  simp only [List.length_cons, List.length_nil, Nat.zero_add, Nat.reduceAdd, Nat.add_sub_cancel_left]
  rw [List.map_set]
  rfl
 rw [e] at hb
 exact hb
theorem NfM.setS (h : NfM w F P fi) (tt : Nat) : NfM (w.setCell ⟨F, 10, none⟩ (.int .i64 (tt : Int))) F P { fi with io := { fi.io with s := tt } } := by
 refine ⟨?_, h.dl⟩
 have hb := h.blk.set 10 (.int .i64 (tt : Int))
 have e : (nfL P fi).toArray.setIfInBounds 10 (.int .i64 (tt : Int)) = (nfL P { fi with io := { fi.io with s := tt } }).toArray := by
  rw [List.setIfInBounds_toArray]
  congr 1
  have hd := h.dl
  unfold nfL
  rw [List.set_append_right _ _ (by simp [hd])]
  simp [hd, Pol.iV]
 rw [e] at hb
 exact hb
theorem NfM.setB (h : NfM w F P fi) (tt : Nat) : NfM (w.setCell ⟨F, 11, none⟩ (.int .i64 (tt : Int))) F P { fi with io := { fi.io with b := tt } } := by
 refine ⟨?_, h.dl⟩
 have hb := h.blk.set 11 (.int .i64 (tt : Int))
 have e : (nfL P fi).toArray.setIfInBounds 11 (.int .i64 (tt : Int)) = (nfL P { fi with io := { fi.io with b := tt } }).toArray := by
  rw [List.setIfInBounds_toArray]
  congr 1
  have hd := h.dl
  unfold nfL
  rw [List.set_append_right _ _ (by simp [hd])]
  simp [hd, Pol.iV]
 rw [e] at hb
 exact hb
end
def NodSet (NB B : Nat) (Q : Nat → Prop) (F P : Nat) (f : Fm) (s : Ps) (fi : Nf) (io : Spr.Io) (w : World) (e : Ending) (w' : World) : Prop :=
 (∃ v, e = .returned v) ∧ PlM NB B (Up Q w w') w' P f s ∧ NfM w' F P { fi with io := io } ∧ Kq (fun q => Q q ∨ q = F) w w'
theorem nodSet_end {w2 w3 w4 : World} {F : Nat} {fi : Nf} {io : Spr.Io} {s' : Ps} (h : PlM NB B Q w P f s) (hb : Below w.heap.size w w2) (h3 : PlR NB B Q w2 w3 P f s') (hk : Kq (fun q => q = F) w3 w4) (hF : ¬ Q F) (hl : F < w2.heap.size) (hN : NfM w4 F P { fi with io := io }) : NodSet NB B Q F P f s' fi io w (.returned (.tuple #[])) w4 := by
 have h4 := PlR.from_ hb h3 h.base
 have hs := h4.size
 have hsk := hk.size
 have hb2 := hb.size
 refine ⟨⟨_, rfl⟩, (h3.1.kq hk fun q hq e => h3.far hF hl (e ▸ hq)).more (fun q hq => ?_) fun q hq => ?_, hN, (h4.2.mono fun q h => .inl h).trans (hk.mono fun q e => .inr e)⟩
 ·rcases hq with h | h
  ·exact .inl h
  ·exact .inr ⟨by omega, by omega⟩
 ·rcases hq with h5 | h5
  ·have := h.bnd q h5; omega
  ·have := h.base; omega
theorem pointS_np (s : Ps) (p k tt : Nat) : (pointS s p k tt).1.np = s.np := by
 have h := pointS_eq (s := s) (p := p) (k := k) (tt := tt) rfl rfl
 rw [h]
 by_cases h0 : p = 0
 ·simp only [h0, if_true]
  split <;> rfl
 ·simp only [h0, if_false]
  split <;> rfl
set_option maxRecDepth 100000 in
set_option maxHeartbeats 4000000 in
theorem nodSet0_calls {fi : Nf} {F tt : Nat} (h : PlM NB B Q w P f s) (hN : NfM w F P fi) (hF : ¬ Q F) {n : Nat} (hn : n < 6) :
  Calls Tryz.prog 35 #[.pointer (some ⟨F, 0, none⟩), .int .i64 (n : Int), .int .i64 (tt : Int)] w (NodSet NB B Q F P f (setS s fi.io n tt).1 fi (setS s fi.io n tt).2 w) := by
 have hS := Lib.hid (polSize_calls h)
 have he := way64 (n := n) (by omega)
 obtain ⟨a, b, c⟩ : Ino.wayA 64 (n : Int) = 0 ∧ Ino.wayB 64 (n : Int) = (n : Int) ∧ Ino.wayC 64 (n : Int) = 0 := by
  rcases Ino.way_forms he with ⟨a, b, c, _⟩ | ⟨_, _, _, d, _⟩ | ⟨_, _, _, d⟩
  ·exact ⟨a, b, c⟩
  ·omega
  ·omega
 have hT := Lib.hid (to_calls 64 (n : Int) w (by omega) (by omega))
 have HW := Lib.hid (show wayV 64 (n : Int) = .tuple #[.agg #[.int .i64 0, .int .i64 (n : Int), .int .i64 0], .int .i64 0] by unfold wayV; rw [a, b, c, he])
 have HSs := Lib.hid (show setS s fi.io n tt = (s, { fi.io with d := fi.io.d.set n tt }) from if_pos hn)
 have HN := Lib.hid hN
 have hp := hN.p
 have HPl := Lib.hid h
 have HFn := Lib.hid hF
 clear h hN he a b c hF
 go_enter Tryz.func35, Tryz.ntmps35
 go_wp2_with fail
 refine hS.out.mono ?_
 rintro e w_ ⟨rfl, rfl⟩
 go_wp2_with fail
 refine hT.out.mono ?_
 rintro e w1 ⟨rfl, hb1⟩
 rw [HW.out]
 have HB1 := Lib.hid hb1
 have HN1 := Lib.hid (HN.out.on hb1)
 clear hb1
 go_upto_region 3 with fail
 have hba := (Below.refl w1.heap.size w1).alloc (Nat.le_refl _) (.cells #[.int .i64 0, .int .i64 (n : Int), .int .i64 0] 93)
 have HB2 := Lib.hid (HB1.out.then_ hba)
 have HQ := Lib.hid (Blk.new w1 93 #[.int .i64 0, .int .i64 (n : Int), .int .i64 0])
 have HN2 := Lib.hid (HN1.out.on hba)
 have HZ := Lib.hid (show F < w1.heap.size ∧ w.heap.size ≤ w1.heap.size from ⟨HN1.out.lt, HB1.out.size⟩)
 have HP2 := Lib.hid ((HPl.out.on (HB1.out.then_ hba)).drew)
 clear hp hba
 generalize w1.alloc (.cells #[.int .i64 0, .int .i64 (n : Int), .int .i64 0] 93) = W2 at *
 generalize w1.heap.size = Z at *
 have HBd := Lib.hid (HB2.out.then_ (below_drew W2))
 have HNd := Lib.hid (HN2.out.on (below_drew W2))
 have HZn := Lib.hid (HPl.out.not_new HZ.out.2)
 have g0 : (0 : Int) ≤ (n : Int) := by omega
 have g1 : (n : Int) < 6 := by omega
 refine wp_region_noPanic ?_
 refine wp_region_held_drew (S := (fun W' => Blk W' Z 93 #[.int .i64 0, .int .i64 (n : Int), .int .i64 0])) (by kernel_rfl) HQ.out.drew (fun hS0 => ?_)
 refine takeV 0 (v := (.pointer (some ⟨F, 0, none⟩))) rfl (by kernel_rfl) (by kernel_rfl) (by kernel_rfl) (fun _ _ _ h => h) (by rfl) (fun _ _ => rfl) (by assumption) ?_
 try simp only [layR]
 refine takeV 1 (v := (.pointer (some ⟨Z, 1, none⟩))) rfl (by kernel_rfl) (by kernel_rfl) (by kernel_rfl) (fun _ _ _ h => h) (by rfl) (fun W hSw => ?_) (by assumption) ?_
 ·skip
  go_simp
 try simp only [layR]
 refine takeV 2 (v := (.int .i64 (n : Int))) rfl (by kernel_rfl) (by kernel_rfl) (by kernel_rfl) (fun _ _ _ h => h) (by rfl) (fun W hSw => ?_) (by assumption) ?_
 ·have y9 := hSw.cellv (i := 1) rfl
  go_simp
 try simp only [layR]
 refine takeV 3 (v := (.int .i64 (tt : Int))) rfl (by kernel_rfl) (by kernel_rfl) (by kernel_rfl) (fun _ _ _ h => h) (by rfl) (fun _ _ => rfl) (by assumption) ?_
 try simp only [layR]
 refine takeV 4 (v := (.pointer (some ⟨F, 0, none⟩))) rfl (by kernel_rfl) (by kernel_rfl) (by kernel_rfl) (fun _ _ _ h => h) (by rfl) (fun W hSw => ?_) (by assumption) ?_
 ·skip
  go_simp
 try simp only [layR]
 refine takeV 5 (v := (.pointer (some ⟨F, 1, none⟩))) rfl (by kernel_rfl) (by kernel_rfl) (by kernel_rfl) (fun _ _ _ h => h) (by rfl) (fun W hSw => ?_) (by assumption) ?_
 ·skip
  go_simp
 try simp only [layR]
 refine takeV 6 (v := (.pointer (some ⟨F, 4, none⟩))) rfl (by kernel_rfl) (by kernel_rfl) (by kernel_rfl) (fun _ _ _ h => h) (by rfl) (fun W hSw => ?_) (by assumption) ?_
 ·skip
  go_simp
 try simp only [layR]
 refine takeV 7 (v := (.pointer (some ⟨F, 4 + n, none⟩))) rfl (by kernel_rfl) (by kernel_rfl) (by kernel_rfl) (fun _ _ _ h => h) (by rfl) (fun W hSw => ?_) (by assumption) ?_
 ·skip
  go_simp
 try simp only [layR]
 have s1 := HNd.out.d hn
 have s2 := HNd.out.blk.frozen (4 + n)
 have HN3 := Lib.hid (HNd.out.setD hn tt)
 have HKs := Lib.hid (show Kq (fun q => q = F) W2.drew (W2.drew.setCell ⟨F, 4 + n, none⟩ (.int .i64 (tt : Int))) from Kq.one ⟨F, 4 + n, none⟩ _)
 refine wpAnyH_ready (rs := [8]) (by kernel_rfl) (by simp) ?_
 refine AllReadyH.cons rfl (fun K' hK => ?_) AllReadyH.nil
 go_simp
 refine hK.out _ _ (hS0.kq HKs.out (fun e => by have := HZ.out; omega)) (fun hS1 => ?_)
 try simp only [layR]
 refine wpAnyH_done (by kernel_rfl) ?_ _
 refine NoPanic.normal ?_
 clear hS0 hS1 s1 s2
 go_wp2
 go_end0
 rw [HSs.out]
 have hp3 := HP2.out.kq HKs.out fun q hq e => HFn.out (e ▸ hq)
 have hsz := HBd.out.size
 have hsk := HKs.out.size
 refine ⟨⟨_, rfl⟩, hp3.more (fun q hq => .inl hq) fun q hq => ?_, HN3.out, ((Kq.of HBd.out).mono fun q h => h).trans (HKs.out.mono fun q e => .inr e)⟩
 rcases hq with h | h
 ·have := HPl.out.bnd q h; exact ⟨this.1, Nat.lt_of_lt_of_le this.2 (Nat.le_trans hsz hsk)⟩
 ·have := HPl.out.base; exact ⟨by omega, h.2⟩
set_option maxRecDepth 100000 in
set_option maxHeartbeats 4000000 in
theorem nodSet1_calls {fi : Nf} {F tt : Nat} (h : PlM NB B Q w P f s) (hN : NfM w F P fi) (hF : ¬ Q F) {n : Nat} (hn6 : 6 ≤ n) (hn : n < 38) (hp0 : Gd s fi.io.s) (hal : fi.io.s = 0 → s.us.length < s.np) (ht : tt < 8192) :
  Calls Tryz.prog 35 #[.pointer (some ⟨F, 0, none⟩), .int .i64 (n : Int), .int .i64 (tt : Int)] w (NodSet NB B Q F P f (setS s fi.io n tt).1 fi (setS s fi.io n tt).2 w) := by
 have hS := Lib.hid (polSize_calls h)
 have he := way64 (n := n) (by omega)
 obtain ⟨a, b, c⟩ : Ino.wayA 64 (n : Int) = 1 ∧ Ino.wayB 64 (n : Int) = ((n - 6 : Nat) : Int) ∧ Ino.wayC 64 (n : Int) = 0 := by
  rcases Ino.way_forms he with ⟨_, _, _, d⟩ | ⟨a, b, c, d, _⟩ | ⟨_, _, _, d⟩
  ·omega
  ·exact ⟨a, by omega, c⟩
  ·omega
 have hT := Lib.hid (to_calls 64 (n : Int) w (by omega) (by omega))
 have HW := Lib.hid (show wayV 64 (n : Int) = .tuple #[.agg #[.int .i64 1, .int .i64 ((n - 6 : Nat) : Int), .int .i64 0], .int .i64 0] by unfold wayV; rw [a, b, c, he])
 have HSs := Lib.hid (show setS s fi.io n tt = ((pointS s fi.io.s (n - 6) tt).1, { fi.io with s := (pointS s fi.io.s (n - 6) tt).2 }) from (if_neg (by omega)).trans (if_pos hn))
 obtain ⟨m, hm⟩ : ∃ m, m = n - 6 := ⟨_, rfl⟩
 rw [← hm] at HW HSs
 have hm32 : m < 32 := by omega
 have HGd := Lib.hid hp0
 have HAl := Lib.hid hal
 clear hm hp0 hal
 have HN := Lib.hid hN
 have hp := hN.p
 have HPl := Lib.hid h
 have HFn := Lib.hid hF
 clear h hN he a b c hF
 go_enter Tryz.func35, Tryz.ntmps35
 go_wp2_with fail
 refine hS.out.mono ?_
 rintro e w_ ⟨rfl, rfl⟩
 go_wp2_with fail
 refine hT.out.mono ?_
 rintro e w1 ⟨rfl, hb1⟩
 rw [HW.out]
 have HB1 := Lib.hid hb1
 have HN1 := Lib.hid (HN.out.on hb1)
 clear hb1
 go_upto_region 5 with fail
 have hba := (Below.refl w1.heap.size w1).alloc (Nat.le_refl _) (.cells #[.int .i64 1, .int .i64 (m : Int), .int .i64 0] 93)
 have HB2 := Lib.hid (HB1.out.then_ hba)
 have HQ := Lib.hid (Blk.new w1 93 #[.int .i64 1, .int .i64 (m : Int), .int .i64 0])
 have HN2 := Lib.hid (HN1.out.on hba)
 have HZ := Lib.hid (show F < w1.heap.size ∧ w.heap.size ≤ w1.heap.size from ⟨HN1.out.lt, HB1.out.size⟩)
 have HP2 := Lib.hid ((HPl.out.on (HB1.out.then_ hba)).drew)
 clear hp hba
 generalize w1.alloc (.cells #[.int .i64 1, .int .i64 (m : Int), .int .i64 0] 93) = W2 at *
 generalize w1.heap.size = Z at *
 have HBd := Lib.hid (HB2.out.then_ (below_drew W2))
 have HNd := Lib.hid (HN2.out.on (below_drew W2))
 have HZn := Lib.hid (HPl.out.not_new HZ.out.2)
 refine wp_region_noPanic ?_
 refine wp_region_held_drew (S := (fun W' => Blk W' Z 93 #[.int .i64 1, .int .i64 (m : Int), .int .i64 0])) (by kernel_rfl) HQ.out.drew (fun hS0 => ?_)
 refine takeV 0 (v := (.pointer (some ⟨F, 0, none⟩))) rfl (by kernel_rfl) (by kernel_rfl) (by kernel_rfl) (fun _ _ _ h => h) (by rfl) (fun _ _ => rfl) (by assumption) ?_
 try simp only [layR]
 refine takeV 1 (v := (.pointer (some ⟨F, 0, none⟩))) rfl (by kernel_rfl) (by kernel_rfl) (by kernel_rfl) (fun _ _ _ h => h) (by rfl) (fun _ _ => rfl) (by assumption) ?_
 try simp only [layR]
 refine takeV 2 (v := (.pointer (some ⟨F, 0, none⟩))) rfl (by kernel_rfl) (by kernel_rfl) (by kernel_rfl) (fun _ _ _ h => h) (by rfl) (fun _ _ => rfl) (by assumption) ?_
 try simp only [layR]
 refine takeV 3 (v := (.pointer (some ⟨F, 0, none⟩))) rfl (by kernel_rfl) (by kernel_rfl) (by kernel_rfl) (fun _ _ _ h => h) (by rfl) (fun W hSw => ?_) (by assumption) ?_
 ·skip
  go_simp
 try simp only [layR]
 refine takeV 4 (v := (.pointer (some ⟨F, 1, none⟩))) rfl (by kernel_rfl) (by kernel_rfl) (by kernel_rfl) (fun _ _ _ h => h) (by rfl) (fun W hSw => ?_) (by assumption) ?_
 ·skip
  go_simp
 try simp only [layR]
 refine takeV 5 (v := (.pointer (some ⟨F, 10, none⟩))) rfl (by kernel_rfl) (by kernel_rfl) (by kernel_rfl) (fun _ _ _ h => h) (by rfl) (fun W hSw => ?_) (by assumption) ?_
 ·skip
  go_simp
 try simp only [layR]
 refine takeV 7 (v := (.pointer (some ⟨Z, 1, none⟩))) rfl (by kernel_rfl) (by kernel_rfl) (by kernel_rfl) (fun _ _ _ h => h) (by rfl) (fun W hSw => ?_) (by assumption) ?_
 ·skip
  go_simp
 try simp only [layR]
 refine takeV 8 (v := (.int .i64 (m : Int))) rfl (by kernel_rfl) (by kernel_rfl) (by kernel_rfl) (fun _ _ _ h => h) (by rfl) (fun W hSw => ?_) (by assumption) ?_
 ·have y9 := hSw.cellv (i := 1) rfl
  go_simp
 try simp only [layR]
 refine takeV 9 (v := (.int .i64 (tt : Int))) rfl (by kernel_rfl) (by kernel_rfl) (by kernel_rfl) (fun _ _ _ h => h) (by rfl) (fun _ _ => rfl) (by assumption) ?_
 try simp only [layR]
 have s1 := HNd.out.s
 refine wpAnyH_ready (rs := [6]) (by kernel_rfl) (by simp) ?_
 refine AllReadyH.cons rfl (fun K' hK => ?_) AllReadyH.nil
 go_simp
 refine hK.out _ _ hS0 (fun hS1 => ?_)
 try simp only [layR]
 refine wpAnyH_ready (rs := [10]) (by kernel_rfl) (by simp) ?_
 refine AllReadyH.cons rfl (fun K' hK => ?_) AllReadyH.nil
 go_simp
 refine (nodPoint_calls HP2.out HNd.out.p HFn.out HNd.out.lt HGd.out HAl.out hm32 ht).mono ?_
 rintro e w3 ⟨rfl, hp3⟩
 have hk3 := hp3.2
 have HN3 := Lib.hid (HNd.out.kq hk3 HFn.out)
 have HQ3 := Lib.hid (hS0.kq hk3 HZn.out)
 have HP3 := Lib.hid hp3
 obtain ⟨r, hr⟩ : ∃ r, r = (pointS s fi.io.s m tt).2 := ⟨_, rfl⟩
 obtain ⟨s', hs'⟩ : ∃ s', s' = (pointS s fi.io.s m tt).1 := ⟨_, rfl⟩
 rw [← hr, ← hs'] at HSs
 rw [← hs'] at HP3
 rw [← hr]
 have HRr := Lib.hid hr
 clear hp3 hk3 hr hs'
 refine hK.out _ _ HQ3.out (fun hS2 => ?_)
 try simp only [layR]
 refine takeV 11 (v := (.pointer (some ⟨F, 0, none⟩))) rfl (by kernel_rfl) (by kernel_rfl) (by kernel_rfl) (fun _ _ _ h => h) (by rfl) (fun W hSw => ?_) (by assumption) ?_
 ·skip
  go_simp
 try simp only [layR]
 refine takeV 12 (v := (.pointer (some ⟨F, 1, none⟩))) rfl (by kernel_rfl) (by kernel_rfl) (by kernel_rfl) (fun _ _ _ h => h) (by rfl) (fun W hSw => ?_) (by assumption) ?_
 ·skip
  go_simp
 try simp only [layR]
 refine takeV 13 (v := (.pointer (some ⟨F, 10, none⟩))) rfl (by kernel_rfl) (by kernel_rfl) (by kernel_rfl) (fun _ _ _ h => h) (by rfl) (fun W hSw => ?_) (by assumption) ?_
 ·skip
  go_simp
 try simp only [layR]
 have s2 := HN3.out.s
 have s3 := HN3.out.blk.frozen 10
 have HN4 := Lib.hid (HN3.out.setS r)
 have HKs := Lib.hid (show Kq (fun q => q = F) w3 (w3.setCell ⟨F, 10, none⟩ (.int .i64 (r : Int))) from Kq.one ⟨F, 10, none⟩ _)
 refine wpAnyH_ready (rs := [14]) (by kernel_rfl) (by simp) ?_
 refine AllReadyH.cons rfl (fun K' hK => ?_) AllReadyH.nil
 go_simp
 refine hK.out _ _ (HQ3.out.kq HKs.out (fun e => by have := HZ.out; omega)) (fun hS3 => ?_)
 try simp only [layR]
 refine wpAnyH_done (by kernel_rfl) ?_ _
 refine NoPanic.normal ?_
 clear hS0 hS1 hS2 hS3 s1 s2 s3
 go_wp2
 go_end0
 rw [HSs.out]
 exact nodSet_end HPl.out HBd.out HP3.out HKs.out HFn.out HNd.out.lt HN4.out
set_option maxRecDepth 100000 in
set_option maxHeartbeats 4000000 in
theorem nodSet2_calls {fi : Nf} {F tt : Nat} (h : PlM NB B Q w P f s) (hN : NfM w F P fi) (hF : ¬ Q F) {n : Nat} (hn6 : 38 ≤ n) (hn : n < 1062) (hp0 : Gd s fi.io.b) (hp1 : Gd s (ptP s.g fi.io.b ((n - 38) / 32))) (hal : ptP s.g fi.io.b ((n - 38) / 32) = 0 → s.us.length < s.np) (ht : tt < 8192) (hp2 : Gd (pointS s (ptP s.g fi.io.b ((n - 38) / 32)) ((n - 38) % 32) tt).1 fi.io.b) (hal2 : fi.io.b = 0 → (pointS s (ptP s.g fi.io.b ((n - 38) / 32)) ((n - 38) % 32) tt).1.us.length < s.np) (ht2 : (pointS s (ptP s.g fi.io.b ((n - 38) / 32)) ((n - 38) % 32) tt).2 < 8192) :
  Calls Tryz.prog 35 #[.pointer (some ⟨F, 0, none⟩), .int .i64 (n : Int), .int .i64 (tt : Int)] w (NodSet NB B Q F P f (setS s fi.io n tt).1 fi (setS s fi.io n tt).2 w) := by
 have hS := Lib.hid (polSize_calls h)
 have he := way64 (n := n) (by omega)
 obtain ⟨a, b, c⟩ : Ino.wayA 64 (n : Int) = 2 ∧ Ino.wayB 64 (n : Int) = (((n - 38) / 32 : Nat) : Int) ∧ Ino.wayC 64 (n : Int) = (((n - 38) % 32 : Nat) : Int) := by
  rcases Ino.way_forms he with ⟨_, _, _, d⟩ | ⟨_, _, _, _, d⟩ | ⟨a, b, c, d⟩
  ·omega
  ·omega
  ·exact ⟨a, by omega, by omega⟩
 have hT := Lib.hid (to_calls 64 (n : Int) w (by omega) (by omega))
 have HW := Lib.hid (show wayV 64 (n : Int) = .tuple #[.agg #[.int .i64 2, .int .i64 (((n - 38) / 32 : Nat) : Int), .int .i64 (((n - 38) % 32 : Nat) : Int)], .int .i64 0] by unfold wayV; rw [a, b, c, he])
 have HSs := Lib.hid (show setS s fi.io n tt = ((pointS (pointS s (ptP s.g fi.io.b ((n - 38) / 32)) ((n - 38) % 32) tt).1 fi.io.b ((n - 38) / 32) (pointS s (ptP s.g fi.io.b ((n - 38) / 32)) ((n - 38) % 32) tt).2).1, { fi.io with b := (pointS (pointS s (ptP s.g fi.io.b ((n - 38) / 32)) ((n - 38) % 32) tt).1 fi.io.b ((n - 38) / 32) (pointS s (ptP s.g fi.io.b ((n - 38) / 32)) ((n - 38) % 32) tt).2).2 }) from (if_neg (by omega)).trans (if_neg (by omega)))
 obtain ⟨m, hm⟩ : ∃ m, m = (n - 38) / 32 := ⟨_, rfl⟩
 obtain ⟨j, hj⟩ : ∃ j, j = (n - 38) % 32 := ⟨_, rfl⟩
 have hm32 : m < 32 := by omega
 have hj32 : j < 32 := by omega
 rw [← hm, ← hj] at HW HSs hp2 hal2 ht2
 rw [← hm] at hp1 hal
 have HGd0 := Lib.hid hp0
 have HGd1 := Lib.hid hp1
 have HAl := Lib.hid hal
 have HNp := Lib.hid (show (pointS s (ptP s.g fi.io.b m) j tt).1.np = s.np from pointS_np ..)
 obtain ⟨s1', hs1'⟩ : ∃ x, x = (pointS s (ptP s.g fi.io.b m) j tt).1 := ⟨_, rfl⟩
 obtain ⟨r1, hr1⟩ : ∃ x, x = (pointS s (ptP s.g fi.io.b m) j tt).2 := ⟨_, rfl⟩
 rw [← hs1', ← hr1] at HSs
 rw [← hs1'] at hp2 hal2 HNp
 rw [← hr1] at ht2
 have HS1' := Lib.hid hs1'
 have HR1' := Lib.hid hr1
 have HGd2 := Lib.hid hp2
 have HAl2 := Lib.hid hal2
 have HT2 := Lib.hid ht2
 clear hm hj hp0 hp1 hal hp2 hal2 hs1' hr1 ht2
 have HN := Lib.hid hN
 have hp := hN.p
 have HPl := Lib.hid h
 have HFn := Lib.hid hF
 clear h hN he a b c hF
 go_enter Tryz.func35, Tryz.ntmps35
 go_wp2_with fail
 refine hS.out.mono ?_
 rintro e w_ ⟨rfl, rfl⟩
 go_wp2_with fail
 refine hT.out.mono ?_
 rintro e w1 ⟨rfl, hb1⟩
 rw [HW.out]
 have HB1 := Lib.hid hb1
 have HN1 := Lib.hid (HN.out.on hb1)
 clear hb1
 go_upto_region 7 with fail
 have hba := (Below.refl w1.heap.size w1).alloc (Nat.le_refl _) (.cells #[.int .i64 2, .int .i64 (m : Int), .int .i64 (j : Int)] 93)
 have HB2 := Lib.hid (HB1.out.then_ hba)
 have HQ := Lib.hid (Blk.new w1 93 #[.int .i64 2, .int .i64 (m : Int), .int .i64 (j : Int)])
 have HN2 := Lib.hid (HN1.out.on hba)
 have HZ := Lib.hid (show F < w1.heap.size ∧ w.heap.size ≤ w1.heap.size from ⟨HN1.out.lt, HB1.out.size⟩)
 have HP2 := Lib.hid ((HPl.out.on (HB1.out.then_ hba)).drew)
 clear hp hba
 generalize w1.alloc (.cells #[.int .i64 2, .int .i64 (m : Int), .int .i64 (j : Int)] 93) = W2 at *
 generalize w1.heap.size = Z at *
 have HBd := Lib.hid (HB2.out.then_ (below_drew W2))
 have HNd := Lib.hid (HN2.out.on (below_drew W2))
 have HZn := Lib.hid (HPl.out.not_new HZ.out.2)
 have HSS := Lib.hid (show ∀ W, Kq Q W2.drew W → Blk W Z 93 #[.int .i64 2, .int .i64 (m : Int), .int .i64 (j : Int)] ∧ W.cell? ⟨F, 11, none⟩ = some (.int .i64 (fi.io.b : Int)) from fun W hW => ⟨HQ.out.drew.kq hW HZn.out, (HNd.out.kq hW HFn.out).b⟩)
 refine wp_region_noPanic ?_
 refine wp_region_held_drew (S := (fun W' => Blk W' Z 93 #[.int .i64 2, .int .i64 (m : Int), .int .i64 (j : Int)] ∧ W'.cell? ⟨F, 11, none⟩ = some (.int .i64 (fi.io.b : Int)))) (by kernel_rfl) (HSS.out _ (Kq.refl _ _)) (fun hS0 => ?_)
 refine takeV 0 (v := (.pointer (some ⟨F, 0, none⟩))) rfl (by kernel_rfl) (by kernel_rfl) (by kernel_rfl) (fun _ _ _ h => h) (by rfl) (fun _ _ => rfl) (by assumption) ?_
 try simp only [layR]
 refine takeV 1 (v := (.pointer (some ⟨F, 0, none⟩))) rfl (by kernel_rfl) (by kernel_rfl) (by kernel_rfl) (fun _ _ _ h => h) (by rfl) (fun _ _ => rfl) (by assumption) ?_
 try simp only [layR]
 refine takeV 2 (v := (.pointer (some ⟨F, 0, none⟩))) rfl (by kernel_rfl) (by kernel_rfl) (by kernel_rfl) (fun _ _ _ h => h) (by rfl) (fun _ _ => rfl) (by assumption) ?_
 try simp only [layR]
 refine takeV 3 (v := (.pointer (some ⟨F, 0, none⟩))) rfl (by kernel_rfl) (by kernel_rfl) (by kernel_rfl) (fun _ _ _ h => h) (by rfl) (fun W hSw => ?_) (by assumption) ?_
 ·skip
  go_simp
 try simp only [layR]
 refine takeV 4 (v := (.pointer (some ⟨F, 1, none⟩))) rfl (by kernel_rfl) (by kernel_rfl) (by kernel_rfl) (fun _ _ _ h => h) (by rfl) (fun W hSw => ?_) (by assumption) ?_
 ·skip
  go_simp
 try simp only [layR]
 refine takeV 5 (v := (.pointer (some ⟨F, 11, none⟩))) rfl (by kernel_rfl) (by kernel_rfl) (by kernel_rfl) (fun _ _ _ h => h) (by rfl) (fun W hSw => ?_) (by assumption) ?_
 ·skip
  go_simp
 try simp only [layR]
 refine takeV 6 (v := (.int .i64 (fi.io.b : Int))) rfl (by kernel_rfl) (by kernel_rfl) (by kernel_rfl) (fun _ _ _ h => h) (by rfl) (fun W hSw => ?_) (by assumption) ?_
 ·have y9 := hSw.2
  go_simp
 try simp only [layR]
 refine takeV 7 (v := (.pointer (some ⟨Z, 1, none⟩))) rfl (by kernel_rfl) (by kernel_rfl) (by kernel_rfl) (fun _ _ _ h => h) (by rfl) (fun W hSw => ?_) (by assumption) ?_
 ·skip
  go_simp
 try simp only [layR]
 refine takeV 8 (v := (.int .i64 (m : Int))) rfl (by kernel_rfl) (by kernel_rfl) (by kernel_rfl) (fun _ _ _ h => h) (by rfl) (fun W hSw => ?_) (by assumption) ?_
 ·have y9 := hSw.1.cellv (i := 1) rfl
  go_simp
 try simp only [layR]
 refine takeV 10 (v := (.pointer (some ⟨Z, 2, none⟩))) rfl (by kernel_rfl) (by kernel_rfl) (by kernel_rfl) (fun _ _ _ h => h) (by rfl) (fun W hSw => ?_) (by assumption) ?_
 ·skip
  go_simp
 try simp only [layR]
 refine takeV 11 (v := (.int .i64 (j : Int))) rfl (by kernel_rfl) (by kernel_rfl) (by kernel_rfl) (fun _ _ _ h => h) (by rfl) (fun W hSw => ?_) (by assumption) ?_
 ·have y9 := hSw.1.cellv (i := 2) rfl
  go_simp
 try simp only [layR]
 refine takeV 12 (v := (.int .i64 (tt : Int))) rfl (by kernel_rfl) (by kernel_rfl) (by kernel_rfl) (fun _ _ _ h => h) (by rfl) (fun _ _ => rfl) (by assumption) ?_
 try simp only [layR]
 refine wpAnyH_ready (rs := [9]) (by kernel_rfl) (by simp) ?_
 refine AllReadyH.cons rfl (fun K' hK => ?_) AllReadyH.nil
 go_simp
 refine (nodPointer_calls HP2.out (F := F) (n := fi.io.b) (k := m) HNd.out.p HGd0.out hm32 (gd_lt HP2.out HGd1.out)).mono ?_
 rintro e w3 ⟨rfl, hp3, hk3⟩
 have HP3 := Lib.hid (PlM.same_ hp3 hk3 HP2.out.base)
 have HN3 := Lib.hid (HNd.out.kq hk3 HFn.out)
 have HK3 := Lib.hid hk3
 clear hp3 hk3
 refine hK.out _ _ (HSS.out w3 HK3.out) (fun hS1 => ?_)
 try simp only [layR]
 refine wpAnyH_ready (rs := [13]) (by kernel_rfl) (by simp) ?_
 refine AllReadyH.cons rfl (fun K' hK => ?_) AllReadyH.nil
 go_simp
 refine (nodPoint_calls HP3.out.1 HN3.out.p (HP3.out.far HFn.out HNd.out.lt) HN3.out.lt HGd1.out HAl.out hj32 ht).mono ?_
 rintro e w4 ⟨rfl, hp4⟩
 rw [← HS1'.out] at hp4
 rw [← HR1'.out]
 have HP4 := Lib.hid (HP3.out.then_ hp4)
 have HN4 := Lib.hid (HN3.out.kq hp4.2 (HP3.out.far HFn.out HNd.out.lt))
 clear hp4
 refine hK.out _ _ (HSS.out w4 HP4.out.2) (fun hS2 => ?_)
 try simp only [layR]
 refine takeV 14 (v := (.int .i64 (r1 : Int))) rfl (by kernel_rfl) (by kernel_rfl) (by kernel_rfl) (fun _ _ _ h => h) (by rfl) (fun _ _ => rfl) (by assumption) ?_
 try simp only [layR]
 refine wpAnyH_done (by kernel_rfl) ?_ _
 refine NoPanic.normal ?_
 clear hS0 hS1 hS2
 have HQ4 := Lib.hid (HSS.out w4 HP4.out.2).1
 go_upto_region 8 with fail
 have HN5 := Lib.hid (HN4.out.on (below_drew w4))
 have HPd := Lib.hid (HP4.out.on (below_drew w4) HP2.out.base)
 have HZ4 := Lib.hid (HPd.out.far HZn.out HQ.out.drew.lt)
 have HF4 := Lib.hid (HPd.out.far HFn.out HNd.out.lt)
 have HP5 := Lib.hid HPd.out.1
 refine wp_region_noPanic ?_
 refine wp_region_held_drew (S := (fun W' => Blk W' Z 93 #[.int .i64 2, .int .i64 (m : Int), .int .i64 (j : Int)])) (by kernel_rfl) HQ4.out.drew (fun hS0 => ?_)
 generalize w4.drew = w5 at *
 refine takeV 0 (v := (.pointer (some ⟨F, 0, none⟩))) rfl (by kernel_rfl) (by kernel_rfl) (by kernel_rfl) (fun _ _ _ h => h) (by rfl) (fun _ _ => rfl) (by assumption) ?_
 try simp only [layR]
 refine takeV 1 (v := (.pointer (some ⟨F, 0, none⟩))) rfl (by kernel_rfl) (by kernel_rfl) (by kernel_rfl) (fun _ _ _ h => h) (by rfl) (fun _ _ => rfl) (by assumption) ?_
 try simp only [layR]
 refine takeV 2 (v := (.pointer (some ⟨F, 0, none⟩))) rfl (by kernel_rfl) (by kernel_rfl) (by kernel_rfl) (fun _ _ _ h => h) (by rfl) (fun _ _ => rfl) (by assumption) ?_
 try simp only [layR]
 refine takeV 3 (v := (.pointer (some ⟨F, 0, none⟩))) rfl (by kernel_rfl) (by kernel_rfl) (by kernel_rfl) (fun _ _ _ h => h) (by rfl) (fun W hSw => ?_) (by assumption) ?_
 ·skip
  go_simp
 try simp only [layR]
 refine takeV 4 (v := (.pointer (some ⟨F, 1, none⟩))) rfl (by kernel_rfl) (by kernel_rfl) (by kernel_rfl) (fun _ _ _ h => h) (by rfl) (fun W hSw => ?_) (by assumption) ?_
 ·skip
  go_simp
 try simp only [layR]
 refine takeV 5 (v := (.pointer (some ⟨F, 11, none⟩))) rfl (by kernel_rfl) (by kernel_rfl) (by kernel_rfl) (fun _ _ _ h => h) (by rfl) (fun W hSw => ?_) (by assumption) ?_
 ·skip
  go_simp
 try simp only [layR]
 refine takeV 7 (v := (.pointer (some ⟨Z, 1, none⟩))) rfl (by kernel_rfl) (by kernel_rfl) (by kernel_rfl) (fun _ _ _ h => h) (by rfl) (fun W hSw => ?_) (by assumption) ?_
 ·skip
  go_simp
 try simp only [layR]
 refine takeV 8 (v := (.int .i64 (m : Int))) rfl (by kernel_rfl) (by kernel_rfl) (by kernel_rfl) (fun _ _ _ h => h) (by rfl) (fun W hSw => ?_) (by assumption) ?_
 ·have y9 := hSw.cellv (i := 1) rfl
  go_simp
 try simp only [layR]
 refine takeV 9 (v := (.int .i64 (r1 : Int))) rfl (by kernel_rfl) (by kernel_rfl) (by kernel_rfl) (fun _ _ _ h => h) (by rfl) (fun _ _ => rfl) (by assumption) ?_
 try simp only [layR]
 have s1 := HN5.out.b
 refine wpAnyH_ready (rs := [6]) (by kernel_rfl) (by simp) ?_
 refine AllReadyH.cons rfl (fun K' hK => ?_) AllReadyH.nil
 go_simp
 refine hK.out _ _ hS0 (fun hS1 => ?_)
 try simp only [layR]
 refine wpAnyH_ready (rs := [10]) (by kernel_rfl) (by simp) ?_
 refine AllReadyH.cons rfl (fun K' hK => ?_) AllReadyH.nil
 go_simp
 refine (nodPoint_calls HP5.out HN5.out.p HF4.out HN5.out.lt HGd2.out (fun h0 => by rw [HNp.out]; exact HAl2.out h0) hm32 HT2.out).mono ?_
 rintro e w6 ⟨rfl, hp6⟩
 have hk6 := hp6.2
 have HN6 := Lib.hid (HN5.out.kq hk6 HF4.out)
 have HQ6 := Lib.hid (hS0.kq hk6 HZ4.out)
 have HP6 := Lib.hid (HPd.out.then_ hp6)
 obtain ⟨r, hr⟩ : ∃ r, r = (pointS s1' fi.io.b m r1).2 := ⟨_, rfl⟩
 obtain ⟨s', hs'⟩ : ∃ s', s' = (pointS s1' fi.io.b m r1).1 := ⟨_, rfl⟩
 rw [← hr, ← hs'] at HSs
 rw [← hs'] at HP6
 rw [← hr]
 clear hp6 hk6 hr hs'
 refine hK.out _ _ HQ6.out (fun hS2 => ?_)
 try simp only [layR]
 refine takeV 11 (v := (.pointer (some ⟨F, 0, none⟩))) rfl (by kernel_rfl) (by kernel_rfl) (by kernel_rfl) (fun _ _ _ h => h) (by rfl) (fun W hSw => ?_) (by assumption) ?_
 ·skip
  go_simp
 try simp only [layR]
 refine takeV 12 (v := (.pointer (some ⟨F, 1, none⟩))) rfl (by kernel_rfl) (by kernel_rfl) (by kernel_rfl) (fun _ _ _ h => h) (by rfl) (fun W hSw => ?_) (by assumption) ?_
 ·skip
  go_simp
 try simp only [layR]
 refine takeV 13 (v := (.pointer (some ⟨F, 11, none⟩))) rfl (by kernel_rfl) (by kernel_rfl) (by kernel_rfl) (fun _ _ _ h => h) (by rfl) (fun W hSw => ?_) (by assumption) ?_
 ·skip
  go_simp
 try simp only [layR]
 have s2 := HN6.out.b
 have s3 := HN6.out.blk.frozen 11
 have HN7 := Lib.hid (HN6.out.setB r)
 have HKs := Lib.hid (show Kq (fun q => q = F) w6 (w6.setCell ⟨F, 11, none⟩ (.int .i64 (r : Int))) from Kq.one ⟨F, 11, none⟩ _)
 refine wpAnyH_ready (rs := [14]) (by kernel_rfl) (by simp) ?_
 refine AllReadyH.cons rfl (fun K' hK => ?_) AllReadyH.nil
 go_simp
 refine hK.out _ _ (HQ6.out.kq HKs.out (fun e => by have := HZ.out; omega)) (fun hS3 => ?_)
 try simp only [layR]
 refine wpAnyH_done (by kernel_rfl) ?_ _
 refine NoPanic.normal ?_
 clear hS0 hS1 hS2 hS3 s1 s2 s3
 go_wp2
 go_end0
 rw [HSs.out]
 exact nodSet_end HPl.out HBd.out HP6.out HKs.out HFn.out HNd.out.lt HN7.out
theorem nodSet_calls {fi : Nf} {F n tt : Nat} (h : PlM NB B Q w P f s) (hN : NfM w F P fi) (hF : ¬ Q F) (ho : SetOk s fi.io n tt) :
  Calls Tryz.prog 35 #[.pointer (some ⟨F, 0, none⟩), .int .i64 (n : Int), .int .i64 (tt : Int)] w (NodSet NB B Q F P f (setS s fi.io n tt).1 fi (setS s fi.io n tt).2 w) := by
 by_cases h6 : n < 6
 ·exact nodSet0_calls h hN hF h6
 ·by_cases h38 : n < 38
  ·obtain ⟨h1, h2⟩ := ho.one (by omega) h38
   exact nodSet1_calls h hN hF (by omega) h38 h1 h2 ho.ht
  ·obtain ⟨h1, h2, h3, h4, h5, h7⟩ := ho.two (by omega)
   exact nodSet2_calls h hN hF (by omega) ho.hn h1 h2 h3 ho.ht h4 h5 h7
end Go.Proofs.YtcppkaphlcflgaaGreat
