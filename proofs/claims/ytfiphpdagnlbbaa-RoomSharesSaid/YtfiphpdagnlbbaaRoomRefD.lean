/-
  The reference's Dir; More, the program's and the reference's.
-/
import Derived.Test.YtfiphpdagnlbbaaRoomDir
import Derived.Test.YtfiphpdagnlbbaaRoomRefF
import Derived.Test.YtfiphpdagnlbbaaRoomRefWith
namespace Go.Proofs.Ytfiphpdagnlbbaa
open Go.RowKit

theorem ref_pages {s n q r : Int} (h : Ino.Sized s) (h0 : 0 ≤ n) (hq : q = (n * 16) / s) (hr : r = (n * 16) % s) : 0 ≤ r ∧ 0 ≤ q ∧ (0 < r → (Room.dirN s n : Int) = q + 1) ∧ (¬ 0 < r → (Room.dirN s n : Int) = q) := by
  unfold Room.dirN
  subst hq hr
  rcases h with rfl | rfl | rfl | rfl <;> omega
set_option maxHeartbeats 4000000 in
theorem refDir_calls (s n : Int) (w : World) (hn : -9223372036854775808 ≤ n ∧ n ≤ 9223372036854775807) (h5 : n ≤ 6000 ∨ 1099511627776 ≤ n) :
    Calls Try.prog 15 #[.int .i64 s, .int .i64 n] w (FileR (Room.dir s n) w) := by
  by_cases hs : Ino.Sized s
  case neg =>
    rw [Room.dir_arg (.inl hs)]
    have hd : decide (Ino.Sized s) = false := decide_eq_false hs
    clear hs
    go_enter Try.func15, Try.ntmps15
    go_wp2_with fail
    refine (refSized_calls _ _).mono ?_
    rintro e w_ ⟨rfl, rfl⟩
    rw [hd]
    go_wp2
    go_ret2
    exact ⟨rfl, Below.refl _ _⟩
  have hd : decide (Ino.Sized s) = true := decide_eq_true hs
  by_cases h0 : n < 0
  · rw [Room.dir_arg (.inr h0)]
    have g0 : decide (n < 0) = true := decide_eq_true h0
    clear hs
    go_enter Try.func15, Try.ntmps15
    go_wp2_with fail
    refine (refSized_calls _ _).mono ?_
    rintro e w_ ⟨rfl, rfl⟩
    rw [hd]
    go_wp2
    go_ret2
    exact ⟨rfl, Below.refl _ _⟩
  have g0 : decide (n < 0) = false := decide_eq_false h0
  obtain ⟨hm0, hm1⟩ := most_ge hs
  by_cases h1 : Ino.most s / 16 < n
  · rw [Room.dir_idx hs (by omega) h1]
    have HM := Lib.hid (refMost_calls s w)
    have g1 : decide (Ino.most s / 16 < n) = true := decide_eq_true h1
    clear hs
    go_enter Try.func15, Try.ntmps15
    go_wp2_with fail
    refine (refSized_calls _ _).mono ?_
    rintro e w_ ⟨rfl, rfl⟩
    rw [hd]
    go_wp2_with fail
    refine HM.out.mono ?_
    rintro e w_ ⟨rfl, rfl⟩
    generalize Ino.most s = ms at *
    go_wp2
    go_ret2
    exact ⟨rfl, Below.refl _ _⟩
  rw [Room.dir_ok hs (by omega) h1]
  have hn6 : n ≤ 6000 := by omega
  have hdl := Room.dirN_le hs (by omega) hn6
  have HM := Lib.hid (refMost_calls s w)
  have g1 : decide (Ino.most s / 16 < n) = false := decide_eq_false h1
  have hsz : 0 < s ∧ s ≤ 512 := by rcases hs with rfl | rfl | rfl | rfl <;> exact ⟨by decide, by decide⟩
  obtain ⟨hs0, hs5⟩ := hsz
  have hsn : s ≠ 0 := by omega
  obtain ⟨q, hq⟩ : ∃ q, q = (n * 16) / s := ⟨_, rfl⟩
  obtain ⟨r, hr⟩ : ∃ r, r = (n * 16) % s := ⟨_, rfl⟩
  obtain ⟨hr0, hq0, hp1, hp0⟩ := ref_pages hs (by omega) hq hr
  obtain ⟨k, hk⟩ : ∃ k, k = Room.dirN s n := ⟨_, rfl⟩
  rw [← hk] at hdl hp1 hp0 ⊢
  have HU := Lib.hid (upto_calls k w (by omega))
  have HQ := Lib.hid (show Int.tdiv (n * 16) s = q by rw [Int.tdiv_eq_ediv_of_nonneg (by omega), ← hq])
  have HR := Lib.hid (show Int.tmod (n * 16) s = r by rw [Int.tmod_eq_emod_of_nonneg (by omega), ← hr])
  have hs' : (s == 0) = false := by rw [beq_eq_false_iff_ne]; exact hsn
  clear hq hr hs hk
  by_cases hrr : 0 < r
  · have HK := Lib.hid (hp1 hrr)
    have g3 : decide (0 < r) = true := decide_eq_true hrr
    have hqb : q ≤ 100000 := by have := hp1 hrr; omega
    clear hp1 hp0
    go_enter Try.func15, Try.ntmps15
    go_wp2_with fail
    refine (refSized_calls _ _).mono ?_
    rintro e w_ ⟨rfl, rfl⟩
    rw [hd]
    go_wp2_with fail
    refine HM.out.mono ?_
    rintro e w_ ⟨rfl, rfl⟩
    generalize Ino.most s = ms at *
    have hqd := HQ.out
    have hrd := HR.out
    have hU := HU.out
    rw [HK.out] at hU
    go_wp2_with fail
    refine hU.mono ?_
    rintro e w1 ⟨v1, rfl, ho1, hb1⟩
    obtain ⟨a1, c1, rfl, hc1⟩ := ho1.formN (n := k) (Room.upto_len k)
    have HA1 := Lib.hid (ho1.arr (by rw [Room.upto_len]; omega))
    have HB1 := Lib.hid hb1
    have HF := Lib.hid (refFile_calls s a1 k c1 (Room.upto k) w1 (HA1.out) (fun x hx => by rw [Room.upto_mem] at hx; omega) (by omega))
    clear ho1 hb1 hqd hrd hU
    go_wp2_with fail
    refine HF.out.mono ?_
    rintro e w2 ⟨rfl, hb2⟩
    have HB2 := Lib.hid (HB1.out.then_ hb2)
    clear hb2
    go_wp2
    go_ret2
    exact ⟨rfl, HB2.out⟩
  · have HK := Lib.hid (hp0 hrr)
    have g3 : decide (0 < r) = false := decide_eq_false hrr
    have hqb : q ≤ 100000 := by have := hp0 hrr; omega
    clear hp1 hp0
    go_enter Try.func15, Try.ntmps15
    go_wp2_with fail
    refine (refSized_calls _ _).mono ?_
    rintro e w_ ⟨rfl, rfl⟩
    rw [hd]
    go_wp2_with fail
    refine HM.out.mono ?_
    rintro e w_ ⟨rfl, rfl⟩
    generalize Ino.most s = ms at *
    have hqd := HQ.out
    have hrd := HR.out
    have hU := HU.out
    rw [HK.out] at hU
    go_wp2_with fail
    refine hU.mono ?_
    rintro e w1 ⟨v1, rfl, ho1, hb1⟩
    obtain ⟨a1, c1, rfl, hc1⟩ := ho1.formN (n := k) (Room.upto_len k)
    have HA1 := Lib.hid (ho1.arr (by rw [Room.upto_len]; omega))
    have HB1 := Lib.hid hb1
    have HF := Lib.hid (refFile_calls s a1 k c1 (Room.upto k) w1 (HA1.out) (fun x hx => by rw [Room.upto_mem] at hx; omega) (by omega))
    clear ho1 hb1 hqd hrd hU
    go_wp2_with fail
    refine HF.out.mono ?_
    rintro e w2 ⟨rfl, hb2⟩
    have HB2 := Lib.hid (HB1.out.then_ hb2)
    clear hb2
    go_wp2
    go_ret2
    exact ⟨rfl, HB2.out⟩
end Go.Proofs.Ytfiphpdagnlbbaa
