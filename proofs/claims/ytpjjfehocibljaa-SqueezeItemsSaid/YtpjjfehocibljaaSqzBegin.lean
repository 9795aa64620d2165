/-
  The law SqueezeBegins.
-/
import Derived.Test.YtpjjfehocibljaaSqzTop
import Derived.Test.YtpjjfehocibljaaSqzItems
import Derived.Test.YtpjjfehocibljaaNumAmong
namespace Go.Proofs.Ytpjjfehocibljaa
open Go.RowKit

namespace Sqz
theorem itemsAt_len (b : List UInt8) : (itemsAt b 0).length = (items b).length := by
  have := congrArg List.length (itemsAt_is b 0).1
  simpa using this
theorem begins {b A : List UInt8} (h : openR b 1048576 = (A, 0)) (j : Nat) : ∃ part, openR (b.take (ends b j)) 1048576 = (part, 0) ∧ part <+: A := by
  unfold openR at h ⊢
  rw [if_neg (by omega)] at h ⊢
  exact opn_begins b [] (by simp) h (by decide) (by decide) j
theorem none_left {b A : List UInt8} (h : openR b 1048576 = (A, 0)) (hi : (itemsAt b 0).length = 0) : b = [] := by
  unfold openR at h
  rw [if_neg (by omega)] at h
  exact items_none h (by decide) (List.eq_nil_of_length_eq_zero (by rw [← itemsAt_len]; exact hi))
theorem itemsAt_count (b : List UInt8) (i : Nat) : (itemsAt b i).length ≤ b.length - i := by
  induction hn : b.length - i using Nat.strongRecOn generalizing i with
  | ind n ih =>
    subst hn
    by_cases h : i < b.length
    · by_cases h2 : (item (b.drop i)).2.2 = 0
      · rw [itemsAt_stop h2]; simp
      · have hs := item_size h2
        rw [itemsAt_step h h2, List.length_cons]
        have := ih (b.length - (i + (item (b.drop i)).2.2)) (by omega) (i + (item (b.drop i)).2.2) rfl
        omega
    · rw [itemsAt_end h]; simp
end Sqz
set_option maxHeartbeats 4000000 in
theorem squeezeBegins_walk (a : Option Addr) (n c : Nat) (b : List UInt8) (at_ : Int) (w : World) (hx : Bytes w w.heap.size a n b) (hnc : n ≤ c) (_ : c ≤ 140737488351232) (lo : -9223372036854775808 ≤ at_) (hi : at_ ≤ 9223372036854775807) :
    Calls Try.prog 6 #[.slice a n c, .int .i64 at_] w fun x w' => x = .returned (.bool true) ∧ Below w.heap.size w w' := by
  cases hlg : Sqz.longB n
  case true =>
    clear hx
    go_enter Try.func6, Try.ntmps6
    go_wp2_with fail
    refine (long_calls _ _ _ _).mono ?_
    rintro e w_ ⟨rfl, rfl⟩
    rw [hlg]
    go_wp2_with fail
    refine (known_calls _).mono ?_
    rintro e wk_ ⟨rfl, h_⟩
    have HBk_ := Lib.hid h_
    clear h_
    go_wp2
    go_ret
    exact ⟨rfl, HBk_.out⟩
  have hn7 := Sqz.longB_no hlg
  have HX := Lib.hid hx
  have HL := Lib.hid hx.len
  have C1 := Lib.hid (open_calls a n c b 1048576 w hx hnc)
  have C2 := Lib.hid (fun W (hb : Below w.heap.size w W) => refItems_calls a n c b W (hx.on hb) (by omega))
  have hrl := Sqz.openR_len b 1048576
  have HBg := Lib.hid (fun A (h : Sqz.openR b 1048576 = (A, 0)) => Sqz.begins h)
  have HNo := Lib.hid (fun A (h : Sqz.openR b 1048576 = (A, 0)) => Sqz.none_left h)
  have HEnd := Lib.hid (fun j (h : j < (Sqz.itemsAt b 0).length) => (Sqz.itemsAt_is b 0).2 j h)
  have HEL := Lib.hid (fun j => Sqz.ends_le b j)
  have hcount := Sqz.itemsAt_count b 0
  rw [HL.out] at hcount
  unfold OpenR at C1
  unfold ItemsR at C2
  generalize Sqz.openR b 1048576 = R at *
  obtain ⟨A, E⟩ := R
  dsimp only at *
  clear hx
  by_cases hE : E = 0
  case neg =>
    have g1 : ((E : Int) != 0) = true := by rw [bne_iff_ne]; omega
    clear hE
    go_enter Try.func6, Try.ntmps6
    go_wp2_with fail
    refine (long_calls _ _ _ _).mono ?_
    rintro e w_ ⟨rfl, rfl⟩
    rw [hlg]
    go_wp2_with fail
    refine C1.out.mono ?_
    rintro e w1 ⟨⟨v1, rfl, ho⟩, hb⟩
    have HB1 := Lib.hid hb
    clear ho hb
    go_wp2_with fail
    refine (known_calls _).mono ?_
    rintro e wk_ ⟨rfl, h_⟩
    have HBk_ := Lib.hid h_
    clear h_
    go_wp2
    go_ret
    exact ⟨rfl, Below.then_ (HB1.out) HBk_.out⟩
  subst hE
  by_cases hz : (Sqz.itemsAt b 0).length = 0
  · have hbn := HNo.out A rfl hz
    obtain rfl : n = 0 := by rw [← HL.out, hbn]; rfl
    have HZ := Lib.hid hz
    clear hbn hz hcount
    go_enter Try.func6, Try.ntmps6
    go_wp2_with fail
    refine (long_calls _ _ _ _).mono ?_
    rintro e w_ ⟨rfl, rfl⟩
    rw [hlg]
    go_wp2_with fail
    refine C1.out.mono ?_
    rintro e w1 ⟨⟨v1, rfl, ho⟩, hb⟩
    have HB1 := Lib.hid hb
    clear ho hb
    go_wp2_with fail
    refine (C2.out _ HB1.out).mono ?_
    rintro e w2 ⟨⟨v2, rfl, ho⟩, hb⟩
    obtain ⟨a2, c2, rfl, _⟩ := ho.formN HZ.out
    have HB2 := Lib.hid (HB1.out.then_ hb)
    clear ho hb
    go_wp2_with fail
    refine (known_calls _).mono ?_
    rintro e wk_ ⟨rfl, h_⟩
    have HBk_ := Lib.hid h_
    clear h_
    go_wp2
    go_ret
    exact ⟨rfl, Below.then_ (HB2.out) HBk_.out⟩
  obtain ⟨q, hq⟩ : ∃ q, q = (Sqz.itemsAt b 0).length := ⟨_, rfl⟩
  rw [← hq] at hz hcount
  have HQ := Lib.hid hq
  have g2 : ((q : Int) == 0) = false := by rw [beq_eq_false_iff_ne]; omega
  obtain ⟨m, hm, hmq⟩ := among_nat at_ q (by omega)
  have hmL : m < (Sqz.itemsAt b 0).length := by rw [← hq]; exact hmq
  have hend := HEnd.out m hmL
  obtain ⟨part, hp1, hp2⟩ := HBg.out A rfl (m + 1)
  have hel := HEL.out (m + 1)
  rw [List.drop_zero, Nat.zero_add] at hend
  have CA := Lib.hid (fun W => among_calls at_ (q : Int) W lo hi (by omega))
  rw [hm] at CA
  obtain ⟨z, hzz⟩ : ∃ z, z = Sqz.ends b (m + 1) := ⟨_, rfl⟩
  rw [← hzz] at hend hp1 hel
  have hzn : z ≤ n := by rw [← HL.out]; exact hel
  obtain ⟨p, hpp⟩ : ∃ p, p = part.length := ⟨_, rfl⟩
  have hpA := hp2.length_le
  obtain ⟨qa, hqa⟩ : ∃ qa, qa = A.length := ⟨_, rfl⟩
  rw [← hpp, ← hqa] at hpA
  rw [← hqa] at hrl
  have HPT := Lib.hid (show A.take p = part by obtain ⟨t, ht⟩ := hp2; rw [← ht, hpp, List.take_left])
  have HEN := Lib.hid hend
  have HP1 := Lib.hid hp1
  have HPP := Lib.hid hpp
  have HQA := Lib.hid hqa
  have hcut := cutB_to a n c z (by omega)
  have C3 := Lib.hid (fun W (hb : Below w.heap.size w W) => open_calls a z c (b.take z) 1048576 W ((HX.out.on hb).take hzn) (by omega))
  unfold OpenR at C3
  rw [hp1] at C3
  dsimp only at C3
  have g5 : decide ((p : Int) ≤ (qa : Int)) = true := decide_eq_true (by omega)
  have hg2 : q ≤ 70000 := by omega
  have HCut := Lib.hid hcut
  clear hq hend hp1 hp2 hel hzz hpp hqa hm hcut
  go_enter Try.func6, Try.ntmps6
  go_wp2_with fail
  refine (long_calls _ _ _ _).mono ?_
  rintro e w_ ⟨rfl, rfl⟩
  rw [hlg]
  clear hlg
  go_wp2_with fail
  refine C1.out.mono ?_
  rintro e w1 ⟨⟨v1, rfl, ho⟩, hb⟩
  obtain ⟨a1, d1, rfl, hd1⟩ := ho.formN HQA.out.symm
  have HY1 := Lib.hid (ho.arr (by rw [← HQA.out]; omega))
  have HB1 := Lib.hid hb
  clear ho hb
  go_wp2_with fail
  refine (C2.out _ HB1.out).mono ?_
  rintro e w2 ⟨⟨v2, rfl, ho⟩, hb⟩
  obtain ⟨a2, d2, rfl, _⟩ := ho.formN HQ.out.symm
  have HY2 := Lib.hid (HY1.out.on hb)
  have HB2 := Lib.hid (HB1.out.then_ hb)
  have hli := ho.arr (by rw [← HQ.out]; omega)
  obtain ⟨gb, go_, hml, rfl, _, hcl⟩ := hli.atv (k := m) (by omega)
  have hcell := hcl 2 _ rfl
  rw [HEN.out] at hcell
  clear ho hb hli hcl
  go_wp2_with fail
  refine (CA.out _).mono ?_
  rintro e w_ ⟨rfl, rfl⟩
  go_wp2_with fail
  refine (C3.out _ HB2.out).mono ?_
  rintro e w3 ⟨⟨v3, rfl, ho⟩, hb⟩
  obtain ⟨a3, d3, rfl, _⟩ := ho.formN HPP.out.symm
  have HB3 := Lib.hid (HB2.out.then_ hb)
  have hc3 := cutB_to a1 qa d1 p (by omega)
  have HSA := Lib.hid (same_yes a3 a1 p d3 p d1 part w3 (ho.arr (by rw [← HPP.out]; omega)) (by have h := (HY2.out.on hb).take (k := p) hpA; rw [HPT.out] at h; exact h))
  clear ho hb
  go_wp2_with fail
  refine HSA.out.mono ?_
  rintro e w_ ⟨rfl, rfl⟩
  go_wp2_with fail
  refine (known_calls _).mono ?_
  rintro e wk_ ⟨rfl, h_⟩
  have HBk_ := Lib.hid h_
  clear h_
  go_wp2
  go_ret
  exact ⟨rfl, Below.then_ (HB3.out) HBk_.out⟩
end Go.Proofs.Ytpjjfehocibljaa
