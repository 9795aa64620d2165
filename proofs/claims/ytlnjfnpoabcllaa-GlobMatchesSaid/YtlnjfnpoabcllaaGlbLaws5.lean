/-
  The law GlobMatches, walked.
-/
import Derived.Test.YtlnjfnpoabcllaaGlbLaws1
import Derived.Test.YtlnjfnpoabcllaaGlbRMay
namespace Go.Proofs.Ytlnjfnpoabcllaa
open Go.RowKit

theorem Glb.new_yes {l : List UInt8} {ps : List Glb.Prt} (h : (Glb.new l).1 = some ps) : Glb.prts (Pth.parts l) = some ps ∧ (Glb.new l).2 = 0 := by
  unfold Glb.new at h ⊢
  split at h
  · cases h
  · rename_i h1
    split at h
    · cases h
    · rename_i h2
      rw [if_neg h1, if_neg h2]
      cases hp : Glb.prts (Pth.parts l) with
      | none => rw [hp] at h; cases h
      | some qs =>
        rw [hp] at h
        exact ⟨h, rfl⟩
theorem Glb.new_no {l : List UInt8} (h : (Glb.new l).1 = none) : (Glb.new l).2 ≠ 0 := by
  unfold Glb.new at h ⊢
  split at h
  · rename_i h1; rw [if_pos h1]; decide
  · rename_i h1
    split at h
    · rename_i h2; rw [if_neg h1, if_pos h2]; decide
    · rename_i h2
      rw [if_neg h1, if_neg h2]
      cases hp : Glb.prts (Pth.parts l) with
      | none => decide
      | some qs => rw [hp] at h; cases h
set_option maxRecDepth 100000 in
set_option maxHeartbeats 8000000 in
theorem globMatches_walk (s : ByteArray) (a : Option Addr) (n c : Nat) (xs : List (List UInt8)) (w : World) (hs : s.size ≤ 140737488351232) (hx : Arr strV w w.heap.size a n xs) (hnc : n ≤ c) (_cm : c ≤ 8796093022000) (hm : ∀ x ∈ xs, x.length ≤ 140737488351232) :
    Calls Try.prog 5 #[.string s, .slice a n c] w fun e w' => e = .returned (.bool true) ∧ Below w.heap.size w w' := by
  obtain ⟨l, rfl⟩ := strL_of s
  rw [strL_size] at hs
  have HMany := Lib.hid (many_calls a n c xs w hx hm)
  have HX := Lib.hid hx
  clear hx hm
  by_cases h3 : 300 < l.length
  · have g1 : decide (300 < (l.length : Int)) = true := decide_eq_true (by omega)
    go_enter Try.func5, Try.ntmps5
    go_wp2_with fail
    refine (known_calls _).mono ?_
    rintro e wk_ ⟨rfl, h_⟩
    have HBk_ := Lib.hid h_
    clear h_
    go_wp2
    go_ret
    exact ⟨rfl, HBk_.out⟩
  have g1 : decide (300 < (l.length : Int)) = false := decide_eq_false (by omega)
  have HSt := Lib.hid (stars_calls l w (by omega))
  have HNew := Lib.hid (fun u : World => new_calls l u (by omega))
  have HRNew := Lib.hid (fun u : World => rNew_calls l u (by omega))
  have HPl := Lib.hid (show ∀ x ∈ Pth.parts l, x.length ≤ 1000 from fun x hx => by have := Pth.parts_mem' hx; omega)
  have HLen := Lib.hid (show (Pth.parts l).length ≤ 1000 by have := Pth.parts_len l; omega)
  clear h3
  go_enter Try.func5, Try.ntmps5
  go_wp2_with fail
  refine HMany.out.mono ?_
  rintro e w_ ⟨b, rfl, hb, rfl⟩
  cases b with
  | true =>
    clear hb
    go_wp2_with fail
    refine (known_calls _).mono ?_
    rintro e wk_ ⟨rfl, h_⟩
    have HBk_ := Lib.hid h_
    clear h_
    go_wp2
    go_ret
    exact ⟨rfl, HBk_.out⟩
  | false =>
    obtain ⟨ht, hn⟩ := hb rfl
    have HS := Lib.hid (short_of ht)
    clear hb ht
    go_wp2_with fail
    refine HSt.out.mono ?_
    rintro e w1 ⟨m, rfl, hb1⟩
    have HB1 := Lib.hid hb1
    clear hb1
    by_cases h4 : 3 < m
    · have g2 : decide (3 < (m : Int)) = true := decide_eq_true (by omega)
      go_wp2_with fail
      refine (known_calls _).mono ?_
      rintro e wk_ ⟨rfl, h_⟩
      have HBk_ := Lib.hid h_
      clear h_
      go_wp2
      go_ret
      exact ⟨rfl, Below.then_ (HB1.out) HBk_.out⟩
    have g2 : decide (3 < (m : Int)) = false := decide_eq_false (by omega)
    cases hr : (Glb.new l).1 with
    | none =>
      have g3 : ((Glb.new l).2 != 0) = true := by simpa using Glb.new_no hr
      have HNew1 := HNew.out w1
      unfold NewR at HNew1
      have HRNew1 := HRNew.out
      unfold RNewR at HRNew1
      rw [hr] at HNew1
      generalize (Glb.new l).2 = er at *
      have HN1 := Lib.hid HNew1
      have HN2 := Lib.hid HRNew1
      clear hr HNew1 HRNew1 HNew HRNew
      go_wp2_with fail
      refine HN1.out.mono ?_
      rintro e w2 ⟨hb2, rfl⟩
      have HB2 := Lib.hid (HB1.out.then_ hb2)
      clear hb2
      go_wp2_with fail
      refine (HN2.out w2).mono ?_
      rintro e w3 ⟨v, rfl, hb3, _⟩
      have HB3 := Lib.hid (HB2.out.then_ hb3)
      clear hb3
      go_wp2_with fail
      refine (known_calls _).mono ?_
      rintro e wk_ ⟨rfl, h_⟩
      have HBk_ := Lib.hid h_
      clear h_
      go_wp2
      go_ret
      exact ⟨rfl, Below.then_ (HB3.out) HBk_.out⟩
    | some ps =>
      obtain ⟨hps, he⟩ := Glb.new_yes hr
      have HNew1 := HNew.out w1
      unfold NewR at HNew1
      have HRNew1 := HRNew.out
      unfold RNewR at HRNew1
      rw [he] at HRNew1
      rw [hr, he] at HNew1
      have HRN : ((Glb.new l).1 ≠ none) := by rw [hr]; simp
      have HN1 := Lib.hid HNew1
      have HN2 := Lib.hid HRNew1
      clear hr HNew1 HRNew1 HNew HRNew he
      go_wp2_with fail
      refine HN1.out.mono ?_
      rintro e w2 ⟨hb2, pb, a2, n2, c2, rfl, hpp⟩
      have HB2 := Lib.hid (HB1.out.then_ hb2)
      have HP2 := Lib.hid hpp
      clear hb2 hpp
      go_wp2_with fail
      refine (HN2.out w2).mono ?_
      rintro e w3 ⟨v, rfl, hb3, ho⟩
      have HO := Lib.hid (ho HRN)
      have HB3 := Lib.hid (HB2.out.then_ hb3)
      have HP3 := Lib.hid ((HP2.out.on hb3 (Nat.le_refl _)).mono hb3.size)
      obtain ⟨k, hk⟩ : ∃ k, k = (Pth.parts l).length := ⟨_, rfl⟩
      obtain ⟨a3, c3, rfl, hc3⟩ := HO.out.formN hk.symm
      have hk2 : n2 = k := by rw [hk, ← (Glb.prts_at hps).1]; exact HP3.out.len.symm
      have HX3 := Lib.hid (HO.out.arr (by have := HLen.out; omega))
      subst hk2
      have HPs := Lib.hid hps
      clear hb3 ho HRN hk hps
      go_wp2_with fail
      refine (size_calls _ pb a2 n2 c2 ps w3 HP3.out).mono ?_
      rintro e w_ ⟨rfl, rfl⟩
      have hM := match_calls _ pb a2 n2 c2 ps a n c xs w3 HP3.out (Nat.le_refl _) (HX.out.on HB3.out) HS.out
      have HM := Lib.hid hM
      clear hM
      go_wp2_with fail
      refine HM.out.mono ?_
      rintro e w4 ⟨rfl, hb4⟩
      have HB4 := Lib.hid (HB3.out.then_ hb4)
      have hM := rMatch_calls (Pth.parts l) ps HPs.out HPl.out a3 n2 c3 xs a n c w4 (HX3.out.on hb4) hc3 (HX.out.on HB4.out) hnc HS.out
      have HM2 := Lib.hid hM
      have HX4 := Lib.hid (HX3.out.on hb4)
      have HP4 := Lib.hid ((HP3.out.on hb4 (Nat.le_refl _)).mono hb4.size)
      clear hM hb4
      have e1 : Glb.mtB ps xs = Glb.mt (ps.map Glb.abP) xs := rfl
      rw [e1] at HM2
      clear e1
      generalize Glb.mt (ps.map Glb.abP) xs = A at *
      go_wp2_with fail
      refine HM2.out.mono ?_
      rintro e w5 ⟨rfl, hb5⟩
      have HB5 := Lib.hid (HB4.out.then_ hb5)
      have hM := may_calls _ pb a2 n2 c2 ps a n c xs w5 ((HP4.out.on hb5 (Nat.le_refl _)).mono hb5.size) (Nat.le_refl _) (HX.out.on HB5.out) HS.out
      have HM3 := Lib.hid hM
      have HX5 := Lib.hid (HX4.out.on hb5)
      clear hM hb5
      go_wp2_with fail
      refine HM3.out.mono ?_
      rintro e w6 ⟨rfl, hb6⟩
      have HB6 := Lib.hid (HB5.out.then_ hb6)
      have hM := rMay_calls (Pth.parts l) ps HPs.out HPl.out a3 n2 c3 xs a n c w6 (HX5.out.on hb6) hc3 (HX.out.on HB6.out) hnc HS.out
      have HM4 := Lib.hid hM
      clear hM hb6
      generalize mayB ps xs = D at *
      go_wp2_with fail
      refine HM4.out.mono ?_
      rintro e w7 ⟨rfl, hb7⟩
      have HB7 := Lib.hid (HB6.out.then_ hb7)
      clear hb7
      go_wp2_with fail
      refine (known_calls _).mono ?_
      rintro e wk_ ⟨rfl, h_⟩
      have HBk_ := Lib.hid h_
      clear h_
      go_wp2
      go_ret
      exact ⟨rfl, Below.then_ (HB7.out) HBk_.out⟩
end Go.Proofs.Ytlnjfnpoabcllaa
