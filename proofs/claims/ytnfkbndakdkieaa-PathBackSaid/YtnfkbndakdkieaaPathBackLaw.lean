/-
  The walk of the law PathBack.
-/
import Derived.Test.YtnfkbndakdkieaaPathBackM
import Derived.Test.YtnfkbndakdkieaaPathSlash
namespace Go.Proofs.Ytnfkbndakdkieaa
open Go.RowKit

set_option maxHeartbeats 4000000 in
theorem pathBack_walk (a : Option Addr) (na ca : Nat) (xs : List (List UInt8)) (s : ByteArray) (w : World)
    (hx : Arr strV w w.heap.size a na xs) (hac : na ≤ ca) (_ : ca ≤ 8796093022000) (mx : ∀ x ∈ xs, x.length ≤ 140737488351232) (hs : s.size ≤ 140737488351232) :
    Calls Try.prog 6 #[.slice a na ca, .string s] w fun e w' => e = .returned (.bool true) ∧ Below w.heap.size w w' := by
  obtain ⟨p, rfl⟩ := strL_of s
  rw [strL_size] at hs
  have HX := Lib.hid hx
  have sa := Lib.hid (size_calls a na ca xs w hx mx)
  have HP := Lib.hid (parse_calls p)
  clear hx mx
  go_enter Try.func6, Try.ntmps6
  go_wp2_with fail
  refine sa.out.mono ?_
  rintro e w' ⟨m1, rfl, t1, rfl⟩
  have HT := Lib.hid t1
  clear t1
  by_cases h1 : 900 < m1
  · have g1 : decide (900 < (m1 : Int)) = true := decide_eq_true (by omega)
    go_wp2_with fail
    refine (known_calls _).mono ?_
    rintro e wk_ ⟨rfl, h_⟩
    have HBk_ := Lib.hid h_
    clear h_
    go_wp2
    go_ret
    exact ⟨rfl, HBk_.out⟩
  have g1 : decide (900 < (m1 : Int)) = false := decide_eq_false (by omega)
  have ht : Pth.total xs ≤ 1000000 := by have := HT.out (by omega); omega
  go_wp2_with fail
  refine (plong_calls p _).mono ?_
  rintro e w_ ⟨rfl, rfl⟩
  by_cases hl : 2000 < p.length
  · rw [decide_eq_true hl]
    clear hl
    go_wp2_with fail
    refine (known_calls _).mono ?_
    rintro e wk_ ⟨rfl, h_⟩
    have HBk_ := Lib.hid h_
    clear h_
    go_wp2
    go_ret
    exact ⟨rfl, HBk_.out⟩
  rw [decide_eq_false hl]
  -- joined, and read
  have jc := Lib.hid (join_calls a na ca xs w HX.out hac ht)
  unfold JoinR at jc
  have hjl := Pth.joinP_len xs
  have hJ := Lib.hid (show ∀ S, Pth.joinP xs = (S, 0) → S.length ≤ 255 → Pth.parse S = (xs, 0) from fun S h h2 => Pth.join_parse h h2)
  clear HT h1
  generalize Pth.joinP xs = J at *
  obtain ⟨S, E⟩ := J
  simp only at hjl
  go_wp2_with fail
  refine jc.out.mono ?_
  rintro e w1 ⟨rfl, hb⟩
  have HB1 := Lib.hid hb
  clear hb
  have pc := Lib.hid (parse_calls S w1 (by omega))
  have pl := parse_fst_len S
  unfold ParseR at pc
  have hJ2 := Lib.hid (fun (hE : E = 0) (h2 : S.length ≤ 255) => hJ.out S (by rw [hE]) h2)
  generalize Pth.parse S = M at *
  obtain ⟨ms, F⟩ := M
  simp only at pl
  go_wp2_with fail
  refine pc.out.mono ?_
  rintro e w2 ⟨⟨v2, rfl, ho⟩, hb⟩
  obtain ⟨a2, d2, rfl, _⟩ := ho.form
  have HM2 := Lib.hid (ho.arr (by omega))
  have HB2 := Lib.hid (HB1.out.then_ hb)
  clear ho hb
  -- the second half
  have qc := Lib.hid (fun w => parse_calls p w hs)
  have ql := parse_fst_len p
  have qt := Pth.total_parse p
  unfold ParseR at qc
  have hQ := Lib.hid (fun ns (h : Pth.parse p = (ns, 0)) => Pth.parse_join h)
  generalize Pth.parse p = N at *
  obtain ⟨ns, G⟩ := N
  simp only at ql qt
  have hjl2 := Pth.joinP_len ns
  have jc2 := Lib.hid (fun a n c w h1 h2 => join_calls a n c ns w h1 h2 (by omega))
  unfold JoinR at jc2
  have hQ2 := Lib.hid (fun (hG : G = 0) => hQ.out ns (by rw [hG]))
  generalize Pth.joinP ns = K at *
  obtain ⟨T, H⟩ := K
  simp only at hjl2
  have pc2 := Lib.hid (fun w => parse_calls T w (by omega))
  have pl2 := parse_fst_len T
  unfold ParseR at pc2
  generalize hO : Pth.parse T = O at *
  obtain ⟨os, I⟩ := O
  have HOO := Lib.hid hO
  clear hO
  simp only at pl2
  by_cases hE : E = 0
  · by_cases h255 : S.length ≤ 255
    · obtain ⟨rfl, rfl⟩ := Prod.mk.inj (hJ2.out hE h255)
      subst hE
      have g3 : decide ((S.length : Int) ≤ 255) = true := decide_eq_true (by omega)
      clear hJ hJ2 h255 hl
      go_wp2_with fail
      refine (same_texts _ _ _ _ _ _ _ _ _ (HX.out.on HB2.out) HM2.out).mono ?_
      rintro e w3 ⟨rfl, hb⟩
      have HB3 := Lib.hid (HB2.out.then_ hb)
      clear hb
      rw [decide_eq_true rfl]
      go_wp2_with fail
      refine (qc.out _).mono ?_
      rintro e w4 ⟨⟨v4, rfl, ho⟩, hb⟩
      obtain ⟨a4, d4, rfl, hd4⟩ := ho.form
      have HN4 := Lib.hid (ho.arr (by omega))
      have HB4 := Lib.hid (HB3.out.then_ hb)
      clear ho hb
      go_wp2_with fail
      refine (jc2.out _ _ _ _ HN4.out hd4).mono ?_
      rintro e w5 ⟨rfl, hb⟩
      have HN5 := Lib.hid (HN4.out.on hb)
      have HB5 := Lib.hid (HB4.out.then_ hb)
      clear hb
      go_wp2_with fail
      refine (pc2.out _).mono ?_
      rintro e w6 ⟨⟨v6, rfl, ho⟩, hb⟩
      obtain ⟨a6, d6, rfl, _⟩ := ho.form
      have HO6 := Lib.hid (ho.arr (by omega))
      have HN6 := Lib.hid (HN5.out.on hb)
      have HB6 := Lib.hid (HB5.out.then_ hb)
      clear ho hb
      by_cases hG : G = 0
      · obtain ⟨s', e1, e2, e3⟩ := hQ2.out hG
        obtain ⟨rfl, rfl⟩ := Prod.mk.inj e1
        have e4 := HOO.out.symm.trans e3
        obtain ⟨rfl, rfl⟩ := Prod.mk.inj e4
        subst hG
        have g7 : decide ((T.length : Int) ≤ (p.length : Int)) = true := decide_eq_true (by omega)
        have g8 : decide (T.length ≤ p.length) = true := decide_eq_true e2
        clear e1 e3 e4 hQ hQ2 HOO
        go_wp2_with fail
        refine (same_texts _ _ _ _ _ _ _ _ _ HN6.out HO6.out).mono ?_
        rintro e w7 ⟨rfl, hb⟩
        have HB7 := Lib.hid (HB6.out.then_ hb)
        clear hb
        rw [decide_eq_true rfl]
        go_wp2_with fail
        refine (known_calls _).mono ?_
        rintro e wk_ ⟨rfl, h_⟩
        have HBk_ := Lib.hid h_
        clear h_
        go_wp2
        go_ret
        exact ⟨rfl, Below.then_ (HB7.out) HBk_.out⟩
      · have g7 : (G == 0) = false := by simpa using hG
        have g8 : (G != 0) = true := by simpa using hG
        clear hG hQ hQ2 HOO
        go_wp2_with fail
        refine (known_calls _).mono ?_
        rintro e wk_ ⟨rfl, h_⟩
        have HBk_ := Lib.hid h_
        clear h_
        go_wp2
        go_ret
        exact ⟨rfl, Below.then_ (HB6.out) HBk_.out⟩
    · have g3 : decide ((S.length : Int) ≤ 255) = false := decide_eq_false (by omega)
      subst hE
      clear hJ hJ2 h255 hl
      go_wp2_with fail
      refine (qc.out _).mono ?_
      rintro e w4 ⟨⟨v4, rfl, ho⟩, hb⟩
      obtain ⟨a4, d4, rfl, hd4⟩ := ho.form
      have HN4 := Lib.hid (ho.arr (by omega))
      have HB4 := Lib.hid (HB2.out.then_ hb)
      clear ho hb
      go_wp2_with fail
      refine (jc2.out _ _ _ _ HN4.out hd4).mono ?_
      rintro e w5 ⟨rfl, hb⟩
      have HN5 := Lib.hid (HN4.out.on hb)
      have HB5 := Lib.hid (HB4.out.then_ hb)
      clear hb
      go_wp2_with fail
      refine (pc2.out _).mono ?_
      rintro e w6 ⟨⟨v6, rfl, ho⟩, hb⟩
      obtain ⟨a6, d6, rfl, _⟩ := ho.form
      have HO6 := Lib.hid (ho.arr (by omega))
      have HN6 := Lib.hid (HN5.out.on hb)
      have HB6 := Lib.hid (HB5.out.then_ hb)
      clear ho hb
      by_cases hG : G = 0
      · obtain ⟨s', e1, e2, e3⟩ := hQ2.out hG
        obtain ⟨rfl, rfl⟩ := Prod.mk.inj e1
        have e4 := HOO.out.symm.trans e3
        obtain ⟨rfl, rfl⟩ := Prod.mk.inj e4
        subst hG
        have g7 : decide ((T.length : Int) ≤ (p.length : Int)) = true := decide_eq_true (by omega)
        have g8 : decide (T.length ≤ p.length) = true := decide_eq_true e2
        clear e1 e3 e4 hQ hQ2 HOO
        go_wp2_with fail
        refine (same_texts _ _ _ _ _ _ _ _ _ HN6.out HO6.out).mono ?_
        rintro e w7 ⟨rfl, hb⟩
        have HB7 := Lib.hid (HB6.out.then_ hb)
        clear hb
        rw [decide_eq_true rfl]
        go_wp2_with fail
        refine (known_calls _).mono ?_
        rintro e wk_ ⟨rfl, h_⟩
        have HBk_ := Lib.hid h_
        clear h_
        go_wp2
        go_ret
        exact ⟨rfl, Below.then_ (HB7.out) HBk_.out⟩
      · have g7 : (G == 0) = false := by simpa using hG
        have g8 : (G != 0) = true := by simpa using hG
        clear hG hQ hQ2 HOO
        go_wp2_with fail
        refine (known_calls _).mono ?_
        rintro e wk_ ⟨rfl, h_⟩
        have HBk_ := Lib.hid h_
        clear h_
        go_wp2
        go_ret
        exact ⟨rfl, Below.then_ (HB6.out) HBk_.out⟩
  · have g3 : (E == 0) = false := by simpa using hE
    clear hJ hJ2 hl hE
    go_wp2_with fail
    refine (qc.out _).mono ?_
    rintro e w4 ⟨⟨v4, rfl, ho⟩, hb⟩
    obtain ⟨a4, d4, rfl, hd4⟩ := ho.form
    have HN4 := Lib.hid (ho.arr (by omega))
    have HB4 := Lib.hid (HB2.out.then_ hb)
    clear ho hb
    go_wp2_with fail
    refine (jc2.out _ _ _ _ HN4.out hd4).mono ?_
    rintro e w5 ⟨rfl, hb⟩
    have HN5 := Lib.hid (HN4.out.on hb)
    have HB5 := Lib.hid (HB4.out.then_ hb)
    clear hb
    go_wp2_with fail
    refine (pc2.out _).mono ?_
    rintro e w6 ⟨⟨v6, rfl, ho⟩, hb⟩
    obtain ⟨a6, d6, rfl, _⟩ := ho.form
    have HO6 := Lib.hid (ho.arr (by omega))
    have HN6 := Lib.hid (HN5.out.on hb)
    have HB6 := Lib.hid (HB5.out.then_ hb)
    clear ho hb
    by_cases hG : G = 0
    · obtain ⟨s', e1, e2, e3⟩ := hQ2.out hG
      obtain ⟨rfl, rfl⟩ := Prod.mk.inj e1
      have e4 := HOO.out.symm.trans e3
      obtain ⟨rfl, rfl⟩ := Prod.mk.inj e4
      subst hG
      have g7 : decide ((T.length : Int) ≤ (p.length : Int)) = true := decide_eq_true (by omega)
      have g8 : decide (T.length ≤ p.length) = true := decide_eq_true e2
      clear e1 e3 e4 hQ hQ2 HOO
      go_wp2_with fail
      refine (same_texts _ _ _ _ _ _ _ _ _ HN6.out HO6.out).mono ?_
      rintro e w7 ⟨rfl, hb⟩
      have HB7 := Lib.hid (HB6.out.then_ hb)
      clear hb
      rw [decide_eq_true rfl]
      go_wp2_with fail
      refine (known_calls _).mono ?_
      rintro e wk_ ⟨rfl, h_⟩
      have HBk_ := Lib.hid h_
      clear h_
      go_wp2
      go_ret
      exact ⟨rfl, Below.then_ (HB7.out) HBk_.out⟩
    · have g7 : (G == 0) = false := by simpa using hG
      have g8 : (G != 0) = true := by simpa using hG
      clear hG hQ hQ2 HOO
      go_wp2_with fail
      refine (known_calls _).mono ?_
      rintro e wk_ ⟨rfl, h_⟩
      have HBk_ := Lib.hid h_
      clear h_
      go_wp2
      go_ret
      exact ⟨rfl, Below.then_ (HB6.out) HBk_.out⟩
end Go.Proofs.Ytnfkbndakdkieaa
