/-
  The law GlobQuotes, walked.
-/
import Derived.Test.YtlnjfnpoabcllaaGlbLaws1
import Derived.Test.YtlnjfnpoabcllaaGlbQuoteM
namespace Go.Proofs.Ytlnjfnpoabcllaa
open Go.RowKit

set_option maxRecDepth 100000 in
set_option maxHeartbeats 8000000 in
theorem globQuotes_walk (s s2 : ByteArray) (w : World) (_hs : s.size ≤ 140737488351232) (_hs2 : s2.size ≤ 140737488351232) :
    Calls Try.prog 8 #[.string s, .string s2] w fun e w' => e = .returned (.bool true) ∧ Below w.heap.size w w' := by
  obtain ⟨l, rfl⟩ := strL_of s
  obtain ⟨m, rfl⟩ := strL_of s2
  by_cases h1 : 300 < l.length
  · have g1 : decide (300 < (l.length : Int)) = true := decide_eq_true (by omega)
    clear _hs _hs2
    go_enter Try.func8, Try.ntmps8
    go_wp2_with fail
    refine (known_calls _).mono ?_
    rintro e wk_ ⟨rfl, h_⟩
    have HBk_ := Lib.hid h_
    clear h_
    go_wp2
    go_ret
    exact ⟨rfl, HBk_.out⟩
  have g1 : decide (300 < (l.length : Int)) = false := decide_eq_false (by omega)
  by_cases h2 : 300 < m.length
  · have g2 : decide (300 < (m.length : Int)) = true := decide_eq_true (by omega)
    clear _hs _hs2
    go_enter Try.func8, Try.ntmps8
    go_wp2_with fail
    refine (known_calls _).mono ?_
    rintro e wk_ ⟨rfl, h_⟩
    have HBk_ := Lib.hid h_
    clear h_
    go_wp2
    go_ret
    exact ⟨rfl, HBk_.out⟩
  have g2 : decide (300 < (m.length : Int)) = false := decide_eq_false (by omega)
  have hq := Glb.quote_len l
  have HQ := Lib.hid (quote_calls l w (by omega))
  have HP1 := Lib.hid (fun u : World => part_calls (Glb.quote l) l u (by omega) (by omega))
  have HP2 := Lib.hid (fun u : World => part_calls (Glb.quote l) m u (by omega) (by omega))
  have HR := Lib.hid (fun u : World => refQuote_calls l u (by omega))
  clear _hs _hs2
  by_cases hb : l = [] ∨ 64 < (Glb.quote l).length
  · have e1 := Glb.part_quote_bad hb
    have E1 := Lib.hid (e1 l)
    have E2 := Lib.hid (e1 m)
    rw [e1] at HP1 HP2
    clear e1 E1 E2
    have hb2 : (l == []) = true ∨ ((l == []) = false ∧ decide (64 < ((Glb.quote l).length : Int)) = true) := by
      by_cases h : l = []
      · exact .inl (by simpa using h)
      · exact .inr ⟨by simpa using h, decide_eq_true (by rcases hb with hb | hb; exact absurd hb h; omega)⟩
    clear hb hq
    generalize Glb.quote l = Q at *
    rcases hb2 with g3 | ⟨g3, g4⟩
    all_goals
      go_enter Try.func8, Try.ntmps8
      go_wp2_with fail
      refine (HQ.out).mono ?_
      rintro e w1 ⟨rfl, h_⟩
      have HB1 := Lib.hid h_
      clear h_
      go_wp2_with fail
      refine (HP1.out _).mono ?_
      rintro e w2 ⟨rfl, h_⟩
      have HD2 := Lib.hid h_
      clear h_
      have HB2 := Lib.hid (HB1.out.then_ HD2.out)
      go_wp2_with fail
      refine (HP2.out _).mono ?_
      rintro e w3 ⟨rfl, h_⟩
      have HD3 := Lib.hid h_
      clear h_
      have HB3 := Lib.hid (HB2.out.then_ HD3.out)
      go_wp2_with fail
      refine (HR.out _).mono ?_
      rintro e w_ ⟨rfl, rfl⟩
      go_wp2_with fail
      refine (known_calls _).mono ?_
      rintro e wk_ ⟨rfl, h_⟩
      have HBk_ := Lib.hid h_
      clear h_
      go_wp2
      go_ret
      exact ⟨rfl, Below.then_ (HB3.out) HBk_.out⟩
  · have h0 : l ≠ [] := fun e => hb (.inl e)
    have h64 : ¬ 64 < (Glb.quote l).length := fun e => hb (.inr e)
    have e1 := Glb.part_quote h0 h64
    rw [e1] at HP1 HP2
    rw [decide_eq_true rfl] at HP1
    have g3 : (l == []) = false := by simpa using h0
    have g4 : decide (64 < ((Glb.quote l).length : Int)) = false := decide_eq_false (by omega)
    clear e1 hb hq h0 h64
    generalize Glb.quote l = Q at *
    by_cases he : l = m
    · have g6 : (l == m) = true := by simpa using he
      have HE := Lib.hid (decide_eq_true he)
      rw [HE.out] at HP2
      clear HE he
      go_enter Try.func8, Try.ntmps8
      go_wp2_with fail
      refine (HQ.out).mono ?_
      rintro e w1 ⟨rfl, h_⟩
      have HB1 := Lib.hid h_
      clear h_
      go_wp2_with fail
      refine (HP1.out _).mono ?_
      rintro e w2 ⟨rfl, h_⟩
      have HD2 := Lib.hid h_
      clear h_
      have HB2 := Lib.hid (HB1.out.then_ HD2.out)
      go_wp2_with fail
      refine (HP2.out _).mono ?_
      rintro e w3 ⟨rfl, h_⟩
      have HD3 := Lib.hid h_
      clear h_
      have HB3 := Lib.hid (HB2.out.then_ HD3.out)
      go_wp2_with fail
      refine (HR.out _).mono ?_
      rintro e w_ ⟨rfl, rfl⟩
      go_wp2_with fail
      refine (known_calls _).mono ?_
      rintro e wk_ ⟨rfl, h_⟩
      have HBk_ := Lib.hid h_
      clear h_
      go_wp2
      go_ret
      exact ⟨rfl, Below.then_ (HB3.out) HBk_.out⟩
    · have g6 : (l == m) = false := by simpa using he
      have HE := Lib.hid (decide_eq_false he)
      rw [HE.out] at HP2
      clear HE he
      go_enter Try.func8, Try.ntmps8
      go_wp2_with fail
      refine (HQ.out).mono ?_
      rintro e w1 ⟨rfl, h_⟩
      have HB1 := Lib.hid h_
      clear h_
      go_wp2_with fail
      refine (HP1.out _).mono ?_
      rintro e w2 ⟨rfl, h_⟩
      have HD2 := Lib.hid h_
      clear h_
      have HB2 := Lib.hid (HB1.out.then_ HD2.out)
      go_wp2_with fail
      refine (HP2.out _).mono ?_
      rintro e w3 ⟨rfl, h_⟩
      have HD3 := Lib.hid h_
      clear h_
      have HB3 := Lib.hid (HB2.out.then_ HD3.out)
      go_wp2_with fail
      refine (HR.out _).mono ?_
      rintro e w_ ⟨rfl, rfl⟩
      go_wp2_with fail
      refine (known_calls _).mono ?_
      rintro e wk_ ⟨rfl, h_⟩
      have HBk_ := Lib.hid h_
      clear h_
      go_wp2
      go_ret
      exact ⟨rfl, Below.then_ (HB3.out) HBk_.out⟩
end Go.Proofs.Ytlnjfnpoabcllaa
