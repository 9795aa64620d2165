/-
  The law GlobParts, walked.
-/
import Derived.Test.YtlnjfnpoabcllaaGlbTop
import Derived.Test.YtlnjfnpoabcllaaGlbRPart
namespace Go.Proofs.Ytlnjfnpoabcllaa
open Go.RowKit

set_option maxRecDepth 100000 in
set_option maxHeartbeats 8000000 in
theorem globParts_walk (s s2 : ByteArray) (w : World) (_hs : s.size ≤ 140737488351232) (_hs2 : s2.size ≤ 140737488351232) :
    Calls Try.prog 4 #[.string s, .string s2] w fun e w' => e = .returned (.bool true) ∧ Below w.heap.size w w' := by
  obtain ⟨l, rfl⟩ := strL_of s
  obtain ⟨m, rfl⟩ := strL_of s2
  by_cases h1 : 300 < l.length
  · have g1 : decide (300 < (l.length : Int)) = true := decide_eq_true (by omega)
    clear _hs _hs2
    go_enter Try.func4, Try.ntmps4
    go_wp2_with fail
    refine (known_calls _).mono ?_
    rintro e wk_ ⟨rfl, h_⟩
    have HBk_ := Lib.hid h_
    clear h_
    go_wp2
    go_ret
    exact ⟨rfl, HBk_.out⟩
  have g1 : decide (300 < (l.length : Int)) = false := decide_eq_false (by omega)
  by_cases h2 : 300 < m.length
  · have g2 : decide (300 < (m.length : Int)) = true := decide_eq_true (by omega)
    clear _hs _hs2
    go_enter Try.func4, Try.ntmps4
    go_wp2_with fail
    refine (known_calls _).mono ?_
    rintro e wk_ ⟨rfl, h_⟩
    have HBk_ := Lib.hid h_
    clear h_
    go_wp2
    go_ret
    exact ⟨rfl, HBk_.out⟩
  have g2 : decide (300 < (m.length : Int)) = false := decide_eq_false (by omega)
  have HP1 := Lib.hid (fun u : World => part_calls l m u (by omega) (by omega))
  have HP2 := Lib.hid (fun u : World => refPart_calls l m u (by omega) (by omega))
  clear _hs _hs2
  generalize Glb.part l m = Q at *
  obtain ⟨A, E⟩ := Q
  go_enter Try.func4, Try.ntmps4
  go_wp2_with fail
  refine (HP1.out _).mono ?_
  rintro e w1 ⟨rfl, h_⟩
  have HB1 := Lib.hid h_
  clear h_
  go_wp2_with fail
  refine (HP2.out _).mono ?_
  rintro e w2 ⟨rfl, h_⟩
  have HD2 := Lib.hid h_
  clear h_
  have HB2 := Lib.hid (HB1.out.then_ HD2.out)
  go_wp2_with fail
  refine (known_calls _).mono ?_
  rintro e wk_ ⟨rfl, h_⟩
  have HBk_ := Lib.hid h_
  clear h_
  go_wp2
  go_ret
  exact ⟨rfl, Below.then_ (HB2.out) HBk_.out⟩
end Go.Proofs.Ytlnjfnpoabcllaa
