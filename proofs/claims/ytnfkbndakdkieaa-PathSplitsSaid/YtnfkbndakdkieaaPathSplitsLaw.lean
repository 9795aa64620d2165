/-
  The walk of the law PathSplits.
-/
import Derived.Test.YtnfkbndakdkieaaPathJoin
import Derived.Test.YtnfkbndakdkieaaPathRefSplit
namespace Go.Proofs.Ytnfkbndakdkieaa
open Go.RowKit

set_option maxHeartbeats 4000000 in
theorem pathSplits_walk (s : ByteArray) (a : Option Addr) (na ca : Nat) (xs : List (List UInt8)) (b : Option Addr) (nb cb : Nat) (ys : List (List UInt8)) (w : World) (hs : s.size ≤ 140737488351232)
    (hx : Arr strV w w.heap.size a na xs) (hac : na ≤ ca) (_ : ca ≤ 8796093022000) (mx : ∀ x ∈ xs, x.length ≤ 140737488351232) (hy : Arr strV w w.heap.size b nb ys) (_ : nb ≤ cb) (_ : cb ≤ 8796093022000) (my : ∀ x ∈ ys, x.length ≤ 140737488351232) :
    Calls Try.prog 7 #[.string s, .slice a na ca, .slice b nb cb] w fun e w' => e = .returned (.bool true) ∧ Below w.heap.size w w' := by
  obtain ⟨l, rfl⟩ := strL_of s
  rw [strL_size] at hs
  by_cases hl : 2000 < l.length
  · have hd : decide (2000 < l.length) = true := decide_eq_true hl
    clear hl
    go_enter Try.func7, Try.ntmps7
    go_wp2_with fail
    refine (plong_calls l _).mono ?_
    rintro e w_ ⟨rfl, rfl⟩
    rw [hd]
    go_wp2_with fail
    refine (known_calls _).mono ?_
    rintro e wk_ ⟨rfl, h_⟩
    have HBk_ := Lib.hid h_
    clear h_
    go_wp2
    go_ret
    exact ⟨rfl, HBk_.out⟩
  have hd : decide (2000 < l.length) = false := decide_eq_false hl
  have HX := Lib.hid hx
  have HY := Lib.hid hy
  have HL := Lib.hid hx.len
  have sa := Lib.hid (size_calls a na ca xs w hx mx)
  have sb := Lib.hid (size_calls b nb cb ys w hy my)
  have c1 := Lib.hid (fun w => split_calls l w hs)
  have c2 := Lib.hid (fun w => refSplit_calls l w hs)
  unfold SplitR at c1 c2
  generalize Pth.splitP l = R at *
  obtain ⟨ms, m, E⟩ := R
  clear hl hx hy mx my
  go_enter Try.func7, Try.ntmps7
  go_wp2_with fail
  refine (plong_calls l _).mono ?_
  rintro e w_ ⟨rfl, rfl⟩
  rw [hd]
  clear hd
  go_wp2_with fail
  refine sa.out.mono ?_
  rintro e w' ⟨m1, rfl, t1, rfl⟩
  have HT := Lib.hid t1
  clear t1
  by_cases h1 : 900 < m1
  · have g1 : decide (900 < (m1 : Int)) = true := decide_eq_true (by omega)
    go_wp2_with fail
    refine (known_calls _).mono ?_
    rintro e wk_ ⟨rfl, h_⟩
    have HBk_ := Lib.hid h_
    clear h_
    go_wp2
    go_ret
    exact ⟨rfl, HBk_.out⟩
  have g1 : decide (900 < (m1 : Int)) = false := decide_eq_false (by omega)
  have ht : Pth.total xs ≤ 1000000 := by have := HT.out (by omega); omega
  go_wp2_with fail
  refine sb.out.mono ?_
  rintro e w' ⟨m2, rfl, _, rfl⟩
  by_cases h2 : 900 < m2
  · have g2 : decide (900 < (m2 : Int)) = true := decide_eq_true (by omega)
    go_wp2_with fail
    refine (known_calls _).mono ?_
    rintro e wk_ ⟨rfl, h_⟩
    have HBk_ := Lib.hid h_
    clear h_
    go_wp2
    go_ret
    exact ⟨rfl, HBk_.out⟩
  have g2 : decide (900 < (m2 : Int)) = false := decide_eq_false (by omega)
  clear HT h1 h2
  go_wp2_with fail
  refine (c1.out _).mono ?_
  rintro e w1 ⟨⟨a1, n1, d1, rfl, hx1⟩, hb⟩
  have HX1 := Lib.hid hx1
  have HB1 := Lib.hid hb
  clear hx1 hb
  go_wp2_with fail
  refine (c2.out _).mono ?_
  rintro e w2 ⟨⟨a2, n2, d2, rfl, hx2⟩, hb⟩
  have HY2 := Lib.hid hx2
  have HX2 := Lib.hid (HX1.out.on hb)
  have HB2 := Lib.hid (HB1.out.then_ hb)
  clear hx2 hb
  have jc := Lib.hid (join_calls a na ca xs w2 (HX.out.on HB2.out) hac ht)
  unfold JoinR at jc
  have rj := Lib.hid (fun w3 h => refJoin_calls a na ca xs w3 h ht)
  unfold JoinR at rj
  generalize Pth.joinP xs = J at *
  obtain ⟨S, F⟩ := J
  go_wp2_with fail
  refine jc.out.mono ?_
  rintro e w3 ⟨rfl, hb⟩
  have HX3 := Lib.hid (HX2.out.on hb)
  have HY3 := Lib.hid (HY2.out.on hb)
  have HB3 := Lib.hid (HB2.out.then_ hb)
  clear hb
  go_wp2_with fail
  refine (rj.out _ (HX.out.on HB3.out)).mono ?_
  rintro e w4 ⟨rfl, hb⟩
  have HX4 := Lib.hid (HX3.out.on hb)
  have HY4 := Lib.hid (HY3.out.on hb)
  have HB4 := Lib.hid (HB3.out.then_ hb)
  clear hb
  go_wp2_with fail
  refine (same_texts _ _ _ _ _ _ _ _ _ HX4.out HY4.out).mono ?_
  rintro e w5 ⟨rfl, hb⟩
  have HB5 := Lib.hid (HB4.out.then_ hb)
  clear hb
  rw [decide_eq_true rfl]
  go_wp2_with fail
  refine (inside_calls a b na nb ca cb xs ys w5 (HX.out.on HB5.out) (HY.out.on HB5.out) hac).mono ?_
  rintro e w6 ⟨rfl, hb⟩
  have HB6 := Lib.hid (HB5.out.then_ hb)
  clear hb
  go_wp2_with fail
  refine (refInside_calls a b na nb ca cb xs ys w6 (HX.out.on HB6.out) (HY.out.on HB6.out)).mono ?_
  rintro e w7 ⟨rfl, hb⟩
  have HB7 := Lib.hid (HB6.out.then_ hb)
  clear hb
  generalize Pth.insideB xs ys = D at *
  cases D
  · go_wp2_with fail
    refine (known_calls _).mono ?_
    rintro e wk_ ⟨rfl, h_⟩
    have HBk_ := Lib.hid h_
    clear h_
    go_wp2
    go_ret
    exact ⟨rfl, Below.then_ (HB7.out) HBk_.out⟩
  · go_wp2_with fail
    refine (known_calls _).mono ?_
    rintro e wk_ ⟨rfl, h_⟩
    have HBk_ := Lib.hid h_
    clear h_
    go_wp2
    go_ret
    exact ⟨rfl, Below.then_ (HB7.out) HBk_.out⟩
end Go.Proofs.Ytnfkbndakdkieaa
