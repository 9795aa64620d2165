/-
  The walk of the law PathInside.
-/
import Derived.Test.YtnfkbndakdkieaaPathIn
namespace Go.Proofs.Ytnfkbndakdkieaa
open Go.RowKit

namespace Pth
theorem inside_iff (xs ys : List (List UInt8)) : insideB xs ys = true ↔ ys.length < xs.length ∧ xs.take ys.length = ys := by unfold insideB; rw [decide_eq_true_iff]
theorem inside_trans {a b c : List (List UInt8)} (h : insideB a b = true) (k : insideB b c = true) : insideB a c = true := by
  rw [inside_iff] at h k ⊢
  refine ⟨by omega, ?_⟩
  obtain ⟨h1, h2⟩ := h
  obtain ⟨k1, k2⟩ := k
  rw [← h2, List.take_take, Nat.min_eq_left (by omega)] at k2
  exact k2
theorem inside_self (a : List (List UInt8)) : insideB a a = false := by
  cases h : insideB a a
  · rfl
  · rw [inside_iff] at h; omega
theorem inside_both {a b : List (List UInt8)} (h : insideB a b = true) : insideB b a = false := by
  cases k : insideB b a
  · rfl
  · rw [inside_iff] at h k; omega
theorem inside_none (a : List (List UInt8)) : insideB a [] = decide (0 < a.length) := by unfold insideB; simp
end Pth
theorem inside_at {w : World} {a b : Option Addr} {n m c d : Nat} {xs ys : List (List UInt8)} (hx : Arr strV w w.heap.size a n xs) (hy : Arr strV w w.heap.size b m ys) (hnc : n ≤ c) (W : World) (hb : Below w.heap.size w W) :
    Calls Try.prog 15 #[.slice a n c, .slice b m d] W fun e w' => e = .returned (.bool (Pth.insideB xs ys)) ∧ Below w.heap.size w w' :=
  (inside_calls a b n m c d xs ys W (hx.on hb) (hy.on hb) hnc).mono fun _ _ ⟨he, hb'⟩ => ⟨he, hb.then_ hb'⟩
theorem known_at {w : World} (W : World) (hb : Below w.heap.size w W) : Calls Try.prog 9 #[] W fun e w' => e = .returned (.bool true) ∧ Below w.heap.size w w' :=
  (known_calls W).mono fun _ _ ⟨he, hb'⟩ => ⟨he, hb.then_ hb'⟩
set_option maxHeartbeats 4000000 in
theorem pathInside_walk (a : Option Addr) (na ca : Nat) (xs : List (List UInt8)) (b : Option Addr) (nb cb : Nat) (ys : List (List UInt8)) (c : Option Addr) (nc cc : Nat) (zs : List (List UInt8)) (w : World)
    (hx : Arr strV w w.heap.size a na xs) (hac : na ≤ ca) (_ : ca ≤ 8796093022000) (mx : ∀ x ∈ xs, x.length ≤ 140737488351232) (hy : Arr strV w w.heap.size b nb ys) (hbc : nb ≤ cb) (_ : cb ≤ 8796093022000) (my : ∀ x ∈ ys, x.length ≤ 140737488351232)
    (hz : Arr strV w w.heap.size c nc zs) (_ : nc ≤ cc) (_ : cc ≤ 8796093022000) (mz : ∀ x ∈ zs, x.length ≤ 140737488351232) :
    Calls Try.prog 5 #[.slice a na ca, .slice b nb cb, .slice c nc cc] w fun e w' => e = .returned (.bool true) ∧ Below w.heap.size w w' := by
  have kab := Lib.hid (fun W hb => inside_at (w := w) (d := cb) hx hy hac W hb)
  have kbc := Lib.hid (fun W hb => inside_at (w := w) (d := cc) hy hz hbc W hb)
  have kac := Lib.hid (fun W hb => inside_at (w := w) (d := cc) hx hz hac W hb)
  have kaa := Lib.hid (fun W hb => inside_at (w := w) (d := ca) hx hx hac W hb)
  have kba := Lib.hid (fun W hb => inside_at (w := w) (d := ca) hy hx hbc W hb)
  have kan := Lib.hid (fun W hb => inside_at (w := w) (d := 0) (b := none) hx (Arr.none_ w w.heap.size none) hac W hb)
  have kk := Lib.hid (fun W hb => known_at (w := w) W hb)
  have sa := Lib.hid (size_calls a na ca xs w hx mx)
  have sb := Lib.hid (size_calls b nb cb ys w hy my)
  have sc := Lib.hid (size_calls c nc cc zs w hz mz)
  have HL := Lib.hid hx.len
  have HB := Lib.hid (Below.refl w.heap.size w)
  rw [Pth.inside_self] at kaa
  rw [Pth.inside_none] at kan
  have HT := Lib.hid (fun h k => Pth.inside_trans (a := xs) (b := ys) (c := zs) h k)
  have HU := Lib.hid (fun h => Pth.inside_both (a := xs) (b := ys) h)
  clear hx hy hz mx my mz
  rw [HL.out] at kan
  generalize Pth.insideB xs ys = D1 at *
  generalize Pth.insideB ys zs = D2 at *
  generalize Pth.insideB xs zs = D3 at *
  generalize Pth.insideB ys xs = D4 at *
  go_enter Try.func5, Try.ntmps5
  go_wp2_with fail
  refine sa.out.mono ?_
  rintro e w' ⟨m1, rfl, _, rfl⟩
  by_cases h1 : 900 < m1
  · have g1 : decide (900 < (m1 : Int)) = true := decide_eq_true (by omega)
    go_wp2_with (go_at_call 9; refine (kk.out _ HB.out).mono ?_; rintro e w1 ⟨rfl, hb⟩; have HB := Lib.hid hb; clear hb)
    go_ret
    exact ⟨rfl, HB.out⟩
  have g1 : decide (900 < (m1 : Int)) = false := decide_eq_false (by omega)
  go_wp2_with fail
  refine sb.out.mono ?_
  rintro e w' ⟨m2, rfl, _, rfl⟩
  by_cases h2 : 900 < m2
  · have g2 : decide (900 < (m2 : Int)) = true := decide_eq_true (by omega)
    go_wp2_with (go_at_call 9; refine (kk.out _ HB.out).mono ?_; rintro e w1 ⟨rfl, hb⟩; have HB := Lib.hid hb; clear hb)
    go_ret
    exact ⟨rfl, HB.out⟩
  have g2 : decide (900 < (m2 : Int)) = false := decide_eq_false (by omega)
  go_wp2_with fail
  refine sc.out.mono ?_
  rintro e w' ⟨m3, rfl, _, rfl⟩
  by_cases h3 : 900 < m3
  · have g3 : decide (900 < (m3 : Int)) = true := decide_eq_true (by omega)
    go_wp2_with (go_at_call 9; refine (kk.out _ HB.out).mono ?_; rintro e w1 ⟨rfl, hb⟩; have HB := Lib.hid hb; clear hb)
    go_ret
    exact ⟨rfl, HB.out⟩
  have g3 : decide (900 < (m3 : Int)) = false := decide_eq_false (by omega)
  have hn : (na = 0 ∧ ((na : Int) == 0) = true) ∨ (0 < na ∧ ((na : Int) == 0) = false) := by
    by_cases h : na = 0
    · exact .inl ⟨h, by rw [h]; rfl⟩
    · exact .inr ⟨by omega, by rw [beq_eq_false_iff_ne]; omega⟩
  rcases hn with ⟨rfl, g4⟩ | ⟨hp, g4⟩
  · rw [decide_eq_false (by omega : ¬ 0 < 0)] at kan
    cases D1
    · go_wp2_with (first
        | (go_at_call 15; ((with_reducible refine (kab.out _ HB.out).mono ?_); rintro e w1 ⟨rfl, hb⟩; have HB := Lib.hid hb; clear hb))
        | (go_at_call 15; ((with_reducible refine (kaa.out _ HB.out).mono ?_); rintro e w1 ⟨rfl, hb⟩; have HB := Lib.hid hb; clear hb))
        | (go_at_call 15; ((with_reducible refine (kbc.out _ HB.out).mono ?_); rintro e w1 ⟨rfl, hb⟩; have HB := Lib.hid hb; clear hb))
        | (go_at_call 15; ((with_reducible refine (kac.out _ HB.out).mono ?_); rintro e w1 ⟨rfl, hb⟩; have HB := Lib.hid hb; clear hb))
        | (go_at_call 15; ((with_reducible refine (kba.out _ HB.out).mono ?_); rintro e w1 ⟨rfl, hb⟩; have HB := Lib.hid hb; clear hb))
        | (go_at_call 15; ((with_reducible refine (kan.out _ HB.out).mono ?_); rintro e w1 ⟨rfl, hb⟩; have HB := Lib.hid hb; clear hb))
        | (go_at_call 9; ((with_reducible refine (kk.out _ HB.out).mono ?_); rintro e w1 ⟨rfl, hb⟩; have HB := Lib.hid hb; clear hb)))
      go_ret
      exact ⟨rfl, HB.out⟩
    · have h4 := HU.out rfl
      subst h4
      cases D2
      · go_wp2_with (first
          | (go_at_call 15; ((with_reducible refine (kab.out _ HB.out).mono ?_); rintro e w1 ⟨rfl, hb⟩; have HB := Lib.hid hb; clear hb))
          | (go_at_call 15; ((with_reducible refine (kaa.out _ HB.out).mono ?_); rintro e w1 ⟨rfl, hb⟩; have HB := Lib.hid hb; clear hb))
          | (go_at_call 15; ((with_reducible refine (kbc.out _ HB.out).mono ?_); rintro e w1 ⟨rfl, hb⟩; have HB := Lib.hid hb; clear hb))
          | (go_at_call 15; ((with_reducible refine (kac.out _ HB.out).mono ?_); rintro e w1 ⟨rfl, hb⟩; have HB := Lib.hid hb; clear hb))
          | (go_at_call 15; ((with_reducible refine (kba.out _ HB.out).mono ?_); rintro e w1 ⟨rfl, hb⟩; have HB := Lib.hid hb; clear hb))
          | (go_at_call 15; ((with_reducible refine (kan.out _ HB.out).mono ?_); rintro e w1 ⟨rfl, hb⟩; have HB := Lib.hid hb; clear hb))
          | (go_at_call 9; ((with_reducible refine (kk.out _ HB.out).mono ?_); rintro e w1 ⟨rfl, hb⟩; have HB := Lib.hid hb; clear hb)))
        go_ret
        exact ⟨rfl, HB.out⟩
      · have h3 := HT.out rfl rfl
        subst h3
        go_wp2_with (first
          | (go_at_call 15; ((with_reducible refine (kab.out _ HB.out).mono ?_); rintro e w1 ⟨rfl, hb⟩; have HB := Lib.hid hb; clear hb))
          | (go_at_call 15; ((with_reducible refine (kaa.out _ HB.out).mono ?_); rintro e w1 ⟨rfl, hb⟩; have HB := Lib.hid hb; clear hb))
          | (go_at_call 15; ((with_reducible refine (kbc.out _ HB.out).mono ?_); rintro e w1 ⟨rfl, hb⟩; have HB := Lib.hid hb; clear hb))
          | (go_at_call 15; ((with_reducible refine (kac.out _ HB.out).mono ?_); rintro e w1 ⟨rfl, hb⟩; have HB := Lib.hid hb; clear hb))
          | (go_at_call 15; ((with_reducible refine (kba.out _ HB.out).mono ?_); rintro e w1 ⟨rfl, hb⟩; have HB := Lib.hid hb; clear hb))
          | (go_at_call 15; ((with_reducible refine (kan.out _ HB.out).mono ?_); rintro e w1 ⟨rfl, hb⟩; have HB := Lib.hid hb; clear hb))
          | (go_at_call 9; ((with_reducible refine (kk.out _ HB.out).mono ?_); rintro e w1 ⟨rfl, hb⟩; have HB := Lib.hid hb; clear hb)))
        go_ret
        exact ⟨rfl, HB.out⟩
  · rw [decide_eq_true hp] at kan
    cases D1
    · go_wp2_with (first
        | (go_at_call 15; ((with_reducible refine (kab.out _ HB.out).mono ?_); rintro e w1 ⟨rfl, hb⟩; have HB := Lib.hid hb; clear hb))
        | (go_at_call 15; ((with_reducible refine (kaa.out _ HB.out).mono ?_); rintro e w1 ⟨rfl, hb⟩; have HB := Lib.hid hb; clear hb))
        | (go_at_call 15; ((with_reducible refine (kbc.out _ HB.out).mono ?_); rintro e w1 ⟨rfl, hb⟩; have HB := Lib.hid hb; clear hb))
        | (go_at_call 15; ((with_reducible refine (kac.out _ HB.out).mono ?_); rintro e w1 ⟨rfl, hb⟩; have HB := Lib.hid hb; clear hb))
        | (go_at_call 15; ((with_reducible refine (kba.out _ HB.out).mono ?_); rintro e w1 ⟨rfl, hb⟩; have HB := Lib.hid hb; clear hb))
        | (go_at_call 15; ((with_reducible refine (kan.out _ HB.out).mono ?_); rintro e w1 ⟨rfl, hb⟩; have HB := Lib.hid hb; clear hb))
        | (go_at_call 9; ((with_reducible refine (kk.out _ HB.out).mono ?_); rintro e w1 ⟨rfl, hb⟩; have HB := Lib.hid hb; clear hb)))
      go_ret
      exact ⟨rfl, HB.out⟩
    · have h4 := HU.out rfl
      subst h4
      cases D2
      · go_wp2_with (first
          | (go_at_call 15; ((with_reducible refine (kab.out _ HB.out).mono ?_); rintro e w1 ⟨rfl, hb⟩; have HB := Lib.hid hb; clear hb))
          | (go_at_call 15; ((with_reducible refine (kaa.out _ HB.out).mono ?_); rintro e w1 ⟨rfl, hb⟩; have HB := Lib.hid hb; clear hb))
          | (go_at_call 15; ((with_reducible refine (kbc.out _ HB.out).mono ?_); rintro e w1 ⟨rfl, hb⟩; have HB := Lib.hid hb; clear hb))
          | (go_at_call 15; ((with_reducible refine (kac.out _ HB.out).mono ?_); rintro e w1 ⟨rfl, hb⟩; have HB := Lib.hid hb; clear hb))
          | (go_at_call 15; ((with_reducible refine (kba.out _ HB.out).mono ?_); rintro e w1 ⟨rfl, hb⟩; have HB := Lib.hid hb; clear hb))
          | (go_at_call 15; ((with_reducible refine (kan.out _ HB.out).mono ?_); rintro e w1 ⟨rfl, hb⟩; have HB := Lib.hid hb; clear hb))
          | (go_at_call 9; ((with_reducible refine (kk.out _ HB.out).mono ?_); rintro e w1 ⟨rfl, hb⟩; have HB := Lib.hid hb; clear hb)))
        go_ret
        exact ⟨rfl, HB.out⟩
      · have h3 := HT.out rfl rfl
        subst h3
        go_wp2_with (first
          | (go_at_call 15; ((with_reducible refine (kab.out _ HB.out).mono ?_); rintro e w1 ⟨rfl, hb⟩; have HB := Lib.hid hb; clear hb))
          | (go_at_call 15; ((with_reducible refine (kaa.out _ HB.out).mono ?_); rintro e w1 ⟨rfl, hb⟩; have HB := Lib.hid hb; clear hb))
          | (go_at_call 15; ((with_reducible refine (kbc.out _ HB.out).mono ?_); rintro e w1 ⟨rfl, hb⟩; have HB := Lib.hid hb; clear hb))
          | (go_at_call 15; ((with_reducible refine (kac.out _ HB.out).mono ?_); rintro e w1 ⟨rfl, hb⟩; have HB := Lib.hid hb; clear hb))
          | (go_at_call 15; ((with_reducible refine (kba.out _ HB.out).mono ?_); rintro e w1 ⟨rfl, hb⟩; have HB := Lib.hid hb; clear hb))
          | (go_at_call 15; ((with_reducible refine (kan.out _ HB.out).mono ?_); rintro e w1 ⟨rfl, hb⟩; have HB := Lib.hid hb; clear hb))
          | (go_at_call 9; ((with_reducible refine (kk.out _ HB.out).mono ?_); rintro e w1 ⟨rfl, hb⟩; have HB := Lib.hid hb; clear hb)))
        go_ret
        exact ⟨rfl, HB.out⟩
end Go.Proofs.Ytnfkbndakdkieaa
