/-
  The walk of the law EccRows.
-/
import Derived.Test.YtceoogpmcijlaaaEccRefMA
namespace Go.Proofs.Ytceoogpmcijlaaa
open Go.RowKit

def Ecc.maE (xs : List UInt8) (k : Int) (cs : List UInt8) : List UInt8 × (Nat × Nat × Nat × Nat) × Int :=
  if 1 ≤ k ∧ k ≤ 4096 ∧ cs.length = 4 * Ecc.blks xs.length k.toNat then
    (Ecc.fixedTo xs cs k.toNat (Ecc.blks xs.length k.toNat), (Ecc.cnt xs cs k.toNat 0 (Ecc.blks xs.length k.toNat), Ecc.cnt xs cs k.toNat 1 (Ecc.blks xs.length k.toNat), Ecc.cnt xs cs k.toNat 2 (Ecc.blks xs.length k.toNat), Ecc.cnt xs cs k.toNat 3 (Ecc.blks xs.length k.toNat)), 0)
  else ([], (0, 0, 0, 0), 1)
def MaS (r : List UInt8 × (Nat × Nat × Nat × Nat) × Int) (w : World) : Ending → World → Prop := MaR r.1 r.2.1.1 r.2.1.2.1 r.2.1.2.2.1 r.2.1.2.2.2 r.2.2 w
theorem ma_cases {P : List UInt8 × (Nat × Nat × Nat × Nat) × Int → Prop} (xs : List UInt8) (k : Int) (cs : List UInt8) (hbad : ¬ (1 ≤ k ∧ k ≤ 4096) → P ([], (0, 0, 0, 0), 1))
    (hoff : ∀ K : Nat, k = K → 1 ≤ K → K ≤ 4096 → cs.length ≠ 4 * Ecc.blks xs.length K → P ([], (0, 0, 0, 0), 1))
    (hgood : ∀ K : Nat, k = K → 1 ≤ K → K ≤ 4096 → cs.length = 4 * Ecc.blks xs.length K → P (Ecc.fixedTo xs cs K (Ecc.blks xs.length K), (Ecc.cnt xs cs K 0 (Ecc.blks xs.length K), Ecc.cnt xs cs K 1 (Ecc.blks xs.length K), Ecc.cnt xs cs K 2 (Ecc.blks xs.length K), Ecc.cnt xs cs K 3 (Ecc.blks xs.length K)), 0)) : P (Ecc.maE xs k cs) := by
  unfold Ecc.maE
  by_cases h1 : 1 ≤ k ∧ k ≤ 4096
  · obtain ⟨K, rfl⟩ : ∃ K : Nat, k = K := ⟨k.toNat, by omega⟩
    rw [Int.toNat_natCast]
    by_cases h2 : cs.length = 4 * Ecc.blks xs.length K
    · rw [if_pos ⟨h1.1, h1.2, h2⟩]; exact hgood K rfl (by omega) (by omega) h2
    · rw [if_neg (fun h => h2 h.2.2)]; exact hoff K rfl (by omega) (by omega) h2
  · rw [if_neg (fun h => h1 ⟨h.1, h.2.1⟩)]; exact hbad h1
theorem mendAll_calls (a : Option Addr) (n c : Nat) (k : Int) (a2 : Option Addr) (n2 c2 : Nat) (xs cs : List UInt8) (w : World) (hx : Bytes w w.heap.size a n xs) (hy : Bytes w w.heap.size a2 n2 cs) (hn : n ≤ 900) (hnc : n ≤ c) (hc : c ≤ 140737488351232) (hnc2 : n2 ≤ c2) :
    Calls Try.prog 21 #[.slice a n c, .int .i64 k, .slice a2 n2 c2] w (MaS (Ecc.maE xs k cs) w) := by
  refine ma_cases (P := fun r => Calls Try.prog 21 #[.slice a n c, .int .i64 k, .slice a2 n2 c2] w (MaS r w)) xs k cs (fun h => mendAll_bad a n c k a2 n2 c2 w (by omega)) ?_ ?_
  · rintro K rfl h1 h2 h3
    rw [hx.len, hy.len] at h3
    exact mendAll_off a n c K a2 n2 c2 w hn h1 h2 h3
  · rintro K rfl h1 h2 h3
    rw [hx.len, hy.len] at h3
    rw [hx.len]
    exact mendAll_good a n c K a2 n2 c2 xs cs w hx hy hn hnc hc hnc2 h1 h2 h3
theorem refMendAll_calls (a : Option Addr) (n c : Nat) (k : Int) (a2 : Option Addr) (n2 c2 : Nat) (xs cs : List UInt8) (w : World) (hx : Bytes w w.heap.size a n xs) (hy : Bytes w w.heap.size a2 n2 cs) (hn : n ≤ 900) (hnc : n ≤ c) (hc : c ≤ 140737488351232) (hnc2 : n2 ≤ c2) :
    Calls Try.prog 22 #[.slice a n c, .int .i64 k, .slice a2 n2 c2] w (MaS (Ecc.maE xs k cs) w) := by
  obtain ⟨b, o, hbo⟩ : ∃ b o, n ≠ 0 → a = some ⟨b, o, none⟩ := by
    by_cases h0 : n = 0
    · exact ⟨0, 0, fun h => absurd h0 h⟩
    · obtain ⟨b, o, _, ha, _⟩ := hx.atv (k := 0) (by omega)
      exact ⟨b, o, fun _ => ha⟩
  refine ma_cases (P := fun r => Calls Try.prog 22 #[.slice a n c, .int .i64 k, .slice a2 n2 c2] w (MaS r w)) xs k cs (fun h => refMendAll_bad a n c k a2 n2 c2 w (by omega)) ?_ ?_
  · rintro K rfl h1 h2 h3
    rw [hx.len, hy.len] at h3
    exact refMendAll_off a b o n c K a2 n2 c2 w hbo hn hnc hc h1 h2 h3
  · rintro K rfl h1 h2 h3
    rw [hx.len, hy.len] at h3
    rw [hx.len]
    exact refMendAll_good a b o n c K a2 n2 c2 xs cs w hbo hx hy hn hnc hc hnc2 h1 h2 h3
set_option maxHeartbeats 2000000 in
theorem eccRows_walk (a : Option Addr) (n c : Nat) (xs : List UInt8) (k : Int) (a2 : Option Addr) (n2 c2 : Nat) (cs : List UInt8) (w : World) (hx : Bytes w w.heap.size a n xs) (hnc : n ≤ c) (hc : c ≤ 140737488351232) (_ : -9223372036854775808 ≤ k) (_ : k ≤ 9223372036854775807) (hy : Bytes w w.heap.size a2 n2 cs) (hnc2 : n2 ≤ c2) (_ : c2 ≤ 140737488351232) :
    Calls Try.prog 8 #[.slice a n c, .int .i64 k, .slice a2 n2 c2] w fun e w' => e = .returned (.bool true) ∧ Below w.heap.size w w' := by
  have HX := Lib.hid hx
  have HY := Lib.hid hy
  clear hx hy
  by_cases h1 : 900 < n
  · have g1 : decide (900 < (n : Int)) = true := decide_eq_true (by omega)
    go_enter Try.func8, Try.ntmps8
    go_wp2_with fail
    refine (known_calls _).mono ?_
    rintro e wk_ ⟨rfl, h_⟩
    have HBk_ := Lib.hid h_
    clear h_
    go_wp2
    go_ret
    exact ⟨rfl, HBk_.out⟩
  have g1 : decide (900 < (n : Int)) = false := decide_eq_false (by omega)
  by_cases h2 : 4000 < n2
  · have g2 : decide (4000 < (n2 : Int)) = true := decide_eq_true (by omega)
    go_enter Try.func8, Try.ntmps8
    go_wp2_with fail
    refine (known_calls _).mono ?_
    rintro e wk_ ⟨rfl, h_⟩
    have HBk_ := Lib.hid h_
    clear h_
    go_wp2
    go_ret
    exact ⟨rfl, HBk_.out⟩
  have g2 : decide (4000 < (n2 : Int)) = false := decide_eq_false (by omega)
  by_cases h3 : 4096 < k ∧ k < 1099511627776
  · obtain ⟨h3, h4⟩ := h3
    go_enter Try.func8, Try.ntmps8
    go_wp2_with fail
    refine (known_calls _).mono ?_
    rintro e wk_ ⟨rfl, h_⟩
    have HBk_ := Lib.hid h_
    clear h_
    go_wp2
    go_ret
    exact ⟨rfl, HBk_.out⟩
  have hn : n ≤ 900 := by omega
  have g5 : ∃ p q : Bool, decide (4096 < k) = p ∧ decide (k < 1099511627776) = q ∧ (p = false ∨ q = false) := by
    refine ⟨_, _, rfl, rfl, ?_⟩
    by_cases h : 4096 < k
    · exact .inr (decide_eq_false (fun h2 => h3 ⟨h, h2⟩))
    · exact .inl (decide_eq_false h)
  obtain ⟨p, q, g5, g6, g7⟩ := g5
  have hM : ∀ P : Prop, (decide (4096 < k) = false → P) → (decide (4096 < k) = true → decide (k < 1099511627776) = false → P) → P := by
    intro P u v
    rcases g7 with rfl | rfl
    · exact u g5
    · cases p
      · exact u g5
      · exact v g5 g6
  clear g5 g6 g7 h3 h1 h2
  have HBad := Lib.hid (fun w1 (hx : Bytes w1 w1.heap.size a n xs) => codes_calls a n c xs k w1 hx hn hnc hc)
  have HRef := Lib.hid (fun w1 (hx : Bytes w1 w1.heap.size a n xs) => refCodes_calls a n c xs k w1 hx hn hnc hc)
  have HMa := Lib.hid (fun w1 (hx : Bytes w1 w1.heap.size a n xs) (hy : Bytes w1 w1.heap.size a2 n2 cs) => mendAll_calls a n c k a2 n2 c2 xs cs w1 hx hy hn hnc hc hnc2)
  have HRm := Lib.hid (fun w1 (hx : Bytes w1 w1.heap.size a n xs) (hy : Bytes w1 w1.heap.size a2 n2 cs) => refMendAll_calls a n c k a2 n2 c2 xs cs w1 hx hy hn hnc hc hnc2)
  unfold CodesR at HBad HRef
  unfold MaS MaR at HMa HRm
  generalize Ecc.codesE xs k = cr at *
  generalize Ecc.maE xs k cs = mr at *
  obtain ⟨cl, ce⟩ := cr
  obtain ⟨ml, ⟨q0, q1, q2, q3⟩, me⟩ := mr
  dsimp only at HBad HRef HMa HRm
  refine hM _ (fun g5 => ?_) (fun g5 g6 => ?_)
  all_goals
    clear hM
    go_enter Try.func8, Try.ntmps8
    go_wp2_with fail
    refine (HBad.out _ HX.out).mono ?_
    rintro e w1 ⟨a1, n1, c1, rfl, hx1, hb⟩
    have HB1 := Lib.hid hb
    have HX1 := Lib.hid (HX.out.on hb)
    have HY1 := Lib.hid (HY.out.on hb)
    have HC1 := Lib.hid hx1
    clear hb hx1
    go_wp2_with fail
    refine (HRef.out _ HX1.out).mono ?_
    rintro e w2 ⟨a3, n3, c3, rfl, hx1, hb⟩
    have HB2 := Lib.hid (HB1.out.then_ hb)
    have HX2 := Lib.hid (HX1.out.on hb)
    have HY2 := Lib.hid (HY1.out.on hb)
    have HC2 := Lib.hid (HC1.out.on hb)
    have HD2 := Lib.hid hx1
    clear hb hx1 HX1 HY1 HC1 HB1
    go_wp2_with fail
    refine (HMa.out _ HX2.out HY2.out).mono ?_
    rintro e w3 ⟨a4, n4, c4, rfl, hx1, hb⟩
    have hb4 := (Below.refl w3.heap.size w3).alloc (Nat.le_refl _) (.cells #[.int .i64 q0, .int .i64 q1, .int .i64 q2, .int .i64 q3] 43)
    have HB3 := Lib.hid ((HB2.out.then_ hb).then_ hb4)
    have HX3 := Lib.hid ((HX2.out.on hb).on hb4)
    have HY3 := Lib.hid ((HY2.out.on hb).on hb4)
    have HC3 := Lib.hid ((HC2.out.on hb).on hb4)
    have HD3 := Lib.hid ((HD2.out.on hb).on hb4)
    have HE3 := Lib.hid (hx1.on hb4)
    have BP3 := Lib.hid (Blk.new w3 43 #[.int .i64 q0, .int .i64 q1, .int .i64 q2, .int .i64 q3])
    clear hb hx1 hb4 HX2 HY2 HC2 HB2 HD2
    go_wp2_with fail
    refine (HRm.out _ HX3.out HY3.out).mono ?_
    rintro e w4 ⟨a5, n5, c5, rfl, hx1, hb⟩
    have hb4 := (Below.refl w4.heap.size w4).alloc (Nat.le_refl _) (.cells #[.int .i64 q0, .int .i64 q1, .int .i64 q2, .int .i64 q3] 46)
    have HB4 := Lib.hid ((HB3.out.then_ hb).then_ hb4)
    have HC4 := Lib.hid ((HC3.out.on hb).on hb4)
    have HD4 := Lib.hid ((HD3.out.on hb).on hb4)
    have HE4 := Lib.hid ((HE3.out.on hb).on hb4)
    have HF4 := Lib.hid (hx1.on hb4)
    have BP4 := Lib.hid ((BP3.out.belowHere hb).belowHere hb4)
    have BQ4 := Lib.hid (Blk.new w4 46 #[.int .i64 q0, .int .i64 q1, .int .i64 q2, .int .i64 q3])
    clear hb hx1 hb4 HX3 HY3 HC3 HB3 HD3 HE3 BP3
    go_wp2_with fail
    refine (same_yes _ _ _ _ _ _ _ _ HC4.out HD4.out).mono ?_
    rintro e w_ ⟨rfl, rfl⟩
    go_wp2_with fail
    refine (same_yes _ _ _ _ _ _ _ _ HE4.out HF4.out).mono ?_
    rintro e w_ ⟨rfl, rfl⟩
    have e0 := BP4.out.cellv (i := 0) rfl
    have e1 := BP4.out.cellv (i := 1) rfl
    have e2 := BP4.out.cellv (i := 2) rfl
    have e3 := BP4.out.cellv (i := 3) rfl
    have f0 := BQ4.out.cellv (i := 0) rfl
    have f1 := BQ4.out.cellv (i := 1) rfl
    have f2 := BQ4.out.cellv (i := 2) rfl
    have f3 := BQ4.out.cellv (i := 3) rfl
    go_wp2_with fail
    refine (known_calls _).mono ?_
    rintro e wk_ ⟨rfl, h_⟩
    have HBk_ := Lib.hid h_
    clear h_
    go_wp2
    go_ret
    exact ⟨rfl, Below.then_ (HB4.out) HBk_.out⟩
end Go.Proofs.Ytceoogpmcijlaaa
