/-
  The law file's known and long; the laws SqueezeDoes, SqueezeOpens, SqueezeBack.
-/
import Derived.Test.YtpjjfehocibljaaSqzRefS
import Derived.Test.YtpjjfehocibljaaSqzRefO
import Derived.Test.YtpjjfehocibljaaNumSame
namespace Go.Proofs.Ytpjjfehocibljaa
open Go.RowKit

namespace Sqz
section
variable {ent lng most : Nat}
theorem opn_len (b out : List UInt8) (hm : out.length ≤ most) : (opn ent lng most b out).1.length ≤ most := by
  induction hn : b.length using Nat.strongRecOn generalizing b out with
  | ind n ih =>
    subst hn
    by_cases hb : b = []
    · subst hb; rw [opn_nil]; exact hm
    · cases ho : open1 ent lng most b out with
      | inr e => rw [opn_err hb ho]; simp
      | inl o =>
        rw [opn_step hb ho]
        obtain ⟨_, h2, _⟩ := open1_len hm ho
        have hz := item_size (open1_size ho)
        exact ih (b.drop (item b).2.2).length (by rw [List.length_drop]; omega) (b.drop (item b).2.2) o h2 rfl
end
theorem openR_len (b : List UInt8) (most : Int) : (openR b most).1.length ≤ 1048576 := by
  unfold openR
  split
  · simp
  · rename_i h
    have := opn_len (ent := 50) (lng := 2) (most := most.toNat) b [] (by simp)
    omega
theorem sqzR_len (b : List UInt8) : (sqzR b).1.length ≤ 100000 := by
  unfold sqzR
  split
  · simp
  · have := squeeze_len b
    show (squeeze b).length ≤ _
    omega
theorem kn1 : sqzR [7, 7, 7, 7, 7, 7, 7, 7, 7] = ([0, 7, 133, 1, 0], 0) := by
  have h0 : (best [7, 7, 7, 7, 7, 7, 7, 7, 7] 0).1 = 0 := by decide
  have h1 : best [7, 7, 7, 7, 7, 7, 7, 7, 7] 1 = (8, 1) := by decide
  have r1 : runs [7] = [0, 7] := by rw [runs_step (by simp)]; simp [runs_nil]
  unfold sqzR squeeze
  rw [if_neg (by decide), sqz_own (by decide) h0, sqz_copy (by decide) (by rw [h1]; decide), h1, sqz_end (by decide)]
  simp [r1, runs_nil]
theorem kn2 : openR [128, 1, 0] 9 = ([], 50) := by
  unfold openR
  rw [if_neg (by decide), opn_err (by simp) (e := 50) (by decide)]
theorem kn3 : openR [1, 5, 5] 1 = ([], 2) := by
  unfold openR
  rw [if_neg (by decide), opn_err (by simp) (e := 2) (by decide)]
def longB (n : Nat) : Bool := (decide (900 < n) && decide (n ≤ 65536)) || decide (70000 < n)
theorem longB_no {n : Nat} (h : longB n = false) : n ≤ 70000 := by
  unfold longB at h
  rw [Bool.or_eq_false_iff] at h
  have := of_decide_eq_false h.2
  omega
end Sqz
theorem long_calls (a : Option Addr) (n c : Nat) (w : World) : Calls Try.prog 8 #[.slice a n c] w fun e w' => e = .returned (.bool (Sqz.longB n)) ∧ w = w' := by
  have hv : Sqz.longB n = ((decide (900 < n) && decide (n ≤ 65536)) || decide (70000 < n)) := rfl
  by_cases h1 : 900 < n
  · have g1 : decide ((900 : Int) < (n : Int)) = true := decide_eq_true (by omega)
    by_cases h2 : n ≤ 65536
    · have g2 : decide ((n : Int) ≤ 65536) = true := decide_eq_true (by omega)
      rw [hv, decide_eq_true h1, decide_eq_true h2]
      clear hv
      go_enter Try.func8, Try.ntmps8
      go_wp2
      go_ret
      exact ⟨rfl, rfl⟩
    · have g2 : decide ((n : Int) ≤ 65536) = false := decide_eq_false (by omega)
      rw [hv, decide_eq_true h1, decide_eq_false h2]
      clear hv
      by_cases h3 : 70000 < n
      · have g3 : decide ((70000 : Int) < (n : Int)) = true := decide_eq_true (by omega)
        rw [decide_eq_true h3]
        go_enter Try.func8, Try.ntmps8
        go_wp2
        go_ret
        exact ⟨rfl, rfl⟩
      · have g3 : decide ((70000 : Int) < (n : Int)) = false := decide_eq_false (by omega)
        rw [decide_eq_false h3]
        go_enter Try.func8, Try.ntmps8
        go_wp2
        go_ret
        exact ⟨rfl, rfl⟩
  · have g1 : decide ((900 : Int) < (n : Int)) = false := decide_eq_false (by omega)
    have g3 : decide ((70000 : Int) < (n : Int)) = false := decide_eq_false (by omega)
    rw [hv, decide_eq_false h1, decide_eq_false (show ¬ 70000 < n by omega)]
    clear hv
    go_enter Try.func8, Try.ntmps8
    go_wp2
    go_ret
    exact ⟨rfl, rfl⟩
set_option maxHeartbeats 4000000 in
theorem known_calls (w : World) :
    Calls Try.prog 9 #[] w fun e w' => e = .returned (.bool true) ∧ Below w.heap.size w w' := by
  have hx1 := Arr.lit (f := byteV) w 5 [7, 7, 7, 7, 7, 7, 7, 7, 7] 9 rfl (by decide) (cs := #[.int .u8 7, .int .u8 7, .int .u8 7, .int .u8 7, .int .u8 7, .int .u8 7, .int .u8 7, .int .u8 7, .int .u8 7]) rfl
  have hb1 := (Below.refl w.heap.size w).alloc (Nat.le_refl _) (.cells #[.int .u8 7, .int .u8 7, .int .u8 7, .int .u8 7, .int .u8 7, .int .u8 7, .int .u8 7, .int .u8 7, .int .u8 7] 5)
  have c1 := Lib.hid (squeeze_calls _ 9 9 _ _ hx1 (Nat.le_refl _) (by decide))
  unfold OpenR at c1
  rw [Sqz.kn1] at c1
  have HB1 := Lib.hid hb1
  clear hx1 hb1
  go_enter Try.func9, Try.ntmps9
  go_wp2_with fail
  refine c1.out.mono ?_
  rintro e w1 ⟨⟨v1, rfl, ho⟩, hb⟩
  obtain ⟨a1, d1, rfl, _⟩ := ho.formN (n := 5) rfl
  have HX1 := Lib.hid (ho.arr (by decide))
  have HB2 := Lib.hid (HB1.out.then_ hb)
  clear ho hb c1
  go_wp2_with fail
  have hx2 := Arr.lit (f := byteV) w1 5 [128, 1, 0] 3 rfl (by decide) (cs := #[.int .u8 128, .int .u8 1, .int .u8 0]) rfl
  have hb2 := (Below.refl w1.heap.size w1).alloc (Nat.le_refl _) (.cells #[.int .u8 128, .int .u8 1, .int .u8 0] 5)
  have c2 := Lib.hid (open_calls _ 3 3 _ 9 _ hx2 (Nat.le_refl _))
  unfold OpenR at c2
  rw [Sqz.kn2] at c2
  have HX2 := Lib.hid (HX1.out.on hb2)
  have HB3 := Lib.hid (HB2.out.then_ hb2)
  clear hx2 hb2
  refine c2.out.mono ?_
  rintro e w2 ⟨⟨v2, rfl, _⟩, hb⟩
  have HX3 := Lib.hid (HX2.out.on hb)
  have HB4 := Lib.hid (HB3.out.then_ hb)
  clear hb c2
  go_wp2_with fail
  have hx4 := Arr.lit (f := byteV) w2 5 [1, 5, 5] 3 rfl (by decide) (cs := #[.int .u8 1, .int .u8 5, .int .u8 5]) rfl
  have hb4 := (Below.refl w2.heap.size w2).alloc (Nat.le_refl _) (.cells #[.int .u8 1, .int .u8 5, .int .u8 5] 5)
  have c3 := Lib.hid (open_calls _ 3 3 _ 1 _ hx4 (Nat.le_refl _))
  unfold OpenR at c3
  rw [Sqz.kn3] at c3
  have HX4 := Lib.hid (HX3.out.on hb4)
  have HB5 := Lib.hid (HB4.out.then_ hb4)
  clear hx4 hb4
  refine c3.out.mono ?_
  rintro e w3 ⟨⟨v3, rfl, _⟩, hb⟩
  have HX5 := Lib.hid (HX4.out.on hb)
  have HB6 := Lib.hid (HB5.out.then_ hb)
  clear hb c3
  go_wp2_with fail
  have hx6 := Arr.lit (f := byteV) w3 5 [0, 7, 133, 1, 0] 5 rfl (by decide) (cs := #[.int .u8 0, .int .u8 7, .int .u8 133, .int .u8 1, .int .u8 0]) rfl
  have hb6 := (Below.refl w3.heap.size w3).alloc (Nat.le_refl _) (.cells #[.int .u8 0, .int .u8 7, .int .u8 133, .int .u8 1, .int .u8 0] 5)
  have HSA := Lib.hid (same_yes a1 _ 5 d1 5 5 _ _ (HX5.out.on hb6) hx6)
  have HB7 := Lib.hid (HB6.out.then_ hb6)
  clear hx6 hb6
  refine HSA.out.mono ?_
  rintro e w_ ⟨rfl, rfl⟩
  go_wp2
  go_ret
  exact ⟨rfl, HB7.out⟩
set_option maxHeartbeats 4000000 in
theorem squeezeDoes_walk (a : Option Addr) (n c : Nat) (b : List UInt8) (w : World) (hx : Bytes w w.heap.size a n b) (hnc : n ≤ c) (hc : c ≤ 140737488351232) :
    Calls Try.prog 3 #[.slice a n c] w fun x w' => x = .returned (.bool true) ∧ Below w.heap.size w w' := by
  cases hlg : Sqz.longB n
  case true =>
    clear hx
    go_enter Try.func3, Try.ntmps3
    go_wp2_with fail
    refine (long_calls _ _ _ _).mono ?_
    rintro e w_ ⟨rfl, rfl⟩
    rw [hlg]
    go_wp2_with fail
    refine (known_calls _).mono ?_
    rintro e wk_ ⟨rfl, h_⟩
    have HBk_ := Lib.hid h_
    clear h_
    go_wp2
    go_ret
    exact ⟨rfl, HBk_.out⟩
  have HX := Lib.hid hx
  have C1 := Lib.hid (squeeze_calls a n c b w hx hnc hc)
  have C2 := Lib.hid (fun W (hb : Below w.heap.size w W) => refSqueeze_calls a n c b W (hx.on hb) hnc)
  have hrl := Sqz.sqzR_len b
  unfold OpenR at C1 C2
  generalize Sqz.sqzR b = R at *
  obtain ⟨rs, re⟩ := R
  dsimp only at *
  clear hx
  go_enter Try.func3, Try.ntmps3
  go_wp2_with fail
  refine (long_calls _ _ _ _).mono ?_
  rintro e w_ ⟨rfl, rfl⟩
  rw [hlg]
  clear hlg
  go_wp2_with fail
  refine C1.out.mono ?_
  rintro e w1 ⟨⟨v1, rfl, ho⟩, hb⟩
  obtain ⟨a1, d1, rfl, _⟩ := ho.form
  have HY1 := Lib.hid (ho.arr (by omega))
  have HB1 := Lib.hid hb
  clear ho hb
  go_wp2_with fail
  refine (C2.out _ HB1.out).mono ?_
  rintro e w2 ⟨⟨v2, rfl, ho⟩, hb⟩
  obtain ⟨a2, d2, rfl, _⟩ := ho.form
  have HSA := Lib.hid (same_yes a1 a2 _ d1 _ d2 _ w2 (HY1.out.on hb) (ho.arr (by omega)))
  have HB2 := Lib.hid (HB1.out.then_ hb)
  clear ho hb
  go_wp2_with fail
  refine HSA.out.mono ?_
  rintro e w_ ⟨rfl, rfl⟩
  go_wp2_with fail
  refine (known_calls _).mono ?_
  rintro e wk_ ⟨rfl, h_⟩
  have HBk_ := Lib.hid h_
  clear h_
  go_wp2
  go_ret
  exact ⟨rfl, Below.then_ (HB2.out) HBk_.out⟩
set_option maxHeartbeats 4000000 in
theorem squeezeOpens_walk (a : Option Addr) (n c : Nat) (b : List UInt8) (most : Int) (w : World) (hx : Bytes w w.heap.size a n b) (hnc : n ≤ c) (_ : c ≤ 140737488351232) (_ : -9223372036854775808 ≤ most) (_ : most ≤ 9223372036854775807) :
    Calls Try.prog 4 #[.slice a n c, .int .i64 most] w fun x w' => x = .returned (.bool true) ∧ Below w.heap.size w w' := by
  cases hlg : Sqz.longB n
  case true =>
    clear hx
    go_enter Try.func4, Try.ntmps4
    go_wp2_with fail
    refine (long_calls _ _ _ _).mono ?_
    rintro e w_ ⟨rfl, rfl⟩
    rw [hlg]
    go_wp2_with fail
    refine (known_calls _).mono ?_
    rintro e wk_ ⟨rfl, h_⟩
    have HBk_ := Lib.hid h_
    clear h_
    go_wp2
    go_ret
    exact ⟨rfl, HBk_.out⟩
  have HX := Lib.hid hx
  have C1 := Lib.hid (open_calls a n c b most w hx hnc)
  have C2 := Lib.hid (fun W (hb : Below w.heap.size w W) => refOpen_calls a n c b most W (hx.on hb) hnc)
  have hrl := Sqz.openR_len b most
  unfold OpenR at C1 C2
  generalize Sqz.openR b most = R at *
  obtain ⟨rs, re⟩ := R
  dsimp only at *
  clear hx
  go_enter Try.func4, Try.ntmps4
  go_wp2_with fail
  refine (long_calls _ _ _ _).mono ?_
  rintro e w_ ⟨rfl, rfl⟩
  rw [hlg]
  clear hlg
  go_wp2_with fail
  refine C1.out.mono ?_
  rintro e w1 ⟨⟨v1, rfl, ho⟩, hb⟩
  obtain ⟨a1, d1, rfl, _⟩ := ho.form
  have HY1 := Lib.hid (ho.arr (by omega))
  have HB1 := Lib.hid hb
  clear ho hb
  go_wp2_with fail
  refine (C2.out _ HB1.out).mono ?_
  rintro e w2 ⟨⟨v2, rfl, ho⟩, hb⟩
  obtain ⟨a2, d2, rfl, _⟩ := ho.form
  have HSA := Lib.hid (same_yes a1 a2 _ d1 _ d2 _ w2 (HY1.out.on hb) (ho.arr (by omega)))
  have HB2 := Lib.hid (HB1.out.then_ hb)
  clear ho hb
  go_wp2_with fail
  refine HSA.out.mono ?_
  rintro e w_ ⟨rfl, rfl⟩
  go_wp2_with fail
  refine (known_calls _).mono ?_
  rintro e wk_ ⟨rfl, h_⟩
  have HBk_ := Lib.hid h_
  clear h_
  go_wp2
  go_ret
  exact ⟨rfl, Below.then_ (HB2.out) HBk_.out⟩
set_option maxHeartbeats 4000000 in
theorem squeezeBack_walk (a : Option Addr) (n c : Nat) (b : List UInt8) (w : World) (hx : Bytes w w.heap.size a n b) (hnc : n ≤ c) (hc : c ≤ 140737488351232) :
    Calls Try.prog 5 #[.slice a n c] w fun x w' => x = .returned (.bool true) ∧ Below w.heap.size w w' := by
  by_cases h3 : 3000 < n
  · have g1 : decide ((3000 : Int) < (n : Int)) = true := decide_eq_true (by omega)
    clear hx
    go_enter Try.func5, Try.ntmps5
    go_wp2_with fail
    refine (known_calls _).mono ?_
    rintro e wk_ ⟨rfl, h_⟩
    have HBk_ := Lib.hid h_
    clear h_
    go_wp2
    go_ret
    exact ⟨rfl, HBk_.out⟩
  have g1 : decide ((3000 : Int) < (n : Int)) = false := decide_eq_false (by omega)
  have hl := hx.len
  have HX := Lib.hid hx
  have C1 := Lib.hid (squeeze_calls a n c b w hx hnc hc)
  have hrl := Sqz.squeeze_len b
  have HO := Lib.hid (show Sqz.openR (Sqz.squeeze b) (n : Int) = (b, 0) by unfold Sqz.openR; rw [if_neg (by omega), Sqz.opn_squeeze b (by omega)])
  rw [show Sqz.sqzR b = (Sqz.squeeze b, 0) by unfold Sqz.sqzR; rw [if_neg (by omega)]] at C1
  unfold OpenR at C1
  generalize Sqz.squeeze b = S at *
  dsimp only at *
  rw [hl] at hrl
  have HL := Lib.hid hl
  clear hx hl
  go_enter Try.func5, Try.ntmps5
  go_wp2_with fail
  refine C1.out.mono ?_
  rintro e w1 ⟨⟨v1, rfl, ho⟩, hb⟩
  obtain ⟨q, hq⟩ : ∃ q, q = S.length := ⟨_, rfl⟩
  obtain ⟨a1, d1, rfl, hd1⟩ := ho.formN hq.symm
  rw [← hq] at hrl
  have C2 := Lib.hid (open_calls a1 _ d1 S (n : Int) w1 (ho.arr (by omega)) (by omega))
  unfold OpenR at C2
  rw [HO.out] at C2
  dsimp only at C2
  have HB1 := Lib.hid hb
  clear ho hb hq
  go_wp2_with fail
  refine C2.out.mono ?_
  rintro e w2 ⟨⟨v2, rfl, ho⟩, hb⟩
  obtain ⟨a2, d2, rfl, _⟩ := ho.formN HL.out
  have HSA := Lib.hid (same_yes a a2 _ c _ d2 _ w2 (HX.out.on (HB1.out.then_ hb)) (ho.arr (by rw [HL.out]; omega)))
  have HB2 := Lib.hid (HB1.out.then_ hb)
  have g5 : decide ((q : Int) ≤ (n : Int) + (n : Int) / 4 + 1) = true := decide_eq_true (by omega)
  clear ho hb
  go_wp2_with fail
  refine HSA.out.mono ?_
  rintro e w_ ⟨rfl, rfl⟩
  go_wp2_with fail
  refine (known_calls _).mono ?_
  rintro e wk_ ⟨rfl, h_⟩
  have HBk_ := Lib.hid h_
  clear h_
  go_wp2
  go_ret
  exact ⟨rfl, Below.then_ (HB2.out) HBk_.out⟩
end Go.Proofs.Ytpjjfehocibljaa
