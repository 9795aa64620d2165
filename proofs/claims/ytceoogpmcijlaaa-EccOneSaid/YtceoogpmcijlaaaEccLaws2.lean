/-
  The walks of the laws EccOne and EccTwo.
-/
import Derived.Test.YtceoogpmcijlaaaEccLaws1
namespace Go.Proofs.Ytceoogpmcijlaaa
open Go.RowKit

theorem digit_xor (c d : Nat) (hc : c < 131072) (hd : d < 17) : bits .xor .u32 (c : Int) ((2 : Int) ^ d % 4294967296) = ((c ^^^ 2 ^ d : Nat) : Int) := by
  have h : 2 ^ d < 131072 := by
    have := Nat.pow_lt_pow_right (a := 2) (m := d) (n := 17) (by omega) hd
    omega
  rw [show (2 : Int) ^ d = ((2 ^ d : Nat) : Int) by simp]
  generalize 2 ^ d = P at *
  rw [show (P : Int) % 4294967296 = P by omega]
  exact u32_xor_nat _ _ (by omega) (by omega)
set_option maxHeartbeats 2000000 in
theorem eccOne_walk (a : Option Addr) (n c : Nat) (xs : List UInt8) (at_ : Int) (w : World) (hx : Bytes w w.heap.size a n xs) (_ : n ≤ c) (_ : c ≤ 140737488351232) (lo : -9223372036854775808 ≤ at_) (hi : at_ ≤ 9223372036854775807) :
    Calls Try.prog 6 #[.slice a n c, .int .i64 at_] w fun e w' => e = .returned (.bool true) ∧ Below w.heap.size w w' := by
  have HX := Lib.hid hx
  have hlen := hx.len
  clear hx
  by_cases hl : Ecc.Long n
  · have hd : decide (Ecc.Long n) = true := decide_eq_true hl
    clear hl hlen
    go_enter Try.func6, Try.ntmps6
    go_wp2_with fail
    refine (elong_of _ _ _ _).mono ?_
    rintro e w_ ⟨rfl, rfl⟩
    rw [hd]
    go_wp2_with fail
    refine (known_calls _).mono ?_
    rintro e wk_ ⟨rfl, h_⟩
    have HBk_ := Lib.hid h_
    clear h_
    go_wp2
    go_ret
    exact ⟨rfl, HBk_.out⟩
  have hd : decide (Ecc.Long n) = false := decide_eq_false hl
  clear hl
  by_cases h0 : n = 0
  · subst h0
    clear hlen
    go_enter Try.func6, Try.ntmps6
    go_wp2_with fail
    refine (elong_of _ _ _ _).mono ?_
    rintro e w_ ⟨rfl, rfl⟩
    rw [hd]
    go_wp2_with fail
    refine (known_calls _).mono ?_
    rintro e wk_ ⟨rfl, h_⟩
    have HBk_ := Lib.hid h_
    clear h_
    go_wp2
    go_ret
    exact ⟨rfl, HBk_.out⟩
  have g0 : ((n : Int) == 0) = false := by rw [beq_eq_false_iff_ne]; omega
  by_cases h1 : 4096 < n
  · have g1 : decide (4096 < (n : Int)) = true := decide_eq_true (by omega)
    clear hlen h0
    go_enter Try.func6, Try.ntmps6
    go_wp2_with fail
    refine (elong_of _ _ _ _).mono ?_
    rintro e w_ ⟨rfl, rfl⟩
    rw [hd]
    go_wp2_with fail
    refine (known_calls _).mono ?_
    rintro e wk_ ⟨rfl, h_⟩
    have HBk_ := Lib.hid h_
    clear h_
    go_wp2
    go_ret
    exact ⟨rfl, HBk_.out⟩
  have g1 : decide (4096 < (n : Int)) = false := decide_eq_false (by omega)
  have hn : n ≤ 4096 := by omega
  obtain ⟨k, hk, hk8⟩ := among_nat at_ (8 * n) (by omega)
  obtain ⟨d, hdd, hd17⟩ := among_nat at_ 17 (by omega)
  have HC := Lib.hid (codeE_good (xs := xs) (n := n) (by omega))
  have HM1 := Lib.hid (Ecc.mend_bit xs k (by omega) (by omega) (by omega))
  have HM2 := Lib.hid (Ecc.mend_digit xs d (by omega) (by omega) hd17)
  have hc := Ecc.code_lt xs (by omega)
  have hcd := Ecc.digit_lt (Ecc.code xs) d hc hd17
  have hxor := digit_xor (Ecc.code xs) d hc hd17
  have a1 := among_calls at_ ((8 * n : Nat) : Int) w lo hi (by omega)
  have A1 := Lib.hid (fun w1 => among_calls at_ ((8 * n : Nat) : Int) w1 lo hi (by omega))
  have A2 := Lib.hid (fun w1 => among_calls at_ ((17 : Nat) : Int) w1 lo hi (by omega))
  rw [hk] at A1
  rw [hdd] at A2
  generalize Ecc.code xs = K at *
  generalize hKd : K ^^^ 2 ^ d = Kd at *
  clear hlen h0 h1 a1 hk hdd hKd
  have A1' : Hid (∀ w1, Calls Try.prog 16 #[.int .i64 at_, .int .i64 (8 * (n : Int))] w1 fun e w' => e = .returned (.int .i64 k) ∧ w1 = w') := A1
  clear A1
  go_enter Try.func6, Try.ntmps6
  go_wp2_with fail
  refine (elong_of _ _ _ _).mono ?_
  rintro e w_ ⟨rfl, rfl⟩
  rw [hd]
  clear hd
  go_wp2_with fail
  refine (codeE_calls a n c xs _ HX.out).mono ?_
  rintro e w1 ⟨rfl, h_⟩
  have HB1 := Lib.hid h_
  clear h_
  rw [HC.out]
  have HX1 := Lib.hid (HX.out.on HB1.out)
  go_wp2_with fail
  refine (A1'.out _).mono ?_
  rintro e w_ ⟨rfl, rfl⟩
  go_wp2_with fail
  refine (turned_calls a n c xs k _ HX1.out (by omega) hk8).mono ?_
  rintro e w2 ⟨⟨v2, rfl, ho⟩, hb⟩
  obtain ⟨a2, c2, rfl, _⟩ := ho.form
  have HB2 := Lib.hid (HB1.out.then_ hb)
  have HX2 := Lib.hid (HX1.out.on hb)
  have HT2 := Lib.hid (ho.arr (by rw [Ecc.turn_len, HX1.out.len]; omega))
  clear hb ho HX1 HB1
  go_wp2_with fail
  refine (mend_calls _ _ _ (Ecc.turn xs k) K _ HT2.out (by omega)).mono ?_
  rintro e w3 ⟨a3, n3, c3, rfl, hx3, hb⟩
  rw [HM1.out] at *
  have HB3 := Lib.hid (HB2.out.then_ hb)
  have HX3 := Lib.hid (HX2.out.on hb)
  have HY3 := Lib.hid hx3
  clear hb hx3 HX2 HB2 HT2
  go_wp2_with fail
  refine (A2.out _).mono ?_
  rintro e w_ ⟨rfl, rfl⟩
  go_wp2_with fail
  refine (mend_calls a n c xs Kd _ HX3.out (by omega)).mono ?_
  rintro e w4 ⟨a4, n4, c4, rfl, hx4, hb⟩
  rw [HM2.out] at *
  have HB4 := Lib.hid (HB3.out.then_ hb)
  have HX4 := Lib.hid (HX3.out.on hb)
  have HY4 := Lib.hid (HY3.out.on hb)
  have HZ4 := Lib.hid hx4
  clear hb hx4 HX3 HY3 HB3
  go_wp2_with fail
  refine (same_yes _ _ _ _ _ _ _ _ HY4.out HX4.out).mono ?_
  rintro e w_ ⟨rfl, rfl⟩
  go_wp2_with fail
  refine (same_yes _ _ _ _ _ _ _ _ HZ4.out HX4.out).mono ?_
  rintro e w_ ⟨rfl, rfl⟩
  go_wp2_with fail
  refine (known_calls _).mono ?_
  rintro e wk_ ⟨rfl, h_⟩
  have HBk_ := Lib.hid h_
  clear h_
  go_wp2
  go_ret
  exact ⟨rfl, Below.then_ (HB4.out) HBk_.out⟩
set_option maxHeartbeats 1000000 in
theorem hurt_calls (a : Option Addr) (n c : Nat) (xs : List UInt8) (C k : Nat) (w : World) (hx : Bytes w w.heap.size a n xs) (hn : n ≤ 4096) (hC : C < 131072) (hk : k < 8 * n + 17) :
    Calls Try.prog 18 #[.slice a n c, .int .u32 C, .int .i64 k] w fun e w' => (∃ a1 c1, e = .returned (.tuple #[.slice a1 n c1, .int .u32 (Ecc.hurt xs C k).2]) ∧ Bytes w' w'.heap.size a1 n (Ecc.hurt xs C k).1) ∧ Below w.heap.size w w' := by
  have hlen := hx.len
  have HX := Lib.hid hx
  have hroom := hx.room
  by_cases h : k < 8 * n
  · have HH := Lib.hid (show Ecc.hurt xs C k = (Ecc.turn xs k, C) by unfold Ecc.hurt; rw [if_pos (by omega)])
    have g0 : decide ((k : Int) < 8 * (n : Int)) = true := decide_eq_true (by omega)
    have HL := Lib.hid (show (Ecc.turn xs k).length = n by rw [Ecc.turn_len, hlen])
    generalize Ecc.hurt xs C k = H at *
    clear hx hlen
    go_enter Try.func18, Try.ntmps18
    go_wp2_with (go_at_call 17; refine (turned_calls a n c xs k w HX.out hn h).mono ?_; rintro e w2 ⟨⟨v2, rfl, ho⟩, hb⟩; obtain ⟨a2, c2, rfl, _⟩ := ho.formN HL.out; have HO := Lib.hid ho; have HB := Lib.hid hb; clear ho hb)
    go_ret2
    rw [HH.out]
    exact ⟨⟨_, _, rfl, HO.out.arr (by rw [HL.out]; omega)⟩, HB.out⟩
  · have HH := Lib.hid (show Ecc.hurt xs C k = (xs, C ^^^ 2 ^ (k - 8 * n)) by unfold Ecc.hurt; rw [if_neg (by omega), hlen])
    have g0 : decide ((k : Int) < 8 * (n : Int)) = false := decide_eq_false (by omega)
    obtain ⟨d, rfl⟩ : ∃ d, k = 8 * n + d := ⟨k - 8 * n, by omega⟩
    have g1 : (8 * (n : Int) + (d : Int) - 8 * (n : Int)) = (d : Int) := by omega
    have hxor := digit_xor C d hC (by omega)
    rw [show 8 * n + d - 8 * n = d by omega] at HH
    generalize Ecc.hurt xs C (8 * n + d) = H at *
    generalize C ^^^ 2 ^ d = Cd at *
    clear hx hlen
    go_enter Try.func18, Try.ntmps18
    go_wp2
    go_ret2
    rw [HH.out]
    exact ⟨⟨_, _, rfl, HX.out⟩, Below.refl _ _⟩
set_option maxHeartbeats 2000000 in
theorem eccTwo_walk (a : Option Addr) (n c : Nat) (xs : List UInt8) (i j : Int) (w : World) (hx : Bytes w w.heap.size a n xs) (_ : n ≤ c) (_ : c ≤ 140737488351232) (lo : -9223372036854775808 ≤ i) (hi : i ≤ 9223372036854775807) (lo2 : -9223372036854775808 ≤ j) (hi2 : j ≤ 9223372036854775807) :
    Calls Try.prog 7 #[.slice a n c, .int .i64 i, .int .i64 j] w fun e w' => e = .returned (.bool true) ∧ Below w.heap.size w w' := by
  have HX := Lib.hid hx
  have hlen := hx.len
  clear hx
  by_cases hl : Ecc.Long n
  · have hd : decide (Ecc.Long n) = true := decide_eq_true hl
    clear hl hlen
    go_enter Try.func7, Try.ntmps7
    go_wp2_with fail
    refine (elong_of _ _ _ _).mono ?_
    rintro e w_ ⟨rfl, rfl⟩
    rw [hd]
    go_wp2_with fail
    refine (known_calls _).mono ?_
    rintro e wk_ ⟨rfl, h_⟩
    have HBk_ := Lib.hid h_
    clear h_
    go_wp2
    go_ret
    exact ⟨rfl, HBk_.out⟩
  have hd : decide (Ecc.Long n) = false := decide_eq_false hl
  clear hl
  by_cases h0 : n = 0
  · subst h0
    clear hlen
    go_enter Try.func7, Try.ntmps7
    go_wp2_with fail
    refine (elong_of _ _ _ _).mono ?_
    rintro e w_ ⟨rfl, rfl⟩
    rw [hd]
    go_wp2_with fail
    refine (known_calls _).mono ?_
    rintro e wk_ ⟨rfl, h_⟩
    have HBk_ := Lib.hid h_
    clear h_
    go_wp2
    go_ret
    exact ⟨rfl, HBk_.out⟩
  have g0 : ((n : Int) == 0) = false := by rw [beq_eq_false_iff_ne]; omega
  by_cases h1 : 4096 < n
  · have g1 : decide (4096 < (n : Int)) = true := decide_eq_true (by omega)
    clear hlen h0
    go_enter Try.func7, Try.ntmps7
    go_wp2_with fail
    refine (elong_of _ _ _ _).mono ?_
    rintro e w_ ⟨rfl, rfl⟩
    rw [hd]
    go_wp2_with fail
    refine (known_calls _).mono ?_
    rintro e wk_ ⟨rfl, h_⟩
    have HBk_ := Lib.hid h_
    clear h_
    go_wp2
    go_ret
    exact ⟨rfl, HBk_.out⟩
  have g1 : decide (4096 < (n : Int)) = false := decide_eq_false (by omega)
  have hn : n ≤ 4096 := by omega
  obtain ⟨p, hp, hp8⟩ := among_nat i (8 * n + 17) (by omega)
  obtain ⟨q, hq, hq8⟩ := among_nat j (8 * n + 17) (by omega)
  have HC := Lib.hid (codeE_good (xs := xs) (n := n) (by omega))
  have hc := Ecc.code_lt xs (by omega)
  have A1 := Lib.hid (fun w1 => among_calls i ((8 * n + 17 : Nat) : Int) w1 lo hi (by omega))
  have A2 := Lib.hid (fun w1 => among_calls j ((8 * n + 17 : Nat) : Int) w1 lo2 hi2 (by omega))
  rw [hp] at A1
  rw [hq] at A2
  have A1' : Hid (∀ w1, Calls Try.prog 16 #[.int .i64 i, .int .i64 (8 * (n : Int) + 17)] w1 fun e w' => e = .returned (.int .i64 p) ∧ w1 = w') := A1
  have A2' : Hid (∀ w1, Calls Try.prog 16 #[.int .i64 j, .int .i64 (8 * (n : Int) + 17)] w1 fun e w' => e = .returned (.int .i64 q) ∧ w1 = w') := A2
  clear A1 A2 hp hq
  by_cases hpq : p = q
  · subst hpq
    generalize Ecc.code xs = K at *
    clear hlen h0 h1
    go_enter Try.func7, Try.ntmps7
    go_wp2_with fail
    refine (elong_of _ _ _ _).mono ?_
    rintro e w_ ⟨rfl, rfl⟩
    rw [hd]
    clear hd
    go_wp2_with fail
    refine (codeE_calls a n c xs _ HX.out).mono ?_
    rintro e w1 ⟨rfl, h_⟩
    have HB1 := Lib.hid h_
    clear h_
    rw [HC.out]
    go_wp2_with fail
    refine (A1'.out _).mono ?_
    rintro e w_ ⟨rfl, rfl⟩
    go_wp2_with fail
    refine (A2'.out _).mono ?_
    rintro e w_ ⟨rfl, rfl⟩
    go_wp2_with fail
    refine (known_calls _).mono ?_
    rintro e wk_ ⟨rfl, h_⟩
    have HBk_ := Lib.hid h_
    clear h_
    go_wp2
    go_ret
    exact ⟨rfl, Below.then_ (HB1.out) HBk_.out⟩
  have g2 : ((p : Int) == (q : Int)) = false := by rw [beq_eq_false_iff_ne]; omega
  have HM := Lib.hid (Ecc.mend_two xs p q (by omega) (by omega) (by omega) (by omega) hpq)
  have hc1 := Ecc.hurt_lt xs (Ecc.code xs) p hc (by omega)
  have hc2 := Ecc.hurt_lt (Ecc.hurt xs (Ecc.code xs) p).1 _ q hc1 (by rw [Ecc.hurt_len]; omega)
  have H1 := Lib.hid (fun w1 h => hurt_calls a n c xs (Ecc.code xs) p w1 h hn hc hp8)
  have H2 := Lib.hid (fun a1 c1 w1 h => hurt_calls a1 n c1 (Ecc.hurt xs (Ecc.code xs) p).1 (Ecc.hurt xs (Ecc.code xs) p).2 q w1 h hn hc1 hq8)
  generalize Ecc.hurt (Ecc.hurt xs (Ecc.code xs) p).1 (Ecc.hurt xs (Ecc.code xs) p).2 q = R2 at *
  generalize Ecc.hurt xs (Ecc.code xs) p = R1 at *
  generalize Ecc.code xs = K at *
  obtain ⟨ys, C1⟩ := R1
  obtain ⟨zs, C2⟩ := R2
  clear hlen h0 h1 hpq
  go_enter Try.func7, Try.ntmps7
  go_wp2_with fail
  refine (elong_of _ _ _ _).mono ?_
  rintro e w_ ⟨rfl, rfl⟩
  rw [hd]
  clear hd
  go_wp2_with fail
  refine (codeE_calls a n c xs _ HX.out).mono ?_
  rintro e w1 ⟨rfl, h_⟩
  have HB1 := Lib.hid h_
  clear h_
  rw [HC.out]
  have HX1 := Lib.hid (HX.out.on HB1.out)
  go_wp2_with fail
  refine (A1'.out _).mono ?_
  rintro e w_ ⟨rfl, rfl⟩
  go_wp2_with fail
  refine (A2'.out _).mono ?_
  rintro e w_ ⟨rfl, rfl⟩
  go_wp2_with fail
  refine (H1.out _ HX1.out).mono ?_
  rintro e w2 ⟨⟨a2, c2, rfl, hy⟩, hb⟩
  have HB2 := Lib.hid (HB1.out.then_ hb)
  have HY2 := Lib.hid hy
  clear hb hy HX1 HB1
  go_wp2_with fail
  refine (H2.out a2 c2 _ HY2.out).mono ?_
  rintro e w3 ⟨⟨a3, c3, rfl, hz⟩, hb⟩
  have HB3 := Lib.hid (HB2.out.then_ hb)
  have HZ3 := Lib.hid hz
  clear hb hz HY2 HB2
  go_wp2_with fail
  refine (mend_calls a3 n c3 zs C2 _ HZ3.out (by omega)).mono ?_
  rintro e w4 ⟨a4, n4, c4, rfl, hx4, hb⟩
  have HM' := Lib.hid (show Ecc.mend zs C2 = ([], 0, 21) from HM.out)
  rw [HM'.out] at hx4 ⊢
  obtain rfl : n4 = 0 := hx4.len.symm
  have HB4 := Lib.hid (HB3.out.then_ hb)
  clear hb hx4
  go_wp2_with fail
  refine (known_calls _).mono ?_
  rintro e wk_ ⟨rfl, h_⟩
  have HBk_ := Lib.hid h_
  clear h_
  go_wp2
  go_ret
  exact ⟨rfl, Below.then_ (HB4.out) HBk_.out⟩
end Go.Proofs.Ytceoogpmcijlaaa
