/-
  The walks of the laws EccCodes, EccMends and EccWhole.
-/
import Derived.Test.YtceoogpmcijlaaaEccTop
namespace Go.Proofs.Ytceoogpmcijlaaa
open Go.RowKit

def Ecc.Long (n : Nat) : Prop := 600 < n ∧ n ≤ 4096 ∨ 5000 < n
instance (n : Nat) : Decidable (Ecc.Long n) := inferInstanceAs (Decidable (600 < n ∧ n ≤ 4096 ∨ 5000 < n))
theorem elong_of (a : Option Addr) (n c : Nat) (w : World) :
    Calls Try.prog 9 #[.slice a n c] w fun e w' => e = .returned (.bool (decide (Ecc.Long n))) ∧ w = w' := elong_calls a n c w
theorem codeE_good {xs : List UInt8} {n : Nat} (h : 1 ≤ n ∧ n ≤ 4096) : Ecc.codeE xs n = #[.int .u32 (Ecc.code xs : Nat), .int .i64 0] := if_pos h
theorem codeE_bad {xs : List UInt8} {n : Nat} (h : ¬ (1 ≤ n ∧ n ≤ 4096)) : Ecc.codeE xs n = #[.int .u32 0, .int .i64 1] := if_neg h
theorem codeE_some (xs : List UInt8) (n : Nat) : ∃ c : Nat, ∃ e : Int, Ecc.codeE xs n = #[.int .u32 (c : Nat), .int .i64 e] := by
  by_cases h : 1 ≤ n ∧ n ≤ 4096
  · exact ⟨_, _, codeE_good h⟩
  · exact ⟨0, 1, codeE_bad h⟩
set_option maxHeartbeats 1000000 in
theorem eccCodes_walk (a : Option Addr) (n c : Nat) (xs : List UInt8) (w : World) (hx : Bytes w w.heap.size a n xs) (_ : n ≤ c) (_ : c ≤ 140737488351232) :
    Calls Try.prog 3 #[.slice a n c] w fun e w' => e = .returned (.bool true) ∧ Below w.heap.size w w' := by
  have HX := Lib.hid hx
  clear hx
  by_cases hl : Ecc.Long n
  · have hd : decide (Ecc.Long n) = true := decide_eq_true hl
    clear hl
    go_enter Try.func3, Try.ntmps3
    go_wp2_with fail
    refine (elong_of _ _ _ _).mono ?_
    rintro e w_ ⟨rfl, rfl⟩
    rw [hd]
    go_wp2_with fail
    refine (known_calls _).mono ?_
    rintro e wk_ ⟨rfl, h_⟩
    have HBk_ := Lib.hid h_
    clear h_
    go_wp2
    go_ret
    exact ⟨rfl, HBk_.out⟩
  have hd : decide (Ecc.Long n) = false := decide_eq_false hl
  clear hl
  obtain ⟨C, E, hCE⟩ := codeE_some xs n
  have HC := Lib.hid hCE
  clear hCE
  go_enter Try.func3, Try.ntmps3
  go_wp2_with fail
  refine (elong_of _ _ _ _).mono ?_
  rintro e w_ ⟨rfl, rfl⟩
  rw [hd]
  clear hd
  go_wp2_with fail
  refine (codeE_calls a n c xs _ HX.out).mono ?_
  rintro e w1 ⟨rfl, h_⟩
  have HB1 := Lib.hid h_
  clear h_
  rw [HC.out]
  have HX1 := Lib.hid (HX.out.on HB1.out)
  go_wp2_with fail
  refine (refCode_calls a n c xs _ HX1.out).mono ?_
  rintro e w2 ⟨rfl, h_⟩
  have HB2 := Lib.hid h_
  clear h_
  rw [HC.out]
  go_wp2_with fail
  refine (known_calls _).mono ?_
  rintro e wk_ ⟨rfl, h_⟩
  have HBk_ := Lib.hid h_
  clear h_
  go_wp2
  go_ret
  exact ⟨rfl, Below.then_ (HB1.out.then_ HB2.out) HBk_.out⟩
set_option maxHeartbeats 1000000 in
theorem eccMends_walk (a : Option Addr) (n c : Nat) (xs : List UInt8) (C : BitVec 32) (w : World) (hx : Bytes w w.heap.size a n xs) (_ : n ≤ c) (_ : c ≤ 140737488351232) :
    Calls Try.prog 4 #[.slice a n c, .int .u32 C.toNat] w fun e w' => e = .returned (.bool true) ∧ Below w.heap.size w w' := by
  have HX := Lib.hid hx
  have hC : C.toNat < 4294967296 := C.isLt
  clear hx
  generalize C.toNat = K at *
  by_cases hl : Ecc.Long n
  · have hd : decide (Ecc.Long n) = true := decide_eq_true hl
    clear hl
    go_enter Try.func4, Try.ntmps4
    go_wp2_with fail
    refine (elong_of _ _ _ _).mono ?_
    rintro e w_ ⟨rfl, rfl⟩
    rw [hd]
    go_wp2_with fail
    refine (known_calls _).mono ?_
    rintro e wk_ ⟨rfl, h_⟩
    have HBk_ := Lib.hid h_
    clear h_
    go_wp2
    go_ret
    exact ⟨rfl, HBk_.out⟩
  have hd : decide (Ecc.Long n) = false := decide_eq_false hl
  clear hl
  go_enter Try.func4, Try.ntmps4
  go_wp2_with fail
  refine (elong_of _ _ _ _).mono ?_
  rintro e w_ ⟨rfl, rfl⟩
  rw [hd]
  clear hd
  go_wp2_with fail
  refine (mend_calls a n c xs K _ HX.out hC).mono ?_
  rintro e w1 ⟨a1, n1, c1, rfl, hx1, hb⟩
  have HB1 := Lib.hid hb
  have HX1 := Lib.hid (HX.out.on hb)
  have HY1 := Lib.hid hx1
  clear hb hx1
  go_wp2_with fail
  refine (refMend_calls a n c xs K _ HX1.out hC).mono ?_
  rintro e w2 ⟨a2, n2, c2, rfl, hx2, hb⟩
  have HB2 := Lib.hid (HB1.out.then_ hb)
  have HY2 := Lib.hid (HY1.out.on hb)
  have HZ2 := Lib.hid hx2
  clear hb hx2 HY1
  generalize Ecc.mend xs K = M at *
  obtain ⟨ys, k, r⟩ := M
  go_wp2_with fail
  refine (same_yes _ _ _ _ _ _ _ _ HY2.out HZ2.out).mono ?_
  rintro e w_ ⟨rfl, rfl⟩
  go_wp2_with fail
  refine (known_calls _).mono ?_
  rintro e wk_ ⟨rfl, h_⟩
  have HBk_ := Lib.hid h_
  clear h_
  go_wp2
  go_ret
  exact ⟨rfl, Below.then_ (HB2.out) HBk_.out⟩
set_option maxHeartbeats 1000000 in
theorem eccWhole_walk (a : Option Addr) (n c : Nat) (xs : List UInt8) (w : World) (hx : Bytes w w.heap.size a n xs) (_ : n ≤ c) (_ : c ≤ 140737488351232) :
    Calls Try.prog 5 #[.slice a n c] w fun e w' => e = .returned (.bool true) ∧ Below w.heap.size w w' := by
  have HX := Lib.hid hx
  have hlen := hx.len
  clear hx
  by_cases hl : Ecc.Long n
  · have hd : decide (Ecc.Long n) = true := decide_eq_true hl
    clear hl hlen
    go_enter Try.func5, Try.ntmps5
    go_wp2_with fail
    refine (elong_of _ _ _ _).mono ?_
    rintro e w_ ⟨rfl, rfl⟩
    rw [hd]
    go_wp2_with fail
    refine (known_calls _).mono ?_
    rintro e wk_ ⟨rfl, h_⟩
    have HBk_ := Lib.hid h_
    clear h_
    go_wp2
    go_ret
    exact ⟨rfl, HBk_.out⟩
  have hd : decide (Ecc.Long n) = false := decide_eq_false hl
  clear hl
  by_cases hg : 1 ≤ n ∧ n ≤ 4096
  · have HC := Lib.hid (codeE_good (xs := xs) hg)
    have HM := Lib.hid (Ecc.mend_own xs (by omega) (by omega))
    have hc := Ecc.code_lt xs (by omega)
    generalize Ecc.code xs = K at *
    clear hlen hg
    go_enter Try.func5, Try.ntmps5
    go_wp2_with fail
    refine (elong_of _ _ _ _).mono ?_
    rintro e w_ ⟨rfl, rfl⟩
    rw [hd]
    clear hd
    go_wp2_with fail
    refine (codeE_calls a n c xs _ HX.out).mono ?_
    rintro e w1 ⟨rfl, h_⟩
    have HB1 := Lib.hid h_
    clear h_
    rw [HC.out]
    have HX1 := Lib.hid (HX.out.on HB1.out)
    go_wp2_with fail
    refine (mend_calls a n c xs K _ HX1.out (by omega)).mono ?_
    rintro e w2 ⟨a2, n2, c2, rfl, hx2, hb⟩
    rw [HM.out] at *
    have HB2 := Lib.hid (HB1.out.then_ hb)
    have HX2 := Lib.hid (HX1.out.on hb)
    have HY2 := Lib.hid hx2
    clear hb hx2
    go_wp2_with fail
    refine (same_yes _ _ _ _ _ _ _ _ HY2.out HX2.out).mono ?_
    rintro e w_ ⟨rfl, rfl⟩
    go_wp2_with fail
    refine (known_calls _).mono ?_
    rintro e wk_ ⟨rfl, h_⟩
    have HBk_ := Lib.hid h_
    clear h_
    go_wp2
    go_ret
    exact ⟨rfl, Below.then_ (HB2.out) HBk_.out⟩
  · have HC := Lib.hid (codeE_bad (xs := xs) hg)
    clear hlen hg
    go_enter Try.func5, Try.ntmps5
    go_wp2_with fail
    refine (elong_of _ _ _ _).mono ?_
    rintro e w_ ⟨rfl, rfl⟩
    rw [hd]
    clear hd
    go_wp2_with fail
    refine (codeE_calls a n c xs _ HX.out).mono ?_
    rintro e w1 ⟨rfl, h_⟩
    have HB1 := Lib.hid h_
    clear h_
    rw [HC.out]
    go_wp2_with fail
    refine (known_calls _).mono ?_
    rintro e wk_ ⟨rfl, h_⟩
    have HBk_ := Lib.hid h_
    clear h_
    go_wp2
    go_ret
    exact ⟨rfl, Below.then_ (HB1.out) HBk_.out⟩
end Go.Proofs.Ytceoogpmcijlaaa
