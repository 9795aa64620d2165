/-
  ecc.Code, ecc.look.
-/
import Derived.Test.YtceoogpmcijlaaaEccBits
import Derived.Test.YtceoogpmcijlaaaEccPlaces
import Derived.Test.YtceoogpmcijlaaaEccBit
import Derived.Test.YtceoogpmcijlaaaEccMendM
namespace Go.Proofs.Ytceoogpmcijlaaa
open Go.RowKit

theorem block_calls (a : Option Addr) (n c : Nat) (w : World) (hn : n ≤ 140737488351232) :
    Calls Try.prog 23 #[.slice a n c] w fun e w' => e = .returned (.bool (decide (1 ≤ n ∧ n ≤ 4096))) ∧ w = w' := by
  by_cases h1 : 1 ≤ n
  · by_cases h2 : n ≤ 4096
    · rw [decide_eq_true ⟨h1, h2⟩]
      have h3 : decide ((n : Int) ≤ 4096) = true := decide_eq_true (by omega)
      go_enter Try.func23, Try.ntmps23
      go_wp2
      go_ret
      exact ⟨rfl, rfl⟩
    · rw [decide_eq_false (fun h => h2 h.2)]
      have h3 : decide ((n : Int) ≤ 4096) = false := decide_eq_false (by omega)
      go_enter Try.func23, Try.ntmps23
      go_wp2
      go_ret
      exact ⟨rfl, rfl⟩
  · rw [decide_eq_false (fun h => h1 h.1)]
    go_enter Try.func23, Try.ntmps23
    go_wp2
    go_ret
    exact ⟨rfl, rfl⟩
theorem u32_code (x p : Nat) (hx : x < 65536) (hp : p < 2) : bits .or .u32 (x : Int) ((p : Int) * 65536) = ((x + 65536 * p : Nat) : Int) := by
  have h : p * 65536 ||| x = p * 65536 + x := by
    have := Nat.two_pow_add_eq_or_of_lt (i := 16) (b := x) (by omega) p
    rw [show (2 : Nat) ^ 16 = 65536 by decide, Nat.mul_comm] at this
    exact this.symm
  show IntKind.u32.wrap ((BitVec.ofInt 32 (x : Int) ||| BitVec.ofInt 32 ((p : Int) * 65536)).toNat : Int) = _
  rw [show (p : Int) * 65536 = ((p * 65536 : Nat) : Int) by omega, BitVec.toNat_or, ofInt_u32 x (by omega), ofInt_u32 (p * 65536) (by omega), Nat.or_comm, h, Nat.add_comm, Nat.mul_comm]
  exact IntWalk.u32_in _ ⟨by omega, by omega⟩
set_option maxHeartbeats 1000000 in
theorem code_calls (a : Option Addr) (n c : Nat) (xs : List UInt8) (w : World) (hx : Bytes w w.heap.size a n xs) :
    Calls Try.prog 11 #[.slice a n c] w fun e w' => e = .returned (.tuple (if 1 ≤ n ∧ n ≤ 4096 then #[.int .u32 (Ecc.code xs : Nat), .int .i64 0] else #[.int .u32 0, .int .i64 1])) ∧ Below w.heap.size w w' := by
  have hroom := hx.room
  have HX := Lib.hid hx
  have hlen := hx.len
  have hbc := Lib.hid (block_calls a n c w hroom)
  by_cases hb : 1 ≤ n ∧ n ≤ 4096
  · rw [decide_eq_true hb] at hbc
    rw [if_pos hb]
    obtain ⟨h1, h2⟩ := hb
    have HC := Lib.hid (show Ecc.code xs = Ecc.sumX xs (8 * n) + 65536 * ((Ecc.sumN xs (8 * n) + Ecc.ones (Ecc.sumX xs (8 * n))) % 2) by rw [← hlen]; rfl)
    have hX := Ecc.sumX_lt xs (8 * n) (by omega)
    have hN := Ecc.sumN_le xs (8 * n)
    have hpc := Lib.hid (places_calls a n c xs w hx h2)
    have hO := Ecc.ones_le (Ecc.sumX xs (8 * n))
    generalize Ecc.sumX xs (8 * n) = X at *
    generalize Ecc.sumN xs (8 * n) = M at *
    obtain ⟨o, e⟩ : ∃ o, o = Ecc.ones X := ⟨_, rfl⟩
    have HO := Lib.hid e
    rw [← e] at hO HC
    obtain ⟨q, eq⟩ : ∃ q, q = (M + o) % 2 := ⟨_, rfl⟩
    have hq : q < 2 := by omega
    have hor := u32_code X q hX hq
    have HQ := Lib.hid eq
    rw [← eq] at HC
    clear hx hlen e eq
    go_enter Try.func11, Try.ntmps11
    go_wp2_with (first
      | (go_at_call 23; refine hbc.out.mono ?_; rintro e w' ⟨rfl, rfl⟩)
      | (go_at_call 24; refine hpc.out.mono ?_; rintro e w' ⟨rfl, rfl⟩))
    refine (onesCount_calls X w (by omega)).mono ?_
    rintro e w' ⟨rfl, rfl⟩
    rw [← HO.out]
    go_wp2_with fail
    refine (Calls.mono (by have := odd_calls (M + o) w.drew (by omega); rw [← HQ.out] at this; exact_mod_cast this) ?_)
    rintro e w' ⟨rfl, rfl⟩
    go_wp2
    go_ret2
    exact ⟨by rw [HC.out, Int.natCast_add, Int.natCast_mul]; rfl, (Below.refl _ _).drew⟩
  · rw [decide_eq_false hb] at hbc
    rw [if_neg hb]
    clear hx hlen hb
    go_enter Try.func11, Try.ntmps11
    go_wp2_with (go_at_call 23; refine hbc.out.mono ?_; rintro e w' ⟨rfl, rfl⟩)
    go_ret2
    exact ⟨rfl, Below.refl _ _⟩
def Ecc.look (xs : List UInt8) (c : Nat) : Int × Int :=
  if Ecc.par xs c = 0 ∧ Ecc.syn xs c = 0 then (0, 0)
  else if Ecc.par xs c = 1 ∧ (Ecc.syn xs c = 0 ∨ Ecc.pow2 (Ecc.syn xs c) = true) then (2, 0)
  else if Ecc.par xs c = 1 ∧ Ecc.bitOf (Ecc.syn xs c) < 8 * xs.length then (1, (Ecc.bitOf (Ecc.syn xs c) : Nat))
  else (3, 0)
theorem eccBit_calls (s k l : Nat) (w : World) (hs : s < 65536) (hk : k = Ecc.bitOf s) (hl : l = Lib.bitLen s) (h : l + 1 ≤ s) :
    Calls Try.prog 41 #[.int .u32 s] w fun e w' => e = .returned (.int .i64 k) ∧ w = w' := by
  have hc := Lib.hid (len32_calls s w hs)
  rw [← hl] at hc
  have hv : (k : Int) = (s : Int) - l - 1 := by
    have e : k = s - Lib.bitLen s - 1 := hk
    rw [← hl] at e
    omega
  have HV := Lib.hid hv
  clear hk hl hv
  go_enter Try.func41, Try.ntmps41
  go_wp2_with (go_at_call 43; refine hc.out.mono ?_; rintro e w' ⟨rfl, rfl⟩)
  go_ret
  exact ⟨by rw [HV.out]; rfl, rfl⟩
theorem u32_and65535 (a : Nat) (ha : a < 4294967296) : bits .and .u32 (a : Int) 65535 = ((a % 65536 : Nat) : Int) := by
  show IntKind.u32.wrap ((BitVec.ofInt 32 (a : Int) &&& BitVec.ofInt 32 ((65535 : Nat) : Int)).toNat : Int) = _
  have h := Nat.and_two_pow_sub_one_eq_mod a 16
  rw [show (2 : Nat) ^ 16 - 1 = 65535 by decide, show (2 : Nat) ^ 16 = 65536 by decide] at h
  rw [BitVec.toNat_and, ofInt_u32 a ha, ofInt_u32 65535 (by omega), h]
  exact IntWalk.u32_in _ ⟨by omega, by omega⟩
/-- What look reckons first. -/
theorem look_walk (a : Option Addr) (n c C X M m S o q : Nat) (w w1 : World) (K : Int × Int) (hn : n ≤ 4096) (hC : C < 131072) (hM : M ≤ 8 * n) (ho : o ≤ C) (hq : q < 2) (hS : S < 65536)
    (hpc : Hid (Calls Try.prog 24 #[.slice a n c] w fun e w' => e = .returned (.tuple #[.int .u32 (X : Nat), .int .i64 (M : Nat)]) ∧ w = w'))
    (hoc : Hid (Calls Try.prog 26 #[.int .u32 C] w fun e w' => e = .returned (.int .i64 o) ∧ w1 = w'))
    (hdc : Hid (Calls Try.prog 25 #[.int .i64 ((M : Int) + o)] w1 fun e w' => e = .returned (.int .u32 q) ∧ w1 = w'))
    (hand : bits .and .u32 (C : Int) 65535 = (m : Int)) (hxor : bits .xor .u32 (X : Int) (m : Int) = (S : Int))
    (hpow : S ≠ 0 → Hid (Calls Try.prog 39 #[.int .u32 S] w1 fun e w' => e = .returned (.bool (Ecc.pow2 S)) ∧ w1 = w'))
    (hbit : S ≠ 0 → Ecc.pow2 S = false → Hid (Calls Try.prog 41 #[.int .u32 S] w1 fun e w' => e = .returned (.int .i64 (Ecc.bitOf S : Nat)) ∧ w1 = w'))
    (hK : Hid (K = if q = 0 ∧ S = 0 then ((0, 0) : Int × Int) else if q = 1 ∧ (S = 0 ∨ Ecc.pow2 S = true) then (2, 0) else if q = 1 ∧ Ecc.bitOf S < 8 * n then (1, ((Ecc.bitOf S : Nat) : Int)) else (3, 0))) :
    Calls Try.prog 30 #[.slice a n c, .int .u32 C] w fun e w' => e = .returned (.tuple #[.int .i64 K.1, .int .i64 K.2]) ∧ w1 = w' := by
  have g1 : decide (131071 < (C : Int)) = false := decide_eq_false (by omega)
  have hMo : (M : Int) + o ≤ 200000 := by omega
  have hq2 : q = 0 ∨ q = 1 := by omega
  by_cases hS0 : S = 0
  · subst hS0
    rcases hq2 with rfl | rfl
    · rw [if_pos ⟨rfl, rfl⟩] at hK
      go_enter Try.func30, Try.ntmps30
      go_wp2_with (first
        | (go_at_call 24; refine hpc.out.mono ?_; rintro e w' ⟨rfl, rfl⟩)
        | (go_at_call 26; refine hoc.out.mono ?_; rintro e w' ⟨rfl, rfl⟩)
        | (go_at_call 25; refine hdc.out.mono ?_; rintro e w' ⟨rfl, rfl⟩))
      go_ret2
      exact ⟨by rw [hK.out]; rfl, rfl⟩
    · rw [if_neg (fun h => by cases h.1), if_pos ⟨rfl, .inl rfl⟩] at hK
      go_enter Try.func30, Try.ntmps30
      go_wp2_with (first
        | (go_at_call 24; refine hpc.out.mono ?_; rintro e w' ⟨rfl, rfl⟩)
        | (go_at_call 26; refine hoc.out.mono ?_; rintro e w' ⟨rfl, rfl⟩)
        | (go_at_call 25; refine hdc.out.mono ?_; rintro e w' ⟨rfl, rfl⟩))
      go_ret2
      exact ⟨by rw [hK.out]; rfl, rfl⟩
  · have g2 : ((S : Int) == 0) = false := by rw [beq_eq_false_iff_ne]; omega
    have hp := hpow hS0
    have hb := hbit hS0
    have HS0 := Lib.hid hS0
    clear hpow hbit hS0
    rcases hq2 with rfl | rfl
    · rw [if_neg (fun h => HS0.out h.2), if_neg (fun h => by cases h.1), if_neg (fun h => by cases h.1)] at hK
      clear hb
      go_enter Try.func30, Try.ntmps30
      go_wp2_with (first
        | (go_at_call 24; refine hpc.out.mono ?_; rintro e w' ⟨rfl, rfl⟩)
        | (go_at_call 26; refine hoc.out.mono ?_; rintro e w' ⟨rfl, rfl⟩)
        | (go_at_call 25; refine hdc.out.mono ?_; rintro e w' ⟨rfl, rfl⟩))
      go_ret2
      exact ⟨by rw [hK.out]; rfl, rfl⟩
    · rw [if_neg (fun h => HS0.out h.2)] at hK
      cases hpw : Ecc.pow2 S
      · have hb2 := hb hpw
        rw [if_neg (fun h => by rcases h.2 with h | h; exact HS0.out h; rw [hpw] at h; cases h)] at hK
        rw [hpw] at hp
        have hbl : Ecc.bitOf S < 65536 := by unfold Ecc.bitOf; omega
        clear hb hpw
        generalize Ecc.bitOf S = k at *
        by_cases hk : k < 8 * n
        · rw [if_pos ⟨rfl, hk⟩] at hK
          have g3 : decide ((k : Int) < 8 * (n : Int)) = true := decide_eq_true (by omega)
          go_enter Try.func30, Try.ntmps30
          go_wp2_with (first
            | (go_at_call 24; refine hpc.out.mono ?_; rintro e w' ⟨rfl, rfl⟩)
            | (go_at_call 26; refine hoc.out.mono ?_; rintro e w' ⟨rfl, rfl⟩)
            | (go_at_call 25; refine hdc.out.mono ?_; rintro e w' ⟨rfl, rfl⟩)
            | (go_at_call 39; refine hp.out.mono ?_; rintro e w' ⟨rfl, rfl⟩)
            | (go_at_call 41; refine hb2.out.mono ?_; rintro e w' ⟨rfl, rfl⟩))
          go_ret2
          exact ⟨by rw [hK.out]; rfl, rfl⟩
        · rw [if_neg (fun h => hk h.2)] at hK
          have g3 : decide ((k : Int) < 8 * (n : Int)) = false := decide_eq_false (by omega)
          go_enter Try.func30, Try.ntmps30
          go_wp2_with (first
            | (go_at_call 24; refine hpc.out.mono ?_; rintro e w' ⟨rfl, rfl⟩)
            | (go_at_call 26; refine hoc.out.mono ?_; rintro e w' ⟨rfl, rfl⟩)
            | (go_at_call 25; refine hdc.out.mono ?_; rintro e w' ⟨rfl, rfl⟩)
            | (go_at_call 39; refine hp.out.mono ?_; rintro e w' ⟨rfl, rfl⟩)
            | (go_at_call 41; refine hb2.out.mono ?_; rintro e w' ⟨rfl, rfl⟩))
          go_ret2
          exact ⟨by rw [hK.out]; rfl, rfl⟩
      · rw [if_pos ⟨rfl, .inr hpw⟩] at hK
        rw [hpw] at hp
        clear hb hpw
        go_enter Try.func30, Try.ntmps30
        go_wp2_with (first
          | (go_at_call 24; refine hpc.out.mono ?_; rintro e w' ⟨rfl, rfl⟩)
          | (go_at_call 26; refine hoc.out.mono ?_; rintro e w' ⟨rfl, rfl⟩)
          | (go_at_call 25; refine hdc.out.mono ?_; rintro e w' ⟨rfl, rfl⟩)
          | (go_at_call 39; refine hp.out.mono ?_; rintro e w' ⟨rfl, rfl⟩))
        go_ret2
        exact ⟨by rw [hK.out]; rfl, rfl⟩
theorem look_calls (a : Option Addr) (n c : Nat) (xs : List UInt8) (C : Nat) (w : World) (hx : Bytes w w.heap.size a n xs) (hn : n ≤ 4096) (hC : C < 131072) :
    Calls Try.prog 30 #[.slice a n c, .int .u32 C] w fun e w' => e = .returned (.tuple #[.int .i64 (Ecc.look xs C).1, .int .i64 (Ecc.look xs C).2]) ∧ w.drew = w' := by
  have hlen := hx.len
  have hX := Ecc.sumX_lt xs (8 * n) (by omega)
  have hM := Ecc.sumN_le xs (8 * n)
  have hS := Ecc.syn_lt xs C (by omega)
  have hs : Ecc.syn xs C = Ecc.sumX xs (8 * n) ^^^ (C % 65536) := by rw [← hlen]; rfl
  have hp : Ecc.par xs C = (Ecc.sumN xs (8 * n) + Ecc.ones C) % 2 := by rw [← hlen]; rfl
  have ho := Ecc.ones_le C
  have hand := u32_and65535 C (by omega)
  have hxor := u32_xor_nat (Ecc.sumX xs (8 * n)) (C % 65536) (by omega) (by omega)
  rw [← hs] at hxor
  have hodd := odd_calls (Ecc.sumN xs (8 * n) + Ecc.ones C) w.drew (by omega)
  rw [← hp] at hodd
  refine look_walk a n c C (Ecc.sumX xs (8 * n)) (Ecc.sumN xs (8 * n)) (C % 65536) (Ecc.syn xs C) (Ecc.ones C) (Ecc.par xs C) w w.drew (Ecc.look xs C) hn hC hM ho (by rcases Ecc.par_01 xs C with h | h <;> omega) hS
    (Lib.hid (places_calls a n c xs w hx hn)) (Lib.hid (onesCount_calls C w (by omega))) (Lib.hid (by exact_mod_cast hodd)) hand hxor ?_ ?_ (Lib.hid ?_)
  · intro h0
    exact Lib.hid (power_calls (Ecc.syn xs C) w.drew (by omega) (by omega))
  · intro h0 hpw
    obtain ⟨j, hj⟩ := Ecc.place_of _ (Ecc.ge3_of _ h0 hpw) hpw
    have h9 := (Ecc.bitOf_place j (by omega)).2
    rw [hj] at h9
    exact Lib.hid (eccBit_calls (Ecc.syn xs C) _ _ w.drew hS rfl rfl h9)
  · unfold Ecc.look
    rw [hlen]
end Go.Proofs.Ytceoogpmcijlaaa
