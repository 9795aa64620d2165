/-
  Both Mends.
-/
import Derived.Test.YtceoogpmcijlaaaEccLook
import Derived.Test.YtceoogpmcijlaaaEccTurn
import Derived.Test.YtceoogpmcijlaaaEccSum
import Derived.Test.YtceoogpmcijlaaaEccSmall
import Derived.Test.YtceoogpmcijlaaaSlClone
namespace Go.Proofs.Ytceoogpmcijlaaa
open Go.RowKit

theorem Ecc.mend_look (xs : List UInt8) (c : Nat) (h1 : 1 ≤ xs.length) (h2 : xs.length ≤ 4096) (hc : c < 131072) :
    (Ecc.look xs c = (0, 0) ∧ Ecc.mend xs c = (xs, -1, 0)) ∨ (Ecc.look xs c = (2, 0) ∧ Ecc.mend xs c = (xs, -2, 0)) ∨
    (∃ k : Nat, k < 8 * xs.length ∧ Ecc.look xs c = (1, (k : Int)) ∧ Ecc.mend xs c = (Ecc.turn xs k, (k : Int), 0)) ∨ (Ecc.look xs c = (3, 0) ∧ Ecc.mend xs c = ([], 0, 21)) := by
  have hb : ¬ (xs.length < 1 ∨ 4096 < xs.length ∨ 131071 < c) := by omega
  unfold Ecc.look Ecc.mend
  rw [if_neg hb]
  by_cases a1 : Ecc.par xs c = 0 ∧ Ecc.syn xs c = 0
  · rw [if_pos a1, if_pos a1]; exact .inl ⟨rfl, rfl⟩
  · rw [if_neg a1, if_neg a1]
    by_cases a2 : Ecc.par xs c = 1 ∧ (Ecc.syn xs c = 0 ∨ Ecc.pow2 (Ecc.syn xs c) = true)
    · rw [if_pos a2, if_pos a2]; exact .inr (.inl ⟨rfl, rfl⟩)
    · rw [if_neg a2, if_neg a2]
      by_cases a3 : Ecc.par xs c = 1 ∧ Ecc.bitOf (Ecc.syn xs c) < 8 * xs.length
      · rw [if_pos a3, if_pos a3]; exact .inr (.inr (.inl ⟨_, a3.2, rfl, rfl⟩))
      · rw [if_neg a3, if_neg a3]; exact .inr (.inr (.inr ⟨rfl, rfl⟩))
/-- What a Mend leaves. -/
def MendR (m : List UInt8 × Int × Int) (w : World) (e : Ending) (w' : World) : Prop :=
  ∃ a n c, e = .returned (.tuple #[.slice a n c, .int .i64 m.2.1, .int .i64 m.2.2]) ∧ Bytes w' w'.heap.size a n m.1 ∧ Below w.heap.size w w'
set_option maxHeartbeats 1000000 in
theorem mend_bad (a : Option Addr) (n c : Nat) (C : Nat) (w : World) (hn : n ≤ 140737488351232) (hC : C < 4294967296) (hbad : ¬ (1 ≤ n ∧ n ≤ 4096) ∨ 131071 < C) :
    Calls Try.prog 13 #[.slice a n c, .int .u32 C] w fun e w' => e = .returned (.tuple #[.slice none 0 0, .int .i64 0, .int .i64 1]) ∧ w = w' := by
  have hbc := Lib.hid (block_calls a n c w hn)
  by_cases hb : 1 ≤ n ∧ n ≤ 4096
  · rw [decide_eq_true hb] at hbc
    have h : 131071 < C := by rcases hbad with h | h; exact absurd hb h; exact h
    have g1 : decide (131071 < (C : Int)) = true := decide_eq_true (by omega)
    clear hb hbad
    go_enter Try.func13, Try.ntmps13
    go_wp2_with (go_at_call 23; refine hbc.out.mono ?_; rintro e w' ⟨rfl, rfl⟩)
    go_ret3
    exact ⟨rfl, rfl⟩
  · rw [decide_eq_false hb] at hbc
    clear hb hbad
    go_enter Try.func13, Try.ntmps13
    go_wp2_with (go_at_call 23; refine hbc.out.mono ?_; rintro e w' ⟨rfl, rfl⟩)
    go_ret3
    exact ⟨rfl, rfl⟩
set_option maxHeartbeats 2000000 in
theorem mend_calls (a : Option Addr) (n c : Nat) (xs : List UInt8) (C : Nat) (w : World) (hx : Bytes w w.heap.size a n xs) (hC : C < 4294967296) :
    Calls Try.prog 13 #[.slice a n c, .int .u32 C] w (MendR (Ecc.mend xs C) w) := by
  have hlen := hx.len
  have hroom := hx.room
  by_cases hbad : ¬ (1 ≤ n ∧ n ≤ 4096) ∨ 131071 < C
  · refine (mend_bad a n c C w hroom hC hbad).mono ?_
    rintro e w' ⟨rfl, rfl⟩
    have hm : Ecc.mend xs C = ([], 0, 1) := by unfold Ecc.mend; rw [if_pos (by omega)]
    rw [hm]
    exact ⟨_, _, _, rfl, Arr.none_ _ _ _, Below.refl _ _⟩
  · have h1 : 1 ≤ n := by omega
    have h2 : n ≤ 4096 := by omega
    have h3 : C < 131072 := by omega
    have hbc := Lib.hid (block_calls a n c w hroom)
    rw [decide_eq_true ⟨h1, h2⟩] at hbc
    have g1 : decide (131071 < (C : Int)) = false := decide_eq_false (by omega)
    have HK := Lib.hid (Ecc.mend_look xs C (by omega) (by omega) h3)
    have HX := Lib.hid hx
    have HL := Lib.hid hlen
    clear hx hlen hbad
    generalize hmm : Ecc.mend xs C = M at *
    have HM := Lib.hid hmm
    clear hmm
    go_enter Try.func13, Try.ntmps13
    go_wp2_with (go_at_call 23; refine hbc.out.mono ?_; rintro e w' ⟨rfl, rfl⟩)
    refine (clone_calls a n c xs w HX.out).mono ?_
    rintro e w1 ⟨⟨v1, rfl, ho⟩, hb⟩
    obtain ⟨g, c1, rfl, hc1, hgb, hgl⟩ := ho.form_some (by rw [HL.out]; omega)
    rw [HL.out] at ho
    have HO := Lib.hid ho.drew
    have HB := Lib.hid hb.drew
    have hlc := Lib.hid (look_calls a n c xs C w1 (HX.out.on hb) h2 h3)
    simp only [HL.out]
    clear ho hb hbc HM HX
    rcases HK.out with ⟨hl, hm⟩ | ⟨hl, hm⟩ | ⟨k, hk, hl, hm⟩ | ⟨hl, hm⟩
    · rw [hl] at hlc
      subst hm
      clear hl HK
      go_wp2_with (go_at_call 30; refine hlc.out.mono ?_; rintro e w' ⟨rfl, rfl⟩)
      go_ret3
      exact ⟨_, _, _, rfl, HO.out.arr (by rw [HL.out]; omega), HB.out⟩
    · rw [hl] at hlc
      subst hm
      clear hl HK
      go_wp2_with (go_at_call 30; refine hlc.out.mono ?_; rintro e w' ⟨rfl, rfl⟩)
      go_ret3
      exact ⟨_, _, _, rfl, HO.out.arr (by rw [HL.out]; omega), HB.out⟩
    · rw [hl] at hlc
      subst hm
      have hk2 : k < 8 * n := by rw [← HL.out]; exact hk
      clear hl HK hk
      go_wp2_with (first
        | (go_at_call 30; refine hlc.out.mono ?_; rintro e w' ⟨rfl, rfl⟩)
        | (go_at_call 31; refine (flip_calls g n c1 xs k w.heap.size _ HO.out HL.out h2 hk2).mono ?_; rintro e w3 ⟨rfl, ho3, hb3⟩; have HO3 := Lib.hid ho3; have HB3 := Lib.hid hb3; clear ho3 hb3))
      go_ret3
      exact ⟨_, _, _, rfl, HO3.out.arr (by rw [Ecc.turn_len, HL.out]; omega), HB.out.trans HB3.out⟩
    · rw [hl] at hlc
      subst hm
      clear hl HK
      go_wp2_with (go_at_call 30; refine hlc.out.mono ?_; rintro e w' ⟨rfl, rfl⟩)
      go_ret3
      exact ⟨_, _, _, rfl, Arr.none_ _ _ _, HB.out⟩
theorem i64_xor16 (a b : Nat) (ha : a < 65536) (hb : b < 65536) : bits .xor .i64 (a : Int) (b : Int) = ((a ^^^ b : Nat) : Int) := i64_xor_nat a b ha hb
set_option maxHeartbeats 1000000 in
theorem refMend_bad (a : Option Addr) (n c : Nat) (C : Nat) (w : World) (hn : n ≤ 140737488351232) (hC : C < 4294967296) (hbad : ¬ (1 ≤ n ∧ n ≤ 4096) ∨ 131071 < C) :
    Calls Try.prog 14 #[.slice a n c, .int .u32 C] w fun e w' => e = .returned (.tuple #[.slice none 0 0, .int .i64 0, .int .i64 1]) ∧ w = w' := by
  by_cases h1 : n < 1
  · have g0 : decide ((n : Int) < 1) = true := decide_eq_true (by omega)
    clear hbad
    go_enter Try.func14, Try.ntmps14
    go_wp2
    go_ret3
    exact ⟨rfl, rfl⟩
  by_cases h2 : 4096 < n
  · have g0 : decide ((n : Int) < 1) = false := decide_eq_false (by omega)
    have g1 : decide (4096 < (n : Int)) = true := decide_eq_true (by omega)
    clear hbad
    go_enter Try.func14, Try.ntmps14
    go_wp2
    go_ret3
    exact ⟨rfl, rfl⟩
  · have h : 131071 < C := by omega
    have g0 : decide ((n : Int) < 1) = false := decide_eq_false (by omega)
    have g1 : decide (4096 < (n : Int)) = false := decide_eq_false (by omega)
    have g2 : decide (131071 < (C : Int)) = true := decide_eq_true (by omega)
    clear hbad
    go_enter Try.func14, Try.ntmps14
    go_wp2
    go_ret3
    exact ⟨rfl, rfl⟩
/-- Behind the sum and the ones. -/
theorem refMend_walk (a : Option Addr) (n c : Nat) (xs : List UInt8) (C X M m S o q : Nat) (w : World) (hx : Bytes w w.heap.size a n xs) (hn1 : 1 ≤ n) (hn : n ≤ 4096) (hC : C < 131072) (hM : M ≤ 8 * n) (ho : o ≤ C) (hq : q < 2) (hS : S < 65536) (hm : Hid (m = C % 65536)) (hqq : Hid (q = (M + o) % 2))
    (hpc : ∀ w1, Bytes w1 w1.heap.size a n xs → Hid (Calls Try.prog 27 #[.slice a n c] w1 fun e w' => e = .returned (.tuple #[.int .i64 (X : Nat), .int .i64 (M : Nat)]) ∧ Below w1.heap.size w1 w'))
    (hoc : ∀ w1, Hid (Calls Try.prog 28 #[.int .i64 C] w1 fun e w' => e = .returned (.int .i64 o) ∧ w1 = w'))
    (hxor : bits .xor .i64 (X : Int) (m : Int) = (S : Int))
    (R : List UInt8 × Int × Int)
    (hK : Hid (R = if q = 0 ∧ S = 0 then (xs, -1, 0) else if q = 1 ∧ (S = 0 ∨ Ecc.pow2 S = true) then (xs, -2, 0) else if q = 1 ∧ Ecc.bitOf S < 8 * n then (Ecc.turn xs (Ecc.bitOf S), ((Ecc.bitOf S : Nat) : Int), 0) else ([], 0, 21)))
    (hF : Hid (q = 1 → S ≠ 0 → Ecc.pow2 S = false → ∀ k, k < 8 * n → (Ecc.place k = S ↔ k = Ecc.bitOf S))) :
    Calls Try.prog 14 #[.slice a n c, .int .u32 C] w (MendR R w) := by
  have HX := Lib.hid hx
  have g0 : decide ((n : Int) < 1) = false := decide_eq_false (by omega)
  have g1 : decide (4096 < (n : Int)) = false := decide_eq_false (by omega)
  have g2 : decide (131071 < (C : Int)) = false := decide_eq_false (by omega)
  have e1 : (C : Int) % 65536 = (m : Int) := by have := hm.out; omega
  have e2 : ((M : Int) + o) % 2 = (q : Int) := by have := hqq.out; omega
  have HPC := Lib.hid (hpc w hx)
  have hq2 : q = 0 ∨ q = 1 := by omega
  clear hx hpc
  by_cases hS0 : S = 0
  · subst hS0
    rcases hq2 with rfl | rfl
    · rw [if_pos ⟨rfl, rfl⟩] at hK
      go_enter Try.func14, Try.ntmps14
      go_wp2_with (first
        | (go_at_call 27; refine HPC.out.out.mono ?_; rintro e w1 ⟨rfl, hb1⟩; have HB1 := Lib.hid hb1; clear hb1)
        | (go_at_call 28; refine (hoc _).out.mono ?_; rintro e w' ⟨rfl, rfl⟩))
      go_ret3
      rw [hK.out]
      exact ⟨_, _, _, rfl, HX.out.on HB1.out, HB1.out⟩
    · rw [if_neg (fun h => by cases h.1), if_pos ⟨rfl, .inl rfl⟩] at hK
      go_enter Try.func14, Try.ntmps14
      go_wp2_with (first
        | (go_at_call 27; refine HPC.out.out.mono ?_; rintro e w1 ⟨rfl, hb1⟩; have HB1 := Lib.hid hb1; clear hb1)
        | (go_at_call 28; refine (hoc _).out.mono ?_; rintro e w' ⟨rfl, rfl⟩))
      go_ret3
      rw [hK.out]
      exact ⟨_, _, _, rfl, HX.out.on HB1.out, HB1.out⟩
  · have g3 : ((S : Int) == 0) = false := by rw [beq_eq_false_iff_ne]; omega
    have hpw := Lib.hid (fun w1 => refPower_calls S w1 (by omega) (by omega))
    have HS0 := Lib.hid hS0
    clear hS0
    rcases hq2 with rfl | rfl
    · rw [if_neg (fun h => HS0.out h.2), if_neg (fun h => by cases h.1), if_neg (fun h => by cases h.1)] at hK
      go_enter Try.func14, Try.ntmps14
      go_wp2_with (first
        | (go_at_call 27; refine HPC.out.out.mono ?_; rintro e w1 ⟨rfl, hb1⟩; have HB1 := Lib.hid hb1; clear hb1)
        | (go_at_call 28; refine (hoc _).out.mono ?_; rintro e w' ⟨rfl, rfl⟩))
      refine (refPlaces_calls n _ hn).mono ?_
      rintro e w2 ⟨⟨v2, rfl, ho2⟩, hb2⟩
      obtain ⟨a2, c2, rfl, hc2⟩ := ho2.formN (n := 8 * n) (Ecc.places_len _)
      have HB2 := Lib.hid (HB1.out.then_ hb2)
      clear ho2 hb2 HB1
      go_wp2
      go_loop [12] (fun i => i = .int .i64 0) (fun _ => 0)
      case atStart => rfl
      case round =>
        subst hrel
        go_wp2
        go_ret3
        rw [hK.out]
        exact ⟨_, _, _, rfl, Arr.none_ _ _ _, HB2.out⟩
    · rw [if_neg (fun h => HS0.out h.2)] at hK
      cases hp : Ecc.pow2 S
      · have hF2 := Lib.hid (hF.out rfl HS0.out hp)
        rw [if_neg (fun h => by rcases h.2 with h | h; exact HS0.out h; rw [hp] at h; cases h)] at hK
        simp only [hp] at hpw
        simp only [eq_self, true_and] at hK
        clear hF hp
        go_enter Try.func14, Try.ntmps14
        go_wp2_with (first
          | (go_at_call 27; refine HPC.out.out.mono ?_; rintro e w1 ⟨rfl, hb1⟩; have HB1 := Lib.hid hb1; clear hb1)
          | (go_at_call 32; refine (hpw.out _).mono ?_; rintro e w' ⟨rfl, rfl⟩)
          | (go_at_call 28; refine (hoc _).out.mono ?_; rintro e w' ⟨rfl, rfl⟩))
        refine (refPlaces_calls n _ hn).mono ?_
        rintro e w2 ⟨⟨v2, rfl, ho2⟩, hb2⟩
        obtain ⟨a2, c2, rfl, hc2⟩ := ho2.formN (n := 8 * n) (Ecc.places_len _)
        have HB2 := Lib.hid (HB1.out.then_ hb2)
        have HA := Lib.hid (ho2.arr (by rw [Ecc.places_len]; omega))
        clear ho2 hb2 HB1
        go_wp2
        go_loop [12] (fun i => ∃ k : Nat, k ≤ 8 * n ∧ i = .int .i64 k ∧ ∀ j, j < k → Ecc.place j ≠ S) (fun i => 8 * n - (intOf i).toNat)
        case atStart => exact ⟨0, by omega, rfl, fun j hj => by omega⟩
        case round =>
          obtain ⟨k, hk, rfl, hno⟩ := hrel
          have HN := Lib.hid hno
          clear hno
          by_cases hlt : k < 8 * n
          · obtain ⟨b, o, hk', rfl, hbb, hcell⟩ := HA.out.atv hlt
            have hcv : w2.cell? ⟨b, o + k, none⟩ = some (.int .i64 (Ecc.place k : Int)) := by
              rw [hcell]
              simp [Ecc.places, intV]
            clear hcell hk'
            by_cases hP : Ecc.place k = S
            · have hkk := (hF2.out k hlt).1 hP
              rw [if_pos (by rw [← hkk]; exact hlt), ← hkk] at hK
              rw [hP] at hcv
              have HX2 := Lib.hid (HX.out.on HB2.out)
              clear hP hkk
              go_wp2_with (go_at_call 17; refine (turned_calls a n c xs k w2 HX2.out hn hlt).mono ?_; rintro e w3 ⟨⟨v3, rfl, ho3⟩, hb3⟩; obtain ⟨a3, c3, rfl, hc3⟩ := ho3.form; have HO3 := Lib.hid ho3; have HB3 := Lib.hid hb3; clear ho3 hb3)
              go_ret3
              rw [hK.out]
              exact ⟨_, _, _, rfl, HO3.out.arr (by rw [Ecc.turn_len, HX2.out.len]; omega), HB2.out.then_ HB3.out⟩
            · have g4 : ((Ecc.place k : Int) == (S : Int)) = false := by rw [beq_eq_false_iff_ne]; omega
              have HP := Lib.hid hP
              clear hP
              generalize hpk : Ecc.place k = P at *
              have HPk := Lib.hid hpk
              clear hpk
              go_wp2
              go_round
              case rel =>
                refine ⟨k + 1, by omega, by go_num, fun j hj => ?_⟩
                by_cases e : j = k
                · subst e; rw [HPk.out]; exact HP.out
                · exact HN.out j (by omega)
              case measure => simp [intOf]; omega
          · obtain rfl : k = 8 * n := by omega
            have hno : ¬ (Ecc.bitOf S < 8 * n) := fun h => HN.out _ h ((hF2.out _ h).2 rfl)
            rw [if_neg hno] at hK
            clear hno
            go_wp2
            go_ret3
            rw [hK.out]
            exact ⟨_, _, _, rfl, Arr.none_ _ _ _, HB2.out⟩
      · rw [if_pos ⟨rfl, .inr hp⟩] at hK
        simp only [hp] at hpw
        clear hF hp
        go_enter Try.func14, Try.ntmps14
        go_wp2_with (first
          | (go_at_call 27; refine HPC.out.out.mono ?_; rintro e w1 ⟨rfl, hb1⟩; have HB1 := Lib.hid hb1; clear hb1)
          | (go_at_call 32; refine (hpw.out _).mono ?_; rintro e w' ⟨rfl, rfl⟩)
          | (go_at_call 28; refine (hoc _).out.mono ?_; rintro e w' ⟨rfl, rfl⟩))
        go_ret3
        rw [hK.out]
        exact ⟨_, _, _, rfl, HX.out.on HB1.out, HB1.out⟩
theorem refMend_calls (a : Option Addr) (n c : Nat) (xs : List UInt8) (C : Nat) (w : World) (hx : Bytes w w.heap.size a n xs) (hC : C < 4294967296) :
    Calls Try.prog 14 #[.slice a n c, .int .u32 C] w (MendR (Ecc.mend xs C) w) := by
  have hlen := hx.len
  have hroom := hx.room
  by_cases hbad : ¬ (1 ≤ n ∧ n ≤ 4096) ∨ 131071 < C
  · refine (refMend_bad a n c C w hroom hC hbad).mono ?_
    rintro e w' ⟨rfl, rfl⟩
    have hm : Ecc.mend xs C = ([], 0, 1) := by unfold Ecc.mend; rw [if_pos (by omega)]
    rw [hm]
    exact ⟨_, _, _, rfl, Arr.none_ _ _ _, Below.refl _ _⟩
  · have h1 : 1 ≤ n := by omega
    have h2 : n ≤ 4096 := by omega
    have h3 : C < 131072 := by omega
    have hX := Ecc.sumX_lt xs (8 * n) (by omega)
    have hM := Ecc.sumN_le xs (8 * n)
    have hS := Ecc.syn_lt xs C (by omega)
    have hs : Ecc.syn xs C = Ecc.sumX xs (8 * n) ^^^ (C % 65536) := by rw [← hlen]; rfl
    have hp : Ecc.par xs C = (Ecc.sumN xs (8 * n) + Ecc.ones C) % 2 := by rw [← hlen]; rfl
    have hxor := i64_xor_nat (Ecc.sumX xs (8 * n)) (C % 65536) (by omega) (by omega)
    rw [← hs] at hxor
    refine refMend_walk a n c xs C (Ecc.sumX xs (8 * n)) (Ecc.sumN xs (8 * n)) (C % 65536) (Ecc.syn xs C) (Ecc.ones C) (Ecc.par xs C) w hx h1 h2 h3 hM (Ecc.ones_le C) (by rcases Ecc.par_01 xs C with h | h <;> omega) hS (Lib.hid rfl) (Lib.hid hp)
      (fun w1 h => Lib.hid (eccSum_calls a n c xs w1 h h2)) (fun w1 => Lib.hid (ones_calls C w1 (by omega))) hxor (Ecc.mend xs C) (Lib.hid ?_) (Lib.hid ?_)
    · unfold Ecc.mend
      rw [if_neg (show ¬ (xs.length < 1 ∨ 4096 < xs.length ∨ 131071 < C) by omega), hlen]
    · intro _ h0 hpw k hk
      exact Ecc.mend_found xs C (by omega) h0 hpw k (by omega)
end Go.Proofs.Ytceoogpmcijlaaa
