/-
  ecc.flip and the reference's Turned: a bit is turned.
-/
import Derived.Test.YtceoogpmcijlaaaEccMendM
import Derived.Test.YtceoogpmcijlaaaEccPlaces
import Derived.StillTailTactics
namespace Go.Proofs.Ytceoogpmcijlaaa
open Go.RowKit

theorem u8_xor_nat (a b : Nat) (ha : a < 256) (hb : b < 256) : bits .xor .u8 (a : Int) (b : Int) = ((a ^^^ b : Nat) : Int) := by
  have hx : a ^^^ b < 2 ^ 8 := Nat.xor_lt_two_pow (by omega) (by omega)
  show IntKind.u8.wrap ((BitVec.ofInt 8 (a : Int) ^^^ BitVec.ofInt 8 (b : Int)).toNat : Int) = _
  rw [BitVec.toNat_xor, ofInt_u8 a ha, ofInt_u8 b hb]
  exact IntWalk.u8_in _ ⟨by omega, by omega⟩
theorem pow_lt8 (i : Nat) (h : i < 8) : 2 ^ i < 256 := by
  have := Nat.pow_lt_pow_right (a := 2) (m := i) (n := 8) (by omega) h
  omega
theorem turn_val (x : UInt8) (i : Nat) (h : i < 8) : bits .xor .u8 (x.toNat : Int) ((2 : Int) ^ i) = ((x ^^^ UInt8.ofNat (2 ^ i)).toNat : Int) := by
  have hp := pow_lt8 i h
  rw [show (2 : Int) ^ i = ((2 ^ i : Nat) : Int) by simp, u8_xor_nat _ _ x.toNat_lt hp, UInt8.toNat_xor, UInt8.toNat_ofNat', Nat.mod_eq_of_lt hp]
theorem turn_val2 (x : UInt8) (i : Nat) (h : i < 8) : bits .xor .u8 (x.toNat : Int) ((2 : Int) ^ i % 256) = ((x ^^^ UInt8.ofNat (2 ^ i)).toNat : Int) := by
  have hp := pow_lt8 i h
  rw [← turn_val x i h, show (2 : Int) ^ i = ((2 ^ i : Nat) : Int) by simp]
  generalize 2 ^ i = P at *
  rw [show (P : Int) % 256 = P by omega]
set_option maxHeartbeats 1000000 in
theorem flip_calls (g n c : Nat) (xs : List UInt8) (k base : Nat) (w : World) (ho : Own byteV 5 w base (.slice (some ⟨g, 0, none⟩) n c) xs) (hl : xs.length = n) (hn : n ≤ 4096) (hk : k < 8 * n) :
    Calls Try.prog 31 #[.slice (some ⟨g, 0, none⟩) n c, .int .i64 k] w fun e w' => e = .returned (.tuple #[]) ∧ Own byteV 5 w' base (.slice (some ⟨g, 0, none⟩) n c) (Ecc.turn xs k) ∧ Below base w w' := by
  have hk8 : k / 8 < xs.length := by omega
  obtain ⟨g', e1, hgb, hgl, hcell, hfr⟩ := ho.cell hk8
  injection e1 with e1
  subst e1
  have HV := Lib.hid (turn_val xs[k / 8] (k % 8) (by omega))
  have HO := Lib.hid ho.drew
  have HT := Lib.hid (show Ecc.turn xs k = xs.set (k / 8) (xs[k / 8] ^^^ UInt8.ofNat (2 ^ (k % 8))) by
    unfold Ecc.turn; rw [List.getD_eq_getElem?_getD, List.getElem?_eq_getElem hk8, Option.getD_some])
  have hb1 := (xs[k / 8]).toNat_lt
  have hcell' : w.cell? ⟨g, k / 8, none⟩ = some (.int .u8 (xs[k / 8].toNat : Int)) := hcell
  generalize xs[k / 8] = B at *
  have g1 : (0 : Int) ≤ (k : Int) / 8 := by omega
  have g2 : (k : Int) / 8 < (n : Int) := by omega
  have g3 : ((k : Int) / 8).toNat = k / 8 := by omega
  have g4 : (0 : Int) ≤ (k : Int) % 8 := by omega
  have g5 : (k : Int) % 8 < 8 := by omega
  have g6 : ((k : Int) % 8).toNat = k % 8 := by omega
  have g7 : IntKind.u8.wrap ((2 : Int) ^ (k % 8)) = ((2 ^ (k % 8) : Nat) : Int) := by
    have := pow_lt8 (k % 8) (by omega)
    rw [show (2 : Int) ^ (k % 8) = ((2 ^ (k % 8) : Nat) : Int) by simp]
    generalize 2 ^ (k % 8) = P at *
    exact IntWalk.u8_in _ ⟨by omega, by omega⟩
  have g8 : IntKind.i64.wrap ((k : Int) / 8) = (k : Int) / 8 := IntWalk.i64_in _ ⟨by omega, by omega⟩
  have g9 : (k : Int).tmod 8 = (k : Int) % 8 := Int.tmod_eq_emod_of_nonneg (by omega)
  have g10 : IntKind.i64.wrap ((k : Int) % 8) = (k : Int) % 8 := IntWalk.i64_in _ ⟨by omega, by omega⟩
  clear ho hl hk8 hcell
  go_enter Try.func31, Try.ntmps31
  go_wp2_with fail
  go_still_tail 10, (by kernel_rfl)
  have hcell2 : w.drew.cell? ⟨g, k / 8, none⟩ = some (.int .u8 (B.toNat : Int)) := hcell'
  have hfr2 : w.drew.frozen? ⟨g, k / 8, none⟩ = false := hfr
  have hbel := Lib.hid ((Below.refl base w).drew)
  change wpList _ _ _ _ _ w.drew
  generalize w.drew = w2 at *
  clear hcell' hfr g1 g2 g3 g4 g5 g6 g7 g8 g9 g10
  go_wp2
  go_end0
  refine ⟨rfl, ?_, hbel.out.setCell (p := ⟨g, k / 8, none⟩) hgb _⟩
  rw [HT.out]
  have h := HO.out.set (k / 8) (B ^^^ UInt8.ofNat (2 ^ (k % 8)))
  rw [byteV_eq, ← HV.out] at h
  exact h
set_option maxHeartbeats 1000000 in
theorem turned_calls (a : Option Addr) (n c : Nat) (xs : List UInt8) (k : Nat) (w : World) (hx : Bytes w w.heap.size a n xs) (hn : n ≤ 4096) (hk : k < 8 * n) :
    Calls Try.prog 17 #[.slice a n c, .int .i64 k] w fun e w' => (∃ v, e = .returned v ∧ Own byteV 5 w' w.heap.size v (Ecc.turn xs k)) ∧ Below w.heap.size w w' := by
  have hl := hx.len
  have hk8 : k / 8 < xs.length := by omega
  have HX := Lib.hid hx
  have HV := Lib.hid (turn_val2 xs[k / 8] (k % 8) (by omega))
  have HT := Lib.hid (show Ecc.turn xs k = xs.set (k / 8) (xs[k / 8] ^^^ UInt8.ofNat (2 ^ (k % 8))) by
    unfold Ecc.turn; rw [List.getD_eq_getElem?_getD, List.getElem?_eq_getElem hk8, Option.getD_some])
  have hb1 := (xs[k / 8]).toNat_lt
  have HE := Lib.hid (show ∃ B, B = xs[k / 8] from ⟨_, rfl⟩)
  obtain ⟨B, hB⟩ := HE.out
  rw [← hB] at hb1 HV HT
  have HB := Lib.hid hB
  have HL := Lib.hid hl
  clear hx hB hl HE
  have g1 : (0 : Int) ≤ (k : Int) / 8 := by omega
  have g2 : (k : Int) / 8 < (n : Int) := by omega
  have g3 : ((k : Int) / 8).toNat = k / 8 := by omega
  have g4 : (0 : Int) ≤ (k : Int) % 8 := by omega
  have g5 : (k : Int) % 8 < 8 := by omega
  have g6 : ((k : Int) % 8).toNat = k % 8 := by omega
  have g8 : IntKind.i64.wrap ((k : Int) / 8) = (k : Int) / 8 := IntWalk.i64_in _ ⟨by omega, by omega⟩
  have g9 : (k : Int).tmod 8 = (k : Int) % 8 := Int.tmod_eq_emod_of_nonneg (by omega)
  have g10 : IntKind.i64.wrap ((k : Int) % 8) = (k : Int) % 8 := IntWalk.i64_in _ ⟨by omega, by omega⟩
  have g11 : IntKind.u64.wrap ((k : Int) % 8) = (k : Int) % 8 := IntWalk.u64_in _ ⟨by omega, by omega⟩
  go_enter Try.func17, Try.ntmps17
  go_wp2_with (at_builtin; refine wpList_ontoB rfl _ _ rfl w.heap.size _ [] rfl (Own.nil _ _) _ a n c xs rfl HX.out (by simp only [List.length_nil]; omega) (by omega) ?_; intro v1 w1 HO1 hb1; rw [List.nil_append] at HO1; obtain ⟨g, c1, rfl, _, hgb, hgl⟩ := HO1.out.form_some (by omega); rw [HL.out] at HO1; obtain ⟨g', e1, _, _, hcell, hfr⟩ := HO1.out.cell hk8; injection e1 with e1; subst e1; rw [← HB.out, byteV_eq] at hcell; simp only [HL.out])
  go_ret
  refine ⟨⟨_, rfl, ?_⟩, hb1.out.setCell (p := ⟨g, k / 8, none⟩) hgb _⟩
  rw [HT.out]
  have h := HO1.out.set (k / 8) (B ^^^ UInt8.ofNat (2 ^ (k % 8)))
  rw [byteV_eq, ← HV.out] at h
  exact h
end Go.Proofs.Ytceoogpmcijlaaa
