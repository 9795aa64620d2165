/-
  math/bits: OnesCount32 and Len32.
-/
import Derived.Test.YtceoogpmcijlaaaEccOnes
import Derived.Test.YtceoogpmcijlaaaBytes
import Derived.Lib.BitFns
import Derived.Deep.QuietTactic
import Derived.BigQuiet
import Derived.Deep.Cut
namespace Go.Proofs.Ytceoogpmcijlaaa
open Go.RowKit

theorem ones8 : ∀ n : Fin 256, Lib.pop8 (n.val : Int) = (Ecc.ones n.val : Int) := by decide +kernel
theorem ones8_of (n : Nat) (h : n < 256) : Lib.pop8 (n : Int) = (Ecc.ones n : Int) := ones8 ⟨n, h⟩
theorem ones8_le : ∀ n : Fin 256, Ecc.ones n.val ≤ 8 := by decide +kernel
theorem u32_and255 (a : Nat) (ha : a < 4294967296) : bits .and .u32 (a : Int) 255 = ((a % 256 : Nat) : Int) := by
  show IntKind.u32.wrap ((BitVec.ofInt 32 (a : Int) &&& BitVec.ofInt 32 ((255 : Nat) : Int)).toNat : Int) = _
  have h := Nat.and_two_pow_sub_one_eq_mod a 8
  rw [show (2 : Nat) ^ 8 - 1 = 255 by decide, show (2 : Nat) ^ 8 = 256 by decide] at h
  rw [BitVec.toNat_and, BitVec.ofInt_natCast, BitVec.ofInt_natCast, BitVec.toNat_ofNat, BitVec.toNat_ofNat, Nat.mod_eq_of_lt (by omega), Nat.mod_eq_of_lt (by omega), h]
  exact IntWalk.u32_in _ ⟨by omega, by omega⟩
theorem exec_index {P : Program} {ρ : Operand → Value} {o : Oper} {w : World} {v : Value} (t : TypeId) (x ix : Operand) (ho : o.op = .index t x ix) (h : (Instr.index t (ρ x) (ρ ix)).run P w = .ok v w) :
    (execOp ρ o).run P w = .ok (.value v) w := by
  unfold execOp
  simp only [ho, Sem.run_bind, h, Result.andThen_ok, Sem.run_pure]
theorem idx_pop (s : ByteArray) (k : IntKind) (n : Nat) (w : World) (hs : s = Lib.pop8tab) (h : n < 256) : (Instr.index 9 (.string s) (.int k (n : Int))).run Try.prog w = .ok (.int .u8 (Ecc.ones n : Nat)) w := by
  rw [hs, Lib.run_index_pop8tab w _ k (n : Int) Try.underlying9 (by omega) (by omega), ones8_of n h]
set_option maxRecDepth 100000 in
theorem onesCount_calls (x : Nat) (w : World) (hx : x < 4294967296) :
    Calls Try.prog 26 #[.int .u32 x] w fun e w' => e = .returned (.int .i64 (Ecc.ones x : Nat)) ∧ w.drew = w' := by
  have a1 : bits .and .u32 ((x : Int) / 65536) 255 = (x : Int) / 65536 % 256 := by have := u32_and255 (x / 65536) (by omega); simp only [Int.natCast_emod, Int.natCast_ediv] at this; exact this
  have a2 : bits .and .u32 ((x : Int) / 256) 255 = (x : Int) / 256 % 256 := by have := u32_and255 (x / 256) (by omega); simp only [Int.natCast_emod, Int.natCast_ediv] at this; exact this
  have a3 : bits .and .u32 (x : Int) 255 = (x : Int) % 256 := by have := u32_and255 x hx; simp only [Int.natCast_emod] at this; exact this
  obtain ⟨p0, e0⟩ : ∃ p, p = Ecc.ones (x / 16777216) := ⟨_, rfl⟩
  obtain ⟨p1, e1⟩ : ∃ p, p = Ecc.ones (x / 65536 % 256) := ⟨_, rfl⟩
  obtain ⟨p2, e2⟩ : ∃ p, p = Ecc.ones (x / 256 % 256) := ⟨_, rfl⟩
  obtain ⟨p3, e3⟩ : ∃ p, p = Ecc.ones (x % 256) := ⟨_, rfl⟩
  have l0 : p0 ≤ 8 := by rw [e0]; exact ones8_le ⟨x / 16777216, by omega⟩
  have l1 : p1 ≤ 8 := by rw [e1]; exact ones8_le ⟨x / 65536 % 256, by omega⟩
  have l2 : p2 ≤ 8 := by rw [e2]; exact ones8_le ⟨x / 256 % 256, by omega⟩
  have l3 : p3 ≤ 8 := by rw [e3]; exact ones8_le ⟨x % 256, by omega⟩
  have HF := Lib.hid (Ecc.ones_four x)
  rw [← e0, ← e1, ← e2, ← e3] at HF
  have w1 : IntKind.u8.wrap ((p0 : Int) + p1) = (p0 : Int) + p1 := IntWalk.u8_in _ ⟨by omega, by omega⟩
  have w2 : IntKind.u8.wrap ((p0 : Int) + p1 + p2) = (p0 : Int) + p1 + p2 := IntWalk.u8_in _ ⟨by omega, by omega⟩
  have w3 : IntKind.u8.wrap ((p0 : Int) + p1 + p2 + p3) = (p0 : Int) + p1 + p2 + p3 := IntWalk.u8_in _ ⟨by omega, by omega⟩
  have w4 : IntKind.i64.wrap ((p0 : Int) + p1 + p2 + p3) = (p0 : Int) + p1 + p2 + p3 := IntWalk.i64_in _ ⟨by omega, by omega⟩
  have He0 := Lib.hid e0
  have He1 := Lib.hid e1
  have He2 := Lib.hid e2
  have He3 := Lib.hid e3
  clear e0 e1 e2 e3
  go_enter Try.func26, Try.ntmps26
  go_wp2
  refine wp_region_noPanic ?_
  refine wp_region_held_drew (S := (fun w' => w.drew = w')) (by kernel_rfl) rfl (fun hS0 => ?_)
  refine takeV 0 (v := (.int .u32 (x : Int))) rfl (by kernel_rfl) (by kernel_rfl) (by kernel_rfl) (fun _ _ _ h => h) (by rfl) (fun _ _ => rfl) (by assumption) ?_
  try simp only [layR]
  refine takeV 1 (v := (.int .u32 ((x : Int) / 16777216))) rfl (by kernel_rfl) (by kernel_rfl) (by kernel_rfl) (fun _ _ _ h => h) (by rfl) (fun W hSw => ?_) (by assumption) ?_
  · skip
    go_simp
  try simp only [layR]
  refine takeV 2 (v := (.int .u8 (p0 : Nat))) rfl (by kernel_rfl) (by kernel_rfl) (by kernel_rfl) (fun _ _ _ h => h) (by rfl) (fun W hSw => exec_index _ _ _ rfl (by rw [He0.out]; exact idx_pop _ _ (x / 16777216) _ (by decide +kernel) (by omega))) (by assumption) ?_
  try simp only [layR]
  refine takeV 3 (v := (.int .u32 (x : Int))) rfl (by kernel_rfl) (by kernel_rfl) (by kernel_rfl) (fun _ _ _ h => h) (by rfl) (fun _ _ => rfl) (by assumption) ?_
  try simp only [layR]
  refine takeV 4 (v := (.int .u32 ((x : Int) / 65536))) rfl (by kernel_rfl) (by kernel_rfl) (by kernel_rfl) (fun _ _ _ h => h) (by rfl) (fun W hSw => ?_) (by assumption) ?_
  · skip
    go_simp
  try simp only [layR]
  refine takeV 5 (v := (.int .u32 ((x : Int) / 65536 % 256))) rfl (by kernel_rfl) (by kernel_rfl) (by kernel_rfl) (fun _ _ _ h => h) (by rfl) (fun W hSw => ?_) (by assumption) ?_
  · skip
    go_simp
  try simp only [layR]
  refine takeV 6 (v := (.int .u8 (p1 : Nat))) rfl (by kernel_rfl) (by kernel_rfl) (by kernel_rfl) (fun _ _ _ h => h) (by rfl) (fun W hSw => exec_index _ _ _ rfl (by rw [He1.out]; exact idx_pop _ _ (x / 65536 % 256) _ (by decide +kernel) (by omega))) (by assumption) ?_
  try simp only [layR]
  refine takeV 7 (v := (.int .u8 ((p0 : Int) + p1))) rfl (by kernel_rfl) (by kernel_rfl) (by kernel_rfl) (fun _ _ _ h => h) (by rfl) (fun W hSw => ?_) (by assumption) ?_
  · skip
    go_simp
  try simp only [layR]
  refine takeV 8 (v := (.int .u32 (x : Int))) rfl (by kernel_rfl) (by kernel_rfl) (by kernel_rfl) (fun _ _ _ h => h) (by rfl) (fun _ _ => rfl) (by assumption) ?_
  try simp only [layR]
  refine takeV 9 (v := (.int .u32 ((x : Int) / 256))) rfl (by kernel_rfl) (by kernel_rfl) (by kernel_rfl) (fun _ _ _ h => h) (by rfl) (fun W hSw => ?_) (by assumption) ?_
  · skip
    go_simp
  try simp only [layR]
  refine takeV 10 (v := (.int .u32 ((x : Int) / 256 % 256))) rfl (by kernel_rfl) (by kernel_rfl) (by kernel_rfl) (fun _ _ _ h => h) (by rfl) (fun W hSw => ?_) (by assumption) ?_
  · skip
    go_simp
  try simp only [layR]
  refine takeV 11 (v := (.int .u8 (p2 : Nat))) rfl (by kernel_rfl) (by kernel_rfl) (by kernel_rfl) (fun _ _ _ h => h) (by rfl) (fun W hSw => exec_index _ _ _ rfl (by rw [He2.out]; exact idx_pop _ _ (x / 256 % 256) _ (by decide +kernel) (by omega))) (by assumption) ?_
  try simp only [layR]
  refine takeV 12 (v := (.int .u8 ((p0 : Int) + p1 + p2))) rfl (by kernel_rfl) (by kernel_rfl) (by kernel_rfl) (fun _ _ _ h => h) (by rfl) (fun W hSw => ?_) (by assumption) ?_
  · skip
    go_simp
  try simp only [layR]
  refine takeV 13 (v := (.int .u32 (x : Int))) rfl (by kernel_rfl) (by kernel_rfl) (by kernel_rfl) (fun _ _ _ h => h) (by rfl) (fun _ _ => rfl) (by assumption) ?_
  try simp only [layR]
  refine takeV 14 (v := (.int .u32 ((x : Int) % 256))) rfl (by kernel_rfl) (by kernel_rfl) (by kernel_rfl) (fun _ _ _ h => h) (by rfl) (fun W hSw => ?_) (by assumption) ?_
  · skip
    go_simp
  try simp only [layR]
  refine takeV 15 (v := (.int .u8 (p3 : Nat))) rfl (by kernel_rfl) (by kernel_rfl) (by kernel_rfl) (fun _ _ _ h => h) (by rfl) (fun W hSw => exec_index _ _ _ rfl (by rw [He3.out]; exact idx_pop _ _ (x % 256) _ (by decide +kernel) (by omega))) (by assumption) ?_
  try simp only [layR]
  refine takeV 16 (v := (.int .u8 ((p0 : Int) + p1 + p2 + p3))) rfl (by kernel_rfl) (by kernel_rfl) (by kernel_rfl) (fun _ _ _ h => h) (by rfl) (fun W hSw => ?_) (by assumption) ?_
  · skip
    go_simp
  try simp only [layR]
  refine takeV 17 (v := (.int .i64 ((p0 : Int) + p1 + p2 + p3))) rfl (by kernel_rfl) (by kernel_rfl) (by kernel_rfl) (fun _ _ _ h => h) (by rfl) (fun W hSw => ?_) (by assumption) ?_
  · skip
    go_simp
  try simp only [layR]
  refine takeV 18 (v := (.int .i64 ((p0 : Int) + p1 + p2 + p3))) rfl (by kernel_rfl) (by kernel_rfl) (by kernel_rfl) (fun _ _ _ h => h) (by rfl) (fun W hSw => ?_) (by assumption) ?_
  · skip
    go_simp
  try simp only [layR]
  refine wpAnyH_done (by kernel_rfl) ?_ _
  refine NoPanic.normal ?_
  go_wp2
  go_ret
  exact ⟨by rw [HF.out]; rfl, rfl⟩
theorem listV {P : Program} {ops : Array Oper} {Q : Exit → Act → World → Prop} {rest : List Oper} {o : Oper} {a : Act} {w : World} {v : Value} (hgd : o.guard = none)
    (h : (execOp a.eval o).run P w = .ok (.value v) w) (K : wpList P ops Q rest (a.put o.dst v) w) : wpList P ops Q (o :: rest) a w :=
  wpList_plain hgd fun K' hK => by
    unfold Oper.wp
    rw [h]
    exact hK _ _ K
theorem idx_len (s : ByteArray) (k : IntKind) (n : Nat) (w : World) (hs : s = Lib.len8tab) (h : n < 256) : (Instr.index 9 (.string s) (.int k (n : Int))).run Try.prog w = .ok (.int .u8 (Lib.bitLen n : Nat)) w := by
  rw [hs, Lib.run_index_len8tab w _ k (n : Int) Try.underlying9 (by omega) (by omega), Lib.len8_of (n : Int) (by omega) (by omega), Int.toNat_natCast]
set_option maxRecDepth 100000 in
theorem len32_small (x : Nat) (w : World) (hx : x < 256) :
    Calls Try.prog 43 #[.int .u32 x] w fun e w' => e = .returned (.int .i64 (Lib.bitLen x : Nat)) ∧ w = w' := by
  have h3 : decide (65536 ≤ (x : Int)) = false := by simp; omega
  have h4 : decide (256 ≤ (x : Int)) = false := by simp; omega
  have hl : Lib.bitLen x ≤ 8 := Lib.bitLen_le8 ⟨x, hx⟩
  obtain ⟨p, e⟩ : ∃ p, p = Lib.bitLen x := ⟨_, rfl⟩
  have hp : p ≤ 8 := by omega
  have HE := Lib.hid e
  clear e hl
  go_enter Try.func43, Try.ntmps43
  go_upto_region 7 with (fail)
  refine wp_region_lit ?_
  refine listV (v := (.int .i64 0)) rfl ?_ ?_
  · rfl
  try simp only [layR]
  refine listV (v := (.int .u32 (x : Int))) rfl ?_ ?_
  · rfl
  try simp only [layR]
  refine listV (v := (.int .u8 (x : Int))) rfl ?_ ?_
  · (go_simp; exact IntWalk.u8_in _ ⟨by omega, by omega⟩)
  try simp only [layR]
  refine listV (v := (.int .u8 (p : Int))) rfl ?_ ?_
  · exact exec_index _ _ _ rfl (by rw [HE.out]; exact idx_len _ _ x _ (by decide +kernel) hx)
  try simp only [layR]
  refine listV (v := (.int .i64 (p : Int))) rfl ?_ ?_
  · (go_simp; exact IntWalk.i64_in _ ⟨by omega, by omega⟩)
  try simp only [layR]
  refine listV (v := (.int .i64 (p : Int))) rfl ?_ ?_
  · (go_simp; exact IntWalk.i64_in _ ⟨by omega, by omega⟩)
  try simp only [layR]
  refine listV (v := (.int .i64 (p : Int))) rfl ?_ ?_
  · rfl
  try simp only [layR]
  refine wpList_nil ?_
  go_wp2
  go_ret
  exact ⟨by rw [← HE.out]; rfl, rfl⟩
set_option maxRecDepth 100000 in
theorem len32_mid (x : Nat) (w : World) (h1 : 256 ≤ x) (h2 : x < 65536) :
    Calls Try.prog 43 #[.int .u32 x] w fun e w' => e = .returned (.int .i64 (Lib.bitLen x : Nat)) ∧ w = w' := by
  have h3 : decide (65536 ≤ (x : Int)) = false := by simp; omega
  have h4 : decide (256 ≤ (x : Int)) = true := by simp; omega
  have hl : Lib.bitLen (x / 256) ≤ 8 := Lib.bitLen_le8 ⟨x / 256, by omega⟩
  have hs := Lib.bitLen_shift8 x h1 (by omega)
  obtain ⟨p, e⟩ : ∃ p, p = Lib.bitLen (x / 256) := ⟨_, rfl⟩
  have hp : p ≤ 8 := by omega
  have HE := Lib.hid e
  have HS := Lib.hid hs
  clear e hl hs
  go_enter Try.func43, Try.ntmps43
  go_upto_region 7 with (fail)
  refine wp_region_lit ?_
  refine listV (v := (.int .i64 8)) rfl ?_ ?_
  · rfl
  try simp only [layR]
  refine listV (v := (.int .u32 ((x : Int) / 256))) rfl ?_ ?_
  · rfl
  try simp only [layR]
  refine listV (v := (.int .u8 ((x : Int) / 256))) rfl ?_ ?_
  · (go_simp; exact IntWalk.u8_in _ ⟨by omega, by omega⟩)
  try simp only [layR]
  refine listV (v := (.int .u8 (p : Int))) rfl ?_ ?_
  · exact exec_index _ _ _ rfl (by rw [HE.out]; exact idx_len _ _ (x / 256) _ (by decide +kernel) (by omega))
  try simp only [layR]
  refine listV (v := (.int .i64 (p : Int))) rfl ?_ ?_
  · (go_simp; exact IntWalk.i64_in _ ⟨by omega, by omega⟩)
  try simp only [layR]
  refine listV (v := (.int .i64 (8 + (p : Int)))) rfl ?_ ?_
  · (go_simp; exact IntWalk.i64_in _ ⟨by omega, by omega⟩)
  try simp only [layR]
  refine listV (v := (.int .i64 (8 + (p : Int)))) rfl ?_ ?_
  · rfl
  try simp only [layR]
  refine wpList_nil ?_
  go_wp2
  go_ret
  exact ⟨by rw [HS.out, ← HE.out]; rfl, rfl⟩
theorem len32_calls (x : Nat) (w : World) (hx : x < 65536) :
    Calls Try.prog 43 #[.int .u32 x] w fun e w' => e = .returned (.int .i64 (Lib.bitLen x : Nat)) ∧ w = w' := by
  by_cases h : x < 256
  · exact len32_small x w h
  · exact len32_mid x w (by omega) hx
end Go.Proofs.Ytceoogpmcijlaaa
