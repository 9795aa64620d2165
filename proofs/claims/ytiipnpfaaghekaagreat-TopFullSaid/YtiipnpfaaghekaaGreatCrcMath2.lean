/-
  CRC-32 tells any two rows of bytes that differ within four bytes that stand together: plain mathematics.
-/
import Derived.Test.YtiipnpfaaghekaaGreatCrcMath
namespace Go.Proofs.YtiipnpfaaghekaaGreat.Crc

theorem stpN_succ' (k : Nat) (x : BitVec 32) : stpN (k + 1) x = stpN k (stp x) := by
  rw [stpN_add k 1]; rfl
theorem stp_even (x : BitVec 32) (h : x.getLsbD 0 = false) : stp x = x >>> 1 := by
  rw [stp_eq, h]; simp
theorem stpN_shl (k : Nat) (x : BitVec 32) (hk : k ≤ 32) (hx : x.toNat < 2 ^ (32 - k)) : stpN k (x <<< k) = x := by
  induction k with
  | zero => simp [stpN]
  | succ k ih =>
    have h0 : (x <<< (k + 1)).getLsbD 0 = false := by simp
    have hpow : (2 : Nat) ^ (32 - k) = 2 * 2 ^ (32 - (k + 1)) := by
      rw [show 32 - k = (32 - (k + 1)) + 1 by omega, Nat.pow_succ]; omega
    have h1 : (x <<< (k + 1)) >>> 1 = x <<< k := by
      apply BitVec.eq_of_toNat_eq
      simp only [BitVec.toNat_ushiftRight, BitVec.toNat_shiftLeft, Nat.shiftLeft_eq, Nat.shiftRight_eq_div_pow]
      have hlt : x.toNat * 2 ^ (k + 1) < 2 ^ 32 := by
        calc x.toNat * 2 ^ (k + 1) < 2 ^ (32 - (k + 1)) * 2 ^ (k + 1) := Nat.mul_lt_mul_of_pos_right hx (Nat.two_pow_pos _)
          _ = 2 ^ 32 := by rw [← Nat.pow_add]; congr 1; omega
      have hlt2 : x.toNat * 2 ^ k < 2 ^ 32 := Nat.lt_of_le_of_lt (Nat.mul_le_mul_left _ (Nat.pow_le_pow_right (by decide) (by omega))) hlt
      rw [Nat.mod_eq_of_lt hlt, Nat.mod_eq_of_lt hlt2, Nat.pow_succ, ← Nat.mul_assoc]
      omega
    rw [stpN_succ', stp_even _ h0, h1]
    exact ih (by omega) (by omega)
theorem of_stp8 {z d : BitVec 32} (h : stpN 8 z = d) (hd : d.toNat < 2 ^ 24) : z = d <<< 8 :=
  stpN_inj 8 (h.trans (stpN_shl 8 d (by omega) hd).symm)
theorem wide_toNat (b : UInt8) : (wide b).toNat = b.toNat := by
  unfold wide
  rw [BitVec.toNat_setWidth]
  have := b.toBitVec.isLt
  show b.toBitVec.toNat % _ = b.toBitVec.toNat
  omega
theorem short_key (n : Nat) : ∀ (l m : List UInt8) (r s : BitVec 32), l.length = n → m.length = n → n ≤ 4 → puts r l = puts s m → (r ^^^ s).toNat < 2 ^ (8 * n) ∧ (r = s → l = m) := by
  induction n with
  | zero =>
    intro l m r s hl hm _ h
    have e1 := List.eq_nil_of_length_eq_zero hl
    have e2 := List.eq_nil_of_length_eq_zero hm
    subst e1 e2
    have h' : r = s := h
    subst h'
    exact ⟨by rw [BitVec.xor_self]; simp, fun _ => rfl⟩
  | succ n ih =>
    intro l m r s hl hm hn h
    cases l with
    | nil => simp at hl
    | cons a l => cases m with
      | nil => simp at hm
      | cons b m =>
        obtain ⟨h1, h2⟩ := ih l m (put r a) (put s b) (by simpa using hl) (by simpa using hm) (by omega) h
        rw [← put_xor, put_wide] at h1
        generalize hd : stpN 8 (r ^^^ s ^^^ wide (a ^^^ b)) = d at h1
        have hp : (2 : Nat) ^ (8 * n) ≤ 2 ^ 24 := Nat.pow_le_pow_right (by decide) (by omega)
        have h3 := of_stp8 hd (by omega)
        have h4 : (d <<< 8).toNat = d.toNat * 256 := by
          rw [BitVec.toNat_shiftLeft, Nat.shiftLeft_eq]
          exact Nat.mod_eq_of_lt (by omega)
        have h5 : (wide (a ^^^ b)).toNat < 256 := by rw [wide_toNat]; exact (a ^^^ b).toNat_lt
        have h6 : r ^^^ s = d <<< 8 ^^^ wide (a ^^^ b) := by
          rw [← h3, BitVec.xor_assoc (r ^^^ s), BitVec.xor_self, BitVec.xor_zero]
        have hpw : (2 : Nat) ^ (8 * (n + 1)) = 2 ^ (8 * n) * 256 := by rw [Nat.mul_add, Nat.pow_add]
        refine ⟨?_, fun hrs => ?_⟩
        · rw [h6, BitVec.toNat_xor]
          have hp1 : 1 ≤ (2 : Nat) ^ (8 * n) := Nat.one_le_two_pow
          exact Nat.xor_lt_two_pow (by rw [h4]; omega) (by omega)
        · subst hrs
          rw [BitVec.xor_self] at h6
          have h7 : d <<< 8 = wide (a ^^^ b) := by
            have := congrArg (· ^^^ wide (a ^^^ b)) h6
            simp only [BitVec.zero_xor, BitVec.xor_assoc, BitVec.xor_self, BitVec.xor_zero] at this
            exact this.symm
          have h8 : d.toNat * 256 = (wide (a ^^^ b)).toNat := by rw [← h4, h7]
          have h9 : (a ^^^ b).toNat = 0 := by rw [← wide_toNat]; omega
          have h10 : a ^^^ b = 0 := UInt8.toNat_inj.1 h9
          have hab : a = b := UInt8.xor_eq_zero_iff.1 h10
          subst hab
          have h11 : d = 0#32 := BitVec.eq_of_toNat_eq (by
            have : (wide (a ^^^ a)).toNat = 0 := by rw [wide_toNat, UInt8.xor_self]; rfl
            simp; omega)
          subst h11
          rw [h2 rfl]
theorem short_inj {l m : List UInt8} (r : BitVec 32) (h1 : l.length = m.length) (h2 : l.length ≤ 4) (h : puts r l = puts r m) : l = m :=
  (short_key l.length l m r r rfl h1.symm h2 h).2 rfl
theorem sum_inj_short {l m : List UInt8} (h1 : l.length = m.length) (h2 : l.length ≤ 4) : sum l = sum m ↔ l = m := by
  refine ⟨fun h => short_inj (~~~0#32) h1 h2 ?_, fun h => by rw [h]⟩
  have := congrArg (~~~ ·) h
  simpa [sum, more] using this
/-- Two rows that are one ahead and behind, and differ within at most four bytes. -/
theorem sum_window {p l m q : List UInt8} (h1 : l.length = m.length) (h2 : l.length ≤ 4) : sum (p ++ l ++ q) = sum (p ++ m ++ q) ↔ l = m := by
  refine ⟨fun h => ?_, fun h => by rw [h]⟩
  have h3 : puts (~~~0#32) (p ++ l ++ q) = puts (~~~0#32) (p ++ m ++ q) := by
    have := congrArg (~~~ ·) h
    simpa [sum, more] using this
  rw [puts_append, puts_append, puts_append, puts_append] at h3
  exact short_inj _ h1 h2 (puts_inj q h3)
theorem sum_append (l m : List UInt8) : zer m.length (sum l) ^^^ sum m = sum (l ++ m) := by
  simp only [sum, more]
  rw [puts_append, puts_split (puts _ l) m, puts_split (~~~0#32) m]
  generalize puts (~~~0#32) l = q
  generalize puts 0#32 m = z
  have h : zer m.length (~~~q) = zer m.length q ^^^ zer m.length (~~~0#32) := by
    rw [← zer_xor]; congr 1
    rw [show ~~~0#32 = BitVec.allOnes 32 from by decide, BitVec.xor_allOnes]
  rw [h]
  generalize zer m.length q = a
  generalize zer m.length (~~~0#32) = b
  apply BitVec.eq_of_getLsbD_eq
  intro i hi
  simp only [BitVec.getLsbD_xor, BitVec.getLsbD_not, hi, decide_true, Bool.true_and]
  cases a.getLsbD i <;> cases b.getLsbD i <;> cases z.getLsbD i <;> rfl
theorem not_xor3 (a b c : BitVec 32) : ~~~a ^^^ ~~~b ^^^ ~~~c = ~~~(a ^^^ b ^^^ c) := by
  apply BitVec.eq_of_getLsbD_eq
  intro i hi
  simp only [BitVec.getLsbD_xor, BitVec.getLsbD_not, hi, decide_true, Bool.true_and]
  cases a.getLsbD i <;> cases b.getLsbD i <;> cases c.getLsbD i <;> rfl
/-- Three rows of one length, put together. -/
theorem sum_three (a b c : List UInt8) (h1 : a.length = b.length) (h2 : a.length = c.length) :
    sum a ^^^ sum b ^^^ sum c = sum (List.zipWith (· ^^^ ·) (List.zipWith (· ^^^ ·) a b) c) := by
  simp only [sum, more]
  rw [not_xor3, ← puts_zipWith _ _ _ _ h1, ← puts_zipWith _ _ _ _ (by rw [List.length_zipWith]; omega)]
  congr 2
end Go.Proofs.YtiipnpfaaghekaaGreat.Crc
