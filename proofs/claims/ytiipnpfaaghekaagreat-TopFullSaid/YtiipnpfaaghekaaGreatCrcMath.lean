/-
  CRC-32 in plain mathematics: one step, a byte, a row of bytes. No program in sight.
-/
import Derived.WalkKit
namespace Go.Proofs.YtiipnpfaaghekaaGreat.Crc

def stp (r : BitVec 32) : BitVec 32 := if r &&& 1#32 = 1#32 then (r >>> 1) ^^^ 3988292384#32 else r >>> 1
def stpN : Nat → BitVec 32 → BitVec 32
  | 0, r => r
  | k + 1, r => stp (stpN k r)
def put (r : BitVec 32) (b : UInt8) : BitVec 32 := stpN 8 (r ^^^ b.toBitVec.setWidth 32)
def puts (r : BitVec 32) (l : List UInt8) : BitVec 32 := l.foldl put r
def more (s : BitVec 32) (l : List UInt8) : BitVec 32 := ~~~(puts (~~~s) l)
def sum (l : List UInt8) : BitVec 32 := more 0#32 l

theorem more_nil (s : BitVec 32) : more s [] = s := by simp [more, puts]
theorem puts_snoc (r : BitVec 32) (l : List UInt8) (b : UInt8) : puts r (l ++ [b]) = put (puts r l) b := by
  simp [puts]
theorem puts_append (r : BitVec 32) (l m : List UInt8) : puts r (l ++ m) = puts (puts r l) m := by
  simp [puts]

/-- What a matrix's columns make of the first k digits of a word. -/
def onN (M : Nat → BitVec 32) (r : BitVec 32) : Nat → BitVec 32
  | 0 => 0#32
  | k + 1 => if (r >>> k) &&& 1#32 = 1#32 then onN M r k ^^^ M k else onN M r k
def on (M : Nat → BitVec 32) (r : BitVec 32) : BitVec 32 := onN M r 32

theorem one_and (x : BitVec 32) : x &&& 1#32 = 1#32 ↔ x.getLsbD 0 = true := by
  constructor
  · intro h
    have := congrArg (fun y => BitVec.getLsbD y 0) h
    simpa using this
  · intro h
    apply BitVec.eq_of_getLsbD_eq
    intro i hi
    by_cases h0 : i = 0
    · subst h0; simp [h]
    · simp [h0]
theorem stp_eq (x : BitVec 32) : stp x = (x >>> 1) ^^^ (if x.getLsbD 0 then 3988292384#32 else 0#32) := by
  unfold stp
  by_cases h : x.getLsbD 0 = true
  · rw [if_pos ((one_and x).2 h), if_pos h]
  · rw [if_neg (fun e => h ((one_and x).1 e)), if_neg h, BitVec.xor_zero]
theorem stp_zero : stp 0#32 = 0#32 := by decide
theorem xor4 (a b c d : BitVec 32) : (a ^^^ b) ^^^ (c ^^^ d) = (a ^^^ c) ^^^ (b ^^^ d) := by
  rw [BitVec.xor_assoc, BitVec.xor_assoc, ← BitVec.xor_assoc b, BitVec.xor_comm b c, BitVec.xor_assoc c]
theorem stp_xor (x y : BitVec 32) : stp (x ^^^ y) = stp x ^^^ stp y := by
  rw [stp_eq, stp_eq, stp_eq, BitVec.ushiftRight_xor_distrib, BitVec.getLsbD_xor, xor4]
  congr 1
  cases x.getLsbD 0 <;> cases y.getLsbD 0 <;> decide
theorem stpN_xor (k : Nat) (x y : BitVec 32) : stpN k (x ^^^ y) = stpN k x ^^^ stpN k y := by
  induction k with
  | zero => rfl
  | succ k ih => rw [stpN, stpN, stpN, ih, stp_xor]
theorem stpN_zero (k : Nat) : stpN k 0#32 = 0#32 := by
  induction k with
  | zero => rfl
  | succ k ih => rw [stpN, ih, stp_zero]
theorem stpN_add (j k : Nat) (x : BitVec 32) : stpN (j + k) x = stpN j (stpN k x) := by
  induction j with
  | zero => rw [Nat.zero_add]; rfl
  | succ j ih => rw [Nat.succ_add, stpN, stpN, ih]
/-- The top digit of the polynomial is 1: so a step loses nothing. -/
theorem stp_inj {x y : BitVec 32} (h : stp x = stp y) : x = y := by
  have key : ∀ z : BitVec 32, stp z = 0#32 → z = 0#32 := by
    intro z hz
    rw [stp_eq] at hz
    have h31 := congrArg (fun w => BitVec.getLsbD w 31) hz
    simp only [BitVec.getLsbD_xor, BitVec.getLsbD_ushiftRight] at h31
    have h0 : z.getLsbD 0 = false := by
      cases hb : z.getLsbD 0 with
      | false => rfl
      | true =>
        rw [hb, BitVec.getLsbD_of_ge z (1 + 31) (by omega)] at h31
        exact absurd h31 (by decide)
    rw [h0] at hz
    simp only [Bool.false_eq_true, if_false, BitVec.xor_zero] at hz
    apply BitVec.eq_of_getLsbD_eq
    intro i hi
    by_cases hi0 : i = 0
    · subst hi0; rw [h0]; simp
    · have := congrArg (fun w => BitVec.getLsbD w (i - 1)) hz
      simp only [BitVec.getLsbD_ushiftRight, BitVec.getLsbD_zero] at this
      rw [show 1 + (i - 1) = i by omega] at this
      rw [this]; simp
  have h2 := key (x ^^^ y) (by rw [stp_xor, h, BitVec.xor_self])
  have h3 : x ^^^ y ^^^ y = 0#32 ^^^ y := by rw [h2]
  rwa [BitVec.xor_assoc, BitVec.xor_self, BitVec.xor_zero, BitVec.zero_xor] at h3
theorem stpN_inj (k : Nat) {x y : BitVec 32} (h : stpN k x = stpN k y) : x = y := by
  induction k with
  | zero => exact h
  | succ k ih => exact ih (stp_inj h)

/-! Bytes -/
def wide (b : UInt8) : BitVec 32 := b.toBitVec.setWidth 32
theorem put_wide (r : BitVec 32) (b : UInt8) : put r b = stpN 8 (r ^^^ wide b) := rfl
theorem wide_zero : wide 0 = 0#32 := by decide
theorem wide_xor (a b : UInt8) : wide (a ^^^ b) = wide a ^^^ wide b := by
  unfold wide; rw [UInt8.toBitVec_xor, BitVec.setWidth_xor]
theorem put_xor (r s : BitVec 32) (a b : UInt8) : put (r ^^^ s) (a ^^^ b) = put r a ^^^ put s b := by
  rw [put_wide, put_wide, put_wide, wide_xor, xor4, stpN_xor]
theorem put_zero (r : BitVec 32) : put r 0 = stpN 8 r := by rw [put_wide, wide_zero, BitVec.xor_zero]
theorem put_inj {r s : BitVec 32} {b : UInt8} (h : put r b = put s b) : r = s := by
  have h1 := stpN_inj 8 h
  have h2 : r ^^^ wide b ^^^ wide b = s ^^^ wide b ^^^ wide b := congrArg (· ^^^ wide b) h1
  rwa [BitVec.xor_assoc, BitVec.xor_self, BitVec.xor_zero, BitVec.xor_assoc, BitVec.xor_self, BitVec.xor_zero] at h2
theorem puts_inj {r s : BitVec 32} (l : List UInt8) (h : puts r l = puts s l) : r = s := by
  induction l generalizing r s with
  | nil => exact h
  | cons b l ih => exact put_inj (ih h)

/-- n bytes 0 behind. -/
def zer (n : Nat) (r : BitVec 32) : BitVec 32 := puts r (List.replicate n 0)
theorem zer_zero (r : BitVec 32) : zer 0 r = r := rfl
theorem zer_add (m n : Nat) (r : BitVec 32) : zer (m + n) r = zer n (zer m r) := by
  rw [zer, ← List.replicate_append_replicate, puts_append]; rfl
theorem zer_one (r : BitVec 32) : zer 1 r = put r 0 := rfl
theorem zer_eq (n : Nat) (r : BitVec 32) : zer n r = stpN (8 * n) r := by
  induction n with
  | zero => rfl
  | succ n ih => rw [zer_add, ih, zer_one, put_zero, ← stpN_add]; congr 1; omega
theorem zer_xor (n : Nat) (r s : BitVec 32) : zer n (r ^^^ s) = zer n r ^^^ zer n s := by
  rw [zer_eq, zer_eq, zer_eq, stpN_xor]
theorem puts_split (r : BitVec 32) (l : List UInt8) : puts r l = zer l.length r ^^^ puts 0#32 l := by
  induction l generalizing r with
  | nil => exact (BitVec.xor_zero).symm
  | cons b l ih =>
    have h1 : puts r (b :: l) = puts (put r b) l := rfl
    have h2 : puts 0#32 (b :: l) = puts (put 0#32 b) l := rfl
    have h3 : put r b = put r 0 ^^^ put 0#32 b := by
      rw [← put_xor, BitVec.xor_zero]; congr 1; simp
    rw [h1, h2, ih, ih (put 0#32 b), h3, zer_xor, List.length_cons, Nat.add_comm l.length 1, zer_add, zer_one, BitVec.xor_assoc]
theorem puts_zipWith (r s : BitVec 32) (l m : List UInt8) (h : l.length = m.length) : puts (r ^^^ s) (List.zipWith (· ^^^ ·) l m) = puts r l ^^^ puts s m := by
  induction l generalizing r s m with
  | nil => cases m with
    | nil => rfl
    | cons => simp at h
  | cons a l ih => cases m with
    | nil => simp at h
    | cons b m =>
      show puts (put (r ^^^ s) (a ^^^ b)) _ = puts (put r a) l ^^^ puts (put s b) m
      rw [put_xor]; exact ih _ _ _ (by simpa using h)

/-- One byte is another one now. -/
theorem sum_set (l : List UInt8) (n k : Nat) (hn : l.length = n) (h : k < l.length) (x : UInt8) : sum l ^^^ zer (n - 1 - k) (put 0#32 (l[k] ^^^ x)) = sum (l.set k x) := by
  subst hn
  have e1 : l = l.take k ++ l[k] :: l.drop (k + 1) := by rw [List.getElem_cons_drop, List.take_append_drop]
  have e2 : l.set k x = l.take k ++ x :: l.drop (k + 1) := by rw [List.set_eq_take_append_cons_drop, if_pos h]
  have hl : (l.drop (k + 1)).length = l.length - 1 - k := by rw [List.length_drop]; omega
  generalize hq : puts (~~~0#32) (l.take k) = q
  have h1 : sum l = ~~~(puts (put q l[k]) (l.drop (k + 1))) := by
    show ~~~(puts (~~~0#32) l) = _
    conv => lhs; rw [e1]
    rw [puts_append, hq]; rfl
  have h2 : sum (l.set k x) = ~~~(puts (put q x) (l.drop (k + 1))) := by
    show ~~~(puts (~~~0#32) (l.set k x)) = _
    rw [e2, puts_append, hq]; rfl
  have h3 : put q x = put q l[k] ^^^ put 0#32 (l[k] ^^^ x) := by
    rw [← put_xor, BitVec.xor_zero, ← UInt8.xor_assoc, UInt8.xor_self, UInt8.zero_xor]
  rw [h1, h2, h3, puts_split (put q l[k]), puts_split (put q l[k] ^^^ _), hl, zer_xor, ← BitVec.not_xor_left, BitVec.xor_assoc, BitVec.xor_assoc, BitVec.xor_comm (puts 0#32 _)]

/-! Matrices -/
theorem onN_xor (M : Nat → BitVec 32) (x y : BitVec 32) (k : Nat) : onN M (x ^^^ y) k = onN M x k ^^^ onN M y k := by
  induction k with
  | zero => exact (BitVec.xor_zero).symm
  | succ k ih =>
    simp only [onN, one_and, BitVec.getLsbD_ushiftRight, BitVec.getLsbD_xor, ih]
    cases x.getLsbD (k + 0) <;> cases y.getLsbD (k + 0) <;> simp
    · rw [BitVec.xor_assoc]
    · rw [BitVec.xor_assoc, BitVec.xor_assoc]; congr 1; rw [BitVec.xor_comm (M k)]
    · rw [xor4, BitVec.xor_self, BitVec.xor_zero]
theorem on_xor (M : Nat → BitVec 32) (x y : BitVec 32) : on M (x ^^^ y) = on M x ^^^ on M y := onN_xor M x y 32
/-- The first k digits of a word. -/
def low (x : BitVec 32) (k : Nat) : BitVec 32 := (x.setWidth k).setWidth 32
theorem low_succ (x : BitVec 32) (k : Nat) : low x (k + 1) = low x k ^^^ (if x.getLsbD k then 1#32 <<< k else 0#32) := by
  apply BitVec.eq_of_getLsbD_eq
  intro i hi
  simp only [low, BitVec.getLsbD_setWidth, BitVec.getLsbD_xor, hi, decide_true, Bool.true_and]
  by_cases hk : i = k
  · subst hk
    cases hx : x.getLsbD i <;> simp [hi]
  · by_cases hlt : i < k
    · have h1 : i < k + 1 := by omega
      have h2 : ¬ (k ≤ i) := by omega
      cases hx : x.getLsbD k <;> simp [h1, hlt]
    · have h1 : ¬ i < k + 1 := by omega
      have h2 : ¬ i - k = 0 := by omega
      cases hx : x.getLsbD k <;> simp [h1, hlt, h2]
theorem low_all (x : BitVec 32) : low x 32 = x := by simp [low]
theorem low_none (x : BitVec 32) : low x 0 = 0#32 := by
  apply BitVec.eq_of_getLsbD_eq; intro i hi; simp [low]
theorem on_linear (L : BitVec 32 → BitVec 32) (h0 : L 0#32 = 0#32) (hL : ∀ x y, L (x ^^^ y) = L x ^^^ L y) (x : BitVec 32) : on (fun i => L (1#32 <<< i)) x = L x := by
  have key : ∀ k, onN (fun i => L (1#32 <<< i)) x k = L (low x k) := by
    intro k
    induction k with
    | zero => rw [low_none, h0]; rfl
    | succ k ih =>
      rw [low_succ, hL, ← ih]
      simp only [onN, one_and, BitVec.getLsbD_ushiftRight, Nat.add_zero]
      cases x.getLsbD k <;> simp [h0]
  have := key 32
  rw [low_all] at this
  exact this
/-- Of a matrix whose columns are what a linear map makes of the digits. -/
def Is (M : Nat → BitVec 32) (n : Nat) : Prop := ∀ i, i < 32 → M i = zer n (1#32 <<< i)
theorem onN_congr {M N : Nat → BitVec 32} (x : BitVec 32) : ∀ k, (∀ i, i < k → M i = N i) → onN M x k = onN N x k
  | 0, _ => rfl
  | k + 1, h => by
    simp only [onN]
    rw [onN_congr x k (fun i hi => h i (by omega)), h k (by omega)]
theorem zer_0 (n : Nat) : zer n 0#32 = 0#32 := by rw [zer_eq, stpN_zero]
theorem Is.on {M : Nat → BitVec 32} {n : Nat} (h : Is M n) (x : BitVec 32) : on M x = zer n x := by
  have h1 : Crc.on M x = Crc.on (fun i => zer n (1#32 <<< i)) x := onN_congr x 32 h
  rw [h1, on_linear _ (zer_0 n) (zer_xor n)]
theorem Is.step : Is (fun i => put (1#32 <<< i) 0) 1 := fun _ _ => rfl
theorem Is.twice {M : Nat → BitVec 32} {n : Nat} (h : Is M n) : Is (fun i => Crc.on M (M i)) (n + n) := fun i hi => by
  show Crc.on M (M i) = _
  rw [h.on, h i hi, zer_add]
end Go.Proofs.YtiipnpfaaghekaaGreat.Crc
