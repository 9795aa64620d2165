/-
  Plain: a row of which a few bytes that stand together are put together with others by exclusive-or.
-/
/-
  Pages, in plain mathematics: what is written reads back; a page that differs within four bytes is none; nor is one that is cut.
-/
import Derived.Test.YtiipnpfaaghekaaGreatCrcMath2
import Derived.Test.YtiipnpfaaghekaaGreatTagMath
namespace Go.Proofs.YtiipnpfaaghekaaGreat.Crc

/-- The bytes from place k on, j of them, put together with X. -/
def burst (l X : List UInt8) (k j : Nat) : List UInt8 := (List.range l.length).map fun t => if k ≤ t ∧ t < k + j then l.getD t 0 ^^^ X.getD (t - k) 0 else l.getD t 0
def allz (l : List UInt8) : Bool := l.all (· == 0)
theorem burst_len (l X : List UInt8) (k j : Nat) : (burst l X k j).length = l.length := by simp [burst]
theorem burst_zero (l X : List UInt8) (k : Nat) : burst l X k 0 = l := by
  apply List.ext_getElem (by simp [burst])
  intro t h1 h2
  simp only [burst, List.getElem_map, List.getElem_range]
  rw [if_neg (by omega)]
  simp [h2]
theorem burst_at (l X : List UInt8) (k j t : Nat) (h : t < (burst l X k j).length) : (burst l X k j)[t] = if k ≤ t ∧ t < k + j then l.getD t 0 ^^^ X.getD (t - k) 0 else l.getD t 0 := by
  simp [burst]
theorem burst_set (l X : List UInt8) (k j : Nat) : (burst l X k j).set (k + j) (l.getD (k + j) 0 ^^^ X.getD j 0) = burst l X k (j + 1) := by
  apply List.ext_getElem (by simp [burst])
  intro t h1 h2
  rw [List.getElem_set]
  by_cases ht : k + j = t
  · subst ht
    rw [if_pos rfl, burst_at, if_pos (by omega), Nat.add_sub_cancel_left]
  · rw [if_neg ht, burst_at, burst_at]
    by_cases hc : k ≤ t ∧ t < k + j
    · rw [if_pos hc, if_pos (by omega)]
    · rw [if_neg hc, if_neg (by omega)]
theorem burst_here (l X : List UInt8) (k j : Nat) (h : k + j < (burst l X k j).length) (h' : k + j < l.length) : (burst l X k j)[k + j] = l[k + j] := by
  rw [burst_at, if_neg (by omega)]
  simp [h']
theorem burst_all (l X : List UInt8) (k m : Nat) (hX : X.length = m) (hk : k + m ≤ l.length) : burst l X k m = l.take k ++ List.zipWith (· ^^^ ·) ((l.drop k).take m) X ++ l.drop (k + m) := by
  have hz : (List.zipWith (· ^^^ ·) ((l.drop k).take m) X).length = m := by
    rw [List.length_zipWith, List.length_take, List.length_drop]; omega
  have h1 : (l.take k).length = k := by rw [List.length_take]; omega
  apply List.ext_getElem
  · rw [burst_len, List.length_append, List.length_append, hz, h1, List.length_drop]; omega
  intro t ht1 ht2
  rw [burst_at]
  rw [burst_len] at ht1
  by_cases ha : t < k
  · rw [if_neg (by omega), List.getElem_append_left (by rw [List.length_append]; omega), List.getElem_append_left (by omega), List.getElem_take]
    simp [ht1]
  · by_cases hb : t < k + m
    · rw [if_pos (by omega), List.getElem_append_left (by rw [List.length_append]; omega), List.getElem_append_right (by omega)]
      simp only [h1, List.getElem_zipWith, List.getElem_take, List.getElem_drop]
      have e : k + (t - k) = t := by omega
      simp only [e]
      have ht3 : t - k < X.length := by omega
      simp [ht1, ht3]
    · rw [if_neg (by omega), List.getElem_append_right (by rw [List.length_append]; omega)]
      simp only [List.length_append, h1, hz, List.getElem_drop]
      have e : k + m + (t - (k + m)) = t := by omega
      simp only [e]
      simp [ht1]
theorem zip_self (l X : List UInt8) (h : l.length = X.length) : List.zipWith (· ^^^ ·) l X = l ↔ allz X = true := by
  induction l generalizing X with
  | nil => cases X with
    | nil => simp [allz]
    | cons => simp at h
  | cons a l ih => cases X with
    | nil => simp at h
    | cons b X =>
      have := ih X (by simpa using h)
      simp only [List.zipWith_cons_cons, List.cons.injEq, this, allz, List.all_cons, Bool.and_eq_true, beq_iff_eq]
      refine and_congr_left fun _ => ⟨fun e => ?_, fun e => by rw [e, UInt8.xor_zero]⟩
      have h2 := congrArg (a ^^^ ·) e
      simp only [← UInt8.xor_assoc, UInt8.xor_self, UInt8.zero_xor] at h2
      exact h2
theorem sum_burst (l X : List UInt8) (k m : Nat) (hX : X.length = m) (hm : m ≤ 4) (hk : k + m ≤ l.length) : sum (burst l X k m) = sum l ↔ allz X = true := by
  have hmid : ((l.drop k).take m).length = m := by rw [List.length_take, List.length_drop]; omega
  have e : l = l.take k ++ (l.drop k).take m ++ l.drop (k + m) := by
    rw [List.append_assoc, ← List.drop_drop, List.take_append_drop, List.take_append_drop]
  rw [burst_all l X k m hX hk]
  conv => lhs; rhs; rw [e]
  rw [sum_window (by rw [List.length_zipWith, hmid]; omega) (by rw [List.length_zipWith, hmid]; omega)]
  exact zip_self _ _ (by rw [hmid, hX])
theorem allz_snoc (l : List UInt8) (x : UInt8) : allz (l ++ [x]) = (allz l && x == 0) := by simp [allz]
theorem allz_nil : allz [] = true := rfl
end Go.Proofs.YtiipnpfaaghekaaGreat.Crc
namespace Go.Proofs.YtiipnpfaaghekaaGreat
namespace Crc
theorem wide_lt (b : UInt8) : (wide b).toNat < 256 := by rw [wide_toNat]; exact b.toNat_lt
theorem puts4 (a b c d : UInt8) : puts 0#32 [a, b, c, d] = stpN 32 (wide a ^^^ wide b <<< 8 ^^^ wide c <<< 16 ^^^ wide d <<< 24) := by
  have e1 : stpN 32 (wide b <<< 8) = stpN 24 (wide b) := by
    exact (stpN_add 24 8 (wide b <<< 8)).trans (by rw [stpN_shl 8 (wide b) (by omega) (by have := wide_lt b; omega)])
  have e2 : stpN 32 (wide c <<< 16) = stpN 16 (wide c) := by
    exact (stpN_add 16 16 (wide c <<< 16)).trans (by rw [stpN_shl 16 (wide c) (by omega) (by have := wide_lt c; omega)])
  have e3 : stpN 32 (wide d <<< 24) = stpN 8 (wide d) := by
    exact (stpN_add 8 24 (wide d <<< 24)).trans (by rw [stpN_shl 24 (wide d) (by omega) (by have := wide_lt d; omega)])
  rw [stpN_xor, stpN_xor, stpN_xor, e1, e2, e3]
  show put (put (put (put 0#32 a) b) c) d = _
  simp only [put_wide, BitVec.zero_xor, stpN_xor, ← stpN_add]
theorem word4 (y : Nat) : wide (UInt8.ofNat y) ^^^ wide (UInt8.ofNat (y / 256)) <<< 8 ^^^ wide (UInt8.ofNat (y / 65536)) <<< 16 ^^^ wide (UInt8.ofNat (y / 16777216)) <<< 24 = BitVec.ofNat 32 y := by
  have key : ∀ z i : Nat, (wide (UInt8.ofNat z)).getLsbD i = (decide (i < 8) && z.testBit i) := by
    intro z i
    show (((UInt8.ofNat z).toBitVec).setWidth 32).getLsbD i = _
    rw [BitVec.getLsbD_setWidth]
    show (decide (i < 32) && (BitVec.ofNat 8 z).getLsbD i) = _
    rw [BitVec.getLsbD_ofNat]
    by_cases h : i < 8
    · simp [h, show i < 32 by omega]
    · simp [h]
  apply BitVec.eq_of_getLsbD_eq
  intro i hi
  simp only [BitVec.getLsbD_xor, BitVec.getLsbD_shiftLeft, key, BitVec.getLsbD_ofNat, hi, decide_true, Bool.true_and]
  have d1 : ∀ j, (y / 256).testBit j = y.testBit (j + 8) := fun j => by rw [show (256 : Nat) = 2 ^ 8 from rfl, Nat.testBit_div_two_pow]
  have d2 : ∀ j, (y / 65536).testBit j = y.testBit (j + 16) := fun j => by rw [show (65536 : Nat) = 2 ^ 16 from rfl, Nat.testBit_div_two_pow]
  have d3 : ∀ j, (y / 16777216).testBit j = y.testBit (j + 24) := fun j => by rw [show (16777216 : Nat) = 2 ^ 24 from rfl, Nat.testBit_div_two_pow]
  rw [d1, d2, d3]
  rcases (show i < 8 ∨ (8 ≤ i ∧ i < 16) ∨ (16 ≤ i ∧ i < 24) ∨ (24 ≤ i ∧ i < 32) by omega) with h | ⟨h, h'⟩ | ⟨h, h'⟩ | ⟨h, h'⟩
  · simp [h, show i < 16 by omega, show i < 24 by omega]
  · rw [show i - 8 + 8 = i by omega]
    simp [show ¬ i < 8 by omega, show i < 16 by omega, show i < 24 by omega, show i - 8 < 8 by omega]
  · rw [show i - 16 + 16 = i by omega]
    simp [show ¬ i < 8 by omega, show ¬ i < 16 by omega, show i < 24 by omega, show ¬ i - 8 < 8 by omega, show i - 16 < 8 by omega]
  · rw [show i - 24 + 24 = i by omega]
    simp [show ¬ i < 8 by omega, show ¬ i < 16 by omega, show ¬ i < 24 by omega, show ¬ i - 8 < 8 by omega, show ¬ i - 16 < 8 by omega, show i - 24 < 8 by omega]
theorem bigL4 (y : Nat) : bigL y 4 = [UInt8.ofNat y, UInt8.ofNat (y / 256), UInt8.ofNat (y / 65536), UInt8.ofNat (y / 16777216)] := by
  show [UInt8.ofNat (y / 256 ^ 0), UInt8.ofNat (y / 256 ^ 1), UInt8.ofNat (y / 256 ^ 2), UInt8.ofNat (y / 256 ^ 3)] = _
  rw [show (256 : Nat) ^ 0 = 1 from rfl, show (256 : Nat) ^ 1 = 256 from rfl, show (256 : Nat) ^ 2 = 65536 from rfl, show (256 : Nat) ^ 3 = 16777216 from rfl, Nat.div_one]
/-- Bytes and their sum, put together: always the same remainder. -/
theorem puts_own (r : BitVec 32) : puts r (bigL (~~~r).toNat 4) = stpN 32 (BitVec.allOnes 32) := by
  rw [puts_split, bigL_len, zer_eq, bigL4, puts4, word4 _, ← stpN_xor]
  rw [BitVec.ofNat_toNat, BitVec.setWidth_eq]
  congr 1
  apply BitVec.eq_of_getLsbD_eq
  intro i hi
  rw [BitVec.getLsbD_xor, BitVec.getLsbD_not, BitVec.getLsbD_allOnes]
  simp only [hi, decide_true, Bool.true_and]
  cases r.getLsbD i <;> rfl
theorem sum_own (l : List UInt8) : puts (~~~0#32) (l ++ bigL (sum l).toNat 4) = stpN 32 (BitVec.allOnes 32) := by
  rw [puts_append]
  exact puts_own _
end Crc
namespace Tg
/-- The sum of a whole page. -/
def same : BitVec 32 := ~~~(Crc.puts (Crc.stpN 32 (BitVec.allOnes 32)) [0, 0, 0, 0])
theorem page_sum (t : Tg) (pay : List UInt8) : Crc.sum (page t pay) = same := by
  rw [page_eq]
  show ~~~(Crc.puts (~~~0#32) (pay ++ head t ++ bigL (sumOf t pay) 4 ++ [0, 0, 0, 0])) = _
  rw [Crc.puts_append, sumOf, Crc.sum_own]
  rfl
theorem good_page {xs : List UInt8} {m : Nat} (hl : xs.length = m + 32) (hg : Good (xs.take m) (xs.drop m)) : xs = page (raw (xs.drop m)) (xs.take m) := by
  have h := ((good_iff (by rw [List.length_drop, hl]; omega)).1 hg).2
  rw [page, h, List.take_append_drop]
theorem good_sum {xs : List UInt8} {m : Nat} (hl : xs.length = m + 32) (hg : Good (xs.take m) (xs.drop m)) : Crc.sum xs = same := by
  rw [good_page hl hg, page_sum]
theorem full_at {l : List UInt8} (h : full l = true) (i : Nat) (hi : i < l.length) : l[i] = 255 := by
  rw [full, List.all_eq_true] at h
  simpa using h l[i] (List.getElem_mem hi)
theorem page_at {t : Tg} {pay : List UInt8} (i : Nat) (hi : i < 32) : (page t pay)[pay.length + i]? = (beside t pay)[i]? := by
  rw [page, List.getElem?_append_right (by omega), Nat.add_sub_cancel_left]
theorem beside_first (t : Tg) (pay : List UInt8) : (beside t pay)[0]? = some 67 := by simp [beside, head]
theorem beside_last (t : Tg) (pay : List UInt8) : (beside t pay)[31]? = some 0 := by
  rw [beside, List.getElem?_append_right (by simp [head_len, bigL_len])]
  simp [head_len, bigL_len]
theorem full_getD {l : List UInt8} (h : full l = true) (i : Nat) (hi : i < l.length) : l[i]? = some 255 := by
  rw [List.getElem?_eq_getElem hi, full_at h i hi]
theorem page_notFull (t : Tg) (pay : List UInt8) : full (page t pay) = false := by
  rw [← Bool.not_eq_true]
  intro h
  have h1 := full_getD h (pay.length + 0) (by rw [page_len]; omega)
  rw [page_at 0 (by omega), beside_first] at h1
  exact absurd h1 (by decide)
theorem page_take (t : Tg) (pay : List UInt8) : (page t pay).take pay.length = pay := by
  rw [page, List.take_append_of_le_length (Nat.le_refl _), List.take_of_length_le (Nat.le_refl _)]
theorem page_drop (t : Tg) (pay : List UInt8) : (page t pay).drop pay.length = beside t pay := by
  rw [page, List.drop_append_of_le_length (Nat.le_refl _), List.drop_of_length_le (Nat.le_refl _), List.nil_append]
theorem page_good {t : Tg} (ht : Right t) (pay : List UInt8) : Good pay (beside t pay) ∧ raw (beside t pay) = t := (beside_eq_iff ht (beside_len t pay)).1 rfl
/-- What is written reads as it was. -/
theorem read_page {t : Tg} (ht : Right t) {pay : List UInt8} (hf : Fits pay.length) : readT (page t pay) = t ∧ readP (page t pay) = pay ∧ readE (page t pay) = 0 := by
  obtain ⟨g1, g2⟩ := page_good ht pay
  unfold readT readP readE
  rw [page_len, Nat.add_sub_cancel, page_notFull, page_take, page_drop, if_pos ⟨hf, rfl, g1⟩, if_pos ⟨hf, rfl, g1⟩, if_pos hf, if_neg (by simp), if_pos g1]
  exact ⟨g2, rfl, rfl⟩
/-- What is read is written as the same bytes. -/
theorem write_read {xs : List UInt8} (h : readE xs = 0) : writeE (readT xs) (readP xs) = 0 ∧ writeL (readT xs) (readP xs) = xs := by
  have hf : Fits (xs.length - 32) := by
    unfold readE at h
    by_cases hf : Fits (xs.length - 32)
    · exact hf
    · rw [if_neg hf] at h; exact absurd h (by decide)
  have hfu : full xs = false := by
    unfold readE at h
    rw [if_pos hf] at h
    cases e : full xs
    · rfl
    · rw [e, if_pos rfl] at h; exact absurd h (by decide)
  have hl : xs.length = (xs.length - 32) + 32 := by unfold Fits at hf; omega
  have hg : Good (xs.take (xs.length - 32)) (xs.drop (xs.length - 32)) := by
    unfold readE at h
    rw [if_pos hf, hfu, if_neg (by simp)] at h
    by_cases hg : Good (xs.take (xs.length - 32)) (xs.drop (xs.length - 32))
    · exact hg
    · rw [if_neg hg] at h; exact absurd h (by decide)
  have e1 : readT xs = raw (xs.drop (xs.length - 32)) := by unfold readT; rw [if_pos ⟨hf, hfu, hg⟩]
  have e2 : readP xs = xs.take (xs.length - 32) := by unfold readP; rw [if_pos ⟨hf, hfu, hg⟩]
  have hr : Right (raw (xs.drop (xs.length - 32))) := hg.2.2.2.1
  have hlen : (xs.take (xs.length - 32)).length = xs.length - 32 := by rw [List.length_take]; omega
  unfold writeE writeL
  rw [e1, e2, hlen, if_pos ⟨hr, hf⟩, if_pos ⟨hr, hf⟩]
  exact ⟨rfl, (good_page hl hg).symm⟩
theorem readE_torn {xs : List UInt8} {m : Nat} (hl : xs.length = m + 32) (hf : Fits m) (hfu : full xs = false) (hg : ¬ Good (xs.take m) (xs.drop m)) : readE xs = 21 := by
  unfold readE
  rw [hl, Nat.add_sub_cancel, if_pos hf, hfu, if_neg (by simp), if_neg hg]
theorem burst_same {l X : List UInt8} {k m : Nat} (hX : X.length = m) (hk : k + m ≤ l.length) (h : Crc.allz X = true) : Crc.burst l X k m = l := by
  have hl : ((l.drop k).take m).length = X.length := by rw [List.length_take, List.length_drop, hX]; omega
  rw [Crc.burst_all l X k m hX hk, (Crc.zip_self _ X hl).2 h, List.append_assoc, ← List.drop_drop, List.take_append_drop, List.take_append_drop]
theorem burst_get {l X : List UInt8} {k m t : Nat} (ht : t < l.length) (h : t < k ∨ k + m ≤ t) : (Crc.burst l X k m)[t]? = l[t]? := by
  have hb : t < (Crc.burst l X k m).length := by rw [Crc.burst_len]; exact ht
  rw [List.getElem?_eq_getElem hb, Crc.burst_at, if_neg (by omega), List.getElem?_eq_getElem ht, List.getD_eq_getElem?_getD, List.getElem?_eq_getElem ht]
  rfl
/-- A page that differs from a valid one just within four bytes. -/
theorem read_burst {t : Tg} (ht : Right t) {pay X : List UInt8} (hf : Fits pay.length) {k m : Nat} (hX : X.length = m) (hm : m ≤ 4) (hk : k + m ≤ (page t pay).length) :
    readE (Crc.burst (page t pay) X k m) = if Crc.allz X = true then 0 else 21 := by
  by_cases hz : Crc.allz X = true
  · rw [if_pos hz, burst_same hX hk hz]; exact (read_page ht hf).2.2
  · rw [if_neg hz]
    have hl : (Crc.burst (page t pay) X k m).length = pay.length + 32 := by rw [Crc.burst_len, page_len]
    refine readE_torn hl hf ?_ ?_
    · rw [← Bool.not_eq_true]
      intro h
      by_cases h0 : pay.length < k ∨ k + m ≤ pay.length
      · have h1 := full_getD h (pay.length + 0) (by rw [hl]; omega)
        rw [burst_get (by rw [page_len]; omega) (by omega), page_at 0 (by omega), beside_first] at h1
        exact absurd h1 (by decide)
      · have h1 := full_getD h (pay.length + 31) (by rw [hl]; omega)
        rw [burst_get (by rw [page_len]; omega) (by omega), page_at 31 (by omega), beside_last] at h1
        exact absurd h1 (by decide)
    · intro hg
      have h1 := good_sum hl hg
      rw [← page_sum t pay, Crc.sum_burst _ _ _ _ hX hm hk] at h1
      exact hz h1
/-- A page cut off: erased but for its first bytes. -/
def cutOff (l : List UInt8) (k : Nat) : List UInt8 := l.take k ++ List.replicate (l.length - k) 255
theorem cutOff_len (l : List UInt8) (k : Nat) (hk : k ≤ l.length) : (cutOff l k).length = l.length := by
  rw [cutOff, List.length_append, List.length_take, List.length_replicate]; omega
theorem read_cut {t : Tg} {pay : List UInt8} (hf : Fits pay.length) {k : Nat} (hk : k + 4 ≤ (page t pay).length) : readE (cutOff (page t pay) k) = if full (cutOff (page t pay) k) = true then 20 else 21 := by
  have hl : (cutOff (page t pay) k).length = pay.length + 32 := by rw [cutOff_len _ _ (by omega), page_len]
  by_cases h : full (cutOff (page t pay) k) = true
  · rw [if_pos h]
    unfold readE
    rw [hl, Nat.add_sub_cancel, if_pos hf, if_pos h]
  · rw [if_neg h]
    rw [Bool.not_eq_true] at h
    refine readE_torn hl hf h ?_
    intro hg
    have h3 := hg.2.2.1
    rw [num, List.drop_drop] at h3
    have e : ((cutOff (page t pay) k).drop (pay.length + 28)).take 4 = [255, 255, 255, 255] := by
      have hp := page_len t pay
      rw [cutOff, List.drop_append, List.drop_of_length_le (by rw [List.length_take]; omega), List.nil_append, List.drop_replicate, List.length_take, List.take_replicate,
        show min 4 ((page t pay).length - k - (pay.length + 28 - min k (page t pay).length)) = 4 by omega]
      rfl
    rw [e] at h3
    exact absurd h3 (by decide)
theorem full_cut0 (l : List UInt8) : full (cutOff l 0) = true := by simp [full, cutOff]
end Tg
end Go.Proofs.YtiipnpfaaghekaaGreat
