/-
  What a translation holds, seen from outside: for each page its tag and its payload.
-/
/-
  Plain: a row of which a few bytes that stand together are put together with others by exclusive-or.
-/
import Derived.Test.YtiipnpfaaghekaaGreatFtlSld
import Derived.Test.YtiipnpfaaghekaaGreatTopGap
import Derived.Test.YtiipnpfaaghekaaGreatCrcMath2
import Derived.Test.YtiipnpfaaghekaaGreatTagMath
import Derived.Test.YtiipnpfaaghekaaGreatBytes
import Derived.Test.YtiipnpfaaghekaaGreatNumMath
import Derived.Test.YtiipnpfaaghekaaGreatTagSmall
import Derived.Test.YtiipnpfaaghekaaGreatTagRight
import Derived.Deep.RegionHeld3
import Derived.Deep.DrawnRows
import Derived.Test.YtiipnpfaaghekaaGreatFtlAt
import Derived.Test.YtiipnpfaaghekaaGreatFtlNew
import Derived.Test.YtiipnpfaaghekaaGreatBlkOpen
import Derived.Test.YtiipnpfaaghekaaGreatFtlWr
import Derived.Deep.DeepCutAuto
import Derived.Test.YtiipnpfaaghekaaGreatFtlOps
import Derived.Test.YtiipnpfaaghekaaGreatTopAwake
import Derived.Test.YtiipnpfaaghekaaGreatSlCopy0
import Derived.Test.YtiipnpfaaghekaaGreatChMem
import Derived.Test.YtiipnpfaaghekaaGreatNandRight
import Derived.Test.YtiipnpfaaghekaaGreatFtlWrite
namespace Go.Proofs.YtiipnpfaaghekaaGreat
open Go.RowKit Ftl

/-- What stands at a page now. -/
def vw (f : Fm) (q : Nat) : Option (Tg × List UInt8) := (curE f q).map sk
namespace Ftl
variable {NB B p : Nat} {R : Nat → Prop} {w : World} {f f' : Fm} {pay tx : List UInt8}
theorem vw_eq (f : Fm) (q : Nat) : vw f q = match (getE f.no q).map sk with
    | some x => some x
    | none => if (getE f.go q).isSome then none else (getE f.se q).map sk := by
  unfold vw curE
  cases hz : getE f.no q with
  | some e => rfl
  | none =>
    show Option.map sk (if (getE f.go q).isSome = true then none else getE f.se q) = _
    simp only [Option.map_none]
    split <;> rfl
theorem vw_some {q : Nat} {x : Tg × List UInt8} (h : vw f q = some x) : ∃ e, curE f q = some e ∧ e.d = x.2 ∧ e.t = x.1 := by
  unfold vw at h
  cases hz : curE f q with
  | none => rw [hz] at h; cases h
  | some e => rw [hz] at h; obtain rfl : sk e = x := Option.some.inj h; exact ⟨e, rfl, rfl, rfl⟩
/-- Written: the page is what was written, the others are as they were. -/
theorem Wrd.vw (h : Wrd NB f f' p pay) (q : Nat) : vw f' q = if q = p then some (⟨1, p, f.seq, f.ep⟩, pay) else vw f q := by
  rw [vw_eq, vw_eq, h.no, h.go, getE_sk h.se]
  by_cases hq : q = p
  · simp only [if_pos hq]
  · simp only [if_neg hq]
theorem Wrd.len_ (h : Wrd NB f f' p pay) : (f'.se ++ f'.no).length = (f.se ++ f.no).length + if (getE f.no p).isSome then 0 else 1 := by
  have h1 := congrArg List.length h.se
  simp only [List.length_map] at h1
  rw [List.length_append, List.length_append, h1, h.len]
  omega
theorem Wrd.seal0 (h : Wrd NB f f' p pay) (h0 : (getE f.se 0).isSome = true) : (getE f'.se 0).isSome = true := by
  rw [getE_some h.se]; exact h0
/-- Sealed: the seal is new, the pages are as they were. -/
theorem _root_.Go.Proofs.YtiipnpfaaghekaaGreat.Sld.vw (h : Sld NB f f' tx) (q : Nat) : vw f' q = if q = 0 then some (sealT f, headL tx) else vw f q := by
  have e1 : (getE f'.no q).map sk = none := by rw [h.no]; rfl
  have e2 : (getE f'.go q).isSome = false := by rw [h.go]; rfl
  rw [vw_eq, vw_eq, e1, e2, h.se]
  rfl
theorem _root_.Go.Proofs.YtiipnpfaaghekaaGreat.Sld.seal0 (h : Sld NB f f' tx) : (getE f'.se 0).isSome = true := by
  have := h.se 0
  rw [if_pos rfl] at this
  cases hz : getE f'.se 0 with
  | none => rw [hz] at this; cases this
  | some e => rfl
/-- No more entries than pages. -/
theorem uq_range {l : List En} {m : Nat} (hu : Uq l) (h : ∀ q, (getE l q).isSome = true → q < m) : l.length ≤ m := by
  have := nodup_sub (l := l.map fun e : En => e.t.p) (l' := List.range m) hu fun p hp => List.mem_range.2 (h p (getE_isSome.2 hp))
  rw [List.length_map, List.length_range] at this
  exact this
theorem _root_.Go.Proofs.YtiipnpfaaghekaaGreat.Sld.len_ (h : Sld NB f f' tx) (hu : Uq f'.se) {m : Nat} (hm : 0 < m) (hv : ∀ q, (Go.Proofs.YtiipnpfaaghekaaGreat.vw f q).isSome = true → q < m) : (f'.se ++ f'.no).length ≤ m := by
  rw [h.no, List.append_nil]
  refine uq_range hu fun q hq => ?_
  by_cases h0 : q = 0
  · omega
  · have e := Sld.vw h q
    rw [if_neg h0] at e
    refine hv q ?_
    rw [← e, vw_eq, h.no, h.go]
    show ((getE f'.se q).map sk).isSome = true
    cases hz : getE f'.se q with
    | none => rw [hz] at hq; cases hq
    | some x => rfl
/-- The erase counts stand together. -/
theorem fGap_calls (h : FtM NB B R w f) (hc : Fc NB f) (hs : f.seq ≤ 1000000) :
    Calls Tryz.prog 9 #[.pointer (some ⟨f.g.C, 0, none⟩)] w fun e w' => (∃ d : Int, d ≤ 4 ∧ e = .returned (.int .i64 d)) ∧ Below w.heap.size w w' := by
  obtain ⟨S, a1, _⟩ := h
  have hn := hc.fi.nb
  have hb := fun k hk => hc.fi.w.bk k hk
  refine (gap_calls a1.hg.hc (by omega) (by omega) (fun k hk => (hb k hk).bad) (fun k hk => by have := (hb k hk).we; have := (hb k hk).wn; omega)).mono ?_
  rintro e w' ⟨rfl, h1⟩
  refine ⟨⟨_, Gap.small (by omega) fun i j hi hj => ?_, rfl⟩, h1⟩
  have h2 := hc.fi.w.gap i j hi hj
  have := (hb i hi).we
  have := (hb j hj).we
  omega
end Ftl
end Go.Proofs.YtiipnpfaaghekaaGreat
/-
  A new translation, in plain mathematics and in memory.
-/
/-
  A number of bytes, what lies behind its beginning.
-/
/-
  Pages, in plain mathematics: what is written reads back; a page that differs within four bytes is none; nor is one that is cut.
-/
namespace Go.Proofs.YtiipnpfaaghekaaGreat.Crc

/-- The bytes from place k on, j of them, put together with X. -/
def burst (l X : List UInt8) (k j : Nat) : List UInt8 := (List.range l.length).map fun t => if k ≤ t ∧ t < k + j then l.getD t 0 ^^^ X.getD (t - k) 0 else l.getD t 0
def allz (l : List UInt8) : Bool := l.all (· == 0)
theorem burst_len (l X : List UInt8) (k j : Nat) : (burst l X k j).length = l.length := by simp [burst]
theorem burst_zero (l X : List UInt8) (k : Nat) : burst l X k 0 = l := by
  apply List.ext_getElem (by simp [burst])
  intro t h1 h2
  simp only [burst, List.getElem_map, List.getElem_range]
  rw [if_neg (by omega)]
  simp [h2]
theorem burst_at (l X : List UInt8) (k j t : Nat) (h : t < (burst l X k j).length) : (burst l X k j)[t] = if k ≤ t ∧ t < k + j then l.getD t 0 ^^^ X.getD (t - k) 0 else l.getD t 0 := by
  simp [burst]
theorem burst_set (l X : List UInt8) (k j : Nat) : (burst l X k j).set (k + j) (l.getD (k + j) 0 ^^^ X.getD j 0) = burst l X k (j + 1) := by
  apply List.ext_getElem (by simp [burst])
  intro t h1 h2
  rw [List.getElem_set]
  by_cases ht : k + j = t
  · subst ht
    rw [if_pos rfl, burst_at, if_pos (by omega), Nat.add_sub_cancel_left]
  · rw [if_neg ht, burst_at, burst_at]
    by_cases hc : k ≤ t ∧ t < k + j
    · rw [if_pos hc, if_pos (by omega)]
    · rw [if_neg hc, if_neg (by omega)]
theorem burst_here (l X : List UInt8) (k j : Nat) (h : k + j < (burst l X k j).length) (h' : k + j < l.length) : (burst l X k j)[k + j] = l[k + j] := by
  rw [burst_at, if_neg (by omega)]
  simp [h']
theorem burst_all (l X : List UInt8) (k m : Nat) (hX : X.length = m) (hk : k + m ≤ l.length) : burst l X k m = l.take k ++ List.zipWith (· ^^^ ·) ((l.drop k).take m) X ++ l.drop (k + m) := by
  have hz : (List.zipWith (· ^^^ ·) ((l.drop k).take m) X).length = m := by
    rw [List.length_zipWith, List.length_take, List.length_drop]; omega
  have h1 : (l.take k).length = k := by rw [List.length_take]; omega
  apply List.ext_getElem
  · rw [burst_len, List.length_append, List.length_append, hz, h1, List.length_drop]; omega
  intro t ht1 ht2
  rw [burst_at]
  rw [burst_len] at ht1
  by_cases ha : t < k
  · rw [if_neg (by omega), List.getElem_append_left (by rw [List.length_append]; omega), List.getElem_append_left (by omega), List.getElem_take]
    simp [ht1]
  · by_cases hb : t < k + m
    · rw [if_pos (by omega), List.getElem_append_left (by rw [List.length_append]; omega), List.getElem_append_right (by omega)]
      simp only [h1, List.getElem_zipWith, List.getElem_take, List.getElem_drop]
      have e : k + (t - k) = t := by omega
      simp only [e]
      have ht3 : t - k < X.length := by omega
      simp [ht1, ht3]
    · rw [if_neg (by omega), List.getElem_append_right (by rw [List.length_append]; omega)]
      simp only [List.length_append, h1, hz, List.getElem_drop]
      have e : k + m + (t - (k + m)) = t := by omega
      simp only [e]
      simp [ht1]
theorem zip_self (l X : List UInt8) (h : l.length = X.length) : List.zipWith (· ^^^ ·) l X = l ↔ allz X = true := by
  induction l generalizing X with
  | nil => cases X with
    | nil => simp [allz]
    | cons => simp at h
  | cons a l ih => cases X with
    | nil => simp at h
    | cons b X =>
      have := ih X (by simpa using h)
      simp only [List.zipWith_cons_cons, List.cons.injEq, this, allz, List.all_cons, Bool.and_eq_true, beq_iff_eq]
      refine and_congr_left fun _ => ⟨fun e => ?_, fun e => by rw [e, UInt8.xor_zero]⟩
      have h2 := congrArg (a ^^^ ·) e
      simp only [← UInt8.xor_assoc, UInt8.xor_self, UInt8.zero_xor] at h2
      exact h2
theorem sum_burst (l X : List UInt8) (k m : Nat) (hX : X.length = m) (hm : m ≤ 4) (hk : k + m ≤ l.length) : sum (burst l X k m) = sum l ↔ allz X = true := by
  have hmid : ((l.drop k).take m).length = m := by rw [List.length_take, List.length_drop]; omega
  have e : l = l.take k ++ (l.drop k).take m ++ l.drop (k + m) := by
    rw [List.append_assoc, ← List.drop_drop, List.take_append_drop, List.take_append_drop]
  rw [burst_all l X k m hX hk]
  conv => lhs; rhs; rw [e]
  rw [sum_window (by rw [List.length_zipWith, hmid]; omega) (by rw [List.length_zipWith, hmid]; omega)]
  exact zip_self _ _ (by rw [hmid, hX])
theorem allz_snoc (l : List UInt8) (x : UInt8) : allz (l ++ [x]) = (allz l && x == 0) := by simp [allz]
theorem allz_nil : allz [] = true := rfl
end Go.Proofs.YtiipnpfaaghekaaGreat.Crc
namespace Go.Proofs.YtiipnpfaaghekaaGreat
namespace Crc
theorem wide_lt (b : UInt8) : (wide b).toNat < 256 := by rw [wide_toNat]; exact b.toNat_lt
theorem puts4 (a b c d : UInt8) : puts 0#32 [a, b, c, d] = stpN 32 (wide a ^^^ wide b <<< 8 ^^^ wide c <<< 16 ^^^ wide d <<< 24) := by
  have e1 : stpN 32 (wide b <<< 8) = stpN 24 (wide b) := by
    exact (stpN_add 24 8 (wide b <<< 8)).trans (by rw [stpN_shl 8 (wide b) (by omega) (by have := wide_lt b; omega)])
  have e2 : stpN 32 (wide c <<< 16) = stpN 16 (wide c) := by
    exact (stpN_add 16 16 (wide c <<< 16)).trans (by rw [stpN_shl 16 (wide c) (by omega) (by have := wide_lt c; omega)])
  have e3 : stpN 32 (wide d <<< 24) = stpN 8 (wide d) := by
    exact (stpN_add 8 24 (wide d <<< 24)).trans (by rw [stpN_shl 24 (wide d) (by omega) (by have := wide_lt d; omega)])
  rw [stpN_xor, stpN_xor, stpN_xor, e1, e2, e3]
  show put (put (put (put 0#32 a) b) c) d = _
  simp only [put_wide, BitVec.zero_xor, stpN_xor, ← stpN_add]
theorem word4 (y : Nat) : wide (UInt8.ofNat y) ^^^ wide (UInt8.ofNat (y / 256)) <<< 8 ^^^ wide (UInt8.ofNat (y / 65536)) <<< 16 ^^^ wide (UInt8.ofNat (y / 16777216)) <<< 24 = BitVec.ofNat 32 y := by
  have key : ∀ z i : Nat, (wide (UInt8.ofNat z)).getLsbD i = (decide (i < 8) && z.testBit i) := by
    intro z i
    show (((UInt8.ofNat z).toBitVec).setWidth 32).getLsbD i = _
    rw [BitVec.getLsbD_setWidth]
    show (decide (i < 32) && (BitVec.ofNat 8 z).getLsbD i) = _
    rw [BitVec.getLsbD_ofNat]
    by_cases h : i < 8
    · simp [h, show i < 32 by omega]
    · simp [h]
  apply BitVec.eq_of_getLsbD_eq
  intro i hi
  simp only [BitVec.getLsbD_xor, BitVec.getLsbD_shiftLeft, key, BitVec.getLsbD_ofNat, hi, decide_true, Bool.true_and]
  have d1 : ∀ j, (y / 256).testBit j = y.testBit (j + 8) := fun j => by rw [show (256 : Nat) = 2 ^ 8 from rfl, Nat.testBit_div_two_pow]
  have d2 : ∀ j, (y / 65536).testBit j = y.testBit (j + 16) := fun j => by rw [show (65536 : Nat) = 2 ^ 16 from rfl, Nat.testBit_div_two_pow]
  have d3 : ∀ j, (y / 16777216).testBit j = y.testBit (j + 24) := fun j => by rw [show (16777216 : Nat) = 2 ^ 24 from rfl, Nat.testBit_div_two_pow]
  rw [d1, d2, d3]
  rcases (show i < 8 ∨ (8 ≤ i ∧ i < 16) ∨ (16 ≤ i ∧ i < 24) ∨ (24 ≤ i ∧ i < 32) by omega) with h | ⟨h, h'⟩ | ⟨h, h'⟩ | ⟨h, h'⟩
  · simp [h, show i < 16 by omega, show i < 24 by omega]
  · rw [show i - 8 + 8 = i by omega]
    simp [show ¬ i < 8 by omega, show i < 16 by omega, show i < 24 by omega, show i - 8 < 8 by omega]
  · rw [show i - 16 + 16 = i by omega]
    simp [show ¬ i < 8 by omega, show ¬ i < 16 by omega, show i < 24 by omega, show ¬ i - 8 < 8 by omega, show i - 16 < 8 by omega]
  · rw [show i - 24 + 24 = i by omega]
    simp [show ¬ i < 8 by omega, show ¬ i < 16 by omega, show ¬ i < 24 by omega, show ¬ i - 8 < 8 by omega, show ¬ i - 16 < 8 by omega, show i - 24 < 8 by omega]
theorem bigL4 (y : Nat) : bigL y 4 = [UInt8.ofNat y, UInt8.ofNat (y / 256), UInt8.ofNat (y / 65536), UInt8.ofNat (y / 16777216)] := by
  show [UInt8.ofNat (y / 256 ^ 0), UInt8.ofNat (y / 256 ^ 1), UInt8.ofNat (y / 256 ^ 2), UInt8.ofNat (y / 256 ^ 3)] = _
  rw [show (256 : Nat) ^ 0 = 1 from rfl, show (256 : Nat) ^ 1 = 256 from rfl, show (256 : Nat) ^ 2 = 65536 from rfl, show (256 : Nat) ^ 3 = 16777216 from rfl, Nat.div_one]
/-- Bytes and their sum, put together: always the same remainder. -/
theorem puts_own (r : BitVec 32) : puts r (bigL (~~~r).toNat 4) = stpN 32 (BitVec.allOnes 32) := by
  rw [puts_split, bigL_len, zer_eq, bigL4, puts4, word4 _, ← stpN_xor]
  rw [BitVec.ofNat_toNat, BitVec.setWidth_eq]
  congr 1
  apply BitVec.eq_of_getLsbD_eq
  intro i hi
  rw [BitVec.getLsbD_xor, BitVec.getLsbD_not, BitVec.getLsbD_allOnes]
  simp only [hi, decide_true, Bool.true_and]
  cases r.getLsbD i <;> rfl
theorem sum_own (l : List UInt8) : puts (~~~0#32) (l ++ bigL (sum l).toNat 4) = stpN 32 (BitVec.allOnes 32) := by
  rw [puts_append]
  exact puts_own _
end Crc
namespace Tg
/-- The sum of a whole page. -/
def same : BitVec 32 := ~~~(Crc.puts (Crc.stpN 32 (BitVec.allOnes 32)) [0, 0, 0, 0])
theorem page_sum (t : Tg) (pay : List UInt8) : Crc.sum (page t pay) = same := by
  rw [page_eq]
  show ~~~(Crc.puts (~~~0#32) (pay ++ head t ++ bigL (sumOf t pay) 4 ++ [0, 0, 0, 0])) = _
  rw [Crc.puts_append, sumOf, Crc.sum_own]
  rfl
theorem good_page {xs : List UInt8} {m : Nat} (hl : xs.length = m + 32) (hg : Good (xs.take m) (xs.drop m)) : xs = page (raw (xs.drop m)) (xs.take m) := by
  have h := ((good_iff (by rw [List.length_drop, hl]; omega)).1 hg).2
  rw [page, h, List.take_append_drop]
theorem good_sum {xs : List UInt8} {m : Nat} (hl : xs.length = m + 32) (hg : Good (xs.take m) (xs.drop m)) : Crc.sum xs = same := by
  rw [good_page hl hg, page_sum]
theorem full_at {l : List UInt8} (h : full l = true) (i : Nat) (hi : i < l.length) : l[i] = 255 := by
  rw [full, List.all_eq_true] at h
  simpa using h l[i] (List.getElem_mem hi)
theorem page_at {t : Tg} {pay : List UInt8} (i : Nat) (hi : i < 32) : (page t pay)[pay.length + i]? = (beside t pay)[i]? := by
  rw [page, List.getElem?_append_right (by omega), Nat.add_sub_cancel_left]
theorem beside_first (t : Tg) (pay : List UInt8) : (beside t pay)[0]? = some 67 := by simp [beside, head]
theorem beside_last (t : Tg) (pay : List UInt8) : (beside t pay)[31]? = some 0 := by
  rw [beside, List.getElem?_append_right (by simp [head_len, bigL_len])]
  simp [head_len, bigL_len]
theorem full_getD {l : List UInt8} (h : full l = true) (i : Nat) (hi : i < l.length) : l[i]? = some 255 := by
  rw [List.getElem?_eq_getElem hi, full_at h i hi]
theorem page_notFull (t : Tg) (pay : List UInt8) : full (page t pay) = false := by
  rw [← Bool.not_eq_true]
  intro h
  have h1 := full_getD h (pay.length + 0) (by rw [page_len]; omega)
  rw [page_at 0 (by omega), beside_first] at h1
  exact absurd h1 (by decide)
theorem page_take (t : Tg) (pay : List UInt8) : (page t pay).take pay.length = pay := by
  rw [page, List.take_append_of_le_length (Nat.le_refl _), List.take_of_length_le (Nat.le_refl _)]
theorem page_drop (t : Tg) (pay : List UInt8) : (page t pay).drop pay.length = beside t pay := by
  rw [page, List.drop_append_of_le_length (Nat.le_refl _), List.drop_of_length_le (Nat.le_refl _), List.nil_append]
theorem page_good {t : Tg} (ht : Right t) (pay : List UInt8) : Good pay (beside t pay) ∧ raw (beside t pay) = t := (beside_eq_iff ht (beside_len t pay)).1 rfl
/-- What is written reads as it was. -/
theorem read_page {t : Tg} (ht : Right t) {pay : List UInt8} (hf : Fits pay.length) : readT (page t pay) = t ∧ readP (page t pay) = pay ∧ readE (page t pay) = 0 := by
  obtain ⟨g1, g2⟩ := page_good ht pay
  unfold readT readP readE
  rw [page_len, Nat.add_sub_cancel, page_notFull, page_take, page_drop, if_pos ⟨hf, rfl, g1⟩, if_pos ⟨hf, rfl, g1⟩, if_pos hf, if_neg (by simp), if_pos g1]
  exact ⟨g2, rfl, rfl⟩
/-- What is read is written as the same bytes. -/
theorem write_read {xs : List UInt8} (h : readE xs = 0) : writeE (readT xs) (readP xs) = 0 ∧ writeL (readT xs) (readP xs) = xs := by
  have hf : Fits (xs.length - 32) := by
    unfold readE at h
    by_cases hf : Fits (xs.length - 32)
    · exact hf
    · rw [if_neg hf] at h; exact absurd h (by decide)
  have hfu : full xs = false := by
    unfold readE at h
    rw [if_pos hf] at h
    cases e : full xs
    · rfl
    · rw [e, if_pos rfl] at h; exact absurd h (by decide)
  have hl : xs.length = (xs.length - 32) + 32 := by unfold Fits at hf; omega
  have hg : Good (xs.take (xs.length - 32)) (xs.drop (xs.length - 32)) := by
    unfold readE at h
    rw [if_pos hf, hfu, if_neg (by simp)] at h
    by_cases hg : Good (xs.take (xs.length - 32)) (xs.drop (xs.length - 32))
    · exact hg
    · rw [if_neg hg] at h; exact absurd h (by decide)
  have e1 : readT xs = raw (xs.drop (xs.length - 32)) := by unfold readT; rw [if_pos ⟨hf, hfu, hg⟩]
  have e2 : readP xs = xs.take (xs.length - 32) := by unfold readP; rw [if_pos ⟨hf, hfu, hg⟩]
  have hr : Right (raw (xs.drop (xs.length - 32))) := hg.2.2.2.1
  have hlen : (xs.take (xs.length - 32)).length = xs.length - 32 := by rw [List.length_take]; omega
  unfold writeE writeL
  rw [e1, e2, hlen, if_pos ⟨hr, hf⟩, if_pos ⟨hr, hf⟩]
  exact ⟨rfl, (good_page hl hg).symm⟩
theorem readE_torn {xs : List UInt8} {m : Nat} (hl : xs.length = m + 32) (hf : Fits m) (hfu : full xs = false) (hg : ¬ Good (xs.take m) (xs.drop m)) : readE xs = 21 := by
  unfold readE
  rw [hl, Nat.add_sub_cancel, if_pos hf, hfu, if_neg (by simp), if_neg hg]
theorem burst_same {l X : List UInt8} {k m : Nat} (hX : X.length = m) (hk : k + m ≤ l.length) (h : Crc.allz X = true) : Crc.burst l X k m = l := by
  have hl : ((l.drop k).take m).length = X.length := by rw [List.length_take, List.length_drop, hX]; omega
  rw [Crc.burst_all l X k m hX hk, (Crc.zip_self _ X hl).2 h, List.append_assoc, ← List.drop_drop, List.take_append_drop, List.take_append_drop]
theorem burst_get {l X : List UInt8} {k m t : Nat} (ht : t < l.length) (h : t < k ∨ k + m ≤ t) : (Crc.burst l X k m)[t]? = l[t]? := by
  have hb : t < (Crc.burst l X k m).length := by rw [Crc.burst_len]; exact ht
  rw [List.getElem?_eq_getElem hb, Crc.burst_at, if_neg (by omega), List.getElem?_eq_getElem ht, List.getD_eq_getElem?_getD, List.getElem?_eq_getElem ht]
  rfl
/-- A page that differs from a valid one just within four bytes. -/
theorem read_burst {t : Tg} (ht : Right t) {pay X : List UInt8} (hf : Fits pay.length) {k m : Nat} (hX : X.length = m) (hm : m ≤ 4) (hk : k + m ≤ (page t pay).length) :
    readE (Crc.burst (page t pay) X k m) = if Crc.allz X = true then 0 else 21 := by
  by_cases hz : Crc.allz X = true
  · rw [if_pos hz, burst_same hX hk hz]; exact (read_page ht hf).2.2
  · rw [if_neg hz]
    have hl : (Crc.burst (page t pay) X k m).length = pay.length + 32 := by rw [Crc.burst_len, page_len]
    refine readE_torn hl hf ?_ ?_
    · rw [← Bool.not_eq_true]
      intro h
      by_cases h0 : pay.length < k ∨ k + m ≤ pay.length
      · have h1 := full_getD h (pay.length + 0) (by rw [hl]; omega)
        rw [burst_get (by rw [page_len]; omega) (by omega), page_at 0 (by omega), beside_first] at h1
        exact absurd h1 (by decide)
      · have h1 := full_getD h (pay.length + 31) (by rw [hl]; omega)
        rw [burst_get (by rw [page_len]; omega) (by omega), page_at 31 (by omega), beside_last] at h1
        exact absurd h1 (by decide)
    · intro hg
      have h1 := good_sum hl hg
      rw [← page_sum t pay, Crc.sum_burst _ _ _ _ hX hm hk] at h1
      exact hz h1
/-- A page cut off: erased but for its first bytes. -/
def cutOff (l : List UInt8) (k : Nat) : List UInt8 := l.take k ++ List.replicate (l.length - k) 255
theorem cutOff_len (l : List UInt8) (k : Nat) (hk : k ≤ l.length) : (cutOff l k).length = l.length := by
  rw [cutOff, List.length_append, List.length_take, List.length_replicate]; omega
theorem read_cut {t : Tg} {pay : List UInt8} (hf : Fits pay.length) {k : Nat} (hk : k + 4 ≤ (page t pay).length) : readE (cutOff (page t pay) k) = if full (cutOff (page t pay) k) = true then 20 else 21 := by
  have hl : (cutOff (page t pay) k).length = pay.length + 32 := by rw [cutOff_len _ _ (by omega), page_len]
  by_cases h : full (cutOff (page t pay) k) = true
  · rw [if_pos h]
    unfold readE
    rw [hl, Nat.add_sub_cancel, if_pos hf, if_pos h]
  · rw [if_neg h]
    rw [Bool.not_eq_true] at h
    refine readE_torn hl hf h ?_
    intro hg
    have h3 := hg.2.2.1
    rw [num, List.drop_drop] at h3
    have e : ((cutOff (page t pay) k).drop (pay.length + 28)).take 4 = [255, 255, 255, 255] := by
      have hp := page_len t pay
      rw [cutOff, List.drop_append, List.drop_of_length_le (by rw [List.length_take]; omega), List.nil_append, List.drop_replicate, List.length_take, List.take_replicate,
        show min 4 ((page t pay).length - k - (pay.length + 28 - min k (page t pay).length)) = 4 by omega]
      rfl
    rw [e] at h3
    exact absurd h3 (by decide)
theorem full_cut0 (l : List UInt8) : full (cutOff l 0) = true := by simp [full, cutOff]
end Tg
end Go.Proofs.YtiipnpfaaghekaaGreat
/-
  A page is read.
-/
/-
  tag.Read.
-/
/-
  The closure of tag.Read that takes a number off the bytes.
-/
namespace Go.Proofs.YtiipnpfaaghekaaGreat
open Go.RowKit

theorem numL_drop (xs : List UInt8) (k : Nat) (h : k < xs.length) : numL (xs.drop k) = xs[k].toNat + 256 * numL (xs.drop (k + 1)) := by
  rw [List.drop_eq_getElem_cons h, numL]
theorem numL_drop_lt {xs : List UInt8} {n : Nat} (hn : n ≤ 8) (hl : xs.length = n) (k : Nat) (hk : 0 < k) (hkn : k ≤ n) : numL (xs.drop k) * 256 ≤ 18446744073709551360 := by
  have h := numL_lt (xs.drop k)
  rw [List.length_drop, hl] at h
  have h2 : (256 : Nat) ^ (n - k) ≤ 256 ^ 7 := Nat.pow_le_pow_right (by omega) (by omega)
  have h3 : (256 : Nat) ^ 7 = 72057594037927936 := by decide
  omega
end Go.Proofs.YtiipnpfaaghekaaGreat
namespace Go.Proofs.YtiipnpfaaghekaaGreat
open Go.RowKit

theorem ofInt_u64 (a : Nat) (ha : a < 18446744073709551616) : (BitVec.ofInt 64 (a : Int)).toNat = a := by
  rw [BitVec.ofInt_natCast, BitVec.toNat_ofNat]; exact Nat.mod_eq_of_lt (by omega)
theorem u64_or_low (X b : Nat) (hX : X * 256 ≤ 18446744073709551360) (hb : b < 256) : bits .or .u64 ((X : Int) * 256) (b : Int) = ((X * 256 + b : Nat) : Int) := by
  have h1 : X * 256 ||| b = X * 256 + b := by
    have := Nat.two_pow_add_eq_or_of_lt (i := 8) (b := b) hb X
    rw [Nat.mul_comm X 256]
    exact this.symm
  have e : (X : Int) * 256 = ((X * 256 : Nat) : Int) := by omega
  rw [e]
  have a1 : (BitVec.ofInt 64 ((X * 256 : Nat) : Int)).toNat = X * 256 := ofInt_u64 _ (by omega)
  have a2 : (BitVec.ofInt 64 (b : Int)).toNat = b := ofInt_u64 _ (by omega)
  show IntKind.u64.wrap ((BitVec.ofInt 64 ((X * 256 : Nat) : Int) ||| BitVec.ofInt 64 (b : Int)).toNat : Int) = _
  rw [BitVec.toNat_or, a1, a2, h1]
  exact IntWalk.u64_in _ ⟨by omega, by omega⟩
set_option maxHeartbeats 1000000 in
theorem ttake_calls (R B : Nat) (a : Option Addr) (n c : Nat) (xs : List UInt8) (k : Nat) (w : World) (hR : Blk w R 22 #[.slice a n c]) (hx : Bytes w B a n xs) (hk : k ≤ n) (hk8 : k ≤ 8) :
    Calls Tryz.prog 62 #[.int .i64 k, .pointer (some ⟨R, 0, none⟩)] w fun e w' => e = .returned (.int .u64 (numL (xs.take k) : Nat)) ∧ w' = w.setCell ⟨R, 0, none⟩ (.slice (cutA a c k) (n - k : Nat) (c - k : Nat)) := by
  have hl := hx.len
  have hm := Lib.hid (hx.take hk)
  have hml : (xs.take k).length = k := by rw [List.length_take]; omega
  generalize hys : xs.take k = ys at *
  clear hys
  have HL := Lib.hid hml
  have c0 := hR.cellv (i := 0) rfl
  have f0 := hR.frozen 0
  clear hml hl
  go_enter Tryz.func62, Tryz.ntmps62
  go_wp2
  go_loop [4, 5] (fun x i => ∃ j : Nat, j ≤ k ∧ i = .int .i64 ((j : Int) - 1) ∧ x = .int .u64 (numL (ys.drop j) : Nat)) (fun _ i => (intOf i + 1).toNat)
  case atStart =>
    exact ⟨k, by omega, rfl, by rw [List.drop_of_length_le (by have := HL.out; omega)]; rfl⟩
  case round =>
    obtain ⟨j, hj, rfl, rfl⟩ := hrel
    by_cases hlt : 0 < j
    · obtain ⟨b, o, hk', rfl, hb, hc⟩ := hm.out.at_ (k := j - 1) (by omega)
      have hd := numL_drop ys (j - 1) hk'
      rw [Nat.sub_add_cancel hlt] at hd
      have hlt2 := numL_drop_lt hk8 HL.out j hlt hj
      have hbl := (ys[j - 1]).toNat_lt
      have HD := Lib.hid hd
      clear hd
      have hor := u64_or_low (numL (ys.drop j)) (ys[j - 1]).toNat hlt2 hbl
      generalize hX : numL (ys.drop j) = X at *
      generalize hY : ys[j - 1] = y at *
      clear hX hY
      obtain ⟨i, rfl⟩ : ∃ i, j = i + 1 := ⟨j - 1, by omega⟩
      rw [Nat.add_sub_cancel] at hc
      rw [Nat.add_sub_cancel] at HD
      rw [show ((i + 1 : Nat) : Int) - 1 = (i : Int) by omega]
      go_wp2
      go_round
      case rel => exact ⟨i, by omega, by go_num, by rw [HD.out]; exact congrArg (Value.int .u64) (by omega)⟩
      case measure => simp [intOf]
    · obtain rfl : j = 0 := by omega
      have hcut := cutB_from a n c k hk
      go_wp2
      go_ret
      exact ⟨rfl, rfl⟩
/-- What a take leaves: the rest is shorter; no other block has changed. -/
structure TTaken (R B m : Nat) (ys : List UInt8) (w w' : World) : Prop where
  rest : ∃ a' c', Blk w' R 22 #[.slice a' m c'] ∧ Bytes w' B a' m ys ∧ m ≤ c'
  far : ∀ {g t cs}, g ≠ R → Blk w g t cs → Blk w' g t cs
  size : w'.heap.size = w.heap.size
  below : ∀ {D}, D ≤ R → Below D w w'
theorem ttake_next (R B : Nat) (a : Option Addr) (n c : Nat) (xs : List UInt8) (k m j i : Nat) (w : World) (hR : Blk w R 22 #[.slice a n c]) (hx : Bytes w B a n (xs.drop j)) (hnc : n ≤ c) (hB : B ≤ R) (hn : n = m + k) (hi : i = j + k) (hk8 : k ≤ 8) :
    Calls Tryz.prog 62 #[.int .i64 k, .pointer (some ⟨R, 0, none⟩)] w fun e w' => e = .returned (.int .u64 (Tg.num xs j k : Nat)) ∧ TTaken R B m (xs.drop i) w w' := by
  refine (ttake_calls R B a n c (xs.drop j) k w hR hx (by omega) hk8).mono ?_
  rintro e w' ⟨rfl, rfl⟩
  have h := (hx.drop (l := k) (by omega) hnc).below ((Below.refl B w).setCell (p := ⟨R, 0, none⟩) hB (.slice (cutA a c k) (n - k : Nat) (c - k : Nat)))
  have hr := hR.set 0 (.slice (cutA a c k) (n - k : Nat) (c - k : Nat))
  rw [List.drop_drop, ← hi] at h
  have e : n - k = m := by omega
  rw [e] at h hr ⊢
  exact ⟨rfl, ⟨_, _, hr, h, by omega⟩, fun hne hb => hb.far hne _, by simp, fun hD => (Below.refl _ _).setCell hD _⟩
end Go.Proofs.YtiipnpfaaghekaaGreat
namespace Go.Proofs.YtiipnpfaaghekaaGreat
open Go.RowKit

/-- What reading leaves. -/
def Rd (xs : List UInt8) (w : World) (e : Ending) (w' : World) : Prop :=
  ∃ a n c, e = .returned (.tuple #[tagV (Tg.readT xs), .slice a n c, .int .i64 (Tg.readE xs)]) ∧ Bytes w' w'.heap.size a n (Tg.readP xs) ∧ n ≤ c ∧ Below w.heap.size w w'
theorem rd_wrong {xs : List UInt8} {n : Nat} (hl : xs.length = n) (h : n < 32 ∨ ¬ Tg.Fits (n - 32)) : Tg.readT xs = Tg.zero ∧ Tg.readP xs = [] ∧ Tg.readE xs = 1 := by
  have h2 : ¬ Tg.Fits (xs.length - 32) := by
    rw [hl]
    rcases h with h | h
    · intro g; unfold Tg.Fits at g; omega
    · exact h
  unfold Tg.readT Tg.readP Tg.readE
  rw [if_neg (fun g => h2 g.1), if_neg (fun g => h2 g.1), if_neg h2]
  exact ⟨rfl, rfl, rfl⟩
theorem rd_full {xs : List UInt8} {m : Nat} (hl : xs.length = m + 32) (h : Tg.Fits m) (hf : Tg.full xs = true) : Tg.readT xs = Tg.zero ∧ Tg.readP xs = [] ∧ Tg.readE xs = 20 := by
  unfold Tg.readT Tg.readP Tg.readE
  rw [hl, Nat.add_sub_cancel, hf, if_neg (by simp), if_neg (by simp), if_pos h, if_pos rfl]
  exact ⟨rfl, rfl, rfl⟩
theorem rd_torn {xs : List UInt8} {m : Nat} (hl : xs.length = m + 32) (h : Tg.Fits m) (hf : Tg.full xs = false) (hg : ¬ Tg.Good (xs.take m) (xs.drop m)) : Tg.readT xs = Tg.zero ∧ Tg.readP xs = [] ∧ Tg.readE xs = 21 := by
  unfold Tg.readT Tg.readP Tg.readE
  rw [hl, Nat.add_sub_cancel, hf, if_neg (fun g => hg g.2.2), if_neg (fun g => hg g.2.2), if_pos h, if_neg (by simp), if_neg hg]
  exact ⟨rfl, rfl, rfl⟩
theorem rd_good {xs : List UInt8} {m : Nat} (hl : xs.length = m + 32) (h : Tg.Fits m) (hf : Tg.full xs = false) (hg : Tg.Good (xs.take m) (xs.drop m)) : Tg.readT xs = Tg.raw (xs.drop m) ∧ Tg.readP xs = xs.take m ∧ Tg.readE xs = 0 := by
  unfold Tg.readT Tg.readP Tg.readE
  rw [hl, Nat.add_sub_cancel, hf, if_pos ⟨h, rfl, hg⟩, if_pos ⟨h, rfl, hg⟩, if_pos h, if_neg (by simp), if_pos hg]
  exact ⟨rfl, rfl, rfl⟩
theorem rd_none {xs : List UInt8} {w w' : World} {e : Ending} {x : Int} (h : Tg.readT xs = Tg.zero ∧ Tg.readP xs = [] ∧ Tg.readE xs = x) (he : e = .returned (.tuple #[tagV Tg.zero, .slice none 0 0, .int .i64 x])) (hb : Below w.heap.size w w') : Rd xs w e w' := by
  obtain ⟨h1, h2, h3⟩ := h
  refine ⟨none, 0, 0, ?_, ?_, Nat.le_refl _, hb⟩
  · rw [he, h1, h3]
  · rw [h2]; exact Arr.none_ _ _ _
theorem tread_wrong (a : Option Addr) (n c : Nat) (xs : List UInt8) (w : World) (hx : Bytes w w.heap.size a n xs) (h : n < 32 ∨ ¬ Tg.Fits (n - 32)) :
    Calls Tryz.prog 34 #[.slice a n c] w (Rd xs w) := by
  have hroom := hx.room
  have HR := Lib.hid (rd_wrong hx.len h)
  by_cases hn : n < 32
  · have h1 : decide ((n : Int) - 32 < 0) = true := decide_eq_true (by omega)
    clear h hx
    go_enter Tryz.func34, Tryz.ntmps34
    go_wp2
    refine bodyPost_ret (v := .tuple #[tagV Tg.zero, .slice none 0 0, .int .i64 1]) (by simp [results, Tryz.results34, go_sem, tagV, Tg.zero]) rfl (rd_none HR.out rfl ?_)
    exact (Below.refl _ _).alloc (Nat.le_refl _) _
  · have h1 : decide ((n : Int) - 32 < 0) = false := decide_eq_false (by omega)
    have h2 : ¬ ((n : Int) - 32 = 64 ∨ (n : Int) - 32 = 128 ∨ (n : Int) - 32 = 256 ∨ (n : Int) - 32 = 512) := by
      rcases h with h | h
      · exact absurd h hn
      · intro g; exact h (by unfold Tg.Fits; omega)
    have H2 := Lib.hid h2
    clear h h2 hx
    go_enter Tryz.func34, Tryz.ntmps34
    go_wp2_with fail
    refine (fits_no _ H2.out _).mono ?_
    rintro e w_ ⟨rfl, rfl⟩
    go_wp2
    refine bodyPost_ret (v := .tuple #[tagV Tg.zero, .slice none 0 0, .int .i64 1]) (by simp [results, Tryz.results34, go_sem, tagV, Tg.zero]) rfl (rd_none HR.out rfl ?_)
    exact (Below.refl _ _).alloc (Nat.le_refl _) _
theorem tread_full (a : Option Addr) (m c : Nat) (xs : List UInt8) (w : World) (hx : Bytes w w.heap.size a (m + 32) xs) (hf : Tg.Fits m) (hfull : Tg.full xs = true) :
    Calls Tryz.prog 34 #[.slice a (m + 32 : Nat) c] w (Rd xs w) := by
  have HR := Lib.hid (rd_full hx.len hf hfull)
  have HX := Lib.hid (hx.alloc (.cells #[.int .i64 0, .int .u32 0, .int .u64 0, .int .u64 0] 63))
  have hb0 : 64 ≤ m ∧ m ≤ 512 := by unfold Tg.Fits at hf; omega
  obtain ⟨hb1, hb2⟩ := hb0
  have HF := Lib.hid hf
  clear hf hx
  go_enter Tryz.func34, Tryz.ntmps34
  go_wp2_with fail
  refine (fits_yes m HF.out _).mono ?_
  rintro e w_ ⟨rfl, rfl⟩
  go_wp2_with fail
  refine (erased_calls a _ c xs _ HX.out).mono ?_
  rintro e w_ ⟨rfl, rfl⟩
  rw [hfull]
  go_wp2
  refine bodyPost_ret (v := .tuple #[tagV Tg.zero, .slice none 0 0, .int .i64 20]) (by simp [results, Tryz.results34, go_sem, tagV, Tg.zero]) rfl (rd_none HR.out rfl ?_)
  exact (Below.refl _ _).alloc (Nat.le_refl _) _
theorem tagOne (k : Int) (p s e : Int) : (#[.int .i64 k, .int .u32 p, .int .u64 s, .int .u64 e] : Array Value).all (·.oneCell') = true := by simp [Value.oneCell']
theorem tagInfo : (Tryz.prog.info? 63).map (·.size) = some 4 := by kernel_rfl
set_option maxHeartbeats 8000000 in
theorem tread_body (a : Option Addr) (m c : Nat) (xs : List UInt8) (w : World) (hx : Bytes w w.heap.size a (m + 32) xs) (hc : m + 32 ≤ c) (hf : Tg.Fits m) (hfull : Tg.full xs = false) :
    Calls Tryz.prog 34 #[.slice a (m + 32 : Nat) c] w (Rd xs w) := by
  have hmf : ∀ (fn : Fn) (first cap : Array Value) (w : World), (Instr.makeFunc fn first cap).run Tryz.prog w = .ok (.func fn first cap) w := fun _ _ _ _ => rfl
  have HXa := Lib.hid (hx.alloc (.cells #[.int .i64 0, .int .u32 0, .int .u64 0, .int .u64 0] 63))
  have hb0 : 64 ≤ m ∧ m ≤ 512 := by unfold Tg.Fits at hf; omega
  obtain ⟨hb1, hb2⟩ := hb0
  have HF := Lib.hid hf
  have HL := Lib.hid hx.len
  have hcut := cutB_from a (m + 32) c m (by omega)
  rw [show m + 32 - m = 32 by omega] at hcut
  have hld : (xs.drop m).length = 32 := by rw [List.length_drop, hx.len]; omega
  have hxd := hx.drop (l := m) (by omega) hc
  rw [show m + 32 - m = 32 by omega] at hxd
  have hto := cutB_to a (m + 32) c (m + 24) (by omega)
  rw [show ((m + 24 : Nat) : Int) = (m : Int) + 24 by omega] at hto
  have HTO := Lib.hid hto
  have HX := Lib.hid hx
  have hrb := Tg.raw_bounds (xs.drop m)
  obtain ⟨d, hd⟩ : ∃ d, d = xs.drop m := ⟨_, rfl⟩
  rw [← hd] at hld hxd hrb
  have HD := Lib.hid hd
  have HLD := Lib.hid hld
  have HXD := Lib.hid hxd
  have HRB := Lib.hid hrb
  have HFL := Lib.hid hfull
  clear hf hx hto hxd hld hrb hd hfull
  go_enter Tryz.func34, Tryz.ntmps34
  go_wp2_with fail
  refine (fits_yes m HF.out _).mono ?_
  rintro e w_ ⟨rfl, rfl⟩
  go_wp2_with fail
  refine (erased_calls a _ c xs _ HXa.out).mono ?_
  rintro e w_ ⟨rfl, rfl⟩
  rw [HFL.out]
  obtain ⟨w2, hw2⟩ : ∃ w2, w2 = (w.alloc (.cells #[.int .i64 0, .int .u32 0, .int .u64 0, .int .u64 0] 63)).alloc (.cells #[.slice (cutA a c m) 32 (c - m : Nat)] 22) := ⟨_, rfl⟩
  have hb2' : Below w.heap.size w w2 := by rw [hw2]; exact ((Below.refl _ _).alloc (Nat.le_refl _) _).alloc (by simp) _
  have hz2 : w2.heap.size = w.heap.size + 2 := by rw [hw2]; simp
  have bg2 : Blk w2 w.heap.size 63 #[.int .i64 0, .int .u32 0, .int .u64 0, .int .u64 0] := by rw [hw2]; exact (Blk.new w _ _).alloc _
  have br2 : Blk w2 (w.heap.size + 1) 22 #[.slice (cutA a c m) 32 (c - m : Nat)] := by
    have h := Blk.new (w.alloc (.cells #[.int .i64 0, .int .u32 0, .int .u64 0, .int .u64 0] 63)) 22 #[.slice (cutA a c m) 32 (c - m : Nat)]
    rw [show (w.alloc (.cells #[.int .i64 0, .int .u32 0, .int .u64 0, .int .u64 0] 63)).heap.size = w.heap.size + 1 by simp] at h
    rw [hw2]; exact h
  have hx2 : Bytes w2 w.heap.size (cutA a c m) 32 (d.drop 0) := by rw [List.drop_zero]; exact HXD.out.below hb2'
  go_wp2_with fail
  rw [← hw2]
  clear hw2 hmf hcut
  refine (ttake_next (w.heap.size + 1) w.heap.size (cutA a c m) 32 (c - m) d 2 30 0 2 w2 br2 hx2 (by omega) (by omega) rfl rfl (by omega)).mono ?_
  rintro _ w3 ⟨rfl, ht⟩
  obtain ⟨⟨a3, c3, br3, hx3, hc3⟩, far3, hz3, bel3⟩ := ht
  have bg3 := far3 (by omega) bg2
  have hb3 := hb2'.trans (bel3 (by omega))
  clear far3 bel3 br2 hx2 hb2' bg2
  have nM := Tg.num_lt (d := d) (i := 0) (k := 2)
  generalize hM : Tg.num d 0 2 = M at *
  have HM := Lib.hid hM
  have HNM := Lib.hid nM
  clear hM nM
  go_wp2_with fail
  refine (ttake_next (w.heap.size + 1) w.heap.size a3 30 c3 d 1 29 2 3 w3 br3 hx3 hc3 (by omega) rfl rfl (by omega)).mono ?_
  rintro _ w4 ⟨rfl, ht⟩
  obtain ⟨⟨a4, c4, br4, hx4, hc4⟩, far4, hz4, bel4⟩ := ht
  have bg4 := far4 (by omega) bg3
  have hb4 := hb3.trans (bel4 (by omega))
  clear far4 bel4 br3 hx3 hb3 bg3
  have nK : Tg.num d 2 1 < 256 := Tg.num_lt (d := d) (i := 2) (k := 1)
  generalize hK : Tg.num d 2 1 = K at *
  have HK := Lib.hid hK
  clear hK
  go_wp2_with fail
  refine (ttake_next (w.heap.size + 1) w.heap.size a4 29 c4 d 1 28 3 4 w4 br4 hx4 hc4 (by omega) rfl rfl (by omega)).mono ?_
  rintro _ w5 ⟨rfl, ht⟩
  obtain ⟨⟨a5, c5, br5, hx5, hc5⟩, far5, hz5, bel5⟩ := ht
  have bg5 := far5 (by omega) bg4
  have hb5 := hb4.trans (bel5 (by omega))
  clear far5 bel5 br4 hx4 hb4 bg4
  generalize hG : Tg.num d 3 1 = G at *
  have HG := Lib.hid hG
  clear hG
  go_wp2_with fail
  refine (ttake_next (w.heap.size + 1) w.heap.size a5 28 c5 d 4 24 4 8 w5 br5 hx5 hc5 (by omega) rfl rfl (by omega)).mono ?_
  rintro _ w6 ⟨rfl, ht⟩
  obtain ⟨⟨a6, c6, br6, hx6, hc6⟩, far6, hz6, bel6⟩ := ht
  have bg6 := far6 (by omega) bg5
  have hb6 := hb5.trans (bel6 (by omega))
  clear far6 bel6 br5 hx5 hb5 bg5
  have nP : Tg.num d 4 4 < 4294967296 := Tg.num_lt (d := d) (i := 4) (k := 4)
  generalize hP : Tg.num d 4 4 = P at *
  have HP := Lib.hid hP
  clear hP
  obtain ⟨w7, hw7⟩ : ∃ w7, w7 = w6.alloc (.cells #[.int .i64 K, .int .u32 P, .int .u64 0, .int .u64 0] 63) := ⟨_, rfl⟩
  have bel7 : Below w6.heap.size w6 w7 := by rw [hw7]; exact (Below.refl _ _).alloc (Nat.le_refl _) _
  have bg7 := bg6.belowHere bel7
  have br7 := br6.belowHere bel7
  have hx7 := hx6.below (bel7.mono (by omega))
  have hb7 := hb6.trans (bel7.mono (by omega))
  have hz7 : w7.heap.size = w.heap.size + 3 := by rw [hw7]; simp; omega
  have bi7 : Blk w7 w6.heap.size 63 #[.int .i64 K, .int .u32 P, .int .u64 0, .int .u64 0] := by rw [hw7]; exact Blk.new _ _ _
  rw [show w6.heap.size = w.heap.size + 2 by omega] at bi7
  have HZ6 := Lib.hid (show w6.heap.size = w.heap.size + 2 by omega)
  clear bg6 br6 hx6 hb6 bel7
  go_wp2_with fail
  rw [← hw7]
  clear hw7
  refine (ttake_next (w.heap.size + 1) w.heap.size a6 24 c6 d 8 16 8 16 w7 br7 hx7 (by omega) (by omega) rfl rfl (by omega)).mono ?_
  rintro _ w8 ⟨rfl, ht⟩
  obtain ⟨⟨a8, c8, br8, hx8, hc8⟩, far8, hz8, bel8⟩ := ht
  have bg8 := far8 (by omega) bg7
  have bi8 := far8 (by omega) bi7
  have hb8 := hb7.trans (bel8 (by omega))
  clear far8 bel8 br7 hx7 hb7 bg7 bi7
  have nS : Tg.num d 8 8 < 18446744073709551616 := Tg.num_lt (d := d) (i := 8) (k := 8)
  generalize hS : Tg.num d 8 8 = S at *
  have HS := Lib.hid hS
  have HNS := Lib.hid nS
  clear hS nS
  go_wp2_with fail
  refine (ttake_next (w.heap.size + 1) w.heap.size a8 16 c8 d 8 8 16 24 w8 br8 hx8 (by omega) (by omega) rfl rfl (by omega)).mono ?_
  rintro _ w9 ⟨rfl, ht⟩
  obtain ⟨⟨a9, c9, br9, hx9, hc9⟩, far9, hz9, bel9⟩ := ht
  have bg9 := far9 (by omega) bg8
  have bi9 := far9 (by omega) bi8
  have hb9 := hb8.trans (bel9 (by omega))
  clear far9 bel9 br8 hx8 hb8 bg8 bi8
  have nE : Tg.num d 16 8 < 18446744073709551616 := Tg.num_lt (d := d) (i := 16) (k := 8)
  generalize hE : Tg.num d 16 8 = E at *
  have HE := Lib.hid hE
  have HNE := Lib.hid nE
  clear hE nE
  have i2 := bi9.cellv (i := 2) rfl
  have i3 := bi9.cellv (i := 3) rfl
  have f2 := bi9.frozen 2
  have f3 := bi9.frozen 3
  have bi10 : Blk ((w9.setCell ⟨w.heap.size + 2, 2, none⟩ (.int .u64 S)).setCell ⟨w.heap.size + 2, 3, none⟩ (.int .u64 E)) (w.heap.size + 2) 63 #[.int .i64 K, .int .u32 P, .int .u64 S, .int .u64 E] := (bi9.set 2 _).set 3 _
  have bg10 := (bg9.far (p := ⟨w.heap.size + 2, 2, none⟩) (by simp) (.int .u64 S)).far (p := ⟨w.heap.size + 2, 3, none⟩) (by simp) (.int .u64 E)
  have br10 := (br9.far (p := ⟨w.heap.size + 2, 2, none⟩) (by simp) (.int .u64 S)).far (p := ⟨w.heap.size + 2, 3, none⟩) (by simp) (.int .u64 E)
  have hb10 := (hb9.setCell (p := ⟨w.heap.size + 2, 2, none⟩) (by simp) (.int .u64 S)).setCell (p := ⟨w.heap.size + 2, 3, none⟩) (by simp) (.int .u64 E)
  have hx10 := hx9.below (((Below.refl w.heap.size w9).setCell (p := ⟨w.heap.size + 2, 2, none⟩) (by simp) (.int .u64 S)).setCell (p := ⟨w.heap.size + 2, 3, none⟩) (by simp) (.int .u64 E))
  have HI10 := Lib.hid bi10
  have HG10 := Lib.hid bg10
  have HR10 := Lib.hid br10
  have HB10 := Lib.hid hb10
  have HX10 := Lib.hid hx10
  have HZ10 := Lib.hid (show ((w9.setCell ⟨w.heap.size + 2, 2, none⟩ (.int .u64 S)).setCell ⟨w.heap.size + 2, 3, none⟩ (.int .u64 E)).heap.size = w.heap.size + 3 by simp; omega)
  clear bi10 bg10 br10 hb10 hx10 bi9 bg9 br9 hb9 hx9
  go_wp2_with fail
  clear i2 i3 f2 f3
  refine (ttake_next (w.heap.size + 1) w.heap.size a9 8 c9 d 4 4 24 28 _ HR10.out HX10.out (by omega) (by omega) rfl rfl (by omega)).mono ?_
  rintro _ w11 ⟨rfl, ht⟩
  obtain ⟨⟨a11, c11, br11, hx11, hc11⟩, far11, hz11, bel11⟩ := ht
  have bg11 := far11 (by omega) HG10.out
  have bi11 := far11 (by omega) HI10.out
  have hb11 := HB10.out.trans (bel11 (by omega))
  rw [HZ10.out] at hz11
  clear far11 bel11 HG10 HI10 HR10 HX10 HB10 HZ10
  have nU : Tg.num d 24 4 < 4294967296 := Tg.num_lt (d := d) (i := 24) (k := 4)
  generalize hU : Tg.num d 24 4 = U at *
  have HU := Lib.hid hU
  clear hU
  go_wp2_with fail
  refine (ttake_next (w.heap.size + 1) w.heap.size a11 4 c11 d 4 0 28 32 w11 br11 hx11 (by omega) (by omega) rfl rfl (by omega)).mono ?_
  rintro _ w12 ⟨rfl, ht⟩
  obtain ⟨⟨a12, c12, br12, hx12, hc12⟩, far12, hz12, bel12⟩ := ht
  have bg12 := far12 (by omega) bg11
  have bi12 := far12 (by omega) bi11
  have hb12 := hb11.trans (bel12 (by omega))
  rw [hz11] at hz12
  have HBG := Lib.hid bg12
  have HBI := Lib.hid bi12
  have HB12 := Lib.hid hb12
  have HZ12 := Lib.hid hz12
  clear far12 bel12 br11 hx11 hb11 bg11 bi11 br12 hx12 bg12 bi12 hb12 hz11 hz12 hz8 hz9 hz7 hz6 hz5 hz4 hz3 hz2 HZ6
  generalize hN : Tg.num d 28 4 = N at *
  have HN := Lib.hid hN
  clear hN
  have HT := Lib.hid (fun (hg : ¬ Tg.Good (xs.take m) d) => rd_torn HL.out HF.out HFL.out (show ¬ Tg.Good (xs.take m) (xs.drop m) by rw [← HD.out]; exact hg))
  have HRW := Lib.hid (show Tg.raw d = ⟨(K : Nat), P, S, E⟩ by simp only [Tg.raw, HK.out, HP.out, HS.out, HE.out])
  by_cases c1 : M = 21827
  case neg =>
    have hg := Lib.hid (show ¬ Tg.Good (xs.take m) d from fun h => c1 (by rw [← HM.out]; exact h.1))
    have t1 : ((M : Int) != 21827) = true := by rw [bne_iff_ne]; omega
    clear c1
    go_wp2_with (refine wpList_store_blk rfl rfl _ _ _ rfl w.heap.size #[.int .i64 0, .int .u32 0, .int .u64 0, .int .u64 0] rfl rfl 63 #[.int .i64 0, .int .u32 0, .int .u64 0, .int .u64 0] HBG.out rfl tagInfo (tagOne 0 0 0 0) ?_)
    have q := HBG.out.row #[.int .i64 0, .int .u32 0, .int .u64 0, .int .u64 0]
    have z0 := q.cellv (i := 0) rfl
    have z1 := q.cellv (i := 1) rfl
    have z2 := q.cellv (i := 2) rfl
    have z3 := q.cellv (i := 3) rfl
    refine bodyPost_ret (v := .tuple #[.agg #[.int .i64 0, .int .u32 0, .int .u64 0, .int .u64 0], .slice none 0 0, .int .i64 21]) (by simp [results, Tryz.results34, go_sem, z0, z1, z2, z3]) rfl (rd_none (HT.out hg.out) rfl (HB12.out.setRow_ (Nat.le_refl _) _))
  subst c1
  by_cases c2 : G = 0
  case neg =>
    have hg := Lib.hid (show ¬ Tg.Good (xs.take m) d from fun h => c2 (by rw [← HG.out]; exact h.2.1))
    have t1 : ((G : Int) != 0) = true := by rw [bne_iff_ne]; omega
    clear c2
    go_wp2_with (refine wpList_store_blk rfl rfl _ _ _ rfl w.heap.size #[.int .i64 0, .int .u32 0, .int .u64 0, .int .u64 0] rfl rfl 63 #[.int .i64 0, .int .u32 0, .int .u64 0, .int .u64 0] HBG.out rfl tagInfo (tagOne 0 0 0 0) ?_)
    have q := HBG.out.row #[.int .i64 0, .int .u32 0, .int .u64 0, .int .u64 0]
    have z0 := q.cellv (i := 0) rfl
    have z1 := q.cellv (i := 1) rfl
    have z2 := q.cellv (i := 2) rfl
    have z3 := q.cellv (i := 3) rfl
    refine bodyPost_ret (v := .tuple #[.agg #[.int .i64 0, .int .u32 0, .int .u64 0, .int .u64 0], .slice none 0 0, .int .i64 21]) (by simp [results, Tryz.results34, go_sem, z0, z1, z2, z3]) rfl (rd_none (HT.out hg.out) rfl (HB12.out.setRow_ (Nat.le_refl _) _))
  subst c2
  by_cases c3 : N = 0
  case neg =>
    have hg := Lib.hid (show ¬ Tg.Good (xs.take m) d from fun h => c3 (by rw [← HN.out]; exact h.2.2.1))
    have t1 : ((N : Int) != 0) = true := by rw [bne_iff_ne]; omega
    clear c3
    go_wp2_with (refine wpList_store_blk rfl rfl _ _ _ rfl w.heap.size #[.int .i64 0, .int .u32 0, .int .u64 0, .int .u64 0] rfl rfl 63 #[.int .i64 0, .int .u32 0, .int .u64 0, .int .u64 0] HBG.out rfl tagInfo (tagOne 0 0 0 0) ?_)
    have q := HBG.out.row #[.int .i64 0, .int .u32 0, .int .u64 0, .int .u64 0]
    have z0 := q.cellv (i := 0) rfl
    have z1 := q.cellv (i := 1) rfl
    have z2 := q.cellv (i := 2) rfl
    have z3 := q.cellv (i := 3) rfl
    refine bodyPost_ret (v := .tuple #[.agg #[.int .i64 0, .int .u32 0, .int .u64 0, .int .u64 0], .slice none 0 0, .int .i64 21]) (by simp [results, Tryz.results34, go_sem, z0, z1, z2, z3]) rfl (rd_none (HT.out hg.out) rfl (HB12.out.setRow_ (Nat.le_refl _) _))
  subst c3
  have y0 := HBI.out.cellv (i := 0) rfl
  have y1 := HBI.out.cellv (i := 1) rfl
  have y2 := HBI.out.cellv (i := 2) rfl
  have y3 := HBI.out.cellv (i := 3) rfl
  by_cases c4 : Tg.Right ⟨(K : Nat), P, S, E⟩
  case neg =>
    have hg := Lib.hid (show ¬ Tg.Good (xs.take m) d from fun h => c4 (by rw [← HRW.out]; exact h.2.2.2.1))
    have hb := Lib.hid (Tg.rightB_no c4)
    clear c4
    go_wp2_with fail
    refine (tagRight_calls ⟨(K : Nat), P, S, E⟩ nP HNS.out HNE.out _).mono ?_
    rw [hb.out]
    rintro _ w13 ⟨rfl, hbb⟩
    have HBG3 := Lib.hid (HBG.out.belowHere hbb)
    have HB13 := Lib.hid (HB12.out.trans (hbb.mono HB12.out.size))
    clear hbb y0 y1 y2 y3
    go_wp2_with (refine wpList_store_blk rfl rfl _ _ _ rfl w.heap.size #[.int .i64 0, .int .u32 0, .int .u64 0, .int .u64 0] rfl rfl 63 #[.int .i64 0, .int .u32 0, .int .u64 0, .int .u64 0] HBG3.out rfl tagInfo (tagOne 0 0 0 0) ?_)
    have q := HBG3.out.row #[.int .i64 0, .int .u32 0, .int .u64 0, .int .u64 0]
    have z0 := q.cellv (i := 0) rfl
    have z1 := q.cellv (i := 1) rfl
    have z2 := q.cellv (i := 2) rfl
    have z3 := q.cellv (i := 3) rfl
    refine bodyPost_ret (v := .tuple #[.agg #[.int .i64 0, .int .u32 0, .int .u64 0, .int .u64 0], .slice none 0 0, .int .i64 21]) (by simp [results, Tryz.results34, go_sem, z0, z1, z2, z3]) rfl (rd_none (HT.out hg.out) rfl (HB13.out.setRow_ (Nat.le_refl _) _))
  have hb := Lib.hid (Tg.rightB_yes c4)
  have HC4 := Lib.hid c4
  clear c4
  go_wp2_with fail
  refine (tagRight_calls ⟨(K : Nat), P, S, E⟩ nP HNS.out HNE.out _).mono ?_
  rw [hb.out]
  rintro _ w13 ⟨rfl, hbb⟩
  have HBG3 := Lib.hid (HBG.out.belowHere hbb)
  have HBI3 := Lib.hid (HBI.out.belowHere hbb)
  have HB13 := Lib.hid (HB12.out.trans (hbb.mono HB12.out.size))
  have HX13 := Lib.hid ((HX.out.below HB13.out).mono HB13.out.size)
  clear hbb y0 y1 y2 y3
  have HX24 := Lib.hid (HX13.out.take (k := m + 24) (by omega))
  have hto := HTO.out
  go_wp2_with fail
  clear hto
  refine (sum_calls a (m + 24) c (xs.take (m + 24)) _ HX24.out).mono ?_
  rintro _ w14 ⟨rfl, rfl⟩
  have hsum := (Crc.sum (xs.take (m + 24))).isLt
  have HSM := Lib.hid (show (Crc.sum (xs.take (m + 24))).toNat = (Crc.sum (xs.take m ++ d.take 24)).toNat by rw [List.take_add, HD.out])
  generalize (Crc.sum (xs.take (m + 24))).toNat = V at *
  by_cases c5 : U = V
  case neg =>
    have hg := Lib.hid (show ¬ Tg.Good (xs.take m) d from fun h => c5 (by rw [← HU.out, HSM.out]; exact h.2.2.2.2))
    have t1 : ((U : Int) != (V : Int)) = true := by rw [bne_iff_ne]; omega
    clear c5
    go_wp2_with (refine wpList_store_blk rfl rfl _ _ _ rfl w.heap.size #[.int .i64 0, .int .u32 0, .int .u64 0, .int .u64 0] rfl rfl 63 #[.int .i64 0, .int .u32 0, .int .u64 0, .int .u64 0] HBG3.out rfl tagInfo (tagOne 0 0 0 0) ?_)
    have q := HBG3.out.row #[.int .i64 0, .int .u32 0, .int .u64 0, .int .u64 0]
    have z0 := q.cellv (i := 0) rfl
    have z1 := q.cellv (i := 1) rfl
    have z2 := q.cellv (i := 2) rfl
    have z3 := q.cellv (i := 3) rfl
    refine bodyPost_ret (v := .tuple #[.agg #[.int .i64 0, .int .u32 0, .int .u64 0, .int .u64 0], .slice none 0 0, .int .i64 21]) (by simp [results, Tryz.results34, go_sem, z0, z1, z2, z3]) rfl (rd_none (HT.out hg.out) rfl (HB13.out.setRow_ (Nat.le_refl _) _))
  subst c5
  have hgood : Tg.Good (xs.take m) d := ⟨HM.out, HG.out, HN.out, by rw [HRW.out]; exact HC4.out, by rw [HU.out]; exact HSM.out⟩
  have HRd := Lib.hid (rd_good HL.out HF.out HFL.out (show Tg.Good (xs.take m) (xs.drop m) by rw [← HD.out]; exact hgood))
  have hto := cutB_to a (m + 32) c m (by omega)
  have t1 : ((U : Int) != (U : Int)) = false := by rw [bne_eq_false_iff_eq]
  clear hgood
  have HXm := Lib.hid (HX13.out.take (k := m) (by omega))
  have y0 := HBI3.out.cellv (i := 0) rfl
  have y1 := HBI3.out.cellv (i := 1) rfl
  have y2 := HBI3.out.cellv (i := 2) rfl
  have y3 := HBI3.out.cellv (i := 3) rfl
  have HZ13 := Lib.hid (show w.heap.size + 3 ≤ w13.heap.size by have h1 := HB13.out.size; have h2 := HBI3.out.lt; omega)
  clear hb HT
  go_wp2_with fail
  go_region_held3 (fun W' => W'.cell? ⟨w.heap.size + 2, 0, none⟩ = some (.int .i64 K) ∧ W'.cell? ⟨w.heap.size + 2, 1, none⟩ = some (.int .u32 P) ∧ W'.cell? ⟨w.heap.size + 2, 2, none⟩ = some (.int .u64 S) ∧ W'.cell? ⟨w.heap.size + 2, 3, none⟩ = some (.int .u64 E)) (first | exact ⟨y0, y1, y2, y3⟩ | exact ⟨x0, x1, x2, x3⟩ | go_keep)
    ((refine step_appB rfl _ _ rfl w13.heap.size _ [] rfl (Own.nil _ _) _ a m c (xs.take m) rfl HXm.out (by simp; omega) (Nat.le_refl _) ?_; intro v15 w15 HO15 hb15; have HBG5 := Lib.hid (Blk.below (w := w13.drew) HBG3.out.drew hb15.out HBG3.out.lt); have HBI5 := Lib.hid (Blk.below (w := w13.drew) HBI3.out.drew hb15.out HBI3.out.lt); have x0 := HBI5.out.cellv (i := 0) rfl; have x1 := HBI5.out.cellv (i := 1) rfl; have x2 := HBI5.out.cellv (i := 2) rfl; have x3 := HBI5.out.cellv (i := 3) rfl; have z0 := HBG5.out.cellv (i := 0) rfl; have z1 := HBG5.out.cellv (i := 1) rfl; have z2 := HBG5.out.cellv (i := 2) rfl; have z3 := HBG5.out.cellv (i := 3) rfl; have f0 := HBG5.out.frozen 0; have f1 := HBG5.out.frozen 1; have f2 := HBG5.out.frozen 2; have f3 := HBG5.out.frozen 3))
  have hfar : v15.ownBlock ≠ some w.heap.size := fun e => by
    have h1 := (HO15.out.blockLt _ e).1
    have h2 := HZ13.out
    omega
  have HOf := Lib.hid ((((HO15.out.far (p := ⟨w.heap.size, 0, none⟩) hfar (.int .i64 K)).far (p := ⟨w.heap.size, 1, none⟩) hfar (.int .u32 P)).far (p := ⟨w.heap.size, 2, none⟩) hfar (.int .u64 S)).far (p := ⟨w.heap.size, 3, none⟩) hfar (.int .u64 E))
  have HBf := Lib.hid ((((HBG5.out.set 0 (.int .i64 K)).set 1 (.int .u32 P)).set 2 (.int .u64 S)).set 3 (.int .u64 E))
  have HBB := Lib.hid ((((((HB13.out.drew).trans (hb15.out.mono HB13.out.size)).setCell (p := ⟨w.heap.size, 0, none⟩) (Nat.le_refl _) (.int .i64 K)).setCell (p := ⟨w.heap.size, 1, none⟩) (Nat.le_refl _) (.int .u32 P)).setCell (p := ⟨w.heap.size, 2, none⟩) (Nat.le_refl _) (.int .u64 S)).setCell (p := ⟨w.heap.size, 3, none⟩) (Nat.le_refl _) (.int .u64 E))
  obtain ⟨a15, c15, rfl, hc15⟩ := HO15.out.formN (n := m) (by rw [List.nil_append]; exact HXm.out.len)
  clear x0 x1 x2 x3 y0 y1 y2 y3 z0 z1 z2 z3 f0 f1 f2 f3 hfar
  generalize ((((w15.setCell ⟨w.heap.size, 0, none⟩ (.int .i64 K)).setCell ⟨w.heap.size, 1, none⟩ (.int .u32 P)).setCell ⟨w.heap.size, 2, none⟩ (.int .u64 S)).setCell ⟨w.heap.size, 3, none⟩ (.int .u64 E)) = wf at *
  have z0 := HBf.out.cellv (i := 0) rfl
  have z1 := HBf.out.cellv (i := 1) rfl
  have z2 := HBf.out.cellv (i := 2) rfl
  have z3 := HBf.out.cellv (i := 3) rfl
  go_wp2
  refine bodyPost_ret (v := .tuple #[.agg #[.int .i64 K, .int .u32 P, .int .u64 S, .int .u64 E], .slice a15 m c15, .int .i64 0]) (by simp [results, Tryz.results34, go_sem, z0, z1, z2, z3]) rfl ⟨a15, m, c15, ?_, ?_, hc15, HBB.out⟩
  · rw [HRd.out.1, HRd.out.2.2, ← HD.out, HRW.out]
  · rw [HRd.out.2.1]
    have h := HOf.out.arr (by rw [List.nil_append, HXm.out.len]; omega)
    rw [List.nil_append] at h
    exact h
theorem tread_calls (a : Option Addr) (n c : Nat) (xs : List UInt8) (w : World) (hx : Bytes w w.heap.size a n xs) (hnc : n ≤ c) :
    Calls Tryz.prog 34 #[.slice a n c] w (Rd xs w) := by
  by_cases h : n < 32 ∨ ¬ Tg.Fits (n - 32)
  · exact tread_wrong a n c xs w hx h
  · obtain ⟨m, rfl⟩ : ∃ m, n = m + 32 := ⟨n - 32, by omega⟩
    rw [Nat.add_sub_cancel] at h
    have hf : Tg.Fits m := Decidable.byContradiction fun g => h (.inr g)
    cases hfull : Tg.full xs
    · exact tread_body a m c xs w hx hnc hf hfull
    · exact tread_full a m c xs w hx hf hfull
end Go.Proofs.YtiipnpfaaghekaaGreat
namespace Go.Proofs.YtiipnpfaaghekaaGreat
open Go.RowKit Ftl

theorem tagCells : Tryz.prog.cellsOf 63 = 4 := by kernel_rfl
section
variable {NB B n : Nat} {R : Nat → Prop} {w : World} {f : Fm}
namespace Ftl
theorem curE_mem {p : Nat} {x : En} (h : curE f p = some x) : x ∈ f.se ++ f.no := by
  unfold curE at h
  cases hn : getE f.no p with
  | some e =>
    rw [hn] at h
    obtain rfl : e = x := Option.some.inj h
    exact List.mem_append_right _ (getE_mem hn).1
  | none =>
    rw [hn] at h
    simp only at h
    split at h
    · cases h
    · exact List.mem_append_left _ (getE_mem h).1
end Ftl
/-- What Read leaves. -/
def Rdp (NB B : Nat) (R : Nat → Prop) (f : Fm) (d : List UInt8) (w : World) (e : Ending) (w' : World) : Prop :=
  (∃ a c, e = .returned (.tuple #[.slice a 64 c, .int .i64 0]) ∧ 64 ≤ c ∧ Bytes w' w'.heap.size a 64 d) ∧ FtM NB B R w' f ∧ Kq R w w'
set_option maxRecDepth 100000 in
set_option maxHeartbeats 8000000 in
theorem ftRead_calls (h : FtM NB B R w f) (hc : Fc NB f) (p : Nat) (hp1 : 1 ≤ p) (hp2 : p + 2 < (NB - 3) * 8) (hp3 : p < 8192) (x : En) (hx : curE f p = some x) :
    Calls Tryz.prog 10 #[.pointer (some ⟨f.F, 0, none⟩), .int .u32 (p : Int)] w (Rdp NB B R f x.d w) := by
  have hnb := hc.fi.nb
  have hlg := flogical_calls h hc.fi p (by omega)
  rw [if_neg (by omega)] at hlg
  have HLg := Lib.hid hlg
  have HH := Lib.hid h
  have HAt := Lib.hid (fun (W : World) (hW : FtM NB B R W f) => fat_calls hW p (by omega))
  rw [hx] at HAt
  have hm := curE_mem hx
  have hgp := hc.fi.pg x hm
  have hok := hc.fi.ok x hm
  have hxb := hc.fi.lt hm
  have hchl : chL ((f.g.bl x.b).pgs x.i) = Tg.page x.t x.d := by rw [hgp.pg]; rfl
  have hrd := fun (W : World) (hW : FtM NB B R W f) => fRead_calls hW hxb hgp.i8
  unfold Rdd at hrd
  rw [hchl] at hrd
  have HRd := Lib.hid hrd
  have HTr := Lib.hid (Tg.read_page hok.rt (pay := x.d) (by rw [hok.len]; decide))
  have HLen := Lib.hid hok.plen
  have HDl := Lib.hid hok.len
  have hcs := placeCells
  have hct := tagCells
  clear h hc hlg hx hm hgp hok hxb hchl hrd hnb hp1 hp2 hp3
  obtain ⟨xb, hxb⟩ : ∃ b, b = x.b := ⟨_, rfl⟩
  obtain ⟨xi, hxi⟩ : ∃ i, i = x.i := ⟨_, rfl⟩
  have hpl : plO (some x) = .agg #[.int .i64 (xb : Int), .int .i64 (xi : Int)] := by rw [hxb, hxi]; rfl
  rw [← hxb, ← hxi] at HRd
  clear hxb hxi
  have HPl := Lib.hid hpl
  clear hpl
  go_enter Tryz.func10, Tryz.ntmps10
  go_wp2_with fail
  refine HLg.out.mono ?_
  rintro e w1 ⟨rfl, hb1⟩
  have H1 := Lib.hid (HH.out.on hb1)
  have HB1 := Lib.hid hb1
  clear hb1
  go_wp2_with fail
  refine (HAt.out w1 H1.out).mono ?_
  rintro e w2 ⟨rfl, hb2⟩
  rw [HPl.out, show (some x).isSome = true from rfl]
  have hb3 := (HB1.out.then_ hb2).alloc (Nat.le_trans HB1.out.size hb2.size) (.cells #[.int .i64 (xb : Int), .int .i64 (xi : Int)] 52)
  have H2 := Lib.hid (HH.out.on hb3)
  have HB2 := Lib.hid hb3
  have HZ := Lib.hid (Blk.new w2 52 #[.int .i64 (xb : Int), .int .i64 (xi : Int)])
  have HZn := Lib.hid (show ¬ R w2.heap.size from (H1.out.on hb2).not_new (Nat.le_refl _))
  clear hb2 hb3
  go_upto_region 7 with fail
  generalize w2.alloc (.cells #[.int .i64 (xb : Int), .int .i64 (xi : Int)] 52) = w3 at *
  generalize w2.heap.size = Z at *
  have HS0 := Lib.hid (show w3.drew.cell? ⟨f.F, 0, none⟩ = some (.pointer (some ⟨f.g.C, 0, none⟩)) ∧ Blk w3.drew Z 52 #[.int .i64 (xb : Int), .int .i64 (xi : Int)] from ⟨(H2.out.on (below_drew w3)).c0, HZ.out.belowHere (below_drew w3)⟩)
  have H3 := Lib.hid (H2.out.on (below_drew w3))
  have HB3 := Lib.hid (HB2.out.then_ (below_drew w3))
  refine wp_region_noPanic ?_
  refine wp_region_held_drew (S := (fun W' => W'.cell? ⟨f.F, 0, none⟩ = some (.pointer (some ⟨f.g.C, 0, none⟩)) ∧ Blk W' Z 52 #[.int .i64 (xb : Int), .int .i64 (xi : Int)])) (by kernel_rfl) HS0.out (fun hS0 => ?_)
  generalize w3.drew = W at *
  clear HS0
  refine takeV 0 (v := (.pointer (some ⟨f.F, 0, none⟩))) rfl (by kernel_rfl) (by kernel_rfl) (by kernel_rfl) (fun _ _ _ h => h) (by rfl) (fun _ _ => rfl) (by assumption) ?_
  try simp only [layR]
  refine takeV 1 (v := (.pointer (some ⟨f.F, 0, none⟩))) rfl (by kernel_rfl) (by kernel_rfl) (by kernel_rfl) (fun _ _ _ h => h) (by rfl) (fun W hSw => ?_) (by assumption) ?_
  · skip
    go_simp
  try simp only [layR]
  refine takeV 2 (v := (.pointer (some ⟨f.F, 0, none⟩))) rfl (by kernel_rfl) (by kernel_rfl) (by kernel_rfl) (fun _ _ _ h => h) (by rfl) (fun W hSw => ?_) (by assumption) ?_
  · skip
    go_simp
  try simp only [layR]
  refine takeV 3 (v := (.pointer (some ⟨f.g.C, 0, none⟩))) rfl (by kernel_rfl) (by kernel_rfl) (by kernel_rfl) (fun _ _ _ h => h) (by rfl) (fun W hSw => ?_) (by assumption) ?_
  · obtain ⟨y8, _⟩ := hSw
    go_simp
  try simp only [layR]
  refine takeV 4 (v := (.pointer (some ⟨Z, 0, none⟩))) rfl (by kernel_rfl) (by kernel_rfl) (by kernel_rfl) (fun _ _ _ h => h) (by rfl) (fun W hSw => ?_) (by assumption) ?_
  · skip
    go_simp
  try simp only [layR]
  refine takeV 5 (v := (.int .i64 (xb : Int))) rfl (by kernel_rfl) (by kernel_rfl) (by kernel_rfl) (fun _ _ _ h => h) (by rfl) (fun W hSw => ?_) (by assumption) ?_
  · have y9 := hSw.2.cellv (i := 0) rfl
    go_simp
  try simp only [layR]
  refine takeV 6 (v := (.pointer (some ⟨Z, 1, none⟩))) rfl (by kernel_rfl) (by kernel_rfl) (by kernel_rfl) (fun _ _ _ h => h) (by rfl) (fun W hSw => ?_) (by assumption) ?_
  · skip
    go_simp
  try simp only [layR]
  refine takeV 7 (v := (.int .i64 (xi : Int))) rfl (by kernel_rfl) (by kernel_rfl) (by kernel_rfl) (fun _ _ _ h => h) (by rfl) (fun W hSw => ?_) (by assumption) ?_
  · have y9 := hSw.2.cellv (i := 1) rfl
    go_simp
  try simp only [layR]
  refine wpAnyH_ready (rs := [8]) (by kernel_rfl) (by simp) ?_
  refine AllReadyH.cons rfl (fun K' hK => ?_) AllReadyH.nil
  go_simp
  refine (HRd.out W H3.out).mono ?_
  rintro e w4 ⟨⟨a4, c4, rfl, hc4, ho4⟩, hm4, hk4⟩
  have hS4 : w4.cell? ⟨f.F, 0, none⟩ = some (.pointer (some ⟨f.g.C, 0, none⟩)) ∧ Blk w4 Z 52 #[.int .i64 (xb : Int), .int .i64 (xi : Int)] := ⟨hm4.c0, hS0.2.kq hk4 HZn.out⟩
  have H4 := Lib.hid hm4
  have HK4 := Lib.hid ((Kq.of (T := R) HB3.out).trans hk4)
  have HO4 := Lib.hid ho4
  have HC4 := Lib.hid hc4
  clear hm4 hk4 ho4 hc4
  refine hK.out _ _ hS4 (fun hS5 => ?_)
  try simp only [layR]
  refine takeV 9 (v := (.tuple #[.slice a4 96 c4, .int .i64 0])) rfl (by kernel_rfl) (by kernel_rfl) (by kernel_rfl) (fun _ _ _ h => h) (by rfl) (fun W hSw => ?_) (by assumption) ?_
  · skip
    go_simp
  try simp only [layR]
  refine takeV 10 (v := (.slice a4 96 c4)) rfl (by kernel_rfl) (by kernel_rfl) (by kernel_rfl) (fun _ _ _ h => h) (by rfl) (fun W hSw => ?_) (by assumption) ?_
  · skip
    go_simp
  try simp only [layR]
  refine takeV 11 (v := (.int .i64 0)) rfl (by kernel_rfl) (by kernel_rfl) (by kernel_rfl) (fun _ _ _ h => h) (by rfl) (fun W hSw => ?_) (by assumption) ?_
  · skip
    go_simp
  try simp only [layR]
  refine takeV 12 (v := (.slice a4 96 c4)) rfl (by kernel_rfl) (by kernel_rfl) (by kernel_rfl) (fun _ _ _ h => h) (by rfl) (fun _ _ => rfl) (by assumption) ?_
  try simp only [layR]
  refine takeV 13 (v := (.int .i64 0)) rfl (by kernel_rfl) (by kernel_rfl) (by kernel_rfl) (fun _ _ _ h => h) (by rfl) (fun _ _ => rfl) (by assumption) ?_
  try simp only [layR]
  refine wpAnyH_done (by kernel_rfl) ?_ _
  refine NoPanic.normal ?_
  clear hS0 hS4 hS5
  go_wp2_with fail
  refine (tread_calls a4 96 c4 _ w4 (HO4.out.arr (by rw [HLen.out]; omega)) HC4.out).mono ?_
  rintro e w5 ⟨a5, n5, c5, rfl, hx5, hc5, hb5⟩
  rw [HTr.out.1, HTr.out.2.2]
  rw [HTr.out.2.1] at hx5
  obtain rfl : 64 = n5 := by rw [← HDl.out]; exact hx5.len
  have HX5 := Lib.hid hx5
  have HC5 := Lib.hid hc5
  have HB5 := Lib.hid hb5
  clear hx5 hc5 hb5
  have hba := (Below.refl w5.heap.size w5).alloc (Nat.le_refl _) (.cells #[.int .i64 x.t.k, .int .u32 (x.t.p : Int), .int .u64 (x.t.s : Int), .int .u64 (x.t.e : Int)] 63)
  have HX6 := Lib.hid (HX5.out.on hba)
  have HB6 := Lib.hid (HB5.out.then_ hba)
  clear hba
  unfold tagV
  go_wp2_with fail
  go_ret2
  exact ⟨⟨a5, c5, rfl, HC5.out, HX6.out⟩, H4.out.on HB6.out, HK4.out.on HB6.out⟩
end
end Go.Proofs.YtiipnpfaaghekaaGreat
/-
  One page written again and again: the state between two rounds.
-/
/-
  The law's page.
-/
/-
  A seal's payload.
-/
namespace Go.Proofs.YtiipnpfaaghekaaGreat
open Go.RowKit Ftl

theorem fmBools (u : World) : (Instr.makeSlice 57 (.int .i64 16) (.int .i64 16)).run Tryz.prog u = .ok (.slice (some ⟨u.heap.size, 0, none⟩) 16 16) (u.alloc (.cells ((List.replicate 16 false).map bolV).toArray 4)) := by
  kernel_rfl
theorem fmInts (u : World) : (Instr.makeSlice 85 (.int .i64 16) (.int .i64 16)).run Tryz.prog u = .ok (.slice (some ⟨u.heap.size, 0, none⟩) 16 16) (u.alloc (.cells ((List.replicate 16 0).map naV).toArray 3)) := by
  kernel_rfl
def truB (k : Nat) : List Bool := List.replicate k true ++ List.replicate (16 - k) false
theorem truB_set {k : Nat} (h : k < 16) : (truB k).set k true = truB (k + 1) := by
  unfold truB
  rw [List.set_append_right _ _ (by simp), List.length_replicate, Nat.sub_self, show 16 - k = (16 - (k + 1)) + 1 by omega, List.replicate_succ, List.set_cons_zero, List.replicate_succ', List.append_assoc]
  rfl
theorem truB_len {k : Nat} (h : k ≤ 16) : (truB k).length = 16 := by unfold truB; simp; omega
/-- The first k blocks were erased once. -/
def once (k : Nat) (j : Nat) : Pb := if j < k then fresh 1 else fresh 0
theorem once_upd (k : Nat) : upd (once k) k (fresh 1) = once (k + 1) := by
  funext j
  unfold upd once
  by_cases h : j = k
  · rw [if_pos h, if_pos (by omega)]
  · rw [if_neg h]
    by_cases h2 : j < k
    · rw [if_pos h2, if_pos (by omega)]
    · rw [if_neg h2, if_neg (by omega)]
theorem once_zero : once 0 = fun _ => fresh 0 := by
  funext j
  exact if_neg (Nat.not_lt_zero _)
theorem once_at (k : Nat) : (once k k).bad = false ∧ (once k k).wear = 0 := by
  unfold once
  rw [if_neg (Nat.lt_irrefl _)]
  exact ⟨rfl, rfl⟩
theorem once_bad (k j : Nat) : (once k j).bad = false := by
  unfold once
  split <;> rfl
theorem once_wear (k j : Nat) : (once k j).wear ≤ 1 := by
  unfold once
  split
  · exact Nat.le_refl 1
  · exact Nat.zero_le 1
theorem openL_once : openL (once 16) (truB 16) (List.replicate 16 0) 16 = List.replicate 16 ⟨0, 0, 1, 0⟩ := by
  apply List.ext_getElem
  · simp [openL]
  · intro i h1 h2
    have hi : i < 16 := by rw [List.length_replicate] at h2; exact h2
    simp only [openL, List.getElem_map, List.getElem_range, List.getElem_replicate]
    unfold openB once truB
    rw [if_pos hi]
    have e : (List.replicate 16 true ++ List.replicate (16 - 16) false).getD i false = true := by
      rw [List.getD_eq_getElem?_getD, List.getElem?_append_left (by rw [List.length_replicate]; exact hi), List.getElem?_replicate, if_pos hi]
      rfl
    rw [e]
    rfl
/-- A manager of blocks that were all erased once. -/
def fmG (M ML C BL cap : Nat) (ps : Nat → Nat) : Mg := ⟨M, ML, C, BL, cap, ps, once 16, List.replicate 16 ⟨0, 0, 1, 0⟩, -1, 2, 0, false⟩
theorem fmG_of {M ML C BL cap : Nat} {ps : Nat → Nat} : (⟨M, ML, C, BL, cap, ps, once 16, openL (once 16) (truB 16) (List.replicate 16 0) 16, -1, 2, 0, decide (4 < (Gc.greatest (openL (once 16) (truB 16) (List.replicate 16 0) 16) : Int) - Gc.least (openL (once 16) (truB 16) (List.replicate 16 0) 16))⟩ : Mg) = fmG M ML C BL cap ps := by
  rw [openL_once]
  rfl
theorem fmG_inv (M ML C BL cap : Nat) (ps : Nat → Nat) : Wears.Inv 16 (fmG M ML C BL cap ps) [] 100000 := by
  have hat : ∀ k, k < 16 → Gc.at_ (List.replicate 16 (⟨0, 0, 1, 0⟩ : Bk)) k = ⟨0, 0, 1, 0⟩ := fun k hk => by
    rw [Gc.at_, List.getD_eq_getElem?_getD, List.getElem?_replicate, if_pos hk]
    rfl
  refine ⟨by simp [fmG], fun k hk => ?_, fun i j hi hj => ?_, .inl rfl, rfl, by simp, by simp⟩
  · unfold fmG
    dsimp only
    rw [hat k hk]
    unfold once
    rw [if_pos hk]
    exact ⟨by decide, rfl, by decide, by decide, fun e => (by cases e), fun _ => ⟨rfl, rfl⟩, fun e => (by cases e), fun e => (by cases e), rfl, by decide, rfl, rfl⟩
  · unfold fmG
    dsimp only
    rw [hat i hi, hat j hj]
    omega
/-- A new translation, before its first seal. -/
def fm0 (F SE NO GO LA : Nat) (g : Mg) : Fm := ⟨F, SE, NO, GO, LA, g, [], [], [], 1, 1, .slice none 0 0, [], false⟩
theorem fm0_fc (F SE NO GO LA M ML C BL cap : Nat) (ps : Nat → Nat) : Fc 16 (fm0 F SE NO GO LA (fmG M ML C BL cap ps)) := by
  refine ⟨⟨⟨by decide, by decide⟩, fmG_inv M ML C BL cap ps, fun e h => (by cases h), fun e h => (by cases h), rfl, rfl⟩, ?_, (show (0 : Nat) + 2 ≤ 8 * (16 - 3) by decide), rfl, ⟨Nat.le_refl _, Nat.le_refl _⟩, fun x h => (by cases h), rfl, rfl⟩
  show 3 ≤ Gc.count 0 (List.replicate 16 (⟨0, 0, 1, 0⟩ : Bk))
  decide
/-- A new translation, sealed once. -/
structure Fmd (f : Fm) (tx : List UInt8) : Prop where
  fc : Fc 16 f
  no : f.no = []
  go : f.go = []
  sq : f.seq = 2
  ep : f.ep = 2
  tv : f.tx = tx
  se : ∀ q, (getE f.se q).map sk = if q = 0 then some ((⟨2, 0, 1, 1⟩ : Tg), headL tx) else none
theorem fmd {F SE NO GO LA M ML C BL cap : Nat} {ps : Nat → Nat} {f' : Fm} {tx : List UInt8} (h : Sld 16 (fm0 F SE NO GO LA (fmG M ML C BL cap ps)) f' tx) : Fmd f' tx ∧ f'.F = F ∧ f'.g.C = C := by
  refine ⟨⟨h.fc, h.no, h.go, h.sq, h.ep, h.tx, fun q => ?_⟩, h.F, h.C⟩
  rw [h.se]
  rfl
section
variable {NB B : Nat} {S T : Nat → Prop} {w : World} {f : Fm}
/-- All parts lie in memory, apart. -/
theorem ft_made (hF : Blk w f.F 59 (fmA NB f)) (hS : MapE w f.SE f.se) (hN : MapE w f.NO f.no) (hG : MapE w f.GO f.go) (hL : Own bolV 4 w 0 (.slice (some ⟨f.LA, 0, none⟩) NB NB) (List.replicate NB false)) (hv : f.tv = .slice none 0 0) (hx : f.tx = []) (hg : MgM NB B S w f.g)
    (nd : [f.F, f.SE, f.NO, f.GO, f.LA].Nodup) (ns : ∀ q, q ∈ [f.F, f.SE, f.NO, f.GO, f.LA] → ¬ Sm f.g S q ∧ B ≤ q ∧ T q) (hT : ∀ q, Sm f.g S q → T q) (hb : ∀ q, T q → B ≤ q ∧ q < w.heap.size) : FtM NB B T w f := by
  have hq : ∀ q, Hb f q → q ∈ [f.F, f.SE, f.NO, f.GO, f.LA] := fun q hq => by
    rcases hq with e | e | e | e | e | e
    · rw [e]; simp
    · rw [e]; simp
    · rw [e]; simp
    · rw [e]; simp
    · rw [e]; simp
    · rw [hv] at e; cases e
  refine ⟨S, ⟨hF, hS, hN, hG, hL, ?_, hg, nd, fun q e => ?_, fun q h => (ns q (hq q h)).1, fun q h => (ns q (hq q h)).2.1⟩, fun q h => ?_, hb⟩
  · rw [hv, hx]; exact Own.nil _ _
  · rw [hv] at e; cases e
  · rcases h with h | h
    · exact (ns q (hq q h)).2.2
    · exact hT q h
end
end Go.Proofs.YtiipnpfaaghekaaGreat
/-
  How many blocks of a chip are bad: none.
-/
/-
  All that is there now is sealed.
-/
namespace Go.Proofs.YtiipnpfaaghekaaGreat
open Go.RowKit Ftl

theorem mk8of64 (u : World) : (Instr.makeSlice 22 (.int .i64 8) (.int .i64 64)).run Tryz.prog u = .ok (.slice (some ⟨u.heap.size, 0, none⟩) 8 64) (u.alloc (.cells (Array.replicate 64 (.int .u8 0)) 5)) := by kernel_rfl
theorem Own.cutTo {α : Type} {f : α → Value} {e : TypeId} {w : World} {base : Nat} {a : Option Addr} {n c : Nat} {xs : List α} (h : Own f e w base (.slice a n c) xs) {k : Nat} (hk : k ≤ n) : Own f e w base (.slice a k c) (xs.take k) := by
  refine ⟨by simp, ?_⟩
  rcases h.2 with ⟨hv, hn⟩ | ⟨g, cap, cur, hv, hgb, hg, hc, hm, hs, ht⟩
  · injection hv with h1 h2 h3
    subst h1 h2 h3
    obtain rfl : k = 0 := by omega
    exact .inl ⟨rfl, by simp⟩
  · injection hv with h1 h2 h3
    subst h1 h2 h3
    have hl : (xs.take k).length = k := by rw [List.length_take]; omega
    refine .inr ⟨g, c, cur, by rw [hl], hgb, hg, by rw [hl]; omega, hm, hs, ?_⟩
    rw [hl, List.map_take, ← ht, List.take_take]
    congr 1
    omega
set_option maxHeartbeats 4000000 in
theorem head_calls (a : Option Addr) (c : Nat) (tx : List UInt8) (w : World) (hx : Bytes w w.heap.size a 56 tx) :
    Calls Tryz.prog 27 #[.int .i64 2, .int .i64 0, .slice a 56 c] w fun e w' => (∃ a' c', e = .returned (.slice a' 64 c') ∧ Own byteV 5 w' w.heap.size (.slice a' 64 c') ([2, 0, 0, 0, 0, 0, 0, 0] ++ tx)) ∧ Below w.heap.size w w' := by
  have hmk := mk8of64
  have hl := hx.len
  have ho := (ownMadeZ w w.heap.size 64 (Nat.le_refl _) (by omega)).cutTo (k := 8) (by omega)
  have hb := (Below.refl w.heap.size w).alloc (Nat.le_refl _) (.cells (Array.replicate 64 (.int .u8 0)) 5)
  have HX := Lib.hid (hx.on hb)
  have ho : Own byteV 5 (w.alloc (.cells (Array.replicate 64 (.int .u8 0)) 5)) w.heap.size (.slice (some ⟨w.heap.size, 0, none⟩) 8 64) [0, 0, 0, 0, 0, 0, 0, 0] := ho
  generalize hw1 : w.alloc (.cells (Array.replicate 64 (.int .u8 0)) 5) = w1 at *
  obtain ⟨c0, f0⟩ := ho.cellg (k := 0) (by simp)
  have h0 := ho.set 0 2
  obtain ⟨c1, f1⟩ := h0.cellg (k := 1) (by simp)
  have h1 := h0.set 1 0
  obtain ⟨c2, f2⟩ := h1.cellg (k := 2) (by simp)
  have h2 := h1.set 2 0
  obtain ⟨c3, f3⟩ := h2.cellg (k := 3) (by simp)
  have h3 := h2.set 3 0
  have h3 : Own byteV 5 ((((w1.setCell ⟨w.heap.size, 0, none⟩ (.int .u8 2)).setCell ⟨w.heap.size, 1, none⟩ (.int .u8 0)).setCell ⟨w.heap.size, 2, none⟩ (.int .u8 0)).setCell ⟨w.heap.size, 3, none⟩ (.int .u8 0)) w.heap.size (.slice (some ⟨w.heap.size, 0, none⟩) 8 64) [2, 0, 0, 0, 0, 0, 0, 0] := h3
  have hb3 := (((hb.setCell (p := ⟨w.heap.size, 0, none⟩) (Nat.le_refl _) (.int .u8 2)).setCell (p := ⟨w.heap.size, 1, none⟩) (Nat.le_refl _) (.int .u8 0)).setCell (p := ⟨w.heap.size, 2, none⟩) (Nat.le_refl _) (.int .u8 0)).setCell (p := ⟨w.heap.size, 3, none⟩) (Nat.le_refl _) (.int .u8 0)
  have HO := Lib.hid h3
  have HB := Lib.hid hb3
  have HX3 := Lib.hid (hx.on hb3)
  have c0 : w1.cell? ⟨w.heap.size, 0, none⟩ = some (.int .u8 0) := c0
  have c1 : (w1.setCell ⟨w.heap.size, 0, none⟩ (.int .u8 2)).cell? ⟨w.heap.size, 1, none⟩ = some (.int .u8 0) := c1
  have f1 : (w1.setCell ⟨w.heap.size, 0, none⟩ (.int .u8 2)).frozen? ⟨w.heap.size, 1, none⟩ = false := f1
  have c2 : ((w1.setCell ⟨w.heap.size, 0, none⟩ (.int .u8 2)).setCell ⟨w.heap.size, 1, none⟩ (.int .u8 0)).cell? ⟨w.heap.size, 2, none⟩ = some (.int .u8 0) := c2
  have f2 : ((w1.setCell ⟨w.heap.size, 0, none⟩ (.int .u8 2)).setCell ⟨w.heap.size, 1, none⟩ (.int .u8 0)).frozen? ⟨w.heap.size, 2, none⟩ = false := f2
  have c3 : (((w1.setCell ⟨w.heap.size, 0, none⟩ (.int .u8 2)).setCell ⟨w.heap.size, 1, none⟩ (.int .u8 0)).setCell ⟨w.heap.size, 2, none⟩ (.int .u8 0)).cell? ⟨w.heap.size, 3, none⟩ = some (.int .u8 0) := c3
  have f3 : (((w1.setCell ⟨w.heap.size, 0, none⟩ (.int .u8 2)).setCell ⟨w.heap.size, 1, none⟩ (.int .u8 0)).setCell ⟨w.heap.size, 2, none⟩ (.int .u8 0)).frozen? ⟨w.heap.size, 3, none⟩ = false := f3
  clear hx hl ho hb h0 h1 h2 h3 hb3 HX
  go_enter Tryz.func27, Tryz.ntmps27
  go_upto_region 2 with fail
  clear hw1
  go_upto_region 3 with fail
  clear c0 c1 c2 c3 f0 f1 f2 f3
  go_wp2_with (at_builtin; refine wpList_ontoB rfl _ _ rfl w.heap.size _ [2, 0, 0, 0, 0, 0, 0, 0] rfl HO.out _ a 56 c tx rfl HX3.out (by simp) (by have := HB.out.size; exact this) ?_; intro v4 w4 HO4 HB4)
  go_ret
  obtain ⟨a4, c4, rfl, _⟩ := HO4.out.formN (n := 64) (by rw [List.length_append, HX3.out.len]; rfl)
  exact ⟨⟨a4, c4, rfl, HO4.out⟩, HB.out.trans HB4.out⟩
end Go.Proofs.YtiipnpfaaghekaaGreat
namespace Go.Proofs.YtiipnpfaaghekaaGreat
open Go.RowKit Ftl Go.ChangeMaps Go.Maps

section
variable {NB B n : Nat} {R : Nat → Prop} {w : World} {f : Fm}
theorem RngE.put {w : World} {b r c : Nat} {l d l' : List En} (h : RngE w b r l d) (hm : MapE w c l') (h1 : c ≠ b) (h2 : c ≠ r) (o : Obj) : RngE (setBlock w c o) b r l d ∧ (setBlock w c o).rangeLeft b r = w.rangeLeft b r := by
  have hg := setBlock_grown hm o
  have q1 := hg.block b h.ltb fun e => h1 (Option.some.inj e).symm
  have q2 := hg.block r h.ltr fun e => h2 (Option.some.inj e).symm
  exact ⟨h.same q1 q2, left_same q1 q2⟩
theorem FtM.hiT (h : FtM NB B R w f) {q : Nat} (hq : f.tv.ownBlock = some q) : q < w.heap.size := by
  obtain ⟨S, a1, _⟩ := h
  exact a1.hi (.inr (.inr (.inr (.inr (.inr hq)))))
theorem RngE.kq {T : Nat → Prop} {w w' : World} {b r : Nat} {l d : List En} (h : RngE w b r l d) (hk : Kq T w w') (h1 : ¬ T b) (h2 : ¬ T r) : RngE w' b r l d ∧ w'.rangeLeft b r = w.rangeLeft b r := by
  have q1 := hk.block b h.ltb h1
  have q2 := hk.block r h.ltr h2
  exact ⟨h.same q1 q2, left_same q1 q2⟩
/-- What the seal's page leaves. -/
def SOut (NB B : Nat) (R : Nat → Prop) (w : World) (f : Fm) (tx : List UInt8) (W : World) (Z : Nat) : Prop :=
  ∃ (k i : Nat) (f1 : Fm) (g' : Mg) (R2 : Nat → Prop), Pr NB B R w R2 W { f1 with g := g', seq := f.seq + 1 } ∧ Same f f1 ∧ Pgd NB f1.g g' k i (Tg.page (sealT f) (headL tx)) ∧ Fi NB (100000 * f.seq + 17 * (NB + 1) + 1) [k] g' (f1.se ++ f1.no) ∧ 3 ≤ Gc.count 0 g'.l ∧ Blk W Z 52 #[.int .i64 (k : Int), .int .i64 (i : Int)] ∧ ¬ R2 Z ∧ w.heap.size ≤ Z
/-- The state of the first loop. -/
def SL (NB B : Nat) (R : Nat → Prop) (w : World) (R2 : Nat → Prop) (m r : Nat) (f2 : Fm) (W : World) : Prop := ∃ d f3, RngE W f2.NO r f2.no d ∧ Pr NB B R w R2 W f3 ∧ Sl1 NB m f2 f3 d
/-- The state of the second loop. -/
def SM (NB B : Nat) (R : Nat → Prop) (w : World) (R2 : Nat → Prop) (m r : Nat) (f3 : Fm) (W : World) : Prop := ∃ d f4, RngE W f3.GO r f3.go d ∧ Pr NB B R w R2 W f4 ∧ Sl2 NB m f3 f4 d
set_option maxRecDepth 100000 in
set_option maxHeartbeats 16000000 in
theorem fSeal_calls (h : FtM NB B R w f) (hc : Fc NB f) (hsq : f.seq ≤ 1000000) (a : Option Addr) (c : Nat) (tx : List UInt8) (hx : Bytes w w.heap.size a 56 tx) (hap : ∀ b o, a = some ⟨b, o, none⟩ → ¬ R b) (hcp : (getE f.se 0).isSome = true ∨ (f.se ++ f.no).length + 3 ≤ 8 * (NB - 3)) :
    Calls Tryz.prog 8 #[.pointer (some ⟨f.F, 0, none⟩), .slice a 56 c] w fun e w' => e = .returned (.int .i64 0) ∧ ∃ f', FtR NB B R w w' f' ∧ Sld NB f f' tx := by
  have HB0 := h.base
  have hnb := hc.fi.nb
  have HRy := Lib.hid (fready_calls h)
  have HSz := Lib.hid (fsize_calls h)
  have HH := Lib.hid h
  have HC := Lib.hid hc
  have HX := Lib.hid hx
  have HAp := Lib.hid hap
  have HSq := Lib.hid hsq
  have HCp := Lib.hid hcp
  have HAb := Lib.hid (show ∀ b o, a = some ⟨b, o, none⟩ → b < w.heap.size from fun b o e => by obtain ⟨b', o', e', hlt, _⟩ := hx.2.2 (by omega); rw [e] at e'; injection e' with e'; injection e' with e'; omega)
  have hcs := placeCells
  clear h hc hx hap hsq hcp
  go_enter Tryz.func8, Tryz.ntmps8
  go_wp2_with fail
  refine (HRy.out).mono ?_
  rintro e w_ ⟨rfl, rfl⟩
  go_wp2_with fail
  refine HSz.out.mono ?_
  rintro e w1 ⟨rfl, hb1⟩
  have H1 := Lib.hid (HH.out.on hb1)
  have HB1 := Lib.hid hb1
  clear hb1
  go_wp2_with fail
  refine (fReadOnly_calls H1.out HC.out.fi HC.out.ov).mono ?_
  rintro e w2 ⟨rfl, hb2⟩
  have HB2 := Lib.hid (HB1.out.then_ hb2)
  have H2 := Lib.hid (H1.out.on hb2)
  clear hb2
  go_upto_region 8 with fail
  have hLt := Lib.hid hnb
  have HRes := Lib.hid HC.out.fi.res
  have HBad := Lib.hid HC.out.fi.bad
  go_cut [6, 7] (fun v6 v7 wx => v7 = .int .i64 0 ∧ ∃ Z, v6 = .pointer (some ⟨Z, 0, none⟩) ∧ Hid (SOut NB B R w f tx wx Z))
  case first =>
    have HHd := Lib.hid (fun (W : World) (hW : Below w.heap.size w W) => head_calls a c tx W (HX.out.on hW))
    have HPt := Lib.hid (fun (W : World) (hW : Below w.heap.size w W) (a4 : Option Addr) (c4 : Nat) (h4 : Bytes W W.heap.size a4 64 (headL tx)) (h5 : ∀ b o, a4 = some ⟨b, o, none⟩ → ¬ R b) => show Calls Tryz.prog 24 #[.pointer (some ⟨f.F, 0, none⟩), .agg #[.int .i64 2, .int .u32 0, .int .u64 0, .int .u64 0], .slice a4 64 c4] W (Ptd NB B R (100000 * f.seq) f (sealT f) (headL tx) W) from
      fput_calls (HH.out.on hW) HC.out.fi HC.out.fr HC.out.cap (by have := HSq.out; omega) 2 0 (.inr rfl) (by omega) ⟨by have := HC.out.sq; omega, by have := HSq.out; omega⟩ ⟨by have := HC.out.sq; omega, by have := HC.out.sq; have := HSq.out; omega⟩ a4 c4 (headL tx) h4 h5)
    have hS0 : w2.drew.cell? ⟨f.F, 2, none⟩ = some (.int .i64 2) ∧ w2.drew.cell? ⟨f.F, 3, none⟩ = some (.int .i64 0) := by
      have h1 := (H2.out.on (below_drew w2)).c2
      have h2 := (H2.out.on (below_drew w2)).c3
      rw [HRes.out] at h1
      rw [HBad.out] at h2
      exact ⟨h1, h2⟩
    have HS0 := Lib.hid hS0
    have HSb := Lib.hid (fun (W W' : World) (hW : Below W.heap.size W W') (h1 : W.cell? ⟨f.F, 2, none⟩ = some (.int .i64 2) ∧ W.cell? ⟨f.F, 3, none⟩ = some (.int .i64 0)) => (⟨cell_on h1.1 hW, cell_on h1.2 hW⟩ : W'.cell? ⟨f.F, 2, none⟩ = some (.int .i64 2) ∧ W'.cell? ⟨f.F, 3, none⟩ = some (.int .i64 0)))
    have HB3 := Lib.hid (HB2.out.then_ (below_drew w2))
    clear hS0
    refine wp_region_noPanic ?_
    refine wp_region_held_drew (S := (fun W' => W'.cell? ⟨f.F, 2, none⟩ = some (.int .i64 2) ∧ W'.cell? ⟨f.F, 3, none⟩ = some (.int .i64 0))) (by kernel_rfl) HS0.out (fun hS0 => ?_)
    generalize w2.drew = W at *
    clear HS0
    refine takeV 0 (v := (.pointer (some ⟨f.F, 0, none⟩))) rfl (by kernel_rfl) (by kernel_rfl) (by kernel_rfl) (fun _ _ _ h => h) (by rfl) (fun _ _ => rfl) (by assumption) ?_
    try simp only [layR]
    refine takeV 1 (v := (.agg #[.int .i64 2, .int .u32 0, .int .u64 0, .int .u64 0])) rfl (by kernel_rfl) (by kernel_rfl) (by kernel_rfl) (fun _ _ _ h => h) (by rfl) (fun W hSw => ?_) (by assumption) ?_
    · skip
      go_simp
    try simp only [layR]
    refine takeV 2 (v := (.pointer (some ⟨f.F, 0, none⟩))) rfl (by kernel_rfl) (by kernel_rfl) (by kernel_rfl) (fun _ _ _ h => h) (by rfl) (fun _ _ => rfl) (by assumption) ?_
    try simp only [layR]
    refine takeV 3 (v := (.pointer (some ⟨f.F, 0, none⟩))) rfl (by kernel_rfl) (by kernel_rfl) (by kernel_rfl) (fun _ _ _ h => h) (by rfl) (fun W hSw => ?_) (by assumption) ?_
    · skip
      go_simp
    try simp only [layR]
    refine takeV 4 (v := (.pointer (some ⟨f.F, 2, none⟩))) rfl (by kernel_rfl) (by kernel_rfl) (by kernel_rfl) (fun _ _ _ h => h) (by rfl) (fun W hSw => ?_) (by assumption) ?_
    · skip
      go_simp
    try simp only [layR]
    refine takeV 5 (v := (.int .i64 2)) rfl (by kernel_rfl) (by kernel_rfl) (by kernel_rfl) (fun _ _ _ h => h) (by rfl) (fun W hSw => ?_) (by assumption) ?_
    · obtain ⟨y8, y9⟩ := hSw
      go_simp
    try simp only [layR]
    refine takeV 6 (v := (.pointer (some ⟨f.F, 0, none⟩))) rfl (by kernel_rfl) (by kernel_rfl) (by kernel_rfl) (fun _ _ _ h => h) (by rfl) (fun _ _ => rfl) (by assumption) ?_
    try simp only [layR]
    refine takeV 7 (v := (.pointer (some ⟨f.F, 0, none⟩))) rfl (by kernel_rfl) (by kernel_rfl) (by kernel_rfl) (fun _ _ _ h => h) (by rfl) (fun W hSw => ?_) (by assumption) ?_
    · skip
      go_simp
    try simp only [layR]
    refine takeV 8 (v := (.pointer (some ⟨f.F, 3, none⟩))) rfl (by kernel_rfl) (by kernel_rfl) (by kernel_rfl) (fun _ _ _ h => h) (by rfl) (fun W hSw => ?_) (by assumption) ?_
    · skip
      go_simp
    try simp only [layR]
    refine takeV 9 (v := (.int .i64 0)) rfl (by kernel_rfl) (by kernel_rfl) (by kernel_rfl) (fun _ _ _ h => h) (by rfl) (fun W hSw => ?_) (by assumption) ?_
    · obtain ⟨y8, y9⟩ := hSw
      go_simp
    try simp only [layR]
    refine takeV 10 (v := (.slice a 56 c)) rfl (by kernel_rfl) (by kernel_rfl) (by kernel_rfl) (fun _ _ _ h => h) (by rfl) (fun _ _ => rfl) (by assumption) ?_
    try simp only [layR]
    refine wpAnyH_ready (rs := [11, 16]) (by kernel_rfl) (by simp) ?_
    refine AllReadyH.cons rfl (fun K' hK => ?_) (AllReadyH.cons rfl (fun K' hK => ?_) AllReadyH.nil)
    · go_simp
      refine (HHd.out W HB3.out).mono ?_
      rintro e W4 ⟨⟨a4, c4, rfl, ho4⟩, hb4⟩
      have hS1 := HSb.out W W4 hb4 hS0
      have hB4 := HB3.out.then_ hb4
      refine hK.out _ _ hS1 (fun hS2 => ?_)
      try simp only [layR]
      refine wpAnyH_ready (rs := [12, 16]) (by kernel_rfl) (by simp) ?_
      refine AllReadyH.cons rfl (fun K' hK => ?_) (AllReadyH.cons rfl (fun K' hK => ?_) AllReadyH.nil)
      · go_simp
        refine (HPt.out W4 hB4 _ _ (ho4.arr (by rw [List.length_append, HX.out.len]; simp)) fun b o e h1 => by
          have h2 := (HH.out.bnd b h1).2
          have h3 := (ho4.blockLt b (by rw [e]; rfl)).1
          have h4 := HB3.out.size
          omega).mono ?_
        rintro e W6 ⟨k, i, f1, g', rfl, h6, hsame, hpg, hfi, hfr⟩
        have hS6 : W6.cell? ⟨f.F, 2, none⟩ = some (.int .i64 2) ∧ W6.cell? ⟨f.F, 3, none⟩ = some (.int .i64 0) := by
          have q1 := h6.1.c2
          have q2 := h6.1.c3
          rw [show ({ f1 with g := g', seq := f.seq + 1 } : Fm).F = f.F from hsame.F] at q1 q2
          rw [show ({ f1 with g := g', seq := f.seq + 1 } : Fm).g.res = 2 from hfi.res] at q1
          rw [show ({ f1 with g := g', seq := f.seq + 1 } : Fm).g.bad = 0 from hfi.bad] at q2
          exact ⟨q1, q2⟩
        refine hK.out _ _ hS6 (fun hS7 => ?_)
        try simp only [layR]
        refine takeV 13 (v := (.tuple #[.agg #[.int .i64 (k : Int), .int .i64 (i : Int)], .int .i64 0])) rfl (by kernel_rfl) (by kernel_rfl) (by kernel_rfl) (fun _ _ _ h => h) (by rfl) (fun _ _ => rfl) (by assumption) ?_
        try simp only [layR]
        refine takeV 14 (v := (.agg #[.int .i64 (k : Int), .int .i64 (i : Int)])) rfl (by kernel_rfl) (by kernel_rfl) (by kernel_rfl) (fun _ _ _ h => h) (by rfl) (fun _ _ => rfl) (by assumption) ?_
        try simp only [layR]
        refine takeV 15 (v := (.int .i64 0)) rfl (by kernel_rfl) (by kernel_rfl) (by kernel_rfl) (fun _ _ _ h => h) (by rfl) (fun _ _ => rfl) (by assumption) ?_
        try simp only [layR]

        refine wpAnyH_ready (rs := [16]) (by kernel_rfl) (by simp) ?_
        refine AllReadyH.cons rfl (fun K' hK => ?_) AllReadyH.nil
        go_simp
        have hS8 := HSb.out W6 _ ((Below.refl _ _).alloc (Nat.le_refl _) (.cells #[.int .i64 0, .int .i64 0] 52)) hS6
        refine hK.out _ _ hS8 (fun hS9 => ?_)
        try simp only [layR]
        refine wpAnyH_ready (rs := [17]) (by kernel_rfl) (by simp) ?_
        refine AllReadyH.cons rfl (fun K' hK => ?_) AllReadyH.nil
        go_simp
        have hb10 := (Below.refl W6.heap.size W6).alloc (Nat.le_refl _) (.cells #[.int .i64 (k : Int), .int .i64 (i : Int)] 52)
        have hS10 := HSb.out W6 _ hb10 hS6
        have hOut : SOut NB B R w f tx (W6.alloc (.cells #[.int .i64 (k : Int), .int .i64 (i : Int)] 52)) W6.heap.size := by
          have hp := ((Pr.start HH.out).on hB4).step h6
          exact ⟨k, i, f1, g', _, hp.on hb10, hsame, hpg, hfi, hfr, Blk.new W6 _ _, hp.ft.not_new (Nat.le_refl _), Nat.le_trans hB4.size h6.2.size⟩
        refine hK.out _ _ hS10 (fun hS11 => ?_)
        refine takeV 18 (v := (.int .i64 0)) rfl (by kernel_rfl) (by kernel_rfl) (by kernel_rfl) (fun _ _ _ h => h) (by rfl) (fun _ _ => rfl) (by assumption) ?_
        try simp only [layR]
        refine wpAnyH_done (by kernel_rfl) ?_ _
        refine NoPanic.normal ?_
        have HOut := Lib.hid hOut
        clear hOut
        go_wp2_with fail
        go_meet
        case rel => exact ⟨rfl, _, rfl, HOut.out⟩
      · go_simp
        have hbz := (Below.refl W4.heap.size W4).alloc (Nat.le_refl _) (.cells #[.int .i64 0, .int .i64 0] 52)
        have hS5 := HSb.out W4 _ hbz hS1
        have hz := Blk.new W4 52 #[.int .i64 0, .int .i64 0]
        have hzn := HH.out.not_new (show w.heap.size ≤ W4.heap.size from hB4.size)
        have hB5 := hB4.then_ hbz
        have ho5 := ho4.on hbz
        refine hK.out _ _ hS5 (fun hS5b => ?_)
        try simp only [layR]
        refine wpAnyH_ready (rs := [12]) (by kernel_rfl) (by simp) ?_
        refine AllReadyH.cons rfl (fun K' hK => ?_) AllReadyH.nil
        go_simp
        refine (HPt.out _ hB5 _ _ (ho5.arr (by rw [List.length_append, HX.out.len]; simp)) fun b o e h1 => by
          have h2 := (HH.out.bnd b h1).2
          have h3 := (ho5.blockLt b (by rw [e]; rfl)).1
          have h4 := HB3.out.size
          omega).mono ?_
        rintro e W6 ⟨k, i, f1, g', rfl, h6, hsame, hpg, hfi, hfr⟩
        have hS6 : W6.cell? ⟨f.F, 2, none⟩ = some (.int .i64 2) ∧ W6.cell? ⟨f.F, 3, none⟩ = some (.int .i64 0) := by
          have q1 := h6.1.c2
          have q2 := h6.1.c3
          rw [show ({ f1 with g := g', seq := f.seq + 1 } : Fm).F = f.F from hsame.F] at q1 q2
          rw [show ({ f1 with g := g', seq := f.seq + 1 } : Fm).g.res = 2 from hfi.res] at q1
          rw [show ({ f1 with g := g', seq := f.seq + 1 } : Fm).g.bad = 0 from hfi.bad] at q2
          exact ⟨q1, q2⟩
        refine hK.out _ _ hS6 (fun hS7 => ?_)
        try simp only [layR]
        refine takeV 13 (v := (.tuple #[.agg #[.int .i64 (k : Int), .int .i64 (i : Int)], .int .i64 0])) rfl (by kernel_rfl) (by kernel_rfl) (by kernel_rfl) (fun _ _ _ h => h) (by rfl) (fun _ _ => rfl) (by assumption) ?_
        try simp only [layR]
        refine takeV 14 (v := (.agg #[.int .i64 (k : Int), .int .i64 (i : Int)])) rfl (by kernel_rfl) (by kernel_rfl) (by kernel_rfl) (fun _ _ _ h => h) (by rfl) (fun _ _ => rfl) (by assumption) ?_
        try simp only [layR]
        refine takeV 15 (v := (.int .i64 0)) rfl (by kernel_rfl) (by kernel_rfl) (by kernel_rfl) (fun _ _ _ h => h) (by rfl) (fun _ _ => rfl) (by assumption) ?_
        try simp only [layR]
        have hzk := h6.blk hz hzn
        obtain ⟨k0, k1, f0, f1', q0, q1⟩ := plZ hzk k i
        refine wpAnyH_ready (rs := [17]) (by kernel_rfl) (by simp) ?_
        refine AllReadyH.cons rfl (fun K' hK => ?_) AllReadyH.nil
        go_simp
        have hkz : Kq (fun q => q = W4.heap.size) W6 ((W6.setCell ⟨W4.heap.size, 0, none⟩ (.int .i64 (k : Int))).setCell ⟨W4.heap.size, 1, none⟩ (.int .i64 (i : Int))) := ((Kq.refl (fun q => q = W4.heap.size) W6).setCell (p := ⟨W4.heap.size, 0, none⟩) (.inl rfl) _).setCell (p := ⟨W4.heap.size, 1, none⟩) (.inl rfl) _
        have hFz : f.F ≠ W4.heap.size := fun e => hzn (e ▸ HH.out.inF)
        have hS10 : ((W6.setCell ⟨W4.heap.size, 0, none⟩ (.int .i64 (k : Int))).setCell ⟨W4.heap.size, 1, none⟩ (.int .i64 (i : Int))).cell? ⟨f.F, 2, none⟩ = some (.int .i64 2) ∧ ((W6.setCell ⟨W4.heap.size, 0, none⟩ (.int .i64 (k : Int))).setCell ⟨W4.heap.size, 1, none⟩ (.int .i64 (i : Int))).cell? ⟨f.F, 3, none⟩ = some (.int .i64 0) := by
          have hb := hkz.block f.F (by have := h6.1.ltF; rw [show ({ f1 with g := g', seq := f.seq + 1 } : Fm).F = f.F from hsame.F] at this; exact this) hFz
          exact ⟨(World.cell?_of_block (a := ⟨f.F, 2, none⟩) hb).trans hS6.1, (World.cell?_of_block (a := ⟨f.F, 3, none⟩) hb).trans hS6.2⟩
        have hOut : SOut NB B R w f tx ((W6.setCell ⟨W4.heap.size, 0, none⟩ (.int .i64 (k : Int))).setCell ⟨W4.heap.size, 1, none⟩ (.int .i64 (i : Int))) (W4.heap.size) := by
          have hp := ((Pr.start HH.out).on hB5).step h6
          have hzn2 := h6.far hzn (Blk.lt hz)
          exact ⟨k, i, f1, g', _, hp.mine hkz fun q hq => by subst hq; exact ⟨hB4.size, hzn2⟩, hsame, hpg, hfi, hfr, (hzk.set 0 (.int .i64 (k : Int))).set 1 (.int .i64 (i : Int)), hzn2, hB4.size⟩
        refine hK.out _ _ hS10 (fun hS11 => ?_)
        refine takeV 18 (v := (.int .i64 0)) rfl (by kernel_rfl) (by kernel_rfl) (by kernel_rfl) (fun _ _ _ h => h) (by rfl) (fun _ _ => rfl) (by assumption) ?_
        try simp only [layR]
        refine wpAnyH_done (by kernel_rfl) ?_ _
        refine NoPanic.normal ?_
        have HOut := Lib.hid hOut
        clear hOut
        go_wp2_with fail
        go_meet
        case rel => exact ⟨rfl, _, rfl, HOut.out⟩
    · go_simp
      have hbz := (Below.refl W.heap.size W).alloc (Nat.le_refl _) (.cells #[.int .i64 0, .int .i64 0] 52)
      have hS5 := HSb.out W _ hbz hS0
      have hz0 := Blk.new W 52 #[.int .i64 0, .int .i64 0]
      have hzn := HH.out.not_new (show w.heap.size ≤ W.heap.size from HB3.out.size)
      have hB5 := HB3.out.then_ hbz
      refine hK.out _ _ hS5 (fun hS5b => ?_)
      try simp only [layR]
      refine wpAnyH_ready (rs := [11]) (by kernel_rfl) (by simp) ?_
      refine AllReadyH.cons rfl (fun K' hK => ?_) AllReadyH.nil
      go_simp
      refine (HHd.out _ hB5).mono ?_
      rintro e W4 ⟨⟨a4, c4, rfl, ho4⟩, hb4⟩
      have hS1 := HSb.out _ W4 hb4 hS5
      have hB4 := hB5.then_ hb4
      have hz := hz0.belowHere hb4
      refine hK.out _ _ hS1 (fun hS2 => ?_)
      try simp only [layR]
      refine wpAnyH_ready (rs := [12]) (by kernel_rfl) (by simp) ?_
      refine AllReadyH.cons rfl (fun K' hK => ?_) AllReadyH.nil
      go_simp
      refine (HPt.out W4 hB4 _ _ (ho4.arr (by rw [List.length_append, HX.out.len]; simp)) fun b o e h1 => by
        have h2 := (HH.out.bnd b h1).2
        have h3 := (ho4.blockLt b (by rw [e]; rfl)).1
        have h4 := hB5.size
        omega).mono ?_
      rintro e W6 ⟨k, i, f1, g', rfl, h6, hsame, hpg, hfi, hfr⟩
      have hS6 : W6.cell? ⟨f.F, 2, none⟩ = some (.int .i64 2) ∧ W6.cell? ⟨f.F, 3, none⟩ = some (.int .i64 0) := by
        have q1 := h6.1.c2
        have q2 := h6.1.c3
        rw [show ({ f1 with g := g', seq := f.seq + 1 } : Fm).F = f.F from hsame.F] at q1 q2
        rw [show ({ f1 with g := g', seq := f.seq + 1 } : Fm).g.res = 2 from hfi.res] at q1
        rw [show ({ f1 with g := g', seq := f.seq + 1 } : Fm).g.bad = 0 from hfi.bad] at q2
        exact ⟨q1, q2⟩
      refine hK.out _ _ hS6 (fun hS7 => ?_)
      try simp only [layR]
      refine takeV 13 (v := (.tuple #[.agg #[.int .i64 (k : Int), .int .i64 (i : Int)], .int .i64 0])) rfl (by kernel_rfl) (by kernel_rfl) (by kernel_rfl) (fun _ _ _ h => h) (by rfl) (fun _ _ => rfl) (by assumption) ?_
      try simp only [layR]
      refine takeV 14 (v := (.agg #[.int .i64 (k : Int), .int .i64 (i : Int)])) rfl (by kernel_rfl) (by kernel_rfl) (by kernel_rfl) (fun _ _ _ h => h) (by rfl) (fun _ _ => rfl) (by assumption) ?_
      try simp only [layR]
      refine takeV 15 (v := (.int .i64 0)) rfl (by kernel_rfl) (by kernel_rfl) (by kernel_rfl) (fun _ _ _ h => h) (by rfl) (fun _ _ => rfl) (by assumption) ?_
      try simp only [layR]
      have hzk := h6.blk hz hzn
      obtain ⟨k0, k1, f0, f1', q0, q1⟩ := plZ hzk k i
      refine wpAnyH_ready (rs := [17]) (by kernel_rfl) (by simp) ?_
      refine AllReadyH.cons rfl (fun K' hK => ?_) AllReadyH.nil
      go_simp
      have hkz : Kq (fun q => q = W.heap.size) W6 ((W6.setCell ⟨W.heap.size, 0, none⟩ (.int .i64 (k : Int))).setCell ⟨W.heap.size, 1, none⟩ (.int .i64 (i : Int))) := ((Kq.refl (fun q => q = W.heap.size) W6).setCell (p := ⟨W.heap.size, 0, none⟩) (.inl rfl) _).setCell (p := ⟨W.heap.size, 1, none⟩) (.inl rfl) _
      have hFz : f.F ≠ W.heap.size := fun e => hzn (e ▸ HH.out.inF)
      have hS10 : ((W6.setCell ⟨W.heap.size, 0, none⟩ (.int .i64 (k : Int))).setCell ⟨W.heap.size, 1, none⟩ (.int .i64 (i : Int))).cell? ⟨f.F, 2, none⟩ = some (.int .i64 2) ∧ ((W6.setCell ⟨W.heap.size, 0, none⟩ (.int .i64 (k : Int))).setCell ⟨W.heap.size, 1, none⟩ (.int .i64 (i : Int))).cell? ⟨f.F, 3, none⟩ = some (.int .i64 0) := by
        have hb := hkz.block f.F (by have := h6.1.ltF; rw [show ({ f1 with g := g', seq := f.seq + 1 } : Fm).F = f.F from hsame.F] at this; exact this) hFz
        exact ⟨(World.cell?_of_block (a := ⟨f.F, 2, none⟩) hb).trans hS6.1, (World.cell?_of_block (a := ⟨f.F, 3, none⟩) hb).trans hS6.2⟩
      have hOut : SOut NB B R w f tx ((W6.setCell ⟨W.heap.size, 0, none⟩ (.int .i64 (k : Int))).setCell ⟨W.heap.size, 1, none⟩ (.int .i64 (i : Int))) (W.heap.size) := by
        have hp := ((Pr.start HH.out).on hB4).step h6
        have hzn2 := h6.far hzn (Blk.lt hz)
        exact ⟨k, i, f1, g', _, hp.mine hkz fun q hq => by subst hq; exact ⟨HB3.out.size, hzn2⟩, hsame, hpg, hfi, hfr, (hzk.set 0 (.int .i64 (k : Int))).set 1 (.int .i64 (i : Int)), hzn2, HB3.out.size⟩
      refine hK.out _ _ hS10 (fun hS11 => ?_)
      refine takeV 18 (v := (.int .i64 0)) rfl (by kernel_rfl) (by kernel_rfl) (by kernel_rfl) (fun _ _ _ h => h) (by rfl) (fun _ _ => rfl) (by assumption) ?_
      try simp only [layR]
      refine wpAnyH_done (by kernel_rfl) ?_ _
      refine NoPanic.normal ?_
      have HOut := Lib.hid hOut
      clear hOut
      go_wp2_with fail
      go_meet
      case rel => exact ⟨rfl, _, rfl, HOut.out⟩
  case rest =>
    obtain ⟨rfl, Z, rfl, hOut⟩ := hcut
    obtain ⟨k, i, f1, g', R2, hpr, hsame, hpg, hfi, hfr, hz, hzn, hzw⟩ := hOut.out
    have HSm := Lib.hid hsame
    have HPg := Lib.hid hpg
    have HFi := Lib.hid hfi
    have HFr := Lib.hid hfr
    have HZn := Lib.hid hzn
    have HZw := Lib.hid hzw
    have HUf1 := Lib.hid (show Uq f1.no from hpr.ft.hN.uq)
    obtain ⟨fa, hfa⟩ : ∃ fa, fa = ({ f1 with g := g', seq := f.seq + 1 } : Fm) := ⟨_, rfl⟩
    rw [← hfa] at hpr
    have hFa : fa.F = f.F := by rw [hfa]; exact hsame.F
    have hmb := hpr.ft.on (below_drew wc)
    obtain ⟨o3, hrun, hm3, hk3⟩ := hmb.putN ⟨sealT f, headL tx, k, i⟩ (by show (0 : Nat) < _; omega)
    have hrun : (Instr.mapUpdate 55 (.map (some fa.NO)) (.int .u32 0) (.agg #[.int .i64 (k : Int), .int .i64 (i : Int)])).run Tryz.prog wc.drew = .ok () (setBlock wc.drew fa.NO o3) := hrun
    have hS3 : wc.drew.cell? ⟨f.F, 6, none⟩ = some (.map (some fa.NO)) ∧ wc.drew.cell? ⟨Z, 0, none⟩ = some (.int .i64 (k : Int)) ∧ wc.drew.cell? ⟨Z, 1, none⟩ = some (.int .i64 (i : Int)) := ⟨by rw [← hFa]; exact hmb.c6, hz.drew.cellv (i := 0) rfl, hz.drew.cellv (i := 1) rfl⟩
    have hz3 := hz.drew.kq hk3 hzn
    have hS4 : (setBlock wc.drew fa.NO o3).cell? ⟨f.F, 6, none⟩ = some (.map (some fa.NO)) ∧ (setBlock wc.drew fa.NO o3).cell? ⟨Z, 0, none⟩ = some (.int .i64 (k : Int)) ∧ (setBlock wc.drew fa.NO o3).cell? ⟨Z, 1, none⟩ = some (.int .i64 (i : Int)) := ⟨by rw [← hFa]; exact hm3.c6, hz3.cellv (i := 0) rfl, hz3.cellv (i := 1) rfl⟩
    have HS3 := Lib.hid hS3
    have HS4 := Lib.hid hS4
    have HPr3 := Lib.hid ((hpr.on (below_drew wc)).same hm3 hk3)
    have HFa := Lib.hid hfa
    have HFaF := Lib.hid hFa
    clear hpr hsame hpg hfi hfr hz hzn hzw hOut hmb hm3 hk3 hS3 hS4 hz3 hfa hFa
    go_upto_region 11 with fail
    refine wp_region_noPanic ?_
    refine wp_region_held_drew (S := (fun W' => W'.cell? ⟨f.F, 6, none⟩ = some (.map (some fa.NO)) ∧ W'.cell? ⟨Z, 0, none⟩ = some (.int .i64 (k : Int)) ∧ W'.cell? ⟨Z, 1, none⟩ = some (.int .i64 (i : Int)))) (by kernel_rfl) HS3.out (fun hS0 => ?_)
    refine takeV 0 (v := (.pointer (some ⟨f.F, 0, none⟩))) rfl (by kernel_rfl) (by kernel_rfl) (by kernel_rfl) (fun _ _ _ h => h) (by rfl) (fun _ _ => rfl) (by assumption) ?_
    try simp only [layR]
    refine takeV 1 (v := (.pointer (some ⟨f.F, 0, none⟩))) rfl (by kernel_rfl) (by kernel_rfl) (by kernel_rfl) (fun _ _ _ h => h) (by rfl) (fun _ _ => rfl) (by assumption) ?_
    try simp only [layR]
    refine takeV 2 (v := (.pointer (some ⟨f.F, 6, none⟩))) rfl (by kernel_rfl) (by kernel_rfl) (by kernel_rfl) (fun _ _ _ h => h) (by rfl) (fun W hSw => ?_) (by assumption) ?_
    · skip
      go_simp
    try simp only [layR]
    refine takeV 3 (v := (.map (some fa.NO))) rfl (by kernel_rfl) (by kernel_rfl) (by kernel_rfl) (fun _ _ _ h => h) (by rfl) (fun W hSw => ?_) (by assumption) ?_
    · obtain ⟨y7, y8, y9⟩ := hSw
      go_simp
    try simp only [layR]
    refine takeV 4 (v := (.agg #[.int .i64 (k : Int), .int .i64 (i : Int)])) rfl (by kernel_rfl) (by kernel_rfl) (by kernel_rfl) (fun _ _ _ h => h) (by rfl) (fun W hSw => ?_) (by assumption) ?_
    · obtain ⟨y7, y8, y9⟩ := hSw
      go_simp
    try simp only [layR]
    refine wpAnyH_ready (rs := [5]) (by kernel_rfl) (by simp) ?_
    refine AllReadyH.cons rfl (fun K' hK => ?_) AllReadyH.nil
    go_simp
    refine hK.out _ _ HS4.out (fun hS5 => ?_)
    refine wpAnyH_done (by kernel_rfl) ?_ _
    refine NoPanic.normal ?_
    clear hrun hS0 hS5 HS3 HS4
    obtain ⟨W3, hW3⟩ : ∃ W3, W3 = setBlock wc.drew fa.NO o3 := ⟨_, rfl⟩
    rw [← hW3] at HPr3 ⊢
    clear hW3
    obtain ⟨f2, hf2⟩ : ∃ f2, f2 = ({ fa with no := putE fa.no ⟨sealT f, headL tx, k, i⟩ } : Fm) := ⟨_, rfl⟩
    rw [← hf2] at HPr3
    have HF2 := Lib.hid hf2
    have HF2F := Lib.hid (show f2.F = f.F by rw [hf2]; exact HFaF.out)
    have hn0 : getE f1.no 0 = none := by
      have := getE_some HSm.out.no 0
      rw [HC.out.n0] at this
      cases hg : getE f1.no 0 with
      | none => rfl
      | some e => rw [hg] at this; cases this
    have hfi2 : Fi NB (100000 * f.seq + 17 * (NB + 1) + 1) [] f2.g (f2.se ++ f2.no) := by
      rw [hf2, HFa.out]
      refine HFi.out.add HPg.out.gp ⟨⟨.inr rfl, by show (0 : Nat) < _; omega, by show 1 ≤ f.seq; have := HC.out.sq; omega, by show f.seq < _; have := HSq.out; omega, by show 1 ≤ f.ep; have := HC.out.sq; omega, by show f.ep < _; have := HC.out.sq; have := HSq.out; omega⟩, by show (headL tx).length = 64; unfold headL; rw [List.length_append, HX.out.len]; rfl⟩ ?_
      show (f1.se ++ putE f1.no ⟨sealT f, headL tx, k, i⟩).Perm (⟨sealT f, headL tx, k, i⟩ :: (f1.se ++ f1.no))
      rw [putE_new fun x hx => getE_none hn0 x hx, ← List.append_assoc]
      exact (List.perm_append_comm (l₁ := f1.se ++ f1.no))
    have HGk := Lib.hid (show ∀ x ∈ f2.go, (getE f2.se x.t.p).isSome = true from fun x hx => by
      rw [hf2, HFa.out] at hx ⊢
      have hx : x ∈ f1.go := hx
      show (getE f1.se x.t.p).isSome = true
      rw [getE_some HSm.out.se]
      have h1 : x.t.p ∈ f1.go.map fun e => e.t.p := List.mem_map.2 ⟨x, hx, rfl⟩
      rw [HSm.out.go] at h1
      obtain ⟨y, hy, e⟩ := List.mem_map.1 h1
      rw [← e]
      exact HC.out.gk y hy)
    have hfr2 : 3 ≤ Gc.count 0 f2.g.l := by rw [hf2, HFa.out]; exact HFr.out
    obtain ⟨m, hm⟩ : ∃ m, m = 100000 * f.seq + 17 * (NB + 1) + 1 := ⟨_, rfl⟩
    rw [← hm] at hfi2
    have HMm := Lib.hid hm
    have HSl0 := Lib.hid (sl1_0 hfi2 hfr2)
    have HN0 := Lib.hid hn0
    have HUn := Lib.hid HPr3.out.ft.hN.uq
    have c6 := HPr3.out.ft.c6
    rw [HF2F.out] at c6
    clear hf2 hn0 hfi2 hfr2 hm
    go_wp2_with (at_range; refine wpList_range_E _ rfl _ rfl f2.NO f2.no rfl HPr3.out.ft.hN ?_; intro w4 hr4 hb4 hs4)
    clear c6
    have HSL0 := Lib.hid (show SL NB B R w R2 m W3.heap.size f2 w4 from ⟨[], f2, hr4.out, HPr3.out.on hb4.out, HSl0.out⟩)
    have HRn := Lib.hid (HPr3.out.ft.not_new (Nat.le_refl W3.heap.size))
    have HRw := Lib.hid (show w.heap.size ≤ W3.heap.size from HPr3.out.kq.size)
    obtain ⟨r, hr⟩ : ∃ r, r = W3.heap.size := ⟨_, rfl⟩
    rw [← hr] at HSL0 HRn HRw ⊢
    clear hr hr4 hb4 hs4
    go_loopw [8, 9, 10, 11, 57] (fun _ _ _ _ _ wr => Hid (SL NB B R w R2 m r f2 wr)) (fun _ _ _ _ _ wr => wr.rangeLeft f2.NO r)
    case atStart => exact HSL0.out
    case round =>
      obtain ⟨d, f3, hrd, hpr, hsl⟩ := hrel.out
      have HRd := Lib.hid hrd
      have HPr := Lib.hid hpr
      have HSl := Lib.hid hsl
      have HE3 := Lib.hid hsl.eq
      clear hrel hrd hpr hsl
      go_wp2_with (at_next; refine wpList_next_E _ rfl _ rfl f2.NO r f2.no d rfl HRd.out ?_ ?_)
      · intro hperm
        obtain ⟨m3, hm3⟩ : ∃ m3, m3 = m + f2.no.length := ⟨_, rfl⟩
        have HM3 := Lib.hid hm3
        have hall := HSl.out.all hperm
        rw [← hm3] at hall
        have HSm0 := Lib.hid (sl2_0 hall HSl.out.fr)
        have HPm := Lib.hid hperm
        have HUg := Lib.hid HPr.out.ft.hG.uq
        have hgk2 : ∀ x ∈ f2.go, (getE f2.se x.t.p).isSome = true := HGk.out
        have HGk3 := Lib.hid (HSl.out.gk hgk2)
        have c7 := HPr.out.ft.c7
        have hFF : f3.F = f.F := by rw [HE3.out]; exact HF2F.out
        rw [hFF] at c7
        have HFF := Lib.hid hFF
        clear hall hperm hFF hm3 hgk2
        go_wp2_with (at_range; refine wpList_range_E _ rfl _ rfl f3.GO f3.go rfl HPr.out.ft.hG ?_; intro w7 hr7 hb7 hs7)
        clear c7
        have HSM0 := Lib.hid (show SM NB B R w R2 m3 wr.heap.size f3 w7 from ⟨[], f3, hr7.out, HPr.out.on hb7.out, HSm0.out⟩)
        have HRm := Lib.hid (HPr.out.ft.not_new (Nat.le_refl wr.heap.size))
        have HRx := Lib.hid (show w.heap.size ≤ wr.heap.size from HPr.out.kq.size)
        obtain ⟨r2, hr2⟩ : ∃ r2, r2 = wr.heap.size := ⟨_, rfl⟩
        rw [← hr2] at HSM0 HRm HRx ⊢
        clear hr2 hr7 hb7 hs7
        simp only [layR]
        go_loopw [12, 95] (fun _ _ wr => Hid (SM NB B R w R2 m3 r2 f3 wr)) (fun _ _ wr => wr.rangeLeft f3.GO r2)
        case atStart => exact HSM0.out
        case round =>
          obtain ⟨d2, f4, hrd, hpr, hsl⟩ := hrel.out
          have HRd2 := Lib.hid hrd
          have HPr2 := Lib.hid hpr
          have HSl2 := Lib.hid hsl
          have HE4 := Lib.hid hsl.eq
          clear hrel hrd hpr hsl
          go_wp2_with (at_next; refine wpList_next_E _ rfl _ rfl f3.GO r2 f3.go d2 rfl HRd2.out ?_ ?_)
          · intro hperm2
            have HPm2 := Lib.hid hperm2
            have HF4 := Lib.hid (show f4.F = f.F by rw [HE4.out]; exact HFF.out)
            clear hperm2
            go_upto_region 25 with fail
            have hmm := @run_makeMap Tryz.prog
            obtain ⟨W20, hW20⟩ : ∃ W20, W20 = (wr.alloc (.map #[] 0)).alloc (.map #[] 0) := ⟨_, rfl⟩
            have hb20 : Below wr.heap.size wr W20 := by rw [hW20]; exact ((Below.refl _ _).alloc (Nat.le_refl _) _).alloc (by simp) _
            have hft20 := HPr2.out.ft.on hb20
            have c6 := hft20.c6
            have c7 := hft20.c7
            have z6 := hft20.frz 6
            have z7 := hft20.frz 7
            rw [HF4.out] at c6 c7 z6 z7
            obtain ⟨W21, hW21⟩ : ∃ W21, W21 = (W20.setCell ⟨f.F, 6, none⟩ (.map (some wr.heap.size))).setCell ⟨f.F, 7, none⟩ (.map (some (wr.heap.size + 1))) := ⟨_, rfl⟩
            obtain ⟨f5, hf5⟩ : ∃ f5, f5 = ({ f4 with NO := wr.heap.size, GO := wr.heap.size + 1, no := [], go := [] } : Fm) := ⟨_, rfl⟩
            have hfr21 : FtR NB B R2 wr W21 f5 := by
              refine HPr2.out.ft.swap hb20 ?_ ?_ (by rw [hf5]) (by rw [hf5]) (by rw [hf5]) (by rw [hf5]) (by rw [hf5]) (.inr ?_) (.inr ?_) (.inl (by rw [hf5]; exact ⟨rfl, rfl⟩)) (by rw [hf5]; show wr.heap.size ≠ wr.heap.size + 1; omega) (fun q hq => ?_)
              · rw [hW21, ← HF4.out]
                have h1 : Kq (fun q => q = f4.F) W20 (W20.setCell ⟨f4.F, 6, none⟩ (.map (some wr.heap.size))) := Kq.one ⟨f4.F, 6, none⟩ _
                have h2 : Kq (fun q => q = f4.F) (W20.setCell ⟨f4.F, 6, none⟩ (.map (some wr.heap.size))) ((W20.setCell ⟨f4.F, 6, none⟩ (.map (some wr.heap.size))).setCell ⟨f4.F, 7, none⟩ (.map (some (wr.heap.size + 1)))) := Kq.one ⟨f4.F, 7, none⟩ _
                exact h1.trans h2
              · rw [hW21, ← HF4.out]
                have h1 := (hft20.hF.set 6 (.map (some wr.heap.size))).set 7 (.map (some (wr.heap.size + 1)))
                have h2 : ((fmA NB f4).setIfInBounds 6 (.map (some wr.heap.size))).setIfInBounds 7 (.map (some (wr.heap.size + 1))) = fmA NB f5 := by rw [hf5]; unfold fmA; simp
                rw [h2] at h1
                exact h1
              · rw [hf5, hW20]
                exact ⟨Nat.le_refl _, (MapE.made wr).alloc _⟩
              · rw [hf5, hW20]
                have h1 := MapE.made (wr.alloc (.map #[] 0))
                rw [World.size_alloc] at h1
                exact ⟨Nat.le_succ _, h1⟩
              · have h1 : q < wr.heap.size := HPr2.out.ft.hiT (by rw [hf5] at hq; exact hq)
                rw [hf5]
                show q ≠ wr.heap.size ∧ q ≠ wr.heap.size + 1
                omega
            have HPr21 := Lib.hid (HPr2.out.step hfr21)
            have HF5 := Lib.hid hf5
            clear hb20 hft20 hfr21 hf5
            rw [hW20] at c6 c7 z6 z7
            go_upto_region 26 with fail
            rw [← hW20, ← hW21]
            clear hW20 hW21 c6 c7 z6 z7 hmm
            have hep5 : f5.ep = f.ep := by rw [HF5.out, HE4.out, HE3.out, HF2.out, HFa.out]; exact HSm.out.ep
            have hF5 : f5.F = f.F := by rw [HF5.out]; exact HF4.out
            have c9 := HPr21.out.ft.c9
            have z9 := HPr21.out.ft.frz 9
            rw [hF5] at c9 z9
            rw [hep5] at c9
            have hep : f.ep ≤ 1000000 := by have := HC.out.sq; have := HSq.out; omega
            have hm22 := HPr21.out.ft.setF 9 (.int .u64 ((f.ep : Int) + 1)) { f5 with ep := f.ep + 1 } (by unfold fmA; simp) rfl rfl rfl rfl rfl rfl rfl rfl rfl rfl rfl
            have hk22 : Kq (Up R2 wr W21) W21 (W21.setCell ⟨f5.F, 9, none⟩ (.int .u64 ((f.ep : Int) + 1))) := (Kq.one ⟨f5.F, 9, none⟩ _).mono fun q e => e ▸ HPr21.out.ft.inF
            have HPr22 := Lib.hid (HPr21.out.same hm22 hk22)
            rw [show (⟨f5.F, 9, none⟩ : Addr) = ⟨f.F, 9, none⟩ by rw [hF5]] at HPr22
            have HX22 := Lib.hid (show Bytes (W21.setCell ⟨f.F, 9, none⟩ (.int .u64 ((f.ep : Int) + 1))) w.heap.size a 56 tx from (HX.out.kq (Nat.le_refl _) HPr22.out.kq HAp.out))
            have HF5F := Lib.hid hF5
            clear hm22 hk22 hF5 hep5
            go_wp2_with fail
            refine (clone_calls a 56 c tx _ (HX22.out.mono HPr22.out.kq.size)).mono ?_
            rintro e9 W23 ⟨⟨v9, rfl, ho9⟩, hb9⟩
            obtain ⟨a9, k9, rfl, hk9⟩ := ho9.formN HX22.out.len
            have HZ9 := Lib.hid z9
            clear z9 hep
            have c4 := (HPr22.out.ft.on hb9).c4
            have z4 := (HPr22.out.ft.on hb9).frz 4
            have hF9 := (HPr22.out.ft.on hb9).hF
            have c4 : W23.cell? ⟨f5.F, 4, none⟩ = some f5.tv := c4
            have z4 : W23.frozen? ⟨f5.F, 4, none⟩ = false := z4
            have hsw : FtR NB B (Up R2 wr W21) (W21.setCell ⟨f.F, 9, none⟩ (.int .u64 ((f.ep : Int) + 1))) (W23.setCell ⟨f5.F, 4, none⟩ (.slice a9 56 k9)) { f5 with ep := f.ep + 1, tv := (.slice a9 56 k9), tx := tx } := by
              refine HPr22.out.ft.swap hb9 (Kq.one ⟨f5.F, 4, none⟩ (.slice a9 56 k9)) ?_ rfl rfl rfl rfl rfl (.inl ⟨rfl, rfl⟩) (.inl ⟨rfl, rfl⟩) (.inr ho9) HPr22.out.ft.dis.2.2 (fun q hq => ?_)
              · have h1 := hF9.set 4 (.slice a9 56 k9)
                have h2 : (fmA NB { f5 with ep := f.ep + 1 }).setIfInBounds 4 (.slice a9 56 k9) = fmA NB { f5 with ep := f.ep + 1, tv := (.slice a9 56 k9), tx := tx } := by unfold fmA; simp
                rw [h2] at h1
                exact h1
              · have h1 := (ho9.blockLt q hq).1
                have h2 := HPr22.out.ft.hN.lt
                have h3 := HPr22.out.ft.hG.lt
                exact ⟨fun e => absurd h2 (by show ¬ f5.NO < _; rw [show f5.NO = q from e.symm]; omega), fun e => absurd h3 (by show ¬ f5.GO < _; rw [show f5.GO = q from e.symm]; omega)⟩
            have hend := (HPr22.out.step hsw).fin HB0
            rw [HF5F.out] at c4 z4
            rw [show (⟨f5.F, 4, none⟩ : Addr) = ⟨f.F, 4, none⟩ by rw [HF5F.out]] at hend
            have HEnd := Lib.hid hend
            clear hend hsw hF9 ho9 hb9
            go_wp2
            go_ret
            have h2 := HSl2.out
            rw [HM3.out] at h2
            refine ⟨rfl, _, HEnd.out, sld HC.out HSm.out (by rw [HF2.out, HFa.out]) HMm.out HSl.out HPm.out h2 HPm2.out HUf1.out HUn.out HUg.out HPr2.out.ft.hS.uq hnb.2 ?_ HCp.out HF5F.out ?_ ?_ ?_ ?_ ?_ rfl rfl ?_⟩
            · rw [HPg.out.C]; exact HSm.out.C
            · show f5.g = f4.g; rw [HF5.out]
            · show f5.se = f4.se; rw [HF5.out]
            · show f5.no = []; rw [HF5.out]
            · show f5.go = []; rw [HF5.out]
            · show f5.seq = f.seq + 1; rw [HF5.out, HE4.out, HE3.out, HF2.out, HFa.out]
            · show f5.ov = f.ov; rw [HF5.out, HE4.out, HE3.out, HF2.out, HFa.out]; exact HSm.out.ov
          · intro e w6 he hr6 hg6 hs6 hl6 hen
            rw [plV_eq] at hen ⊢
            have HKe := Lib.hid (HPr.out.ft.hG.key he.out.1)
            have hk6 : Kq (fun q => q = r2) wr w6 := (Kq.grown hg6.out).mono fun q e => (Option.some.inj e).symm
            have HPr6 := Lib.hid (HPr2.out.mine hk6 fun q hq => by subst hq; exact ⟨HRx.out, HRm.out⟩)
            obtain ⟨hU2, e0, he0⟩ := HSl2.out.old HUg.out HGk3.out HRd2.out.rest he.out.1 he.out.2
            obtain ⟨he0m, hep⟩ := getE_mem he0
            have hfd : Fi NB (m3 + d2.length) (e0.b :: []) f4.g (delE f4.se e.t.p) := by
              have h1 := HSl2.out.fi.del (delE_perm HPr2.out.ft.hS.uq he0m)
              rw [hep] at h1
              exact h1
            have HFd := Lib.hid hfd
            have HU2 := Lib.hid hU2
            have HDr := Lib.hid (fDrop2_calls (HPr6.out.ft.on (below_drew w6)) hfd)
            have hsv : plO (getE f4.se e.t.p) = .agg #[.int .i64 (e0.b : Int), .int .i64 (e0.i : Int)] := by rw [he0]; rfl
            have HF4 := Lib.hid (show f4.F = f.F by rw [HE4.out]; exact HFF.out)
            have HS4 := Lib.hid (show f4.SE = f3.SE by rw [HE4.out])
            have HNg := Lib.hid (show f3.GO ≠ f4.g.ML by have := HPr2.out.ft.neML.2.1; rw [show f4.GO = f3.GO by rw [HE4.out]] at this; exact this)
            have HNr := Lib.hid (show r2 ≠ f4.g.ML from fun h1 => HRm.out (h1 ▸ by have := HPr2.out.ft; obtain ⟨S, _, h2, _⟩ := this; exact h2 _ (.inr (.inr (.inl rfl)))))
            obtain ⟨S7, hS7⟩ : ∃ S7 : World → Prop, S7 = fun W' => ∃ f5, FtM NB B R2 W' f5 ∧ f5.F = f.F ∧ f5.SE = f4.SE ∧ f5.se = f4.se ∧ f5.g.M = f4.g.M := ⟨_, rfl⟩
            have HLs := Lib.hid (fun (W' : World) (hW : S7 W') => show (Instr.lookup 55 (.map (some f4.SE)) (.int .u32 (e.t.p : Int)) false).run Tryz.prog W' = .ok (.agg #[.int .i64 (e0.b : Int), .int .i64 (e0.i : Int)]) W' by
              rw [hS7] at hW
              obtain ⟨f5, e1, e2, e3, e4, e5⟩ := hW
              have := e1.hS.look HKe.out false
              rw [e4, e3, hsv] at this
              exact this)
            have HD1 := Lib.hid (fun (W' : World) (hW : S7 W') => show W'.cell? ⟨f.F, 1, none⟩ = some (.pointer (some ⟨f4.g.M, 0, none⟩)) by
              rw [hS7] at hW
              obtain ⟨f5, e1, e2, e3, e4, e5⟩ := hW
              rw [← e2, ← e5]; exact e1.c1)
            have HD5 := Lib.hid (fun (W' : World) (hW : S7 W') => show W'.cell? ⟨f.F, 5, none⟩ = some (.map (some f4.SE)) by
              rw [hS7] at hW
              obtain ⟨f5, e1, e2, e3, e4, e5⟩ := hW
              rw [← e2, ← e3]; exact e1.c5)
            have hS70 : S7 w6.drew := by rw [hS7]; exact ⟨f4, HPr6.out.ft.on (below_drew w6), HF4.out, rfl, rfl, rfl⟩
            have HS71 := Lib.hid (fun (W' : World) (f5 : Fm) (h1 : FtM NB B R2 W' f5) (h2 : f5.F = f.F ∧ f5.SE = f4.SE ∧ f5.se = f4.se ∧ f5.g.M = f4.g.M) => show S7 W' by rw [hS7]; exact ⟨f5, h1, h2⟩)
            clear hk6 hfd hU2 hsv he0 he0m hep hS7
            go_upto_region 23 with fail
            refine wp_region_noPanic ?_
            refine wp_region_held_drew (S := S7) (by kernel_rfl) hS70 (fun hS0 => ?_)
            refine takeV 0 (v := (.pointer (some ⟨f.F, 0, none⟩))) rfl (by kernel_rfl) (by kernel_rfl) (by kernel_rfl) (fun _ _ _ h => h) (by rfl) (fun _ _ => rfl) (by assumption) ?_
            try simp only [layR]
            refine takeV 1 (v := (.pointer (some ⟨f.F, 0, none⟩))) rfl (by kernel_rfl) (by kernel_rfl) (by kernel_rfl) (fun _ _ _ h => h) (by rfl) (fun _ _ => rfl) (by assumption) ?_
            try simp only [layR]
            refine takeV 2 (v := (.pointer (some ⟨f.F, 1, none⟩))) rfl (by kernel_rfl) (by kernel_rfl) (by kernel_rfl) (fun _ _ _ h => h) (by rfl) (fun W hSw => ?_) (by assumption) ?_
            · skip
              go_simp
            try simp only [layR]
            refine takeV 3 (v := (.pointer (some ⟨f4.g.M, 0, none⟩))) rfl (by kernel_rfl) (by kernel_rfl) (by kernel_rfl) (fun _ _ _ h => h) (by rfl) (fun W hSw => ?_) (by assumption) ?_
            · have y9 := HD1.out _ hSw
              go_simp
            try simp only [layR]
            refine takeV 4 (v := (.pointer (some ⟨f.F, 0, none⟩))) rfl (by kernel_rfl) (by kernel_rfl) (by kernel_rfl) (fun _ _ _ h => h) (by rfl) (fun _ _ => rfl) (by assumption) ?_
            try simp only [layR]
            refine takeV 5 (v := (.pointer (some ⟨f.F, 0, none⟩))) rfl (by kernel_rfl) (by kernel_rfl) (by kernel_rfl) (fun _ _ _ h => h) (by rfl) (fun _ _ => rfl) (by assumption) ?_
            try simp only [layR]
            refine takeV 6 (v := (.pointer (some ⟨f.F, 5, none⟩))) rfl (by kernel_rfl) (by kernel_rfl) (by kernel_rfl) (fun _ _ _ h => h) (by rfl) (fun W hSw => ?_) (by assumption) ?_
            · skip
              go_simp
            try simp only [layR]
            refine takeV 7 (v := (.map (some f4.SE))) rfl (by kernel_rfl) (by kernel_rfl) (by kernel_rfl) (fun _ _ _ h => h) (by rfl) (fun W hSw => ?_) (by assumption) ?_
            · have y9 := HD5.out _ hSw
              go_simp
            try simp only [layR]
            refine takeV 8 (v := (.int .u32 (e.t.p : Int))) rfl (by kernel_rfl) (by kernel_rfl) (by kernel_rfl) (fun _ _ _ h => h) (by rfl) (fun _ _ => rfl) (by assumption) ?_
            try simp only [layR]
            refine takeV 9 (v := (.agg #[.int .i64 (e0.b : Int), .int .i64 (e0.i : Int)])) rfl (by kernel_rfl) (by kernel_rfl) (by kernel_rfl) (fun _ _ _ h => h) (by rfl) (fun W hSw => ?_) (by assumption) ?_
            · have y9 := HLs.out _ hSw
              go_simp
            try simp only [layR]
            refine takeV 10 (v := (.int .i64 (e0.b : Int))) rfl (by kernel_rfl) (by kernel_rfl) (by kernel_rfl) (fun _ _ _ h => h) (by rfl) (fun _ _ => rfl) (by assumption) ?_
            try simp only [layR]
            refine wpAnyH_ready (rs := [11]) (by kernel_rfl) (by simp) ?_
            refine AllReadyH.cons rfl (fun K' hK => ?_) AllReadyH.nil
            go_simp
            refine HDr.out.mono ?_
            rintro e9 W10 ⟨rfl, hm10, hk10, hl10⟩
            have hS71 := HS71.out W10 _ hm10 ⟨HF4.out, rfl, rfl, rfl⟩
            obtain ⟨f4b, hf4b⟩ : ∃ f4b, f4b = ({ f4 with g := { f4.g with l := f4.g.l.set e0.b (dropB (Gc.at_ f4.g.l e0.b)) } } : Fm) := ⟨_, rfl⟩
            have HFin := Lib.hid (show ∀ f5 : Fm, f5.g = f4b.g → f5.se = delE f4b.se e.t.p → f5 = { f4b with g := f5.g, se := f5.se } → Sl2 NB m3 f3 f5 (d2 ++ [e]) from fun f5 h1 h2 h4 => by
              subst hf4b
              refine HSl2.out.fin HU2.out ?_ ?_ h2 h4 (by rw [h1]) (by rw [h1]) (by rw [h1])
              · rw [h1]
                exact HFd.out.drop
              · rw [h1]
                show 3 ≤ Gc.count 0 (f4.g.l.set e0.b (dropB (Gc.at_ f4.g.l e0.b)))
                rw [count_dropB (HFd.out.lenl (by simp)) HFd.out.notFree]
                exact HSl2.out.fr)
            have HSb := Lib.hid (show f4b.SE = f3.SE by rw [hf4b]; exact HS4.out)
            have HFb := Lib.hid (show f4b.F = f.F by rw [hf4b]; exact HF4.out)
            have HPr10 : Hid (Pr NB B R w R2 W10 f4b) := by rw [hf4b]; exact (HPr6.out.on (below_drew w6)).same hm10 hk10
            have hr10 := (hr6.out.on (below_drew w6)).kq hl10 (HNg.out) (HNr.out)
            have HR10 := Lib.hid hr10.1
            have HL10 := Lib.hid (show W10.rangeLeft f3.GO r2 < wr.rangeLeft f3.GO r2 by rw [hr10.2, hr6.out.1.left_on (below_drew w6)]; exact hl6.out)
            refine hK.out _ _ hS71 (fun hS72 => ?_)
            refine wpAnyH_done (by kernel_rfl) ?_ _
            refine NoPanic.normal ?_
            clear hS0 hS70 hS71 hS72 HS71 HD1 HD5 HLs HDr hm10 hk10 hl10 hr10 hf4b
            have c5 := HPr10.out.ft.c5
            rw [HFb.out] at c5
            obtain ⟨o12, hrun12, hm12, hk12⟩ := HPr10.out.ft.delS HKe.out 0
            have hrun12 : ∀ ty, (Builtin.delete_ #[55, 30] ty #[.map (some f4b.SE), .int .u32 (e.t.p : Int)]).run Tryz.prog W10 = .ok (.tuple #[]) (setBlock W10 f4b.SE o12) := fun ty => hrun12
            have hne1 : f4b.SE ≠ f3.GO := by rw [HSb.out]; exact HPr.out.ft.dis.2.1
            have hne2 : f4b.SE ≠ r2 := fun h1 => HRm.out (h1 ▸ by have := HPr10.out.ft; obtain ⟨S, _, h2, _⟩ := this; exact h2 _ (.inl (.inr (.inl rfl))))
            have hr12 := HR10.out.put HPr10.out.ft.hS hne1 hne2 o12
            have HR12 := Lib.hid hr12.1
            have HL12 := Lib.hid (show (setBlock W10 f4b.SE o12).rangeLeft f3.GO r2 < wr.rangeLeft f3.GO r2 by rw [hr12.2]; exact HL10.out)
            have HPr12 := Lib.hid (HPr10.out.same hm12 hk12)
            have HSL12 := Lib.hid (HFin.out { f4b with se := delE f4b.se e.t.p } rfl rfl rfl)
            clear hm12 hk12 hr12 hne1 hne2
            go_wp2_with fail
            go_roundw
            case rel => exact ⟨_, _, HR12.out, HPr12.out, HSL12.out⟩
            case measure => exact HL12.out
      · intro e w6 he hr6 hg6 hs6 hl6 hen
        rw [plV_eq] at hen ⊢
        have HKe := Lib.hid (HPr3.out.ft.hN.key he.out.1)
        have hk6 : Kq (fun q => q = r) wr w6 := (Kq.grown hg6.out).mono fun q e => (Option.some.inj e).symm
        have HPr6 := Lib.hid (HPr.out.mine hk6 fun q hq => by subst hq; exact ⟨HRw.out, HRn.out⟩)
        have hb7 := (Below.refl w6.heap.size w6).alloc (Nat.le_refl _) (.cells #[.int .i64 (e.b : Int), .int .i64 (e.i : Int)] 52)
        have HPr7 := Lib.hid (HPr6.out.on hb7)
        have HT7 := Lib.hid (Blk.new w6 52 #[.int .i64 (e.b : Int), .int .i64 (e.i : Int)])
        have HT9n := Lib.hid (HPr6.out.ft.not_new (Nat.le_refl w6.heap.size))
        have HR7 := Lib.hid (hr6.out.on hb7)
        have HL7 := Lib.hid (show (w6.alloc (.cells #[.int .i64 (e.b : Int), .int .i64 (e.i : Int)] 52)).rangeLeft f2.NO r < wr.rangeLeft f2.NO r by rw [hr6.out.1.left_on hb7]; exact hl6.out)
        have c5 := HPr7.out.ft.c5
        have hFF : f3.F = f.F := by rw [HE3.out]; exact HF2F.out
        rw [hFF] at c5
        have HFF := Lib.hid hFF
        obtain ⟨b2, i2, e2⟩ := plO_form (getE f3.se e.t.p)
        obtain ⟨old, hold⟩ : ∃ old, (getE f3.se e.t.p).isSome = old := ⟨_, rfl⟩
        have hl7 := HPr7.out.ft.hS.lookT HKe.out rfl e2 hold
        have hb8 := (Below.refl _ _).alloc (Nat.le_refl (w6.alloc (.cells #[.int .i64 (e.b : Int), .int .i64 (e.i : Int)] 52)).heap.size) (.cells #[.int .i64 (b2 : Int), .int .i64 (i2 : Int)] 52)
        have HPr8 := Lib.hid (HPr7.out.on hb8)
        have HT8 := Lib.hid (HT7.out.belowHere hb8)
        have HR8 := Lib.hid (HR7.out.on hb8)
        have hL8 := HR7.out.1.left_on hb8
        have HO8 := Lib.hid (Blk.new (w6.alloc (.cells #[.int .i64 (e.b : Int), .int .i64 (e.i : Int)] 52)) 52 #[.int .i64 (b2 : Int), .int .i64 (i2 : Int)])
        have HOn := Lib.hid (HPr7.out.ft.not_new (Nat.le_refl (w6.alloc (.cells #[.int .i64 (e.b : Int), .int .i64 (e.i : Int)] 52)).heap.size))
        have HE2 := Lib.hid e2
        have HOld := Lib.hid hold
        have HLe8 := Lib.hid hL8
        clear hk6 hb7 hFF e2 hold hb8 hL8
        go_upto_region 16 with fail
        clear c5 hl7
        obtain ⟨T9, hT9⟩ : ∃ T9, T9 = wr.heap.size := ⟨_, rfl⟩
        have hT9' : w6.heap.size = T9 := hs6.trans hT9.symm
        obtain ⟨W8, hW8⟩ : ∃ W8, W8 = (w6.alloc (.cells #[.int .i64 (e.b : Int), .int .i64 (e.i : Int)] 52)).alloc (.cells #[.int .i64 (b2 : Int), .int .i64 (i2 : Int)] 52) := ⟨_, rfl⟩
        have HL8 := Lib.hid (show W8.rangeLeft f2.NO r < wr.rangeLeft f2.NO r by rw [hW8, HLe8.out]; exact HL7.out)
        rw [World.size_alloc] at HO8 HOn
        rw [← hW8] at HPr8 HT8 HR8 HO8 ⊢
        rw [hT9'] at HT8 HT9n HO8 HOn
        rw [← hT9] at ⊢
        clear hW8 hT9 hT9' HLe8 HL7
        have HUs := Lib.hid HPr8.out.ft.hS.uq
        cases old
        · have hno : getE f3.se e.t.p = none := by have := HOld.out; cases hg : getE f3.se e.t.p with | none => rfl | some e => rw [hg] at this; cases this
          obtain ⟨f3b, hf3b⟩ : ∃ f3b, f3b = f3 := ⟨_, rfl⟩
          have HFin := Lib.hid (show ∀ f4 : Fm, f4.g = f3b.g → f4.se = putE f3b.se e → f4.go = delE f3b.go e.t.p → f4 = { f3b with g := f4.g, se := f4.se, go := f4.go } → Sl1 NB m f2 f4 (d ++ [e]) from fun f4 h1 h2 h3 h4 => by
            subst hf3b
            refine HSl.out.fin HUn.out HUs.out he.out.1 he.out.2 (fun rest' q1 q2 => ?_) (by rw [h1]; exact HSl.out.fr) h2 h3 h4 (by rw [h1]) (by rw [h1]) (by rw [h1])
            rw [h1, putE_new fun x hx => getE_none hno x hx, List.append_assoc]
            exact q2.le (by omega))
          have HSE := Lib.hid (show f3b.SE = f2.SE by rw [hf3b, HE3.out])
          have HGO := Lib.hid (show f3b.GO = f2.GO by rw [hf3b, HE3.out])
          have HF3b := Lib.hid (show f3b.F = f.F by rw [hf3b]; exact HFF.out)
          have HPr10 : Hid (Pr NB B R w R2 W8 f3b) := by rw [hf3b]; exact HPr8
          have HR10 := HR8
          have HL10 := HL8
          have HT9 := HT8
          clear hf3b hno HPr8 HR8 HL8 HT8
          obtain ⟨W10, hW10⟩ : ∃ W10, W10 = W8 := ⟨_, rfl⟩
          subst hW10
          have hpn := (HPr10.out.ft.on (below_drew W10)).putS e HKe.out
          obtain ⟨o11, hrun, hm11, hk11⟩ := hpn
          have hrun : (Instr.mapUpdate 55 (.map (some f3b.SE)) (.int .u32 (e.t.p : Int)) (.agg #[.int .i64 (e.b : Int), .int .i64 (e.i : Int)])).run Tryz.prog W10.drew = .ok () (setBlock W10.drew f3b.SE o11) := hrun
          have hne1 : f3b.SE ≠ f2.NO := by rw [HSE.out]; exact HPr3.out.ft.dis.1
          have hne2 : f3b.SE ≠ r := fun h1 => HRn.out (h1 ▸ by have := HPr10.out.ft; obtain ⟨S, _, h2, _⟩ := this; exact h2 _ (.inl (.inr (.inl rfl))))
          have hr11 := (HR10.out.on (below_drew W10)).put ((HPr10.out.ft.on (below_drew W10)).hS) hne1 hne2 o11
          have HR11 := Lib.hid hr11.1
          have HL11 := Lib.hid (show (setBlock W10.drew f3b.SE o11).rangeLeft f2.NO r < wr.rangeLeft f2.NO r by rw [hr11.2]; exact HL10.out)
          have HPr11 := Lib.hid ((HPr10.out.on (below_drew W10)).same hm11 hk11)
          have hS10 : W10.drew.cell? ⟨f.F, 5, none⟩ = some (.map (some f3b.SE)) ∧ W10.drew.cell? ⟨T9, 0, none⟩ = some (.int .i64 (e.b : Int)) ∧ W10.drew.cell? ⟨T9, 1, none⟩ = some (.int .i64 (e.i : Int)) := by
            refine ⟨by rw [← HF3b.out]; exact (HPr10.out.ft.on (below_drew W10)).c5, HT9.out.drew.cellv (i := 0) rfl, HT9.out.drew.cellv (i := 1) rfl⟩
          have hS11 : (setBlock W10.drew f3b.SE o11).cell? ⟨f.F, 5, none⟩ = some (.map (some f3b.SE)) ∧ (setBlock W10.drew f3b.SE o11).cell? ⟨T9, 0, none⟩ = some (.int .i64 (e.b : Int)) ∧ (setBlock W10.drew f3b.SE o11).cell? ⟨T9, 1, none⟩ = some (.int .i64 (e.i : Int)) := by
            have hT := HT9.out.drew.kq hk11 HT9n.out
            exact ⟨by rw [← HF3b.out]; exact hm11.c5, hT.cellv (i := 0) rfl, hT.cellv (i := 1) rfl⟩
          have HS10 := Lib.hid hS10
          have HS11 := Lib.hid hS11
          clear hm11 hk11 hS10 hS11 hr11 hne1 hne2
          go_upto_region 18 with fail
          refine wp_region_noPanic ?_
          refine wp_region_held_drew (S := (fun W' => W'.cell? ⟨f.F, 5, none⟩ = some (.map (some f3b.SE)) ∧ W'.cell? ⟨T9, 0, none⟩ = some (.int .i64 (e.b : Int)) ∧ W'.cell? ⟨T9, 1, none⟩ = some (.int .i64 (e.i : Int)))) (by kernel_rfl) HS10.out (fun hS0 => ?_)
          refine takeV 0 (v := (.pointer (some ⟨f.F, 0, none⟩))) rfl (by kernel_rfl) (by kernel_rfl) (by kernel_rfl) (fun _ _ _ h => h) (by rfl) (fun _ _ => rfl) (by assumption) ?_
          try simp only [layR]
          refine takeV 1 (v := (.pointer (some ⟨f.F, 0, none⟩))) rfl (by kernel_rfl) (by kernel_rfl) (by kernel_rfl) (fun _ _ _ h => h) (by rfl) (fun _ _ => rfl) (by assumption) ?_
          try simp only [layR]
          refine takeV 2 (v := (.pointer (some ⟨f.F, 5, none⟩))) rfl (by kernel_rfl) (by kernel_rfl) (by kernel_rfl) (fun _ _ _ h => h) (by rfl) (fun W hSw => ?_) (by assumption) ?_
          · skip
            go_simp
          try simp only [layR]
          refine takeV 3 (v := (.map (some f3b.SE))) rfl (by kernel_rfl) (by kernel_rfl) (by kernel_rfl) (fun _ _ _ h => h) (by rfl) (fun W hSw => ?_) (by assumption) ?_
          · obtain ⟨y7, y8, y9⟩ := hSw
            go_simp
          try simp only [layR]
          refine takeV 4 (v := (.int .u32 (e.t.p : Int))) rfl (by kernel_rfl) (by kernel_rfl) (by kernel_rfl) (fun _ _ _ h => h) (by rfl) (fun _ _ => rfl) (by assumption) ?_
          try simp only [layR]
          refine takeV 5 (v := (.agg #[.int .i64 (e.b : Int), .int .i64 (e.i : Int)])) rfl (by kernel_rfl) (by kernel_rfl) (by kernel_rfl) (fun _ _ _ h => h) (by rfl) (fun W hSw => ?_) (by assumption) ?_
          · obtain ⟨y7, y8, y9⟩ := hSw
            go_simp
          try simp only [layR]
          refine wpAnyH_ready (rs := [6]) (by kernel_rfl) (by simp) ?_
          refine AllReadyH.cons rfl (fun K' hK => ?_) AllReadyH.nil
          go_simp
          refine hK.out _ _ HS11.out (fun hS12 => ?_)
          refine wpAnyH_done (by kernel_rfl) ?_ _
          refine NoPanic.normal ?_
          clear hrun hS0 hS12 HS10 HS11
          obtain ⟨W11, hW11⟩ : ∃ W11, W11 = setBlock W10.drew f3b.SE o11 := ⟨_, rfl⟩
          rw [← hW11] at HPr11 HR11 HL11 ⊢
          clear hW11
          have c7 := HPr11.out.ft.c7
          have c7 : W11.cell? ⟨f3b.F, 7, none⟩ = some (.map (some f3b.GO)) := c7
          rw [HF3b.out] at c7
          obtain ⟨o12, hrun12, hm12, hk12⟩ := HPr11.out.ft.delG HKe.out 0
          have hrun12 : ∀ ty, (Builtin.delete_ #[55, 30] ty #[.map (some f3b.GO), .int .u32 (e.t.p : Int)]).run Tryz.prog W11 = .ok (.tuple #[]) (setBlock W11 f3b.GO o12) := fun ty => hrun12
          have hne1 : f3b.GO ≠ f2.NO := by rw [HGO.out]; exact Ne.symm HPr3.out.ft.dis.2.2
          have hne2 : f3b.GO ≠ r := fun h1 => HRn.out (h1 ▸ by have := HPr10.out.ft; obtain ⟨S, _, h2, _⟩ := this; exact h2 _ (.inl (.inr (.inr (.inr (.inl rfl))))))
          have hr12 := HR11.out.put HPr11.out.ft.hG hne1 hne2 o12
          have HR12 := Lib.hid hr12.1
          have HL12 := Lib.hid (show (setBlock W11 f3b.GO o12).rangeLeft f2.NO r < wr.rangeLeft f2.NO r by rw [hr12.2]; exact HL11.out)
          have HPr12 := Lib.hid (HPr11.out.same hm12 hk12)
          have HSL12 := Lib.hid (HFin.out { f3b with se := putE f3b.se e, go := delE f3b.go e.t.p } rfl rfl rfl rfl)
          clear hm12 hk12 hr12 hne1 hne2
          go_wp2_with fail
          go_roundw
          case rel => exact ⟨_, _, HR12.out, HPr12.out, HSL12.out⟩
          case measure => exact HL12.out

        · obtain ⟨e0, hno⟩ : ∃ e0, getE f3.se e.t.p = some e0 := by have := HOld.out; cases hg : getE f3.se e.t.p with | none => rw [hg] at this; cases this | some e => exact ⟨e, rfl⟩
          obtain ⟨he0, hep⟩ := getE_mem hno
          have hb20 : b2 = e0.b := by
            have := HE2.out
            rw [hno] at this
            have h9 : plV e0.b e0.i = .agg #[.int .i64 (b2 : Int), .int .i64 (i2 : Int)] := this
            unfold plV at h9
            simp only [Value.agg.injEq, Array.mk.injEq, List.cons.injEq, Value.int.injEq, true_and, and_true] at h9
            omega
          have HDl := Lib.hid (show ∀ rest', Fi NB (m + d.length) [] f3.g (f3.se ++ e :: rest') → Fi NB (m + d.length) (b2 :: []) f3.g (putE f3.se e ++ rest') from fun rest' q => by rw [hb20]; exact q.del (putE_move HUs.out he0 hep))
          obtain ⟨_, _, rest0, _, q0⟩ := HSl.out.not HUn.out he.out.1 he.out.2
          have HFd := Lib.hid (HDl.out rest0 q0)
          have HDr := Lib.hid (fDrop2_calls (HPr8.out.ft.on (below_drew W8)) HFd.out)
          have hS0a : W8.drew.cell? ⟨f.F, 1, none⟩ = some (.pointer (some ⟨f3.g.M, 0, none⟩)) ∧ W8.drew.cell? ⟨T9 + 1, 0, none⟩ = some (.int .i64 (b2 : Int)) := ⟨by rw [← HFF.out]; exact (HPr8.out.ft.on (below_drew W8)).c1, HO8.out.drew.cellv (i := 0) rfl⟩
          have HS0a := Lib.hid hS0a
          have HML := Lib.hid (show f2.NO ≠ f3.g.ML ∧ r ≠ f3.g.ML from ⟨by have h1 := HPr8.out.ft.neML.1; rw [show f3.NO = f2.NO by rw [HE3.out]] at h1; exact h1, fun h1 => HRn.out (h1 ▸ by have := HPr8.out.ft; obtain ⟨S, _, h2, _⟩ := this; exact h2 _ (.inr (.inr (.inl rfl))))⟩)
          clear hno he0 hep hb20 q0 hS0a
          go_upto_region 17 with fail
          refine wp_region_noPanic ?_
          refine wp_region_held_drew (S := (fun W' => W'.cell? ⟨f.F, 1, none⟩ = some (.pointer (some ⟨f3.g.M, 0, none⟩)) ∧ W'.cell? ⟨T9 + 1, 0, none⟩ = some (.int .i64 (b2 : Int)))) (by kernel_rfl) HS0a.out (fun hS0 => ?_)
          refine takeV 0 (v := (.pointer (some ⟨f.F, 0, none⟩))) rfl (by kernel_rfl) (by kernel_rfl) (by kernel_rfl) (fun _ _ _ h => h) (by rfl) (fun _ _ => rfl) (by assumption) ?_
          try simp only [layR]
          refine takeV 1 (v := (.pointer (some ⟨f.F, 0, none⟩))) rfl (by kernel_rfl) (by kernel_rfl) (by kernel_rfl) (fun _ _ _ h => h) (by rfl) (fun _ _ => rfl) (by assumption) ?_
          try simp only [layR]
          refine takeV 2 (v := (.pointer (some ⟨f.F, 1, none⟩))) rfl (by kernel_rfl) (by kernel_rfl) (by kernel_rfl) (fun _ _ _ h => h) (by rfl) (fun W hSw => ?_) (by assumption) ?_
          · skip
            go_simp
          try simp only [layR]
          refine takeV 3 (v := (.pointer (some ⟨f3.g.M, 0, none⟩))) rfl (by kernel_rfl) (by kernel_rfl) (by kernel_rfl) (fun _ _ _ h => h) (by rfl) (fun W hSw => ?_) (by assumption) ?_
          · obtain ⟨y8, y9⟩ := hSw
            go_simp
          try simp only [layR]
          refine takeV 4 (v := (.pointer (some ⟨T9 + 1, 0, none⟩))) rfl (by kernel_rfl) (by kernel_rfl) (by kernel_rfl) (fun _ _ _ h => h) (by rfl) (fun W hSw => ?_) (by assumption) ?_
          · skip
            go_simp
          try simp only [layR]
          refine takeV 5 (v := (.int .i64 (b2 : Int))) rfl (by kernel_rfl) (by kernel_rfl) (by kernel_rfl) (fun _ _ _ h => h) (by rfl) (fun W hSw => ?_) (by assumption) ?_
          · obtain ⟨y8, y9⟩ := hSw
            go_simp
          try simp only [layR]
          refine wpAnyH_ready (rs := [6]) (by kernel_rfl) (by simp) ?_
          refine AllReadyH.cons rfl (fun K' hK => ?_) AllReadyH.nil
          go_simp
          refine HDr.out.mono ?_
          rintro e9 W10 ⟨rfl, hm10, hk10, hl10⟩
          obtain ⟨f3b, hf3b⟩ : ∃ f3b, f3b = ({ f3 with g := { f3.g with l := f3.g.l.set b2 (dropB (Gc.at_ f3.g.l b2)) } } : Fm) := ⟨_, rfl⟩
          have hS1 : W10.cell? ⟨f.F, 1, none⟩ = some (.pointer (some ⟨f3.g.M, 0, none⟩)) ∧ W10.cell? ⟨T9 + 1, 0, none⟩ = some (.int .i64 (b2 : Int)) := by
            refine ⟨?_, (HO8.out.drew.kq hk10 HOn.out).cellv (i := 0) rfl⟩
            have h9 := hm10.c1
            have h9 : W10.cell? ⟨f3.F, 1, none⟩ = some (.pointer (some ⟨f3.g.M, 0, none⟩)) := h9
            rw [HFF.out] at h9
            exact h9
          have HFin := Lib.hid (show ∀ f4 : Fm, f4.g = f3b.g → f4.se = putE f3b.se e → f4.go = delE f3b.go e.t.p → f4 = { f3b with g := f4.g, se := f4.se, go := f4.go } → Sl1 NB m f2 f4 (d ++ [e]) from fun f4 h1 h2 h3 h4 => by
            subst hf3b
            refine HSl.out.fin HUn.out HUs.out he.out.1 he.out.2 (fun rest' q1 q2 => ?_) ?_ h2 h3 h4 (by rw [h1]) (by rw [h1]) (by rw [h1])
            · rw [h1]
              exact (HDl.out rest' q2).drop
            · rw [h1]
              show 3 ≤ Gc.count 0 (f3.g.l.set b2 (dropB (Gc.at_ f3.g.l b2)))
              rw [count_dropB (HFd.out.lenl (by simp)) HFd.out.notFree]
              exact HSl.out.fr)
          have HSE := Lib.hid (show f3b.SE = f2.SE by rw [hf3b, HE3.out])
          have HGO := Lib.hid (show f3b.GO = f2.GO by rw [hf3b, HE3.out])
          have HF3b := Lib.hid (show f3b.F = f.F by rw [hf3b]; exact HFF.out)
          have HPr10 : Hid (Pr NB B R w R2 W10 f3b) := by rw [hf3b]; exact (HPr8.out.on (below_drew W8)).same hm10 hk10
          have hr10 := (HR8.out.on (below_drew W8)).kq hl10 HML.out.1 HML.out.2
          have HR10 := Lib.hid hr10.1
          have HL10 := Lib.hid (show W10.rangeLeft f2.NO r < wr.rangeLeft f2.NO r by rw [hr10.2]; exact HL8.out)
          have HT9 := Lib.hid (HT8.out.drew.kq hk10 HT9n.out)
          clear hm10 hk10 hl10 hf3b hr10
          refine hK.out _ _ hS1 (fun hS2 => ?_)
          refine wpAnyH_done (by kernel_rfl) ?_ _
          refine NoPanic.normal ?_
          clear hS0 hS1 hS2 HS0a HDr HPr8 HR8 HL8 HT8
          have hpn := (HPr10.out.ft.on (below_drew W10)).putS e HKe.out
          obtain ⟨o11, hrun, hm11, hk11⟩ := hpn
          have hrun : (Instr.mapUpdate 55 (.map (some f3b.SE)) (.int .u32 (e.t.p : Int)) (.agg #[.int .i64 (e.b : Int), .int .i64 (e.i : Int)])).run Tryz.prog W10.drew = .ok () (setBlock W10.drew f3b.SE o11) := hrun
          have hne1 : f3b.SE ≠ f2.NO := by rw [HSE.out]; exact HPr3.out.ft.dis.1
          have hne2 : f3b.SE ≠ r := fun h1 => HRn.out (h1 ▸ by have := HPr10.out.ft; obtain ⟨S, _, h2, _⟩ := this; exact h2 _ (.inl (.inr (.inl rfl))))
          have hr11 := (HR10.out.on (below_drew W10)).put ((HPr10.out.ft.on (below_drew W10)).hS) hne1 hne2 o11
          have HR11 := Lib.hid hr11.1
          have HL11 := Lib.hid (show (setBlock W10.drew f3b.SE o11).rangeLeft f2.NO r < wr.rangeLeft f2.NO r by rw [hr11.2]; exact HL10.out)
          have HPr11 := Lib.hid ((HPr10.out.on (below_drew W10)).same hm11 hk11)
          have hS10 : W10.drew.cell? ⟨f.F, 5, none⟩ = some (.map (some f3b.SE)) ∧ W10.drew.cell? ⟨T9, 0, none⟩ = some (.int .i64 (e.b : Int)) ∧ W10.drew.cell? ⟨T9, 1, none⟩ = some (.int .i64 (e.i : Int)) := by
            refine ⟨by rw [← HF3b.out]; exact (HPr10.out.ft.on (below_drew W10)).c5, HT9.out.drew.cellv (i := 0) rfl, HT9.out.drew.cellv (i := 1) rfl⟩
          have hS11 : (setBlock W10.drew f3b.SE o11).cell? ⟨f.F, 5, none⟩ = some (.map (some f3b.SE)) ∧ (setBlock W10.drew f3b.SE o11).cell? ⟨T9, 0, none⟩ = some (.int .i64 (e.b : Int)) ∧ (setBlock W10.drew f3b.SE o11).cell? ⟨T9, 1, none⟩ = some (.int .i64 (e.i : Int)) := by
            have hT := HT9.out.drew.kq hk11 HT9n.out
            exact ⟨by rw [← HF3b.out]; exact hm11.c5, hT.cellv (i := 0) rfl, hT.cellv (i := 1) rfl⟩
          have HS10 := Lib.hid hS10
          have HS11 := Lib.hid hS11
          clear hm11 hk11 hS10 hS11 hr11 hne1 hne2
          go_upto_region 18 with fail
          refine wp_region_noPanic ?_
          refine wp_region_held_drew (S := (fun W' => W'.cell? ⟨f.F, 5, none⟩ = some (.map (some f3b.SE)) ∧ W'.cell? ⟨T9, 0, none⟩ = some (.int .i64 (e.b : Int)) ∧ W'.cell? ⟨T9, 1, none⟩ = some (.int .i64 (e.i : Int)))) (by kernel_rfl) HS10.out (fun hS0 => ?_)
          refine takeV 0 (v := (.pointer (some ⟨f.F, 0, none⟩))) rfl (by kernel_rfl) (by kernel_rfl) (by kernel_rfl) (fun _ _ _ h => h) (by rfl) (fun _ _ => rfl) (by assumption) ?_
          try simp only [layR]
          refine takeV 1 (v := (.pointer (some ⟨f.F, 0, none⟩))) rfl (by kernel_rfl) (by kernel_rfl) (by kernel_rfl) (fun _ _ _ h => h) (by rfl) (fun _ _ => rfl) (by assumption) ?_
          try simp only [layR]
          refine takeV 2 (v := (.pointer (some ⟨f.F, 5, none⟩))) rfl (by kernel_rfl) (by kernel_rfl) (by kernel_rfl) (fun _ _ _ h => h) (by rfl) (fun W hSw => ?_) (by assumption) ?_
          · skip
            go_simp
          try simp only [layR]
          refine takeV 3 (v := (.map (some f3b.SE))) rfl (by kernel_rfl) (by kernel_rfl) (by kernel_rfl) (fun _ _ _ h => h) (by rfl) (fun W hSw => ?_) (by assumption) ?_
          · obtain ⟨y7, y8, y9⟩ := hSw
            go_simp
          try simp only [layR]
          refine takeV 4 (v := (.int .u32 (e.t.p : Int))) rfl (by kernel_rfl) (by kernel_rfl) (by kernel_rfl) (fun _ _ _ h => h) (by rfl) (fun _ _ => rfl) (by assumption) ?_
          try simp only [layR]
          refine takeV 5 (v := (.agg #[.int .i64 (e.b : Int), .int .i64 (e.i : Int)])) rfl (by kernel_rfl) (by kernel_rfl) (by kernel_rfl) (fun _ _ _ h => h) (by rfl) (fun W hSw => ?_) (by assumption) ?_
          · obtain ⟨y7, y8, y9⟩ := hSw
            go_simp
          try simp only [layR]
          refine wpAnyH_ready (rs := [6]) (by kernel_rfl) (by simp) ?_
          refine AllReadyH.cons rfl (fun K' hK => ?_) AllReadyH.nil
          go_simp
          refine hK.out _ _ HS11.out (fun hS12 => ?_)
          refine wpAnyH_done (by kernel_rfl) ?_ _
          refine NoPanic.normal ?_
          clear hrun hS0 hS12 HS10 HS11
          obtain ⟨W11, hW11⟩ : ∃ W11, W11 = setBlock W10.drew f3b.SE o11 := ⟨_, rfl⟩
          rw [← hW11] at HPr11 HR11 HL11 ⊢
          clear hW11
          have c7 := HPr11.out.ft.c7
          have c7 : W11.cell? ⟨f3b.F, 7, none⟩ = some (.map (some f3b.GO)) := c7
          rw [HF3b.out] at c7
          obtain ⟨o12, hrun12, hm12, hk12⟩ := HPr11.out.ft.delG HKe.out 0
          have hrun12 : ∀ ty, (Builtin.delete_ #[55, 30] ty #[.map (some f3b.GO), .int .u32 (e.t.p : Int)]).run Tryz.prog W11 = .ok (.tuple #[]) (setBlock W11 f3b.GO o12) := fun ty => hrun12
          have hne1 : f3b.GO ≠ f2.NO := by rw [HGO.out]; exact Ne.symm HPr3.out.ft.dis.2.2
          have hne2 : f3b.GO ≠ r := fun h1 => HRn.out (h1 ▸ by have := HPr10.out.ft; obtain ⟨S, _, h2, _⟩ := this; exact h2 _ (.inl (.inr (.inr (.inr (.inl rfl))))))
          have hr12 := HR11.out.put HPr11.out.ft.hG hne1 hne2 o12
          have HR12 := Lib.hid hr12.1
          have HL12 := Lib.hid (show (setBlock W11 f3b.GO o12).rangeLeft f2.NO r < wr.rangeLeft f2.NO r by rw [hr12.2]; exact HL11.out)
          have HPr12 := Lib.hid (HPr11.out.same hm12 hk12)
          have HSL12 := Lib.hid (HFin.out { f3b with se := putE f3b.se e, go := delE f3b.go e.t.p } rfl rfl rfl rfl)
          clear hm12 hk12 hr12 hne1 hne2
          go_wp2_with fail
          go_roundw
          case rel => exact ⟨_, _, HR12.out, HPr12.out, HSL12.out⟩
          case measure => exact HL12.out
end
end Go.Proofs.YtiipnpfaaghekaaGreat
/-
  A chip is formatted.
-/
namespace Go.Proofs.YtiipnpfaaghekaaGreat
open Go.RowKit

section
variable {NB B C BL : Nat} {S : Nat → Prop} {w : World} {ps : Nat → Nat} {bl : Nat → Pb}
set_option maxRecDepth 100000 in
set_option maxHeartbeats 4000000 in
theorem badBlocks_calls (h : ChM NB B S w C BL ps bl) (hnb : NB ≤ 1000) (hb : ∀ k, k < NB → (bl k).bad = false) :
    Calls Tryz.prog 48 #[.pointer (some ⟨C, 0, none⟩)] w fun e w' => e = .returned (.int .i64 0) ∧ Below w.heap.size w w' := by
  have HH := Lib.hid h
  have HBd := Lib.hid hb
  have HG := Lib.hid (chGeo_calls h)
  have hf := geoF0 (.int .i64 (NB : Int)) (.int .i64 8) (.int .i64 64)
  clear h hb
  go_enter Tryz.func48, Tryz.ntmps48
  go_wp2_with fail
  refine HG.out.mono ?_
  rintro e w1 ⟨rfl, hb1⟩
  have HB1 := Lib.hid hb1
  clear hb1
  unfold geoV
  go_wp2_with fail
  go_loopw [3, 4, 8] (fun n _ i wr => ∃ k : Nat, k ≤ NB ∧ i = .int .i64 (k : Int) ∧ n = .int .i64 0 ∧ Below w.heap.size w wr) (fun _ _ i _ => NB - (intOf i).toNat)
  case atStart => exact ⟨0, by omega, rfl, rfl, HB1.out⟩
  case round =>
    obtain ⟨k, hk, rfl, rfl, hb⟩ := hrel
    have HBr := Lib.hid hb
    clear hb
    by_cases hlt : k < NB
    · have hk1 : (k : Int) < (NB : Int) := by omega
      have HBa := Lib.hid (chBad_calls (HH.out.on HBr.out) hlt)
      rw [HBd.out k hlt] at HBa
      go_wp2_with fail
      refine HBa.out.mono ?_
      rintro e w_ ⟨rfl, rfl⟩
      go_wp2_with fail
      go_roundw
      case rel => exact ⟨k + 1, by omega, by go_num, rfl, HBr.out⟩
      case measure => simp [intOf]; omega
    · obtain rfl : k = NB := by omega
      go_wp2_with fail
      go_ret
      exact ⟨rfl, HBr.out⟩
end
end Go.Proofs.YtiipnpfaaghekaaGreat
namespace Go.Proofs.YtiipnpfaaghekaaGreat
open Go.RowKit Ftl Go.ChangeMaps Go.Maps

/-- Between two erasures. -/
structure FmI (B : Nat) (S : Nat → Prop) (w : World) (C BL G gb k : Nat) (S' : Nat → Prop) (ps' : Nat → Nat) (wr : World) : Prop where
  hc : ChM 16 B S' wr C BL ps' (once k)
  hG : Blk wr G 48 #[.int .i64 16, .int .i64 8, .int .i64 64]
  ho : Own bolV 4 wr w.heap.size (.slice (some ⟨gb, 0, none⟩) 16 16) (truB k)
  hk : Kq S w wr
  up : ∀ q, S' q → Up S w wr q
  nG : ¬ S' G
  nb : ¬ S' gb
  lG : w.heap.size ≤ G
  lb : w.heap.size ≤ gb
  ne : gb ≠ G
section
variable {B C BL G gb k : Nat} {S S' : Nat → Prop} {w wr w' : World} {ps ps' ps2 : Nat → Nat}
theorem FmI.on (h : FmI B S w C BL G gb k S' ps' wr) (hb : Below wr.heap.size wr w') : FmI B S w C BL G gb k S' ps' w' :=
  ⟨h.hc.on hb, h.hG.belowHere hb, h.ho.on hb, h.hk.on hb, fun q hq => by rcases h.up q hq with e | e; exact .inl e; exact .inr ⟨e.1, by have := hb.size; omega⟩, h.nG, h.nb, h.lG, h.lb, h.ne⟩
theorem FmI.erase (h : FmI B S w C BL G gb k S' ps' wr) (hc : ChM 16 B (Up S' wr w') w' C BL ps2 (upd (once k) k (fresh 1))) (hq : Kq S' wr w') (hk : k < 16) :
    w'.cell? ⟨gb, k, none⟩ = some (.bool ((truB k)[k]'(by rw [truB_len (by omega)]; exact hk))) ∧ w'.frozen? ⟨gb, k, none⟩ = false ∧ FmI B S w C BL G gb (k + 1) (Up S' wr w') ps2 (w'.setCell ⟨gb, k, none⟩ (.bool true)) := by
  have hs := hq.size
  have lG := h.hG.lt
  have lb := (h.ho.blockLt gb rfl).2
  have ho := h.ho.kq hq fun q e => by obtain rfl := own_of _ _ _ _ e; exact h.nb
  have hG := h.hG.kq hq h.nG
  obtain ⟨c1, c2⟩ := ho.cellg (k := k) (by rw [truB_len (by omega)]; exact hk)
  have ho2 := ho.set k true
  rw [truB_set hk] at ho2
  rw [once_upd] at hc
  have nG : ¬ Up S' wr w' G := fun e => h.nG (up_of e lG)
  have nb : ¬ Up S' wr w' gb := fun e => h.nb (up_of e lb)
  refine ⟨c1, c2, hc.kq (Kq.one ⟨gb, k, none⟩ (.bool true)) (fun q hq e => nb (by obtain rfl : q = gb := e; exact hq)), hG.far (by simpa using Ne.symm h.ne) _, ho2, ?_, fun q hq => ?_, nG, nb, h.lG, h.lb, h.ne⟩
  · refine (h.hk.then_ hq fun q hq => ?_).setCell (.inr h.lb) _
    rcases h.up q hq with e | e
    · exact .inl e
    · exact .inr e.1
  · rw [show Up S w (w'.setCell ⟨gb, k, none⟩ (.bool true)) q = Up S w w' q by unfold Up; rw [World.size_setCell]]
    rcases hq with e | e
    · rcases h.up q e with e | e
      · exact .inl e
      · exact .inr ⟨e.1, by omega⟩
    · exact .inr ⟨by have := h.hk.size; omega, e.2⟩
/-- What Format lays before the manager is opened. -/
def fmA0 (C s : Nat) : Array Value := #[.pointer (some ⟨C, 0, none⟩), .pointer none, .int .i64 2, .int .i64 0, .slice none 0 0, .map (some s), .map (some (s + 1)), .map (some (s + 1 + 1)), .int .u64 1, .int .u64 1, .slice (some ⟨s + 1 + 1 + 1, 0, none⟩) 16 16, .bool false]
def fmW (w : World) (C : Nat) : World := ((((w.alloc (.map #[] 0)).alloc (.map #[] 0)).alloc (.map #[] 0)).alloc (.cells ((List.replicate 16 false).map bolV).toArray 4)).alloc (.cells (fmA0 C w.heap.size) 59)
theorem fmW_size (w : World) (C : Nat) : (fmW w C).heap.size = w.heap.size + 1 + 1 + 1 + 1 + 1 := by unfold fmW; simp
theorem fmW_below (w : World) (C : Nat) : Below w.heap.size w (fmW w C) := by
  unfold fmW
  exact (((((Below.refl _ _).alloc (Nat.le_refl _) _).alloc (by simp) _).alloc (by simp; omega) _).alloc (by simp; omega) _).alloc (by simp; omega) _
theorem fmt_ft {w8 w11 : World} {M ML cap s : Nat} (hSB : ∀ q, S q → B ≤ q ∧ q < w.heap.size) (hB0 : B ≤ w.heap.size) (hs : s = w8.heap.size) (hi : FmI B S w C BL G gb 16 S' ps' w8) (hb : Below (fmW w8 C).heap.size (fmW w8 C) w11) (hM : (fmW w8 C).heap.size ≤ M) (hML : (fmW w8 C).heap.size ≤ ML) (hg : MgM 16 B S' w11 (fmG M ML C BL cap ps')) :
    w11.cell? ⟨s + 1 + 1 + 1 + 1, 1, none⟩ = some (.pointer none) ∧ w11.frozen? ⟨s + 1 + 1 + 1 + 1, 1, none⟩ = false ∧ FtR 16 B S w (w11.setCell ⟨s + 1 + 1 + 1 + 1, 1, none⟩ (.pointer (some ⟨M, 0, none⟩))) (fm0 (s + 1 + 1 + 1 + 1) s (s + 1) (s + 1 + 1) (s + 1 + 1 + 1) (fmG M ML C BL cap ps')) := by
  have hsz := fmW_size w8 C
  rw [← hs] at hsz
  have hF9 : Blk (fmW w8 C) (s + 1 + 1 + 1 + 1) 59 (fmA0 C s) := by
    have h1 := Blk.new ((((w8.alloc (.map #[] 0)).alloc (.map #[] 0)).alloc (.map #[] 0)).alloc (.cells ((List.replicate 16 false).map bolV).toArray 4)) 59 (fmA0 C w8.heap.size)
    simp only [World.size_alloc] at h1
    rw [hs]
    exact h1
  have hF := hF9.belowHere hb
  have hold : ∀ q, q < s + 1 + 1 + 1 + 1 → (w11.setCell ⟨s + 1 + 1 + 1 + 1, 1, none⟩ (.pointer (some ⟨M, 0, none⟩))).heap[q]? = (fmW w8 C).heap[q]? := fun q hq => (heap_setCell_other _ _ _ _ (by show q ≠ s + 1 + 1 + 1 + 1; omega)).trans (hb.block q (by omega))
  have hq1 : Kq (fun q => q = s + 1 + 1 + 1 + 1) w11 (w11.setCell ⟨s + 1 + 1 + 1 + 1, 1, none⟩ (.pointer (some ⟨M, 0, none⟩))) := Kq.one ⟨_, _, none⟩ _
  have hS' : ∀ q, S' q → B ≤ q ∧ q < s := fun q hq => ⟨hi.hc.lo q hq, by rw [hs]; exact hi.hc.hi q hq⟩
  have hw := hi.hk.size
  have hBs : B ≤ w8.heap.size := hi.hc.base
  have hsz11 := hb.size
  have hkw : Kq S w (w11.setCell ⟨s + 1 + 1 + 1 + 1, 1, none⟩ (.pointer (some ⟨M, 0, none⟩))) := ((hi.hk.on (fmW_below w8 C)).on hb).setCell (p := ⟨s + 1 + 1 + 1 + 1, 1, none⟩) (.inr (by show w.heap.size ≤ s + 1 + 1 + 1 + 1; omega)) _
  have hMlt : M < w11.heap.size := hg.hi M (.inl rfl)
  have hMLlt : ML < w11.heap.size := hg.hi ML (.inr (.inl rfl))
  have hBw : ∀ q, Up S w (w11.setCell ⟨s + 1 + 1 + 1 + 1, 1, none⟩ (.pointer (some ⟨M, 0, none⟩))) q → B ≤ q ∧ q < (w11.setCell ⟨s + 1 + 1 + 1 + 1, 1, none⟩ (.pointer (some ⟨M, 0, none⟩))).heap.size := fun q hq => by
    rw [World.size_setCell] at *
    rcases hq with e | e
    · have := hSB q e
      omega
    · rw [World.size_setCell] at e
      omega
  refine ⟨hF.cellv rfl, hF.frozen 1, ft_made (S := S') ?_ ?_ ?_ ?_ ?_ rfl rfl ?_ ?_ ?_ ?_ hBw, hkw⟩
  · exact hF.set 1 _
  · refine MapE.same (w := fmW w8 C) ?_ (hold s (by omega))
    have h1 := ((((MapE.made w8).alloc (.map #[] 0)).alloc (.map #[] 0)).alloc (.cells ((List.replicate 16 false).map bolV).toArray 4)).alloc (.cells (fmA0 C w8.heap.size) 59)
    rw [hs]
    exact h1
  · refine MapE.same (w := fmW w8 C) ?_ (hold (s + 1) (by omega))
    have h1 := (((MapE.made (w8.alloc (.map #[] 0))).alloc (.map #[] 0)).alloc (.cells ((List.replicate 16 false).map bolV).toArray 4)).alloc (.cells (fmA0 C w8.heap.size) 59)
    simp only [World.size_alloc] at h1
    rw [hs]
    exact h1
  · refine MapE.same (w := fmW w8 C) ?_ (hold (s + 1 + 1) (by omega))
    have h1 := ((MapE.made ((w8.alloc (.map #[] 0)).alloc (.map #[] 0))).alloc (.cells ((List.replicate 16 false).map bolV).toArray 4)).alloc (.cells (fmA0 C w8.heap.size) 59)
    simp only [World.size_alloc] at h1
    rw [hs]
    exact h1
  · have h1 := Own.made (f := bolV) (e := 4) (w := ((w8.alloc (.map #[] 0)).alloc (.map #[] 0)).alloc (.map #[] 0)) (base := 0) (xs := List.replicate 16 false) (Nat.zero_le _) (by simp [maxLen])
    have h2 := h1.alloc (.cells (fmA0 C w8.heap.size) 59)
    simp only [World.size_alloc, List.length_replicate] at h2
    have h3 : Own bolV 4 (fmW w8 C) 0 (.slice (some ⟨s + 1 + 1 + 1, 0, none⟩) 16 16) (List.replicate 16 false) := by rw [hs]; exact h2
    exact (h3.on hb).kq hq1 fun q e => by obtain rfl := own_of _ _ _ _ e; omega
  · refine hg.kq hq1 fun q hq e => ?_
    rcases hq with e1 | e1 | e1
    · have : q = M := e1
      omega
    · have : q = ML := e1
      omega
    · have := hS' q e1
      omega
  · simp [fm0]; omega
  · intro q hq
    simp only [fm0, List.mem_cons, List.not_mem_nil, or_false] at hq
    refine ⟨fun h1 => ?_, by omega, .inr ⟨by omega, by rw [World.size_setCell]; omega⟩⟩
    rcases h1 with e1 | e1 | e1
    · have : q = M := e1
      omega
    · have : q = ML := e1
      omega
    · have := hS' q e1
      omega
  · intro q hq
    rcases hq with e1 | e1 | e1
    · have : q = M := e1
      exact .inr ⟨by omega, by rw [World.size_setCell]; omega⟩
    · have : q = ML := e1
      exact .inr ⟨by omega, by rw [World.size_setCell]; omega⟩
    · rcases hi.up q e1 with e2 | e2
      · exact .inl e2
      · exact .inr ⟨e2.1, by rw [World.size_setCell]; omega⟩
/-- What Format leaves. -/
def Fmtd (B : Nat) (S : Nat → Prop) (C : Nat) (tx : List UInt8) (w : World) (e : Ending) (w' : World) : Prop :=
  ∃ f, e = .returned (.tuple #[.pointer (some ⟨f.F, 0, none⟩), .int .i64 0]) ∧ FtR 16 B S w w' f ∧ f.g.C = C ∧ Fmd f tx
set_option maxRecDepth 100000 in
set_option maxHeartbeats 16000000 in
theorem fFormat_calls (h : ChM 16 B S w C BL ps (fun _ => fresh 0)) (a : Option Addr) (c : Nat) (tx : List UInt8) (hx : Bytes w w.heap.size a 56 tx) (hap : ∀ b o, a = some ⟨b, o, none⟩ → ¬ S b) :
    Calls Tryz.prog 20 #[.pointer (some ⟨C, 0, none⟩), .int .i64 2, .slice a 56 c] w (Fmtd B S C tx w) := by
  rw [← once_zero] at h
  have HU := Lib.hid (chUp_calls h)
  have HH := Lib.hid h
  have HG := Lib.hid (fun (W : World) (hW : Below w.heap.size w W) => chGeo_calls (h.on hW))
  have HX := Lib.hid hx
  have HAp := Lib.hid hap
  have HAb := Lib.hid (show ∀ b o, a = some ⟨b, o, none⟩ → b < w.heap.size from fun b o e => by obtain ⟨b', o', e', hlt, _⟩ := hx.2.2 (by omega); rw [e] at e'; injection e' with e'; injection e' with e'; omega)
  have hf2 := geoF2 (.int .i64 16) (.int .i64 8) (.int .i64 64)
  have hcs := geoCells
  have HBa := Lib.hid (fun (W : World) (hW : Below w.heap.size w W) => badBlocks_calls (h.on hW) (by decide) (fun k _ => once_bad 0 k))
  have HDa := Lib.hid (fun (W : World) => show Calls Tryz.prog 38 #[.agg #[.int .i64 16, .int .i64 8, .int .i64 64], .int .i64 2, .int .i64 0] W fun e w' => e = .returned (.int .i64 13) ∧ Below W.heap.size W w' from fdataBlocks_calls (w := W) (NB := 16) (by decide))
  clear h hx hap
  go_enter Tryz.func20, Tryz.ntmps20
  go_wp2_with fail
  refine (HU.out).mono ?_
  rintro e w_ ⟨rfl, rfl⟩
  go_wp2_with fail
  refine (HG.out w (Below.refl _ _)).mono ?_
  rintro e w1 ⟨rfl, hb1⟩
  have HB1 := Lib.hid hb1
  clear hb1
  unfold geoV
  go_wp2_with fail
  refine (HG.out w1 HB1.out).mono ?_
  rintro e w2 ⟨rfl, hb2⟩
  have hb3 := (HB1.out.then_ hb2).alloc (HB1.out.then_ hb2).size (.cells #[.int .i64 16, .int .i64 8, .int .i64 64] 48)
  have HB2 := Lib.hid hb3
  have HGb := Lib.hid (Blk.new w2 48 #[.int .i64 16, .int .i64 8, .int .i64 64])
  have HG2 := Lib.hid (HB1.out.then_ hb2).size
  clear hb2 hb3
  unfold geoV
  go_upto_region 8 with fail
  have HSz := Lib.hid (fun q (e : S q) => HH.out.hi q e)
  generalize w2.alloc (.cells #[.int .i64 16, .int .i64 8, .int .i64 64] 48) = w3 at *
  generalize w2.heap.size = G at *
  have HBw := Lib.hid (HB2.out.then_ (below_drew w3))
  have HGd := Lib.hid (show Blk w3.drew G 48 #[.int .i64 16, .int .i64 8, .int .i64 64] from HGb.out.belowHere (below_drew w3))
  refine wp_region_noPanic ?_
  refine wp_region_held_drew (S := (fun W' => Blk W' G 48 #[.int .i64 16, .int .i64 8, .int .i64 64])) (by kernel_rfl) HGd.out (fun hS0 => ?_)
  generalize w3.drew = W at *
  refine takeV 0 (v := (.agg #[.int .i64 16, .int .i64 8, .int .i64 64])) rfl (by kernel_rfl) (by kernel_rfl) (by kernel_rfl) (fun _ _ _ h => h) (by rfl) (fun W hSw => ?_) (by assumption) ?_
  · have y0 := hSw.cellv (i := 0) rfl; have y1 := hSw.cellv (i := 1) rfl; have y2 := hSw.cellv (i := 2) rfl
    go_simp
  try simp only [layR]
  refine takeV 1 (v := (.int .i64 2)) rfl (by kernel_rfl) (by kernel_rfl) (by kernel_rfl) (fun _ _ _ h => h) (by rfl) (fun _ _ => rfl) (by assumption) ?_
  try simp only [layR]
  refine takeV 2 (v := (.pointer (some ⟨C, 0, none⟩))) rfl (by kernel_rfl) (by kernel_rfl) (by kernel_rfl) (fun _ _ _ h => h) (by rfl) (fun _ _ => rfl) (by assumption) ?_
  try simp only [layR]
  refine wpAnyH_ready (rs := [3]) (by kernel_rfl) (by simp) ?_
  refine AllReadyH.cons rfl (fun K' hK => ?_) AllReadyH.nil
  go_simp
  refine (HBa.out W HBw.out).mono ?_
  rintro e w4 ⟨rfl, hb4⟩
  have hS4 := hS0.belowHere hb4
  have HB4 := Lib.hid (HBw.out.then_ hb4)
  clear hb4
  refine hK.out _ _ hS4 (fun hS5 => ?_)
  try simp only [layR]
  refine wpAnyH_ready (rs := [4]) (by kernel_rfl) (by simp) ?_
  refine AllReadyH.cons rfl (fun K' hK => ?_) AllReadyH.nil
  go_simp
  refine (HDa.out w4).mono ?_
  rintro e w5 ⟨rfl, hb5⟩
  have hS6 := hS5.belowHere hb5
  have HB5 := Lib.hid (HB4.out.then_ hb5)
  clear hb5
  refine hK.out _ _ hS6 (fun hS7 => ?_)
  try simp only [layR]
  refine takeV 5 (v := (.bool false)) rfl (by kernel_rfl) (by kernel_rfl) (by kernel_rfl) (fun _ _ _ h => h) (by rfl) (fun W hSw => ?_) (by assumption) ?_
  · skip
    go_simp
  try simp only [layR]
  refine wpAnyH_done (by kernel_rfl) ?_ _
  refine NoPanic.normal ?_
  have HG5 := Lib.hid hS6
  have g0 := hS6.cellv (i := 0) (v := .int .i64 16) rfl
  clear hS0 hS4 hS5 hS6 hS7 HGd HGb HBw HB2 HB4 HB1
  have hmk := fmBools
  go_upto_region 11 with fail
  generalize hwa : w5.alloc _ = w6
  have HF0 := Lib.hid (show FmI B S w C BL G w5.heap.size 0 S ps w6 from by
    rw [← hwa]
    have hb6 := (Below.refl w5.heap.size w5).alloc (Nat.le_refl _) (.cells ((List.replicate 16 false).map bolV).toArray 4)
    have hs5 := HB5.out.size
    have hg := HG5.out.lt
    have hg2 := HG2.out
    exact ⟨HH.out.on (HB5.out.then_ hb6), HG5.out.belowHere hb6, Own.made (f := bolV) (e := 4) (w := w5) (base := w.heap.size) (xs := List.replicate 16 false) hs5 (by simp [maxLen]), Kq.of (HB5.out.then_ hb6), fun q hq => .inl hq, fun e => by have := HSz.out _ e; omega, fun e => by have := HSz.out _ e; omega, hg2, hs5, by omega⟩)
  generalize w5.heap.size = gb at *
  clear hwa g0 hmk HG5 HB5 HBa
  go_wp2_with fail
  go_loopw [10, 11, 51] (fun _ _ i wr => ∃ (k : Nat) (S' : Nat → Prop) (ps' : Nat → Nat), k ≤ 16 ∧ i = .int .i64 (k : Int) ∧ FmI B S w C BL G gb k S' ps' wr) (fun _ _ i _ => 16 - (intOf i).toNat)
  case atStart => exact ⟨0, S, ps, by omega, rfl, HF0.out⟩
  case round =>
    obtain ⟨k, S', ps', hk, rfl, hi⟩ := hrel
    clear HF0
    by_cases hlt : k < 16
    · have hk0 : (0 : Int) ≤ (k : Int) := by omega
      have hk1 : (k : Int) < 16 := by omega
      have hba := chBad_calls hi.hc hlt
      have her := chErase_calls hi.hc hlt (once_at k).1 (by rw [(once_at k).2]; decide)
      rw [(once_at k).1] at hba
      rw [(once_at k).2] at her
      have HBad := Lib.hid hba
      have HEr := Lib.hid her
      have HI := Lib.hid hi
      clear hba her hi
      go_wp2_with fail
      refine HBad.out.mono ?_
      rintro e w_ ⟨rfl, rfl⟩
      go_wp2_with fail
      refine HEr.out.mono ?_
      rintro e w7 ⟨rfl, ⟨ps2, hc⟩, hq⟩
      obtain ⟨c1, c2, h2⟩ := HI.out.erase hc hq hlt
      have H2 := Lib.hid h2
      clear hc hq h2
      generalize (truB k)[k]'(by rw [truB_len (by omega)]; exact hlt) = bk at *
      go_wp2_with fail
      go_roundw
      case rel => exact ⟨k + 1, _, _, by omega, by go_num, H2.out⟩
      case measure => simp [intOf]; omega
    · obtain rfl : k = 16 := by omega
      have HI := Lib.hid hi
      have HBad := Lib.hid (badBlocks_calls hi.hc (by decide) (fun k _ => once_bad 16 k))
      clear hi
      go_wp2_with fail
      refine HBad.out.mono ?_
      rintro e w7 ⟨rfl, hb7⟩
      have HI7 := Lib.hid (HI.out.on hb7)
      clear hb7
      have g0 := HI7.out.hG.cellv (i := 0) (v := .int .i64 16) rfl
      have g1 := HI7.out.hG.cellv (i := 1) (v := .int .i64 8) rfl
      have g2 := HI7.out.hG.cellv (i := 2) (v := .int .i64 64) rfl
      go_wp2_with fail
      refine (HDa.out w7).mono ?_
      rintro e w8 ⟨rfl, hb8⟩
      have HI8 := Lib.hid (HI7.out.on hb8)
      clear hb8 g0 g1 g2
      have g0 : (((w8.alloc (.map #[] 0)).alloc (.map #[] 0)).alloc (.map #[] 0)).cell? ⟨G, 0, none⟩ = some (.int .i64 16) := (((HI8.out.hG.alloc _).alloc _).alloc _).cellv rfl
      have hmk := fmBools
      have hmm := @run_makeMap Tryz.prog
      go_upto_region 27 with fail
      generalize hw9 : World.alloc _ _ = w9
      have hw9' : w9 = fmW w8 C := hw9.symm
      obtain ⟨s, hs⟩ : ∃ s, s = w8.heap.size := ⟨_, rfl⟩
      rw [← hs]
      have HW9 := Lib.hid hw9'
      have HSs := Lib.hid hs
      clear hw9 hw9' hs g0 hmk hmm
      have hb9 : Below w8.heap.size w8 w9 := by rw [HW9.out]; exact fmW_below w8 C
      have HB9 := Lib.hid hb9
      have g0 := (HI8.out.hG.belowHere hb9).cellv (i := 0) (v := .int .i64 16) rfl
      clear hb9
      have hmi := fmInts w9
      have HLv := Lib.hid (show Own naV 3 (w9.alloc (.cells ((List.replicate 16 0).map naV).toArray 3)) w9.heap.size (.slice (some ⟨w9.heap.size, 0, none⟩) 16 16) (List.replicate 16 0) from Own.made (f := naV) (e := 3) (w := w9) (base := w9.heap.size) (xs := List.replicate 16 0) (Nat.le_refl _) (by simp [maxLen]))
      have HBl := Lib.hid ((Below.refl w9.heap.size w9).alloc (Nat.le_refl _) (.cells ((List.replicate 16 0).map naV).toArray 3))
      generalize hcz : (Obj.cells ((List.replicate 16 0).map naV).toArray 3) = oz at *
      clear hcz
      go_wp2_with fail
      have HI10 := Lib.hid ((HI8.out.on HB9.out).on HBl.out)
      refine (bOpen_calls HI10.out.hc (by decide) (by decide) (fun k _ => Nat.le_trans (once_wear 16 k) (by decide)) _ 16 (truB 16) (HI10.out.ho.arr (by rw [truB_len (Nat.le_refl _)]; decide)) _ 16 _ (HLv.out.arr (by simp)) (fun k hk => by
        have e : (List.replicate 16 0).getD k 0 = 0 := by rw [List.getD_eq_getElem?_getD, List.getElem?_replicate]; split <;> rfl
        rw [e]; exact ⟨by omega, fun _ => rfl⟩) 2 0).mono ?_
      rintro e w11 ⟨M, ML, cap, rfl, hM, hML, hm, hb⟩
      rw [show (⟨M, ML, C, BL, cap, ps', once 16, openL (once 16) (truB 16) (List.replicate 16 0) 16, -1, ((2 : Nat) : Int), ((0 : Nat) : Int), decide (4 < (Gc.greatest (openL (once 16) (truB 16) (List.replicate 16 0) 16) : Int) - Gc.least (openL (once 16) (truB 16) (List.replicate 16 0) 16))⟩ : Mg) = fmG M ML C BL cap ps' from fmG_of] at hm
      have hsz := HBl.out.size
      obtain ⟨c1, z1, h12⟩ := fmt_ft (fun q hq => ⟨HH.out.lo q hq, HH.out.hi q hq⟩) HH.out.base HSs.out HI8.out (w11 := w11) (M := M) (ML := ML) (cap := cap) (by rw [← HW9.out]; exact HBl.out.then_ hb) (by rw [← HW9.out]; omega) (by rw [← HW9.out]; omega) hm
      have H12 := Lib.hid h12
      clear hb hm hM hML hsz h12 hmi g0 HLv HI10 HBl
      have HFc := Lib.hid (fm0_fc (s + 1 + 1 + 1 + 1) s (s + 1) (s + 1 + 1) (s + 1 + 1 + 1) M ML C BL cap ps')
      generalize hf0 : fm0 (s + 1 + 1 + 1 + 1) s (s + 1) (s + 1 + 1) (s + 1 + 1 + 1) (fmG M ML C BL cap ps') = f0 at *
      have HF0 := Lib.hid hf0.symm
      have hfF : f0.F = s + 1 + 1 + 1 + 1 := by rw [← hf0]; rfl
      clear hf0
      have HX12 := Lib.hid ((HX.out.kq (Nat.le_refl _) H12.out.2 HAp.out).mono H12.out.2.size)
      have hse := fSeal_calls H12.out.1 HFc.out (by rw [HF0.out]; exact (show 1 ≤ 1000000 by decide)) a c tx HX12.out (fun b o e h1 => HAp.out b o e (up_of h1 (HAb.out b o e))) (.inr (by rw [HF0.out]; exact (show (0 : Nat) + 3 ≤ 8 * (16 - 3) by decide)))
      rw [hfF] at hse
      have HSe := Lib.hid hse
      clear hse
      go_wp2_with fail
      refine HSe.out.mono ?_
      rintro e w13 ⟨rfl, f', hfr, hsd⟩
      rw [HF0.out] at hsd
      obtain ⟨q1, q2, q3⟩ := fmd hsd
      have H13 := Lib.hid (H12.out.then_ hfr)
      have HQ := Lib.hid q1
      have HQ3 := Lib.hid q3
      have HQ2 := Lib.hid q2
      clear q1 q2 q3 hfr hsd
      go_wp2_with fail
      go_ret2
      exact ⟨f', by rw [HQ2.out]; rfl, H13.out, HQ3.out, HQ.out⟩
end
end Go.Proofs.YtiipnpfaaghekaaGreat
/-
  A new chip, all its blocks.
-/
namespace Go.Proofs.YtiipnpfaaghekaaGreat
open Go.RowKit

/-- 64 bytes that begin so. -/
def pageL (b : List UInt8) : List UInt8 := b.take 64 ++ (List.replicate 64 (0 : UInt8)).drop b.length
theorem pageL_len (b : List UInt8) : (pageL b).length = 64 := by simp [pageL]; omega
set_option maxHeartbeats 4000000 in
theorem page_calls (a : Option Addr) (n c : Nat) (b : List UInt8) (w : World) (hx : Bytes w w.heap.size a n b) :
    Calls Tryz.prog 7 #[.slice a n c] w fun e w' => (∃ a' c', e = .returned (.slice a' 64 c') ∧ Own byteV 5 w' w.heap.size (.slice a' 64 c') (pageL b)) ∧ Below w.heap.size w w' := by
  have hmk := mk64
  have HO := Lib.hid (ownMadeZ w w.heap.size 64 (Nat.le_refl _) (by omega))
  have HB := Lib.hid ((Below.refl w.heap.size w).alloc (Nat.le_refl _) (.cells (Array.replicate 64 (.int .u8 0)) 5))
  have HX := Lib.hid (hx.alloc (.cells (Array.replicate 64 (.int .u8 0)) 5))
  have hl := hx.len
  clear hx
  go_enter Tryz.func7, Tryz.ntmps7
  go_wp2_with (with_reducible refine wpList_copy0 rfl _ _ rfl w.heap.size w.heap.size 64 64 _ rfl HO.out _ a n c b rfl HX.out ?_; intro w2 HO2 HB2)
  go_ret
  refine ⟨⟨_, _, rfl, ?_⟩, HB.out.trans HB2.out⟩
  have h5 := HO2.out
  unfold pageL
  rw [hl]
  exact h5
end Go.Proofs.YtiipnpfaaghekaaGreat
/-
  A translation on a new small chip.
-/
namespace Go.Proofs.YtiipnpfaaghekaaGreat
open Go.RowKit

def rowJ (ps : Nat → Nat) (k j : Nat) : Bv := if j < k then pbV (ps j) (fresh 0) else bv0
/-- The first k blocks have their rows of pages. -/
structure BlJ (g : Nat) (w wr : World) (k : Nat) (ps : Nat → Nat) : Prop where
  hG : Blk wr g 48 #[.int .i64 16, .int .i64 8, .int .i64 64]
  hC : Blk wr (g + 2) 94 (chQ 16 (g + 1) 0 0 0)
  hB : OwnM 5 bvL 90 wr g (.slice (some ⟨g + 1, 0, none⟩) 16 16) ((List.range 16).map (rowJ ps k))
  hP : ∀ j, j < k → Own vId 22 wr g (.slice (some ⟨ps j, 0, none⟩) 8 8) nil8 ∧ g + 2 < ps j ∧ ps j < wr.heap.size
  inj : ∀ i j, i < k → j < k → ps i = ps j → i = j
  hb : Below g w wr
theorem BlJ.on {g k : Nat} {w wr w' : World} {ps : Nat → Nat} (h : BlJ g w wr k ps) (hb : Below wr.heap.size wr w') : BlJ g w w' k ps := by
  obtain ⟨h1, h2, h3, h4, h5, h6⟩ := h
  exact ⟨h1.belowHere hb, h2.belowHere hb, h3.on hb, fun j hj => ⟨(h4 j hj).1.on hb, (h4 j hj).2.1, Nat.lt_of_lt_of_le (h4 j hj).2.2 hb.size⟩, h5, h6.trans (hb.mono (Nat.le_of_lt h1.lt))⟩
theorem BlJ.step {g k : Nat} {w wr : World} {ps : Nat → Nat} (h : BlJ g w wr k ps) (hk : k < 16) :
    BlJ g w ((wr.alloc (.cells (nil8.map vId).toArray 22)).setCell ⟨g + 1, k * 5, none⟩ (.slice (some ⟨wr.heap.size, 0, none⟩) 8 8)) (k + 1) (upd ps k wr.heap.size) := by
  have hlt := h.hC.lt
  have hbe := h.hb
  have ho := ownPgs wr g (by omega)
  have hold := fun j hj => (h.hP j hj).2.2
  have hinj := h.inj
  have hsz : (wr.alloc (.cells (nil8.map vId).toArray 22)).heap.size = wr.heap.size + 1 := by simp
  obtain ⟨h1, h2, h3, h4, h5, h6⟩ := h.on ((Below.refl wr.heap.size wr).alloc (Nat.le_refl _) (.cells (nil8.map vId).toArray 22))
  generalize wr.alloc (.cells (nil8.map vId).toArray 22) = wp at *
  have hset := h3.set (i := k) (j := 0) (u := .slice (some ⟨wr.heap.size, 0, none⟩) 8 8) (y := pbV wr.heap.size (fresh 0)) (by simpa using hk) (by omega) (by
    rw [List.getElem_map, List.getElem_range, rowJ, if_neg (Nat.lt_irrefl _)]; rfl)
  refine ⟨h1.far (by simp) _, h2.far (by simp) _, ?_, fun j hj => ?_, fun i j hi hj e => ?_, h6.setCell (p := ⟨g + 1, k * 5, none⟩) (by simp) _⟩
  · have e : ((List.range 16).map (rowJ ps k)).set k (pbV wr.heap.size (fresh 0)) = (List.range 16).map (rowJ (upd ps k wr.heap.size) (k + 1)) := by
      apply List.ext_getElem
      · simp
      · intro i g1 g2
        rw [List.getElem_set]
        simp only [List.getElem_map, List.getElem_range, rowJ]
        by_cases e : k = i
        · subst e; rw [if_pos rfl, if_pos (by omega), upd_same]
        · rw [if_neg e, upd_other _ _ (Ne.symm e)]
          by_cases e2 : i < k
          · rw [if_pos e2, if_pos (by omega)]
          · rw [if_neg e2, if_neg (by omega)]
    rw [e] at hset
    exact hset
  · by_cases e : j = k
    · subst e
      rw [upd_same]
      exact ⟨ho.far (by simp [Value.ownBlock]; omega) _, hlt, by rw [World.size_setCell]; omega⟩
    · rw [upd_other _ _ e]
      obtain ⟨p1, p2, p3⟩ := h4 j (by omega)
      exact ⟨p1.far (by simp [Value.ownBlock]; omega) _, p2, by rw [World.size_setCell]; exact p3⟩
  · by_cases e1 : i = k
    · by_cases e2 : j = k
      · rw [e1, e2]
      · rw [e1, upd_same, upd_other _ _ e2] at e
        have := hold j (by omega); omega
    · by_cases e2 : j = k
      · rw [e2, upd_same, upd_other _ _ e1] at e
        have := hold i (by omega); omega
      · rw [upd_other _ _ e1, upd_other _ _ e2] at e
        exact hinj i j (by omega) (by omega) e
set_option maxRecDepth 100000 in
set_option maxHeartbeats 4000000 in
theorem blankJ_calls (w : World) :
    Calls Tryz.prog 47 #[.agg #[.int .i64 16, .int .i64 8, .int .i64 64]] w fun e w' => e = .returned (.pointer (some ⟨w.heap.size + 2, 0, none⟩)) ∧ ∃ ps, BlJ w.heap.size w w' 16 ps := by
  have B1 := Blk.new w 48 #[.int .i64 16, .int .i64 8, .int .i64 64]
  have hb := (Below.refl w.heap.size w).alloc (Nat.le_refl _) (.cells #[.int .i64 16, .int .i64 8, .int .i64 64] 48)
  obtain ⟨w1, hw1⟩ : ∃ w1, w1 = w.alloc (.cells #[.int .i64 16, .int .i64 8, .int .i64 64] 48) := ⟨_, rfl⟩
  obtain ⟨g, hg⟩ : ∃ g, g = w.heap.size := ⟨_, rfl⟩
  have hs1 : w1.heap.size = g + 1 := by rw [hw1, hg]; simp
  rw [← hw1] at B1 hb
  rw [← hg] at B1 hb ⊢
  have HBd := Lib.hid (show Blk w1.drew g 48 #[.int .i64 16, .int .i64 8, .int .i64 64] from B1)
  have HB := Lib.hid hb
  have HS1 := Lib.hid hs1
  have hmk := makeBlk w1.drew
  have HBg := Lib.hid B1
  have hC0 := Blk.new (w1.alloc (.cells (bvs0.flatMap bvL).toArray 90)) 94 (chQ 16 (g + 1) 0 0 0)
  have hG0 := (B1.alloc (.cells (bvs0.flatMap bvL).toArray 90)).alloc (.cells (chQ 16 (g + 1) 0 0 0) 94)
  have hO0 := (ownBlk w1 g (by omega)).alloc (.cells (chQ 16 (g + 1) 0 0 0) 94)
  have hB0 := (hb.alloc (by omega) (.cells (bvs0.flatMap bvL).toArray 90)).alloc (by simp; omega) (.cells (chQ 16 (g + 1) 0 0 0) 94)
  rw [World.size_alloc, hs1] at hC0
  rw [hs1] at hO0
  have HI := Lib.hid (show BlJ g w ((w1.alloc (.cells (bvs0.flatMap bvL).toArray 90)).alloc (.cells (chQ 16 (g + 1) 0 0 0) 94)) 0 (fun _ => 0) from ⟨hG0, hC0, hO0, fun _ h => absurd h (by omega), fun _ _ h => absurd h (by omega), hB0⟩)
  clear B1 hb hC0 hG0 hO0 hB0
  go_enter Tryz.func47, Tryz.ntmps47
  go_wp2_with fail
  rw [← hw1, ← hg]
  clear hw1 hg hs1
  refine wp_region_noPanic ?_
  refine wp_region_held_drew (S := (fun W' => Blk W' g 48 #[.int .i64 16, .int .i64 8, .int .i64 64])) (by kernel_rfl) HBd.out (fun hS0 => ?_)
  refine takeV 0 (v := (.agg #[.int .i64 16, .int .i64 8, .int .i64 64])) rfl (by kernel_rfl) (by kernel_rfl) (by kernel_rfl) (fun _ _ _ h => h) (by rfl) (fun W hSw => ?_) (by assumption) ?_
  · have y0 := hSw.cellv (i := 0) rfl; have y1 := hSw.cellv (i := 1) rfl; have y2 := hSw.cellv (i := 2) rfl
    go_simp
  try simp only [layR]
  refine takeV 1 (v := (.pointer (some ⟨g, 0, none⟩))) rfl (by kernel_rfl) (by kernel_rfl) (by kernel_rfl) (fun _ _ _ h => h) (by rfl) (fun W hSw => ?_) (by assumption) ?_
  · skip
    go_simp
  try simp only [layR]
  refine takeV 2 (v := (.int .i64 16)) rfl (by kernel_rfl) (by kernel_rfl) (by kernel_rfl) (fun _ _ _ h => h) (by rfl) (fun W hSw => ?_) (by assumption) ?_
  · have y0 := hSw.cellv (i := 0) rfl
    go_simp
  try simp only [layR]
  refine wpAnyH_ready (rs := [3]) (by kernel_rfl) (by simp) ?_
  refine AllReadyH.cons rfl (fun K' hK => ?_) AllReadyH.nil
  go_simp
  refine hK.out _ _ (HBg.out.alloc _).drew (fun hS1 => ?_)
  try simp only [layR]
  refine takeV 4 (v := (.agg #[.int .i64 16, .int .i64 8, .int .i64 64, .slice (some ⟨w1.heap.size, 0, none⟩) 16 16, .slice none 0 0, .int .i64 0, .bool false, .int .i64 0, .int .i64 0])) rfl (by kernel_rfl) (by kernel_rfl) (by kernel_rfl) (fun _ _ _ h => h) (by rfl) (fun W hSw => ?_) (by assumption) ?_
  · skip
    go_simp
  try simp only [layR]
  refine wpAnyH_ready (rs := [5]) (by kernel_rfl) (by simp) ?_
  refine AllReadyH.cons rfl (fun K' hK => ?_) AllReadyH.nil
  go_simp
  refine hK.out _ _ ((HBg.out.alloc _).alloc _).drew (fun hS2 => ?_)
  try simp only [layR]
  refine takeV 6 (v := (.pointer (some ⟨w1.heap.size + 1, 0, none⟩))) rfl (by kernel_rfl) (by kernel_rfl) (by kernel_rfl) (fun _ _ _ h => h) (by rfl) (fun _ _ => rfl) (by assumption) ?_
  try simp only [layR]
  refine wpAnyH_done (by kernel_rfl) ?_ _
  refine NoPanic.normal ?_
  clear hS0 hS1 hS2 hmk
  rw [HS1.out]
  change Exit.then _ _ _ _ ((w1.alloc (.cells (bvs0.flatMap bvL).toArray 90)).alloc (.cells (chQ 16 (g + 1) 0 0 0) 94)).drew
  have HI3 := HI.out.on (below_drew _)
  generalize ((w1.alloc (.cells (bvs0.flatMap bvL).toArray 90)).alloc (.cells (chQ 16 (g + 1) 0 0 0) 94)).drew = w3 at *
  have c3 : w3.cell? ⟨g + 1 + 1, 3, none⟩ = some (.slice (some ⟨g + 1, 0, none⟩) 16 16) := HI3.hC.cellv rfl
  have HJ := Lib.hid HI3
  clear HI HI3 HB HBd HBg HS1
  go_wp2_with fail
  go_loopw [4, 16] (fun _ i wr => ∃ k : Nat, k ≤ 16 ∧ i = .int .i64 k ∧ ∃ ps, BlJ g w wr k ps) (fun _ i _ => 16 - (intOf i).toNat)
  case atStart => exact ⟨0, by omega, rfl, _, HJ.out⟩
  case round =>
    obtain ⟨k, hk, rfl, ps, hI⟩ := hrel
    have HI := Lib.hid hI
    clear HJ
    by_cases hlt : k < 16
    · have hst := (hI.step hlt).on (below_drew _)
      have HSt := Lib.hid hst
      have hmk := makePgs wr.drew
      have k0 : (0 : Int) ≤ (k : Int) := by omega
      have k1 : (k : Int) < 16 := by omega
      have e3 : wr.drew.cell? ⟨g + 1 + 1, 3, none⟩ = some (.slice (some ⟨g + 1, 0, none⟩) 16 16) := (hI.on (below_drew _)).hC.cellv rfl
      have e1 : wr.drew.cell? ⟨g, 1, none⟩ = some (.int .i64 8) := (hI.on (below_drew _)).hG.cellv rfl
      have hgl := hI.hC.lt
      have HA := Lib.hid (hI.on (((Below.refl wr.heap.size wr).alloc (Nat.le_refl _) (.cells (nil8.map vId).toArray 22)).drew))
      obtain ⟨z1, z2⟩ := HA.out.hB.cellg (i := k) (j := 0) (by simpa using hlt) (by omega)
      obtain ⟨vz, z3⟩ : ∃ vz, ((wr.alloc (.cells (nil8.map vId).toArray 22)).drew).cell? ⟨g + 1, k * 5, none⟩ = some vz := ⟨_, z1⟩
      have z4 : ((wr.alloc (.cells (nil8.map vId).toArray 22)).drew).frozen? ⟨g + 1, k * 5, none⟩ = false := z2
      clear hst z1 z2 hI
      go_upto_region 5 with fail
      refine wp_region_noPanic ?_
      refine wp_region_held_drew (S := (fun W' => W'.cell? ⟨g + 1 + 1, 3, none⟩ = some (.slice (some ⟨g + 1, 0, none⟩) 16 16) ∧ W'.cell? ⟨g, 1, none⟩ = some (.int .i64 8))) (by kernel_rfl) ⟨e3, e1⟩ (fun hS0 => ?_)
      refine takeV 0 (v := (.pointer (some ⟨g + 1 + 1, 0, none⟩))) rfl (by kernel_rfl) (by kernel_rfl) (by kernel_rfl) (fun _ _ _ h => h) (by rfl) (fun _ _ => rfl) (by assumption) ?_
      try simp only [layR]
      refine takeV 1 (v := (.pointer (some ⟨g + 1 + 1, 0, none⟩))) rfl (by kernel_rfl) (by kernel_rfl) (by kernel_rfl) (fun _ _ _ h => h) (by rfl) (fun W hSw => ?_) (by assumption) ?_
      · skip
        go_simp
      try simp only [layR]
      refine takeV 2 (v := (.pointer (some ⟨g + 1 + 1, 3, none⟩))) rfl (by kernel_rfl) (by kernel_rfl) (by kernel_rfl) (fun _ _ _ h => h) (by rfl) (fun W hSw => ?_) (by assumption) ?_
      · skip
        go_simp
      try simp only [layR]
      refine takeV 3 (v := (.slice (some ⟨g + 1, 0, none⟩) 16 16)) rfl (by kernel_rfl) (by kernel_rfl) (by kernel_rfl) (fun _ _ _ h => h) (by rfl) (fun W hSw => ?_) (by assumption) ?_
      · have c9 := hSw.1
        go_simp
      try simp only [layR]
      refine takeV 4 (v := (.int .i64 (k : Int))) rfl (by kernel_rfl) (by kernel_rfl) (by kernel_rfl) (fun _ _ _ h => h) (by rfl) (fun _ _ => rfl) (by assumption) ?_
      try simp only [layR]
      refine takeV 5 (v := (.pointer (some ⟨g, 1, none⟩))) rfl (by kernel_rfl) (by kernel_rfl) (by kernel_rfl) (fun _ _ _ h => h) (by rfl) (fun W hSw => ?_) (by assumption) ?_
      · skip
        go_simp
      try simp only [layR]
      refine takeV 6 (v := (.int .i64 8)) rfl (by kernel_rfl) (by kernel_rfl) (by kernel_rfl) (fun _ _ _ h => h) (by rfl) (fun W hSw => ?_) (by assumption) ?_
      · have c9 := hSw.2
        go_simp
      try simp only [layR]
      refine wpAnyH_ready (rs := [7]) (by kernel_rfl) (by simp) ?_
      refine AllReadyH.cons rfl (fun K' hK => ?_) AllReadyH.nil
      go_simp
      have hlC : g + 1 + 1 < wr.drew.heap.size := hgl
      have hlG : g < wr.drew.heap.size := by show g < wr.heap.size; omega
      have hba := (Below.refl wr.drew.heap.size wr.drew).alloc (Nat.le_refl _) (.cells (nil8.map vId).toArray 22)
      refine hK.out _ _ ⟨(hba.cell (p := ⟨g + 1 + 1, 3, none⟩) hlC).trans hS0.1, (hba.cell (p := ⟨g, 1, none⟩) hlG).trans hS0.2⟩ (fun hS1 => ?_)
      try simp only [layR]
      refine takeV 8 (v := (.pointer (some ⟨g + 1, k * 5, none⟩))) rfl (by kernel_rfl) (by kernel_rfl) (by kernel_rfl) (fun _ _ _ h => h) (by rfl) (fun W hSw => ?_) (by assumption) ?_
      · skip
        go_simp
      try simp only [layR]
      refine takeV 9 (v := (.pointer (some ⟨g + 1, k * 5, none⟩))) rfl (by kernel_rfl) (by kernel_rfl) (by kernel_rfl) (fun _ _ _ h => h) (by rfl) (fun W hSw => ?_) (by assumption) ?_
      · skip
        go_simp
      try simp only [layR]
      refine wpAnyH_ready (rs := [10]) (by kernel_rfl) (by simp) ?_
      refine AllReadyH.cons rfl (fun K' hK => ?_) AllReadyH.nil
      go_simp
      refine hK.out _ _ ⟨(World.cell?_setCell_far _ _ _ _ (by simp)).trans hS1.1, (World.cell?_setCell_far _ _ _ _ (by simp)).trans hS1.2⟩ (fun hS2 => ?_)
      try simp only [layR]
      refine wpAnyH_done (by kernel_rfl) ?_ _
      refine NoPanic.normal ?_
      clear hS0 hS1 hS2 hmk hba
      go_wp2_with fail
      go_roundw
      case rel => exact ⟨k + 1, by omega, by go_num, _, HSt.out⟩
      case measure => simp [intOf]; omega
    · obtain rfl : k = 16 := by omega
      clear hI
      go_wp2_with fail
      go_ret
      exact ⟨rfl, _, HI.out⟩
/-- All that was made is the chip's own. -/
theorem BlJ.chm {g B : Nat} {w wr : World} {ps : Nat → Nat} (h : BlJ g w wr 16 ps) (hB : B ≤ g) : ChM 16 B (fun q => g ≤ q ∧ q < wr.heap.size) wr (g + 2) (g + 1) ps (fun _ => fresh 0) := by
  obtain ⟨h1, h2, h3, h4, h5, h6⟩ := h
  have hlt := h2.lt
  have e : (List.range 16).map (rowJ ps 16) = (List.range 16).map fun k => pbV (ps k) (fresh 0) := List.map_congr_left fun j hj => by rw [rowJ, if_pos (List.mem_range.1 hj)]
  rw [e] at h3
  refine ⟨⟨0, 0, 0, h2⟩, h3.mono (Nat.zero_le _), fun k hk => ⟨nil8, rfl, (h4 k hk).1.mono (Nat.zero_le _), fun i hi => ?_⟩, ⟨by omega, fun j hj => ?_, fun j hj => ?_, h5⟩, fun q hq => ?_, fun q hq => by omega, fun q hq => hq.2⟩
  · exact List.eq_of_mem_replicate (n := 8) (List.getElem_mem hi)
  · have := (h4 j hj).2.1; omega
  · have := (h4 j hj).2.1; omega
  · rcases hq with rfl | rfl | ⟨j, hj, rfl⟩
    · exact ⟨by omega, hlt⟩
    · exact ⟨by omega, by omega⟩
    · exact ⟨by have := (h4 j hj).2.1; omega, (h4 j hj).2.2⟩
set_option maxRecDepth 100000 in
set_option maxHeartbeats 4000000 in
theorem chNew_calls (w : World) :
    Calls Tryz.prog 18 #[.agg #[.int .i64 16, .int .i64 8, .int .i64 64], .slice none 0 0] w fun e w' => (∃ S C BL ps, e = .returned (.tuple #[.pointer (some ⟨C, 0, none⟩), .int .i64 0]) ∧ ChM 16 w.heap.size S w' C BL ps (fun _ => fresh 0)) ∧ Below w.heap.size w w' := by
  have B1 := Lib.hid (Blk.new w 48 #[.int .i64 16, .int .i64 8, .int .i64 64])
  have HB0 := Lib.hid ((Below.refl w.heap.size w).alloc (Nat.le_refl _) (.cells #[.int .i64 16, .int .i64 8, .int .i64 64] 48))
  go_enter Tryz.func18, Tryz.ntmps18
  have c0 := B1.out.cellv (i := 0) rfl
  have c1 := B1.out.cellv (i := 1) rfl
  have c2 := B1.out.cellv (i := 2) rfl
  go_wp2_with fail
  refine (right_calls _).mono ?_
  rintro e w1 ⟨rfl, hb⟩
  have HB1 := Lib.hid (HB0.out.then_ hb)
  have B2 := B1.out.belowHere hb
  clear hb c0 c1 c2 HB0 B1
  have c0 := B2.cellv (i := 0) rfl
  have c1 := B2.cellv (i := 1) rfl
  have c2 := B2.cellv (i := 2) rfl
  clear B2
  go_wp2_with fail
  refine (blankJ_calls _).mono ?_
  rintro e w2 ⟨rfl, ps, hI⟩
  have HB2 := Lib.hid (HB1.out.then_ hI.hb)
  have HC := Lib.hid (hI.chm (B := w.heap.size) HB1.out.size)
  generalize w1.heap.size = g at *
  clear hI c0 c1 c2
  go_wp2
  go_loopw [8, 16] (fun _ i wr => i = .int .i64 0 ∧ wr = w2) (fun _ _ _ => 0)
  case atStart => exact ⟨rfl, rfl⟩
  case round =>
    obtain ⟨rfl, rfl⟩ := hrel
    go_wp2
    go_ret2
    exact ⟨⟨_, _, _, _, rfl, HC.out⟩, HB2.out⟩
end Go.Proofs.YtiipnpfaaghekaaGreat
namespace Go.Proofs.YtiipnpfaaghekaaGreat
open Go.RowKit Ftl

theorem mk56 (u : World) : (Instr.makeSlice 22 (.int .i64 56) (.int .i64 56)).run Tryz.prog u = .ok (.slice (some ⟨u.heap.size, 0, none⟩) 56 56) (u.alloc (.cells (Array.replicate 56 (.int .u8 0)) 5)) := makeZ 56 (by omega) u
/-- What made leaves. -/
def Maded (w : World) (e : Ending) (w' : World) : Prop :=
  ∃ B R f, e = .returned (.tuple #[.pointer (some ⟨f.F, 0, none⟩), .pointer (some ⟨f.g.C, 0, none⟩)]) ∧ w.heap.size ≤ B ∧ FtM 16 B R w' f ∧ Fmd f (List.replicate 56 0) ∧ Below w.heap.size w w'
set_option maxRecDepth 100000 in
set_option maxHeartbeats 4000000 in
theorem made_calls (w : World) : Calls Tryz.prog 5 #[] w (Maded w) := by
  have hmk := mk56
  go_enter Tryz.func5, Tryz.ntmps5
  go_wp2_with fail
  refine (small_calls _).mono ?_
  rintro e w1 ⟨rfl, h_⟩
  have HB1 := Lib.hid h_
  clear h_
  go_wp2_with fail
  refine (chNew_calls w1).mono ?_
  rintro e w2 ⟨⟨S, C, BL, ps, rfl, hc⟩, hb2⟩
  have hb3 := (Below.refl w2.heap.size w2).alloc (Nat.le_refl _) (.cells (Array.replicate 56 (.int .u8 0)) 5)
  have HC := Lib.hid (hc.on hb3)
  have HB2 := Lib.hid ((HB1.out.then_ hb2).then_ hb3)
  have HX := Lib.hid ((ownMadeZ w2 w2.heap.size 56 (Nat.le_refl _) (by omega)).arr (by simp))
  have HSn := Lib.hid (show ∀ b o, (some ⟨w2.heap.size, 0, none⟩ : Option Addr) = some ⟨b, o, none⟩ → ¬ S b from fun b o e h => by
    have := hc.hi b h
    injection e with e
    injection e with e
    omega)
  have HBs := Lib.hid HB1.out.size
  clear hc hb2 hb3
  go_wp2_with fail
  refine (fFormat_calls HC.out _ 56 (List.replicate 56 0) HX.out HSn.out).mono ?_
  rintro e w4 ⟨f, rfl, hfr, hfc, hfd⟩
  have HF := Lib.hid hfr
  have HD := Lib.hid hfd
  have HCC := Lib.hid hfc
  have HB4 := Lib.hid (HB2.out.trans (hfr.2.below (fun q hq => by have := HC.out.lo q hq; have := HBs.out; omega) HB2.out.size))
  clear hfr hfd hfc
  go_wp2_with fail
  go_ret2
  exact ⟨w1.heap.size, _, f, by rw [HCC.out]; rfl, HBs.out, HF.out.1, HD.out, HB4.out⟩
end Go.Proofs.YtiipnpfaaghekaaGreat
namespace Go.Proofs.YtiipnpfaaghekaaGreat
open Go.RowKit Ftl

namespace Ham
/-- Pages 2 .. hold what was kept; page 1 holds d, if it was written; m entries at most. -/
structure Hm (f : Fm) (ks : List UInt8) (j : Nat) (d : Option (List UInt8)) (m : Nat) : Prop where
  fc : Fc 16 f
  s0 : (getE f.se 0).isSome = true
  kp : ∀ i (h : i < ks.length), i < j → (vw f (i + 2)).map (·.2) = some (pageL [ks[i]])
  one : ∀ x, d = some x → (vw f 1).map (·.2) = some x
  key : ∀ q, (vw f q).isSome = true → q < 62
  len : (f.se ++ f.no).length ≤ m
  u : Uq f.se
variable {f f' : Fm} {ks : List UInt8} {j m : Nat} {d : Option (List UInt8)} {pay tx : List UInt8}
theorem Hm.start (h : Fmd f tx) (hu : Uq f.se) (ks : List UInt8) : Hm f ks 0 none 1 := by
  have hv : ∀ q, vw f q = if q = 0 then some ((⟨2, 0, 1, 1⟩ : Tg), headL tx) else none := fun q => by
    rw [vw_eq, h.no, h.go]
    exact h.se q
  have hs : ∀ q, (getE f.se q).isSome = true → q < 1 := fun q hq => by
    have := h.se q
    by_cases h0 : q = 0
    · omega
    · rw [if_neg h0] at this
      cases hz : getE f.se q with
      | none => rw [hz] at hq; cases hq
      | some e => rw [hz] at this; cases this
  refine ⟨h.fc, ?_, fun i _ hi => absurd hi (Nat.not_lt_zero _), fun x hx => (by cases hx), fun q hq => ?_, ?_, hu⟩
  · have := h.se 0
    rw [if_pos rfl] at this
    cases hz : getE f.se 0 with
    | none => rw [hz] at this; cases this
    | some e => rfl
  · rw [hv] at hq
    by_cases h0 : q = 0
    · omega
    · rw [if_neg h0] at hq; cases hq
  · rw [h.no, List.append_nil]
    exact uq_range hu hs
/-- A page is kept. -/
theorem Hm.keep (h : Hm f ks j none m) (hj : j < ks.length) (hl : ks.length ≤ 60) (hw : Wrd 16 f f' (j + 2) (pageL [ks[j]])) (hu : Uq f'.se) : Hm f' ks (j + 1) none (m + 1) := by
  refine ⟨hw.fc, hw.seal0 h.s0, fun i hi hij => ?_, fun x hx => (by cases hx), fun q hq => ?_, ?_, hu⟩
  · rw [hw.vw]
    by_cases e : i = j
    · subst e
      rw [if_pos rfl]
      rfl
    · rw [if_neg (by omega)]
      exact h.kp i hi (by omega)
  · rw [hw.vw] at hq
    by_cases e : q = j + 2
    · omega
    · rw [if_neg e] at hq
      exact h.key q hq
  · rw [hw.len_]
    have := h.len
    split <;> omega
/-- Page 1 is written. -/
theorem Hm.hit (h : Hm f ks j d m) (hw : Wrd 16 f f' 1 pay) (hu : Uq f'.se) : Hm f' ks j (some pay) (m + 1) := by
  refine ⟨hw.fc, hw.seal0 h.s0, fun i hi hij => ?_, fun x hx => ?_, fun q hq => ?_, ?_, hu⟩
  · rw [hw.vw, if_neg (by omega)]
    exact h.kp i hi hij
  · rw [hw.vw, if_pos rfl]
    exact hx
  · rw [hw.vw] at hq
    by_cases e : q = 1
    · omega
    · rw [if_neg e] at hq
      exact h.key q hq
  · rw [hw.len_]
    have := h.len
    split <;> omega
/-- All is sealed. -/
theorem Hm.seal_ (h : Hm f ks j d m) (hs : Sld 16 f f' tx) (hu : Uq f'.se) : Hm f' ks j d 62 := by
  refine ⟨hs.fc, hs.seal0, fun i hi hij => ?_, fun x hx => ?_, fun q hq => ?_, hs.len_ hu (by decide) h.key, hu⟩
  · rw [hs.vw, if_neg (by omega)]
    exact h.kp i hi hij
  · rw [hs.vw, if_neg (by decide)]
    exact h.one x hx
  · rw [hs.vw] at hq
    by_cases e : q = 0
    · omega
    · rw [if_neg e] at hq
      exact h.key q hq
theorem Hm.more {m' : Nat} (h : Hm f ks j d m) (hm : m ≤ m') : Hm f ks j d m' := ⟨h.fc, h.s0, h.kp, h.one, h.key, Nat.le_trans h.len hm, h.u⟩
theorem map2 {o : Option (Tg × List UInt8)} {y : List UInt8} (h : o.map (·.2) = some y) : ∃ x, o = some x ∧ x.2 = y := by
  cases o with
  | none => cases h
  | some x => exact ⟨x, rfl, Option.some.inj h⟩
/-- What is kept is read. -/
theorem Hm.at_ (h : Hm f ks j d m) {i : Nat} (hi : i < ks.length) (hij : i < j) : ∃ x, curE f (i + 2) = some x ∧ x.d = pageL [ks[i]] := by
  obtain ⟨y, hy, e⟩ := map2 (h.kp i hi hij)
  obtain ⟨x, hx, hd, _⟩ := vw_some hy
  exact ⟨x, hx, hd.trans e⟩
theorem Hm.at1 {y : List UInt8} (h : Hm f ks j (some y) m) : ∃ x, curE f 1 = some x ∧ x.d = y := by
  obtain ⟨z, hz, e⟩ := map2 (h.one y rfl)
  obtain ⟨x, hx, hd, _⟩ := vw_some hz
  exact ⟨x, hx, hd.trans e⟩
/-- The same, in memory. -/
structure Hs (w : World) (B : Nat) (F C : Nat) (R : Nat → Prop) (f : Fm) (ks : List UInt8) (j : Nat) (d : Option (List UInt8)) (m n : Nat) (wr : World) : Prop where
  ft : FtM 16 B R wr f
  hm : Hm f ks j d m
  F_ : f.F = F
  C_ : f.g.C = C
  sq : f.seq = n
  bel : Below w.heap.size w wr
  lo : w.heap.size ≤ B
variable {w wr w' : World} {B F C n : Nat} {R : Nat → Prop}
theorem Hs.on (h : Hs w B F C R f ks j d m n wr) (hb : Below wr.heap.size wr w') : Hs w B F C R f ks j d m n w' := ⟨h.ft.on hb, h.hm, h.F_, h.C_, h.sq, h.bel.then_ hb, h.lo⟩
theorem Hs.more {m' : Nat} (h : Hs w B F C R f ks j d m n wr) (hm : m ≤ m') : Hs w B F C R f ks j d m' n wr := ⟨h.ft, h.hm.more hm, h.F_, h.C_, h.sq, h.bel, h.lo⟩
/-- A call of the translation's. -/
theorem Hs.step {d' : Option (List UInt8)} {j' m' : Nat} (h : Hs w B F C R f ks j d m n wr) (hf : FtR 16 B R wr w' f') (hm : Hm f' ks j' d' m') (h1 : f'.F = f.F) (h2 : f'.g.C = f.g.C) (h3 : f'.seq = f.seq + 1) : Hs w B F C (Up R wr w') f' ks j' d' m' (n + 1) w' :=
  ⟨hf.1, hm, h1.trans h.F_, h2.trans h.C_, by rw [h3, h.sq], h.bel.trans ((hf.below h.ft).mono h.lo), h.lo⟩
theorem ne_new {a : Option Addr} {k c : Nat} {xs : List UInt8} (h : FtM 16 B R wr f) (ho : Own byteV 5 w' wr.heap.size (.slice a k c) xs) : ∀ b o, a = some ⟨b, o, none⟩ → ¬ R b := fun b o e h1 => by
  have h2 := (h.bnd b h1).2
  have h3 := (ho.blockLt b (by rw [e]; rfl)).1
  omega
/-- One more page is kept. -/
def Kept (w : World) (B F C : Nat) (ks : List UInt8) (j m n : Nat) (e : Ending) (w' : World) : Prop := e = .returned (.int .i64 0) ∧ ∃ R f, Hs w B F C R f ks (j + 1) none (m + 1) (n + 1) w'
theorem keep_calls (h : Hs w B F C R f ks j none m n wr) (hj : j < ks.length) (hl : ks.length ≤ 60) (hm : m ≤ 61) (hn : n ≤ 1000000) (a : Option Addr) (c : Nat) (hx : Bytes wr wr.heap.size a 64 (pageL [ks[j]])) (hap : ∀ b o, a = some ⟨b, o, none⟩ → ¬ R b) :
    Calls Tryz.prog 6 #[.pointer (some ⟨F, 0, none⟩), .int .u32 ((j : Int) + 2), .slice a 64 c] wr (Kept w B F C ks j m n) := by
  have hF := h.F_
  subst hF
  rw [show (j : Int) + 2 = ((j + 2 : Nat) : Int) by omega]
  refine (fWrite_calls h.ft h.hm.fc (j + 2) (by omega) (by omega) (by omega) (.inr (by have := h.hm.len; omega)) (by rw [h.sq]; exact hn) a c _ hx hap).mono ?_
  rintro e w' ⟨rfl, f', hf, hw⟩
  exact ⟨rfl, _, f', h.step hf (h.hm.keep hj hl hw hf.1.hS.uq) hw.F hw.C hw.seq⟩
/-- Page 1 is written again. -/
def Hit (w : World) (B F C : Nat) (ks : List UInt8) (j m n : Nat) (pay : List UInt8) (e : Ending) (w' : World) : Prop := e = .returned (.int .i64 0) ∧ ∃ R f, Hs w B F C R f ks j (some pay) (m + 1) (n + 1) w'
theorem hit_calls (h : Hs w B F C R f ks j d m n wr) (hm : m ≤ 62) (hn : n ≤ 1000000) (a : Option Addr) (c : Nat) (pay : List UInt8) (hx : Bytes wr wr.heap.size a 64 pay) (hap : ∀ b o, a = some ⟨b, o, none⟩ → ¬ R b) :
    Calls Tryz.prog 6 #[.pointer (some ⟨F, 0, none⟩), .int .u32 1, .slice a 64 c] wr (Hit w B F C ks j m n pay) := by
  have hF := h.F_
  subst hF
  refine (fWrite_calls h.ft h.hm.fc 1 (by omega) (by omega) (by omega) (.inr (by have := h.hm.len; omega)) (by rw [h.sq]; exact hn) a c _ hx hap).mono ?_
  rintro e w' ⟨rfl, f', hf, hw⟩
  exact ⟨rfl, _, f', h.step hf (h.hm.hit hw hf.1.hS.uq) hw.F hw.C hw.seq⟩
/-- All is sealed. -/
def Sealed (w : World) (B F C : Nat) (ks : List UInt8) (j n : Nat) (d : Option (List UInt8)) (e : Ending) (w' : World) : Prop := e = .returned (.int .i64 0) ∧ ∃ R f, Hs w B F C R f ks j d 62 (n + 1) w'
theorem seal_calls (h : Hs w B F C R f ks j d m n wr) (hn : n ≤ 1000000) (a : Option Addr) (c : Nat) (tx : List UInt8) (hx : Bytes wr wr.heap.size a 56 tx) (hap : ∀ b o, a = some ⟨b, o, none⟩ → ¬ R b) :
    Calls Tryz.prog 8 #[.pointer (some ⟨F, 0, none⟩), .slice a 56 c] wr (Sealed w B F C ks j n d) := by
  have hF := h.F_
  subst hF
  refine (fSeal_calls h.ft h.hm.fc (by rw [h.sq]; exact hn) a c tx hx hap (.inl h.hm.s0)).mono ?_
  rintro e w' ⟨rfl, f', hf, hs⟩
  exact ⟨rfl, _, f', h.step hf (h.hm.seal_ hs hf.1.hS.uq) hs.F hs.C hs.sq⟩
theorem gap_st (h : Hs w B F C R f ks j d m n wr) (hn : n ≤ 1000000) :
    Calls Tryz.prog 9 #[.pointer (some ⟨C, 0, none⟩)] wr fun e w' => (∃ g : Int, g ≤ 4 ∧ e = .returned (.int .i64 g)) ∧ Hs w B F C R f ks j d m n w' := by
  have hC := h.C_
  subst hC
  refine (fGap_calls h.ft h.hm.fc (by rw [h.sq]; exact hn)).mono ?_
  rintro e w' ⟨h1, h2⟩
  exact ⟨h1, h.on h2⟩
/-- What Read leaves. -/
def Got (w : World) (B F C : Nat) (ks : List UInt8) (j m n : Nat) (d : Option (List UInt8)) (x : List UInt8) (e : Ending) (w' : World) : Prop := (∃ a c, e = .returned (.tuple #[.slice a 64 c, .int .i64 0]) ∧ Bytes w' w'.heap.size a 64 x) ∧ ∃ R f, Hs w B F C R f ks j d m n w'
theorem Hs.read (h : Hs w B F C R f ks j d m n wr) (h1 : FtM 16 B R w' f) (h2 : Kq R wr w') : Hs w B F C R f ks j d m n w' :=
  ⟨h1, h.hm, h.F_, h.C_, h.sq, h.bel.trans (h2.below (fun q hq => by have := (h.ft.bnd q hq).1; have := h.lo; omega) h.bel.size), h.lo⟩
theorem get_calls (h : Hs w B F C R f ks j d m n wr) {i : Nat} (hi : i < ks.length) (hij : i < j) (hl : ks.length ≤ 60) :
    Calls Tryz.prog 10 #[.pointer (some ⟨F, 0, none⟩), .int .u32 ((i : Int) + 2)] wr (Got w B F C ks j m n d (pageL [ks[i]])) := by
  have hF := h.F_
  subst hF
  obtain ⟨x, hx, hd⟩ := h.hm.at_ hi hij
  rw [show (i : Int) + 2 = ((i + 2 : Nat) : Int) by omega, ← hd]
  refine (ftRead_calls h.ft h.hm.fc (i + 2) (by omega) (by omega) (by omega) x hx).mono ?_
  rintro e w' ⟨⟨a, c, rfl, _, hb⟩, h1, h2⟩
  exact ⟨⟨a, c, rfl, hb⟩, R, f, h.read h1 h2⟩
theorem get1_calls {y : List UInt8} (h : Hs w B F C R f ks j (some y) m n wr) :
    Calls Tryz.prog 10 #[.pointer (some ⟨F, 0, none⟩), .int .u32 1] wr (Got w B F C ks j m n (some y) y) := by
  have hF := h.F_
  subst hF
  obtain ⟨x, hx, hd⟩ := h.hm.at1
  have hr := ftRead_calls h.ft h.hm.fc 1 (by omega) (by omega) (by omega) x hx
  rw [hd] at hr
  refine hr.mono ?_
  rintro e w' ⟨⟨a, c, rfl, _, hb⟩, h1, h2⟩
  exact ⟨⟨a, c, rfl, hb⟩, R, f, h.read h1 h2⟩
theorem ro_st (h : Hs w B F C R f ks j d m n wr) :
    Calls Tryz.prog 12 #[.pointer (some ⟨F, 0, none⟩)] wr fun e w' => e = .returned (.bool false) ∧ Below wr.heap.size wr w' := by
  have hF := h.F_
  subst hF
  exact fReadOnly_calls h.ft h.hm.fc.fi h.hm.fc.ov
/-- The bytes of a round's number. -/
def dig (k : Nat) : List UInt8 := [UInt8.ofNat k, UInt8.ofNat (k / 256)]
theorem dig_cells {k : Nat} (hk : k ≤ 1000) : #[Value.int .u8 ((k : Int) % 256), .int .u8 ((k : Int) / 256)] = ((dig k).map byteV).toArray := by
  have h1 : (UInt8.ofNat k).toNat = k % 256 := UInt8.toNat_ofNat'
  have h2 : (UInt8.ofNat (k / 256)).toNat = k / 256 % 256 := UInt8.toNat_ofNat'
  show _ = #[Value.int .u8 ((UInt8.ofNat k).toNat : Int), .int .u8 ((UInt8.ofNat (k / 256)).toNat : Int)]
  rw [h1, h2, show (k : Int) % 256 = ((k % 256 : Nat) : Int) by omega, show (k : Int) / 256 = ((k / 256 % 256 : Nat) : Int) by omega]
/-- Page 1 is as it was written last. -/
def Last (k : Nat) (d : Option (List UInt8)) : Prop := 0 < k → d = some (pageL (dig (k - 1)))
end Ham
end Go.Proofs.YtiipnpfaaghekaaGreat
