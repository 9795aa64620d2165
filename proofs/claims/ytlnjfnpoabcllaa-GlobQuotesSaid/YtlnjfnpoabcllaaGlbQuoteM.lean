/-
  A quoted name matches itself and no other: plain mathematics.
-/
import Derived.Test.YtlnjfnpoabcllaaGlbQuote
import Derived.Test.YtlnjfnpoabcllaaGlbPlainM
namespace Go.Proofs.Ytlnjfnpoabcllaa
namespace Glb

def quoG (c : UInt8) : Gm := if c = 63 ∨ c = 42 ∨ c = 91 then ⟨3, 91, false, [(c, c)]⟩ else ⟨0, c, false, []⟩
theorem quote_cons (c : UInt8) (r : List UInt8) : quote (c :: r) = quo c ++ quote r := by simp [quote]
theorem mem_quo (c : UInt8) (q : List UInt8) (hc : c ≠ 93) : mem [] (c :: 93 :: q) = some ([(c, c)], q) := by
  have h : isR (c :: 93 :: q) = false := by
    cases q with
    | nil => rfl
    | cons d r =>
      show decide ((93 : UInt8) = 45 ∧ d ≠ 93) = false
      exact decide_eq_false (fun e => absurd e.1 (by decide))
  rw [mem_one [] c (93 :: q) hc h, List.nil_append, mem_end, if_neg (by simp)]
theorem mks_quote (l : List UInt8) : mks (quote l) = some (l.map quoG) := by
  induction l with
  | nil => rfl
  | cons c r ih =>
    rw [quote_cons, List.map_cons]
    by_cases hm : c = 63 ∨ c = 42 ∨ c = 91
    · have e1 : quo c = [91, c, 93] := if_pos hm
      have e2 : quoG c = ⟨3, 91, false, [(c, c)]⟩ := if_pos hm
      have h33 : c ≠ 33 := by rintro rfl; revert hm; decide
      have h93 : c ≠ 93 := by rintro rfl; revert hm; decide
      have h0 : ¬ (c :: 93 :: quote r).head? = some 33 := by simpa using h33
      have e3 : behindNot (c :: 93 :: quote r) = c :: 93 :: quote r := if_neg h0
      have e4 : isNot (c :: 93 :: quote r) = false := decide_eq_false h0
      rw [e1, e2]
      show mks (91 :: (c :: 93 :: quote r)) = _
      rw [mks_set, e3, e4, mem_quo c _ h93]
      show (mks (quote r)).map _ = _
      rw [ih]
      rfl
    · have e1 : quo c = [c] := if_neg hm
      have e2 : quoG c = ⟨0, c, false, []⟩ := if_neg hm
      have h91 : c ≠ 91 := fun e => hm (.inr (.inr e))
      have e3 : plainM c = ⟨0, c, false, []⟩ := by unfold plainM; rw [if_neg fun e => hm (.inl e), if_neg fun e => hm (.inr (.inl e))]
      rw [e1, e2]
      show mks (c :: quote r) = _
      rw [mks_plain c _ h91, ih, e3]
      rfl
theorem matches_quote (l s : List UInt8) : matchesB (l.map quoG) s = decide (l = s) := by
  unfold matchesB
  refine mt_eq quoG abG l (fun c _ => ?_) s
  unfold quoG
  split
  · refine ⟨rfl, fun y => ?_⟩
    show standsB ⟨3, 91, false, [(c, c)]⟩ y = _
    unfold standsB
    rw [if_neg (show ¬ (3 : Int) = 0 by decide), if_pos rfl]
    show (if inB [(c, c)] y then true else false) = _
    unfold inB
    simp only [List.any_cons, List.any_nil, Bool.or_false]
    rw [Bool.eq_iff_iff]
    simp only [Bool.if_false_right, Bool.and_true, Bool.and_eq_true, decide_eq_true_iff]
    exact ⟨fun h => UInt8.le_antisymm h.1 h.2, fun e => by subst e; exact ⟨UInt8.le_refl _, UInt8.le_refl _⟩⟩
  · refine ⟨rfl, fun y => ?_⟩
    show standsB ⟨0, c, false, []⟩ y = _
    unfold standsB
    rw [if_pos rfl]
    rfl
theorem quote_nil_iff (l : List UInt8) : quote l = [] ↔ l = [] := by
  constructor
  · intro h
    cases l with
    | nil => rfl
    | cons c r =>
      rw [quote_cons] at h
      obtain ⟨h1, _⟩ := List.append_eq_nil_iff.1 h
      unfold quo at h1
      split at h1 <;> cases h1
  · rintro rfl; rfl
theorem quote_ne (l : List UInt8) : quote l ≠ [42, 42] := by
  intro h
  have h1 := mks_quote l
  rw [h] at h1
  have h2 : mks [42, 42] = some [⟨2, 42, false, []⟩, ⟨2, 42, false, []⟩] := by decide
  rw [h2] at h1
  cases l with
  | nil => simp at h1
  | cons c r =>
    have h3 := Option.some.inj h1
    rw [List.map_cons] at h3
    injection h3 with h3 _
    unfold quoG at h3
    split at h3 <;> cases h3
theorem part_quote_bad {l : List UInt8} (h : l = [] ∨ 64 < (quote l).length) (s : List UInt8) : part (quote l) s = (false, 31) := by
  have e : marksOf (quote l) = none := by
    unfold marksOf
    rw [if_pos (h.imp (quote_nil_iff l).2 id)]
  unfold part
  rw [e]
theorem part_quote {l : List UInt8} (h0 : l ≠ []) (h : ¬ 64 < (quote l).length) (s : List UInt8) : part (quote l) s = (decide (l = s), 0) := by
  have e : marksOf (quote l) = some (l.map quoG) := by
    unfold marksOf
    rw [if_neg (fun x => x.elim (fun a => h0 ((quote_nil_iff l).1 a)) h), mks_quote]
  unfold part
  rw [e]
  show (if quote l = [42, 42] then (false, 31) else (matchesB (l.map quoG) s, 0)) = _
  rw [if_neg (quote_ne l), matches_quote]
end Glb
end Go.Proofs.Ytlnjfnpoabcllaa
