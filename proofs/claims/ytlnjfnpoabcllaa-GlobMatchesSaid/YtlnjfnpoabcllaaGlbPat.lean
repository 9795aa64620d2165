/-
  A pattern's parts: what they are, and how they lie in memory; rows of truths.
-/
import Derived.Test.YtlnjfnpoabcllaaGlbApp
import Derived.Test.YtlnjfnpoabcllaaMem
namespace Go.Proofs.Ytlnjfnpoabcllaa
open Go.RowKit

namespace Glb
/-- A part: it stands for any parts, or it has marks. -/
structure Prt where
  all : Bool
  l : List Gm
  deriving DecidableEq
def someB (m : Gm) : Bool := (List.range 256).any fun c => standsB m (UInt8.ofNat c)
def openB (l : List Gm) : Bool := l.all fun m => !(m.k == 3 && !someB m)
def abP (p : Prt) : Ab (List UInt8) := { many := p.all, st := matchesB p.l, op := openB p.l }
/-- A row of truths. -/
def rowB (m : Nat) (g : Nat → Bool) : List Bool := (List.range m).map g
theorem rowB_len (m : Nat) (g : Nat → Bool) : (rowB m g).length = m := by simp [rowB]
theorem rowB_get (m : Nat) (g : Nat → Bool) (i : Nat) (h : i < (rowB m g).length) : (rowB m g)[i] = g i := by simp [rowB]
theorem rowB_set (m : Nat) (g : Nat → Bool) (j : Nat) (v : Bool) : (rowB m g).set j v = rowB m (fun i => if i = j then v else g i) := by
  apply List.ext_getElem
  · rw [List.length_set, rowB_len, rowB_len]
  · intro i h1 h2
    rw [List.getElem_set, rowB_get, rowB_get]
    by_cases hij : i = j
    · rw [if_pos hij, if_pos hij.symm]
    · rw [if_neg hij, if_neg (fun h => hij h.symm)]
theorem rowB_congr {m : Nat} {g g' : Nat → Bool} (h : ∀ i, i < m → g i = g' i) : rowB m g = rowB m g' := by
  unfold rowB
  exact List.map_congr_left fun i hi => h i (List.mem_range.1 hi)
/-- What skip makes of a row. -/
def sk (A f : Nat → Bool) : Nat → Bool
  | 0 => f 0
  | i + 1 => f (i + 1) || (sk A f i && A i)
variable {α : Type} (ps : List (Ab α))
def isAll (i : Nat) : Bool := (ps[i]?.map (·.many)).getD false
theorem sk_start (i : Nat) (hi : i ≤ ps.length) : sk (isAll ps) (fun j => j == 0) i = pl ps i [] := by
  induction i with
  | zero => rw [pl_zero_nil]; rfl
  | succ i ih =>
    rw [sk, ih (by omega), pl_succ_nil ps i (by omega)]
    unfold isAll
    rw [List.getElem?_eq_getElem (by omega)]
    simp
theorem sk_next (ns : List α) (s : α) (i : Nat) (hi : i ≤ ps.length) : sk (isAll ps) (nx ps ns s) i = pl ps i (ns ++ [s]) := by
  induction i with
  | zero => rw [pl_snoc_zero]; rfl
  | succ i ih =>
    rw [sk, ih (by omega), pl_snoc_succ ps i (by omega)]
    unfold isAll
    rw [List.getElem?_eq_getElem (by omega)]
    simp
/-- The next row, when k parts have been looked at. -/
def nxt (s : α) (now : Nat → Bool) (k : Nat) (j : Nat) : Bool :=
  (decide (j < k) && isAll ps j && now j) || (decide (0 < j) && decide (j - 1 < k) && now (j - 1) && !(ps[j - 1]?.map (·.many)).getD true && (ps[j - 1]?.map (·.st s)).getD false)
theorem nxt_zero (s : α) (now : Nat → Bool) (j : Nat) : nxt ps s now 0 j = false := by simp [nxt]
theorem nxt_end (ns : List α) (s : α) (j : Nat) (hj : j ≤ ps.length) : nxt ps s (fun i => pl ps i ns) ps.length j = nx ps ns s j := by
  cases j with
  | zero =>
    show ((decide (0 < ps.length) && isAll ps 0 && pl ps 0 ns) || (false && _ && _ && _ && _)) = (isAll ps 0 && pl ps 0 ns)
    cases ps with
    | nil => rfl
    | cons m t => simp
  | succ j =>
    unfold nxt nx
    have h1 : decide (j < ps.length) = true := decide_eq_true (by omega)
    simp only [Nat.add_sub_cancel, Nat.zero_lt_succ, decide_true, Bool.true_and, h1]
    congr 1
    by_cases h : j + 1 < ps.length
    · rw [decide_eq_true h]; rfl
    · rw [decide_eq_false h]
      unfold isAll
      rw [List.getElem?_eq_none (by omega)]
      rfl
/-- One part more: not come to. -/
theorem nxt_no {s : α} {now : Nat → Bool} {k : Nat} (h : now k = false) (j : Nat) : nxt ps s now (k + 1) j = nxt ps s now k j := by
  unfold nxt
  by_cases h1 : j = k
  · subst h1
    rw [h]
    by_cases h0 : 0 < j
    · rw [show decide (j - 1 < j + 1) = true from decide_eq_true (by omega), show decide (j - 1 < j) = true from decide_eq_true (by omega)]
      simp
    · rw [show decide (0 < j) = false from decide_eq_false h0]
      simp
  · rw [show decide (j < k + 1) = decide (j < k) from decide_eq_decide.2 (by omega)]
    by_cases h2 : j - 1 = k
    · rw [h2, h]
      simp
    · rw [show decide (j - 1 < k + 1) = decide (j - 1 < k) from decide_eq_decide.2 (by omega)]
theorem nxt_all {s : α} {now : Nat → Bool} {k : Nat} (h : now k = true) (ha : isAll ps k = true) (j : Nat) : nxt ps s now (k + 1) j = if j = k then true else nxt ps s now k j := by
  by_cases h1 : j = k
  · subst h1
    rw [if_pos rfl]
    unfold nxt
    rw [h, ha, decide_eq_true (by omega : j < j + 1)]
    rfl
  · rw [if_neg h1]
    unfold nxt
    rw [show decide (j < k + 1) = decide (j < k) from decide_eq_decide.2 (by omega)]
    by_cases h2 : 0 < j
    · by_cases h3 : j - 1 = k
      · rw [h3]
        have : (ps[k]?.map (·.many)).getD true = true := by
          unfold isAll at ha
          cases hp : ps[k]? with
          | none => rfl
          | some m => rw [hp] at ha; exact ha
        rw [this]
        simp
      · rw [show decide (j - 1 < k + 1) = decide (j - 1 < k) from decide_eq_decide.2 (by omega)]
    · rw [show decide (0 < j) = false from decide_eq_false h2]
      simp
theorem nxt_yes {s : α} {now : Nat → Bool} {k : Nat} (hk : k < ps.length) (h : now k = true) (ha : ps[k].many = false) (hm : ps[k].st s = true) (j : Nat) : nxt ps s now (k + 1) j = if j = k + 1 then true else nxt ps s now k j := by
  have hA : isAll ps k = false := by unfold isAll; rw [List.getElem?_eq_getElem hk]; exact ha
  by_cases h1 : j = k + 1
  · subst h1
    rw [if_pos rfl]
    unfold nxt
    simp [List.getElem?_eq_getElem hk, h, ha, hm]
  · rw [if_neg h1]
    unfold nxt
    congr 1
    · by_cases h2 : j = k
      · subst h2; rw [hA]; simp
      · rw [show decide (j < k + 1) = decide (j < k) from decide_eq_decide.2 (by omega)]
    · by_cases h2 : 0 < j
      · rw [show decide (j - 1 < k + 1) = decide (j - 1 < k) from decide_eq_decide.2 (by omega)]
      · rw [show decide (0 < j) = false from decide_eq_false h2]
        simp
theorem nxt_not {s : α} {now : Nat → Bool} {k : Nat} (hk : k < ps.length) (ha : ps[k].many = false) (hm : ps[k].st s = false) (j : Nat) : nxt ps s now (k + 1) j = nxt ps s now k j := by
  have hA : isAll ps k = false := by unfold isAll; rw [List.getElem?_eq_getElem hk]; exact ha
  unfold nxt
  congr 1
  · by_cases h2 : j = k
    · subst h2; rw [hA]; simp
    · rw [show decide (j < k + 1) = decide (j < k) from decide_eq_decide.2 (by omega)]
  · by_cases h3 : j - 1 = k
    · rw [h3, List.getElem?_eq_getElem hk]
      simp [hm]
    · rw [show decide (j - 1 < k + 1) = decide (j - 1 < k) from decide_eq_decide.2 (by omega)]
end Glb
def boolV (x : Bool) : Value := .bool x
theorem boolV_eq (x : Bool) : boolV x = .bool x := rfl
attribute [go_sem] boolV_eq
def PtS (S : Nat → Prop) (w : World) (x : Pv) (p : Glb.Prt) : Prop := x.all = p.all ∧ MarksS S w x.a x.n p.l ∧ x.n ≤ 1000
def PatS (S : Nat → Prop) (w : World) (a : Option Addr) (n : Nat) (ps : List Glb.Prt) : Prop :=
  ∃ xs : List Pv, RowS S 2 pvC w a n xs ∧ ps.length = n ∧ ∀ i (h : i < xs.length) (h' : i < ps.length), PtS S w xs[i] ps[i]
section
variable {S S' : Nat → Prop} {w w' : World} {a : Option Addr} {n : Nat} {ps : List Glb.Prt}
theorem PtS.keep {x : Pv} {p : Glb.Prt} (h : PtS S w x p) (hk : ∀ b o, S b → w'.cell? ⟨b, o, none⟩ = w.cell? ⟨b, o, none⟩) : PtS S w' x p := ⟨h.1, h.2.1.keep hk, h.2.2⟩
theorem PtS.mono {x : Pv} {p : Glb.Prt} (h : PtS S w x p) (hS : ∀ b, S b → S' b) : PtS S' w x p := ⟨h.1, h.2.1.mono hS, h.2.2⟩
theorem PatS.keep (h : PatS S w a n ps) (hk : ∀ b o, S b → w'.cell? ⟨b, o, none⟩ = w.cell? ⟨b, o, none⟩) : PatS S w' a n ps := by
  obtain ⟨xs, h1, h2, h3⟩ := h
  exact ⟨xs, h1.keep hk, h2, fun i hi hj => (h3 i hi hj).keep hk⟩
theorem PatS.mono (h : PatS S w a n ps) (hS : ∀ b, S b → S' b) : PatS S' w a n ps := by
  obtain ⟨xs, h1, h2, h3⟩ := h
  exact ⟨xs, h1.mono hS, h2, fun i hi hj => (h3 i hi hj).mono hS⟩
theorem PatS.at_ (h : PatS S w a n ps) {k : Nat} (hk : k < n) :
    ∃ b o x, ∃ h' : k < ps.length, a = some ⟨b, o, none⟩ ∧ S b ∧ PtS S w x ps[k] ∧ w.cell? ⟨b, o + k * 2, none⟩ = some (.bool x.all) ∧ w.cell? ⟨b, o + k * 2 + 1, none⟩ = some (.slice x.a x.n x.cp) := by
  obtain ⟨xs, h1, h2, h3⟩ := h
  obtain ⟨b, o, hx, ha, hS, hr⟩ := h1.atv hk
  have hg : k < ps.length := by omega
  exact ⟨b, o, xs[k], hg, ha, hS, h3 k hx hg, by have h0 := hr 0 _ rfl; rw [Nat.add_zero] at h0; exact h0, hr 1 _ rfl⟩
end
/-- Block pb holds a pattern of the parts ps, all of it below block B. -/
structure PatP (B : Nat) (w : World) (pb : Nat) (a : Option Addr) (n c : Nat) (ps : List Glb.Prt) : Prop where
  blk : Blk w pb 45 #[.slice a n c]
  lt : pb < B
  pat : PatS (fun b => b < B) w a n ps
  le : n ≤ 1000
  len : ps.length = n
theorem PatP.on {B B2 pb n c : Nat} {w w' : World} {a : Option Addr} {ps : List Glb.Prt} (h : PatP B w pb a n c ps) (hb : Below B2 w w') (hB : B ≤ B2) : PatP B w' pb a n c ps :=
  ⟨h.blk.below hb (Nat.lt_of_lt_of_le h.lt hB), h.lt, h.pat.keep fun b o (hS : b < B) => hb.cell (p := ⟨b, o, none⟩) (Nat.lt_of_lt_of_le hS hB), h.le, h.len⟩
theorem PatP.mono {B B2 pb n c : Nat} {w : World} {a : Option Addr} {ps : List Glb.Prt} (h : PatP B w pb a n c ps) (hB : B ≤ B2) : PatP B2 w pb a n c ps :=
  ⟨h.blk, Nat.lt_of_lt_of_le h.lt hB, h.pat.mono fun b (hS : b < B) => Nat.lt_of_lt_of_le hS hB, h.le, h.len⟩
end Go.Proofs.Ytlnjfnpoabcllaa
