import Derived.Lib.SlicesCompact
import Derived.Test.YtcppkaphlcflgaaGreatInoRight
import Derived.Test.YtcppkaphlcflgaaGreatRoomInts
import Derived.Deep.QuietTactic
import Derived.BigQuiet
import Derived.Deep.DeepCutAuto
import Derived.Deep.CutBlock
import Derived.Test.YtcppkaphlcflgaaGreatMapAt
import Derived.DeepKeys4
namespace Go.Proofs.YtcppkaphlcflgaaGreat
open Lib (hid)
set_option maxRecDepth 100000
set_option maxHeartbeats 16000000
section
namespace Room

def Inc (l : List Int) : Prop := l.Pairwise (· < ·)
theorem inc_unique {l m : List Int} (hl : Inc l) (hm : Inc m) (h : ∀ x, x ∈ l ↔ x ∈ m) : l = m := by
 induction l generalizing m with
 | nil =>
  cases m with
  | nil => rfl
  | cons y m => exact absurd ((h y).2 (by simp)) (by simp)
 | cons x l ih =>
  cases m with
  | nil => exact absurd ((h x).1 (by simp)) (by simp)
  | cons y m =>
   unfold Inc at hl hm
   rw [List.pairwise_cons] at hl hm
   have hxy : x = y := by
    have h1 := (h x).1 (by simp)
    have h2 := (h y).2 (by simp)
    rcases List.mem_cons.1 h1 with h1 | h1
    ·exact h1
    ·rcases List.mem_cons.1 h2 with h2 | h2
     ·exact h2.symm
     ·have a := hl.1 y h2
      have b := hm.1 x h1
      omega
   subst hxy
   congr 1
   refine ih hl.2 hm.2 fun z => ?_
   constructor
   ·intro hz
    have h1 := (h z).1 (by simp [hz])
    rcases List.mem_cons.1 h1 with rfl | h1
    ·have := hl.1 z hz; omega
    ·exact h1
   ·intro hz
    have h1 := (h z).2 (by simp [hz])
    rcases List.mem_cons.1 h1 with rfl | h1
    ·have := hm.1 z hz; omega
    ·exact h1
theorem compact_inc {d : Array Int} (hs : ∀ i j, i < j → j < d.size → d[i]! ≤ d[j]!) (m : Nat) (hm : m ≤ d.size) :
  Inc (Lib.compactUpTo d m) ∧ (∀ x, x ∈ Lib.compactUpTo d m ↔ ∃ j, j < m ∧ d[j]! = x) := by
 induction m with
 | zero => exact ⟨List.Pairwise.nil, fun x => by simp [Lib.compactUpTo]⟩
 | succ m ih =>
  obtain ⟨h1, h2⟩ := ih (by omega)
  rw [Lib.compactUpTo_succ]
  by_cases hk : Lib.keeps d m = true
  ·rw [if_pos hk]
   have hlt : ∀ x ∈ Lib.compactUpTo d m, x < d[m]! := fun x hx => by
    obtain ⟨j, hj, rfl⟩ := (h2 x).1 hx
    have hne : d[m]! ≠ d[m - 1]! := by
     unfold Lib.keeps at hk
     have := of_decide_eq_true hk
     rcases this with h | h
     ·omega
     ·exact h
    have a := hs (m - 1) m (by omega) (by omega)
    by_cases e : j = m - 1
    ·subst e; omega
    ·have b := hs j (m - 1) (by omega) (by omega)
     omega
   refine ⟨?_, fun x => ?_⟩
   ·unfold Inc
    rw [List.pairwise_append]
    exact ⟨h1, by simp, fun a ha b hb => by rw [List.mem_singleton.1 hb]; exact hlt a ha⟩
   ·rw [List.mem_append, h2, List.mem_singleton]
    constructor
    ·rintro (⟨j, hj, e⟩ | rfl)
     ·exact ⟨j, by omega, e⟩
     ·exact ⟨m, by omega, rfl⟩
    ·rintro ⟨j, hj, e⟩
     by_cases ej : j = m
     ·subst ej; exact .inr e.symm
     ·exact .inl ⟨j, by omega, e⟩
  ·rw [if_neg hk, List.append_nil]
   refine ⟨h1, fun x => ?_⟩
   rw [h2]
   constructor
   ·rintro ⟨j, hj, e⟩; exact ⟨j, by omega, e⟩
   ·rintro ⟨j, hj, e⟩
    by_cases ej : j = m
    ·subst ej
     have hd : j ≠ 0 ∧ d[j]! = d[j - 1]! := by
      unfold Lib.keeps at hk
      simp only [decide_eq_true_eq] at hk
      exact ⟨fun h => hk (.inl h), Classical.byContradiction fun h => hk (.inr h)⟩
     exact ⟨j - 1, by omega, by rw [← hd.2]; exact e⟩
    ·exact ⟨j, by omega, e⟩
def row (l : List Int) : List Int := Lib.compact (l.mergeSort fun x y => decide (x ≤ y))
theorem row_spec (l : List Int) : Inc (row l) ∧ ∀ x, x ∈ row l ↔ x ∈ l := by
 have hp := List.pairwise_mergeSort (le := fun x y : Int => decide (x ≤ y)) (fun a b c h1 h2 => by simp only [decide_eq_true_eq] at *; omega) (fun a b => by simp only [Bool.or_eq_true, decide_eq_true_eq]; omega) l
 have hm : ∀ x, x ∈ l.mergeSort (fun x y => decide (x ≤ y)) ↔ x ∈ l := fun x => List.mem_mergeSort ..
 unfold row
 generalize (l.mergeSort fun x y => decide (x ≤ y)) = s at *
 have h := compact_inc (d := s.toArray) (fun i j hij hj => by
  have hj' : j < s.length := by simpa using hj
  have := List.pairwise_iff_getElem.1 hp i j (by omega) hj' hij
  rw [getElem!_pos _ i (by simp; omega), getElem!_pos _ j hj]
  simpa using this) s.length (by simp)
 refine ⟨h.1, fun x => ?_⟩
 rw [← hm x]
 refine (h.2 x).trans ?_
 constructor
 ·rintro ⟨j, hj, rfl⟩
  rw [getElem!_pos _ j (by simpa using hj)]
  simp
 ·intro hx
  obtain ⟨j, hj, e⟩ := List.getElem_of_mem hx
  exact ⟨j, hj, by rw [getElem!_pos _ j (by simpa using hj)]; simpa using e⟩
theorem row_unique {l m : List Int} (hm : Inc m) (h : ∀ x, x ∈ m ↔ x ∈ l) : row l = m :=
 inc_unique (row_spec l).1 hm fun x => ((row_spec l).2 x).trans (h x).symm
theorem row_len (l : List Int) : (row l).length ≤ l.length := by
 unfold row Lib.compact Lib.compactUpTo
 rw [List.length_map]
 refine Nat.le_trans (List.length_filter_le ..) ?_
 rw [List.length_range, List.length_mergeSort]
 exact Nat.le_refl _
theorem row_self {l : List Int} (h : Inc l) : row l = l := row_unique h fun _ => Iff.rfl
end Room
end
section
namespace Room

def keys (s n : Int) : List (Int × Int) := if Ino.wayA s n = 1 then [(1, 0)] else if Ino.wayA s n = 2 then [(2, -1), (2, Ino.wayB s n)] else []
def nd : List (Int × Int) → Nat
 | [] => 0
 | x :: t => if x ∈ t then nd t else nd t + 1
theorem nd_snoc (L : List (Int × Int)) (x : Int × Int) : nd (L ++ [x]) = if x ∈ L then nd L else nd L + 1 := by
 induction L with
 | nil => simp [nd]
 | cons y t ih =>
  show (if y ∈ t ++ [x] then nd (t ++ [x]) else nd (t ++ [x]) + 1) = _
  rw [ih]
  simp only [List.mem_append, List.mem_cons, nd]
  by_cases h1 : y ∈ t <;> by_cases h2 : x ∈ t <;> by_cases h3 : y = x <;> simp_all [eq_comm]
def kl (s : Int) (l : List Int) : List (Int × Int) := l.flatMap (keys s)
theorem kl_snoc (s : Int) (l : List Int) (n : Int) : kl s (l ++ [n]) = kl s l ++ keys s n := by simp [kl]
def fileN (s : Int) (l : List Int) : Nat := l.length + nd (kl s l)
def allOk (s : Int) (l : List Int) : Bool := l.all fun n => decide (Ino.wayE s n = 0)
theorem allOk_iff {s : Int} {l : List Int} : allOk s l = true ↔ ∀ n ∈ l, Ino.wayE s n = 0 := by simp [allOk]
instance (l : List Int) : Decidable (Inc l) := inferInstanceAs (Decidable (List.Pairwise _ l))
def file (s : Int) (l : List Int) : Int × Int := if ¬ Ino.Sized s ∨ ¬ Inc l then (0, 1) else if allOk s l = true then ((fileN s l : Nat), 0) else (0, 52)
theorem way_le {s n m : Int} (h : Ino.wayE s n = 0) (h' : Ino.wayE s m = 0) (hle : n ≤ m) : Ino.wayA s n ≤ Ino.wayA s m ∧ (Ino.wayA s n = 2 → Ino.wayA s m = 2 → Ino.wayB s n ≤ Ino.wayB s m) ∧ 0 ≤ Ino.wayA s n ∧ Ino.wayA s n ≤ 2 ∧ 0 ≤ Ino.wayB s n := by
 have hk := Ino.half (Ino.wayE_ok h).1
 have c1 := Ino.way_forms h
 have c2 := Ino.way_forms h'
 have hb := (Ino.way_bound h).1
 refine ⟨by omega, fun h1 h2 => ?_, by omega, by omega, hb⟩
 rcases c1 with c1 | c1 | c1
 ·omega
 ·omega
 rcases c2 with c2 | c2 | c2
 ·omega
 ·omega
 obtain ⟨_, b1, _, _⟩ := c1
 obtain ⟨_, b2, _, _⟩ := c2
 rw [b1, b2]
 exact Int.ediv_le_ediv (by omega) (by omega)
theorem keys_len (s n : Int) : (keys s n).length ≤ 2 := by
 unfold keys; split; · simp
 split <;> simp
end Room
end
section
open Go.RowKit

namespace Room
def upto (n : Nat) : List Int := (List.range n).map fun (i : Nat) => (i : Int)
theorem upto_len (n : Nat) : (upto n).length = n := by simp [upto]
theorem upto_mem (n : Nat) (x : Int) : x ∈ upto n ↔ 0 ≤ x ∧ x < n := by
 unfold upto
 rw [List.mem_map]
 constructor
 ·rintro ⟨i, hi, rfl⟩; have := List.mem_range.1 hi; omega
 ·rintro ⟨h1, h2⟩; exact ⟨x.toNat, List.mem_range.2 (by omega), by omega⟩
theorem upto_inc (n : Nat) : Inc (upto n) := by
 unfold Inc upto
 rw [List.pairwise_map]
 exact List.pairwise_lt_range.imp fun h => by omega
def span (a : Int) (k : Nat) : List Int := (List.range k).map fun (i : Nat) => a + (i : Int)
theorem span_len (a : Int) (k : Nat) : (span a k).length = k := by simp [span]
theorem span_snoc (a : Int) (k : Nat) : span a (k + 1) = span a k ++ [a + (k : Int)] := by simp [span, List.range_succ]
def more (f t : Int) : Nat := if 0 ≤ f ∧ t ≤ 131072 then (t - f).toNat else 0
def all (l : List Int) (f t : Int) : List Int := l ++ span f (more f t)
end Room
def FreshI (l : List Int) (w : World) (e : Ending) (w' : World) : Prop := ∃ v, e = .returned v ∧ Own intV 3 w' w.heap.size v l ∧ Below w.heap.size w w'
end
section
open Go.RowKit

theorem below_dN {n0 : Nat} (w : World) (k : Nat) : Below n0 w (w.drewN k) := ⟨rfl, rfl, rfl, Nat.le_refl _, fun _ _ => rfl⟩
end
section
namespace Room

def moreR (s : Int) (xs : List Int) (f t : Int) : Int × Int :=
 if (file s xs).2 ≠ 0 then (0, (file s xs).2) else if (file s (row (all xs f t))).2 ≠ 0 then (0, (file s (row (all xs f t))).2) else ((file s (row (all xs f t))).1 - (file s xs).1, 0)
theorem nd_le' (L : List (Int × Int)) : nd L ≤ L.length := by
 induction L with
 | nil => exact Nat.le_refl _
 | cons x t ih => unfold nd; split <;> simp <;> omega
theorem kl_le (s : Int) (l : List Int) : (kl s l).length ≤ 2 * l.length := by
 induction l with
 | nil => simp [kl]
 | cons x t ih =>
  have h3 := keys_len s x
  have h4 : kl s (x :: t) = keys s x ++ kl s t := by simp [kl]
  rw [h4, List.length_append, List.length_cons]
  omega
theorem file_b (s : Int) (l : List Int) : 0 ≤ (file s l).1 ∧ (file s l).1 ≤ 3 * (l.length : Int) := by
 unfold file
 have h1 := nd_le' (kl s l)
 have h2 := kl_le s l
 split
 ·simp only; omega
 ·split
  ·unfold fileN; simp only; omega
  ·simp only; omega
theorem span_mem {f : Int} {k : Nat} {x : Int} (h : x ∈ span f k) : f ≤ x ∧ x < f + k := by
 unfold span at h
 obtain ⟨i, hi, rfl⟩ := List.mem_map.1 h
 have := List.mem_range.1 hi
 omega
theorem all_bd {xs : List Int} {f t : Int} (hb : ∀ x ∈ xs, -9223372036854775808 ≤ x ∧ x ≤ 9223372036854775807) : ∀ x ∈ row (all xs f t), -9223372036854775808 ≤ x ∧ x ≤ 9223372036854775807 := fun x hx => by
 have h := ((row_spec _).2 x).1 hx
 unfold all at h
 rcases List.mem_append.1 h with h | h
 ·exact hb x h
 ·unfold more at h
  split at h
  ·have := span_mem h; omega
  ·simp [span] at h
theorem all_len {xs : List Int} {f t : Int} : (row (all xs f t)).length ≤ xs.length + more f t := by
 have h := row_len (all xs f t)
 have h2 : (all xs f t).length = xs.length + more f t := by unfold all span; simp
 omega
end Room
end
section
open Go.RowKit

theorem rmost_calls (s : Int) (w : World) :
  Calls Tryz.prog 29 #[.int .i64 s] w fun e w' => e = .returned (.int .i64 (Ino.most s)) ∧ w = w' := by
 by_cases h : Ino.Sized s
 ·have hd : decide (Ino.Sized s) = true := decide_eq_true h
  have HS := hid h
  rcases h with rfl | rfl | rfl | rfl
  ·
   go_enter Tryz.func29, Tryz.ntmps29
   go_wp2_with fail
   refine (sized_calls _ _).mono ?_
   rintro e w_ ⟨rfl, rfl⟩
   rw [hd]
   go_wp2_with fail
   refine (pages_calls _ HS.out _).mono ?_
   rintro e w_ ⟨rfl, rfl⟩
   rw [show Ino.pages 64 = 1062 from rfl]
   go_wp2
   go_ret
   exact ⟨rfl, rfl⟩
  ·
   go_enter Tryz.func29, Tryz.ntmps29
   go_wp2_with fail
   refine (sized_calls _ _).mono ?_
   rintro e w_ ⟨rfl, rfl⟩
   rw [hd]
   go_wp2_with fail
   refine (pages_calls _ HS.out _).mono ?_
   rintro e w_ ⟨rfl, rfl⟩
   rw [show Ino.pages 128 = 4166 from rfl]
   go_wp2
   go_ret
   exact ⟨rfl, rfl⟩
  ·
   go_enter Tryz.func29, Tryz.ntmps29
   go_wp2_with fail
   refine (sized_calls _ _).mono ?_
   rintro e w_ ⟨rfl, rfl⟩
   rw [hd]
   go_wp2_with fail
   refine (pages_calls _ HS.out _).mono ?_
   rintro e w_ ⟨rfl, rfl⟩
   rw [show Ino.pages 256 = 16518 from rfl]
   go_wp2
   go_ret
   exact ⟨rfl, rfl⟩
  ·
   go_enter Tryz.func29, Tryz.ntmps29
   go_wp2_with fail
   refine (sized_calls _ _).mono ?_
   rintro e w_ ⟨rfl, rfl⟩
   rw [hd]
   go_wp2_with fail
   refine (pages_calls _ HS.out _).mono ?_
   rintro e w_ ⟨rfl, rfl⟩
   rw [show Ino.pages 512 = 65798 from rfl]
   go_wp2
   go_ret
   exact ⟨rfl, rfl⟩
 ·have hd : decide (Ino.Sized s) = false := decide_eq_false h
  have hv : Ino.most s = 0 := by unfold Ino.most; rw [if_neg h]
  rw [hv]
  clear hv h
  go_enter Tryz.func29, Tryz.ntmps29
  go_wp2_with fail
  refine (sized_calls _ _).mono ?_
  rintro e w_ ⟨rfl, rfl⟩
  rw [hd]
  go_wp2
  go_ret
  exact ⟨rfl, rfl⟩
theorem rperPage_calls (s : Int) (w : World) :
  Calls Tryz.prog 41 #[.int .i64 s] w fun e w' => e = .returned (.int .i64 (Ino.perPage s)) ∧ w = w' := by
 by_cases h : Ino.Sized s
 ·have hd : decide (Ino.Sized s) = true := decide_eq_true h
  rcases h with rfl | rfl | rfl | rfl
  all_goals
   go_enter Tryz.func41, Tryz.ntmps41
   go_wp2_with fail
   refine (sized_calls _ _).mono ?_
   rintro e w_ ⟨rfl, rfl⟩
   rw [hd]
   go_wp2
   go_ret
   exact ⟨rfl, rfl⟩
 ·have hd : decide (Ino.Sized s) = false := decide_eq_false h
  have hv : Ino.perPage s = 0 := by unfold Ino.perPage; rw [if_neg h]
  rw [hv]
  clear hv h
  go_enter Tryz.func41, Tryz.ntmps41
  go_wp2_with fail
  refine (sized_calls _ _).mono ?_
  rintro e w_ ⟨rfl, rfl⟩
  rw [hd]
  go_wp2
  go_ret
  exact ⟨rfl, rfl⟩
theorem per_zero {s : Int} (h : ¬ Ino.Sized s) : Ino.perPage s = 0 := by unfold Ino.perPage; rw [if_neg h]
end
section
open Go.RowKit

theorem Room.inc_adj {l : List Int} (h : ∀ i (hi : i + 1 < l.length), l[i] < l[i + 1]) : Room.Inc l := by
 unfold Room.Inc
 rw [List.pairwise_iff_getElem]
 intro i j hi hj hij
 induction j with
 | zero => omega
 | succ j ih =>
  have a := h j hj
  by_cases e : i = j
  ·subst e; exact a
  ·have := ih (by omega) (by omega); omega
theorem Room.file_arg {s : Int} {l : List Int} (h : ¬ Ino.Sized s ∨ ¬ Room.Inc l) : Room.file s l = (0, 1) := if_pos h
theorem Room.file_idx {s : Int} {l : List Int} (h : Ino.Sized s) (hi : Room.Inc l) {x : Int} (hx : x ∈ l) (he : Ino.wayE s x ≠ 0) : Room.file s l = (0, 52) := by
 unfold Room.file
 rw [if_neg (by rintro (h1 | h1); exact h1 h; exact h1 hi), if_neg (fun h2 => he (Room.allOk_iff.1 h2 x hx))]
theorem Room.file_ok {s : Int} {l : List Int} (h : Ino.Sized s) (hi : Room.Inc l) (ho : ∀ x ∈ l, Ino.wayE s x = 0) : Room.file s l = (((Room.fileN s l : Nat) : Int), 0) := by
 unfold Room.file
 rw [if_neg (by rintro (h1 | h1); exact h1 h; exact h1 hi), if_pos (Room.allOk_iff.2 ho)]
def FileR (r : Int × Int) (w : World) (e : Ending) (w' : World) : Prop := e = .returned (.tuple #[.int .i64 r.1, .int .i64 r.2]) ∧ Below w.heap.size w w'
end
section
open Go.RowKit

theorem rises_calls (a : Option Addr) (n c : Nat) (xs : List Int) (w : World) (hx : Arr intV w w.heap.size a n xs) (hn : n ≤ 4000) :
  Calls Tryz.prog 42 #[.slice a n c] w (fun e w' => e = .returned (.bool (decide (Room.Inc xs))) ∧ Below w.heap.size w w') := by
 have hl := hx.len
 have HX := hid hx
 have HL := hid hl
 clear hx hl
 obtain ⟨r, hr⟩ : ∃ r, r = decide (Room.Inc xs) := ⟨_, rfl⟩
 rw [← hr]
 have HR := hid hr
 clear hr
 go_enter Tryz.func42, Tryz.ntmps42
 go_wp2
 go_step3
 go_wp2
 go_step3
 go_wp2
 go_loopw [3, 4] (fun g i wr => ∃ k : Nat, 1 ≤ k ∧ k ≤ n + 1 ∧ g = .bool true ∧ i = .int .i64 k ∧ (∀ j (hj : j + 1 < xs.length), j + 1 < k → xs[j] < xs[j + 1]) ∧ ∃ d, wr = w.drewN d) (fun _ i _ => n + 1 - (intOf i).toNat)
 case atStart => exact ⟨1, by omega, by omega, rfl, rfl, by omega, 0, rfl⟩
 case round =>
  obtain ⟨k, hk1, hk2, rfl, rfl, hadj, d, rfl⟩ := hrel
  have HAdj := hid hadj
  have HDr := hid (fun e => (show (w.drewN d).drewN e = w.drewN (d + e) from World.drewN_drewN _ _ _))
  clear hadj
  by_cases hlt : k < n
  ·obtain ⟨b, o, hj1, rfl, hbb, hc1⟩ := HX.out.atI (k := k) hlt
   obtain ⟨b', o', hj0, hab, _, hc0⟩ := HX.out.atI (k := k - 1) (by omega)
   simp only [Option.some.injEq, Addr.mk.injEq, and_true] at hab
   obtain ⟨rfl, rfl⟩ := hab
   obtain ⟨j, rfl⟩ : ∃ j, k = j + 1 := ⟨k - 1, by omega⟩
   simp only [Nat.add_sub_cancel] at hj0 hc0
   have hc1' : (w.drewN d).cell? ⟨b, o + (j + 1), none⟩ = some (.int .i64 xs[j + 1]) := hc1
   have hc0' : (w.drewN d).cell? ⟨b, o + j, none⟩ = some (.int .i64 xs[j]) := hc0
   have HY := hid (fun h : xs[j] < xs[j + 1] => (show ∀ i (hi : i + 1 < xs.length), i + 1 < j + 1 + 1 → xs[i] < xs[i + 1] from fun i hi h2 => by
    by_cases e : i = j
    ·subst e; exact h
    ·exact HAdj.out i hi (by omega)))
   have HNo := hid (fun h : xs[j + 1] ≤ xs[j] => (show ¬ Room.Inc xs from fun hinc => by
    have := List.pairwise_iff_getElem.1 hinc j (j + 1) hj0 hj1 (by omega); omega))
   generalize xs[j + 1] = y at *
   generalize xs[j] = x at *
   have q1 : IntKind.i64.wrap ((j : Int) + 1 - 1) = (j : Int) := by rw [show (j : Int) + 1 - 1 = j by omega]; exact IntWalk.i64_in _ ⟨by omega, by omega⟩
   have q2 : (0 : Int) ≤ (j : Int) := by omega
   have q3 : (j : Int) < (n : Int) := by omega
   have q4 : (0 : Int) ≤ (j : Int) + 1 := by omega
   have q5 : (j : Int) + 1 < (n : Int) := by omega
   have q6 : ((j : Int) + 1).toNat = j + 1 := by omega
   clear hc1 hc0
   by_cases hyx : y ≤ x
   ·have g1 : decide (y ≤ x) = true := decide_eq_true hyx
    have HF := hid (HR.out.trans (decide_eq_false (HNo.out hyx)))
    clear hyx
    generalize w.drewN d = wz at *
    go_wp2_with fail
    go_quiet (fail)
    go_wp2
    rw [Exit.noGoto_ret]
    go_ret
    exact ⟨by rw [HF.out]; rfl, by rw [HDr.out]; exact below_dN _ _⟩
   ·have g1 : decide (y ≤ x) = false := decide_eq_false hyx
    have HY2 := hid (HY.out (by omega))
    clear hyx
    generalize w.drewN d = wz at *
    go_wp2_with fail
    go_quiet (fail)
    go_wp2
    go_roundw
    case rel => exact ⟨j + 1 + 1, by omega, by omega, rfl, by go_num, HY2.out, d + nq, HDr.out nq⟩
    case measure => simp [intOf]; omega
  ·have hinc := hid (Room.inc_adj (l := xs) fun i hi => HAdj.out i hi (by have := HL.out; omega))
   have g9 : decide ((k : Int) < (n : Int)) = false := decide_eq_false (by omega)
   have HBw := hid (show Below w.heap.size w (w.drewN d) from below_dN w d)
   have HF := hid (HR.out.trans (decide_eq_true hinc.out))
   clear HAdj HDr
   generalize w.drewN d = wz at *
   go_wp2
   rw [Exit.noGoto_ret]
   go_ret
   exact ⟨by rw [HF.out]; rfl, HBw.out⟩
end
section
open Go.RowKit Go.Maps Go.ChangeMaps

theorem laidOutP : laidOutB Tryz.prog = true := by kernel_rfl
theorem rowKey : (93 : TypeId) < Tryz.prog.types.size := of_decide_eq_true (by kernel_rfl)
theorem wideKey : (match Tryz.prog.underlying 93 with | some (.array _ _) | some (.struct _) => true | _ => false) = true := by rw [Tryz.underlying93]
theorem keyLaw : Keyed Tryz.prog 93 := Keyed.of_law (deep_law_laid laidOutP (m := 2) (by omega) rowKey (by kernel_rfl) wideKey)
theorem cellsKey : Tryz.prog.cellsOf 93 = 3 := by kernel_rfl
def kV (x : Int × Int) : Value := .agg #[.int .i64 x.1, .int .i64 x.2, .int .i64 0]
theorem int_wf (x : Int) (h : -9223372036854775808 ≤ x ∧ x ≤ 9223372036854775807) : (Lit.int .i64 x).wf = true := by
 simp [Lit.wf, IntKind.min, IntKind.max, IntKind.bits, IntKind.signed]
 omega
def i64In (x : Int) : Prop := -9223372036854775808 ≤ x ∧ x ≤ 9223372036854775807
theorem kvOf (x : Int × Int) (h1 : i64In x.1) (h2 : i64In x.2) : ∃ l, keyOf Tryz.prog 93 (kV x) = some l := by
 have hkt : Tryz.prog.keyType 93 = true := by kernel_rfl
 have hone : Tryz.prog.cellsOf 3 = 1 := by kernel_rfl
 obtain ⟨m, hm⟩ : ∃ m, Tryz.prog.types.size = m + 1 := ⟨_, rfl⟩
 have w1 := int_wf x.1 h1
 have w2 := int_wf x.2 h2
 have w3 := int_wf 0 (by omega)
 unfold keyOf kV
 simp only [Tryz.underlying93]
 rw [if_pos (by simp [hkt, Value.formed, Tryz.underlying93, cellsKey]), hm]
 unfold Program.keyLits
 simp only [Tryz.underlying93, Value.cells]
 simp [hone, cellsKey, Program.keyLits, Tryz.underlying3, w1, w2, w3]
theorem kV_inj {x y : Int × Int} (h : kV x = kV y) : x = y := by
 unfold kV at h
 simp only [Value.agg.injEq, Array.mk.injEq, List.cons.injEq, Value.int.injEq, true_and, and_true] at h
 obtain ⟨a, b⟩ := x
 obtain ⟨d, e⟩ := y
 simp only at h
 rw [h.1, h.2]
section
variable {P : Program} {k : TypeId} {w : World} {b : Nat} {l : List (Value × Value)} {key : Value} {t e : TypeId} {kl : Lit}
theorem MapAt.mid (h : MapAt P k w b l) (K : Keyed P k) (ht : P.underlying t = some (.map k e)) {z : Value} (hz : (zeroValue e).run P w = .ok z w) (hkey : keyOf P k key = some kl) {v st : Value} {w1 : World}
  (hrun : (Instr.mapEntry t (.map (some b)) key).run P w = .ok (.tuple #[v, st]) w1) : ∃ l1, MapAt P k w1 b l1 ∧ (key, v) ∈ l1 := by
 obtain ⟨es, clock, hb, rfl, hborn, hnb, hnk, hkeys⟩ := h
 have hk : ∀ x ∈ es.toList, ∃ l, keyOf P k x.key = some l := fun x hx => hkeys (x.key, x.val) (List.mem_map.2 ⟨x, hx, rfl⟩)
 rcases K.find w hkey es.toList hk with ⟨h1, h2⟩ | ⟨j, e0, h1, h2, h3⟩
 ·have hP : PutAt (es.toList.map fun e => (e.key, e.val)) key z ((es.toList.map fun e => (e.key, e.val)) ++ [(key, z)]) := .inr ⟨fun p hp => by obtain ⟨x, hx, rfl⟩ := List.mem_map.1 hp; exact h2 x hx, rfl⟩
  have hr : (Instr.mapEntry t (.map (some b)) key).run P w = .ok (.tuple #[z, goInt clock]) (setBlock w b (.map (es.push ⟨key, z, clock⟩) (clock + 1))) := by
   simp [Instr.mapEntry, run_underlying ht, MapKept.run_getObj_map hb, K.check w false hkey, h1, hz, MapKept.run_setObj_map _ hb, Result.andThen, setBlock]
  rw [hr] at hrun
  injection hrun with e1 e2
  simp only [Value.tuple.injEq, Array.mk.injEq, List.cons.injEq, and_true] at e1
  obtain ⟨rfl, _⟩ := e1
  subst e2
  refine ⟨_, ⟨_, _, heap_setBlock_same hb _, rfl, ?_, ?_, ?_, ?_⟩, by simp⟩
  ·intro x hx
   simp only [Array.toList_push, List.mem_append, List.mem_singleton] at hx
   rcases hx with hx | rfl
   ·have := hborn x hx; omega
   ·show clock < clock + 1; omega
  ·rw [Array.toList_push, List.map_append, List.nodup_append]
   refine ⟨hnb, by simp, ?_⟩
   rintro a ha c hc rfl
   obtain ⟨x, hx, rfl⟩ := List.mem_map.1 ha
   simp at hc
   have := hborn x hx; omega
  ·have := hP.keys hnk
   simpa using this
  ·intro p hp
   simp only [Array.toList_push, List.map_append, List.map_cons, List.map_nil, List.mem_append, List.mem_singleton] at hp
   rcases hp with hp | rfl
   ·exact hkeys p hp
   ·exact ⟨kl, hkey⟩
 ·have hj : es[j]? = some e0 := by simpa using h2
  have hsame : es.modify j (fun e => { e with key := key }) = es := by
   apply Array.ext'
   rw [Array.toList_modify, modify_eq_set _ _ _ _ h2]
   have : ({ e0 with key := key } : MapEntry) = e0 := by rw [← h3]
   rw [this]
   exact WideElems.set_self _ _ _ h2
  have hr : (Instr.mapEntry t (.map (some b)) key).run P w = .ok (.tuple #[e0.val, goInt e0.born]) (setBlock w b (.map es clock)) := by
   simp [Instr.mapEntry, run_underlying ht, MapKept.run_getObj_map hb, K.check w false hkey, h1, hj, h3, K.stays w hkey, hsame, MapKept.run_setObj_map _ hb, Result.andThen, setBlock]
  rw [hr] at hrun
  injection hrun with e1 e2
  simp only [Value.tuple.injEq, Array.mk.injEq, List.cons.injEq, and_true] at e1
  obtain ⟨rfl, _⟩ := e1
  subst e2
  exact ⟨_, ⟨_, _, heap_setBlock_same hb _, rfl, hborn, hnb, hnk, hkeys⟩, List.mem_map.2 ⟨e0, List.mem_of_getElem? h2, by rw [h3]⟩⟩
end
def Ptr (L : List (Int × Int)) (bd : Int) (w : World) (M : Nat) : Prop :=
 ∃ l, MapAt Tryz.prog 93 w M l ∧ (∀ p ∈ l, ∃ x v, p = (kV x, .int .i64 v) ∧ x ∈ L ∧ 0 ≤ v ∧ v ≤ bd) ∧ (∀ x ∈ L, ∃ v, (kV x, v) ∈ l) ∧ l.length = Room.nd L
theorem Ptr.made (w : World) : Ptr [] 0 (w.alloc (.map #[] 0)) w.heap.size := ⟨[], MapAt.made w, by simp, by simp, rfl⟩
theorem Ptr.on {L : List (Int × Int)} {bd : Int} {w w' : World} {M : Nat} (h : Ptr L bd w M) (hb : Below w.heap.size w w') : Ptr L bd w' M := by
 obtain ⟨l, h1, h2⟩ := h
 exact ⟨l, h1.on hb, h2⟩
theorem Ptr.lt {L : List (Int × Int)} {bd : Int} {w : World} {M : Nat} (h : Ptr L bd w M) : M < w.heap.size := by obtain ⟨_, h1, _⟩ := h; exact h1.lt
theorem Ptr.size {L : List (Int × Int)} {bd : Int} {w : World} {M : Nat} (h : Ptr L bd w M) : ∃ es clock, w.heap[M]? = some (.map es clock) ∧ es.size = Room.nd L := by
 obtain ⟨l, h1, _, _, h2⟩ := h
 rw [← h2]
 exact h1.size
theorem Ptr.step {L : List (Int × Int)} {bd : Int} {w : World} {M : Nat} (h : Ptr L bd w M) (x : Int × Int) (k1 : i64In x.1) (k2 : i64In x.2) (hbd : 0 ≤ bd) :
  ∃ v st o, 0 ≤ v ∧ v ≤ bd ∧ (Instr.lookup 91 (.map (some M)) (kV x) false).run Tryz.prog w = .ok (.int .i64 v) w ∧
   (Instr.mapEntry 91 (.map (some M)) (kV x)).run Tryz.prog w = .ok (.tuple #[.int .i64 v, st]) (setBlock w M o) ∧
   (Instr.lookup 91 (.map (some M)) (kV x) false).run Tryz.prog (setBlock w M o) = .ok (.int .i64 v) (setBlock w M o) ∧
   w.grownBy (setBlock w M o) (some M) ∧ ∃ o', (Instr.entryStore 91 (.map (some M)) st (.int .i64 (v + 1))).run Tryz.prog (setBlock w M o) = .ok () (setBlock (setBlock w M o) M o') ∧
    Ptr (L ++ [x]) (bd + 1) (setBlock (setBlock w M o) M o') M ∧ (setBlock w M o).grownBy (setBlock (setBlock w M o) M o') (some M) := by
 obtain ⟨l, h1, h2, h3, h4⟩ := h
 obtain ⟨kl, hkl⟩ := kvOf x k1 k2
 obtain ⟨v, st, o, hrun, hv, hM, _, hg, hback⟩ := h1.entry keyLaw Tryz.underlying91 (z := .int .i64 0) (by kernel_rfl) hkl
 obtain ⟨l1, hm1, hin⟩ := h1.mid keyLaw Tryz.underlying91 (z := .int .i64 0) (by kernel_rfl) hkl hrun
 obtain ⟨v2, f2, hl2, hc2⟩ := hm1.look keyLaw Tryz.underlying91 (z := .int .i64 0) (by kernel_rfl) hkl false
 obtain ⟨v3, f3, hl3, hc3⟩ := h1.look keyLaw Tryz.underlying91 (z := .int .i64 0) (by kernel_rfl) hkl false
 have e2 : v2 = v := by
  rcases hc2 with ⟨_, hc⟩ | ⟨_, _, hc⟩
  ·exact hm1.one hc hin
  ·exact absurd rfl (hc _ hin)
 have e3 : v3 = v := by
  rcases hc3 with ⟨_, hc⟩ | ⟨_, rfl, hc⟩ <;> rcases hv with hv | ⟨rfl, hv⟩
  ·exact h1.one hc hv
  ·exact absurd rfl (hv _ hc)
  ·exact absurd rfl (hc _ hv)
  ·rfl
 obtain ⟨u, rfl, u0, u1⟩ : ∃ u : Int, v = .int .i64 u ∧ 0 ≤ u ∧ u ≤ bd := by
  rcases hv with hv | ⟨rfl, _⟩
  ·obtain ⟨y, u, he, _, hu0, hu1⟩ := h2 _ hv
   injection he with _ he
   exact ⟨u, he, hu0, hu1⟩
  ·exact ⟨0, rfl, Int.le_refl _, hbd⟩
 rw [e2] at hl2
 rw [e3] at hl3
 obtain ⟨l', o', hst, hP, hM', hg'⟩ := hback (setBlock w M o) (.int .i64 (u + 1)) hM
 have hmem := hP.mem h1.nodup
 have hxin : x ∈ L ↔ ∃ v, (kV x, v) ∈ l := ⟨fun hx => h3 x hx, fun ⟨v, hv⟩ => by
  obtain ⟨y, u, he, hy, _⟩ := h2 _ hv
  injection he with he _
  rw [kV_inj he]; exact hy⟩
 refine ⟨u, st, o, u0, u1, by simpa using hl3, hrun, by simpa using hl2, hg, o', hst, ⟨l', hM', fun p hp => ?_, fun y hy => ?_, ?_⟩, hg'⟩
 ·obtain ⟨pk, pv⟩ := p
  rcases (hmem _ _).1 hp with ⟨rfl, rfl⟩ | ⟨_, hp⟩
  ·exact ⟨x, u + 1, rfl, by simp, by omega, by omega⟩
  ·obtain ⟨y, u, he, hy, a1, a2⟩ := h2 _ hp
   exact ⟨y, u, he, by simp [hy], a1, by omega⟩
 ·by_cases e : y = x
  ·subst e
   exact ⟨_, (hmem _ _).2 (.inl ⟨rfl, rfl⟩)⟩
  ·have hy' : y ∈ L := by simpa [e] using hy
   obtain ⟨v, hv⟩ := h3 y hy'
   exact ⟨v, (hmem _ _).2 (.inr ⟨fun e2 => e (kV_inj e2), hv⟩)⟩
 ·rw [Room.nd_snoc]
  rcases hP.len with ⟨hh, he⟩ | ⟨hh, he⟩
  ·rw [if_pos (hxin.2 hh), he, h4]
  ·rw [if_neg (fun hx => by obtain ⟨v, hv⟩ := hxin.1 hx; exact hh _ hv rfl), he, h4]
end
end Go.Proofs.YtcppkaphlcflgaaGreat
