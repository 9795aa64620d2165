/-
  The reference's has, Upto, Cut and With.
-/
import Derived.Test.YtfiphpdagnlbbaaRoomInts
import Derived.Test.YtfiphpdagnlbbaaRoomSet
import Derived.Deep.QuietTactic
import Derived.BigQuiet
namespace Go.Proofs.Ytfiphpdagnlbbaa
open Go.RowKit

namespace Room
def upto (n : Nat) : List Int := (List.range n).map fun (i : Nat) => (i : Int)
theorem upto_len (n : Nat) : (upto n).length = n := by simp [upto]
theorem upto_snoc (n : Nat) : upto (n + 1) = upto n ++ [(n : Int)] := by simp [upto, List.range_succ]
theorem upto_mem (n : Nat) (x : Int) : x ∈ upto n ↔ 0 ≤ x ∧ x < n := by
  unfold upto
  rw [List.mem_map]
  constructor
  · rintro ⟨i, hi, rfl⟩; have := List.mem_range.1 hi; omega
  · rintro ⟨h1, h2⟩; exact ⟨x.toNat, List.mem_range.2 (by omega), by omega⟩
theorem upto_inc (n : Nat) : Inc (upto n) := by
  unfold Inc upto
  rw [List.pairwise_map]
  exact List.pairwise_lt_range.imp fun h => by omega
def cutL (l : List Int) (n : Int) : List Int := l.filter fun x => decide (x < n)
/-- The numbers from a on, k of them. -/
def span (a : Int) (k : Nat) : List Int := (List.range k).map fun (i : Nat) => a + (i : Int)
theorem span_len (a : Int) (k : Nat) : (span a k).length = k := by simp [span]
theorem span_snoc (a : Int) (k : Nat) : span a (k + 1) = span a k ++ [a + (k : Int)] := by simp [span, List.range_succ]
/-- How many numbers With adds. -/
def more (f t : Int) : Nat := if 0 ≤ f ∧ t ≤ 131072 then (t - f).toNat else 0
def all (l : List Int) (f t : Int) : List Int := l ++ span f (more f t)
end Room
theorem has_calls (a : Option Addr) (n c : Nat) (xs : List Int) (x : Int) (w : World) (hx : Arr intV w w.heap.size a n xs) (h : x ∈ xs) :
    Calls Try.prog 36 #[.slice a n c, .int .i64 x] w fun e w' => e = .returned (.bool true) ∧ w = w' := by
  have hl := hx.len
  have hroom := hx.room
  have HX := Lib.hid hx
  have HL := Lib.hid hl
  have HM := Lib.hid h
  clear hx hl h
  go_enter Try.func36, Try.ntmps36
  go_wp2
  go_loop [5] (fun i => ∃ k : Nat, k ≤ n ∧ i = .int .i64 k ∧ ∀ y ∈ xs.take k, y ≠ x) (fun i => n - (intOf i).toNat)
  case atStart => exact ⟨0, by omega, rfl, by simp⟩
  case round =>
    obtain ⟨k, hk, rfl, hne⟩ := hrel
    have HN := Lib.hid hne
    clear hne
    by_cases hlt : k < n
    · obtain ⟨b, o, hk', rfl, _, hc⟩ := HX.out.atI hlt
      have HT := Lib.hid (show xs.take (k + 1) = xs.take k ++ [xs[k]] by rw [List.take_succ_eq_append_getElem hk'])
      generalize xs[k] = y at *
      by_cases hy : y = x
      · have z : (y == x) = true := by rw [beq_iff_eq]; exact hy
        clear hy
        go_wp2
        go_ret
        exact ⟨rfl, rfl⟩
      · have z : (y == x) = false := by rw [beq_eq_false_iff_ne]; exact hy
        go_wp2
        go_round
        case rel => exact ⟨k + 1, by omega, by go_num, fun q hq => by
          rw [HT.out] at hq
          rcases List.mem_append.1 hq with hq | hq
          · exact HN.out q hq
          · rw [List.mem_singleton.1 hq]; exact hy⟩
        case measure => simp [intOf]; omega
    · exact absurd rfl (HN.out x (by rw [List.take_of_length_le (by have := HL.out; omega)]; exact HM.out))
theorem has_no (a : Option Addr) (n c : Nat) (xs : List Int) (x : Int) (w : World) (hx : Arr intV w w.heap.size a n xs) (h : x ∉ xs) :
    Calls Try.prog 36 #[.slice a n c, .int .i64 x] w fun e w' => e = .returned (.bool false) ∧ w = w' := by
  have hroom := hx.room
  have HX := Lib.hid hx
  have HM := Lib.hid h
  clear hx h
  go_enter Try.func36, Try.ntmps36
  go_wp2
  go_loop [5] (fun i => ∃ k : Nat, k ≤ n ∧ i = .int .i64 k) (fun i => n - (intOf i).toNat)
  case atStart => exact ⟨0, by omega, rfl⟩
  case round =>
    obtain ⟨k, hk, rfl⟩ := hrel
    by_cases hlt : k < n
    · obtain ⟨b, o, hk', rfl, _, hc⟩ := HX.out.atI hlt
      have z : (xs[k] == x) = false := by rw [beq_eq_false_iff_ne]; intro e; exact HM.out (by rw [← e]; exact List.getElem_mem hk')
      generalize xs[k] = y at *
      go_wp2
      go_round
      case rel => exact ⟨k + 1, by omega, by go_num⟩
      case measure => simp [intOf]; omega
    · obtain rfl : k = n := by omega
      go_wp2
      go_ret
      exact ⟨rfl, rfl⟩
def FreshI (l : List Int) (w : World) (e : Ending) (w' : World) : Prop := ∃ v, e = .returned v ∧ Own intV 3 w' w.heap.size v l ∧ Below w.heap.size w w'
set_option maxHeartbeats 1000000 in
theorem upto_calls (n : Nat) (w : World) (hn : n ≤ 100000) : Calls Try.prog 32 #[.int .i64 n] w (FreshI (Room.upto n) w) := by
  go_enter Try.func32, Try.ntmps32
  go_wp2
  go_loopw [3, 4] (fun v i wr => ∃ k : Nat, k ≤ n ∧ i = .int .i64 k ∧ Own intV 3 wr w.heap.size v (Room.upto k) ∧ Below w.heap.size w wr) (fun _ i _ => n - (intOf i).toNat)
  case atStart => exact ⟨0, by omega, rfl, Own.nil _ _, Below.refl _ _⟩
  case round =>
    obtain ⟨k, hk, rfl, ho, hb⟩ := hrel
    have HO := Lib.hid ho
    have HB := Lib.hid hb
    have hsz := hb.size
    clear ho hb
    by_cases hlt : k < n
    · go_wp2_with (at_builtin; refine wpList_litI rfl _ _ rfl w.heap.size _ (Room.upto k) rfl HO.out (k : Int) rfl rfl (by rw [Room.upto_len]; omega) hsz ?_; intro v1 w1 HO1 HB1)
      go_roundw
      case rel => exact ⟨k + 1, by omega, by go_num, by rw [Room.upto_snoc]; exact HO1.out, HB.out.trans HB1.out⟩
      case measure => simp [intOf]; omega
    · obtain rfl : k = n := by omega
      go_wp2
      go_ret
      exact ⟨_, rfl, HO.out, HB.out⟩
theorem cutL_snoc (l : List Int) (n x : Int) : Room.cutL (l ++ [x]) n = if x < n then Room.cutL l n ++ [x] else Room.cutL l n := by
  unfold Room.cutL
  rw [List.filter_append]
  by_cases h : x < n
  · simp [h]
  · simp [h]
set_option maxHeartbeats 1000000 in
theorem refCut_calls (a : Option Addr) (n c : Nat) (xs : List Int) (x : Int) (w : World) (hx : Arr intV w w.heap.size a n xs) (hn : n ≤ 1000) :
    Calls Try.prog 24 #[.slice a n c, .int .i64 x] w (FreshI (Room.cutL xs x) w) := by
  have HX := Lib.hid hx
  have HL := Lib.hid hx.len
  clear hx
  go_enter Try.func24, Try.ntmps24
  go_wp2
  go_loopw [5, 6] (fun v i wr => ∃ k : Nat, k ≤ n ∧ i = .int .i64 k ∧ Own intV 3 wr w.heap.size v (Room.cutL (xs.take k) x) ∧ Below w.heap.size w wr) (fun _ i _ => n - (intOf i).toNat)
  case atStart => exact ⟨0, by omega, rfl, Own.nil _ _, Below.refl _ _⟩
  case round =>
    obtain ⟨k, hk, rfl, ho, hb⟩ := hrel
    have HO := Lib.hid ho
    have HB := Lib.hid hb
    have hsz := hb.size
    have hcl : (Room.cutL (xs.take k) x).length ≤ 1000 := by
      have h1 := List.length_filter_le (fun y => decide (y < x)) (xs.take k)
      have h2 : (xs.take k).length ≤ k := List.length_take_le _ _
      unfold Room.cutL; omega
    clear ho hb
    by_cases hlt : k < n
    · obtain ⟨b, o, hk', rfl, _, hc⟩ := (HX.out.on HB.out).atI hlt
      have HT := Lib.hid (show Room.cutL (xs.take (k + 1)) x = if xs[k] < x then Room.cutL (xs.take k) x ++ [xs[k]] else Room.cutL (xs.take k) x by rw [List.take_succ_eq_append_getElem hk', cutL_snoc])
      generalize xs[k] = y at *
      by_cases hy : y < x
      · have HT2 := Lib.hid (HT.out.trans (if_pos hy))
        go_wp2_with (at_builtin; refine wpList_litI rfl _ _ rfl w.heap.size _ _ rfl HO.out y rfl rfl (by omega) hsz ?_; intro v1 w1 HO1 HB1)
        go_roundw
        case rel => exact ⟨k + 1, by omega, by go_num, by rw [HT2.out]; exact HO1.out, HB.out.trans HB1.out⟩
        case measure => simp [intOf]; omega
      · have HT2 := Lib.hid (HT.out.trans (if_neg hy))
        go_wp2
        go_roundw
        case rel => exact ⟨k + 1, by omega, by go_num, by rw [HT2.out]; exact HO.out, HB.out⟩
        case measure => simp [intOf]; omega
    · obtain rfl : k = n := by omega
      have HT2 := Lib.hid (show xs.take k = xs from List.take_of_length_le (by have := HL.out; omega))
      go_wp2
      go_ret
      exact ⟨_, rfl, by have := HO.out; rw [HT2.out] at this; exact this, HB.out⟩
theorem tw_at {l : List Int} {x : Int} {q : Nat} (hq : q < (l.takeWhile (· < x)).length) : ∃ h : q < l.length, l[q] < x := by
  have hp : l.takeWhile (· < x) <+: l := List.takeWhile_prefix _
  have hl := hp.length_le
  refine ⟨by omega, ?_⟩
  have h1 : (l.takeWhile (· < x))[q] = l[q] := hp.getElem hq
  have h2 := List.all_takeWhile (p := fun y : Int => decide (y < x)) (l := l)
  rw [List.all_eq_true] at h2
  have h3 := h2 _ (List.getElem_mem hq)
  rw [h1] at h3
  simpa using h3
theorem tw_end {l : List Int} {x : Int} (h : (l.takeWhile (· < x)).length < l.length) : ¬ l[(l.takeWhile (· < x)).length] < x := by
  induction l with
  | nil => simp at h
  | cons y t ih =>
    by_cases hy : y < x
    · have e : (y :: t).takeWhile (· < x) = y :: t.takeWhile (· < x) := List.takeWhile_cons_of_pos (by simpa using hy)
      simp only [e, List.length_cons] at h ⊢
      rw [List.getElem_cons_succ]
      exact ih (by omega)
    · have e : (y :: t).takeWhile (· < x) = [] := List.takeWhile_cons_of_neg (by simpa using hy)
      simp only [e, List.length_nil]
      exact hy
theorem tw_take (l : List Int) (x : Int) : l.take (l.takeWhile (· < x)).length = l.takeWhile (· < x) ∧ l.drop (l.takeWhile (· < x)).length = l.dropWhile (· < x) := by
  have h : l.takeWhile (· < x) ++ l.dropWhile (· < x) = l := List.takeWhile_append_dropWhile
  generalize l.takeWhile (· < x) = T at *
  generalize l.dropWhile (· < x) = D at *
  subst h
  exact ⟨List.take_left' rfl, List.drop_left' rfl⟩
end Go.Proofs.Ytfiphpdagnlbbaa
