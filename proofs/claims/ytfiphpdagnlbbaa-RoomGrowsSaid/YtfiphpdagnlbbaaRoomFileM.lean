/-
  How many pages a file takes: plain mathematics.
-/
import Derived.Test.YtfiphpdagnlbbaaRoomSet
import Derived.Test.YtfiphpdagnlbbaaInoMath
namespace Go.Proofs.Ytfiphpdagnlbbaa
namespace Room

/-- The pointer pages on the way to page n. -/
def keys (s n : Int) : List (Int × Int) := if Ino.wayA s n = 1 then [(1, 0)] else if Ino.wayA s n = 2 then [(2, -1), (2, Ino.wayB s n)] else []
/-- How many different ones. -/
def nd : List (Int × Int) → Nat
  | [] => 0
  | x :: t => if x ∈ t then nd t else nd t + 1
theorem nd_snoc (L : List (Int × Int)) (x : Int × Int) : nd (L ++ [x]) = if x ∈ L then nd L else nd L + 1 := by
  induction L with
  | nil => simp [nd]
  | cons y t ih =>
    show (if y ∈ t ++ [x] then nd (t ++ [x]) else nd (t ++ [x]) + 1) = _
    rw [ih]
    simp only [List.mem_append, List.mem_cons, nd]
    by_cases h1 : y ∈ t <;> by_cases h2 : x ∈ t <;> by_cases h3 : y = x <;> simp_all [eq_comm]
theorem nd_two (L : List (Int × Int)) (x y : Int × Int) (h : y ≠ x) : nd (L ++ [x, y]) = nd L + (if x ∈ L then 0 else 1) + (if y ∈ L then 0 else 1) := by
  rw [show L ++ [x, y] = (L ++ [x]) ++ [y] by simp, nd_snoc, nd_snoc]
  by_cases h1 : x ∈ L <;> by_cases h2 : y ∈ L <;> simp [h1, h2, h]
theorem nd_mono {L M : List (Int × Int)} (h : ∀ x ∈ L, x ∈ M) : nd L ≤ nd M := by
  induction L generalizing M with
  | nil => exact Nat.zero_le _
  | cons x t ih =>
    by_cases hx : x ∈ t
    · rw [nd, if_pos hx]; exact ih fun y hy => h y (List.mem_cons_of_mem _ hy)
    · rw [nd, if_neg hx]
      have h1 : ∀ y ∈ t, y ∈ M.filter (fun z => decide (z ≠ x)) := fun y hy => List.mem_filter.2 ⟨h y (List.mem_cons_of_mem _ hy), by
        simp only [ne_eq, decide_eq_true_eq]; rintro rfl; exact hx hy⟩
      have h2 := ih h1
      have h3 : ∀ M : List (Int × Int), x ∈ M → nd (M.filter (fun z => decide (z ≠ x))) + 1 ≤ nd M := fun M => by
        induction M with
        | nil => simp
        | cons y u ihu =>
          intro hm
          by_cases e : y = x
          · subst e
            rw [List.filter_cons_of_neg (by simp)]
            by_cases hu : y ∈ u
            · rw [nd, if_pos hu]; exact ihu hu
            · rw [nd, if_neg hu, List.filter_eq_self.2 (fun z hz => by simp only [ne_eq, decide_eq_true_eq]; rintro rfl; exact hu hz)]
              exact Nat.le_refl _
          · have hu : x ∈ u := by
              rcases List.mem_cons.1 hm with h | h
              · exact absurd h.symm e
              · exact h
            have := ihu hu
            rw [List.filter_cons_of_pos (by simpa using e)]
            simp only [nd]
            have hm2 : y ∈ u.filter (fun z => decide (z ≠ x)) ↔ y ∈ u := by
              rw [List.mem_filter]
              simp [e]
            by_cases hy : y ∈ u
            · rw [if_pos (hm2.2 hy), if_pos hy]; exact this
            · rw [if_neg (fun h => hy (hm2.1 h)), if_neg hy]; omega
      have h4 := h3 M (h x (by simp))
      omega
/-- All pointer pages of a row. -/
def kl (s : Int) (l : List Int) : List (Int × Int) := l.flatMap (keys s)
theorem kl_snoc (s : Int) (l : List Int) (n : Int) : kl s (l ++ [n]) = kl s l ++ keys s n := by simp [kl]
theorem mem_kl {s : Int} {l : List Int} {x : Int × Int} : x ∈ kl s l ↔ ∃ n ∈ l, x ∈ keys s n := by simp [kl]
def fileN (s : Int) (l : List Int) : Nat := l.length + nd (kl s l)
def allOk (s : Int) (l : List Int) : Bool := l.all fun n => decide (Ino.wayE s n = 0)
theorem allOk_iff {s : Int} {l : List Int} : allOk s l = true ↔ ∀ n ∈ l, Ino.wayE s n = 0 := by simp [allOk]
instance (l : List Int) : Decidable (Inc l) := inferInstanceAs (Decidable (List.Pairwise _ l))
/-- The number of pages, and the error. -/
def file (s : Int) (l : List Int) : Int × Int := if ¬ Ino.Sized s ∨ ¬ Inc l then (0, 1) else if allOk s l = true then ((fileN s l : Nat), 0) else (0, 52)
theorem way_le {s n m : Int} (h : Ino.wayE s n = 0) (h' : Ino.wayE s m = 0) (hle : n ≤ m) : Ino.wayA s n ≤ Ino.wayA s m ∧ (Ino.wayA s n = 2 → Ino.wayA s m = 2 → Ino.wayB s n ≤ Ino.wayB s m) ∧ 0 ≤ Ino.wayA s n ∧ Ino.wayA s n ≤ 2 ∧ 0 ≤ Ino.wayB s n := by
  have hk := Ino.half (Ino.wayE_ok h).1
  have c1 := Ino.way_forms h
  have c2 := Ino.way_forms h'
  have hb := (Ino.way_bound h).1
  refine ⟨by omega, fun h1 h2 => ?_, by omega, by omega, hb⟩
  rcases c1 with c1 | c1 | c1
  · omega
  · omega
  rcases c2 with c2 | c2 | c2
  · omega
  · omega
  obtain ⟨_, b1, _, _⟩ := c1
  obtain ⟨_, b2, _, _⟩ := c2
  rw [b1, b2]
  exact Int.ediv_le_ediv (by omega) (by omega)
/-- The way of the number before. -/
def wasOf (s : Int) (l : List Int) (k : Nat) : Int × Int := if k = 0 then (0, 0) else (Ino.wayA s (l.getD (k - 1) 0), Ino.wayB s (l.getD (k - 1) 0))
theorem ref_step {s : Int} {l : List Int} {k : Nat} (hi : Inc l) (hk : k < l.length) (hok : ∀ j (h : j < l.length), j ≤ k → Ino.wayE s l[j] = 0) :
    nd (kl s (l.take (k + 1))) = nd (kl s (l.take k)) + (if 0 < Ino.wayA s l[k] ∧ (wasOf s l k).1 ≠ Ino.wayA s l[k] then 1 else 0) + (if Ino.wayA s l[k] = 2 ∧ ((wasOf s l k).1 ≠ 2 ∨ (wasOf s l k).2 ≠ Ino.wayB s l[k]) then 1 else 0) := by
  rw [List.take_succ_eq_append_getElem hk, kl_snoc]
  have hle : ∀ i j (hij : i ≤ j) (hj : j < l.length), l[i] ≤ l[j] := fun i j hij hj => by
    rcases Nat.lt_or_ge i j with h | h
    · have := List.pairwise_iff_getElem.1 hi i j (by omega) hj h; omega
    · obtain rfl : i = j := by omega
      exact Int.le_refl _
  -- a number before, and the last one before
  have hprev : ∀ n ∈ l.take k, ∃ (_ : 0 < k), Ino.wayE s n = 0 ∧ Ino.wayA s n ≤ (wasOf s l k).1 ∧ (wasOf s l k).1 ≤ Ino.wayA s l[k] ∧ (Ino.wayA s n = 2 → (wasOf s l k).1 = 2 → Ino.wayB s n ≤ (wasOf s l k).2) ∧ ((wasOf s l k).1 = 2 → Ino.wayA s l[k] = 2 → (wasOf s l k).2 ≤ Ino.wayB s l[k]) ∧ 0 ≤ Ino.wayB s n := by
    intro n hn
    obtain ⟨i, hi2, rfl⟩ := List.getElem_of_mem hn
    rw [List.length_take] at hi2
    rw [List.getElem_take]
    have h0 : 0 < k := by omega
    have e : l.getD (k - 1) 0 = l[k - 1] := by rw [List.getD_eq_getElem?_getD, List.getElem?_eq_getElem (by omega)]; rfl
    have hw : wasOf s l k = (Ino.wayA s l[k - 1], Ino.wayB s l[k - 1]) := by unfold wasOf; rw [if_neg (by omega), e]
    rw [hw]
    have o1 := hok i (by omega) (by omega)
    have o2 := hok (k - 1) (by omega) (by omega)
    have o3 := hok k hk (Nat.le_refl _)
    have a := way_le o1 o2 (hle i (k - 1) (by omega) (by omega))
    have b := way_le o2 o3 (hle (k - 1) k (by omega) hk)
    exact ⟨h0, o1, a.1, b.1, a.2.1, b.2.1, a.2.2.2.2⟩
  have hlast : (wasOf s l k).1 ≠ 0 → ∃ n ∈ l.take k, Ino.wayA s n = (wasOf s l k).1 ∧ Ino.wayB s n = (wasOf s l k).2 := by
    intro h
    by_cases h0 : k = 0
    · subst h0; exact absurd rfl h
    · refine ⟨l[k - 1], ?_, ?_⟩
      · rw [List.mem_take_iff_getElem]
        exact ⟨k - 1, by omega, rfl⟩
      · have e : l.getD (k - 1) 0 = l[k - 1] := by rw [List.getD_eq_getElem?_getD, List.getElem?_eq_getElem (by omega)]; rfl
        unfold wasOf
        rw [if_neg h0, e]
        exact ⟨rfl, rfl⟩
  have hA := way_le (hok k hk (Nat.le_refl _)) (hok k hk (Nat.le_refl _)) (Int.le_refl _)
  generalize (wasOf s l k).1 = a at *
  generalize (wasOf s l k).2 = b at *
  generalize hB : Ino.wayB s l[k] = B at *
  have k1 : (1, 0) ∈ kl s (l.take k) ↔ ∃ n ∈ l.take k, Ino.wayA s n = 1 := by
    rw [mem_kl]
    refine exists_congr fun n => and_congr_right fun _ => ?_
    unfold keys
    by_cases h1 : Ino.wayA s n = 1
    · simp [h1]
    · by_cases h2 : Ino.wayA s n = 2 <;> simp [h1, h2]
  have k2 : (2, -1) ∈ kl s (l.take k) ↔ ∃ n ∈ l.take k, Ino.wayA s n = 2 := by
    rw [mem_kl]
    refine exists_congr fun n => and_congr_right fun _ => ?_
    unfold keys
    by_cases h1 : Ino.wayA s n = 1
    · simp [h1]
    · by_cases h2 : Ino.wayA s n = 2 <;> simp [h1, h2]
  have k3 : (2, B) ∈ kl s (l.take k) ↔ ∃ n ∈ l.take k, Ino.wayA s n = 2 ∧ Ino.wayB s n = B := by
    rw [mem_kl]
    refine exists_congr fun n => and_congr_right fun _ => ?_
    unfold keys
    by_cases h1 : Ino.wayA s n = 1
    · simp [h1]
    · by_cases h2 : Ino.wayA s n = 2
      · have : B ≠ -1 := by omega
        simp [h2, this, eq_comm]
      · simp [h1, h2]
  rcases (by omega : Ino.wayA s l[k] = 0 ∨ Ino.wayA s l[k] = 1 ∨ Ino.wayA s l[k] = 2) with h0 | h1 | h2
  · have e : keys s l[k] = [] := by unfold keys; rw [if_neg (by omega), if_neg (by omega)]
    rw [e, List.append_nil, if_neg (by omega), if_neg (by omega)] <;> rfl
  · have e : keys s l[k] = [(1, 0)] := by unfold keys; rw [if_pos h1]
    have hm : (1, 0) ∈ kl s (l.take k) ↔ a = 1 := by
      rw [k1]
      constructor
      · rintro ⟨n, hn, hn1⟩
        obtain ⟨_, _, p1, p2, _⟩ := hprev n hn
        omega
      · intro ha
        obtain ⟨n, hn, hn1, _⟩ := hlast (by omega)
        exact ⟨n, hn, by omega⟩
    rw [e, nd_snoc]
    by_cases ha : a = 1
    · rw [if_pos (hm.2 ha), if_neg (by omega), if_neg (by omega)] <;> omega
    · rw [if_neg (fun h => ha (hm.1 h)), if_pos ⟨by omega, by omega⟩, if_neg (by omega)] <;> omega
  · have e : keys s l[k] = [(2, -1), (2, B)] := by unfold keys; rw [if_neg (by omega), if_pos h2, hB]
    have hm : (2, -1) ∈ kl s (l.take k) ↔ a = 2 := by
      rw [k2]
      constructor
      · rintro ⟨n, hn, hn1⟩
        obtain ⟨_, _, p1, p2, _⟩ := hprev n hn
        omega
      · intro ha
        obtain ⟨n, hn, hn1, _⟩ := hlast (by omega)
        exact ⟨n, hn, by omega⟩
    have hm3 : (2, B) ∈ kl s (l.take k) ↔ a = 2 ∧ b = B := by
      rw [k3]
      constructor
      · rintro ⟨n, hn, hn1, hn2⟩
        obtain ⟨_, _, p1, p2, p3, p4, _⟩ := hprev n hn
        have ha : a = 2 := by omega
        have := p3 hn1 ha
        have := p4 ha h2
        exact ⟨ha, by omega⟩
      · rintro ⟨ha, hb⟩
        obtain ⟨n, hn, hn1, hn2⟩ := hlast (by omega)
        exact ⟨n, hn, by omega, by omega⟩
    rw [e, nd_two _ _ _ (by intro h; injection h with _ h; omega)]
    by_cases ha : a = 2
    · by_cases hb : b = B
      · rw [if_pos (hm.2 ha), if_pos (hm3.2 ⟨ha, hb⟩), if_neg (by omega), if_neg (by omega)] <;> omega
      · rw [if_pos (hm.2 ha), if_neg (fun h => hb (hm3.1 h).2), if_neg (by omega), if_pos ⟨h2, .inr hb⟩] <;> omega
    · rw [if_neg (fun h => ha (hm.1 h)), if_neg (fun h => ha (hm3.1 h).1), if_pos ⟨by omega, by omega⟩, if_pos ⟨h2, .inl ha⟩] <;> omega
theorem keys_len (s n : Int) : (keys s n).length ≤ 2 := by unfold keys; split; · simp
                                                           split <;> simp
end Room
end Go.Proofs.Ytfiphpdagnlbbaa
