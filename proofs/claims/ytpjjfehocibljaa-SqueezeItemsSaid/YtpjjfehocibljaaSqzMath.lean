/-
  Squeezed bytes: the longest copy at a place, runs, what is squeezed, and what comes out of it. Plain mathematics.
-/
import Derived.Test.YtpjjfehocibljaaNumMath
namespace Go.Proofs.Ytpjjfehocibljaa.Sqz

/-! ### copies -/
/-- From n bytes on that are the same: how many are, f more being asked at most. -/
def sameF (b : List UInt8) (a k : Nat) : Nat → Nat → Nat
  | 0, n => n
  | f + 1, n => if k + n < b.length ∧ b[a + n]? = b[k + n]? then sameF b a k f (n + 1) else n
def same (b : List UInt8) (a k : Nat) : Nat := sameF b a k 130 0
theorem sameF_le (b : List UInt8) (a k f n : Nat) : sameF b a k f n ≤ n + f := by
  induction f generalizing n with
  | zero => simp [sameF]
  | succ f ih =>
    rw [sameF]; split
    · have := ih (n + 1); omega
    · omega
theorem sameF_ge (b : List UInt8) (a k f n : Nat) : n ≤ sameF b a k f n := by
  induction f generalizing n with
  | zero => simp [sameF]
  | succ f ih =>
    rw [sameF]; split
    · have := ih (n + 1); omega
    · omega
theorem sameF_at (b : List UInt8) (a k f n i : Nat) (h1 : n ≤ i) (h2 : i < sameF b a k f n) : k + i < b.length ∧ b[a + i]? = b[k + i]? := by
  induction f generalizing n with
  | zero => simp [sameF] at h2; omega
  | succ f ih =>
    rw [sameF] at h2
    split at h2
    · rename_i h
      by_cases e : i = n
      · rw [e]; exact h
      · exact ih (n + 1) (by omega) h2
    · omega
theorem same_le (b : List UInt8) (a k : Nat) : same b a k ≤ 130 := by have := sameF_le b a k 130 0; unfold same; omega
theorem same_at {b : List UInt8} {a k i : Nat} (h : i < same b a k) : k + i < b.length ∧ b[a + i]? = b[k + i]? := sameF_at b a k 130 0 i (by omega) h
theorem same_room {b : List UInt8} {a k : Nat} (hk : k ≤ b.length) : k + same b a k ≤ b.length := by
  by_cases h : same b a k = 0
  · omega
  · have := (same_at (b := b) (a := a) (k := k) (i := same b a k - 1) (by omega)).1; omega
theorem sameF_ge_of (b : List UInt8) (a k f n m : Nat) (hm : m ≤ n + f) (h : ∀ i, n ≤ i → i < m → k + i < b.length ∧ b[a + i]? = b[k + i]?) : m ≤ sameF b a k f n ∨ m ≤ n := by
  induction f generalizing n with
  | zero => right; omega
  | succ f ih =>
    by_cases e : m ≤ n
    · right; exact e
    · left
      rw [sameF, if_pos (h n (by omega) (by omega))]
      rcases ih (n + 1) (by omega) (fun i h1 h2 => h i (by omega) h2) with h3 | h3
      · exact h3
      · have := sameF_ge b a k f (n + 1); omega
theorem same_three {b : List UInt8} {a k : Nat} : 3 ≤ same b a k ↔ (k + 2 < b.length ∧ b[a]? = b[k]? ∧ b[a + 1]? = b[k + 1]? ∧ b[a + 2]? = b[k + 2]?) := by
  constructor
  · intro h
    exact ⟨(same_at (a := a) (i := 2) (by omega)).1, (same_at (a := a) (i := 0) (by omega)).2, (same_at (a := a) (i := 1) (by omega)).2, (same_at (a := a) (i := 2) (by omega)).2⟩
  · rintro ⟨h0, h1, h2, h3⟩
    rcases sameF_ge_of b a k 130 0 3 (by omega) (fun i _ hi => by
      rcases (show i = 0 ∨ i = 1 ∨ i = 2 by omega) with rfl | rfl | rfl
      · exact ⟨by omega, h1⟩
      · exact ⟨by omega, h2⟩
      · exact ⟨by omega, h3⟩) with h | h
    · exact h
    · omega
/-- A copy of distance d tried, (n, far) being the best one before. -/
def best1 (b : List UInt8) (k : Nat) (st : Nat × Nat) (d : Nat) : Nat × Nat := if 2 < same b (k - d) k ∧ st.1 < same b (k - d) k then (same b (k - d) k, d) else st
def bestTo (b : List UInt8) (k : Nat) : Nat → Nat × Nat
  | 0 => (0, 0)
  | d + 1 => best1 b k (bestTo b k d) (d + 1)
def best (b : List UInt8) (k : Nat) : Nat × Nat := bestTo b k (min 4096 k)
theorem bestTo_le (b : List UInt8) (k d : Nat) : (bestTo b k d).1 ≤ 130 := by
  induction d with
  | zero => simp [bestTo]
  | succ d ih =>
    rw [bestTo, best1]; split
    · exact same_le _ _ _
    · exact ih
theorem bestTo_spec (b : List UInt8) (k d : Nat) : (bestTo b k d = (0, 0)) ∨ (3 ≤ (bestTo b k d).1 ∧ 1 ≤ (bestTo b k d).2 ∧ (bestTo b k d).2 ≤ d ∧ (bestTo b k d).1 = same b (k - (bestTo b k d).2) k) := by
  induction d with
  | zero => left; rfl
  | succ d ih =>
    rw [bestTo, best1]; split
    · right; rename_i h; exact ⟨h.1, by omega, by omega, rfl⟩
    · rcases ih with h | ⟨h1, h2, h3, h4⟩
      · left; exact h
      · right; exact ⟨h1, h2, by omega, h4⟩
/-- Distances at which nothing is the same leave the best as it is. -/
theorem bestTo_skip (b : List UInt8) (k : Nat) {d e : Nat} (hde : d ≤ e) (h : ∀ x, d < x → x ≤ e → same b (k - x) k < 3) : bestTo b k e = bestTo b k d := by
  induction e with
  | zero => obtain rfl : d = 0 := by omega
            rfl
  | succ e ih =>
    rcases Nat.lt_or_ge d (e + 1) with h2 | h2
    · rw [bestTo, best1, if_neg (by have := h (e + 1) (by omega) (by omega); omega)]
      exact ih (by omega) (fun x h3 h4 => h x h3 (by omega))
    · obtain rfl : d = e + 1 := by omega
      rfl
theorem bestTo_full (b : List UInt8) (k : Nat) {d e : Nat} (hde : d ≤ e) (h : (bestTo b k d).1 = 130) : bestTo b k e = bestTo b k d := by
  induction e with
  | zero => obtain rfl : d = 0 := by omega
            rfl
  | succ e ih =>
    rcases Nat.lt_or_ge d (e + 1) with h2 | h2
    · have i := ih (by omega)
      rw [bestTo, best1, if_neg (by rw [i]; have := same_le b (k - (e + 1)) k; omega)]
      exact i
    · obtain rfl : d = e + 1 := by omega
      rfl
theorem best_le (b : List UInt8) (k : Nat) : (best b k).1 ≤ 130 := bestTo_le _ _ _
theorem best_spec (b : List UInt8) (k : Nat) : (best b k = (0, 0)) ∨ (3 ≤ (best b k).1 ∧ 1 ≤ (best b k).2 ∧ (best b k).2 ≤ 4096 ∧ (best b k).2 ≤ k ∧ (best b k).1 = same b (k - (best b k).2) k) := by
  rcases bestTo_spec b k (min 4096 k) with h | ⟨h1, h2, h3, h4⟩
  · exact .inl h
  · exact .inr ⟨h1, h2, by unfold best; omega, by unfold best; omega, h4⟩
theorem best_room {b : List UInt8} {k : Nat} (hk : k ≤ b.length) : k + (best b k).1 ≤ b.length := by
  rcases best_spec b k with h | ⟨_, _, _, _, h5⟩
  · rw [h]; omega
  · rw [h5]; exact same_room hk

/-! ### runs -/
def runs (b : List UInt8) : List UInt8 :=
  if _h : b = [] then [] else UInt8.ofNat (min b.length 128 - 1) :: b.take 128 ++ runs (b.drop 128)
termination_by b.length
decreasing_by
  have : 0 < b.length := List.length_pos_iff.2 _h
  rw [List.length_drop]; omega
theorem runs_nil : runs [] = [] := by rw [runs]; simp
theorem runs_step {b : List UInt8} (h : b ≠ []) : runs b = UInt8.ofNat (min b.length 128 - 1) :: b.take 128 ++ runs (b.drop 128) := by rw [runs, dif_neg h]
theorem runs_len (b : List UInt8) : (runs b).length = b.length + (b.length + 127) / 128 := by
  induction hn : b.length using Nat.strongRecOn generalizing b with
  | ind n ih =>
    subst hn
    by_cases h : b = []
    · subst h; rw [runs_nil]; rfl
    · have hp : 0 < b.length := List.length_pos_iff.2 h
      rw [runs_step h]
      have i := ih (b.drop 128).length (by rw [List.length_drop]; omega) (b.drop 128) rfl
      simp only [List.length_cons, List.length_append, i, List.length_take, List.length_drop]
      omega

/-! ### what is squeezed -/
/-- From place k on, the bytes from 'from' on not being written yet. -/
def sqz (b : List UInt8) (k fr : Nat) : List UInt8 :=
  if _ : k < b.length then
    if (best b k).1 = 0 then sqz b (k + 1) fr
    else runs ((b.drop fr).take (k - fr)) ++ [UInt8.ofNat ((best b k).1 + 125), UInt8.ofNat (best b k).2, UInt8.ofNat ((best b k).2 / 256)] ++ sqz b (k + (best b k).1) (k + (best b k).1)
  else runs (b.drop fr)
termination_by b.length - k
theorem sqz_end {b : List UInt8} {k fr : Nat} (h : ¬ k < b.length) : sqz b k fr = runs (b.drop fr) := by rw [sqz, dif_neg h]
theorem sqz_own {b : List UInt8} {k fr : Nat} (h : k < b.length) (h0 : (best b k).1 = 0) : sqz b k fr = sqz b (k + 1) fr := by
  conv => lhs; rw [sqz]
  rw [dif_pos h, if_pos h0]
theorem sqz_copy {b : List UInt8} {k fr : Nat} (h : k < b.length) (h0 : (best b k).1 ≠ 0) : sqz b k fr = runs ((b.drop fr).take (k - fr)) ++ [UInt8.ofNat ((best b k).1 + 125), UInt8.ofNat (best b k).2, UInt8.ofNat ((best b k).2 / 256)] ++ sqz b (k + (best b k).1) (k + (best b k).1) := by
  conv => lhs; rw [sqz]
  rw [dif_pos h, if_neg h0]
def squeeze (b : List UInt8) : List UInt8 := sqz b 0 0
theorem sqz_len (b : List UInt8) (k fr : Nat) (h1 : fr ≤ k) (h2 : k ≤ b.length) : 4 * (sqz b k fr).length ≤ 5 * (b.length - fr) + 4 := by
  induction hn : b.length - k using Nat.strongRecOn generalizing k fr with
  | ind n ih =>
    subst hn
    by_cases h : k < b.length
    · by_cases h0 : (best b k).1 = 0
      · rw [sqz_own h h0]
        exact ih (b.length - (k + 1)) (by omega) (k + 1) fr (by omega) (by omega) rfl
      · rw [sqz_copy h h0]
        have hr := best_room (b := b) (k := k) (by omega)
        have h3 : 3 ≤ (best b k).1 := by
          rcases best_spec b k with e | e
          · rw [e] at h0; exact absurd rfl h0
          · exact e.1
        have i := ih (b.length - (k + (best b k).1)) (by omega) (k + (best b k).1) (k + (best b k).1) (by omega) hr rfl
        simp only [List.length_append, List.length_cons, List.length_nil, runs_len, List.length_take, List.length_drop]
        rw [Nat.min_eq_left (by omega)]
        omega
    · rw [sqz_end h, runs_len, List.length_drop]
      omega
theorem squeeze_len (b : List UInt8) : (squeeze b).length ≤ b.length + b.length / 4 + 1 := by
  have := sqz_len b 0 0 (by omega) (by omega)
  unfold squeeze
  omega

/-! ### what comes out -/
/-- What an item's first bytes say: how many bytes come of it, its distance (0: a run), its size; size 0: it ends too soon. -/
def item (b : List UInt8) : Nat × Nat × Nat :=
  let c := (b[0]?.getD 0).toNat
  if c < 128 then (if b.length < c + 2 then (0, 0, 0) else (c + 1, 0, c + 2))
  else if b.length < 3 then (0, 0, 0) else (c - 125, (b[1]?.getD 0).toNat + 256 * (b[2]?.getD 0).toNat, 3)
def copyOut (far : Nat) : Nat → List UInt8 → List UInt8
  | 0, out => out
  | n + 1, out => copyOut far n (out ++ [out[out.length - far]?.getD 0])
theorem copyOut_len (far n : Nat) (out : List UInt8) : (copyOut far n out).length = out.length + n := by
  induction n generalizing out with
  | zero => simp [copyOut]
  | succ n ih => rw [copyOut, ih]; simp; omega
def isCopy (b : List UInt8) : Bool := decide (128 ≤ (b[0]?.getD 0).toNat)
/-- One item opened: what has come behind it, or why not (the number of an error). -/
def open1 (ent lng : Nat) (most : Nat) (b out : List UInt8) : List UInt8 ⊕ Nat :=
  if (item b).2.2 = 0 ∨ (isCopy b = true ∧ ((item b).2.1 = 0 ∨ out.length < (item b).2.1)) then .inr ent
  else if most - out.length < (item b).1 then .inr lng
  else if isCopy b = false then .inl (out ++ (b.take (item b).2.2).drop 1)
  else .inl (copyOut (item b).2.1 (item b).1 out)
def opn (ent lng : Nat) (most : Nat) (b out : List UInt8) : List UInt8 × Nat :=
  if _h : b = [] then (out, 0)
  else match open1 ent lng most b out with
    | .inr e => ([], e)
    | .inl o => if _h2 : (item b).2.2 = 0 then ([], ent) else opn ent lng most (b.drop (item b).2.2) o
termination_by b.length
decreasing_by
  have : 0 < b.length := List.length_pos_iff.2 _h
  rw [List.length_drop]; omega
end Go.Proofs.Ytpjjfehocibljaa.Sqz
