/-
  What is squeezed comes out again; beginnings; items. Plain mathematics.
-/
import Derived.Test.YtpjjfehocibljaaSqzMath
namespace Go.Proofs.Ytpjjfehocibljaa.Sqz

section
variable {ent lng most : Nat}
theorem opn_nil (out : List UInt8) : opn ent lng most [] out = (out, 0) := by rw [opn]; simp
theorem opn_err {b out : List UInt8} {e : Nat} (hb : b ≠ []) (h : open1 ent lng most b out = .inr e) : opn ent lng most b out = ([], e) := by
  rw [opn, dif_neg hb, h]
theorem open1_size {b out o : List UInt8} (h : open1 ent lng most b out = .inl o) : (item b).2.2 ≠ 0 := by
  intro e
  unfold open1 at h
  rw [if_pos (.inl e)] at h
  cases h
theorem opn_step {b out o : List UInt8} (hb : b ≠ []) (h : open1 ent lng most b out = .inl o) : opn ent lng most b out = opn ent lng most (b.drop (item b).2.2) o := by
  conv => lhs; rw [opn]
  rw [dif_neg hb, h]
  simp only
  rw [dif_neg (open1_size h)]
theorem item_size {b : List UInt8} (h : (item b).2.2 ≠ 0) : (item b).2.2 ≤ b.length ∧ 1 ≤ (item b).2.2 := by
  unfold item at *
  dsimp only at *
  split at h
  · rename_i hc
    rw [if_pos hc]
    split at h
    · exact absurd rfl h
    · rename_i hl
      rw [if_neg hl]
      exact ⟨by show _ + 2 ≤ _; omega, by show 1 ≤ _ + 2; omega⟩
  · rename_i hc
    rw [if_neg hc]
    split at h
    · exact absurd rfl h
    · rename_i hl
      rw [if_neg hl]
      exact ⟨by show 3 ≤ _; omega, by show 1 ≤ 3; omega⟩

/-! ### there and back -/
theorem item_run {n : Nat} {xs rest : List UInt8} (h1 : 1 ≤ n) (h2 : n ≤ 128) (hx : xs.length = n) : item (UInt8.ofNat (n - 1) :: xs ++ rest) = (n, 0, n + 1) := by
  have hc : (UInt8.ofNat (n - 1)).toNat = n - 1 := by rw [UInt8.toNat_ofNat']; omega
  unfold item
  dsimp only
  rw [List.cons_append, List.getElem?_cons_zero, Option.getD_some, hc, if_pos (by omega), if_neg (by simp; omega)]
  rw [show n - 1 + 1 = n by omega, show n - 1 + 2 = n + 1 by omega]
theorem copy_run {n : Nat} {xs rest : List UInt8} (h2 : n ≤ 128) (h1 : 1 ≤ n) : isCopy (UInt8.ofNat (n - 1) :: xs ++ rest) = false := by
  have hc : (UInt8.ofNat (n - 1)).toNat = n - 1 := by rw [UInt8.toNat_ofNat']; omega
  unfold isCopy
  rw [List.cons_append, List.getElem?_cons_zero, Option.getD_some, hc]
  exact decide_eq_false (by omega)
theorem opn_run {n : Nat} {xs rest out : List UInt8} (h1 : 1 ≤ n) (h2 : n ≤ 128) (hx : xs.length = n) (hm : out.length + n ≤ most) :
    opn ent lng most (UInt8.ofNat (n - 1) :: xs ++ rest) out = opn ent lng most rest (out ++ xs) := by
  have e := item_run (rest := rest) h1 h2 hx
  have o : open1 ent lng most (UInt8.ofNat (n - 1) :: xs ++ rest) out = .inl (out ++ xs) := by
    unfold open1
    rw [e, copy_run h2 h1]
    dsimp only
    rw [if_neg (by simp), if_neg (by omega), if_pos rfl, List.cons_append, List.take_succ_cons, List.drop_succ_cons, List.drop_zero, List.take_append_of_le_length (by omega), List.take_of_length_le (by omega)]
  rw [opn_step (by simp) o, e]
  dsimp only
  rw [List.cons_append, List.drop_succ_cons, List.drop_append_of_le_length (by omega), List.drop_of_length_le (by omega), List.nil_append]
theorem opn_runs (xs rest out : List UInt8) (hm : out.length + xs.length ≤ most) : opn ent lng most (runs xs ++ rest) out = opn ent lng most rest (out ++ xs) := by
  induction hn : xs.length using Nat.strongRecOn generalizing xs out with
  | ind n ih =>
    subst hn
    by_cases h : xs = []
    · subst h; rw [runs_nil, List.nil_append, List.append_nil]
    · have hp : 0 < xs.length := List.length_pos_iff.2 h
      rw [runs_step h, List.append_assoc, opn_run (by omega) (by omega) (by rw [List.length_take]; omega) (by omega)]
      rw [ih (xs.drop 128).length (by rw [List.length_drop]; omega) (xs.drop 128) (out ++ xs.take 128) (by rw [List.length_append, List.length_take, List.length_drop]; omega) rfl]
      rw [List.append_assoc, List.take_append_drop]
theorem opn_copy {n far : Nat} {rest out : List UInt8} (h1 : 3 ≤ n) (h2 : n ≤ 130) (h3 : 1 ≤ far) (h4 : far < 65536) (h5 : far ≤ out.length) (hm : out.length + n ≤ most) :
    opn ent lng most ([UInt8.ofNat (n + 125), UInt8.ofNat far, UInt8.ofNat (far / 256)] ++ rest) out = opn ent lng most rest (copyOut far n out) := by
  have c0 : (UInt8.ofNat (n + 125)).toNat = n + 125 := by rw [UInt8.toNat_ofNat']; omega
  have c1 : (UInt8.ofNat far).toNat + 256 * (UInt8.ofNat (far / 256)).toNat = far := by rw [UInt8.toNat_ofNat', UInt8.toNat_ofNat']; omega
  have e : item ([UInt8.ofNat (n + 125), UInt8.ofNat far, UInt8.ofNat (far / 256)] ++ rest) = (n, far, 3) := by
    unfold item
    dsimp only [List.cons_append, List.nil_append]
    simp only [List.getElem?_cons_zero, List.getElem?_cons_succ, Option.getD_some, c0, c1]
    rw [if_neg (by omega), if_neg (by simp), show n + 125 - 125 = n by omega]
  have ic : isCopy ([UInt8.ofNat (n + 125), UInt8.ofNat far, UInt8.ofNat (far / 256)] ++ rest) = true := by
    unfold isCopy
    refine decide_eq_true ?_
    rw [List.cons_append, List.getElem?_cons_zero, Option.getD_some, c0]
    omega
  have o : open1 ent lng most ([UInt8.ofNat (n + 125), UInt8.ofNat far, UInt8.ofNat (far / 256)] ++ rest) out = .inl (copyOut far n out) := by
    unfold open1
    rw [e, ic]
    dsimp only
    rw [if_neg (by omega), if_neg (by omega), if_neg (by simp)]
  rw [opn_step (by simp) o, e]
  rfl
theorem copyOut_take (b : List UInt8) (k far n i : Nat) (hf : 1 ≤ far) (hk : far ≤ k) (h : ∀ j, j < i + n → k + j < b.length ∧ b[k - far + j]? = b[k + j]?) : copyOut far n (b.take (k + i)) = b.take (k + i + n) := by
  induction n generalizing i with
  | zero => rfl
  | succ n ih =>
    obtain ⟨h1, h2⟩ := h i (by omega)
    have e : b.take (k + i) ++ [(b.take (k + i))[(b.take (k + i)).length - far]?.getD 0] = b.take (k + (i + 1)) := by
      rw [List.length_take, Nat.min_eq_left (by omega), List.getElem?_take, if_pos (by omega), show k + i - far = k - far + i by omega, h2, List.getElem?_eq_getElem h1, Option.getD_some, ← Nat.add_assoc, List.take_succ_eq_append_getElem h1]
    rw [copyOut, e, ih (i + 1) (fun j hj => h j (by omega))]
    congr 1
    omega
theorem opn_sqz (b : List UInt8) (k fr : Nat) (h1 : fr ≤ k) (h2 : k ≤ b.length) (hm : b.length ≤ most) : opn ent lng most (sqz b k fr) (b.take fr) = (b, 0) := by
  induction hn : b.length - k using Nat.strongRecOn generalizing k fr with
  | ind n ih =>
    subst hn
    by_cases h : k < b.length
    · by_cases h0 : (best b k).1 = 0
      · rw [sqz_own h h0]
        exact ih (b.length - (k + 1)) (by omega) (k + 1) fr (by omega) (by omega) rfl
      · rw [sqz_copy h h0]
        have hr := best_room (b := b) (k := k) (by omega)
        rcases best_spec b k with e | ⟨e1, e2, e3, e4, e5⟩
        · rw [e] at h0; exact absurd rfl h0
        · have hle := best_le b k
          have ht : b.take fr ++ (b.drop fr).take (k - fr) = b.take k := by
            rw [show k = fr + (k - fr) by omega, List.take_add, show fr + (k - fr) - fr = k - fr by omega]
          rw [List.append_assoc, opn_runs _ _ _ (by simp only [List.length_take, List.length_drop]; omega), ht, opn_copy e1 hle e2 (by omega) (by rw [List.length_take]; omega) (by rw [List.length_take]; omega)]
          have hc := copyOut_take b k (best b k).2 (best b k).1 0 e2 e4 (fun j hj => same_at (by rw [← e5]; omega))
          rw [Nat.add_zero] at hc
          rw [hc]
          exact ih (b.length - (k + (best b k).1)) (by omega) (k + (best b k).1) (k + (best b k).1) (by omega) hr rfl
    · rw [sqz_end h]
      have := opn_runs (ent := ent) (lng := lng) (most := most) (b.drop fr) [] (b.take fr) (by simp only [List.length_take, List.length_drop]; omega)
      rw [List.append_nil] at this
      rw [this, opn_nil, List.take_append_drop]
theorem opn_squeeze (b : List UInt8) (hm : b.length ≤ most) : opn ent lng most (squeeze b) [] = (b, 0) := opn_sqz b 0 0 (by omega) (by omega) hm

/-! ### bounds -/
theorem open1_len {b out o : List UInt8} (hm : out.length ≤ most) (h : open1 ent lng most b out = .inl o) : out.length ≤ o.length ∧ o.length ≤ most ∧ out <+: o := by
  unfold open1 at h
  split at h
  · cases h
  · rename_i h1
    split at h
    · cases h
    · rename_i h2
      split at h
      · rename_i h3
        cases h
        refine ⟨by simp, ?_, List.prefix_append _ _⟩
        rw [List.length_append, List.length_drop, List.length_take]
        have : (item b).2.2 - 1 ≤ (item b).1 := by
          unfold item
          dsimp only
          unfold isCopy at h3
          have h4 := of_decide_eq_false h3
          rw [if_pos (by omega)]
          split <;> simp
        omega
      · cases h
        refine ⟨by rw [copyOut_len]; omega, by rw [copyOut_len]; omega, ?_⟩
        generalize (item b).1 = n
        generalize (item b).2.1 = far
        clear h1 h2 hm
        rename_i h3
        clear h3
        induction n generalizing out with
        | zero => exact List.prefix_refl _
        | succ n ih => rw [copyOut]; exact (List.prefix_append _ _).trans ih
theorem opn_pre (b out : List UInt8) {all : List UInt8} (hm : out.length ≤ most) (h : opn ent lng most b out = (all, 0)) (he : ent ≠ 0) (hl : lng ≠ 0) : out <+: all := by
  induction hn : b.length using Nat.strongRecOn generalizing b out with
  | ind n ih =>
    subst hn
    by_cases hb : b = []
    · subst hb
      rw [opn_nil] at h
      cases h
      exact List.prefix_refl _
    · cases ho : open1 ent lng most b out with
      | inr e =>
        rw [opn_err hb ho] at h
        cases h
        exfalso
        unfold open1 at ho
        split at ho
        · cases ho; exact he rfl
        · split at ho
          · cases ho; exact hl rfl
          · split at ho <;> cases ho
      | inl o =>
        rw [opn_step hb ho] at h
        obtain ⟨h1, h2, h3⟩ := open1_len hm ho
        have hz := item_size (open1_size ho)
        exact h3.trans (ih (b.drop (item b).2.2).length (by rw [List.length_drop]; omega) (b.drop (item b).2.2) o h2 h rfl)

/-! ### items -/
def items (b : List UInt8) : List (Nat × Nat × Nat) :=
  if _h : b = [] then [] else if (item b).2.2 = 0 then [] else item b :: items (b.drop (item b).2.2)
termination_by b.length
decreasing_by
  have : 0 < b.length := List.length_pos_iff.2 _h
  rw [List.length_drop]; omega
theorem items_nil : items [] = [] := by rw [items]; simp
theorem items_end {b : List UInt8} (h : (item b).2.2 = 0) : items b = [] := by
  rw [items]
  by_cases hb : b = []
  · rw [dif_pos hb]
  · rw [dif_neg hb, if_pos h]
theorem items_step {b : List UInt8} (hb : b ≠ []) (h : (item b).2.2 ≠ 0) : items b = item b :: items (b.drop (item b).2.2) := by
  conv => lhs; rw [items]
  rw [dif_neg hb, if_neg h]
/-- Where the first j items end. -/
def ends (b : List UInt8) (j : Nat) : Nat := ((items b).take j).foldl (fun s x => s + x.2.2) 0
theorem foldl_add (l : List (Nat × Nat × Nat)) (s : Nat) : l.foldl (fun s x => s + x.2.2) s = s + l.foldl (fun s x => s + x.2.2) 0 := by
  induction l generalizing s with
  | nil => simp
  | cons x t ih => rw [List.foldl_cons, List.foldl_cons, ih, ih (0 + x.2.2)]; omega
theorem ends_zero (b : List UInt8) : ends b 0 = 0 := rfl
theorem ends_step {b : List UInt8} (hb : b ≠ []) (h : (item b).2.2 ≠ 0) (j : Nat) : ends b (j + 1) = (item b).2.2 + ends (b.drop (item b).2.2) j := by
  unfold ends
  rw [items_step hb h, List.take_succ_cons, List.foldl_cons, foldl_add]
  omega
theorem ends_le (b : List UInt8) (j : Nat) : ends b j ≤ b.length := by
  induction j generalizing b with
  | zero => simp [ends_zero]
  | succ j ih =>
    by_cases hb : b = []
    · subst hb; simp [ends, items_nil]
    · by_cases h : (item b).2.2 = 0
      · simp [ends, items_end h]
      · rw [ends_step hb h]
        have := ih (b.drop (item b).2.2)
        rw [List.length_drop] at this
        have := item_size h
        omega
theorem item_take {b : List UInt8} {e : Nat} (h : (item b).2.2 ≠ 0) (he : (item b).2.2 ≤ e) : item (b.take e) = item b ∧ isCopy (b.take e) = isCopy b := by
  have hz := item_size h
  have h0 : (b.take e)[0]? = b[0]? := by rw [List.getElem?_take, if_pos (by omega)]
  constructor
  · unfold item at *
    dsimp only at *
    rw [h0, List.length_take]
    split at h
    · rename_i hc
      rw [if_pos hc] at he hz
      simp only [if_pos hc]
      split at h
      · exact absurd rfl h
      · rename_i hl
        rw [if_neg hl] at he ⊢
        dsimp only at he
        rw [if_neg (by omega)]
    · rename_i hc
      rw [if_neg hc] at he hz
      simp only [if_neg hc]
      split at h
      · exact absurd rfl h
      · rename_i hl
        rw [if_neg hl] at he ⊢
        dsimp only at he
        rw [if_neg (by omega), List.getElem?_take, if_pos (by omega), List.getElem?_take, if_pos (by omega)]
  · unfold isCopy; rw [h0]
theorem opn_begins (b out : List UInt8) {all : List UInt8} (hm : out.length ≤ most) (h : opn ent lng most b out = (all, 0)) (he : ent ≠ 0) (hl : lng ≠ 0) (j : Nat) :
    ∃ part, opn ent lng most (b.take (ends b j)) out = (part, 0) ∧ part <+: all := by
  induction j generalizing b out with
  | zero => rw [ends_zero, List.take_zero, opn_nil]; exact ⟨out, rfl, opn_pre b out hm h he hl⟩
  | succ j ih =>
    by_cases hb : b = []
    · subst hb
      rw [List.take_nil]
      exact ⟨_, h, List.prefix_refl _⟩
    · by_cases hz : (item b).2.2 = 0
      · rw [show ends b (j + 1) = 0 by simp [ends, items_end hz], List.take_zero, opn_nil]
        exact ⟨out, rfl, opn_pre b out hm h he hl⟩
      · cases ho : open1 ent lng most b out with
        | inr e =>
          rw [opn_err hb ho] at h
          cases h
          exfalso
          unfold open1 at ho
          split at ho
          · cases ho; exact he rfl
          · split at ho
            · cases ho; exact hl rfl
            · split at ho <;> cases ho
        | inl o =>
          rw [opn_step hb ho] at h
          obtain ⟨h1, h2, h3⟩ := open1_len hm ho
          have hs := item_size hz
          obtain ⟨part, p1, p2⟩ := ih (b.drop (item b).2.2) o h2 h
          refine ⟨part, ?_, p2⟩
          rw [ends_step hb hz]
          obtain ⟨t1, t2⟩ := item_take (b := b) (e := (item b).2.2 + ends (b.drop (item b).2.2) j) hz (by omega)
          have ho2 : open1 ent lng most (b.take ((item b).2.2 + ends (b.drop (item b).2.2) j)) out = .inl o := by
            unfold open1 at ho ⊢
            rw [t1, t2, List.take_take, Nat.min_eq_left (by omega)]
            exact ho
          rw [opn_step (by intro e2; rw [e2] at t1; rw [← t1] at hz; exact hz (by rfl)) ho2, t1, List.drop_take, show (item b).2.2 + ends (b.drop (item b).2.2) j - (item b).2.2 = ends (b.drop (item b).2.2) j by omega]
          exact p1
theorem items_none {b out : List UInt8} {all : List UInt8} (h : opn ent lng most b out = (all, 0)) (he : ent ≠ 0) (hi : items b = []) : b = [] := by
  by_cases hb : b = []
  · exact hb
  · exfalso
    by_cases hz : (item b).2.2 = 0
    · have ho : open1 ent lng most b out = .inr ent := by unfold open1; rw [if_pos (.inl hz)]
      rw [opn_err hb ho] at h
      cases h
      exact he rfl
    · rw [items_step hb hz] at hi
      cases hi
end
end Go.Proofs.Ytpjjfehocibljaa.Sqz
