/-
  Blocks wear alike: what holds between two steps, in plain mathematics.
-/
/-
  Blocks wear alike: erased, programmed; what comes next.
-/
import Derived.Test.YtkkkggeagjgbeaaBlkProg2
import Derived.Test.YtkkkggeagjgbeaaBlkAct
import Derived.Test.YtkkkggeagjgbeaaTopGap
namespace Go.Proofs.Ytkkkggeagjgbeaa
open Go.RowKit

namespace Wears
/-- A block, its place on the chip, and how many pages of it are held. -/
structure BkI (opn : Int) (k : Nat) (x : Bk) (p : Pb) (c n : Nat) : Prop where
  st : x.st ≤ 3
  lv : x.live = c
  nx : x.nx ≤ 8
  l8 : x.live ≤ 8
  op : x.st = 1 → opn = (k : Int) ∧ 1 ≤ x.nx ∧ x.nx < 8 ∧ p.nx = x.nx ∧ x.live ≤ x.nx
  fr : x.st = 0 → x.live = 0 ∧ p.nx = 0
  fu : x.st = 2 → 0 < x.live
  sl : x.st = 3 → x.live = 0
  we : p.wear = x.wear
  wn : x.wear ≤ n
  bad : p.bad = false
  brk : p.broken = false
/-- Between two steps. -/
structure Inv (g : Mg) (held : List Nat) (n : Nat) : Prop where
  len : g.l.length = 16
  bk : ∀ k, k < 16 → BkI g.opn k (Gc.at_ g.l k) (g.bl k) (held.count k) n
  gap : ∀ i j, i < 16 → j < 16 → (Gc.at_ g.l i).wear ≤ (Gc.at_ g.l j).wear + 4
  opn : g.opn = -1 ∨ ∃ k : Nat, k < 16 ∧ g.opn = (k : Int) ∧ (Gc.at_ g.l k).st = 1
  even : g.even = false
  hm : ∀ h ∈ held, h < 16
  hl : held.length ≤ n
theorem count_set {l : List Nat} {i v q : Nat} (hi : i < l.length) : (l.set i v).count q + (if l[i] = q then 1 else 0) = l.count q + (if v = q then 1 else 0) := by
  induction l generalizing i with
  | nil => simp at hi
  | cons a l ih =>
    cases i with
    | zero => simp only [List.set_cons_zero, List.count_cons, List.getElem_cons_zero, beq_iff_eq]; omega
    | succ i =>
      have := ih (i := i) (by simpa using hi)
      simp only [List.set_cons_succ, List.count_cons, List.getElem_cons_succ, beq_iff_eq] at *
      omega
/-- One is taken out: the last one takes its place. -/
def takeOut (l : List Nat) (i : Nat) : List Nat := (l.set i (l.getD (l.length - 1) 0)).take (l.length - 1)
theorem count_takeOut {l : List Nat} {i q : Nat} (hi : i < l.length) : (takeOut l i).count q + (if l[i] = q then 1 else 0) = l.count q := by
  obtain ⟨v, hv⟩ : ∃ v, v = l.getD (l.length - 1) 0 := ⟨_, rfl⟩
  have hv2 : l[l.length - 1]'(by omega) = v := by rw [hv, List.getD_eq_getElem?_getD, List.getElem?_eq_getElem (by omega)]; rfl
  have hlen : (l.set i v).length = l.length := List.length_set ..
  have h1 := count_set (l := l) (i := i) (v := v) (q := q) hi
  have hlast : (l.set i v)[l.length - 1]'(by omega) = v := by
    rw [List.getElem_set]
    split
    · rfl
    · exact hv2
  have h2 : l.set i v = takeOut l i ++ [v] := by
    unfold takeOut
    rw [← hv]
    conv => lhs; rw [← List.take_append_drop (l.length - 1) (l.set i v)]
    congr 1
    rw [List.drop_eq_getElem_cons (by omega), hlast, List.drop_eq_nil_of_le (by omega)]
  rw [h2, List.count_append] at h1
  simp only [List.count_cons, List.count_nil, beq_iff_eq] at h1
  omega
theorem takeOut_len {l : List Nat} {i : Nat} : (takeOut l i).length = l.length - 1 := by
  unfold takeOut; rw [List.length_take, List.length_set]; omega
theorem takeOut_mem {l : List Nat} {i : Nat} (hi : i < l.length) {h : Nat} (hh : h ∈ takeOut l i) : h ∈ l := by
  have h1 := List.count_pos_iff.2 hh
  have h2 := count_takeOut (q := h) hi
  exact List.count_pos_iff.1 (by omega)
theorem Inv.more {g : Mg} {held : List Nat} {n : Nat} (h : Inv g held n) : Inv g held (n + 1) :=
  ⟨h.len, fun k hk => let b := h.bk k hk; ⟨b.st, b.lv, b.nx, b.l8, b.op, b.fr, b.fu, b.sl, b.we, by have := b.wn; omega, b.bad, b.brk⟩, h.gap, h.opn, h.even, h.hm, by have := h.hl; omega⟩
/-- A page is dropped. -/
theorem Inv.drop {g : Mg} {held : List Nat} {n i : Nat} (h : Inv g held n) (hi : i < held.length) : Inv { g with l := g.l.set held[i] (dropB (Gc.at_ g.l held[i])) } (takeOut held i) (n + 1) := by
  have hk := h.hm _ (List.getElem_mem hi)
  have hct := fun q => count_takeOut (q := q) hi
  generalize hke : held[i] = k at *
  have hl := h.len
  have hb := h.bk k hk
  have hc := hct k
  rw [if_pos rfl] at hc
  have hpos : 0 < (Gc.at_ g.l k).live := by rw [hb.lv]; omega
  refine ⟨by simpa using hl, fun q hq => ?_, fun a b ha hb2 => ?_, ?_, h.even, fun x hx => h.hm x (takeOut_mem hi hx), by rw [takeOut_len]; have := h.hl; omega⟩
  · by_cases e : q = k
    · subst e
      show BkI g.opn q (Gc.at_ (g.l.set q _) q) (g.bl q) _ _
      rw [at_set _ _ (by omega)]
      have hz : (dropB (Gc.at_ g.l q)).live = (Gc.at_ g.l q).live - 1 := rfl
      have hw : (dropB (Gc.at_ g.l q)).wear = (Gc.at_ g.l q).wear := rfl
      have hx : (dropB (Gc.at_ g.l q)).nx = (Gc.at_ g.l q).nx := rfl
      have hs : (dropB (Gc.at_ g.l q)).st = if (Gc.at_ g.l q).st = 2 ∧ (Gc.at_ g.l q).live - 1 = 0 then 3 else (Gc.at_ g.l q).st := rfl
      obtain ⟨b1, b2, b3, b4, b5, b6, b7, b8, b9, b10, b11, b12⟩ := hb
      by_cases hd : (Gc.at_ g.l q).st = 2 ∧ (Gc.at_ g.l q).live - 1 = 0
      · rw [if_pos hd] at hs
        exact ⟨by omega, by omega, by omega, by omega, fun e => by omega, fun e => by omega, fun e => by omega, fun e => by omega, by rw [hw]; exact b9, by omega, b11, b12⟩
      · rw [if_neg hd] at hs
        refine ⟨by omega, by omega, by omega, by omega, fun e => ?_, fun e => ?_, fun e => ?_, fun e => ?_, by rw [hw]; exact b9, by omega, b11, b12⟩
        · rw [hs] at e
          obtain ⟨c1, c2, c3, c4, c5⟩ := b5 e
          rw [hz, hx]
          exact ⟨c1, c2, c3, c4, by omega⟩
        · rw [hs] at e; have := b6 e; omega
        · rw [hs] at e; omega
        · rw [hs] at e; have := b8 e; omega
    · show BkI g.opn q (Gc.at_ (g.l.set k _) q) (g.bl q) _ _
      rw [at_set_other _ _ e]
      have hq2 := h.bk q hq
      have := hct q
      rw [if_neg (Ne.symm e)] at this
      obtain ⟨b1, b2, b3, b4, b5, b6, b7, b8, b9, b10, b11, b12⟩ := hq2
      exact ⟨b1, by omega, b3, b4, b5, b6, b7, b8, b9, by omega, b11, b12⟩
  · have hw : ∀ q, (Gc.at_ (g.l.set k (dropB (Gc.at_ g.l k))) q).wear = (Gc.at_ g.l q).wear := fun q => by
      by_cases e : q = k
      · subst e; rw [at_set _ _ (by omega)]; rfl
      · rw [at_set_other _ _ e]
    show (Gc.at_ (g.l.set k _) a).wear ≤ (Gc.at_ (g.l.set k _) b).wear + 4
    rw [hw, hw]
    exact h.gap a b ha hb2
  · rcases h.opn with ho | ⟨q, q1, q2, q3⟩
    · exact .inl ho
    · refine .inr ⟨q, q1, q2, ?_⟩
      show (Gc.at_ (g.l.set k _) q).st = 1
      by_cases e : q = k
      · subst e
        rw [at_set _ _ (by omega)]
        show (if (Gc.at_ g.l q).st = 2 ∧ (Gc.at_ g.l q).live - 1 = 0 then 3 else (Gc.at_ g.l q).st) = 1
        rw [if_neg (by omega)]
        exact q3
      · rw [at_set_other _ _ e]; exact q3
end Wears
end Go.Proofs.Ytkkkggeagjgbeaa
namespace Go.Proofs.Ytkkkggeagjgbeaa
open Go.RowKit

namespace Wears
theorem next_erase {l : List Bk} {room : Bool} {bn : Int} (h : Gc.next l 8 room = (1, bn)) : ∃ k, k < l.length ∧ bn = (k : Int) ∧ (Gc.at_ l k).st = 3 ∧ (Gc.at_ l k).wear < Gc.least l + 4 := by
  unfold Gc.next at h
  cases h1 : Gc.best (Gc.p3 (Gc.least l)) Gc.worn l l.length with
  | some k =>
    rw [h1] at h
    injection h with _ h
    obtain ⟨a, b⟩ := Gc.best_some h1
    unfold Gc.p3 at b
    rw [Bool.and_eq_true, Gc.stale_iff, Gc.may_iff] at b
    exact ⟨k, a, h.symm, b.1, b.2.2⟩
  | none =>
    rw [h1] at h
    simp only at h
    split at h
    · injection h with h _; omega
    · split at h
      · injection h with h _; omega
      · split at h
        · injection h with h _; omega
        · unfold Gc.forced at h
          split at h
          · injection h with h _; omega
          · split at h
            · injection h with h _; omega
            · injection h with h _; omega
theorem next_burn {l : List Bk} {room : Bool} {bn : Int} (h : Gc.next l 8 room = (3, bn)) : ∃ k, k < l.length ∧ bn = (k : Int) ∧ (Gc.at_ l k).wear = Gc.least l ∧ ((Gc.at_ l k).st = 0 ∨ (Gc.at_ l k).st = 1 ∧ (Gc.at_ l k).nx = 0) := by
  unfold Gc.next at h
  split at h
  · injection h with h _; omega
  · split at h
    · injection h with h _; omega
    · cases h1 : Gc.best (Gc.p5 (Gc.least l)) Gc.ff l l.length with
      | some k =>
        rw [h1] at h
        injection h with _ h
        obtain ⟨a, b⟩ := Gc.best_some h1
        unfold Gc.p5 at b
        simp only [Bool.and_eq_true, Bool.or_eq_true, beq_iff_eq] at b
        exact ⟨k, a, h.symm, by omega, by rcases b.2 with c | c; exact .inl (by omega); exact .inr ⟨by omega, by omega⟩⟩
      | none =>
        rw [h1] at h
        simp only at h
        split at h
        · injection h with h _; omega
        · unfold Gc.forced at h
          split at h
          · injection h with h _; omega
          · split at h
            · injection h with h _; omega
            · injection h with h _; omega
theorem Inv.least {g : Mg} {held : List Nat} {n j : Nat} (h : Inv g held n) (hj : j < 16) : Gc.least g.l ≤ (Gc.at_ g.l j).wear :=
  Gc.least_le (by rw [h.len]; exact hj) (Gc.good_iff.2 (by have := (h.bk j hj).st; omega))
/-- One block is changed. -/
theorem Inv.put {g g' : Mg} {held held' : List Nat} {n k : Nat} {y : Bk} {p : Pb} (h : Inv g held n) (hk : k < 16) (hl : g'.l = g.l.set k y) (hb : g'.bl = upd g.bl k p) (he : g'.even = g.even) (hB : BkI g'.opn k y p (held'.count k) (n + 1))
    (hc : ∀ q, q ≠ k → held'.count q = held.count q) (ho : ∀ q, q < 16 → q ≠ k → (Gc.at_ g.l q).st = 1 → g'.opn = (q : Int)) (hg : ∀ j, j < 16 → y.wear ≤ (Gc.at_ g.l j).wear + 4 ∧ (Gc.at_ g.l j).wear ≤ y.wear + 4)
    (hop : g'.opn = -1 ∨ ∃ q : Nat, q < 16 ∧ g'.opn = (q : Int) ∧ (Gc.at_ (g.l.set k y) q).st = 1) (hm : ∀ x ∈ held', x < 16) (hh : held'.length ≤ n + 1) : Inv g' held' (n + 1) := by
  have hlen := h.len
  refine ⟨by rw [hl, List.length_set]; exact hlen, fun q hq => ?_, fun a b ha hb2 => ?_, by rw [hl]; exact hop, by rw [he]; exact h.even, hm, hh⟩
  · rw [hl, hb]
    by_cases e : q = k
    · subst e
      rw [at_set _ _ (by omega), upd_same]
      exact hB
    · rw [at_set_other _ _ e, upd_other _ _ e, hc q e]
      obtain ⟨b1, b2, b3, b4, b5, b6, b7, b8, b9, b10, b11, b12⟩ := h.bk q hq
      exact ⟨b1, b2, b3, b4, fun e1 => ⟨ho q hq e e1, (b5 e1).2⟩, b6, b7, b8, b9, by omega, b11, b12⟩
  · rw [hl]
    by_cases ea : a = k
    · subst ea
      rw [at_set _ _ (by omega)]
      by_cases eb : b = a
      · subst eb; rw [at_set _ _ (by omega)]; omega
      · rw [at_set_other _ _ eb]; exact (hg b hb2).1
    · rw [at_set_other _ _ ea]
      by_cases eb : b = k
      · subst eb; rw [at_set _ _ (by omega)]; exact (hg a ha).2
      · rw [at_set_other _ _ eb]; exact h.gap a b ha hb2
/-- A block is erased. -/
theorem Inv.erase {g : Mg} {held : List Nat} {n k : Nat} {ps' : Nat → Nat} (h : Inv g held n) (hk : k < 16) (hs : (Gc.at_ g.l k).st = 0 ∨ (Gc.at_ g.l k).st = 3) (hw : ∀ j, j < 16 → (Gc.at_ g.l k).wear ≤ (Gc.at_ g.l j).wear + 3) : Inv (erG g k ps') held (n + 1) := by
  have hlen := h.len
  have hb := h.bk k hk
  have hlv : (Gc.at_ g.l k).live = 0 := by
    rcases hs with e | e
    · exact (hb.fr e).1
    · exact hb.sl e
  have hne : ∀ q : Nat, q < 16 → g.opn = (q : Int) → (Gc.at_ g.l q).st = 1 → q ≠ k := fun q _ _ h3 e => by subst e; omega
  have hopn : (erG g k ps').opn = g.opn := by
    show (if g.opn = (k : Int) then (-1 : Int) else g.opn) = g.opn
    rcases h.opn with e | ⟨q, q1, q2, q3⟩
    · rw [if_neg (by omega)]
    · have := hne q q1 q2 q3
      rw [if_neg (by omega)]
  have hwe := hb.we
  refine h.put (g' := erG g k ps') (y := ⟨0, 0, (g.bl k).wear + 1, 0⟩) (p := fresh ((g.bl k).wear + 1)) hk rfl rfl rfl ⟨(by show 0 ≤ 3; omega), by rw [← hb.lv, hlv], (by show 0 ≤ 8; omega), (by show 0 ≤ 8; omega), fun e => (by cases e), fun _ => ⟨rfl, rfl⟩, fun e => (by cases e), fun _ => rfl, rfl, by have := hb.wn; show (g.bl k).wear + 1 ≤ n + 1; omega, rfl, rfl⟩ (fun _ _ => rfl)
    (fun q hq hqk h1 => by rw [hopn]; exact ((h.bk q hq).op h1).1) (fun j hj => ⟨by have := hw j hj; show (g.bl k).wear + 1 ≤ _; omega, by have := h.gap j k hj hk; show _ ≤ (g.bl k).wear + 1 + 4; omega⟩) ?_ h.hm (by have := h.hl; omega)
  rw [hopn]
  rcases h.opn with e | ⟨q, q1, q2, q3⟩
  · exact .inl e
  · exact .inr ⟨q, q1, q2, by rw [at_set_other _ _ (hne q q1 q2 q3)]; exact q3⟩
theorem count_snoc_same (held : List Nat) (k : Nat) : (held ++ [k]).count k = held.count k + 1 := by simp
theorem count_snoc_other (held : List Nat) {k q : Nat} (h : q ≠ k) : (held ++ [k]).count q = held.count q := by
  simp only [List.count_append, List.count_cons, List.count_nil, beq_iff_eq]
  rw [if_neg (Ne.symm h)]
  omega
/-- A page is programmed in the open block. -/
theorem Inv.prog {g : Mg} {held : List Nat} {n k : Nat} {bs : List UInt8} (h : Inv g held n) (hk : k < 16) (ho : g.opn = (k : Int)) (hs : (Gc.at_ g.l k).st = 1) : Inv (prG g k (Gc.at_ g.l k).nx bs) (held ++ [k]) (n + 1) := by
  have hlen := h.len
  have hb := h.bk k hk
  obtain ⟨o1, o2, o3, o4, o5⟩ := hb.op hs
  have hw := hb.we
  have hwn := hb.wn
  have hlv := hb.lv
  by_cases e8 : (Gc.at_ g.l k).nx + 1 = 8
  · have e1 : (prG g k (Gc.at_ g.l k).nx bs).opn = -1 := if_pos e8
    have e2 : (prG g k (Gc.at_ g.l k).nx bs).l = g.l.set k ⟨2, (Gc.at_ g.l k).live + 1, (Gc.at_ g.l k).wear, (Gc.at_ g.l k).nx + 1⟩ := by unfold prG; simp only [if_pos e8]
    refine h.put hk e2 rfl rfl ⟨by show 2 ≤ 3; omega, by rw [count_snoc_same, ← hlv], by show (Gc.at_ g.l k).nx + 1 ≤ 8; omega, by show (Gc.at_ g.l k).live + 1 ≤ 8; omega, fun e => (by cases e), fun e => (by cases e), fun _ => Nat.succ_pos _, fun e => (by cases e), hw, by show (Gc.at_ g.l k).wear ≤ n + 1; omega, hb.bad, hb.brk⟩ (fun q hq => count_snoc_other held hq)
      (fun q hq hqk h1 => by have := ((h.bk q hq).op h1).1; omega) (fun j hj => ⟨h.gap k j hk hj, h.gap j k hj hk⟩) (.inl e1) (fun x hx => by rcases List.mem_append.1 hx with h1 | h1; exact h.hm x h1; simp at h1; omega) (by rw [List.length_append]; have := h.hl; simp; omega)
  · have e1 : (prG g k (Gc.at_ g.l k).nx bs).opn = g.opn := if_neg e8
    have e2 : (prG g k (Gc.at_ g.l k).nx bs).l = g.l.set k ⟨(Gc.at_ g.l k).st, (Gc.at_ g.l k).live + 1, (Gc.at_ g.l k).wear, (Gc.at_ g.l k).nx + 1⟩ := by unfold prG; simp only [if_neg e8]
    refine h.put hk e2 rfl rfl ⟨hb.st, by rw [count_snoc_same, ← hlv], by show (Gc.at_ g.l k).nx + 1 ≤ 8; omega, by show (Gc.at_ g.l k).live + 1 ≤ 8; omega, fun _ => ⟨by rw [e1]; exact ho, by show 1 ≤ (Gc.at_ g.l k).nx + 1; omega, by show (Gc.at_ g.l k).nx + 1 < 8; omega, rfl, by show (Gc.at_ g.l k).live + 1 ≤ (Gc.at_ g.l k).nx + 1; omega⟩, fun e => (by have : (Gc.at_ g.l k).st = 0 := e; omega), fun _ => Nat.succ_pos _, fun e => (by have : (Gc.at_ g.l k).st = 3 := e; omega), hw, by show (Gc.at_ g.l k).wear ≤ n + 1; omega, hb.bad, hb.brk⟩ (fun q hq => count_snoc_other held hq)
      (fun q hq hqk h1 => by have := ((h.bk q hq).op h1).1; omega) (fun j hj => ⟨h.gap k j hk hj, h.gap j k hj hk⟩) (.inr ⟨k, hk, by rw [e1]; exact ho, by rw [at_set _ _ (by omega)]; exact hs⟩) (fun x hx => by rcases List.mem_append.1 hx with h1 | h1; exact h.hm x h1; simp at h1; omega) (by rw [List.length_append]; have := h.hl; simp; omega)
/-- One is opened, and a page is programmed. -/
theorem Inv.open_ {g : Mg} {held : List Nat} {n k : Nat} {bs : List UInt8} (h : Inv g held n) (ho : g.opn = -1) (hbest : Gc.best isFree Gc.worn g.l 16 = some k) : Inv (prG (beG g k) k 0 bs) (held ++ [k]) (n + 1) := by
  have hlen := h.len
  obtain ⟨hk, hf⟩ := Gc.best_some hbest
  have hs : (Gc.at_ g.l k).st = 0 := by unfold isFree at hf; rw [beq_iff_eq] at hf; omega
  have hb := h.bk k hk
  obtain ⟨o1, o2⟩ := hb.fr hs
  have hw := hb.we
  have hwn := hb.wn
  have hlv := hb.lv
  have hat : Gc.at_ (beG g k).l k = ⟨1, 0, (Gc.at_ g.l k).wear, 0⟩ := at_set _ _ (by omega)
  have e1 : (prG (beG g k) k 0 bs).opn = (k : Int) := rfl
  have e2 : (prG (beG g k) k 0 bs).l = g.l.set k ⟨1, 1, (Gc.at_ g.l k).wear, 1⟩ := by
    unfold prG
    simp only [hat]
    show (g.l.set k _).set k _ = _
    rw [List.set_set]
    rfl
  refine h.put hk e2 rfl rfl ⟨by show 1 ≤ 3; omega, by rw [count_snoc_same, ← hlv, o1], by show 1 ≤ 8; omega, by show 1 ≤ 8; omega, fun _ => ⟨e1, by show 1 ≤ 1; omega, by show 1 < 8; omega, rfl, by show 1 ≤ 1; omega⟩, fun e => (by cases e), fun e => (by cases e), fun e => (by cases e), hw, by show (Gc.at_ g.l k).wear ≤ n + 1; omega, hb.bad, hb.brk⟩ (fun q hq => count_snoc_other held hq)
    (fun q hq hqk h1 => by have := ((h.bk q hq).op h1).1; omega) (fun j hj => ⟨h.gap k j hk hj, h.gap j k hj hk⟩) (.inr ⟨k, hk, e1, by rw [at_set _ _ (by omega)]⟩) (fun x hx => by rcases List.mem_append.1 hx with h1 | h1; exact h.hm x h1; simp at h1; omega) (by rw [List.length_append]; have := h.hl; simp; omega)
/-- All Live together are what is held. -/
def sumC (c : Nat → Nat) : Nat → Nat
  | 0 => 0
  | k + 1 => sumC c k + c k
theorem sumC_cons (a : Nat) (l : List Nat) (k : Nat) : sumC (fun i => (a :: l).count i) k = sumC (fun i => l.count i) k + if a < k then 1 else 0 := by
  induction k with
  | zero => rfl
  | succ k ih =>
    show sumC (fun i => (a :: l).count i) k + (a :: l).count k = _ + _ + _
    rw [ih, List.count_cons]
    simp only [beq_iff_eq]
    by_cases e : a = k
    · subst e; rw [if_pos rfl, if_neg (Nat.lt_irrefl _), if_pos (Nat.lt_succ_self _)]; omega
    · rw [if_neg e]
      by_cases h : a < k
      · rw [if_pos h, if_pos (by omega)]; omega
      · rw [if_neg h, if_neg (by omega)]; omega
theorem sumC_held {k : Nat} : ∀ {held : List Nat}, (∀ h ∈ held, h < k) → sumC (fun i => held.count i) k = held.length := by
  intro held
  induction held with
  | nil =>
    intro _
    induction k with
    | zero => rfl
    | succ k ih => show sumC _ k + _ = _; rw [ih (fun x hx => absurd hx (by simp))]; rfl
  | cons a l ih =>
    intro h
    rw [sumC_cons, ih fun x hx => h x (by simp [hx]), if_pos (h a (by simp))]
    rfl
theorem sumC_congr {c d : Nat → Nat} {k : Nat} (h : ∀ i, i < k → c i = d i) : sumC c k = sumC d k := by
  induction k with
  | zero => rfl
  | succ k ih => show sumC c k + c k = sumC d k + d k; rw [ih fun i hi => h i (by omega), h k (by omega)]
theorem Inv.sum {g : Mg} {held : List Nat} {n : Nat} (h : Inv g held n) : sumC (fun i => (Gc.at_ g.l i).live) 16 = held.length := by
  rw [← sumC_held h.hm]
  exact sumC_congr fun i hi => (h.bk i hi).lv
theorem sumC_le {c : Nat → Nat} {k b : Nat} (h : ∀ i, i < k → c i ≤ b) : sumC c k ≤ k * b := by
  induction k with
  | zero => simp [sumC]
  | succ k ih =>
    have := ih fun i hi => h i (by omega)
    have := h k (by omega)
    show sumC c k + c k ≤ (k + 1) * b
    rw [Nat.succ_mul]
    omega
/-- What a right manager owes gc. -/
theorem Inv.ok {g : Mg} {held : List Nat} {n : Nat} (h : Inv g held n) (hn : n ≤ 1000) : ∀ k, k < 16 → Gc.Ok 8 (Gc.at_ g.l k) := fun k hk =>
  let b := h.bk k hk
  ⟨by have := b.st; omega, b.l8, b.nx, by have := b.wn; omega, fun e => by rcases e with e | e | e; exact (b.fr e).1; exact b.sl e; have := b.st; omega⟩
theorem Inv.opn2 {g : Mg} {held : List Nat} {n : Nat} (h : Inv g held n) : (g.opn = -1 ∨ (0 ≤ g.opn ∧ g.opn < (16 : Nat))) ∧ (Gc.at_ g.l g.opn.toNat).nx ≤ 8 := by
  rcases h.opn with e | ⟨k, k1, k2, _⟩
  · refine ⟨.inl e, ?_⟩
    rw [e]
    exact (h.bk 0 (by omega)).nx
  · refine ⟨.inr ⟨by omega, by omega⟩, ?_⟩
    rw [k2, Int.toNat_natCast]
    exact (h.bk k k1).nx
/-- None is free, none is open: there is no room. -/
theorem Inv.full {g : Mg} {held : List Nat} {n : Nat} (h : Inv g held n) (ho : g.opn = -1) (hb : Gc.best isFree Gc.worn g.l 16 = none) : roomOf g = 0 := by
  unfold roomOf
  rw [if_pos ho]
  have : Gc.count 0 g.l = 0 := by
    unfold Gc.count
    rw [List.length_eq_zero_iff, List.filter_eq_nil_iff]
    intro x hx
    obtain ⟨i, hi, rfl⟩ := List.getElem_of_mem hx
    have h1 := Gc.best_none hb i (by rw [← h.len]; exact hi)
    have e : Gc.at_ g.l i = g.l[i] := by rw [Gc.at_, List.getD_eq_getElem?_getD, List.getElem?_eq_getElem hi]; rfl
    rw [e] at h1
    unfold isFree at h1
    rw [beq_eq_false_iff_ne] at h1
    simp only [decide_eq_true_eq]
    omega
  rw [this]
  rfl
end Wears
end Go.Proofs.Ytkkkggeagjgbeaa
