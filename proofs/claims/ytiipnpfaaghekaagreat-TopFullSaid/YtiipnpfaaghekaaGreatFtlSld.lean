/-
  What sealing makes: plain mathematics.
-/
/-
  What sealing leaves: plain mathematics, joined.
-/
import Derived.Test.YtiipnpfaaghekaaGreatFtlWr
namespace Go.Proofs.YtiipnpfaaghekaaGreat
open Go.RowKit

namespace Ftl
theorem uq_perm {l l' : List En} (h : l.Perm l') (hu : Uq l) : Uq l' := (h.map (fun e : En => e.t.p)).nodup_iff.1 hu
theorem uq_left {l l' : List En} (h : Uq (l ++ l')) : Uq l := by
  unfold Uq at *
  rw [List.map_append, List.nodup_append] at h
  exact h.1
theorem getE_snoc {d : List En} {e : En} (h : Uq (d ++ [e])) (q : Nat) : getE (d ++ [e]) q = if q = e.t.p then some e else getE d q := by
  have h2 : ∀ x ∈ d, x.t.p ≠ e.t.p := (uq_app (l2 := []) h).1
  rw [← putE_new (l := d) (e := e) h2]
  exact getE_putE (uq_left h) q
theorem getE_perm {l l' : List En} (h : l.Perm l') (hu : Uq l) (q : Nat) : getE l q = getE l' q := by
  have hu' := uq_perm h hu
  cases hg : getE l' q with
  | none => exact getE_not fun e he => getE_none hg e (h.mem_iff.1 he)
  | some x =>
    obtain ⟨h1, rfl⟩ := getE_mem hg
    exact getE_of hu (h.mem_iff.2 h1)
/-- The pages of d have been sealed. -/
structure Sl1 (NB m : Nat) (f2 f3 : Fm) (d : List En) : Prop where
  fi : ∃ rest, (d ++ rest).Perm f2.no ∧ Fi NB (m + d.length) [] f3.g (f3.se ++ rest)
  se : ∀ q, getE f3.se q = match getE d q with
    | some e => some e
    | none => getE f2.se q
  go : ∀ q, (getE f3.go q).isSome = if (getE d q).isSome then false else (getE f2.go q).isSome
  gos : ∀ x ∈ f3.go, x ∈ f2.go
  fr : 3 ≤ Gc.count 0 f3.g.l
  eq : f3 = { f2 with g := f3.g, se := f3.se, go := f3.go }
  len : f3.se.length + (f2.no.length - d.length) + (if (getE d 0).isSome = true ∧ (getE f2.se 0).isSome = true then 1 else 0) ≤ f2.se.length + f2.no.length
  C : f3.g.C = f2.g.C
  M : f3.g.M = f2.g.M
  ML : f3.g.ML = f2.g.ML
  gh : f3.g.gh = f2.g.gh
theorem sl1_0 {NB m : Nat} {f2 : Fm} (h : Fi NB m [] f2.g (f2.se ++ f2.no)) (hf : 3 ≤ Gc.count 0 f2.g.l) : Sl1 NB m f2 f2 [] :=
  ⟨⟨f2.no, List.Perm.refl _, h⟩, fun _ => rfl, fun _ => rfl, fun _ h => h, hf, rfl, by rw [if_neg (by rintro ⟨e, _⟩; cases e)]; simp, rfl, rfl, rfl, rfl⟩
section
variable {NB m : Nat} {f2 f3 f4 : Fm} {d : List En} {e e0 : En}
theorem Sl1.uq (h : Sl1 NB m f2 f3 d) (hu : Uq f2.no) : Uq d := by
  obtain ⟨rest, h1, _⟩ := h.fi
  exact uq_left (uq_perm h1.symm hu)
/-- One that is not sealed yet. -/
theorem Sl1.not (h : Sl1 NB m f2 f3 d) (hu : Uq f2.no) (he : e ∈ f2.no) (hd : e ∉ d) : Uq (d ++ [e]) ∧ getE d e.t.p = none ∧ ∃ rest', (d ++ e :: rest').Perm f2.no ∧ Fi NB (m + d.length) [] f3.g (f3.se ++ e :: rest') := by
  obtain ⟨rest, h1, h2⟩ := h.fi
  have hm : e ∈ rest := by
    rcases List.mem_append.1 (h1.mem_iff.2 he) with h3 | h3
    · exact absurd h3 hd
    · exact h3
  obtain ⟨l1, l2, rfl⟩ := List.append_of_mem hm
  have hp : (l1 ++ e :: l2).Perm (e :: (l1 ++ l2)) := List.perm_middle
  have h3 : (d ++ e :: (l1 ++ l2)).Perm f2.no := (hp.symm.append_left d).trans h1
  have hu2 : Uq (d ++ [e]) := by
    have : Uq ((d ++ [e]) ++ (l1 ++ l2)) := by
      rw [List.append_assoc]
      exact uq_perm h3.symm hu
    exact uq_left this
  exact ⟨hu2, getE_not (uq_app (l2 := []) hu2).1, l1 ++ l2, h3, h2.perm (hp.append_left f3.se)⟩
theorem Sl1.fin (h : Sl1 NB m f2 f3 d) (hu : Uq f2.no) (hus : Uq f3.se) (he : e ∈ f2.no) (hd : e ∉ d) (hfi : ∀ rest', (d ++ e :: rest').Perm f2.no → Fi NB (m + d.length) [] f3.g (f3.se ++ e :: rest') → Fi NB (m + d.length + 1) [] f4.g (putE f3.se e ++ rest')) (hfr : 3 ≤ Gc.count 0 f4.g.l)
    (hse : f4.se = putE f3.se e) (hgo : f4.go = delE f3.go e.t.p) (heq : f4 = { f3 with g := f4.g, se := f4.se, go := f4.go }) (hC : f4.g.C = f3.g.C) (hM : f4.g.M = f3.g.M) (hML : f4.g.ML = f3.g.ML) (hGh : f4.g.gh = f3.g.gh) : Sl1 NB m f2 f4 (d ++ [e]) := by
  obtain ⟨hu2, hn, rest', h1, h2⟩ := h.not hu he hd
  refine ⟨⟨rest', by rw [List.append_assoc]; exact h1, ?_⟩, fun q => ?_, fun q => ?_, fun x hx => ?_, hfr, ?_, ?_, hC.trans h.C, hM.trans h.M, hML.trans h.ML, hGh.trans h.gh⟩
  · rw [List.length_append, hse]
    exact hfi rest' h1 h2
  · rw [hse, getE_putE hus, getE_snoc hu2]
    by_cases hq : q = e.t.p
    · rw [if_pos hq, if_pos hq]
    · rw [if_neg hq, if_neg hq]; exact h.se q
  · rw [hgo, getE_delE, getE_snoc hu2]
    by_cases hq : q = e.t.p
    · rw [if_pos hq, if_pos hq]; rfl
    · rw [if_neg hq, if_neg hq]; exact h.go q
  · rw [hgo] at hx
    exact h.gos x (List.mem_filter.1 hx).1
  · rw [heq]
    conv => lhs; rw [h.eq]
  · have hlen := h.len
    have hdl : d.length + 1 ≤ f2.no.length := by
      have := h1.length_eq
      rw [List.length_append, List.length_cons] at this
      omega
    have hsp := h.se e.t.p
    rw [hn] at hsp
    have hsp : getE f3.se e.t.p = getE f2.se e.t.p := hsp
    rw [hse, putE_len, List.length_append, List.length_singleton, hsp, getE_snoc hu2]
    by_cases h0 : 0 = e.t.p
    · rw [if_pos h0]
      rw [← h0] at hn ⊢
      simp only [hn, Option.isSome_none, Bool.false_eq_true, false_and, if_false] at hlen
      simp only [Option.isSome_some, true_and]
      cases hz : (getE f2.se 0).isSome
      · simp only [Bool.false_eq_true, if_false]
        omega
      · simp only [if_true]
        omega
    · rw [if_neg h0]
      split <;> omega
theorem putE_move {se rest' : List En} (hus : Uq se) (he0 : e0 ∈ se) (hp : e0.t.p = e.t.p) : (e0 :: (putE se e ++ rest')).Perm (se ++ e :: rest') := by
  have h1 := putE_perm hus he0 hp
  have h2 : (e0 :: (putE se e ++ rest')).Perm (e :: (se ++ rest')) := h1.append_right rest'
  exact h2.trans List.perm_middle.symm
/-- The pages of d, that were dropped, have been taken out. -/
structure Sl2 (NB m : Nat) (f3 f4 : Fm) (d : List En) : Prop where
  fi : Fi NB (m + d.length) [] f4.g f4.se
  se : ∀ q, getE f4.se q = if (getE d q).isSome then none else getE f3.se q
  fr : 3 ≤ Gc.count 0 f4.g.l
  eq : f4 = { f3 with g := f4.g, se := f4.se }
  C : f4.g.C = f3.g.C
  M : f4.g.M = f3.g.M
  ML : f4.g.ML = f3.g.ML
  gh : f4.g.gh = f3.g.gh
theorem sl2_0 {NB m : Nat} {f3 : Fm} (h : Fi NB m [] f3.g f3.se) (hf : 3 ≤ Gc.count 0 f3.g.l) : Sl2 NB m f3 f3 [] := ⟨h, fun _ => rfl, hf, rfl, rfl, rfl, rfl, rfl⟩
theorem delE_perm {l : List En} (hu : Uq l) (he : e ∈ l) : (e :: delE l e.t.p).Perm l := by
  obtain ⟨l1, l2, rfl⟩ := List.append_of_mem he
  rw [delE_is hu]
  exact List.perm_middle.symm
theorem Sl1.all (h : Sl1 NB m f2 f3 d) (hp : d.Perm f2.no) : Fi NB (m + f2.no.length) [] f3.g f3.se := by
  obtain ⟨rest, h1, h2⟩ := h.fi
  have hl := hp.length_eq
  have hr : rest = [] := List.eq_nil_of_length_eq_zero (by have := h1.length_eq; rw [List.length_append] at this; omega)
  subst hr
  rw [List.append_nil, hl] at h2
  exact h2
theorem Sl1.gk (h : Sl1 NB m f2 f3 d) (hg : ∀ x ∈ f2.go, (getE f2.se x.t.p).isSome = true) : ∀ x ∈ f3.go, (getE f3.se x.t.p).isSome = true := fun x hx => by
  rw [h.se]
  cases hd : getE d x.t.p with
  | none => exact hg x (h.gos x hx)
  | some e => rfl
theorem Sl2.old (h : Sl2 NB m f3 f4 d) (hu : Uq f3.go) (hg : ∀ x ∈ f3.go, (getE f3.se x.t.p).isSome = true) (hr : ∃ rest, (d ++ rest).Perm f3.go) (he : e ∈ f3.go) (hd : e ∉ d) : Uq (d ++ [e]) ∧ ∃ e0, getE f4.se e.t.p = some e0 := by
  obtain ⟨rest, h1⟩ := hr
  have hm : e ∈ rest := by
    rcases List.mem_append.1 (h1.mem_iff.2 he) with h3 | h3
    · exact absurd h3 hd
    · exact h3
  obtain ⟨l1, l2, rfl⟩ := List.append_of_mem hm
  have hp : (l1 ++ e :: l2).Perm (e :: (l1 ++ l2)) := List.perm_middle
  have h3 : (d ++ e :: (l1 ++ l2)).Perm f3.go := (hp.symm.append_left d).trans h1
  have hu2 : Uq (d ++ [e]) := by
    have : Uq ((d ++ [e]) ++ (l1 ++ l2)) := by
      rw [List.append_assoc]
      exact uq_perm h3.symm hu
    exact uq_left this
  refine ⟨hu2, ?_⟩
  have hn : getE d e.t.p = none := getE_not (uq_app (l2 := []) hu2).1
  have h4 := h.se e.t.p
  rw [hn] at h4
  have h4 : getE f4.se e.t.p = getE f3.se e.t.p := h4
  have h5 := hg e he
  rw [← h4] at h5
  cases hz : getE f4.se e.t.p with
  | none => rw [hz] at h5; cases h5
  | some x => exact ⟨x, rfl⟩
theorem Sl2.fin {f5 : Fm} (h : Sl2 NB m f3 f4 d) (hu : Uq (d ++ [e])) (hfi : Fi NB (m + d.length + 1) [] f5.g (delE f4.se e.t.p)) (hfr : 3 ≤ Gc.count 0 f5.g.l)
    (hse : f5.se = delE f4.se e.t.p) (heq : f5 = { f4 with g := f5.g, se := f5.se }) (hC : f5.g.C = f4.g.C) (hM : f5.g.M = f4.g.M) (hML : f5.g.ML = f4.g.ML) (hGh : f5.g.gh = f4.g.gh) : Sl2 NB m f3 f5 (d ++ [e]) := by
  refine ⟨?_, fun q => ?_, hfr, ?_, hC.trans h.C, hM.trans h.M, hML.trans h.ML, hGh.trans h.gh⟩
  · rw [List.length_append, hse]
    exact hfi
  · rw [hse, getE_delE, getE_snoc hu]
    by_cases hq : q = e.t.p
    · rw [if_pos hq, if_pos hq]; rfl
    · rw [if_neg hq, if_neg hq]; exact h.se q
  · rw [heq]
    conv => lhs; rw [h.eq]
end
end Ftl
end Go.Proofs.YtiipnpfaaghekaaGreat
namespace Go.Proofs.YtiipnpfaaghekaaGreat
open Go.RowKit Ftl

def sealT (f : Fm) : Tg := ⟨2, 0, f.seq, f.ep⟩
def headL (tx : List UInt8) : List UInt8 := [2, 0, 0, 0, 0, 0, 0, 0] ++ tx
/-- What sealing leaves. -/
structure Sld (NB : Nat) (f f' : Fm) (tl : List UInt8) : Prop where
  fc : Fc NB f'
  F : f'.F = f.F
  C : f'.g.C = f.g.C
  gh : f'.g.gh = f.g.gh
  no : f'.no = []
  go : f'.go = []
  sq : f'.seq = f.seq + 1
  ep : f'.ep = f.ep + 1
  tx : f'.tx = tl
  se : ∀ q, (getE f'.se q).map sk = if q = 0 then some (sealT f, headL tl) else match (getE f.no q).map sk with
    | some x => some x
    | none => if (getE f.go q).isSome then none else (getE f.se q).map sk
namespace Ftl
theorem nodup_sub {α : Type} : ∀ {l l' : List α}, l.Nodup → (∀ x ∈ l, x ∈ l') → l.length ≤ l'.length
  | [], _, _, _ => Nat.zero_le _
  | x :: t, l', hn, hs => by
    obtain ⟨l1, l2, rfl⟩ := List.append_of_mem (hs x (by simp))
    rw [List.nodup_cons] at hn
    have := nodup_sub (l := t) (l' := l1 ++ l2) hn.2 fun y hy => by
      have h1 := hs y (List.mem_cons_of_mem _ hy)
      have hne : y ≠ x := fun e => hn.1 (e ▸ hy)
      rcases List.mem_append.1 h1 with h2 | h2
      · exact List.mem_append_left _ h2
      · rcases List.mem_cons.1 h2 with h3 | h3
        · exact absurd h3 hne
        · exact List.mem_append_right _ h3
    rw [List.length_append] at this
    rw [List.length_append, List.length_cons, List.length_cons]
    omega
theorem getE_isSome {l : List En} {p : Nat} : (getE l p).isSome = true ↔ p ∈ l.map fun e => e.t.p := by
  constructor
  · intro h
    cases hz : getE l p with
    | none => rw [hz] at h; cases h
    | some x => obtain ⟨h2, h3⟩ := getE_mem hz; exact List.mem_map.2 ⟨x, h2, h3⟩
  · intro h
    obtain ⟨e, he, rfl⟩ := List.mem_map.1 h
    cases hz : getE l e.t.p with
    | none => exact absurd rfl (getE_none hz e he)
    | some x => rfl
theorem uq_len {l l' : List En} (hu : Uq l) (h : ∀ q, (getE l q).isSome = true → (getE l' q).isSome = true) : l.length ≤ l'.length := by
  have := nodup_sub (l := l.map fun e : En => e.t.p) (l' := l'.map fun e : En => e.t.p) hu fun p hp => getE_isSome.1 (h p (getE_isSome.2 hp))
  rw [List.length_map, List.length_map] at this
  exact this
theorem sld {NB m k i : Nat} {f f1 f2 f3 f4 f' : Fm} {g' : Mg} {d d2 : List En} {tx : List UInt8} (h : Fc NB f) (hs : Same f f1)
    (hf2 : f2 = ({ f1 with g := g', seq := f.seq + 1, no := putE f1.no ⟨sealT f, headL tx, k, i⟩ } : Fm)) (hm : m = 100000 * f.seq + 17 * (NB + 1) + 1)
    (h1 : Sl1 NB m f2 f3 d) (hp : d.Perm f2.no) (h2 : Sl2 NB (m + f2.no.length) f3 f4 d2) (hp2 : d2.Perm f3.go)
    (hu1 : Uq f1.no) (hu2 : Uq f2.no) (hu3 : Uq f3.go) (hu4 : Uq f4.se) (hnb : NB ≤ 1000) (hC : g'.C = f.g.C) (hGh : g'.gh = f.g.gh)
    (hcp : (getE f.se 0).isSome = true ∨ (f.se ++ f.no).length + 3 ≤ 8 * (NB - 3))
    (a1 : f'.F = f.F) (a2 : f'.g = f4.g) (a3 : f'.se = f4.se) (a4 : f'.no = []) (a5 : f'.go = []) (a6 : f'.seq = f.seq + 1) (a7 : f'.ep = f.ep + 1) (a8 : f'.tx = tx) (a9 : f'.ov = f.ov) : Sld NB f f' tx := by
  have hn : ∀ q, getE d q = getE f2.no q := getE_perm hp (uq_perm hp.symm hu2)
  have hno : ∀ q, getE f2.no q = if q = 0 then some ⟨sealT f, headL tx, k, i⟩ else getE f1.no q := fun q => by rw [hf2]; exact getE_putE hu1 q
  have hse2 : f2.se = f1.se := by rw [hf2]
  have hgo2 : f2.go = f1.go := by rw [hf2]
  have hgo : ∀ q, (getE f2.go q).isSome = (getE f.go q).isSome := fun q => by
    rw [Bool.eq_iff_iff, getE_isSome, getE_isSome, hgo2, hs.go]
  have hse : ∀ q, (getE f2.se q).map sk = (getE f.se q).map sk := fun q => by rw [hse2]; exact getE_sk hs.se q
  have hno1 : ∀ q, (getE f1.no q).map sk = (getE f.no q).map sk := fun q => getE_sk hs.no q
  have hd2 : ∀ q, getE d2 q = getE f3.go q := getE_perm hp2 (uq_perm hp2.symm hu3)
  have hlen2 : f2.no.length = f1.no.length + 1 := by
    have h0 : getE f1.no 0 = none := by
      have := getE_some hs.no 0
      rw [h.n0] at this
      cases hz : getE f1.no 0 with
      | none => rfl
      | some x => rw [hz] at this; cases this
    rw [hf2]
    show (putE f1.no _).length = _
    rw [putE_new fun x hx => getE_none h0 x hx]
    simp
  have hl43 : f4.se.length ≤ f3.se.length := uq_len hu4 fun q hq => by
    rw [h2.se] at hq
    split at hq
    · cases hq
    · exact hq
  have hlg : f3.go.length ≤ f3.se.length := uq_len hu3 fun q hq => by
    rw [h1.go] at hq
    split at hq
    · cases hq
    · rename_i hz
      rw [hgo] at hq
      obtain ⟨x, hx, e⟩ := List.mem_map.1 (getE_isSome.1 hq)
      have h5 := h.gk x hx
      rw [e, ← getE_some hs.se, ← hse2] at h5
      rw [h1.se]
      cases getE d q with
      | some y => rfl
      | none => exact h5
  have hl31 := h1.len
  rw [hp.length_eq, hn, hno, if_pos rfl, hlen2, Nat.sub_self, hse2, getE_some hs.se] at hl31
  have hlE := hs.lenE
  rw [List.length_append] at hlE
  have hcap := h.cap
  have hd2l := hp2.length_eq
  refine ⟨⟨?_, ?_, ?_, a9.trans h.ov, ?_, ?_, ?_, ?_⟩, a1, ?_, ?_, a4, a5, a6, a7, a8, fun q => ?_⟩
  · rw [a2, a3, a4, a6, List.append_nil]
    refine h2.fi.le ?_
    split at hl31 <;> omega
  · rw [a2]; exact h2.fr
  · rw [a3, a4, List.append_nil]
    rcases hcp with e | e
    · rw [if_pos ⟨rfl, e⟩] at hl31
      omega
    · split at hl31 <;> omega
  · rw [a6, a7]; have := h.sq; omega
  · rw [a5]; intro x hx; cases hx
  · rw [a4]; rfl
  · rw [a5]; rfl
  · rw [a2, h2.C, h1.C, hf2]; exact hC
  · rw [a2, h2.gh, h1.gh, hf2]; exact hGh
  · rw [a3, h2.se, hd2, h1.go, hn, hno, h1.se, hn, hno]
    by_cases hq : q = 0
    · rw [if_pos hq, if_pos hq]
      rfl
    · rw [if_neg hq, if_neg hq]
      have h6 := hno1 q
      rw [← h6]
      cases hz : getE f1.no q with
      | some x => rfl
      | none =>
        show Option.map sk (if (getE f2.go q).isSome = true then none else getE f2.se q) = if (getE f.go q).isSome = true then none else (getE f.se q).map sk
        rw [hgo]
        split
        · rfl
        · exact hse q
end Ftl
end Go.Proofs.YtiipnpfaaghekaaGreat
