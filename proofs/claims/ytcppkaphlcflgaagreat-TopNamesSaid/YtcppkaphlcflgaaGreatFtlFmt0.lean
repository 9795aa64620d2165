import Derived.Test.YtcppkaphlcflgaaGreatFtlPut2
namespace Go.Proofs.YtcppkaphlcflgaaGreat
open Lib (hid)
set_option maxRecDepth 100000
set_option maxHeartbeats 16000000
section
open Go.RowKit

structure Pr (NB B : Nat) (R : Nat → Prop) (w : World) (R' : Nat → Prop) (W : World) (f : Fm) : Prop where
 ft : FtM NB B R' W f
 kq : Kq R w W
 up : ∀ q, R' q → Up R w W q
 bn : ∀ q, R q → B ≤ q ∧ q < w.heap.size
section
variable {NB B : Nat} {R R' T : Nat → Prop} {w W W' : World} {f f' : Fm}
theorem Pr.start (h : FtM NB B R w f) : Pr NB B R w R w f := ⟨h, Kq.refl _ _, fun _ hq => .inl hq, h.bnd⟩
theorem Pr.up_ {q : Nat} (h : Pr NB B R w R' W f) (hs : W.heap.size ≤ W'.heap.size) (hq : R' q) : Up R w W' q := by
 rcases h.up q hq with h1 | h1
 ·exact .inl h1
 ·exact .inr ⟨h1.1, by omega⟩
theorem Pr.on (h : Pr NB B R w R' W f) (hb : Below W.heap.size W W') : Pr NB B R w R' W' f := ⟨h.ft.on hb, h.kq.on hb, fun _ hq => h.up_ hb.size hq, h.bn⟩
theorem Pr.same (h : Pr NB B R w R' W f) (h1 : FtM NB B R' W' f') (h2 : Kq R' W W') : Pr NB B R w R' W' f' :=
 ⟨h1, h.kq.then_ h2 fun q hq => by rcases h.up q hq with h3 | h3; exact .inl h3; exact .inr h3.1, fun _ hq => h.up_ h2.size hq, h.bn⟩
theorem Pr.step (h : Pr NB B R w R' W f) (h1 : FtR NB B R' W W' f') : Pr NB B R w (Up R' W W') W' f' := by
 have hs := h.kq.size
 refine ⟨h1.1, h.kq.then_ h1.2 fun q hq => by rcases h.up q hq with h3 | h3; exact .inl h3; exact .inr h3.1, fun q hq => ?_, h.bn⟩
 rcases hq with h2 | h2
 ·exact h.up_ h1.2.size h2
 ·exact .inr ⟨by omega, h2.2⟩
theorem Pr.mine (h : Pr NB B R w R' W f) (hk : Kq T W W') (hT : ∀ q, T q → w.heap.size ≤ q ∧ ¬ R' q) : Pr NB B R w R' W' f :=
 ⟨h.ft.kq hk fun q hq ht => (hT q ht).2 hq, h.kq.then_ hk fun q hq => .inr (hT q hq).1, fun _ hq => h.up_ hk.size hq, h.bn⟩
theorem Pr.fin (h : Pr NB B R w R' W f) (hB : B ≤ w.heap.size) : FtR NB B R w W f := by
 refine ⟨h.ft.more h.up fun q hq => ?_, h.kq⟩
 rcases hq with h1 | h1
 ·have := h.bn q h1
  have := h.kq.size
  omega
 ·exact ⟨by omega, h1.2⟩
end
namespace Ftl
theorem getE_sk {l l' : List En} (h : l'.map sk = l.map sk) (p : Nat) : (getE l' p).map sk = (getE l p).map sk := by
 unfold getE
 induction l generalizing l' with
 | nil =>
  cases l' with
  | nil => rfl
  | cons a t => cases h
 | cons b t ih =>
  cases l' with
  | nil => cases h
  | cons a s =>
   rw [List.map_cons, List.map_cons] at h
   injection h with h1 h2
   have hp : a.t.p = b.t.p := congrArg (fun y => y.1.p) h1
   rw [List.find?_cons, List.find?_cons, hp]
   split
   ·show some (sk a) = some (sk b); rw [h1]
   ·exact ih h2
theorem getE_some {l l' : List En} (h : l'.map sk = l.map sk) (p : Nat) : (getE l' p).isSome = (getE l p).isSome := by
 have := congrArg Option.isSome (getE_sk h p)
 simpa using this
theorem getE_putE {l : List En} {e : En} (hu : Uq l) (q : Nat) : getE (putE l e) q = if q = e.t.p then some e else getE l q := by
 cases hg : getE l e.t.p with
 | some x =>
  obtain ⟨hx, hp⟩ := getE_mem hg
  obtain ⟨l1, l2, rfl⟩ := List.append_of_mem hx
  obtain ⟨n1, n2⟩ := uq_app hu
  rw [putE_is hu hp]
  unfold getE
  rw [List.find?_append, List.find?_append, List.find?_cons, List.find?_cons]
  by_cases hq : q = e.t.p
  ·subst hq
   rw [if_pos rfl]
   have : l1.find? (fun y => y.t.p == e.t.p) = none := List.find?_eq_none.2 fun y hy => by have := n1 y hy; simp; omega
   rw [this]
   simp
  ·rw [if_neg hq]
   have h1 : (e.t.p == q) = false := by rw [beq_eq_false_iff_ne]; omega
   have h2 : (x.t.p == q) = false := by rw [beq_eq_false_iff_ne]; omega
   rw [h1, h2]
 | none =>
  have hn := getE_none hg
  rw [putE_new fun x hx => hn x hx]
  unfold getE
  rw [List.find?_append, List.find?_cons, List.find?_nil]
  by_cases hq : q = e.t.p
  ·subst hq
   rw [if_pos rfl]
   have : l.find? (fun y => y.t.p == e.t.p) = none := List.find?_eq_none.2 fun y hy => by have := hn y hy; simp; omega
   rw [this]
   simp
  ·rw [if_neg hq]
   have h1 : (e.t.p == q) = false := by rw [beq_eq_false_iff_ne]; omega
   rw [h1]
   cases l.find? (fun y => y.t.p == q) <;> rfl
theorem getE_delE (l : List En) (p q : Nat) : getE (delE l p) q = if q = p then none else getE l q := by
 unfold getE delE
 rw [List.find?_filter]
 by_cases hq : q = p
 ·subst hq
  rw [if_pos rfl]
  exact List.find?_eq_none.2 fun y _ => by simp
 ·rw [if_neg hq]
  congr 1
  funext y
  by_cases h : y.t.p = q
  ·simp [h, hq]
  ·simp [h]
theorem count_dropB {l : List Bk} {k : Nat} (hk : k < l.length) (hs : (Gc.at_ l k).st ≠ 0) : Gc.count 0 (l.set k (dropB (Gc.at_ l k))) = Gc.count 0 l := by
 have h1 := Gc.count_set 0 (l := l) (k := k) (dropB (Gc.at_ l k)) hk
 rw [if_neg hs] at h1
 have h2 : (dropB (Gc.at_ l k)).st ≠ 0 := by
  show (if _ then 3 else (Gc.at_ l k).st) ≠ 0
  split
  ·omega
  ·exact hs
 rw [if_neg h2] at h1
 omega
section
variable {NB n k : Nat} {x : List Nat} {g : Mg} {E : List En} {e e0 : En}
theorem Fi.notFree (h : Fi NB n (k :: x) g E) : (Gc.at_ g.l k).st ≠ 0 := fun e => by
 have hk := h.ltx (k := k) (by simp)
 have hb := h.w.bk k hk
 have hc : 0 < (E.map (·.b) ++ k :: x).count k := List.count_pos_iff.2 (by simp)
 have := hb.lv
 have := (hb.fr e).1
 omega
theorem Fi.lenl (h : Fi NB n x g E) (hk : k ∈ x) : k < g.l.length := by rw [h.w.len]; exact h.ltx hk
end
theorem Pgd.gp {NB k i : Nat} {g g' : Mg} {t : Tg} {pay : List UInt8} (h : Pgd NB g g' k i (Tg.page t pay)) : Gp g' ⟨t, pay, k, i⟩ := by
 refine ⟨?_, ?_, h.i8⟩
 ·show (g'.bl k).pgs i = _
  rw [h.bl, upd_same]
  exact upd_same _ _ _
 ·show i < (g'.bl k).nx
  rw [h.bl, upd_same]
  exact Nat.lt_succ_self _
end Ftl
end
section
open Go.RowKit Ftl

theorem mk8of64 (u : World) : (Instr.makeSlice 40 (.int .i64 8) (.int .i64 64)).run Tryz.prog u = .ok (.slice (some ⟨u.heap.size, 0, none⟩) 8 64) (u.alloc (.cells (Array.replicate 64 (.int .u8 0)) 5)) := by kernel_rfl
theorem Own.cutTo {α : Type} {f : α → Value} {e : TypeId} {w : World} {base : Nat} {a : Option Addr} {n c : Nat} {xs : List α} (h : Own f e w base (.slice a n c) xs) {k : Nat} (hk : k ≤ n) : Own f e w base (.slice a k c) (xs.take k) := by
 refine ⟨by simp, ?_⟩
 rcases h.2 with ⟨hv, hn⟩ | ⟨g, cap, cur, hv, hgb, hg, hc, hm, hs, ht⟩
 ·injection hv with h1 h2 h3
  subst h1 h2 h3
  obtain rfl : k = 0 := by omega
  exact .inl ⟨rfl, by simp⟩
 ·injection hv with h1 h2 h3
  subst h1 h2 h3
  have hl : (xs.take k).length = k := by rw [List.length_take]; omega
  refine .inr ⟨g, c, cur, by rw [hl], hgb, hg, by rw [hl]; omega, hm, hs, ?_⟩
  rw [hl, List.map_take, ← ht, List.take_take]
  congr 1
  omega
theorem head_calls (a : Option Addr) (c : Nat) (tx : List UInt8) (w : World) (hx : Bytes w w.heap.size a 56 tx) :
  Calls Tryz.prog 116 #[.int .i64 2, .int .i64 0, .slice a 56 c] w fun e w' => (∃ a' c', e = .returned (.slice a' 64 c') ∧ Own byteV 5 w' w.heap.size (.slice a' 64 c') ([2, 0, 0, 0, 0, 0, 0, 0] ++ tx)) ∧ Below w.heap.size w w' := by
 have hmk := mk8of64
 have hl := hx.len
 have ho := (ownMadeZ w w.heap.size 64 (Nat.le_refl _) (by omega)).cutTo (k := 8) (by omega)
 have hb := (Below.refl w.heap.size w).alloc (Nat.le_refl _) (.cells (Array.replicate 64 (.int .u8 0)) 5)
 have HX := hid (hx.on hb)
 have ho : Own byteV 5 (w.alloc (.cells (Array.replicate 64 (.int .u8 0)) 5)) w.heap.size (.slice (some ⟨w.heap.size, 0, none⟩) 8 64) [0, 0, 0, 0, 0, 0, 0, 0] := ho
 generalize hw1 : w.alloc (.cells (Array.replicate 64 (.int .u8 0)) 5) = w1 at *
 obtain ⟨c0, f0⟩ := ho.cellg (k := 0) (by simp)
 have h0 := ho.set 0 2
 obtain ⟨c1, f1⟩ := h0.cellg (k := 1) (by simp)
 have h1 := h0.set 1 0
 obtain ⟨c2, f2⟩ := h1.cellg (k := 2) (by simp)
 have h2 := h1.set 2 0
 obtain ⟨c3, f3⟩ := h2.cellg (k := 3) (by simp)
 have h3 := h2.set 3 0
 have h3 : Own byteV 5 ((((w1.setCell ⟨w.heap.size, 0, none⟩ (.int .u8 2)).setCell ⟨w.heap.size, 1, none⟩ (.int .u8 0)).setCell ⟨w.heap.size, 2, none⟩ (.int .u8 0)).setCell ⟨w.heap.size, 3, none⟩ (.int .u8 0)) w.heap.size (.slice (some ⟨w.heap.size, 0, none⟩) 8 64) [2, 0, 0, 0, 0, 0, 0, 0] := h3
 have hb3 := (((hb.setCell (p := ⟨w.heap.size, 0, none⟩) (Nat.le_refl _) (.int .u8 2)).setCell (p := ⟨w.heap.size, 1, none⟩) (Nat.le_refl _) (.int .u8 0)).setCell (p := ⟨w.heap.size, 2, none⟩) (Nat.le_refl _) (.int .u8 0)).setCell (p := ⟨w.heap.size, 3, none⟩) (Nat.le_refl _) (.int .u8 0)
 have HO := hid h3
 have HB := hid hb3
 have HX3 := hid (hx.on hb3)
 have c0 : w1.cell? ⟨w.heap.size, 0, none⟩ = some (.int .u8 0) := c0
 have c1 : (w1.setCell ⟨w.heap.size, 0, none⟩ (.int .u8 2)).cell? ⟨w.heap.size, 1, none⟩ = some (.int .u8 0) := c1
 have f1 : (w1.setCell ⟨w.heap.size, 0, none⟩ (.int .u8 2)).frozen? ⟨w.heap.size, 1, none⟩ = false := f1
 have c2 : ((w1.setCell ⟨w.heap.size, 0, none⟩ (.int .u8 2)).setCell ⟨w.heap.size, 1, none⟩ (.int .u8 0)).cell? ⟨w.heap.size, 2, none⟩ = some (.int .u8 0) := c2
 have f2 : ((w1.setCell ⟨w.heap.size, 0, none⟩ (.int .u8 2)).setCell ⟨w.heap.size, 1, none⟩ (.int .u8 0)).frozen? ⟨w.heap.size, 2, none⟩ = false := f2
 have c3 : (((w1.setCell ⟨w.heap.size, 0, none⟩ (.int .u8 2)).setCell ⟨w.heap.size, 1, none⟩ (.int .u8 0)).setCell ⟨w.heap.size, 2, none⟩ (.int .u8 0)).cell? ⟨w.heap.size, 3, none⟩ = some (.int .u8 0) := c3
 have f3 : (((w1.setCell ⟨w.heap.size, 0, none⟩ (.int .u8 2)).setCell ⟨w.heap.size, 1, none⟩ (.int .u8 0)).setCell ⟨w.heap.size, 2, none⟩ (.int .u8 0)).frozen? ⟨w.heap.size, 3, none⟩ = false := f3
 clear hx hl ho hb h0 h1 h2 h3 hb3 HX
 go_enter Tryz.func116, Tryz.ntmps116
 go_upto_region 2 with fail
 clear hw1
 go_upto_region 3 with fail
 clear c0 c1 c2 c3 f0 f1 f2 f3
 go_wp2_with (at_builtin; refine wpList_ontoB rfl _ _ rfl w.heap.size _ [2, 0, 0, 0, 0, 0, 0, 0] rfl HO.out _ a 56 c tx rfl HX3.out (by simp) (by have := HB.out.size; exact this) ?_; intro v4 w4 HO4 HB4)
 go_ret
 obtain ⟨a4, c4, rfl, _⟩ := HO4.out.formN (n := 64) (by rw [List.length_append, HX3.out.len]; rfl)
 exact ⟨⟨a4, c4, rfl, HO4.out⟩, HB.out.trans HB4.out⟩
end
section
open Go.RowKit

namespace Ftl
theorem uq_perm {l l' : List En} (h : l.Perm l') (hu : Uq l) : Uq l' := (h.map (fun e : En => e.t.p)).nodup_iff.1 hu
theorem uq_left {l l' : List En} (h : Uq (l ++ l')) : Uq l := by
 unfold Uq at *
 rw [List.map_append, List.nodup_append] at h
 exact h.1
theorem getE_snoc {d : List En} {e : En} (h : Uq (d ++ [e])) (q : Nat) : getE (d ++ [e]) q = if q = e.t.p then some e else getE d q := by
 have h2 : ∀ x ∈ d, x.t.p ≠ e.t.p := (uq_app (l2 := []) h).1
 rw [← putE_new (l := d) (e := e) h2]
 exact getE_putE (uq_left h) q
theorem getE_perm {l l' : List En} (h : l.Perm l') (hu : Uq l) (q : Nat) : getE l q = getE l' q := by
 have hu' := uq_perm h hu
 cases hg : getE l' q with
 | none => exact getE_not fun e he => getE_none hg e (h.mem_iff.1 he)
 | some x =>
  obtain ⟨h1, rfl⟩ := getE_mem hg
  exact getE_of hu (h.mem_iff.2 h1)
structure Sl1 (NB m : Nat) (f2 f3 : Fm) (d : List En) : Prop where
 fi : ∃ rest, (d ++ rest).Perm f2.no ∧ Fi NB (m + d.length) [] f3.g (f3.se ++ rest)
 se : ∀ q, getE f3.se q = match getE d q with
  | some e => some e
  | none => getE f2.se q
 go : ∀ q, (getE f3.go q).isSome = if (getE d q).isSome then false else (getE f2.go q).isSome
 gos : ∀ x ∈ f3.go, x ∈ f2.go
 fr : 3 ≤ Gc.count 0 f3.g.l
 eq : f3 = { f2 with g := f3.g, se := f3.se, go := f3.go }
 len : f3.se.length + (f2.no.length - d.length) + (if (getE d 0).isSome = true ∧ (getE f2.se 0).isSome = true then 1 else 0) ≤ f2.se.length + f2.no.length
 C : f3.g.C = f2.g.C
 M : f3.g.M = f2.g.M
 ML : f3.g.ML = f2.g.ML
 gh : f3.g.gh = f2.g.gh
theorem sl1_0 {NB m : Nat} {f2 : Fm} (h : Fi NB m [] f2.g (f2.se ++ f2.no)) (hf : 3 ≤ Gc.count 0 f2.g.l) : Sl1 NB m f2 f2 [] :=
 ⟨⟨f2.no, List.Perm.refl _, h⟩, fun _ => rfl, fun _ => rfl, fun _ h => h, hf, rfl, by rw [if_neg (by rintro ⟨e, _⟩; cases e)]; simp, rfl, rfl, rfl, rfl⟩
section
variable {NB m : Nat} {f2 f3 f4 : Fm} {d : List En} {e e0 : En}
theorem Sl1.not (h : Sl1 NB m f2 f3 d) (hu : Uq f2.no) (he : e ∈ f2.no) (hd : e ∉ d) : Uq (d ++ [e]) ∧ getE d e.t.p = none ∧ ∃ rest', (d ++ e :: rest').Perm f2.no ∧ Fi NB (m + d.length) [] f3.g (f3.se ++ e :: rest') := by
 obtain ⟨rest, h1, h2⟩ := h.fi
 have hm : e ∈ rest := by
  rcases List.mem_append.1 (h1.mem_iff.2 he) with h3 | h3
  ·exact absurd h3 hd
  ·exact h3
 obtain ⟨l1, l2, rfl⟩ := List.append_of_mem hm
 have hp : (l1 ++ e :: l2).Perm (e :: (l1 ++ l2)) := List.perm_middle
 have h3 : (d ++ e :: (l1 ++ l2)).Perm f2.no := (hp.symm.append_left d).trans h1
 have hu2 : Uq (d ++ [e]) := by
  have : Uq ((d ++ [e]) ++ (l1 ++ l2)) := by
   rw [List.append_assoc]
   exact uq_perm h3.symm hu
  exact uq_left this
 exact ⟨hu2, getE_not (uq_app (l2 := []) hu2).1, l1 ++ l2, h3, h2.perm (hp.append_left f3.se)⟩
theorem Sl1.fin (h : Sl1 NB m f2 f3 d) (hu : Uq f2.no) (hus : Uq f3.se) (he : e ∈ f2.no) (hd : e ∉ d) (hfi : ∀ rest', (d ++ e :: rest').Perm f2.no → Fi NB (m + d.length) [] f3.g (f3.se ++ e :: rest') → Fi NB (m + d.length + 1) [] f4.g (putE f3.se e ++ rest')) (hfr : 3 ≤ Gc.count 0 f4.g.l)
  (hse : f4.se = putE f3.se e) (hgo : f4.go = delE f3.go e.t.p) (heq : f4 = { f3 with g := f4.g, se := f4.se, go := f4.go }) (hC : f4.g.C = f3.g.C) (hM : f4.g.M = f3.g.M) (hML : f4.g.ML = f3.g.ML) (hGh : f4.g.gh = f3.g.gh) : Sl1 NB m f2 f4 (d ++ [e]) := by
 obtain ⟨hu2, hn, rest', h1, h2⟩ := h.not hu he hd
 refine ⟨⟨rest', by rw [List.append_assoc]; exact h1, ?_⟩, fun q => ?_, fun q => ?_, fun x hx => ?_, hfr, ?_, ?_, hC.trans h.C, hM.trans h.M, hML.trans h.ML, hGh.trans h.gh⟩
 ·rw [List.length_append, hse]
  exact hfi rest' h1 h2
 ·rw [hse, getE_putE hus, getE_snoc hu2]
  by_cases hq : q = e.t.p
  ·rw [if_pos hq, if_pos hq]
  ·rw [if_neg hq, if_neg hq]; exact h.se q
 ·rw [hgo, getE_delE, getE_snoc hu2]
  by_cases hq : q = e.t.p
  ·rw [if_pos hq, if_pos hq]; rfl
  ·rw [if_neg hq, if_neg hq]; exact h.go q
 ·rw [hgo] at hx
  exact h.gos x (List.mem_filter.1 hx).1
 ·rw [heq]
  conv => lhs; rw [h.eq]
 ·have hlen := h.len
  have hdl : d.length + 1 ≤ f2.no.length := by
   have := h1.length_eq
   rw [List.length_append, List.length_cons] at this
   omega
  have hsp := h.se e.t.p
  rw [hn] at hsp
  have hsp : getE f3.se e.t.p = getE f2.se e.t.p := hsp
  rw [hse, putE_len, List.length_append, List.length_singleton, hsp, getE_snoc hu2]
  by_cases h0 : 0 = e.t.p
  ·rw [if_pos h0]
   rw [← h0] at hn ⊢
   simp only [hn, Option.isSome_none, Bool.false_eq_true, false_and, if_false] at hlen
   simp only [Option.isSome_some, true_and]
   cases hz : (getE f2.se 0).isSome
   ·simp only [Bool.false_eq_true, if_false]
    omega
   ·simp only [if_true]
    omega
  ·rw [if_neg h0]
   split <;> omega
theorem putE_move {se rest' : List En} (hus : Uq se) (he0 : e0 ∈ se) (hp : e0.t.p = e.t.p) : (e0 :: (putE se e ++ rest')).Perm (se ++ e :: rest') := by
 have h1 := putE_perm hus he0 hp
 have h2 : (e0 :: (putE se e ++ rest')).Perm (e :: (se ++ rest')) := h1.append_right rest'
 exact h2.trans List.perm_middle.symm
structure Sl2 (NB m : Nat) (f3 f4 : Fm) (d : List En) : Prop where
 fi : Fi NB (m + d.length) [] f4.g f4.se
 se : ∀ q, getE f4.se q = if (getE d q).isSome then none else getE f3.se q
 fr : 3 ≤ Gc.count 0 f4.g.l
 eq : f4 = { f3 with g := f4.g, se := f4.se }
 C : f4.g.C = f3.g.C
 M : f4.g.M = f3.g.M
 ML : f4.g.ML = f3.g.ML
 gh : f4.g.gh = f3.g.gh
theorem sl2_0 {NB m : Nat} {f3 : Fm} (h : Fi NB m [] f3.g f3.se) (hf : 3 ≤ Gc.count 0 f3.g.l) : Sl2 NB m f3 f3 [] := ⟨h, fun _ => rfl, hf, rfl, rfl, rfl, rfl, rfl⟩
theorem delE_perm {l : List En} (hu : Uq l) (he : e ∈ l) : (e :: delE l e.t.p).Perm l := by
 obtain ⟨l1, l2, rfl⟩ := List.append_of_mem he
 rw [delE_is hu]
 exact List.perm_middle.symm
theorem Sl1.all (h : Sl1 NB m f2 f3 d) (hp : d.Perm f2.no) : Fi NB (m + f2.no.length) [] f3.g f3.se := by
 obtain ⟨rest, h1, h2⟩ := h.fi
 have hl := hp.length_eq
 have hr : rest = [] := List.eq_nil_of_length_eq_zero (by have := h1.length_eq; rw [List.length_append] at this; omega)
 subst hr
 rw [List.append_nil, hl] at h2
 exact h2
theorem Sl1.gk (h : Sl1 NB m f2 f3 d) (hg : ∀ x ∈ f2.go, (getE f2.se x.t.p).isSome = true) : ∀ x ∈ f3.go, (getE f3.se x.t.p).isSome = true := fun x hx => by
 rw [h.se]
 cases hd : getE d x.t.p with
 | none => exact hg x (h.gos x hx)
 | some e => rfl
theorem Sl2.old (h : Sl2 NB m f3 f4 d) (hu : Uq f3.go) (hg : ∀ x ∈ f3.go, (getE f3.se x.t.p).isSome = true) (hr : ∃ rest, (d ++ rest).Perm f3.go) (he : e ∈ f3.go) (hd : e ∉ d) : Uq (d ++ [e]) ∧ ∃ e0, getE f4.se e.t.p = some e0 := by
 obtain ⟨rest, h1⟩ := hr
 have hm : e ∈ rest := by
  rcases List.mem_append.1 (h1.mem_iff.2 he) with h3 | h3
  ·exact absurd h3 hd
  ·exact h3
 obtain ⟨l1, l2, rfl⟩ := List.append_of_mem hm
 have hp : (l1 ++ e :: l2).Perm (e :: (l1 ++ l2)) := List.perm_middle
 have h3 : (d ++ e :: (l1 ++ l2)).Perm f3.go := (hp.symm.append_left d).trans h1
 have hu2 : Uq (d ++ [e]) := by
  have : Uq ((d ++ [e]) ++ (l1 ++ l2)) := by
   rw [List.append_assoc]
   exact uq_perm h3.symm hu
  exact uq_left this
 refine ⟨hu2, ?_⟩
 have hn : getE d e.t.p = none := getE_not (uq_app (l2 := []) hu2).1
 have h4 := h.se e.t.p
 rw [hn] at h4
 have h4 : getE f4.se e.t.p = getE f3.se e.t.p := h4
 have h5 := hg e he
 rw [← h4] at h5
 cases hz : getE f4.se e.t.p with
 | none => rw [hz] at h5; cases h5
 | some x => exact ⟨x, rfl⟩
theorem Sl2.fin {f5 : Fm} (h : Sl2 NB m f3 f4 d) (hu : Uq (d ++ [e])) (hfi : Fi NB (m + d.length + 1) [] f5.g (delE f4.se e.t.p)) (hfr : 3 ≤ Gc.count 0 f5.g.l)
  (hse : f5.se = delE f4.se e.t.p) (heq : f5 = { f4 with g := f5.g, se := f5.se }) (hC : f5.g.C = f4.g.C) (hM : f5.g.M = f4.g.M) (hML : f5.g.ML = f4.g.ML) (hGh : f5.g.gh = f4.g.gh) : Sl2 NB m f3 f5 (d ++ [e]) := by
 refine ⟨?_, fun q => ?_, hfr, ?_, hC.trans h.C, hM.trans h.M, hML.trans h.ML, hGh.trans h.gh⟩
 ·rw [List.length_append, hse]
  exact hfi
 ·rw [hse, getE_delE, getE_snoc hu]
  by_cases hq : q = e.t.p
  ·rw [if_pos hq, if_pos hq]; rfl
  ·rw [if_neg hq, if_neg hq]; exact h.se q
 ·rw [heq]
  conv => lhs; rw [h.eq]
end
end Ftl
end
section
open Go.RowKit Ftl

def sealT (f : Fm) : Tg := ⟨2, 0, f.seq, f.ep⟩
def headL (tx : List UInt8) : List UInt8 := [2, 0, 0, 0, 0, 0, 0, 0] ++ tx
structure Sld (NB : Nat) (f f' : Fm) (tl : List UInt8) : Prop where
 fc : Fc NB f'
 F : f'.F = f.F
 C : f'.g.C = f.g.C
 gh : f'.g.gh = f.g.gh
 no : f'.no = []
 go : f'.go = []
 sq : f'.seq = f.seq + 1
 ep : f'.ep = f.ep + 1
 tx : f'.tx = tl
 se : ∀ q, (getE f'.se q).map sk = if q = 0 then some (sealT f, headL tl) else match (getE f.no q).map sk with
  | some x => some x
  | none => if (getE f.go q).isSome then none else (getE f.se q).map sk
namespace Ftl
theorem nodup_sub {α : Type} : ∀ {l l' : List α}, l.Nodup → (∀ x ∈ l, x ∈ l') → l.length ≤ l'.length
 | [], _, _, _ => Nat.zero_le _
 | x :: t, l', hn, hs => by
  obtain ⟨l1, l2, rfl⟩ := List.append_of_mem (hs x (by simp))
  rw [List.nodup_cons] at hn
  have := nodup_sub (l := t) (l' := l1 ++ l2) hn.2 fun y hy => by
   have h1 := hs y (List.mem_cons_of_mem _ hy)
   have hne : y ≠ x := fun e => hn.1 (e ▸ hy)
   rcases List.mem_append.1 h1 with h2 | h2
   ·exact List.mem_append_left _ h2
   ·rcases List.mem_cons.1 h2 with h3 | h3
    ·exact absurd h3 hne
    ·exact List.mem_append_right _ h3
  rw [List.length_append] at this
  rw [List.length_append, List.length_cons, List.length_cons]
  omega
theorem getE_isSome {l : List En} {p : Nat} : (getE l p).isSome = true ↔ p ∈ l.map fun e => e.t.p := by
 constructor
 ·intro h
  cases hz : getE l p with
  | none => rw [hz] at h; cases h
  | some x => obtain ⟨h2, h3⟩ := getE_mem hz; exact List.mem_map.2 ⟨x, h2, h3⟩
 ·intro h
  obtain ⟨e, he, rfl⟩ := List.mem_map.1 h
  cases hz : getE l e.t.p with
  | none => exact absurd rfl (getE_none hz e he)
  | some x => rfl
theorem uq_len {l l' : List En} (hu : Uq l) (h : ∀ q, (getE l q).isSome = true → (getE l' q).isSome = true) : l.length ≤ l'.length := by
 have := nodup_sub (l := l.map fun e : En => e.t.p) (l' := l'.map fun e : En => e.t.p) hu fun p hp => getE_isSome.1 (h p (getE_isSome.2 hp))
 rw [List.length_map, List.length_map] at this
 exact this
theorem sld {NB m k i : Nat} {f f1 f2 f3 f4 f' : Fm} {g' : Mg} {d d2 : List En} {tx : List UInt8} (h : Fc NB f) (hs : Same f f1)
  (hf2 : f2 = ({ f1 with g := g', seq := f.seq + 1, no := putE f1.no ⟨sealT f, headL tx, k, i⟩ } : Fm)) (hm : m = 100000 * f.seq + 17 * (NB + 1) + 1)
  (h1 : Sl1 NB m f2 f3 d) (hp : d.Perm f2.no) (h2 : Sl2 NB (m + f2.no.length) f3 f4 d2) (hp2 : d2.Perm f3.go)
  (hu1 : Uq f1.no) (hu2 : Uq f2.no) (hu3 : Uq f3.go) (hu4 : Uq f4.se) (hnb : NB ≤ 1000) (hC : g'.C = f.g.C) (hGh : g'.gh = f.g.gh)
  (hcp : (getE f.se 0).isSome = true ∨ (f.se ++ f.no).length + 3 ≤ 8 * (NB - 3))
  (a1 : f'.F = f.F) (a2 : f'.g = f4.g) (a3 : f'.se = f4.se) (a4 : f'.no = []) (a5 : f'.go = []) (a6 : f'.seq = f.seq + 1) (a7 : f'.ep = f.ep + 1) (a8 : f'.tx = tx) (a9 : f'.ov = f.ov) : Sld NB f f' tx := by
 have hn : ∀ q, getE d q = getE f2.no q := getE_perm hp (uq_perm hp.symm hu2)
 have hno : ∀ q, getE f2.no q = if q = 0 then some ⟨sealT f, headL tx, k, i⟩ else getE f1.no q := fun q => by rw [hf2]; exact getE_putE hu1 q
 have hse2 : f2.se = f1.se := by rw [hf2]
 have hgo2 : f2.go = f1.go := by rw [hf2]
 have hgo : ∀ q, (getE f2.go q).isSome = (getE f.go q).isSome := fun q => by
  rw [Bool.eq_iff_iff, getE_isSome, getE_isSome, hgo2, hs.go]
 have hse : ∀ q, (getE f2.se q).map sk = (getE f.se q).map sk := fun q => by rw [hse2]; exact getE_sk hs.se q
 have hno1 : ∀ q, (getE f1.no q).map sk = (getE f.no q).map sk := fun q => getE_sk hs.no q
 have hd2 : ∀ q, getE d2 q = getE f3.go q := getE_perm hp2 (uq_perm hp2.symm hu3)
 have hlen2 : f2.no.length = f1.no.length + 1 := by
  have h0 : getE f1.no 0 = none := by
   have := getE_some hs.no 0
   rw [h.n0] at this
   cases hz : getE f1.no 0 with
   | none => rfl
   | some x => rw [hz] at this; cases this
  rw [hf2]
  show (putE f1.no _).length = _
  rw [putE_new fun x hx => getE_none h0 x hx]
  simp
 have hl43 : f4.se.length ≤ f3.se.length := uq_len hu4 fun q hq => by
  rw [h2.se] at hq
  split at hq
  ·cases hq
  ·exact hq
 have hlg : f3.go.length ≤ f3.se.length := uq_len hu3 fun q hq => by
  rw [h1.go] at hq
  split at hq
  ·cases hq
  ·rename_i hz
   rw [hgo] at hq
   obtain ⟨x, hx, e⟩ := List.mem_map.1 (getE_isSome.1 hq)
   have h5 := h.gk x hx
   rw [e, ← getE_some hs.se, ← hse2] at h5
   rw [h1.se]
   cases getE d q with
   | some y => rfl
   | none => exact h5
 have hl31 := h1.len
 rw [hp.length_eq, hn, hno, if_pos rfl, hlen2, Nat.sub_self, hse2, getE_some hs.se] at hl31
 have hlE := hs.lenE
 rw [List.length_append] at hlE
 have hcap := h.cap
 have hd2l := hp2.length_eq
 refine ⟨⟨?_, ?_, ?_, a9.trans h.ov, ?_, ?_, ?_, ?_⟩, a1, ?_, ?_, a4, a5, a6, a7, a8, fun q => ?_⟩
 ·rw [a2, a3, a4, a6, List.append_nil]
  refine h2.fi.le ?_
  split at hl31 <;> omega
 ·rw [a2]; exact h2.fr
 ·rw [a3, a4, List.append_nil]
  rcases hcp with e | e
  ·rw [if_pos ⟨rfl, e⟩] at hl31
   omega
  ·split at hl31 <;> omega
 ·rw [a6, a7]; have := h.sq; omega
 ·rw [a5]; intro x hx; cases hx
 ·rw [a4]; rfl
 ·rw [a5]; rfl
 ·rw [a2, h2.C, h1.C, hf2]; exact hC
 ·rw [a2, h2.gh, h1.gh, hf2]; exact hGh
 ·rw [a3, h2.se, hd2, h1.go, hn, hno, h1.se, hn, hno]
  by_cases hq : q = 0
  ·rw [if_pos hq, if_pos hq]
   rfl
  ·rw [if_neg hq, if_neg hq]
   have h6 := hno1 q
   rw [← h6]
   cases hz : getE f1.no q with
   | some x => rfl
   | none =>
    show Option.map sk (if (getE f2.go q).isSome = true then none else getE f2.se q) = if (getE f.go q).isSome = true then none else (getE f.se q).map sk
    rw [hgo]
    split
    ·rfl
    ·exact hse q
end Ftl
end
section
open Go.RowKit Go.Maps Go.ChangeMaps

section
variable {NB B : Nat} {R : Nat → Prop} {w w1 w2 : World} {f f' : Fm}
theorem FtM.swap (h : FtM NB B R w f) (hb : Below w.heap.size w w1) (hk : Kq (fun q => q = f.F) w1 w2)
  (hF : Blk w2 f.F 138 (fmA NB f')) (h1 : f'.F = f.F) (h2 : f'.SE = f.SE) (h5 : f'.LA = f.LA) (h6 : f'.g = f.g) (h7 : f'.se = f.se)
  (hN : (f'.NO = f.NO ∧ f'.no = f.no) ∨ (w.heap.size ≤ f'.NO ∧ MapE w1 f'.NO f'.no))
  (hG : (f'.GO = f.GO ∧ f'.go = f.go) ∨ (w.heap.size ≤ f'.GO ∧ MapE w1 f'.GO f'.go))
  (hT : (f'.tv = f.tv ∧ f'.tx = f.tx) ∨ Own byteV 5 w1 w.heap.size f'.tv f'.tx)
  (hne : f'.NO ≠ f'.GO) (hnt : ∀ q, f'.tv.ownBlock = some q → q ≠ f'.NO ∧ q ≠ f'.GO) : FtR NB B R w w2 f' := by
 have hB := h.base
 obtain ⟨S, a1, a2, a3⟩ := h
 have hs1 := hb.size
 have hs2 := hk.size
 have hkw : Kq (fun q => q = f.F) w w2 := (Kq.of hb).trans hk
 have nd := a1.nd
 simp only [List.nodup_cons, List.mem_cons, List.not_mem_nil, or_false, not_or] at nd
 obtain ⟨⟨n1, n2, n3, n4⟩, ⟨n5, n6, n7⟩, ⟨n8, n9⟩, n10, _⟩ := nd
 have hlt : ∀ q, Hb f q → q < w.heap.size := fun q hq => a1.hi hq
 have lF := hlt f.F (.inl rfl)
 have lS := hlt f.SE (.inr (.inl rfl))
 have lN := hlt f.NO (.inr (.inr (.inl rfl)))
 have lG := hlt f.GO (.inr (.inr (.inr (.inl rfl))))
 have lL := hlt f.LA (.inr (.inr (.inr (.inr (.inl rfl)))))
 have hold : ∀ q, q < w.heap.size → q ≠ f.F → w2.heap[q]? = w.heap[q]? := fun q hq e => hkw.block q hq e
 have hNF : f'.NO ≠ f.F ∧ f'.NO ≠ f.SE ∧ f'.NO ≠ f.LA := by
  rcases hN with ⟨e, _⟩ | ⟨e, _⟩
  ·rw [e]; exact ⟨Ne.symm n2, Ne.symm n5, n9⟩
  ·omega
 have hGF : f'.GO ≠ f.F ∧ f'.GO ≠ f.SE ∧ f'.GO ≠ f.LA := by
  rcases hG with ⟨e, _⟩ | ⟨e, _⟩
  ·rw [e]; exact ⟨Ne.symm n3, Ne.symm n6, n10⟩
  ·omega
 have hTF : ∀ q, f'.tv.ownBlock = some q → (f.tv.ownBlock = some q ∨ w.heap.size ≤ q) ∧ q ≠ f.F ∧ q ≠ f.SE ∧ q ≠ f.LA := fun q hq => by
  rcases hT with ⟨e, _⟩ | e
  ·rw [e] at hq
   have := a1.nt q hq
   simp only [List.mem_cons, List.not_mem_nil, or_false, not_or] at this
   exact ⟨.inl hq, this.1, this.2.1, this.2.2.2.2⟩
  ·have := (e.blockLt q hq).1
   exact ⟨.inr this, by omega⟩
 have hH : ∀ q, Hb f' q → Hb f q ∨ w.heap.size ≤ q := fun q hq => by
  rcases hq with rfl | rfl | rfl | rfl | rfl | hq
  ·exact .inl (.inl h1)
  ·exact .inl (.inr (.inl h2))
  ·rcases hN with ⟨e, _⟩ | ⟨e, _⟩
   ·exact .inl (.inr (.inr (.inl e)))
   ·exact .inr e
  ·rcases hG with ⟨e, _⟩ | ⟨e, _⟩
   ·exact .inl (.inr (.inr (.inr (.inl e))))
   ·exact .inr e
  ·exact .inl (.inr (.inr (.inr (.inr (.inl h5)))))
  ·rcases (hTF q hq).1 with e | e
   ·exact .inl (.inr (.inr (.inr (.inr (.inr e)))))
   ·exact .inr e
 have hc : FtC NB B S w2 f' := by
  refine ⟨by rw [h1]; exact hF, ?_, ?_, ?_, ?_, ?_, ?_, ?_, ?_, ?_, ?_⟩
  ·rw [h2, h7]; exact a1.hS.same (hold _ lS (Ne.symm n1))
  ·rcases hN with ⟨e, e'⟩ | ⟨_, e⟩
   ·rw [e, e']; exact a1.hN.same (hold _ lN (Ne.symm n2))
   ·exact e.same (hk.block _ e.lt hNF.1)
  ·rcases hG with ⟨e, e'⟩ | ⟨_, e⟩
   ·rw [e, e']; exact a1.hG.same (hold _ lG (Ne.symm n3))
   ·exact e.same (hk.block _ e.lt hGF.1)
  ·rw [h5]; exact a1.hL.kq hkw fun q hq => by obtain rfl := own_of _ _ _ _ hq; exact Ne.symm n4
  ·rcases hT with ⟨e, e'⟩ | e
   ·rw [e, e']; exact a1.hT.kq hkw fun q hq e2 => a1.nt q hq (by rw [e2]; simp)
   ·exact .of (e.kq hk fun q hq => (hTF q hq).2.1)
  ·rw [h6]; exact a1.hg.kq hkw fun q hq e => a1.ns _ (.inl rfl) (e ▸ hq)
  ·rw [h1, h2, h5]
   simp only [List.nodup_cons, List.mem_cons, List.not_mem_nil, or_false, not_or]
   exact ⟨⟨n1, Ne.symm hNF.1, Ne.symm hGF.1, n4⟩, ⟨Ne.symm hNF.2.1, Ne.symm hGF.2.1, n7⟩, ⟨hne, hNF.2.2⟩, hGF.2.2, by simp, List.nodup_nil⟩
  ·intro q hq
   rw [h1, h2, h5]
   simp only [List.mem_cons, List.not_mem_nil, or_false, not_or]
   exact ⟨(hTF q hq).2.1, (hTF q hq).2.2.1, (hnt q hq).1, (hnt q hq).2, (hTF q hq).2.2.2⟩
  ·intro q hq hs
   rw [h6] at hs
   rcases hH q hq with e | e
   ·exact a1.ns q e hs
   ·have := a1.sm_lt hs; omega
  ·intro q hq
   rcases hH q hq with e | e
   ·exact a1.lo q e
   ·omega
 refine ⟨⟨S, hc, fun q hq => ?_, fun q hq => ?_⟩, hkw.mono fun q e => e ▸ a2 _ (.inl (.inl rfl))⟩
 ·rcases hq with hq | hq
  ·rcases hH q hq with e | e
   ·exact .inl (a2 q (.inl e))
   ·exact .inr ⟨e, hc.hi hq⟩
  ·rw [h6] at hq
   exact .inl (a2 q (.inr hq))
 ·rcases hq with e | e
  ·have := a3 q e; omega
  ·omega
end
end
section
open Go.RowKit Ftl

theorem fmBools (u : World) : (Instr.makeSlice 133 (.int .i64 16) (.int .i64 16)).run Tryz.prog u = .ok (.slice (some ⟨u.heap.size, 0, none⟩) 16 16) (u.alloc (.cells ((List.replicate 16 false).map bolV).toArray 4)) := by
 kernel_rfl
theorem fmInts (u : World) : (Instr.makeSlice 36 (.int .i64 16) (.int .i64 16)).run Tryz.prog u = .ok (.slice (some ⟨u.heap.size, 0, none⟩) 16 16) (u.alloc (.cells ((List.replicate 16 0).map naV).toArray 3)) := by
 kernel_rfl
def truB (k : Nat) : List Bool := List.replicate k true ++ List.replicate (16 - k) false
theorem truB_set {k : Nat} (h : k < 16) : (truB k).set k true = truB (k + 1) := by
 unfold truB
 rw [List.set_append_right _ _ (by simp), List.length_replicate, Nat.sub_self, show 16 - k = (16 - (k + 1)) + 1 by omega, List.replicate_succ, List.set_cons_zero, List.replicate_succ', List.append_assoc]
 rfl
theorem truB_len {k : Nat} (h : k ≤ 16) : (truB k).length = 16 := by unfold truB; simp; omega
def once (k : Nat) (j : Nat) : Pb := if j < k then fresh 1 else fresh 0
theorem once_upd (k : Nat) : upd (once k) k (fresh 1) = once (k + 1) := by
 funext j
 unfold upd once
 by_cases h : j = k
 ·rw [if_pos h, if_pos (by omega)]
 ·rw [if_neg h]
  by_cases h2 : j < k
  ·rw [if_pos h2, if_pos (by omega)]
  ·rw [if_neg h2, if_neg (by omega)]
theorem once_zero : once 0 = fun _ => fresh 0 := by
 funext j
 exact if_neg (Nat.not_lt_zero _)
theorem once_at (k : Nat) : (once k k).bad = false ∧ (once k k).wear = 0 := by
 unfold once
 rw [if_neg (Nat.lt_irrefl _)]
 exact ⟨rfl, rfl⟩
theorem once_bad (k j : Nat) : (once k j).bad = false := by
 unfold once
 split <;> rfl
theorem once_wear (k j : Nat) : (once k j).wear ≤ 1 := by
 unfold once
 split
 ·exact Nat.le_refl 1
 ·exact Nat.zero_le 1
theorem openL_once : openL (once 16) (truB 16) (List.replicate 16 0) 16 = List.replicate 16 ⟨0, 0, 1, 0⟩ := by
 apply List.ext_getElem
 ·simp [openL]
 ·intro i h1 h2
  have hi : i < 16 := by rw [List.length_replicate] at h2; exact h2
  simp only [openL, List.getElem_map, List.getElem_range, List.getElem_replicate]
  unfold openB once truB
  rw [if_pos hi]
  have e : (List.replicate 16 true ++ List.replicate (16 - 16) false).getD i false = true := by
   rw [List.getD_eq_getElem?_getD, List.getElem?_append_left (by rw [List.length_replicate]; exact hi), List.getElem?_replicate, if_pos hi]
   rfl
  rw [e]
  rfl
def fmG (M ML C BL cap : Nat) (ps : Nat → Nat) (P : List UInt8 → Prop) : Mg := ⟨M, ML, C, BL, cap, ps, once 16, List.replicate 16 ⟨0, 0, 1, 0⟩, -1, 2, 0, false, P⟩
theorem fmG_of {M ML C BL cap : Nat} {ps : Nat → Nat} {P : List UInt8 → Prop} : (⟨M, ML, C, BL, cap, ps, once 16, openL (once 16) (truB 16) (List.replicate 16 0) 16, -1, 2, 0, decide (4 < (Gc.greatest (openL (once 16) (truB 16) (List.replicate 16 0) 16) : Int) - Gc.least (openL (once 16) (truB 16) (List.replicate 16 0) 16)), P⟩ : Mg) = fmG M ML C BL cap ps P := by
 rw [openL_once]
 rfl
theorem fmG_inv (M ML C BL cap : Nat) (ps : Nat → Nat) (P : List UInt8 → Prop) : Wears.Inv 16 (fmG M ML C BL cap ps P) [] 100000 := by
 have hat : ∀ k, k < 16 → Gc.at_ (List.replicate 16 (⟨0, 0, 1, 0⟩ : Bk)) k = ⟨0, 0, 1, 0⟩ := fun k hk => by
  rw [Gc.at_, List.getD_eq_getElem?_getD, List.getElem?_replicate, if_pos hk]
  rfl
 refine ⟨by simp [fmG], fun k hk => ?_, fun i j hi hj => ?_, .inl rfl, rfl, by simp, by simp⟩
 ·unfold fmG
  dsimp only
  rw [hat k hk]
  unfold once
  rw [if_pos hk]
  exact ⟨by decide, rfl, by decide, by decide, fun e => (by cases e), fun _ => ⟨rfl, rfl⟩, fun e => (by cases e), fun e => (by cases e), rfl, by decide, rfl, rfl⟩
 ·unfold fmG
  dsimp only
  rw [hat i hi, hat j hj]
  omega
def fm0 (F SE NO GO LA : Nat) (g : Mg) : Fm := ⟨F, SE, NO, GO, LA, g, [], [], [], 1, 1, .slice none 0 0, [], false⟩
theorem fm0_fc (F SE NO GO LA M ML C BL cap : Nat) (ps : Nat → Nat) (P : List UInt8 → Prop) : Fc 16 (fm0 F SE NO GO LA (fmG M ML C BL cap ps P)) := by
 refine ⟨⟨⟨by decide, by decide⟩, fmG_inv M ML C BL cap ps P, fun e h => (by cases h), fun e h => (by cases h), rfl, rfl, fun k i L hk hi h => ?_, fun k hk i hi => ?_⟩, ?_, (show (0 : Nat) + 2 ≤ 8 * (16 - 3) by decide), rfl, ⟨Nat.le_refl _, Nat.le_refl _⟩, fun x h => (by cases h), rfl, rfl⟩
 ·have h1 : (once 16 k).pgs i = some L := h
  rw [once, if_pos hk] at h1
  cases h1
 ·show (once 16 k).pgs i = none ↔ (once 16 k).nx ≤ i
  rw [once, if_pos hk]
  exact ⟨fun _ => Nat.zero_le _, fun _ => rfl⟩
 ·show 3 ≤ Gc.count 0 (List.replicate 16 (⟨0, 0, 1, 0⟩ : Bk))
  decide
structure Fmd (f : Fm) (tx : List UInt8) : Prop where
 fc : Fc 16 f
 no : f.no = []
 go : f.go = []
 sq : f.seq = 2
 ep : f.ep = 2
 tv : f.tx = tx
 se : ∀ q, (getE f.se q).map sk = if q = 0 then some ((⟨2, 0, 1, 1⟩ : Tg), headL tx) else none
def gsF (f : Fm) (P : List UInt8 → Prop) : Fm := { f with g := { f.g with gh := P } }
theorem Ftl.Fc.ghost {NB : Nat} {f : Fm} {P : List UInt8 → Prop} (h : Fc NB f) (hP : ∀ L, f.g.gh L → P L) : Fc NB (gsF f P) := ⟨h.fi.ghost hP, h.fr, h.cap, h.ov, h.sq, h.gk, h.n0, h.g0⟩
theorem Fmd.ghost {f : Fm} {tx : List UInt8} {P : List UInt8 → Prop} (h : Fmd f tx) (hP : ∀ L, f.g.gh L → P L) : Fmd (gsF f P) tx := ⟨h.fc.ghost hP, h.no, h.go, h.sq, h.ep, h.tv, h.se⟩
theorem fmd {F SE NO GO LA M ML C BL cap : Nat} {ps : Nat → Nat} {P : List UInt8 → Prop} {f' : Fm} {tx : List UInt8} (h : Sld 16 (fm0 F SE NO GO LA (fmG M ML C BL cap ps P)) f' tx) : Fmd f' tx ∧ f'.F = F ∧ f'.g.C = C ∧ f'.g.gh = P := by
 refine ⟨⟨h.fc, h.no, h.go, h.sq, h.ep, h.tx, fun q => ?_⟩, h.F, h.C, h.gh⟩
 rw [h.se]
 rfl
section
variable {NB B : Nat} {S T : Nat → Prop} {w : World} {f : Fm}
theorem ft_made (hF : Blk w f.F 138 (fmA NB f)) (hS : MapE w f.SE f.se) (hN : MapE w f.NO f.no) (hG : MapE w f.GO f.go) (hL : Own bolV 4 w 0 (.slice (some ⟨f.LA, 0, none⟩) NB NB) (List.replicate NB false)) (hv : f.tv = .slice none 0 0) (hx : f.tx = []) (hg : MgM NB B S w f.g)
  (nd : [f.F, f.SE, f.NO, f.GO, f.LA].Nodup) (ns : ∀ q, q ∈ [f.F, f.SE, f.NO, f.GO, f.LA] → ¬ Sm f.g S q ∧ B ≤ q ∧ T q) (hT : ∀ q, Sm f.g S q → T q) (hb : ∀ q, T q → B ≤ q ∧ q < w.heap.size) : FtM NB B T w f := by
 have hq : ∀ q, Hb f q → q ∈ [f.F, f.SE, f.NO, f.GO, f.LA] := fun q hq => by
  rcases hq with e | e | e | e | e | e
  ·rw [e]; simp
  ·rw [e]; simp
  ·rw [e]; simp
  ·rw [e]; simp
  ·rw [e]; simp
  ·rw [hv] at e; cases e
 refine ⟨S, ⟨hF, hS, hN, hG, hL, ?_, hg, nd, fun q e => ?_, fun q h => (ns q (hq q h)).1, fun q h => (ns q (hq q h)).2.1⟩, fun q h => ?_, hb⟩
 ·rw [hv, hx]; exact .of (B := 0) (Own.nil _ _)
 ·rw [hv] at e; cases e
 ·rcases h with h | h
  ·exact (ns q (hq q h)).2.2
  ·exact hT q h
end
end
end Go.Proofs.YtcppkaphlcflgaaGreat
