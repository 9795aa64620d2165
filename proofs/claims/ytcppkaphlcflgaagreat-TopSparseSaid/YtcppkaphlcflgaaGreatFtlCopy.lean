import Derived.Test.YtcppkaphlcflgaaGreatGcAct
import Derived.Test.YtcppkaphlcflgaaGreatFtlMem
import Derived.Test.YtcppkaphlcflgaaGreatSlClone
import Derived.Test.YtcppkaphlcflgaaGreatIterMany
import Derived.Deep.QuietTactic
import Derived.BigQuiet
namespace Go.Proofs.YtcppkaphlcflgaaGreat
open Go.RowKit

namespace Ftl
def Stuck (l : List Bk) : Prop := ∀ i, i < l.length → ¬ ((Gc.at_ l i).st = 3 ∧ (Gc.at_ l i).wear < Gc.least l + 4) ∧ ¬ ((Gc.at_ l i).st = 2 ∧ (Gc.at_ l i).live < 8 ∧ (Gc.at_ l i).wear < Gc.least l + 4)
theorem p2_iff {x : Bk} : Gc.p2 true x = true ↔ x.st = 2 := by
 unfold Gc.p2
 rw [Bool.true_and, beq_iff_eq]
 omega
theorem next_is {l : List Bk} (hn : 0 < l.length) (hst : ∀ i, i < l.length → (Gc.at_ l i).st ≤ 3 ∧ (Gc.at_ l i).st ≠ 1) :
  ∃ (a : Int) (k : Nat), Gc.next l 8 true = (a, (k : Int)) ∧ k < l.length ∧
   (a = 1 ∧ (Gc.at_ l k).st = 3 ∧ (Gc.at_ l k).wear < Gc.least l + 4 ∨
    a = 2 ∧ (Gc.at_ l k).st = 2 ∧ (Gc.at_ l k).live < 8 ∧ (Gc.at_ l k).wear < Gc.least l + 4 ∨
    Stuck l ∧ (Gc.at_ l k).wear = Gc.least l ∧ (a = 3 ∧ (Gc.at_ l k).st = 0 ∨ a = 2 ∧ (Gc.at_ l k).st = 2 ∧ 8 ≤ (Gc.at_ l k).live)) := by
 unfold Gc.next
 cases h3 : Gc.best (Gc.p3 (Gc.least l)) Gc.worn l l.length with
 | some k =>
  obtain ⟨a, b⟩ := Gc.best_some h3
  unfold Gc.p3 at b
  rw [Bool.and_eq_true, Gc.stale_iff, Gc.may_iff] at b
  exact ⟨1, k, rfl, a, .inl ⟨rfl, b.1, b.2.2⟩⟩
 | none =>
  have n3 := Gc.best_none h3
  cases h4 : Gc.best (Gc.p4 true (Gc.least l) 8) Gc.emptier l l.length with
  | some k =>
   obtain ⟨a, b⟩ := Gc.best_some h4
   unfold Gc.p4 at b
   rw [Bool.and_eq_true, Bool.and_eq_true, p2_iff, Gc.may_iff, decide_eq_true_eq] at b
   exact ⟨2, k, rfl, a, .inr (.inl ⟨rfl, b.1.1, b.2, b.1.2.2⟩)⟩
  | none =>
   have n4 := Gc.best_none h4
   have hs : Stuck l := fun i hi => by
    constructor
    ·rintro ⟨e1, e2⟩
     have := n3 i hi
     unfold Gc.p3 at this
     rw [Gc.stale_iff.2 e1, Gc.may_iff.2 ⟨by omega, e2⟩] at this
     cases this
    ·rintro ⟨e1, e2, e3⟩
     have := n4 i hi
     unfold Gc.p4 at this
     rw [p2_iff.2 e1, Gc.may_iff.2 ⟨by omega, e3⟩, decide_eq_true e2] at this
     cases this
   cases h5 : Gc.best (Gc.p5 (Gc.least l)) Gc.ff l l.length with
   | some k =>
    obtain ⟨a, b⟩ := Gc.best_some h5
    unfold Gc.p5 at b
    simp only [Bool.and_eq_true, Bool.or_eq_true, beq_iff_eq] at b
    have := (hst k a).2
    exact ⟨3, k, rfl, a, .inr (.inr ⟨hs, by omega, .inl ⟨rfl, by omega⟩⟩)⟩
   | none =>
    have n5 := Gc.best_none h5
    obtain ⟨j, j1, j2, j3⟩ := Gc.least_is hn (Gc.good_iff.2 (by have := (hst 0 hn).1; omega))
    have hj := hst j j1
    have hj5 := n5 j j1
    have hj2 : (Gc.at_ l j).st = 2 := by
     have h0 : (Gc.at_ l j).st ≠ 0 := fun e => by
      unfold Gc.p5 at hj5
      rw [show (((Gc.at_ l j).wear : Int) == (Gc.least l : Int)) = true by rw [beq_iff_eq]; omega, show (((Gc.at_ l j).st : Int) == 0) = true by rw [beq_iff_eq]; omega] at hj5
      cases hj5
     have h3 := (hs j j1).1
     omega
    cases h6 : Gc.best (Gc.p6 true (Gc.least l)) Gc.emptier l l.length with
    | some k =>
     obtain ⟨a, b⟩ := Gc.best_some h6
     unfold Gc.p6 at b
     rw [Bool.and_eq_true, p2_iff, beq_iff_eq] at b
     have := (hs k a).2
     exact ⟨2, k, rfl, a, .inr (.inr ⟨hs, by omega, .inr ⟨rfl, b.1, by omega⟩⟩)⟩
    | none =>
     have n6 := Gc.best_none h6 j j1
     unfold Gc.p6 at n6
     rw [p2_iff.2 hj2, show (((Gc.at_ l j).wear : Int) == (Gc.least l : Int)) = true by rw [beq_iff_eq]; omega] at n6
     cases n6
end Ftl
end Go.Proofs.YtcppkaphlcflgaaGreat
namespace Go.Proofs.YtcppkaphlcflgaaGreat
open Go.RowKit

namespace Ftl
theorem sumC_drop {c d : Nat → Nat} {k : Nat} : ∀ {n : Nat}, k < n → (∀ i, i < n → i ≠ k → c i = d i) → c k = 1 → d k = 0 → Wears.sumC d n + 1 = Wears.sumC c n := by
 intro n
 induction n with
 | zero => intro h; omega
 | succ m ih =>
  intro hk he h1 h0
  show Wears.sumC d m + d m + 1 = Wears.sumC c m + c m
  by_cases e : k = m
  ·subst e
   rw [Wears.sumC_congr (c := c) (d := d) fun i hi => he i (by omega) (by omega)]
   omega
  ·have := ih (by omega) (fun i hi hn => he i (by omega) hn) h1 h0
   have := he m (by omega) (Ne.symm e)
   omega
def atW (NB : Nat) (l : List Bk) (v : Nat) : Nat := Wears.sumC (fun i => if (Gc.at_ l i).wear = v then 1 else 0) NB
theorem atW_le (NB : Nat) (l : List Bk) (v : Nat) : atW NB l v ≤ NB := by
 have := Wears.sumC_le (c := fun i => if (Gc.at_ l i).wear = v then 1 else 0) (k := NB) (b := 1) fun i _ => by split <;> omega
 simpa only [atW, Nat.mul_one] using this
theorem sumC_pos {c : Nat → Nat} {k : Nat} : ∀ {n : Nat}, k < n → 0 < c k → 0 < Wears.sumC c n := by
 intro n
 induction n with
 | zero => intro h; omega
 | succ m ih =>
  intro hk hp
  show 0 < Wears.sumC c m + c m
  by_cases e : k = m
  ·subst e; omega
  ·have := ih (by omega) hp; omega
structure Lvl (NB : Nat) (l : List Bk) (X L t : Nat) : Prop where
 hX : X < NB
 st : (Gc.at_ l X).st = 3 ∨ (Gc.at_ l X).st = 2 ∧ (Gc.at_ l X).live < 8
 we : (Gc.at_ l X).wear = L + 4
 ge : ∀ i, i < NB → L ≤ (Gc.at_ l i).wear
 ct : atW NB l L + t ≤ NB
theorem Lvl.stuck {NB : Nat} {l : List Bk} {X L t : Nat} (h : Lvl NB l X L t) (hl : l.length = NB) (hN : 0 < NB) (hs : Stuck l) (hst : ∀ i, i < NB → (Gc.at_ l i).st ≤ 3) : Gc.least l = L ∧ t < NB := by
 have h1 := hs X (by rw [hl]; exact h.hX)
 have h2 := h.we
 have h3 := h.st
 have hle : Gc.least l ≤ L := by
  rcases Nat.lt_or_ge L (Gc.least l) with hlt | hge
  ·exfalso
   rcases h3 with h3 | ⟨h3, h4⟩
   ·exact h1.1 ⟨h3, by omega⟩
   ·exact h1.2 ⟨h3, h4, by omega⟩
  ·exact hge
 obtain ⟨j, j1, j2, j3⟩ := Gc.least_is (l := l) (i := 0) (by omega) (Gc.good_iff.2 (by have := hst 0 (by omega); omega))
 rw [hl] at j1
 have hge := h.ge j j1
 have e : Gc.least l = L := by omega
 refine ⟨e, ?_⟩
 have hp : 0 < atW NB l L := sumC_pos (k := j) j1 (by show 0 < if _ then 1 else 0; rw [if_pos (by omega)]; omega)
 have := h.ct
 omega
theorem Lvl.step {NB : Nat} {l l' : List Bk} {X L t k : Nat} (h : Lvl NB l X L t) (hk : k < NB) (hw : (Gc.at_ l k).wear = L) (hw' : (Gc.at_ l' k).wear = L + 1) (ho : ∀ i, i < NB → i ≠ k → (Gc.at_ l' i).wear = (Gc.at_ l i).wear) (hX : Gc.at_ l' X = Gc.at_ l X) : Lvl NB l' X L (t + 1) := by
 refine ⟨h.hX, by rw [hX]; exact h.st, by rw [hX]; exact h.we, fun i hi => ?_, ?_⟩
 ·by_cases e : i = k
  ·subst e; omega
  ·rw [ho i hi e]; exact h.ge i hi
 ·have := sumC_drop (c := fun i => if (Gc.at_ l i).wear = L then 1 else 0) (d := fun i => if (Gc.at_ l' i).wear = L then 1 else 0) (n := NB) hk (fun i hi hn => by show (if _ then 1 else 0) = if _ then 1 else 0; rw [ho i hi hn]) (if_pos hw) (if_neg (by omega))
  have h2 := h.ct
  unfold atW at *
  omega
theorem lvl0 {NB : Nat} {l : List Bk} (hl : l.length = NB) (hN : 0 < NB) (hs : Stuck l) (hst : ∀ i, i < NB → (Gc.at_ l i).st ≤ 3 ∧ (Gc.at_ l i).st ≠ 1) (hgap : ∀ i j, i < NB → j < NB → (Gc.at_ l i).wear ≤ (Gc.at_ l j).wear + 4) (hX : ∃ X, X < NB ∧ ((Gc.at_ l X).st = 3 ∨ (Gc.at_ l X).st = 2 ∧ (Gc.at_ l X).live < 8)) : ∃ X, Lvl NB l X (Gc.least l) 0 := by
 obtain ⟨X, x1, x2⟩ := hX
 have hg : ∀ i, i < NB → Gc.good (Gc.at_ l i) = true := fun i hi => Gc.good_iff.2 (by have := (hst i hi).1; omega)
 obtain ⟨j, j1, j2, j3⟩ := Gc.least_is (l := l) (i := 0) (by omega) (hg 0 (by omega))
 rw [hl] at j1
 have h1 := hs X (by rw [hl]; exact x1)
 have h2 := hgap X j x1 j1
 refine ⟨X, x1, x2, ?_, fun i hi => Gc.least_le (by rw [hl]; exact hi) (hg i hi), by have := atW_le NB l (Gc.least l); omega⟩
 rcases x2 with x2 | ⟨x2, x3⟩
 ·have := h1.1; omega
 ·have := h1.2; omega
end Ftl
end Go.Proofs.YtcppkaphlcflgaaGreat
namespace Go.Proofs.YtcppkaphlcflgaaGreat
open Go.RowKit

namespace Wears
theorem Inv.perm {NB : Nat} {g : Mg} {h1 h2 : List Nat} {n : Nat} (h : Inv NB g h1 n) (hp : h1.Perm h2) : Inv NB g h2 n :=
 ⟨h.len, fun k hk => by rw [← hp.count_eq]; exact h.bk k hk, h.gap, h.opn, h.even, fun x hx => h.hm x (hp.mem_iff.2 hx), by rw [← hp.length_eq]; exact h.hl⟩
theorem Inv.le {NB : Nat} {g : Mg} {held : List Nat} {n m : Nat} (h : Inv NB g held n) (hn : n ≤ m) : Inv NB g held m :=
 ⟨h.len, fun k hk => let b := h.bk k hk; ⟨b.st, b.lv, b.nx, b.l8, b.op, b.fr, b.fu, b.sl, b.we, by have := b.wn; omega, b.bad, b.brk⟩, h.gap, h.opn, h.even, h.hm, by have := h.hl; omega⟩
theorem Inv.drop1 {NB : Nat} {g : Mg} {k n : Nat} {l : List Nat} (h : Inv NB g (k :: l) n) : Inv NB { g with l := g.l.set k (dropB (Gc.at_ g.l k)) } l (n + 1) := by
 have h0 : 0 < (k :: l).length := Nat.succ_pos _
 refine (h.drop h0).perm (List.perm_iff_count.2 fun q => ?_)
 have := count_takeOut (q := q) h0
 rw [List.count_cons] at this
 simp only [List.getElem_cons_zero, beq_iff_eq] at this
 omega
end Wears
namespace Gc
theorem count_set (s : Nat) {l : List Bk} {k : Nat} (y : Bk) (hk : k < l.length) : count s (l.set k y) + (if (at_ l k).st = s then 1 else 0) = count s l + (if y.st = s then 1 else 0) := by
 unfold count
 induction l generalizing k with
 | nil => simp at hk
 | cons x t ih =>
  cases k with
  | zero =>
   rw [List.set_cons_zero, List.filter_cons, List.filter_cons]
   have e : at_ (x :: t) 0 = x := rfl
   rw [e]
   by_cases h1 : x.st = s <;> by_cases h2 : y.st = s <;> simp [h1, h2]
  | succ k =>
   have := ih (k := k) (by simpa using hk)
   rw [List.set_cons_succ, List.filter_cons, List.filter_cons]
   have e : at_ (x :: t) (k + 1) = at_ t k := rfl
   rw [e]
   by_cases h1 : x.st = s
   ·simp only [h1, decide_true, if_true, List.length_cons]; omega
   ·simp only [h1, decide_false, Bool.false_eq_true, if_false]; exact this
theorem count_sum (s : Nat) (l : List Bk) : count s l = Wears.sumC (fun i => if (at_ l i).st = s then 1 else 0) l.length := by
 have h : ∀ k, k ≤ l.length → count s (l.take k) = Wears.sumC (fun i => if (at_ l i).st = s then 1 else 0) k := by
  intro k
  induction k with
  | zero => intro _; rfl
  | succ k ih =>
   intro hk
   rw [count_snoc s l (by omega), ih (by omega)]
   rfl
 have := h l.length (Nat.le_refl _)
 rw [List.take_length] at this
 exact this
end Gc
namespace Ftl
theorem sumC_add (c d : Nat → Nat) (k : Nat) : Wears.sumC (fun i => c i + d i) k = Wears.sumC c k + Wears.sumC d k := by
 induction k with
 | zero => rfl
 | succ k ih => show Wears.sumC (fun i => c i + d i) k + (c k + d k) = Wears.sumC c k + c k + (Wears.sumC d k + d k); rw [ih]; omega
theorem sumC_mul (m : Nat) (c : Nat → Nat) (k : Nat) : Wears.sumC (fun i => m * c i) k = m * Wears.sumC c k := by
 induction k with
 | zero => rfl
 | succ k ih => show Wears.sumC (fun i => m * c i) k + m * c k = m * (Wears.sumC c k + c k); rw [ih, Nat.mul_add]
theorem sumC_const (m k : Nat) : Wears.sumC (fun _ => m) k = k * m := by
 induction k with
 | zero => simp [Wears.sumC]
 | succ k ih => show Wears.sumC (fun _ => m) k + m = _; rw [ih, Nat.succ_mul]
structure Gp (g : Mg) (e : En) : Prop where
 pg : (g.bl e.b).pgs e.i = some (Tg.page e.t e.d)
 nx : e.i < (g.bl e.b).nx
 i8 : e.i < 8
structure Oe (e : En) : Prop where
 rt : Tg.Right e.t
 len : e.d.length = 64
theorem Oe.key {e : En} (h : Oe e) : e.t.p < 4294967296 := by have := h.rt.2.1; omega
theorem Oe.plen {e : En} (h : Oe e) : (Tg.page e.t e.d).length = 96 := by rw [Tg.page_len, h.len]
structure Fi (NB n : Nat) (x : List Nat) (g : Mg) (E : List En) : Prop where
 nb : 5 ≤ NB ∧ NB ≤ 1000
 w : Wears.Inv NB g (E.map (·.b) ++ x) n
 pg : ∀ e ∈ E, Gp g e
 ok : ∀ e ∈ E, Oe e
 res : g.res = 2
 bad : g.bad = 0
 al : ∀ k i L, k < NB → i < 8 → (g.bl k).pgs i = some L → g.gh L
 er : ∀ k, k < NB → ∀ i, i < 8 → ((g.bl k).pgs i = none ↔ (g.bl k).nx ≤ i)
section
variable {NB n k : Nat} {x y : List Nat} {g g' : Mg} {E E' : List En} {e e0 : En}
theorem Fi.perm (h : Fi NB n x g E) (hp : E.Perm E') : Fi NB n x g E' :=
 ⟨h.nb, h.w.perm ((hp.map _).append_right x), fun e he => h.pg e (hp.mem_iff.2 he), fun e he => h.ok e (hp.mem_iff.2 he), h.res, h.bad, h.al, h.er⟩
theorem Fi.le {m : Nat} (h : Fi NB n x g E) (hn : n ≤ m) : Fi NB m x g E := ⟨h.nb, h.w.le hn, h.pg, h.ok, h.res, h.bad, h.al, h.er⟩
theorem Fi.lt (h : Fi NB n x g E) (he : e ∈ E) : e.b < NB := h.w.hm _ (List.mem_append_left _ (List.mem_map.2 ⟨e, he, rfl⟩))
theorem Fi.ltx (h : Fi NB n x g E) (hk : k ∈ x) : k < NB := h.w.hm _ (List.mem_append_right _ hk)
theorem Fi.add (h : Fi NB n (e.b :: x) g E) (hg : Gp g e) (ho : Oe e) (hp : E'.Perm (e :: E)) : Fi NB n x g E' := by
 refine ⟨h.nb, h.w.perm ?_, fun a ha => ?_, fun a ha => ?_, h.res, h.bad, h.al, h.er⟩
 ·refine List.Perm.trans ?_ ((hp.map (·.b)).symm.append_right x)
  rw [List.map_cons]
  exact List.perm_middle
 ·rcases List.mem_cons.1 (hp.mem_iff.1 ha) with rfl | h1
  ·exact hg
  ·exact h.pg a h1
 ·rcases List.mem_cons.1 (hp.mem_iff.1 ha) with rfl | h1
  ·exact ho
  ·exact h.ok a h1
theorem Fi.del (h : Fi NB n x g E) (hp : (e0 :: E').Perm E) : Fi NB n (e0.b :: x) g E' := by
 refine ⟨h.nb, h.w.perm ?_, fun a ha => h.pg a (hp.mem_iff.1 (List.mem_cons_of_mem _ ha)), fun a ha => h.ok a (hp.mem_iff.1 (List.mem_cons_of_mem _ ha)), h.res, h.bad, h.al, h.er⟩
 refine ((hp.map (·.b)).symm.append_right x).trans ?_
 rw [List.map_cons]
 exact List.perm_middle.symm
theorem Fi.drop (h : Fi NB n (k :: x) g E) : Fi NB (n + 1) x { g with l := g.l.set k (dropB (Gc.at_ g.l k)) } E :=
 ⟨h.nb, (h.w.perm List.perm_middle).drop1, fun e he => ⟨(h.pg e he).pg, (h.pg e he).nx, (h.pg e he).i8⟩, h.ok, h.res, h.bad, h.al, h.er⟩
theorem Fi.prog {i : Nat} {bs : List UInt8} (h : Fi NB n x g E) (hw : Wears.Inv NB g' (E.map (·.b) ++ x ++ [k]) (n + 1)) (hb : g'.bl = upd g.bl k (pbNext (g.bl k) i bs)) (hi : i = (g.bl k).nx) (h1 : g'.res = g.res) (h2 : g'.bad = g.bad) (h3 : g'.gh = g.gh) (hP : g.gh bs) : Fi NB (n + 1) (k :: x) g' E := by
 refine ⟨h.nb, hw.perm ?_, fun e he => ?_, h.ok, h1.trans h.res, h2.trans h.bad, fun j q L hj hq => ?_, fun j hj q hq => ?_⟩
 ·rw [List.append_assoc]
  exact List.Perm.append_left _ (List.perm_append_comm)
 ·obtain ⟨a1, a2, a3⟩ := h.pg e he
  by_cases hk : e.b = k
  ·refine ⟨?_, ?_, a3⟩
   ·rw [hb, hk, upd_same]
    show upd (g.bl k).pgs i _ e.i = _
    rw [upd_other _ _ (by rw [hk] at a2; omega), ← hk]
    exact a1
   ·rw [hb, hk, upd_same]
    show e.i < i + 1
    rw [hk] at a2
    omega
  ·exact ⟨by rw [hb, upd_other _ _ hk]; exact a1, by rw [hb, upd_other _ _ hk]; exact a2, a3⟩
 ·rw [hb, h3]
  by_cases hk : j = k
  ·rw [hk, upd_same]
   show upd (g.bl k).pgs i (some bs) q = some L → _
   by_cases hqi : q = i
   ·rw [hqi, upd_same]
    intro e
    obtain rfl := Option.some.inj e
    exact hP
   ·rw [upd_other _ _ hqi, ← hk]
    exact h.al j q L hj hq
  ·rw [upd_other _ _ hk]
   exact h.al j q L hj hq
 ·rw [hb]
  by_cases hk : j = k
  ·rw [hk, upd_same]
   show upd (g.bl k).pgs i (some bs) q = none ↔ i + 1 ≤ q
   by_cases hqi : q = i
   ·rw [hqi, upd_same]
    constructor
    ·intro e; cases e
    ·intro e; omega
   ·rw [upd_other _ _ hqi, ← hk, h.er j hj q hq, hk, ← hi]
    omega
  ·rw [upd_other _ _ hk]
   exact h.er j hj q hq
theorem Fi.erase {ps' : Nat → Nat} (h : Fi NB n x g E) (hk : k < NB) (hs : (Gc.at_ g.l k).st = 0 ∨ (Gc.at_ g.l k).st = 3) (hw : ∀ j, j < NB → (Gc.at_ g.l k).wear ≤ (Gc.at_ g.l j).wear + 3) : Fi NB (n + 1) x (erG g k ps') E := by
 refine ⟨h.nb, h.w.erase hk hs hw, fun e he => ?_, h.ok, h.res, h.bad, fun j q L hj hq => ?_, fun j hj q hq => ?_⟩
 ·have hne : e.b ≠ k := fun hk2 => by
   have hb := h.w.bk k hk
   have hl : (Gc.at_ g.l k).live = 0 := by
    rcases hs with e1 | e1
    ·exact (hb.fr e1).1
    ·exact hb.sl e1
   have hc := hb.lv
   rw [hl] at hc
   have : 0 < (E.map (·.b) ++ x).count k := List.count_pos_iff.2 (List.mem_append_left _ (List.mem_map.2 ⟨e, he, hk2⟩))
   omega
  obtain ⟨a1, a2, a3⟩ := h.pg e he
  exact ⟨by show (upd g.bl k _ e.b).pgs e.i = _; rw [upd_other _ _ hne]; exact a1, by show e.i < (upd g.bl k _ e.b).nx; rw [upd_other _ _ hne]; exact a2, a3⟩
 ·show (upd g.bl k (fresh ((g.bl k).wear + 1)) j).pgs q = some L → g.gh L
  by_cases e : j = k
  ·rw [e, upd_same]
   intro h1
   cases h1
  ·rw [upd_other _ _ e]
   exact h.al j q L hj hq
 ·show (upd g.bl k (fresh ((g.bl k).wear + 1)) j).pgs q = none ↔ (upd g.bl k (fresh ((g.bl k).wear + 1)) j).nx ≤ q
  by_cases e : j = k
  ·rw [e, upd_same]
   exact ⟨fun _ => Nat.zero_le _, fun _ => rfl⟩
  ·rw [upd_other _ _ e]
   exact h.er j hj q hq
theorem Fi.ghost {P : List UInt8 → Prop} (h : Fi NB n x g E) (hP : ∀ L, g.gh L → P L) : Fi NB n x { g with gh := P } E :=
 ⟨h.nb, ⟨h.w.len, h.w.bk, h.w.gap, h.w.opn, h.w.even, h.w.hm, h.w.hl⟩, fun e he => ⟨(h.pg e he).pg, (h.pg e he).nx, (h.pg e he).i8⟩, h.ok, h.res, h.bad, fun k i L hk hi hl => hP L (h.al k i L hk hi hl), h.er⟩
theorem Fi.count (h : Fi NB n [] g E) (hk : k < NB) : (E.filter fun e => e.b == k).length = (Gc.at_ g.l k).live := by
 rw [(h.w.bk k hk).lv, List.append_nil]
 clear h
 induction E with
 | nil => rfl
 | cons a t ih =>
  rw [List.filter_cons, List.map_cons, List.count_cons, ← ih]
  by_cases e : a.b = k <;> simp [e]
theorem Fi.sum (h : Fi NB n x g E) : Wears.sumC (fun i => (Gc.at_ g.l i).live) NB = E.length + x.length := by
 rw [h.w.sum, List.length_append, List.length_map]
theorem Fi.shut (h : Fi NB n x g E) (ho : g.opn = -1) : ∀ i, i < NB → (Gc.at_ g.l i).st ≤ 3 ∧ (Gc.at_ g.l i).st ≠ 1 := fun i hi =>
 ⟨(h.w.bk i hi).st, fun e => by have := ((h.w.bk i hi).op e).1; omega⟩
theorem Fi.wait (h : Fi NB n [] g E) (ho : g.opn = -1) (hf : Gc.count 0 g.l = 3) (hE : E.length + 2 ≤ 8 * (NB - 3)) : ∃ X, X < NB ∧ ((Gc.at_ g.l X).st = 3 ∨ (Gc.at_ g.l X).st = 2 ∧ (Gc.at_ g.l X).live < 8) := by
 refine Classical.byContradiction fun hno => ?_
 have hall : ∀ i, i < NB → (Gc.at_ g.l i).live + 8 * (if (Gc.at_ g.l i).st = 0 then 1 else 0) = 8 := fun i hi => by
  have h1 := h.shut ho i hi
  have h2 : ¬ ((Gc.at_ g.l i).st = 3 ∨ (Gc.at_ g.l i).st = 2 ∧ (Gc.at_ g.l i).live < 8) := fun e => hno ⟨i, hi, e⟩
  have hb := h.w.bk i hi
  by_cases e : (Gc.at_ g.l i).st = 0
  ·rw [if_pos e, (hb.fr e).1]
  ·rw [if_neg e]
   have := hb.l8
   omega
 have hs := h.sum
 have hc := Gc.count_sum 0 g.l
 rw [h.w.len, hf] at hc
 have h5 := Wears.sumC_congr (c := fun i => (Gc.at_ g.l i).live + 8 * (if (Gc.at_ g.l i).st = 0 then 1 else 0)) (d := fun _ => 8) (k := NB) hall
 rw [sumC_add, sumC_mul, ← hc, hs, sumC_const, List.length_nil] at h5
 have := h.nb
 omega
end
end Ftl
end Go.Proofs.YtcppkaphlcflgaaGreat
namespace Go.Proofs.YtcppkaphlcflgaaGreat
open Go.RowKit

namespace Ftl
structure Pgd (NB : Nat) (g g' : Mg) (k i : Nat) (bs : List UInt8) : Prop where
 hk : k < NB
 hi : i = (g.bl k).nx
 i8 : i < 8
 bl : g'.bl = upd g.bl k (pbNext (g.bl k) i bs)
 M : g'.M = g.M
 ML : g'.ML = g.ML
 C : g'.C = g.C
 res : g'.res = g.res
 bad : g'.bad = g.bad
 gh : g'.gh = g.gh
 row : ∀ q, q ≠ k → Gc.at_ g'.l q = Gc.at_ g.l q
 wear : (Gc.at_ g'.l k).wear = (Gc.at_ g.l k).wear
 live : (Gc.at_ g'.l k).live = (Gc.at_ g.l k).live + 1
 st : (Gc.at_ g'.l k).st = if i + 1 = 8 then 2 else 1
 nx : (Gc.at_ g'.l k).nx = i + 1
 opn : g'.opn = if i + 1 = 8 then -1 else (k : Int)
 was : (g.opn = -1 ∧ (Gc.at_ g.l k).st = 0 ∧ i = 0 ∧ Gc.count 0 g'.l + 1 = Gc.count 0 g.l) ∨ (g.opn = (k : Int) ∧ (Gc.at_ g.l k).st = 1 ∧ (Gc.at_ g.l k).nx = i ∧ Gc.count 0 g'.l = Gc.count 0 g.l)
end Ftl
section
open Ftl
variable {NB B n : Nat} {R : Nat → Prop} {w : World} {f : Fm} {x : List Nat} {E : List En}
theorem fErase_calls (h : FtM NB B R w f) (hi : Fi NB n x f.g E) {k : Nat} (hk : k < NB) (hs : (Gc.at_ f.g.l k).st = 0 ∨ (Gc.at_ f.g.l k).st = 3) (hn : n ≤ 1099511627776) :
  Calls Tryz.prog 202 #[.pointer (some ⟨f.g.M, 0, none⟩), .int .i64 (k : Int)] w fun e w' => e = .returned (.int .i64 0) ∧ ∃ ps', FtR NB B R w w' { f with g := erG f.g k ps' } := by
 obtain ⟨S, a1, a2, a3⟩ := h
 have hb := hi.w.bk k hk
 have hlv : (Gc.at_ f.g.l k).live = 0 := by
  rcases hs with e | e
  ·exact (hb.fr e).1
  ·exact hb.sl e
 refine (bErase_calls a1.hg hk (Gc.good_iff.2 (by omega)) hlv (by omega) hb.bad (by have := hb.we; have := hb.wn; omega)).mono ?_
 rintro e w' ⟨rfl, ⟨ps', hm⟩, hq⟩
 exact ⟨rfl, ps', ft_mgr a1 a2 a3 hm hq (fun _ h => h) rfl rfl rfl rfl rfl⟩
theorem fDrop_calls (h : FtM NB B R w f) {k : Nat} (hi : Fi NB n (k :: x) f.g E) :
  Calls Tryz.prog 117 #[.pointer (some ⟨f.g.M, 0, none⟩), .int .i64 (k : Int)] w fun e w' => e = .returned (.int .i64 0) ∧ FtM NB B R w' { f with g := { f.g with l := f.g.l.set k (dropB (Gc.at_ f.g.l k)) } } ∧ Kq R w w' := by
 obtain ⟨S, a1, a2, a3⟩ := h
 have hk := hi.ltx (k := k) (by simp)
 have hb := hi.w.bk k hk
 have hc : 0 < (E.map (·.b) ++ k :: x).count k := List.count_pos_iff.2 (by simp)
 refine (bDrop_calls a1.hg hk (Gc.good_iff.2 (by have := hb.st; omega)) (by rw [hb.lv]; exact hc) (by have := hb.l8; omega)).mono ?_
 rintro e w' ⟨rfl, hm, hq⟩
 exact ⟨rfl, ft_mgrS a1 a2 a3 hm (hq.mono fun q e => .inr (.inl e)) rfl rfl rfl rfl rfl⟩
theorem fDrop2_calls (h : FtM NB B R w f) {k : Nat} (hi : Fi NB n (k :: x) f.g E) :
  Calls Tryz.prog 117 #[.pointer (some ⟨f.g.M, 0, none⟩), .int .i64 (k : Int)] w fun e w' => e = .returned (.int .i64 0) ∧ FtM NB B R w' { f with g := { f.g with l := f.g.l.set k (dropB (Gc.at_ f.g.l k)) } } ∧ Kq R w w' ∧ Kq (fun q => q = f.g.ML) w w' := by
 obtain ⟨S, a1, a2, a3⟩ := h
 have hk := hi.ltx (k := k) (by simp)
 have hb := hi.w.bk k hk
 have hc : 0 < (E.map (·.b) ++ k :: x).count k := List.count_pos_iff.2 (by simp)
 refine (bDrop_calls a1.hg hk (Gc.good_iff.2 (by have := hb.st; omega)) (by rw [hb.lv]; exact hc) (by have := hb.l8; omega)).mono ?_
 rintro e w' ⟨rfl, hm, hq⟩
 obtain ⟨h1, h2⟩ := ft_mgrS a1 a2 a3 hm (hq.mono fun q e => .inr (.inl e)) rfl rfl rfl rfl rfl
 exact ⟨rfl, h1, h2, hq⟩
theorem FtM.neML (h : FtM NB B R w f) : f.NO ≠ f.g.ML ∧ f.GO ≠ f.g.ML ∧ f.SE ≠ f.g.ML := by
 obtain ⟨S, a1, _⟩ := h
 exact ⟨fun e => a1.ns _ (.inr (.inr (.inl rfl))) (.inr (.inl e)), fun e => a1.ns _ (.inr (.inr (.inr (.inl rfl)))) (.inr (.inl e)), fun e => a1.ns _ (.inr (.inl rfl)) (.inr (.inl e))⟩
def Prgd (NB B : Nat) (R : Nat → Prop) (n : Nat) (x : List Nat) (E : List En) (f : Fm) (bs : List UInt8) (w : World) (e : Ending) (w' : World) : Prop :=
 ∃ (k i : Nat) (g' : Mg), e = .returned (.tuple #[.int .i64 (k : Int), .int .i64 (i : Int), .int .i64 0]) ∧ FtR NB B R w w' { f with g := g' } ∧ Pgd NB f.g g' k i bs ∧ Fi NB (n + 1) (k :: x) g' E
theorem fProg_calls (h : FtM NB B R w f) (hi : Fi NB n x f.g E) (hr : f.g.opn ≠ -1 ∨ 0 < Gc.count 0 f.g.l) (a : Option Addr) (c : Nat) (bs : List UInt8) (hgh : f.g.gh bs) (hbs : Own byteV 5 w 0 (.slice a 96 c) bs) (hap : ∀ q, Value.ownBlock (.slice a 96 c) = some q → ¬ R q) :
  Calls Tryz.prog 180 #[.pointer (some ⟨f.g.M, 0, none⟩), .slice a 96 c] w (Prgd NB B R n x E f bs w) := by
 obtain ⟨S, a1, a2, a3⟩ := h
 have hlen := hi.w.len
 rcases hi.w.opn with ho | ⟨j, j1, j2, j3⟩
 ·cases hb : Gc.best isFree Gc.worn f.g.l NB with
  | none =>
   have h0 := hi.w.full ho hb
   unfold roomOf at h0
   rw [if_pos ho] at h0
   omega
  | some j =>
   obtain ⟨hj, hf⟩ := Gc.best_some hb
   have hs : (Gc.at_ f.g.l j).st = 0 := by unfold isFree at hf; rw [beq_iff_eq] at hf; omega
   have hbk := hi.w.bk j hj
   have hnx := (hbk.fr hs).2
   refine (bProgram_begin a1.hg hb ho hnx hbk.bad hbk.brk a c bs hbs fun q hq hs => hap q hq (a2 q (.inr hs))).mono ?_
   rintro e w' ⟨rfl, hm, hq⟩
   have hat : Gc.at_ (beG f.g j).l j = ⟨1, 0, (Gc.at_ f.g.l j).wear, 0⟩ := at_set _ _ (by omega)
   have e2 : (prG (beG f.g j) j 0 bs).l = f.g.l.set j ⟨1, 1, (Gc.at_ f.g.l j).wear, 1⟩ := by
    unfold prG
    simp only [hat]
    show (f.g.l.set j _).set j _ = _
    rw [List.set_set]
    rfl
   have ha2 : Gc.at_ (prG (beG f.g j) j 0 bs).l j = ⟨1, 1, (Gc.at_ f.g.l j).wear, 1⟩ := by rw [e2]; exact at_set _ _ (by omega)
   refine ⟨j, 0, _, rfl, ft_mgr a1 a2 a3 hm hq (fun _ h => h) rfl rfl rfl rfl rfl, ⟨hj, hnx.symm, by omega, rfl, rfl, rfl, rfl, rfl, rfl, rfl, fun q hq => by rw [e2]; exact at_set_other _ _ hq, by rw [ha2], by rw [ha2, (hbk.fr hs).1], by rw [ha2]; rfl, by rw [ha2], rfl, .inl ⟨ho, hs, rfl, ?_⟩⟩, hi.prog (hi.w.open_ ho hb) rfl hnx.symm rfl rfl rfl hgh⟩
   have := Gc.count_set 0 (l := f.g.l) (k := j) ⟨1, 1, (Gc.at_ f.g.l j).wear, 1⟩ (by omega)
   rw [hs, if_pos rfl, if_neg (show ¬ (1 : Nat) = 0 by decide)] at this
   rw [e2]
   omega
 ·have hbk := hi.w.bk j j1
  obtain ⟨o1, o2, o3, o4, o5⟩ := hbk.op j3
  refine (bProgram_open a1.hg j1 j2 o3 rfl (by have := hbk.l8; omega) o4 hbk.bad hbk.brk a c bs hbs fun q hq hs => hap q hq (a2 q (.inr (.inr (.inr hs))))).mono ?_
  rintro e w' ⟨rfl, hm, hq⟩
  have e2 : (prG f.g j (Gc.at_ f.g.l j).nx bs).l = f.g.l.set j ⟨if (Gc.at_ f.g.l j).nx + 1 = 8 then 2 else (Gc.at_ f.g.l j).st, (Gc.at_ f.g.l j).live + 1, (Gc.at_ f.g.l j).wear, (Gc.at_ f.g.l j).nx + 1⟩ := rfl
  have ha2 : Gc.at_ (prG f.g j (Gc.at_ f.g.l j).nx bs).l j = ⟨if (Gc.at_ f.g.l j).nx + 1 = 8 then 2 else (Gc.at_ f.g.l j).st, (Gc.at_ f.g.l j).live + 1, (Gc.at_ f.g.l j).wear, (Gc.at_ f.g.l j).nx + 1⟩ := by rw [e2]; exact at_set _ _ (by omega)
  refine ⟨j, _, _, rfl, ft_mgr a1 a2 a3 hm hq (fun _ h => h) rfl rfl rfl rfl rfl, ⟨j1, o4.symm, o3, rfl, rfl, rfl, rfl, rfl, rfl, rfl, fun q hq => by rw [e2]; exact at_set_other _ _ hq, by rw [ha2], by rw [ha2], by rw [ha2]; show (if _ then 2 else _) = _; rw [j3], by rw [ha2], by show (if _ then (-1 : Int) else _) = _; rw [j2], .inr ⟨j2, j3, rfl, ?_⟩⟩, hi.prog (hi.w.prog j1 j2 j3) rfl o4.symm rfl rfl rfl hgh⟩
  have := Gc.count_set 0 (l := f.g.l) (k := j) ⟨if (Gc.at_ f.g.l j).nx + 1 = 8 then 2 else (Gc.at_ f.g.l j).st, (Gc.at_ f.g.l j).live + 1, (Gc.at_ f.g.l j).wear, (Gc.at_ f.g.l j).nx + 1⟩ (by omega)
  rw [j3, if_neg (show ¬ (1 : Nat) = 0 by decide), if_neg (show ¬ (if (Gc.at_ f.g.l j).nx + 1 = 8 then 2 else 1) = 0 by split <;> omega)] at this
  rw [e2, j3]
  omega
def Rdd (NB B : Nat) (R : Nat → Prop) (f : Fm) (k i : Nat) (w : World) (e : Ending) (w' : World) : Prop :=
 (∃ a c, e = .returned (.tuple #[.slice a 96 c, .int .i64 0]) ∧ 96 ≤ c ∧ Own byteV 5 w' w.heap.size (.slice a 96 c) (chL ((f.g.bl k).pgs i))) ∧ FtM NB B R w' f ∧ Kq R w w'
theorem fRead_calls (h : FtM NB B R w f) {k i : Nat} (hk : k < NB) (hi : i < 8) :
  Calls Tryz.prog 124 #[.pointer (some ⟨f.g.C, 0, none⟩), .int .i64 (k : Int), .int .i64 (i : Int)] w (Rdd NB B R f k i w) := by
 obtain ⟨S, a1, a2, a3⟩ := h
 refine (chRead_calls a1.hg.hc hk hi).mono ?_
 rintro e w' ⟨h1, h2, h3⟩
 have hS : S f.g.C := a1.hg.hc.hS _ (.inl rfl)
 have hq : Kq S w w' := h3.mono fun q e => e ▸ hS
 exact ⟨h1, ft_mgrS a1 a2 a3 (a1.hg.chip h2 hq fun _ h => .inl h) (hq.mono fun q h => .inr (.inr h)) rfl rfl rfl rfl rfl⟩
theorem fGeo_calls (h : FtM NB B R w f) :
  Calls Tryz.prog 62 #[.pointer (some ⟨f.g.C, 0, none⟩)] w fun e w' => e = .returned (geoV NB) ∧ Below w.heap.size w w' := by
 obtain ⟨S, a1, _⟩ := h
 exact chGeo_calls a1.hg.hc
theorem fUp_calls (h : FtM NB B R w f) :
  Calls Tryz.prog 61 #[.pointer (some ⟨f.g.C, 0, none⟩)] w fun e w' => e = .returned (.bool true) ∧ w = w' := by
 obtain ⟨S, a1, _⟩ := h
 exact chUp_calls a1.hg.hc
theorem Ftl.Fi.count4 (hi : Fi NB n x f.g E) : Gc.count 4 f.g.l = 0 := by
 unfold Gc.count
 rw [List.length_eq_zero_iff, List.filter_eq_nil_iff]
 intro y hy
 obtain ⟨i, hl, rfl⟩ := List.getElem_of_mem hy
 have h1 := (hi.w.bk i (by rw [← hi.w.len]; exact hl)).st
 have e : Gc.at_ f.g.l i = f.g.l[i] := by rw [Gc.at_, List.getD_eq_getElem?_getD, List.getElem?_eq_getElem hl]; rfl
 rw [e] at h1
 simp only [decide_eq_true_eq]
 omega
theorem fLeft_calls (h : FtM NB B R w f) (hi : Fi NB n x f.g E) :
  Calls Tryz.prog 153 #[.pointer (some ⟨f.g.M, 0, none⟩)] w fun e w' => e = .returned (.int .i64 2) ∧ Below w.heap.size w w' := by
 obtain ⟨S, a1, _⟩ := h
 exact bLeft_calls a1.hg hi.count4 hi.res hi.bad (by omega) (by omega)
def Ftl.enough (g : Mg) : Bool := decide (3 ≤ Gc.count 0 g.l) && (decide (g.opn ≠ -1) || decide (4 ≤ Gc.count 0 g.l))
theorem fEnough_calls (h : FtM NB B R w f) (hi : Fi NB n x f.g E) :
  Calls Tryz.prog 177 #[.pointer (some ⟨f.F, 0, none⟩)] w fun e w' => e = .returned (.bool (Ftl.enough f.g)) ∧ Below w.heap.size w w' := by
 have f0 := h.c0
 have f1 := h.c1
 obtain ⟨S, a1, _⟩ := h
 have hn := hi.nb
 obtain ⟨o1, o2⟩ := hi.w.opn2 (by omega)
 refine (enough_calls a1.hg f0 f1 hi.count4 hi.res hi.bad o1 o2).mono ?_
 rintro e w' ⟨rfl, hb⟩
 refine ⟨?_, hb⟩
 have hx : (if roomOf f.g = (Gc.count 0 f.g.l : Int) * 8 then (4 : Int) else 3) = if f.g.opn = -1 then 4 else 3 := by
  unfold roomOf
  rcases hi.w.opn with ho | ⟨j, j1, j2, j3⟩
  ·rw [if_pos ho, if_pos (by omega), if_pos ho]
  ·have h5 := ((hi.w.bk j j1).op j3).2.2.1
   rw [if_neg (show ¬ f.g.opn = -1 by omega), j2, Int.toNat_natCast, if_neg (by omega), if_neg (by omega)]
 congr 2
 unfold wantN Ftl.enough
 rw [hx, Bool.eq_iff_iff]
 simp only [decide_eq_true_eq, Bool.and_eq_true, Bool.or_eq_true]
 split <;> omega
theorem fNext_calls (h : FtM NB B R w f) (hi : Fi NB n x f.g E) (hn : n ≤ 1099511627776) :
  Calls Tryz.prog 179 #[.pointer (some ⟨f.g.M, 0, none⟩)] w fun e w' => e = .returned (acV (Gc.next f.g.l 8 (decide (8 ≤ roomOf f.g)))) ∧ Below w.heap.size w w' := by
 obtain ⟨S, a1, _⟩ := h
 have hb := hi.nb
 obtain ⟨o1, o2⟩ := hi.w.opn2 (by omega)
 exact bNext_calls a1.hg hi.w.even (hi.w.ok hn) o1 o2 (by omega)
end
end Go.Proofs.YtcppkaphlcflgaaGreat
namespace Go.Proofs.YtcppkaphlcflgaaGreat
open Go.RowKit

set_option maxHeartbeats 1000000 in
theorem equal_bytes (a b : Option Addr) (n m c d : Nat) (xs ys : List UInt8) (w : World) (hx : Bytes w w.heap.size a n xs) (hy : Bytes w w.heap.size b m ys) :
  Calls Tryz.prog 171 #[.slice a n c, .slice b m d] w fun e w' => e = .returned (.bool (decide (xs = ys))) ∧ Below w.heap.size w w' := by
 have HX := Lib.hid hx
 have HY := Lib.hid hy
 have hn := hx.room
 have lx := hx.len
 have ly := hy.len
 by_cases hl : n = m
 ·subst hl
  have HD := Lib.hid (fun (h : ¬ xs = ys) => (decide_eq_false h : decide (xs = ys) = false))
  have HE := Lib.hid (fun (h : xs = ys) => (decide_eq_true h : decide (xs = ys) = true))
  have LX := Lib.hid lx
  have LY := Lib.hid ly
  generalize decide (xs = ys) = D at *
  clear hx hy lx ly
  go_enter Tryz.func171, Tryz.ntmps171
  go_wp2
  go_loopw [5, 13] (fun _ i wr => ∃ k : Nat, k ≤ n ∧ i = .int .i64 k ∧ xs.take k = ys.take k ∧ Below w.heap.size w wr) (fun _ i _ => n - (intOf i).toNat)
  case atStart => exact ⟨0, by omega, rfl, rfl, Below.refl _ _⟩
  case round =>
   obtain ⟨k, hk, rfl, ht, hb⟩ := hrel
   have HT := Lib.hid ht
   have HB := Lib.hid hb
   clear ht hb
   by_cases hlt : k < n
   ·obtain ⟨b1, o1, hk1, rfl, hbl1, hc1⟩ := (HX.out.below HB.out).at_ hlt
    obtain ⟨b2, o2, hk2, rfl, hbl2, hc2⟩ := (HY.out.below HB.out).at_ hlt
    have t1 := Lib.hid (List.take_succ_eq_append_getElem hk1)
    have t2 := Lib.hid (List.take_succ_eq_append_getElem hk2)
    have HG := Lib.hid (fun (h : xs = ys) => (by subst h; rfl : xs[k] = ys[k]))
    have g1 : (0 : Int) ≤ (k : Int) := by omega
    have g2 : (k : Int) < (n : Int) := by omega
    generalize xs[k] = x at *
    generalize ys[k] = y at *
    by_cases he : x = y
    ·subst he
     have g3 : ((x.toNat : Int) != (x.toNat : Int)) = false := by simp
     go_wp2_with fail
     go_quiet (fail)
     go_wp2
     go_roundw
     case rel => exact ⟨k + 1, by omega, by go_num, by rw [t1.out, t2.out, HT.out], HB.out.trans (below_drewN _ _)⟩
     case measure => simp [intOf]; omega
    ·have g3 : ((x.toNat : Int) != (y.toNat : Int)) = true := by
      rw [bne_iff_ne]
      intro h
      exact he (UInt8.toNat_inj.1 (by omega))
     have hd := Lib.hid (HD.out (fun h => he (HG.out h)))
     clear he
     go_wp2_with fail
     go_quiet (fail)
     go_wp2
     go_ret
     exact ⟨by rw [hd.out]; rfl, HB.out.trans (below_drewN _ _)⟩
   ·obtain rfl : k = n := by omega
    have hd := Lib.hid (HE.out (by
     have h := HT.out
     rw [List.take_of_length_le (by rw [LX.out]; omega), List.take_of_length_le (by rw [LY.out]; omega)] at h
     exact h))
    go_wp2
    go_ret
    exact ⟨by rw [hd.out]; rfl, HB.out⟩
 ·have g1 : ((n : Int) == (m : Int)) = false := by rw [beq_eq_false_iff_ne]; omega
  have g2 : ((n : Int) != (m : Int)) = true := by rw [bne_iff_ne]; omega
  rw [decide_eq_false (show ¬ xs = ys from fun e => hl (by rw [← lx, ← ly, e]))]
  clear hx hy lx ly hl
  go_enter Tryz.func171, Tryz.ntmps171
  go_wp2
  go_ret
  exact ⟨rfl, Below.refl _ _⟩
end Go.Proofs.YtcppkaphlcflgaaGreat
namespace Go.Proofs.YtcppkaphlcflgaaGreat
open Go.RowKit Ftl

theorem placeCells : Tryz.prog.cellsOf 184 = 2 := by kernel_rfl
section
variable {NB B n : Nat} {R : Nat → Prop} {w : World} {f : Fm} {x : List Nat} {E : List En}
def Cpd (NB B : Nat) (R : Nat → Prop) (n : Nat) (x : List Nat) (E : List En) (f : Fm) (bs : List UInt8) (w : World) (e : Ending) (w' : World) : Prop :=
 ∃ (k i : Nat) (g' : Mg), e = .returned (.tuple #[.agg #[.int .i64 (k : Int), .int .i64 (i : Int)], .int .i64 0]) ∧ FtR NB B R w w' { f with g := g' } ∧ Pgd NB f.g g' k i bs ∧ Fi NB (n + 1) (k :: x) g' E
set_option maxRecDepth 100000 in
set_option maxHeartbeats 4000000 in
theorem copied_calls (h : FtM NB B R w f) (hi : Fi NB n x f.g E) (hr : f.g.opn ≠ -1 ∨ 0 < Gc.count 0 f.g.l) (a : Option Addr) (c : Nat) (bs : List UInt8) (hgh : f.g.gh bs) (hbs : Own byteV 5 w 0 (.slice a 96 c) bs) (hap : ∀ q, Value.ownBlock (.slice a 96 c) = some q → ¬ R q) :
  Calls Tryz.prog 201 #[.pointer (some ⟨f.F, 0, none⟩), .slice a 96 c] w (Cpd NB B R n x E f bs w) := by
 have HB0 := h.base
 have hb0 := (Below.refl w.heap.size w).alloc (Nat.le_refl _) (.cells #[.int .i64 0, .int .i64 0] 184)
 have h1 := h.on hb0
 have HK := Lib.hid (Blk.new w 184 #[.int .i64 0, .int .i64 0])
 have HO := Lib.hid (hbs.on hb0)
 have HLen := Lib.hid (show bs.length = 96 by obtain ⟨a', c', hv, _⟩ := hbs.form; injection hv with _ h2 _; exact h2.symm)
 have HZ := Lib.hid (h.not_new (Nat.le_refl w.heap.size))
 have HAp := Lib.hid hap
 have HBl := Lib.hid hb0
 have HP := Lib.hid (fProg_calls h1 hi hr a c bs hgh HO.out hap)
 have c1 := h1.c1
 clear h h1 hi hr hgh hbs hap hb0
 go_enter Tryz.func201, Tryz.ntmps201
 go_wp2_with fail
 refine wp_loop_rounds 1 ?_
 rw [rounds_succ]
 generalize w.alloc (.cells #[.int .i64 0, .int .i64 0] 184) = w1 at *
 go_wp2_with fail
 refine HP.out.mono ?_
 rintro e w2 ⟨k, i, g', rfl, h2, hpg, hfi⟩
 have hpgs : chL ((g'.bl k).pgs i) = bs := by
  rw [hpg.bl, upd_same]
  show chL (upd (f.g.bl k).pgs i (some bs) i) = bs
  rw [upd_same]
  rfl
 have hR := fRead_calls h2.1 hpg.hk hpg.i8
 unfold Rdd at hR
 rw [show ({ f with g := g' } : Fm).g = g' from rfl, hpgs] at hR
 have HR := Lib.hid hR
 have hap2 := fun q hq => h2.far (HAp.out q hq) (HO.out.blockLt q hq).2
 have HAp2 := Lib.hid hap2
 have HO2 := Lib.hid (h2.own HO.out HAp.out)
 have HK2 := Lib.hid (h2.blk HK.out HZ.out)
 have HZ2 := Lib.hid (h2.far HZ.out (Blk.lt HK.out))
 have c0 := h2.1.c0
 have H2 := Lib.hid h2
 have HPg := Lib.hid hpg
 have HFi := Lib.hid hfi
 have hM : ({ f with g := g' } : Fm).g.M = f.g.M := hpg.M
 clear h2 hpg hfi hR hpgs hap2 c1
 simp only at c0
 go_wp2_with fail
 refine HR.out.mono ?_
 rintro e w3 ⟨⟨a3, c3, rfl, hc3, ho3⟩, h3a, h3b⟩
 have h3 := H2.out.1.toR h3a h3b
 have HO3 := Lib.hid (h3.own HO2.out HAp2.out)
 have HK3 := Lib.hid (h3.blk HK2.out HZ2.out)
 have H3 := Lib.hid (H2.out.then_ h3)
 have HO4 := Lib.hid ho3
 clear h3 ho3 c0 h3a h3b
 go_wp2_with fail
 refine (equal_bytes a a3 96 96 c c3 bs bs w3 (HO3.out.arr (by rw [HLen.out]; omega)) (HO4.out.arr (by rw [HLen.out]; omega))).mono ?_
 rw [decide_eq_true (rfl : bs = bs)]
 rintro e w4 ⟨rfl, hb4⟩
 have HK4 := Lib.hid (Blk.belowHere HK3.out hb4)
 have hs1 := HBl.out.size
 have H4 := Lib.hid (H3.out.on hb4 (Nat.le_trans HB0 hs1))
 have HF := Lib.hid (H4.out.tail HBl.out HB0 (((Kq.refl (fun q => q = w.heap.size) w4).setCell (p := ⟨w.heap.size, 0, none⟩) (.inl rfl) (.int .i64 (k : Int))).setCell (p := ⟨w.heap.size, 1, none⟩) (.inl rfl) (.int .i64 (i : Int))) fun q hq => by subst hq; exact ⟨Nat.le_refl _, Blk.lt HK.out, HZ.out⟩)
 clear hb4 hs1
 have k0 := Blk.cellv (i := 0) HK4.out rfl
 have k1 := Blk.cellv (i := 1) HK4.out rfl
 have f0 := Blk.frozen HK4.out 0
 have f1 := Blk.frozen HK4.out 1
 have hs := (Blk.set HK4.out 0 (.int .i64 (k : Int))).set 1 (.int .i64 (i : Int))
 have q0 := hs.cellv (i := 0) (v := .int .i64 (k : Int)) rfl
 have q1 := hs.cellv (i := 1) (v := .int .i64 (i : Int)) rfl
 clear hs
 have hcs := placeCells
 go_wp2_with fail
 refine bodyPost_ret (v := .tuple #[.agg #[.int .i64 (k : Int), .int .i64 (i : Int)], .int .i64 0]) (by simp [results, Tryz.results201, go_sem, q0, q1]) rfl ⟨k, i, g', rfl, HF.out, HPg.out, HFi.out⟩
end
end Go.Proofs.YtcppkaphlcflgaaGreat
