import Derived.Test.YtcppkaphlcflgaaGreatFtlMem
import Derived.Deep.QuietTactic
import Derived.BigQuiet
namespace Go.Proofs.YtcppkaphlcflgaaGreat
open Lib (hid)
set_option maxRecDepth 100000
set_option maxHeartbeats 16000000
section
open Go.RowKit

namespace Ftl
end Ftl
end
section
open Go.RowKit

namespace Ftl
end Ftl
end
section
open Go.RowKit

namespace Wears
theorem Inv.perm {NB : Nat} {g : Mg} {h1 h2 : List Nat} {n : Nat} (h : Inv NB g h1 n) (hp : h1.Perm h2) : Inv NB g h2 n :=
 ⟨h.len, fun k hk => by rw [← hp.count_eq]; exact h.bk k hk, h.gap, h.opn, h.even, fun x hx => h.hm x (hp.mem_iff.2 hx), by rw [← hp.length_eq]; exact h.hl⟩
theorem Inv.le {NB : Nat} {g : Mg} {held : List Nat} {n m : Nat} (h : Inv NB g held n) (hn : n ≤ m) : Inv NB g held m :=
 ⟨h.len, fun k hk => let b := h.bk k hk; ⟨b.st, b.lv, b.nx, b.l8, b.op, b.fr, b.fu, b.sl, b.we, by have := b.wn; omega, b.bad, b.brk⟩, h.gap, h.opn, h.even, h.hm, by have := h.hl; omega⟩
theorem Inv.drop1 {NB : Nat} {g : Mg} {k n : Nat} {l : List Nat} (h : Inv NB g (k :: l) n) : Inv NB { g with l := g.l.set k (dropB (Gc.at_ g.l k)) } l (n + 1) := by
 have h0 : 0 < (k :: l).length := Nat.succ_pos _
 refine (h.drop h0).perm (List.perm_iff_count.2 fun q => ?_)
 have := count_takeOut (q := q) h0
 rw [List.count_cons] at this
 simp only [List.getElem_cons_zero, beq_iff_eq] at this
 omega
end Wears
namespace Gc
theorem count_set (s : Nat) {l : List Bk} {k : Nat} (y : Bk) (hk : k < l.length) : count s (l.set k y) + (if (at_ l k).st = s then 1 else 0) = count s l + (if y.st = s then 1 else 0) := by
 unfold count
 induction l generalizing k with
 | nil => simp at hk
 | cons x t ih =>
  cases k with
  | zero =>
   rw [List.set_cons_zero, List.filter_cons, List.filter_cons]
   have e : at_ (x :: t) 0 = x := rfl
   rw [e]
   by_cases h1 : x.st = s <;> by_cases h2 : y.st = s <;> simp [h1, h2]
  | succ k =>
   have := ih (k := k) (by simpa using hk)
   rw [List.set_cons_succ, List.filter_cons, List.filter_cons]
   have e : at_ (x :: t) (k + 1) = at_ t k := rfl
   rw [e]
   by_cases h1 : x.st = s
   ·simp only [h1, decide_true, if_true, List.length_cons]; omega
   ·simp only [h1, decide_false, Bool.false_eq_true, if_false]; exact this
end Gc
namespace Ftl
structure Gp (g : Mg) (e : En) : Prop where
 pg : (g.bl e.b).pgs e.i = some (Tg.page e.t e.d)
 nx : e.i < (g.bl e.b).nx
 i8 : e.i < 8
structure Oe (e : En) : Prop where
 rt : Tg.Right e.t
 len : e.d.length = 64
theorem Oe.key {e : En} (h : Oe e) : e.t.p < 4294967296 := by have := h.rt.2.1; omega
theorem Oe.plen {e : En} (h : Oe e) : (Tg.page e.t e.d).length = 96 := by rw [Tg.page_len, h.len]
structure Fi (NB n : Nat) (x : List Nat) (g : Mg) (E : List En) : Prop where
 nb : 5 ≤ NB ∧ NB ≤ 1000
 w : Wears.Inv NB g (E.map (·.b) ++ x) n
 pg : ∀ e ∈ E, Gp g e
 ok : ∀ e ∈ E, Oe e
 res : g.res = 2
 bad : g.bad = 0
 al : ∀ k i L, k < NB → i < 8 → (g.bl k).pgs i = some L → g.gh L
 er : ∀ k, k < NB → ∀ i, i < 8 → ((g.bl k).pgs i = none ↔ (g.bl k).nx ≤ i)
section
variable {NB n k : Nat} {x y : List Nat} {g g' : Mg} {E E' : List En} {e e0 : En}
theorem Fi.perm (h : Fi NB n x g E) (hp : E.Perm E') : Fi NB n x g E' :=
 ⟨h.nb, h.w.perm ((hp.map _).append_right x), fun e he => h.pg e (hp.mem_iff.2 he), fun e he => h.ok e (hp.mem_iff.2 he), h.res, h.bad, h.al, h.er⟩
theorem Fi.le {m : Nat} (h : Fi NB n x g E) (hn : n ≤ m) : Fi NB m x g E := ⟨h.nb, h.w.le hn, h.pg, h.ok, h.res, h.bad, h.al, h.er⟩
theorem Fi.lt (h : Fi NB n x g E) (he : e ∈ E) : e.b < NB := h.w.hm _ (List.mem_append_left _ (List.mem_map.2 ⟨e, he, rfl⟩))
theorem Fi.ltx (h : Fi NB n x g E) (hk : k ∈ x) : k < NB := h.w.hm _ (List.mem_append_right _ hk)
theorem Fi.add (h : Fi NB n (e.b :: x) g E) (hg : Gp g e) (ho : Oe e) (hp : E'.Perm (e :: E)) : Fi NB n x g E' := by
 refine ⟨h.nb, h.w.perm ?_, fun a ha => ?_, fun a ha => ?_, h.res, h.bad, h.al, h.er⟩
 ·refine List.Perm.trans ?_ ((hp.map (·.b)).symm.append_right x)
  rw [List.map_cons]
  exact List.perm_middle
 ·rcases List.mem_cons.1 (hp.mem_iff.1 ha) with rfl | h1
  ·exact hg
  ·exact h.pg a h1
 ·rcases List.mem_cons.1 (hp.mem_iff.1 ha) with rfl | h1
  ·exact ho
  ·exact h.ok a h1
theorem Fi.del (h : Fi NB n x g E) (hp : (e0 :: E').Perm E) : Fi NB n (e0.b :: x) g E' := by
 refine ⟨h.nb, h.w.perm ?_, fun a ha => h.pg a (hp.mem_iff.1 (List.mem_cons_of_mem _ ha)), fun a ha => h.ok a (hp.mem_iff.1 (List.mem_cons_of_mem _ ha)), h.res, h.bad, h.al, h.er⟩
 refine ((hp.map (·.b)).symm.append_right x).trans ?_
 rw [List.map_cons]
 exact List.perm_middle.symm
theorem Fi.drop (h : Fi NB n (k :: x) g E) : Fi NB (n + 1) x { g with l := g.l.set k (dropB (Gc.at_ g.l k)) } E :=
 ⟨h.nb, (h.w.perm List.perm_middle).drop1, fun e he => ⟨(h.pg e he).pg, (h.pg e he).nx, (h.pg e he).i8⟩, h.ok, h.res, h.bad, h.al, h.er⟩
theorem Fi.prog {i : Nat} {bs : List UInt8} (h : Fi NB n x g E) (hw : Wears.Inv NB g' (E.map (·.b) ++ x ++ [k]) (n + 1)) (hb : g'.bl = upd g.bl k (pbNext (g.bl k) i bs)) (hi : i = (g.bl k).nx) (h1 : g'.res = g.res) (h2 : g'.bad = g.bad) (h3 : g'.gh = g.gh) (hP : g.gh bs) : Fi NB (n + 1) (k :: x) g' E := by
 refine ⟨h.nb, hw.perm ?_, fun e he => ?_, h.ok, h1.trans h.res, h2.trans h.bad, fun j q L hj hq => ?_, fun j hj q hq => ?_⟩
 ·rw [List.append_assoc]
  exact List.Perm.append_left _ (List.perm_append_comm)
 ·obtain ⟨a1, a2, a3⟩ := h.pg e he
  by_cases hk : e.b = k
  ·refine ⟨?_, ?_, a3⟩
   ·rw [hb, hk, upd_same]
    show upd (g.bl k).pgs i _ e.i = _
    rw [upd_other _ _ (by rw [hk] at a2; omega), ← hk]
    exact a1
   ·rw [hb, hk, upd_same]
    show e.i < i + 1
    rw [hk] at a2
    omega
  ·exact ⟨by rw [hb, upd_other _ _ hk]; exact a1, by rw [hb, upd_other _ _ hk]; exact a2, a3⟩
 ·rw [hb, h3]
  by_cases hk : j = k
  ·rw [hk, upd_same]
   show upd (g.bl k).pgs i (some bs) q = some L → _
   by_cases hqi : q = i
   ·rw [hqi, upd_same]
    intro e
    obtain rfl := Option.some.inj e
    exact hP
   ·rw [upd_other _ _ hqi, ← hk]
    exact h.al j q L hj hq
  ·rw [upd_other _ _ hk]
   exact h.al j q L hj hq
 ·rw [hb]
  by_cases hk : j = k
  ·rw [hk, upd_same]
   show upd (g.bl k).pgs i (some bs) q = none ↔ i + 1 ≤ q
   by_cases hqi : q = i
   ·rw [hqi, upd_same]
    constructor
    ·intro e; cases e
    ·intro e; omega
   ·rw [upd_other _ _ hqi, ← hk, h.er j hj q hq, hk, ← hi]
    omega
  ·rw [upd_other _ _ hk]
   exact h.er j hj q hq
theorem Fi.ghost {P : List UInt8 → Prop} (h : Fi NB n x g E) (hP : ∀ L, g.gh L → P L) : Fi NB n x { g with gh := P } E :=
 ⟨h.nb, ⟨h.w.len, h.w.bk, h.w.gap, h.w.opn, h.w.even, h.w.hm, h.w.hl⟩, fun e he => ⟨(h.pg e he).pg, (h.pg e he).nx, (h.pg e he).i8⟩, h.ok, h.res, h.bad, fun k i L hk hi hl => hP L (h.al k i L hk hi hl), h.er⟩
end
end Ftl
end
section
open Go.RowKit

namespace Ftl
structure Pgd (NB : Nat) (g g' : Mg) (k i : Nat) (bs : List UInt8) : Prop where
 hk : k < NB
 hi : i = (g.bl k).nx
 i8 : i < 8
 bl : g'.bl = upd g.bl k (pbNext (g.bl k) i bs)
 M : g'.M = g.M
 ML : g'.ML = g.ML
 C : g'.C = g.C
 res : g'.res = g.res
 bad : g'.bad = g.bad
 gh : g'.gh = g.gh
 row : ∀ q, q ≠ k → Gc.at_ g'.l q = Gc.at_ g.l q
 wear : (Gc.at_ g'.l k).wear = (Gc.at_ g.l k).wear
 live : (Gc.at_ g'.l k).live = (Gc.at_ g.l k).live + 1
 st : (Gc.at_ g'.l k).st = if i + 1 = 8 then 2 else 1
 nx : (Gc.at_ g'.l k).nx = i + 1
 opn : g'.opn = if i + 1 = 8 then -1 else (k : Int)
 was : (g.opn = -1 ∧ (Gc.at_ g.l k).st = 0 ∧ i = 0 ∧ Gc.count 0 g'.l + 1 = Gc.count 0 g.l) ∨ (g.opn = (k : Int) ∧ (Gc.at_ g.l k).st = 1 ∧ (Gc.at_ g.l k).nx = i ∧ Gc.count 0 g'.l = Gc.count 0 g.l)
end Ftl
section
open Ftl
variable {NB B n : Nat} {R : Nat → Prop} {w : World} {f : Fm} {x : List Nat} {E : List En}
theorem fDrop2_calls (h : FtM NB B R w f) {k : Nat} (hi : Fi NB n (k :: x) f.g E) :
  Calls Tryz.prog 117 #[.pointer (some ⟨f.g.M, 0, none⟩), .int .i64 (k : Int)] w fun e w' => e = .returned (.int .i64 0) ∧ FtM NB B R w' { f with g := { f.g with l := f.g.l.set k (dropB (Gc.at_ f.g.l k)) } } ∧ Kq R w w' ∧ Kq (fun q => q = f.g.ML) w w' := by
 obtain ⟨S, a1, a2, a3⟩ := h
 have hk := hi.ltx (k := k) (by simp)
 have hb := hi.w.bk k hk
 have hc : 0 < (E.map (·.b) ++ k :: x).count k := List.count_pos_iff.2 (by simp)
 refine (bDrop_calls a1.hg hk (Gc.good_iff.2 (by have := hb.st; omega)) (by rw [hb.lv]; exact hc) (by have := hb.l8; omega)).mono ?_
 rintro e w' ⟨rfl, hm, hq⟩
 obtain ⟨h1, h2⟩ := ft_mgrS a1 a2 a3 hm (hq.mono fun q e => .inr (.inl e)) rfl rfl rfl rfl rfl
 exact ⟨rfl, h1, h2, hq⟩
theorem FtM.neML (h : FtM NB B R w f) : f.NO ≠ f.g.ML ∧ f.GO ≠ f.g.ML ∧ f.SE ≠ f.g.ML := by
 obtain ⟨S, a1, _⟩ := h
 exact ⟨fun e => a1.ns _ (.inr (.inr (.inl rfl))) (.inr (.inl e)), fun e => a1.ns _ (.inr (.inr (.inr (.inl rfl)))) (.inr (.inl e)), fun e => a1.ns _ (.inr (.inl rfl)) (.inr (.inl e))⟩
def Prgd (NB B : Nat) (R : Nat → Prop) (n : Nat) (x : List Nat) (E : List En) (f : Fm) (bs : List UInt8) (w : World) (e : Ending) (w' : World) : Prop :=
 ∃ (k i : Nat) (g' : Mg), e = .returned (.tuple #[.int .i64 (k : Int), .int .i64 (i : Int), .int .i64 0]) ∧ FtR NB B R w w' { f with g := g' } ∧ Pgd NB f.g g' k i bs ∧ Fi NB (n + 1) (k :: x) g' E
theorem fProg_calls (h : FtM NB B R w f) (hi : Fi NB n x f.g E) (hr : f.g.opn ≠ -1 ∨ 0 < Gc.count 0 f.g.l) (a : Option Addr) (c : Nat) (bs : List UInt8) (hgh : f.g.gh bs) (hbs : Own byteV 5 w 0 (.slice a 96 c) bs) (hap : ∀ q, Value.ownBlock (.slice a 96 c) = some q → ¬ R q) :
  Calls Tryz.prog 180 #[.pointer (some ⟨f.g.M, 0, none⟩), .slice a 96 c] w (Prgd NB B R n x E f bs w) := by
 obtain ⟨S, a1, a2, a3⟩ := h
 have hlen := hi.w.len
 rcases hi.w.opn with ho | ⟨j, j1, j2, j3⟩
 ·cases hb : Gc.best isFree Gc.worn f.g.l NB with
  | none =>
   have h0 := hi.w.full ho hb
   unfold roomOf at h0
   rw [if_pos ho] at h0
   omega
  | some j =>
   obtain ⟨hj, hf⟩ := Gc.best_some hb
   have hs : (Gc.at_ f.g.l j).st = 0 := by unfold isFree at hf; rw [beq_iff_eq] at hf; omega
   have hbk := hi.w.bk j hj
   have hnx := (hbk.fr hs).2
   refine (bProgram_begin a1.hg hb ho hnx hbk.bad hbk.brk a c bs hbs fun q hq hs => hap q hq (a2 q (.inr hs))).mono ?_
   rintro e w' ⟨rfl, hm, hq⟩
   have hat : Gc.at_ (beG f.g j).l j = ⟨1, 0, (Gc.at_ f.g.l j).wear, 0⟩ := at_set _ _ (by omega)
   have e2 : (prG (beG f.g j) j 0 bs).l = f.g.l.set j ⟨1, 1, (Gc.at_ f.g.l j).wear, 1⟩ := by
    unfold prG
    simp only [hat]
    show (f.g.l.set j _).set j _ = _
    rw [List.set_set]
    rfl
   have ha2 : Gc.at_ (prG (beG f.g j) j 0 bs).l j = ⟨1, 1, (Gc.at_ f.g.l j).wear, 1⟩ := by rw [e2]; exact at_set _ _ (by omega)
   refine ⟨j, 0, _, rfl, ft_mgr a1 a2 a3 hm hq (fun _ h => h) rfl rfl rfl rfl rfl, ⟨hj, hnx.symm, by omega, rfl, rfl, rfl, rfl, rfl, rfl, rfl, fun q hq => by rw [e2]; exact at_set_other _ _ hq, by rw [ha2], by rw [ha2, (hbk.fr hs).1], by rw [ha2]; rfl, by rw [ha2], rfl, .inl ⟨ho, hs, rfl, ?_⟩⟩, hi.prog (hi.w.open_ ho hb) rfl hnx.symm rfl rfl rfl hgh⟩
   have := Gc.count_set 0 (l := f.g.l) (k := j) ⟨1, 1, (Gc.at_ f.g.l j).wear, 1⟩ (by omega)
   rw [hs, if_pos rfl, if_neg (show ¬ (1 : Nat) = 0 by decide)] at this
   rw [e2]
   omega
 ·have hbk := hi.w.bk j j1
  obtain ⟨o1, o2, o3, o4, o5⟩ := hbk.op j3
  refine (bProgram_open a1.hg j1 j2 o3 rfl (by have := hbk.l8; omega) o4 hbk.bad hbk.brk a c bs hbs fun q hq hs => hap q hq (a2 q (.inr (.inr (.inr hs))))).mono ?_
  rintro e w' ⟨rfl, hm, hq⟩
  have e2 : (prG f.g j (Gc.at_ f.g.l j).nx bs).l = f.g.l.set j ⟨if (Gc.at_ f.g.l j).nx + 1 = 8 then 2 else (Gc.at_ f.g.l j).st, (Gc.at_ f.g.l j).live + 1, (Gc.at_ f.g.l j).wear, (Gc.at_ f.g.l j).nx + 1⟩ := rfl
  have ha2 : Gc.at_ (prG f.g j (Gc.at_ f.g.l j).nx bs).l j = ⟨if (Gc.at_ f.g.l j).nx + 1 = 8 then 2 else (Gc.at_ f.g.l j).st, (Gc.at_ f.g.l j).live + 1, (Gc.at_ f.g.l j).wear, (Gc.at_ f.g.l j).nx + 1⟩ := by rw [e2]; exact at_set _ _ (by omega)
  refine ⟨j, _, _, rfl, ft_mgr a1 a2 a3 hm hq (fun _ h => h) rfl rfl rfl rfl rfl, ⟨j1, o4.symm, o3, rfl, rfl, rfl, rfl, rfl, rfl, rfl, fun q hq => by rw [e2]; exact at_set_other _ _ hq, by rw [ha2], by rw [ha2], by rw [ha2]; show (if _ then 2 else _) = _; rw [j3], by rw [ha2], by show (if _ then (-1 : Int) else _) = _; rw [j2], .inr ⟨j2, j3, rfl, ?_⟩⟩, hi.prog (hi.w.prog j1 j2 j3) rfl o4.symm rfl rfl rfl hgh⟩
  have := Gc.count_set 0 (l := f.g.l) (k := j) ⟨if (Gc.at_ f.g.l j).nx + 1 = 8 then 2 else (Gc.at_ f.g.l j).st, (Gc.at_ f.g.l j).live + 1, (Gc.at_ f.g.l j).wear, (Gc.at_ f.g.l j).nx + 1⟩ (by omega)
  rw [j3, if_neg (show ¬ (1 : Nat) = 0 by decide), if_neg (show ¬ (if (Gc.at_ f.g.l j).nx + 1 = 8 then 2 else 1) = 0 by split <;> omega)] at this
  rw [e2, j3]
  omega
def Rdd (NB B : Nat) (R : Nat → Prop) (f : Fm) (k i : Nat) (w : World) (e : Ending) (w' : World) : Prop :=
 (∃ a c, e = .returned (.tuple #[.slice a 96 c, .int .i64 0]) ∧ 96 ≤ c ∧ Own byteV 5 w' w.heap.size (.slice a 96 c) (chL ((f.g.bl k).pgs i))) ∧ FtM NB B R w' f ∧ Kq R w w'
theorem fRead_calls (h : FtM NB B R w f) {k i : Nat} (hk : k < NB) (hi : i < 8) :
  Calls Tryz.prog 124 #[.pointer (some ⟨f.g.C, 0, none⟩), .int .i64 (k : Int), .int .i64 (i : Int)] w (Rdd NB B R f k i w) := by
 obtain ⟨S, a1, a2, a3⟩ := h
 refine (chRead_calls a1.hg.hc hk hi).mono ?_
 rintro e w' ⟨h1, h2, h3⟩
 have hS : S f.g.C := a1.hg.hc.hS _ (.inl rfl)
 have hq : Kq S w w' := h3.mono fun q e => e ▸ hS
 exact ⟨h1, ft_mgrS a1 a2 a3 (a1.hg.chip h2 hq fun _ h => .inl h) (hq.mono fun q h => .inr (.inr h)) rfl rfl rfl rfl rfl⟩
theorem fGeo_calls (h : FtM NB B R w f) :
  Calls Tryz.prog 62 #[.pointer (some ⟨f.g.C, 0, none⟩)] w fun e w' => e = .returned (geoV NB) ∧ Below w.heap.size w w' := by
 obtain ⟨S, a1, _⟩ := h
 exact chGeo_calls a1.hg.hc
theorem fUp_calls (h : FtM NB B R w f) :
  Calls Tryz.prog 61 #[.pointer (some ⟨f.g.C, 0, none⟩)] w fun e w' => e = .returned (.bool true) ∧ w = w' := by
 obtain ⟨S, a1, _⟩ := h
 exact chUp_calls a1.hg.hc
theorem Ftl.Fi.count4 (hi : Fi NB n x f.g E) : Gc.count 4 f.g.l = 0 := by
 unfold Gc.count
 rw [List.length_eq_zero_iff, List.filter_eq_nil_iff]
 intro y hy
 obtain ⟨i, hl, rfl⟩ := List.getElem_of_mem hy
 have h1 := (hi.w.bk i (by rw [← hi.w.len]; exact hl)).st
 have e : Gc.at_ f.g.l i = f.g.l[i] := by rw [Gc.at_, List.getD_eq_getElem?_getD, List.getElem?_eq_getElem hl]; rfl
 rw [e] at h1
 simp only [decide_eq_true_eq]
 omega
theorem fLeft_calls (h : FtM NB B R w f) (hi : Fi NB n x f.g E) :
  Calls Tryz.prog 153 #[.pointer (some ⟨f.g.M, 0, none⟩)] w fun e w' => e = .returned (.int .i64 2) ∧ Below w.heap.size w w' := by
 obtain ⟨S, a1, _⟩ := h
 exact bLeft_calls a1.hg hi.count4 hi.res hi.bad (by omega) (by omega)
def Ftl.enough (g : Mg) : Bool := decide (3 ≤ Gc.count 0 g.l) && (decide (g.opn ≠ -1) || decide (4 ≤ Gc.count 0 g.l))
theorem fEnough_calls (h : FtM NB B R w f) (hi : Fi NB n x f.g E) :
  Calls Tryz.prog 177 #[.pointer (some ⟨f.F, 0, none⟩)] w fun e w' => e = .returned (.bool (Ftl.enough f.g)) ∧ Below w.heap.size w w' := by
 have f0 := h.c0
 have f1 := h.c1
 obtain ⟨S, a1, _⟩ := h
 have hn := hi.nb
 obtain ⟨o1, o2⟩ := hi.w.opn2 (by omega)
 refine (enough_calls a1.hg f0 f1 hi.count4 hi.res hi.bad o1 o2).mono ?_
 rintro e w' ⟨rfl, hb⟩
 refine ⟨?_, hb⟩
 have hx : (if roomOf f.g = (Gc.count 0 f.g.l : Int) * 8 then (4 : Int) else 3) = if f.g.opn = -1 then 4 else 3 := by
  unfold roomOf
  rcases hi.w.opn with ho | ⟨j, j1, j2, j3⟩
  ·rw [if_pos ho, if_pos (by omega), if_pos ho]
  ·have h5 := ((hi.w.bk j j1).op j3).2.2.1
   rw [if_neg (show ¬ f.g.opn = -1 by omega), j2, Int.toNat_natCast, if_neg (by omega), if_neg (by omega)]
 congr 2
 unfold wantN Ftl.enough
 rw [hx, Bool.eq_iff_iff]
 simp only [decide_eq_true_eq, Bool.and_eq_true, Bool.or_eq_true]
 split <;> omega
end
end
section
open Go.RowKit Ftl

namespace Ftl
structure Fc (NB : Nat) (f : Fm) : Prop where
 fi : Fi NB (100000 * f.seq) [] f.g (f.se ++ f.no)
 fr : 3 ≤ Gc.count 0 f.g.l
 cap : (f.se ++ f.no).length + 2 ≤ 8 * (NB - 3)
 ov : f.ov = false
 sq : 1 ≤ f.ep ∧ f.ep ≤ f.seq
 gk : ∀ x ∈ f.go, (getE f.se x.t.p).isSome = true
 n0 : getE f.no 0 = none
 g0 : getE f.go 0 = none
def curE (f : Fm) (p : Nat) : Option En := match getE f.no p with
 | some e => some e
 | none => if (getE f.go p).isSome then none else getE f.se p
theorem plO_form (o : Option En) : ∃ b i : Nat, plO o = .agg #[.int .i64 (b : Int), .int .i64 (i : Int)] := by
 cases o with
 | none => exact ⟨0, 0, rfl⟩
 | some e => exact ⟨e.b, e.i, rfl⟩
end Ftl
section
variable {NB B n : Nat} {R : Nat → Prop} {w : World} {f : Fm} {x : List Nat} {E : List En}
theorem fready_calls (h : FtM NB B R w f) :
  Calls Tryz.prog 112 #[.pointer (some ⟨f.F, 0, none⟩)] w fun e w' => e = .returned (.int .i64 0) ∧ w = w' := by
 have c0 := h.c0
 have HU := hid (fUp_calls h)
 clear h
 go_enter Tryz.func112, Tryz.ntmps112
 go_wp2_with fail
 refine (HU.out).mono ?_
 rintro e w_ ⟨rfl, rfl⟩
 go_wp2
 go_ret
 exact ⟨rfl, rfl⟩
theorem fsize_calls (h : FtM NB B R w f) :
  Calls Tryz.prog 113 #[.pointer (some ⟨f.F, 0, none⟩)] w fun e w' => e = .returned (.int .i64 64) ∧ Below w.heap.size w w' := by
 have c0 := h.c0
 have HU := hid (fGeo_calls h)
 clear h
 go_enter Tryz.func113, Tryz.ntmps113
 go_wp2_with fail
 refine HU.out.mono ?_
 rintro e w1 ⟨rfl, hb⟩
 have HB := hid hb
 clear hb c0
 have hf := geoF2 (.int .i64 (NB : Int)) (.int .i64 8) (.int .i64 64)
 unfold geoV
 go_wp2
 go_ret
 exact ⟨rfl, HB.out⟩
theorem fdataBlocks_calls (hn : 5 ≤ NB ∧ NB ≤ 1000) :
  Calls Tryz.prog 63 #[.agg #[.int .i64 (NB : Int), .int .i64 8, .int .i64 64], .int .i64 2, .int .i64 0] w fun e w' => e = .returned (.int .i64 ((NB : Int) - 3)) ∧ Below w.heap.size w w' := by
 have i1 := IntWalk.i64_in ((NB : Int)) ⟨by omega, by omega⟩
 have i2 := IntWalk.i64_in ((NB : Int) - 2) ⟨by omega, by omega⟩
 have i3 := IntWalk.i64_in ((NB : Int) - 3) ⟨by omega, by omega⟩
 have e3 : (NB : Int) - 2 - 1 = (NB : Int) - 3 := by omega
 have hcs := geoCells
 have HB := hid ((Below.refl w.heap.size w).alloc (Nat.le_refl _) (.cells #[.int .i64 (NB : Int), .int .i64 8, .int .i64 64] 66))
 clear hn
 go_enter Tryz.func63, Tryz.ntmps63
 go_wp2
 go_ret
 exact ⟨rfl, HB.out⟩
theorem fCapacity_calls (h : FtM NB B R w f) (hi : Fi NB n x f.g E) :
  Calls Tryz.prog 26 #[.pointer (some ⟨f.F, 0, none⟩)] w fun e w' => e = .returned (.int .i64 (((NB : Int) - 3) * 8 - 2)) ∧ Below w.heap.size w w' := by
 have c0 := h.c0
 have HH := hid h
 have HU := hid (fGeo_calls h)
 have HNb := hid hi.nb
 have HD := hid (fun (W : World) => fdataBlocks_calls (w := W) hi.nb)
 have hres := hid hi.res
 have hbad := hid hi.bad
 have i1 := IntWalk.i64_in (((NB : Int) - 3) * 8) ⟨by have := HNb.out; omega, by have := HNb.out; omega⟩
 have i2 := IntWalk.i64_in (((NB : Int) - 3) * 8 - 2) ⟨by have := HNb.out; omega, by have := HNb.out; omega⟩
 have hcs := geoCells
 clear h hi
 go_enter Tryz.func26, Tryz.ntmps26
 go_wp2_with fail
 refine HU.out.mono ?_
 rintro e w1 ⟨rfl, hb⟩
 have HB1 := hid (hb.alloc hb.size (.cells #[.int .i64 (NB : Int), .int .i64 8, .int .i64 64] 66))
 have HK := hid (Blk.new w1 66 #[.int .i64 (NB : Int), .int .i64 8, .int .i64 64])
 clear hb c0
 unfold geoV
 go_upto_region 4 with fail
 generalize w1.alloc (.cells #[.int .i64 (NB : Int), .int .i64 8, .int .i64 64] 66) = w2 at *
 generalize w1.heap.size = Q at *
 have HS0 := hid (show Below w2.heap.size w2 w2.drew from below_drew w2)
 have HHo := hid (fun (W' : World) (hW : Below w2.heap.size w2 W') => (HH.out.on HB1.out).on hW)
 have HKo := hid (fun (W' : World) (hW : Below w2.heap.size w2 W') => Blk.belowHere HK.out hW)
 refine wp_region_noPanic ?_
 refine wp_region_held_drew (S := (fun W' => Below w2.heap.size w2 W')) (by kernel_rfl) HS0.out (fun hS0 => ?_)
 refine tk 0 ((.agg #[.int .i64 (NB : Int), .int .i64 8, .int .i64 64])) rfl (fun W hSw => ?_) ?_
 ·have y0 := Blk.cellv (i := 0) (HKo.out W hSw) rfl; have y1 := Blk.cellv (i := 1) (HKo.out W hSw) rfl; have y2 := Blk.cellv (i := 2) (HKo.out W hSw) rfl
  go_simp
 try simp only [layR]
 refine tk 1 ((.pointer (some ⟨f.F, 0, none⟩))) rfl (fun _ _ => rfl) ?_
 try simp only [layR]
 refine tk 2 ((.pointer (some ⟨f.F, 0, none⟩))) rfl (fun W hSw => ?_) ?_
 ·skip
  go_simp
 try simp only [layR]
 refine tk 3 ((.pointer (some ⟨f.F, 2, none⟩))) rfl (fun W hSw => ?_) ?_
 ·skip
  go_simp
 try simp only [layR]
 refine tk 4 ((.int .i64 2)) rfl (fun W hSw => ?_) ?_
 ·have y9 := (HHo.out W hSw).c2; rw [hres.out] at y9
  go_simp
 try simp only [layR]
 refine tk 5 ((.pointer (some ⟨f.F, 0, none⟩))) rfl (fun _ _ => rfl) ?_
 try simp only [layR]
 refine tk 6 ((.pointer (some ⟨f.F, 0, none⟩))) rfl (fun W hSw => ?_) ?_
 ·skip
  go_simp
 try simp only [layR]
 refine tk 7 ((.pointer (some ⟨f.F, 3, none⟩))) rfl (fun W hSw => ?_) ?_
 ·skip
  go_simp
 try simp only [layR]
 refine tk 8 ((.int .i64 0)) rfl (fun W hSw => ?_) ?_
 ·have y9 := (HHo.out W hSw).c3; rw [hbad.out] at y9
  go_simp
 try simp only [layR]
 refine tk 10 ((.pointer (some ⟨Q, 1, none⟩))) rfl (fun W hSw => ?_) ?_
 ·skip
  go_simp
 try simp only [layR]
 refine tk 11 ((.int .i64 8)) rfl (fun W hSw => ?_) ?_
 ·have y1 := Blk.cellv (i := 1) (HKo.out W hSw) rfl
  go_simp
 try simp only [layR]
 refine rd 9 rfl (fun K' hK => ?_)
 go_simp
 refine (HD.out _).mono ?_
 rintro e w3 ⟨rfl, hb3⟩
 have hS1 := hS0.then_ hb3
 clear hb3
 refine hK.out _ _ hS1 (fun hS2 => ?_)
 try simp only [layR]
 refine tk 12 ((.int .i64 (((NB : Int) - 3) * 8))) rfl (fun W hSw => ?_) ?_
 ·skip
  go_simp
 try simp only [layR]
 refine tk 13 ((.int .i64 (((NB : Int) - 3) * 8 - 2))) rfl (fun W hSw => ?_) ?_
 ·skip
  go_simp
 try simp only [layR]
 refine tk 14 ((.int .i64 (((NB : Int) - 3) * 8 - 2))) rfl (fun _ _ => rfl) ?_
 try simp only [layR]
 refine wpAnyH_done (by kernel_rfl) ?_ _
 refine NoPanic.normal ?_
 have HB3 := hid (HB1.out.then_ hS2)
 clear hS0 hS1 hS2
 go_wp2
 go_ret
 exact ⟨rfl, HB3.out⟩
theorem fReadOnly_calls (h : FtM NB B R w f) (hi : Fi NB n x f.g E) (ho : f.ov = false) :
  Calls Tryz.prog 114 #[.pointer (some ⟨f.F, 0, none⟩)] w fun e w' => e = .returned (.bool false) ∧ Below w.heap.size w w' := by
 have HL := hid (fLeft_calls h hi)
 have c1 := h.c1
 have c11 := h.c11
 rw [ho] at c11
 clear h hi ho
 go_enter Tryz.func114, Tryz.ntmps114
 go_wp2_with fail
 refine HL.out.mono ?_
 rintro e w1 ⟨rfl, hb⟩
 have HB := hid hb
 clear hb c1 c11
 go_wp2
 go_ret
 exact ⟨rfl, HB.out⟩
theorem flogical_calls (h : FtM NB B R w f) (hi : Fi NB n x f.g E) (p : Nat) (hp : p < 4294967296) :
  Calls Tryz.prog 122 #[.pointer (some ⟨f.F, 0, none⟩), .int .u32 (p : Int)] w fun e w' => e = .returned (.int .i64 (if p = 0 ∨ ((NB : Int) - 3) * 8 - 2 ≤ (p : Int) then 1 else 0)) ∧ Below w.heap.size w w' := by
 have HR := hid (fready_calls h)
 have HC := hid (fCapacity_calls h hi)
 clear h hi
 by_cases h0 : p = 0
 ·subst h0
  rw [if_pos (.inl rfl)]
  go_enter Tryz.func122, Tryz.ntmps122
  go_wp2_with fail
  refine (HR.out).mono ?_
  rintro e w_ ⟨rfl, rfl⟩
  go_wp2
  go_ret
  exact ⟨rfl, Below.refl _ _⟩
 ·have hz : ((p : Int) == 0) = false := by rw [beq_eq_false_iff_ne]; omega
  have iw := IntWalk.i64_in (p : Int) ⟨by omega, by omega⟩
  obtain ⟨C, hC⟩ : ∃ C, C = ((NB : Int) - 3) * 8 - 2 := ⟨_, rfl⟩
  rw [← hC] at HC ⊢
  clear hC
  by_cases h1 : C ≤ (p : Int)
  ·rw [if_pos (.inr h1)]
   go_enter Tryz.func122, Tryz.ntmps122
   go_wp2_with fail
   refine (HR.out).mono ?_
   rintro e w_ ⟨rfl, rfl⟩
   go_wp2_with fail
   refine HC.out.mono ?_
   rintro e w1 ⟨rfl, hb⟩
   have HB := hid hb
   clear hb
   go_wp2
   go_ret
   exact ⟨rfl, HB.out⟩
  ·rw [if_neg (by rintro (e | e); exact h0 e; exact h1 e)]
   go_enter Tryz.func122, Tryz.ntmps122
   go_wp2_with fail
   refine (HR.out).mono ?_
   rintro e w_ ⟨rfl, rfl⟩
   go_wp2_with fail
   refine HC.out.mono ?_
   rintro e w1 ⟨rfl, hb⟩
   have HB := hid hb
   clear hb
   go_wp2
   go_ret
   exact ⟨rfl, HB.out⟩
end
end
section
open Go.RowKit Ftl

theorem placeCells : Tryz.prog.cellsOf 184 = 2 := by kernel_rfl
section
variable {NB B n : Nat} {R : Nat → Prop} {w : World} {f : Fm} {x : List Nat} {E : List En}
end
end
section
open Go.RowKit Ftl

section
variable {NB B n : Nat} {R : Nat → Prop} {w : World} {f : Fm}
structure PlZ (w : World) (Z : Nat) (b i : Nat) : Prop where
 k0 : w.cell? ⟨Z, 0, none⟩ = some (.int .i64 0)
 k1 : w.cell? ⟨Z, 1, none⟩ = some (.int .i64 0)
 f0 : w.frozen? ⟨Z, 0, none⟩ = false
 f1 : w.frozen? ⟨Z, 1, none⟩ = false
 q0 : ((w.setCell ⟨Z, 0, none⟩ (.int .i64 (b : Int))).setCell ⟨Z, 1, none⟩ (.int .i64 (i : Int))).cell? ⟨Z, 0, none⟩ = some (.int .i64 (b : Int))
 q1 : ((w.setCell ⟨Z, 0, none⟩ (.int .i64 (b : Int))).setCell ⟨Z, 1, none⟩ (.int .i64 (i : Int))).cell? ⟨Z, 1, none⟩ = some (.int .i64 (i : Int))
theorem plZ {Z : Nat} (h : Blk w Z 184 #[.int .i64 0, .int .i64 0]) (b i : Nat) : PlZ w Z b i := by
 have hs := (h.set 0 (.int .i64 (b : Int))).set 1 (.int .i64 (i : Int))
 exact ⟨h.cellv rfl, h.cellv rfl, h.frozen 0, h.frozen 1, hs.cellv (i := 0) rfl, hs.cellv (i := 1) rfl⟩
theorem MapE.lookT {b : Nat} {l : List En} (h : MapE w b l) {p : Nat} (hp : p < 4294967296) {o : Option En} (e1 : getE l p = o) {x y : Nat} (e2 : plO o = .agg #[.int .i64 (x : Int), .int .i64 (y : Int)]) {t : Bool} (e3 : o.isSome = t) :
  (Instr.lookup 135 (.map (some b)) (.int .u32 (p : Int)) true).run Tryz.prog w = .ok (.tuple #[.agg #[.int .i64 (x : Int), .int .i64 (y : Int)], .bool t]) w := by
 have := h.look hp true
 rw [e1, e2, e3] at this
 exact this
theorem fat_calls (h : FtM NB B R w f) (p : Nat) (hp : p < 4294967296) :
  Calls Tryz.prog 123 #[.pointer (some ⟨f.F, 0, none⟩), .int .u32 (p : Int)] w fun e w' => e = .returned (.tuple #[plO (curE f p), .bool (curE f p).isSome]) ∧ Below w.heap.size w w' := by
 have hcs := placeCells
 have hb0 := (Below.refl w.heap.size w).alloc (Nat.le_refl _) (.cells #[.int .i64 0, .int .i64 0] 184)
 have H1 := hid (h.on hb0)
 have HZ := hid (Blk.new w 184 #[.int .i64 0, .int .i64 0])
 have HB0 := hid hb0
 clear h hb0
 have HC := hid (show curE f p = match getE f.no p with
  | some e => some e
  | none => if (getE f.go p).isSome then none else getE f.se p from rfl)
 go_enter Tryz.func123, Tryz.ntmps123
 go_upto_region 1 with fail
 generalize w.alloc (.cells #[.int .i64 0, .int .i64 0] 184) = w1 at *
 obtain ⟨Z, hZ⟩ : ∃ Z, Z = w.heap.size := ⟨_, rfl⟩
 rw [← hZ] at HZ ⊢
 have HZe := hid hZ
 clear hZ
 have c6 := H1.out.c6
 obtain ⟨b1, i1, e1⟩ := plO_form (getE f.no p)
 have hb1 := (Below.refl w1.heap.size w1).alloc (Nat.le_refl _) (.cells #[.int .i64 (b1 : Int), .int .i64 (i1 : Int)] 184)
 have HK1 := hid (Blk.new w1 184 #[.int .i64 (b1 : Int), .int .i64 (i1 : Int)])
 have H2 := hid (H1.out.on hb1)
 have HZ2 := hid (HZ.out.belowHere hb1)
 have HB1 := hid (HB0.out.then_ hb1)
 clear hb1
 cases hno : getE f.no p with
 | some e =>
  have hl1 := H1.out.hN.lookT hp hno (by rw [← hno]; exact e1) rfl
  rw [hno] at HC e1
  have HE := hid e1
  clear hno e1
  have hl1 : (Instr.lookup 135 (.map (some f.NO)) (.int .u32 (p : Int)) true).run Tryz.prog w1 = .ok (.tuple #[.agg #[.int .i64 (b1 : Int), .int .i64 (i1 : Int)], .bool true]) w1 := hl1
  go_upto_region 2 with fail
  generalize w1.alloc (.cells #[.int .i64 (b1 : Int), .int .i64 (i1 : Int)] 184) = w2 at *
  obtain ⟨k0, k1, f0, f1, q0, q1⟩ := plZ HZ2.out b1 i1
  have y0 := Blk.cellv (i := 0) HK1.out rfl
  have y1 := Blk.cellv (i := 1) HK1.out rfl
  have HF := hid ((HB1.out.setCell (p := ⟨Z, 0, none⟩) (by rw [HZe.out]; exact Nat.le_refl _) (.int .i64 (b1 : Int))).setCell (p := ⟨Z, 1, none⟩) (by rw [HZe.out]; exact Nat.le_refl _) (.int .i64 (i1 : Int)))
  go_wp2_with fail
  refine bodyPost_ret (v := .tuple #[.agg #[.int .i64 (b1 : Int), .int .i64 (i1 : Int)], .bool true]) (by simp [results, Tryz.results123, go_sem, q0, q1]) rfl ⟨?_, HF.out⟩
  rw [HC.out]
  show _ = Ending.returned (.tuple #[plO (some e), .bool true])
  rw [HE.out]
 | none =>
  have hl1 := H1.out.hN.lookT hp hno (by rw [← hno]; exact e1) rfl
  rw [hno] at HC
  clear hno e1
  have hl1 : (Instr.lookup 135 (.map (some f.NO)) (.int .u32 (p : Int)) true).run Tryz.prog w1 = .ok (.tuple #[.agg #[.int .i64 (b1 : Int), .int .i64 (i1 : Int)], .bool false]) w1 := hl1
  go_upto_region 2 with fail
  generalize w1.alloc (.cells #[.int .i64 (b1 : Int), .int .i64 (i1 : Int)] 184) = w2 at *
  clear hl1 c6
  have c7 := H2.out.c7
  obtain ⟨b2, i2, e2⟩ := plO_form (getE f.go p)
  have hb2 := (Below.refl w2.heap.size w2).alloc (Nat.le_refl _) (.cells #[.int .i64 (b2 : Int), .int .i64 (i2 : Int)] 184)
  have H3 := hid (H2.out.on hb2)
  have HZ3 := hid (HZ2.out.belowHere hb2)
  have HB2 := hid (HB1.out.then_ hb2)
  clear hb2
  cases hgo : getE f.go p with
  | some e =>
   have hl2 := H2.out.hG.lookT hp hgo (by rw [← hgo]; exact e2) rfl
   rw [hgo] at HC
   clear hgo e2
   have hl2 : (Instr.lookup 135 (.map (some f.GO)) (.int .u32 (p : Int)) true).run Tryz.prog w2 = .ok (.tuple #[.agg #[.int .i64 (b2 : Int), .int .i64 (i2 : Int)], .bool true]) w2 := hl2
   go_upto_region 5 with fail
   generalize w2.alloc (.cells #[.int .i64 (b2 : Int), .int .i64 (i2 : Int)] 184) = w3 at *
   clear hl2 c7
   obtain ⟨k0, k1, f0, f1, q0, q1⟩ := plZ HZ3.out 0 0
   have q0 : ((w3.setCell ⟨Z, 0, none⟩ (.int .i64 0)).setCell ⟨Z, 1, none⟩ (.int .i64 0)).cell? ⟨Z, 0, none⟩ = some (.int .i64 0) := q0
   have q1 : ((w3.setCell ⟨Z, 0, none⟩ (.int .i64 0)).setCell ⟨Z, 1, none⟩ (.int .i64 0)).cell? ⟨Z, 1, none⟩ = some (.int .i64 0) := q1
   have HF := hid ((HB2.out.setCell (p := ⟨Z, 0, none⟩) (by rw [HZe.out]; exact Nat.le_refl _) (.int .i64 0)).setCell (p := ⟨Z, 1, none⟩) (by rw [HZe.out]; exact Nat.le_refl _) (.int .i64 0))
   go_wp2_with fail
   refine bodyPost_ret (v := .tuple #[.agg #[.int .i64 0, .int .i64 0], .bool false]) (by simp [results, Tryz.results123, go_sem, q0, q1]) rfl ⟨?_, HF.out⟩
   rw [HC.out]
   rfl
  | none =>
   have hl2 := H2.out.hG.lookT hp hgo (by rw [← hgo]; exact e2) rfl
   rw [hgo] at HC
   clear hgo e2
   have hl2 : (Instr.lookup 135 (.map (some f.GO)) (.int .u32 (p : Int)) true).run Tryz.prog w2 = .ok (.tuple #[.agg #[.int .i64 (b2 : Int), .int .i64 (i2 : Int)], .bool false]) w2 := hl2
   go_upto_region 5 with fail
   generalize w2.alloc (.cells #[.int .i64 (b2 : Int), .int .i64 (i2 : Int)] 184) = w3 at *
   clear hl2 c7
   have c5 := H3.out.c5
   obtain ⟨b3, i3, e3⟩ := plO_form (getE f.se p)
   obtain ⟨sf, hsf⟩ : ∃ sf, (getE f.se p).isSome = sf := ⟨_, rfl⟩
   have hl3 := H3.out.hS.lookT hp rfl e3 hsf
   have hb3 := (Below.refl w3.heap.size w3).alloc (Nat.le_refl _) (.cells #[.int .i64 (b3 : Int), .int .i64 (i3 : Int)] 184)
   have HK3 := hid (Blk.new w3 184 #[.int .i64 (b3 : Int), .int .i64 (i3 : Int)])
   have HZ4 := hid (HZ3.out.belowHere hb3)
   have HB3 := hid (HB2.out.then_ hb3)
   have HE := hid e3
   have HSf := hid hsf
   clear hb3 e3 hsf
   go_upto_region 8 with fail
   generalize w3.alloc (.cells #[.int .i64 (b3 : Int), .int .i64 (i3 : Int)] 184) = w4 at *
   clear hl3 c5
   obtain ⟨k0, k1, f0, f1, q0, q1⟩ := plZ HZ4.out b3 i3
   have y0 := Blk.cellv (i := 0) HK3.out rfl
   have y1 := Blk.cellv (i := 1) HK3.out rfl
   have HF := hid ((HB3.out.setCell (p := ⟨Z, 0, none⟩) (by rw [HZe.out]; exact Nat.le_refl _) (.int .i64 (b3 : Int))).setCell (p := ⟨Z, 1, none⟩) (by rw [HZe.out]; exact Nat.le_refl _) (.int .i64 (i3 : Int)))
   go_wp2_with fail
   refine bodyPost_ret (v := .tuple #[.agg #[.int .i64 (b3 : Int), .int .i64 (i3 : Int)], .bool sf]) (by simp [results, Tryz.results123, go_sem, q0, q1]) rfl ⟨?_, HF.out⟩
   rw [HC.out]
   show _ = Ending.returned (.tuple #[plO (getE f.se p), .bool (getE f.se p).isSome])
   rw [HE.out, HSf.out]
end
end
end Go.Proofs.YtcppkaphlcflgaaGreat
