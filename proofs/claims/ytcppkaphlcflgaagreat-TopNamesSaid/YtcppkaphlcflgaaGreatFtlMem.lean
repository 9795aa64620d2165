import Derived.Test.YtcppkaphlcflgaaGreatBlkProg2
import Derived.Test.YtcppkaphlcflgaaGreatFtlMap
import Derived.Test.YtcppkaphlcflgaaGreatBlkOpen
import Derived.Test.YtcppkaphlcflgaaGreatChRead
namespace Go.Proofs.YtcppkaphlcflgaaGreat
open Lib (hid)
set_option maxRecDepth 100000
set_option maxHeartbeats 16000000
section
open Go.RowKit

namespace Gap
def hi (f : Nat → Nat) : Nat → Nat
 | 0 => 0
 | k + 1 => if k = 0 ∨ hi f k < f k then f k else hi f k
end Gap
section
variable {NB B C BL : Nat} {S : Nat → Prop} {w : World} {ps : Nat → Nat} {bl : Nat → Pb}
end
end
section
open Go.RowKit

namespace Wears
structure BkI (opn : Int) (k : Nat) (x : Bk) (p : Pb) (c n : Nat) : Prop where
 st : x.st ≤ 3
 lv : x.live = c
 nx : x.nx ≤ 8
 l8 : x.live ≤ 8
 op : x.st = 1 → opn = (k : Int) ∧ 1 ≤ x.nx ∧ x.nx < 8 ∧ p.nx = x.nx ∧ x.live ≤ x.nx
 fr : x.st = 0 → x.live = 0 ∧ p.nx = 0
 fu : x.st = 2 → 0 < x.live
 sl : x.st = 3 → x.live = 0
 we : p.wear = x.wear
 wn : x.wear ≤ n
 bad : p.bad = false
 brk : p.broken = false
structure Inv (NB : Nat) (g : Mg) (held : List Nat) (n : Nat) : Prop where
 len : g.l.length = NB
 bk : ∀ k, k < NB → BkI g.opn k (Gc.at_ g.l k) (g.bl k) (held.count k) n
 gap : ∀ i j, i < NB → j < NB → (Gc.at_ g.l i).wear ≤ (Gc.at_ g.l j).wear + 4
 opn : g.opn = -1 ∨ ∃ k : Nat, k < NB ∧ g.opn = (k : Int) ∧ (Gc.at_ g.l k).st = 1
 even : g.even = false
 hm : ∀ h ∈ held, h < NB
 hl : held.length ≤ n
theorem count_set {l : List Nat} {i v q : Nat} (hi : i < l.length) : (l.set i v).count q + (if l[i] = q then 1 else 0) = l.count q + (if v = q then 1 else 0) := by
 induction l generalizing i with
 | nil => simp at hi
 | cons a l ih =>
  cases i with
  | zero => simp only [List.set_cons_zero, List.count_cons, List.getElem_cons_zero, beq_iff_eq]; omega
  | succ i =>
   have := ih (i := i) (by simpa using hi)
   simp only [List.set_cons_succ, List.count_cons, List.getElem_cons_succ, beq_iff_eq] at *
   omega
def takeOut (l : List Nat) (i : Nat) : List Nat := (l.set i (l.getD (l.length - 1) 0)).take (l.length - 1)
theorem count_takeOut {l : List Nat} {i q : Nat} (hi : i < l.length) : (takeOut l i).count q + (if l[i] = q then 1 else 0) = l.count q := by
 obtain ⟨v, hv⟩ : ∃ v, v = l.getD (l.length - 1) 0 := ⟨_, rfl⟩
 have hv2 : l[l.length - 1]'(by omega) = v := by rw [hv, List.getD_eq_getElem?_getD, List.getElem?_eq_getElem (by omega)]; rfl
 have hlen : (l.set i v).length = l.length := List.length_set ..
 have h1 := count_set (l := l) (i := i) (v := v) (q := q) hi
 have hlast : (l.set i v)[l.length - 1]'(by omega) = v := by
  rw [List.getElem_set]
  split
  ·rfl
  ·exact hv2
 have h2 : l.set i v = takeOut l i ++ [v] := by
  unfold takeOut
  rw [← hv]
  conv => lhs; rw [← List.take_append_drop (l.length - 1) (l.set i v)]
  congr 1
  rw [List.drop_eq_getElem_cons (by omega), hlast, List.drop_eq_nil_of_le (by omega)]
 rw [h2, List.count_append] at h1
 simp only [List.count_cons, List.count_nil, beq_iff_eq] at h1
 omega
theorem takeOut_len {l : List Nat} {i : Nat} : (takeOut l i).length = l.length - 1 := by
 unfold takeOut; rw [List.length_take, List.length_set]; omega
theorem takeOut_mem {l : List Nat} {i : Nat} (hi : i < l.length) {h : Nat} (hh : h ∈ takeOut l i) : h ∈ l := by
 have h1 := List.count_pos_iff.2 hh
 have h2 := count_takeOut (q := h) hi
 exact List.count_pos_iff.1 (by omega)
theorem Inv.drop {NB : Nat} {g : Mg} {held : List Nat} {n i : Nat} (h : Inv NB g held n) (hi : i < held.length) : Inv NB { g with l := g.l.set held[i] (dropB (Gc.at_ g.l held[i])) } (takeOut held i) (n + 1) := by
 have hk := h.hm _ (List.getElem_mem hi)
 have hct := fun q => count_takeOut (q := q) hi
 generalize hke : held[i] = k at *
 have hl := h.len
 have hb := h.bk k hk
 have hc := hct k
 rw [if_pos rfl] at hc
 have hpos : 0 < (Gc.at_ g.l k).live := by rw [hb.lv]; omega
 refine ⟨by simpa using hl, fun q hq => ?_, fun a b ha hb2 => ?_, ?_, h.even, fun x hx => h.hm x (takeOut_mem hi hx), by rw [takeOut_len]; have := h.hl; omega⟩
 ·by_cases e : q = k
  ·subst e
   show BkI g.opn q (Gc.at_ (g.l.set q _) q) (g.bl q) _ _
   rw [at_set _ _ (by omega)]
   have hz : (dropB (Gc.at_ g.l q)).live = (Gc.at_ g.l q).live - 1 := rfl
   have hw : (dropB (Gc.at_ g.l q)).wear = (Gc.at_ g.l q).wear := rfl
   have hx : (dropB (Gc.at_ g.l q)).nx = (Gc.at_ g.l q).nx := rfl
   have hs : (dropB (Gc.at_ g.l q)).st = if (Gc.at_ g.l q).st = 2 ∧ (Gc.at_ g.l q).live - 1 = 0 then 3 else (Gc.at_ g.l q).st := rfl
   obtain ⟨b1, b2, b3, b4, b5, b6, b7, b8, b9, b10, b11, b12⟩ := hb
   by_cases hd : (Gc.at_ g.l q).st = 2 ∧ (Gc.at_ g.l q).live - 1 = 0
   ·rw [if_pos hd] at hs
    exact ⟨by omega, by omega, by omega, by omega, fun e => by omega, fun e => by omega, fun e => by omega, fun e => by omega, by rw [hw]; exact b9, by omega, b11, b12⟩
   ·rw [if_neg hd] at hs
    refine ⟨by omega, by omega, by omega, by omega, fun e => ?_, fun e => ?_, fun e => ?_, fun e => ?_, by rw [hw]; exact b9, by omega, b11, b12⟩
    ·rw [hs] at e
     obtain ⟨c1, c2, c3, c4, c5⟩ := b5 e
     rw [hz, hx]
     exact ⟨c1, c2, c3, c4, by omega⟩
    ·rw [hs] at e; have := b6 e; omega
    ·rw [hs] at e; omega
    ·rw [hs] at e; have := b8 e; omega
  ·show BkI g.opn q (Gc.at_ (g.l.set k _) q) (g.bl q) _ _
   rw [at_set_other _ _ e]
   have hq2 := h.bk q hq
   have := hct q
   rw [if_neg (Ne.symm e)] at this
   obtain ⟨b1, b2, b3, b4, b5, b6, b7, b8, b9, b10, b11, b12⟩ := hq2
   exact ⟨b1, by omega, b3, b4, b5, b6, b7, b8, b9, by omega, b11, b12⟩
 ·have hw : ∀ q, (Gc.at_ (g.l.set k (dropB (Gc.at_ g.l k))) q).wear = (Gc.at_ g.l q).wear := fun q => by
   by_cases e : q = k
   ·subst e; rw [at_set _ _ (by omega)]; rfl
   ·rw [at_set_other _ _ e]
  show (Gc.at_ (g.l.set k _) a).wear ≤ (Gc.at_ (g.l.set k _) b).wear + 4
  rw [hw, hw]
  exact h.gap a b ha hb2
 ·rcases h.opn with ho | ⟨q, q1, q2, q3⟩
  ·exact .inl ho
  ·refine .inr ⟨q, q1, q2, ?_⟩
   show (Gc.at_ (g.l.set k _) q).st = 1
   by_cases e : q = k
   ·subst e
    rw [at_set _ _ (by omega)]
    show (if (Gc.at_ g.l q).st = 2 ∧ (Gc.at_ g.l q).live - 1 = 0 then 3 else (Gc.at_ g.l q).st) = 1
    rw [if_neg (by omega)]
    exact q3
   ·rw [at_set_other _ _ e]; exact q3
end Wears
end
section
open Go.RowKit

namespace Wears
theorem Inv.put {NB : Nat} {g g' : Mg} {held held' : List Nat} {n k : Nat} {y : Bk} {p : Pb} (h : Inv NB g held n) (hk : k < NB) (hl : g'.l = g.l.set k y) (hb : g'.bl = upd g.bl k p) (he : g'.even = g.even) (hB : BkI g'.opn k y p (held'.count k) (n + 1))
  (hc : ∀ q, q ≠ k → held'.count q = held.count q) (ho : ∀ q, q < NB → q ≠ k → (Gc.at_ g.l q).st = 1 → g'.opn = (q : Int)) (hg : ∀ j, j < NB → y.wear ≤ (Gc.at_ g.l j).wear + 4 ∧ (Gc.at_ g.l j).wear ≤ y.wear + 4)
  (hop : g'.opn = -1 ∨ ∃ q : Nat, q < NB ∧ g'.opn = (q : Int) ∧ (Gc.at_ (g.l.set k y) q).st = 1) (hm : ∀ x ∈ held', x < NB) (hh : held'.length ≤ n + 1) : Inv NB g' held' (n + 1) := by
 have hlen := h.len
 refine ⟨by rw [hl, List.length_set]; exact hlen, fun q hq => ?_, fun a b ha hb2 => ?_, by rw [hl]; exact hop, by rw [he]; exact h.even, hm, hh⟩
 ·rw [hl, hb]
  by_cases e : q = k
  ·subst e
   rw [at_set _ _ (by omega), upd_same]
   exact hB
  ·rw [at_set_other _ _ e, upd_other _ _ e, hc q e]
   obtain ⟨b1, b2, b3, b4, b5, b6, b7, b8, b9, b10, b11, b12⟩ := h.bk q hq
   exact ⟨b1, b2, b3, b4, fun e1 => ⟨ho q hq e e1, (b5 e1).2⟩, b6, b7, b8, b9, by omega, b11, b12⟩
 ·rw [hl]
  by_cases ea : a = k
  ·subst ea
   rw [at_set _ _ (by omega)]
   by_cases eb : b = a
   ·subst eb; rw [at_set _ _ (by omega)]; omega
   ·rw [at_set_other _ _ eb]; exact (hg b hb2).1
  ·rw [at_set_other _ _ ea]
   by_cases eb : b = k
   ·subst eb; rw [at_set _ _ (by omega)]; exact (hg a ha).2
   ·rw [at_set_other _ _ eb]; exact h.gap a b ha hb2
theorem count_snoc_same (held : List Nat) (k : Nat) : (held ++ [k]).count k = held.count k + 1 := by simp
theorem count_snoc_other (held : List Nat) {k q : Nat} (h : q ≠ k) : (held ++ [k]).count q = held.count q := by
 simp only [List.count_append, List.count_cons, List.count_nil, beq_iff_eq]
 rw [if_neg (Ne.symm h)]
 omega
theorem Inv.prog {NB : Nat} {g : Mg} {held : List Nat} {n k : Nat} {bs : List UInt8} (h : Inv NB g held n) (hk : k < NB) (ho : g.opn = (k : Int)) (hs : (Gc.at_ g.l k).st = 1) : Inv NB (prG g k (Gc.at_ g.l k).nx bs) (held ++ [k]) (n + 1) := by
 have hlen := h.len
 have hb := h.bk k hk
 obtain ⟨o1, o2, o3, o4, o5⟩ := hb.op hs
 have hw := hb.we
 have hwn := hb.wn
 have hlv := hb.lv
 by_cases e8 : (Gc.at_ g.l k).nx + 1 = 8
 ·have e1 : (prG g k (Gc.at_ g.l k).nx bs).opn = -1 := if_pos e8
  have e2 : (prG g k (Gc.at_ g.l k).nx bs).l = g.l.set k ⟨2, (Gc.at_ g.l k).live + 1, (Gc.at_ g.l k).wear, (Gc.at_ g.l k).nx + 1⟩ := by unfold prG; simp only [if_pos e8]
  refine h.put hk e2 rfl rfl ⟨by show 2 ≤ 3; omega, by rw [count_snoc_same, ← hlv], by show (Gc.at_ g.l k).nx + 1 ≤ 8; omega, by show (Gc.at_ g.l k).live + 1 ≤ 8; omega, fun e => (by cases e), fun e => (by cases e), fun _ => Nat.succ_pos _, fun e => (by cases e), hw, by show (Gc.at_ g.l k).wear ≤ n + 1; omega, hb.bad, hb.brk⟩ (fun q hq => count_snoc_other held hq)
   (fun q hq hqk h1 => by have := ((h.bk q hq).op h1).1; omega) (fun j hj => ⟨h.gap k j hk hj, h.gap j k hj hk⟩) (.inl e1) (fun x hx => by rcases List.mem_append.1 hx with h1 | h1; exact h.hm x h1; simp at h1; omega) (by rw [List.length_append]; have := h.hl; simp; omega)
 ·have e1 : (prG g k (Gc.at_ g.l k).nx bs).opn = g.opn := if_neg e8
  have e2 : (prG g k (Gc.at_ g.l k).nx bs).l = g.l.set k ⟨(Gc.at_ g.l k).st, (Gc.at_ g.l k).live + 1, (Gc.at_ g.l k).wear, (Gc.at_ g.l k).nx + 1⟩ := by unfold prG; simp only [if_neg e8]
  refine h.put hk e2 rfl rfl ⟨hb.st, by rw [count_snoc_same, ← hlv], by show (Gc.at_ g.l k).nx + 1 ≤ 8; omega, by show (Gc.at_ g.l k).live + 1 ≤ 8; omega, fun _ => ⟨by rw [e1]; exact ho, by show 1 ≤ (Gc.at_ g.l k).nx + 1; omega, by show (Gc.at_ g.l k).nx + 1 < 8; omega, rfl, by show (Gc.at_ g.l k).live + 1 ≤ (Gc.at_ g.l k).nx + 1; omega⟩, fun e => (by have : (Gc.at_ g.l k).st = 0 := e; omega), fun _ => Nat.succ_pos _, fun e => (by have : (Gc.at_ g.l k).st = 3 := e; omega), hw, by show (Gc.at_ g.l k).wear ≤ n + 1; omega, hb.bad, hb.brk⟩ (fun q hq => count_snoc_other held hq)
   (fun q hq hqk h1 => by have := ((h.bk q hq).op h1).1; omega) (fun j hj => ⟨h.gap k j hk hj, h.gap j k hj hk⟩) (.inr ⟨k, hk, by rw [e1]; exact ho, by rw [at_set _ _ (by omega)]; exact hs⟩) (fun x hx => by rcases List.mem_append.1 hx with h1 | h1; exact h.hm x h1; simp at h1; omega) (by rw [List.length_append]; have := h.hl; simp; omega)
theorem Inv.open_ {NB : Nat} {g : Mg} {held : List Nat} {n k : Nat} {bs : List UInt8} (h : Inv NB g held n) (ho : g.opn = -1) (hbest : Gc.best isFree Gc.worn g.l NB = some k) : Inv NB (prG (beG g k) k 0 bs) (held ++ [k]) (n + 1) := by
 have hlen := h.len
 obtain ⟨hk, hf⟩ := Gc.best_some hbest
 have hs : (Gc.at_ g.l k).st = 0 := by unfold isFree at hf; rw [beq_iff_eq] at hf; omega
 have hb := h.bk k hk
 obtain ⟨o1, o2⟩ := hb.fr hs
 have hw := hb.we
 have hwn := hb.wn
 have hlv := hb.lv
 have hat : Gc.at_ (beG g k).l k = ⟨1, 0, (Gc.at_ g.l k).wear, 0⟩ := at_set _ _ (by omega)
 have e1 : (prG (beG g k) k 0 bs).opn = (k : Int) := rfl
 have e2 : (prG (beG g k) k 0 bs).l = g.l.set k ⟨1, 1, (Gc.at_ g.l k).wear, 1⟩ := by
  unfold prG
  simp only [hat]
  show (g.l.set k _).set k _ = _
  rw [List.set_set]
  rfl
 refine h.put hk e2 rfl rfl ⟨by show 1 ≤ 3; omega, by rw [count_snoc_same, ← hlv, o1], by show 1 ≤ 8; omega, by show 1 ≤ 8; omega, fun _ => ⟨e1, by show 1 ≤ 1; omega, by show 1 < 8; omega, rfl, by show 1 ≤ 1; omega⟩, fun e => (by cases e), fun e => (by cases e), fun e => (by cases e), hw, by show (Gc.at_ g.l k).wear ≤ n + 1; omega, hb.bad, hb.brk⟩ (fun q hq => count_snoc_other held hq)
  (fun q hq hqk h1 => by have := ((h.bk q hq).op h1).1; omega) (fun j hj => ⟨h.gap k j hk hj, h.gap j k hj hk⟩) (.inr ⟨k, hk, e1, by rw [at_set _ _ (by omega)]⟩) (fun x hx => by rcases List.mem_append.1 hx with h1 | h1; exact h.hm x h1; simp at h1; omega) (by rw [List.length_append]; have := h.hl; simp; omega)
theorem Inv.ok {NB : Nat} {g : Mg} {held : List Nat} {n : Nat} (h : Inv NB g held n) (hn : n ≤ 1099511627776) : ∀ k, k < NB → Gc.Ok 8 (Gc.at_ g.l k) := fun k hk =>
 let b := h.bk k hk
 ⟨by have := b.st; omega, b.l8, b.nx, by have := b.wn; omega, fun e => by rcases e with e | e | e; exact (b.fr e).1; exact b.sl e; have := b.st; omega⟩
theorem Inv.opn2 {NB : Nat} {g : Mg} {held : List Nat} {n : Nat} (h : Inv NB g held n) (hN : 0 < NB) : (g.opn = -1 ∨ (0 ≤ g.opn ∧ g.opn < (NB : Nat))) ∧ (Gc.at_ g.l g.opn.toNat).nx ≤ 8 := by
 rcases h.opn with e | ⟨k, k1, k2, _⟩
 ·refine ⟨.inl e, ?_⟩
  rw [e]
  exact (h.bk 0 (by omega)).nx
 ·refine ⟨.inr ⟨by omega, by omega⟩, ?_⟩
  rw [k2, Int.toNat_natCast]
  exact (h.bk k k1).nx
theorem Inv.full {NB : Nat} {g : Mg} {held : List Nat} {n : Nat} (h : Inv NB g held n) (ho : g.opn = -1) (hb : Gc.best isFree Gc.worn g.l NB = none) : roomOf g = 0 := by
 unfold roomOf
 rw [if_pos ho]
 have : Gc.count 0 g.l = 0 := by
  unfold Gc.count
  rw [List.length_eq_zero_iff, List.filter_eq_nil_iff]
  intro x hx
  obtain ⟨i, hi, rfl⟩ := List.getElem_of_mem hx
  have h1 := Gc.best_none hb i (by rw [← h.len]; exact hi)
  have e : Gc.at_ g.l i = g.l[i] := by rw [Gc.at_, List.getD_eq_getElem?_getD, List.getElem?_eq_getElem hi]; rfl
  rw [e] at h1
  unfold isFree at h1
  rw [beq_eq_false_iff_ne] at h1
  simp only [decide_eq_true_eq]
  omega
 rw [this]
 rfl
end Wears
end
section
open Go.RowKit Go.Maps Go.ChangeMaps

theorem Arr.kq {α : Type} {f : α → Value} {T : Nat → Prop} {w w' : World} {B n : Nat} {a : Option Addr} {xs : List α} (h : Arr f w B a n xs) (hB : B ≤ w.heap.size) (hk : Kq T w w') (hT : ∀ b o, a = some ⟨b, o, none⟩ → ¬ T b) : Arr f w' B a n xs := by
 obtain ⟨h1, h2, h3⟩ := h
 refine ⟨h1, h2, fun hn => ?_⟩
 obtain ⟨b, o, ha, hlt, hc⟩ := h3 hn
 exact ⟨b, o, ha, hlt, fun i hi => (World.cell?_of_block (a := ⟨b, _, none⟩) (hk.block b (by omega) (hT b o ha))).trans (hc i hi)⟩
def TxA (w : World) (tv : Value) (tx : List UInt8) : Prop := (∃ B, Own byteV 5 w B tv tx) ∨ ((∃ a n c, tv = .slice a n c ∧ Bytes w w.heap.size a n tx) ∧ ∀ q, tv.ownBlock = some q → q < w.heap.size)
theorem TxA.of {w : World} {B : Nat} {tv : Value} {tx : List UInt8} (h : Own byteV 5 w B tv tx) : TxA w tv tx := .inl ⟨B, h⟩
theorem TxA.lt {w : World} {tv : Value} {tx : List UInt8} (h : TxA w tv tx) (q : Nat) (hq : tv.ownBlock = some q) : q < w.heap.size := by
 rcases h with ⟨B, h⟩ | ⟨_, h⟩
 ·exact (h.blockLt q hq).2
 ·exact h q hq
theorem TxA.kq {T : Nat → Prop} {w w' : World} {tv : Value} {tx : List UInt8} (h : TxA w tv tx) (hk : Kq T w w') (hT : ∀ q, tv.ownBlock = some q → ¬ T q) : TxA w' tv tx := by
 rcases h with ⟨B, h⟩ | ⟨⟨a, n, c, h1, h2⟩, h3⟩
 ·exact .inl ⟨B, h.kq hk hT⟩
 ·exact .inr ⟨⟨a, n, c, h1, (h2.kq (Nat.le_refl _) hk fun b o e => hT b (by rw [h1, e]; rfl)).mono hk.size⟩, fun q hq => Nat.lt_of_lt_of_le (h3 q hq) hk.size⟩
structure Fm where
 F : Nat
 SE : Nat
 NO : Nat
 GO : Nat
 LA : Nat
 g : Mg
 se : List En
 no : List En
 go : List En
 seq : Nat
 ep : Nat
 tv : Value
 tx : List UInt8
 ov : Bool
def fmA (NB : Nat) (f : Fm) : Array Value := #[.pointer (some ⟨f.g.C, 0, none⟩), .pointer (some ⟨f.g.M, 0, none⟩), .int .i64 f.g.res, .int .i64 f.g.bad, f.tv, .map (some f.SE), .map (some f.NO), .map (some f.GO), .int .u64 (f.seq : Int), .int .u64 (f.ep : Int), .slice (some ⟨f.LA, 0, none⟩) NB NB, .bool f.ov]
def Hb (f : Fm) (q : Nat) : Prop := q = f.F ∨ q = f.SE ∨ q = f.NO ∨ q = f.GO ∨ q = f.LA ∨ f.tv.ownBlock = some q
structure FtC (NB B : Nat) (S : Nat → Prop) (w : World) (f : Fm) : Prop where
 hF : Blk w f.F 138 (fmA NB f)
 hS : MapE w f.SE f.se
 hN : MapE w f.NO f.no
 hG : MapE w f.GO f.go
 hL : Own bolV 4 w 0 (.slice (some ⟨f.LA, 0, none⟩) NB NB) (List.replicate NB false)
 hT : TxA w f.tv f.tx
 hg : MgM NB B S w f.g
 nd : [f.F, f.SE, f.NO, f.GO, f.LA].Nodup
 nt : ∀ q, f.tv.ownBlock = some q → q ∉ [f.F, f.SE, f.NO, f.GO, f.LA]
 ns : ∀ q, Hb f q → ¬ Sm f.g S q
 lo : ∀ q, Hb f q → B ≤ q
section
variable {NB B : Nat} {S S' T : Nat → Prop} {w w' : World} {f : Fm}
theorem FtC.hi (h : FtC NB B S w f) {q : Nat} (hq : Hb f q) : q < w.heap.size := by
 rcases hq with rfl | rfl | rfl | rfl | rfl | hq
 ·exact h.hF.lt
 ·exact h.hS.lt
 ·exact h.hN.lt
 ·exact h.hG.lt
 ·exact (h.hL.blockLt _ rfl).2
 ·exact h.hT.lt _ hq
theorem FtC.kq (h : FtC NB B S w f) (hk : Kq T w w') (hT : ∀ q, Hb f q ∨ Sm f.g S q → ¬ T q) : FtC NB B S w' f := by
 have hb : ∀ {q}, Hb f q → w'.heap[q]? = w.heap[q]? := fun hq => hk.block _ (h.hi hq) (hT _ (.inl hq))
 refine ⟨h.hF.kq hk (hT _ (.inl (.inl rfl))), h.hS.same (hb (.inr (.inl rfl))), h.hN.same (hb (.inr (.inr (.inl rfl)))), h.hG.same (hb (.inr (.inr (.inr (.inl rfl))))), h.hL.kq hk fun q hq => ?_, h.hT.kq hk fun q hq => hT q (.inl (.inr (.inr (.inr (.inr (.inr hq)))))), h.hg.kq hk fun q hq => hT q (.inr hq), h.nd, h.nt, h.ns, h.lo⟩
 obtain rfl := own_of _ _ _ _ hq
 exact hT _ (.inl (.inr (.inr (.inr (.inr (.inl rfl))))))
theorem FtC.mgr {g2 : Mg} (h : FtC NB B S w f) (hm : MgM NB B S' w' g2) (hk : Kq (Sm f.g S) w w') (hS : ∀ q, S' q → Up S w w' q) (h1 : g2.M = f.g.M) (h2 : g2.ML = f.g.ML) (h3 : g2.C = f.g.C) (h4 : g2.res = f.g.res) (h5 : g2.bad = f.g.bad) : FtC NB B S' w' { f with g := g2 } := by
 have hb : ∀ {q}, Hb f q → w'.heap[q]? = w.heap[q]? := fun hq => hk.block _ (h.hi hq) (h.ns _ hq)
 refine ⟨?_, h.hS.same (hb (.inr (.inl rfl))), h.hN.same (hb (.inr (.inr (.inl rfl)))), h.hG.same (hb (.inr (.inr (.inr (.inl rfl))))), h.hL.kq hk fun q hq => ?_, h.hT.kq hk fun q hq => h.ns q (.inr (.inr (.inr (.inr (.inr hq))))), hm, h.nd, h.nt, fun q hq hs => ?_, h.lo⟩
 ·have := h.hF.kq hk (h.ns _ (.inl rfl))
  unfold fmA at this ⊢
  simp only [h1, h3, h4, h5]
  exact this
 ·obtain rfl := own_of _ _ _ _ hq
  exact h.ns _ (.inr (.inr (.inr (.inr (.inl rfl)))))
 ·have hlt := h.hi hq
  rcases hs with e | e | e
  ·exact h.ns q hq (.inl (e.trans h1))
  ·exact h.ns q hq (.inr (.inl (e.trans h2)))
  ·exact h.ns q hq (.inr (.inr (up_of (hS q e) hlt)))
theorem FtC.sm_lt (h : FtC NB B S w f) {q : Nat} (hq : Sm f.g S q) : q < w.heap.size := h.hg.hi q hq
end
def FtM (NB B : Nat) (R : Nat → Prop) (w : World) (f : Fm) : Prop := ∃ S, FtC NB B S w f ∧ (∀ q, Hb f q ∨ Sm f.g S q → R q) ∧ ∀ q, R q → B ≤ q ∧ q < w.heap.size
def FtR (NB B : Nat) (R : Nat → Prop) (w w' : World) (f : Fm) : Prop := FtM NB B (Up R w w') w' f ∧ Kq R w w'
section
variable {NB B : Nat} {R T : Nat → Prop} {w w' w1 w2 : World} {f f1 f2 : Fm}
theorem FtM.kq (h : FtM NB B R w f) (hk : Kq T w w') (hT : ∀ q, R q → ¬ T q) : FtM NB B R w' f := by
 obtain ⟨S, h1, h2, h3⟩ := h
 exact ⟨S, h1.kq hk fun q hq => hT q (h2 q hq), h2, fun q hq => ⟨(h3 q hq).1, Nat.lt_of_lt_of_le (h3 q hq).2 hk.size⟩⟩
theorem FtM.on (h : FtM NB B R w f) (hb : Below w.heap.size w w') : FtM NB B R w' f := h.kq (T := fun _ => False) (Kq.of hb) fun _ _ h => h
theorem FtM.more {R' : Nat → Prop} (h : FtM NB B R w f) (h1 : ∀ q, R q → R' q) (h2 : ∀ q, R' q → B ≤ q ∧ q < w.heap.size) : FtM NB B R' w f := by
 obtain ⟨S, a1, a2, _⟩ := h
 exact ⟨S, a1, fun q hq => h1 q (a2 q hq), h2⟩
theorem FtM.bnd (h : FtM NB B R w f) : ∀ q, R q → B ≤ q ∧ q < w.heap.size := by obtain ⟨S, _, _, h3⟩ := h; exact h3
theorem FtM.ghost (h : FtM NB B R w f) (P : List UInt8 → Prop) : FtM NB B R w { f with g := { f.g with gh := P } } := by
 obtain ⟨S, a, h2, h3⟩ := h
 exact ⟨S, ⟨a.hF, a.hS, a.hN, a.hG, a.hL, a.hT, a.hg.ghost P, a.nd, a.nt, a.ns, a.lo⟩, h2, h3⟩
theorem FtM.ltF (h : FtM NB B R w f) : f.F < w.heap.size := by obtain ⟨S, h1, _⟩ := h; exact h1.hF.lt
theorem FtM.base (h : FtM NB B R w f) : B ≤ w.heap.size := by obtain ⟨S, h1, _⟩ := h; have := h1.lo _ (.inl rfl); have := h1.hF.lt; omega
theorem FtM.inF (h : FtM NB B R w f) : R f.F := by obtain ⟨S, _, h2, _⟩ := h; exact h2 _ (.inl (.inl rfl))
theorem FtM.hF (h : FtM NB B R w f) : Blk w f.F 138 (fmA NB f) := by obtain ⟨S, h1, _⟩ := h; exact h1.hF
theorem FtM.hS (h : FtM NB B R w f) : MapE w f.SE f.se := by obtain ⟨S, h1, _⟩ := h; exact h1.hS
theorem FtM.hN (h : FtM NB B R w f) : MapE w f.NO f.no := by obtain ⟨S, h1, _⟩ := h; exact h1.hN
theorem FtM.hG (h : FtM NB B R w f) : MapE w f.GO f.go := by obtain ⟨S, h1, _⟩ := h; exact h1.hG
theorem FtM.hL (h : FtM NB B R w f) : Own bolV 4 w 0 (.slice (some ⟨f.LA, 0, none⟩) NB NB) (List.replicate NB false) := by obtain ⟨S, h1, _⟩ := h; exact h1.hL
theorem FtM.c0 (h : FtM NB B R w f) : w.cell? ⟨f.F, 0, none⟩ = some (.pointer (some ⟨f.g.C, 0, none⟩)) := h.hF.cellv rfl
theorem FtM.c1 (h : FtM NB B R w f) : w.cell? ⟨f.F, 1, none⟩ = some (.pointer (some ⟨f.g.M, 0, none⟩)) := h.hF.cellv rfl
theorem FtM.c2 (h : FtM NB B R w f) : w.cell? ⟨f.F, 2, none⟩ = some (.int .i64 f.g.res) := h.hF.cellv rfl
theorem FtM.c3 (h : FtM NB B R w f) : w.cell? ⟨f.F, 3, none⟩ = some (.int .i64 f.g.bad) := h.hF.cellv rfl
theorem FtM.c4 (h : FtM NB B R w f) : w.cell? ⟨f.F, 4, none⟩ = some f.tv := h.hF.cellv rfl
theorem FtM.c5 (h : FtM NB B R w f) : w.cell? ⟨f.F, 5, none⟩ = some (.map (some f.SE)) := h.hF.cellv rfl
theorem FtM.c6 (h : FtM NB B R w f) : w.cell? ⟨f.F, 6, none⟩ = some (.map (some f.NO)) := h.hF.cellv rfl
theorem FtM.c7 (h : FtM NB B R w f) : w.cell? ⟨f.F, 7, none⟩ = some (.map (some f.GO)) := h.hF.cellv rfl
theorem FtM.c8 (h : FtM NB B R w f) : w.cell? ⟨f.F, 8, none⟩ = some (.int .u64 (f.seq : Int)) := h.hF.cellv rfl
theorem FtM.c9 (h : FtM NB B R w f) : w.cell? ⟨f.F, 9, none⟩ = some (.int .u64 (f.ep : Int)) := h.hF.cellv rfl
theorem FtM.c10 (h : FtM NB B R w f) : w.cell? ⟨f.F, 10, none⟩ = some (.slice (some ⟨f.LA, 0, none⟩) NB NB) := h.hF.cellv rfl
theorem FtM.c11 (h : FtM NB B R w f) : w.cell? ⟨f.F, 11, none⟩ = some (.bool f.ov) := h.hF.cellv rfl
theorem FtM.frz (h : FtM NB B R w f) (i : Nat) : w.frozen? ⟨f.F, i, none⟩ = false := h.hF.frozen i
theorem up_refl {R : Nat → Prop} {w : World} {q : Nat} (h : Up R w w q) : R q := by rcases h with h | h; exact h; omega
theorem FtM.refl (h : FtM NB B R w f) : FtR NB B R w w f := ⟨h.more (fun _ hq => .inl hq) fun q hq => h.bnd q (up_refl hq), Kq.refl _ _⟩
theorem up_up {R : Nat → Prop} {w w1 w2 : World} (h1 : w.heap.size ≤ w1.heap.size) (h2 : w1.heap.size ≤ w2.heap.size) {q : Nat} (h : Up (Up R w w1) w1 w2 q) : Up R w w2 q := by
 rcases h with (h | h) | h
 ·exact .inl h
 ·exact .inr ⟨h.1, by omega⟩
 ·exact .inr ⟨by omega, h.2⟩
theorem FtR.then_ (h : FtR NB B R w w1 f1) (k : FtR NB B (Up R w w1) w1 w2 f2) : FtR NB B R w w2 f2 := by
 have hs1 := h.2.size
 have hs2 := k.2.size
 refine ⟨k.1.more (fun q hq => up_up hs1 hs2 hq) fun q hq => ?_, h.2.then_ k.2 fun q hq => ?_⟩
 ·rcases hq with hq | hq
  ·exact k.1.bnd q (.inl (.inl hq))
  ·rcases Nat.lt_or_ge q w1.heap.size with h1 | h1
   ·exact k.1.bnd q (.inl (.inr ⟨hq.1, h1⟩))
   ·exact k.1.bnd q (.inr ⟨h1, hq.2⟩)
 ·rcases hq with h1 | h1
  ·exact .inl h1
  ·exact .inr h1.1
theorem FtR.on (h : FtR NB B R w w1 f) (hb : Below w1.heap.size w1 w2) (hB : B ≤ w.heap.size) : FtR NB B R w w2 f := by
 have hs := hb.size
 refine ⟨(h.1.on hb).more (fun q hq => ?_) fun q hq => ?_, h.2.on hb⟩
 ·rcases hq with h1 | h1
  ·exact .inl h1
  ·exact .inr ⟨h1.1, by omega⟩
 ·rcases hq with h1 | h1
  ·have := h.1.bnd q (.inl h1); omega
  ·omega
theorem FtR.from_ (hb : Below w.heap.size w w1) (h : FtR NB B R w1 w2 f) (hB : B ≤ w.heap.size) : FtR NB B R w w2 f := by
 have hs := hb.size
 refine ⟨h.1.more (fun q hq => ?_) fun q hq => ?_, (Kq.of hb).trans h.2⟩
 ·rcases hq with h1 | h1
  ·exact .inl h1
  ·exact .inr ⟨by omega, h1.2⟩
 ·rcases hq with h1 | h1
  ·exact h.1.bnd q (.inl h1)
  ·omega
theorem FtR.tail {w3 : World} (hb : Below w.heap.size w w1) (h : FtR NB B R w1 w2 f) (hB : B ≤ w.heap.size) (hk : Kq T w2 w3) (hT : ∀ q, T q → w.heap.size ≤ q ∧ q < w1.heap.size ∧ ¬ R q) : FtR NB B R w w3 f := by
 have hs := hb.size
 have hs2 := hk.size
 have h1 := h.1.kq hk fun q hq ht => by
  obtain ⟨a1, a2, a3⟩ := hT q ht
  exact a3 (up_of hq a2)
 refine ⟨h1.more (fun q hq => ?_) fun q hq => ?_, ((Kq.of hb).trans h.2).then_ hk fun q hq => .inr (hT q hq).1⟩
 ·rcases hq with h1 | h1
  ·exact .inl h1
  ·exact .inr ⟨by omega, by omega⟩
 ·rcases hq with h2 | h2
  ·exact h1.bnd q (.inl h2)
  ·omega
theorem FtM.not_new (h : FtM NB B R w f) {q : Nat} (hq : w.heap.size ≤ q) : ¬ R q := fun h1 => by have := (h.bnd q h1).2; omega
theorem FtR.blk {q : Nat} {t : TypeId} {cs : Array Value} (h : FtR NB B R w w1 f) (hb : Blk w q t cs) (hq : ¬ R q) : Blk w1 q t cs := hb.kq h.2 hq
theorem FtR.far {q : Nat} (_ : FtR NB B R w w1 f) (hq : ¬ R q) (hl : q < w.heap.size) : ¬ Up R w w1 q := fun h1 => hq (up_of h1 hl)
theorem ft_mgr {S S' : Nat → Prop} {g2 : Mg} (a1 : FtC NB B S w f) (a2 : ∀ q, Hb f q ∨ Sm f.g S q → R q) (a3 : ∀ q, R q → B ≤ q ∧ q < w.heap.size) (b1 : MgM NB B S' w' g2) (b2 : Kq (Sm f.g S) w w') (b3 : ∀ q, S' q → Up S w w' q) (h1 : g2.M = f.g.M) (h2 : g2.ML = f.g.ML) (h3 : g2.C = f.g.C) (h4 : g2.res = f.g.res) (h5 : g2.bad = f.g.bad) : FtR NB B R w w' { f with g := g2 } := by
 have hs := b2.size
 have h0 : B ≤ w.heap.size := by have := a1.lo _ (.inl rfl); have := a1.hF.lt; omega
 refine ⟨⟨S', a1.mgr b1 b2 b3 h1 h2 h3 h4 h5, fun q hq => ?_, fun q hq => ?_⟩, b2.mono fun q hq => a2 q (.inr hq)⟩
 ·rcases hq with hq | hq
  ·exact .inl (a2 q (.inl hq))
  ·rcases hq with e | e | e
   ·exact .inl (a2 q (.inr (.inl (e.trans h1))))
   ·exact .inl (a2 q (.inr (.inr (.inl (e.trans h2)))))
   ·rcases b3 q e with e2 | e2
    ·exact .inl (a2 q (.inr (.inr (.inr e2))))
    ·exact .inr e2
 ·rcases hq with hq | hq
  ·have := a3 q hq; omega
  ·omega
theorem ft_mgrS {S : Nat → Prop} {g2 : Mg} (a1 : FtC NB B S w f) (a2 : ∀ q, Hb f q ∨ Sm f.g S q → R q) (a3 : ∀ q, R q → B ≤ q ∧ q < w.heap.size) (b1 : MgM NB B S w' g2) (b2 : Kq (Sm f.g S) w w') (h1 : g2.M = f.g.M) (h2 : g2.ML = f.g.ML) (h3 : g2.C = f.g.C) (h4 : g2.res = f.g.res) (h5 : g2.bad = f.g.bad) : FtM NB B R w' { f with g := g2 } ∧ Kq R w w' := by
 refine ⟨⟨S, a1.mgr b1 b2 (fun _ h => .inl h) h1 h2 h3 h4 h5, fun q hq => ?_, fun q hq => ⟨(a3 q hq).1, Nat.lt_of_lt_of_le (a3 q hq).2 b2.size⟩⟩, b2.mono fun q hq => a2 q (.inr hq)⟩
 rcases hq with hq | hq
 ·exact a2 q (.inl hq)
 ·rcases hq with e | e | e
  ·exact a2 q (.inr (.inl (e.trans h1)))
  ·exact a2 q (.inr (.inr (.inl (e.trans h2))))
  ·exact a2 q (.inr (.inr (.inr e)))
theorem FtM.setF (h : FtM NB B R w f) (i : Nat) (u : Value) (f' : Fm) (hA : (fmA NB f).setIfInBounds i u = fmA NB f') (h1 : f'.F = f.F) (h2 : f'.SE = f.SE) (h3 : f'.NO = f.NO) (h4 : f'.GO = f.GO) (h5 : f'.LA = f.LA) (h6 : f'.g = f.g) (h7 : f'.se = f.se) (h8 : f'.no = f.no) (h9 : f'.go = f.go) (h10 : f'.tv = f.tv) (h11 : f'.tx = f.tx) : FtM NB B R (w.setCell ⟨f.F, i, none⟩ u) f' := by
 obtain ⟨S, a1, a2, a3⟩ := h
 have hq : Kq (fun q => q = f.F) w (w.setCell ⟨f.F, i, none⟩ u) := Kq.one ⟨_, _, none⟩ _
 have nd := a1.nd
 simp only [List.nodup_cons, List.mem_cons, List.not_mem_nil, or_false, not_or] at nd
 obtain ⟨⟨n1, n2, n3, n4⟩, _⟩ := nd
 have hne : ∀ q, q ≠ f.F → (w.setCell ⟨f.F, i, none⟩ u).heap[q]? = w.heap[q]? := fun q hq => heap_setCell_other _ _ _ _ (by simpa using hq)
 refine ⟨S, ⟨?_, ?_, ?_, ?_, ?_, ?_, ?_, ?_, ?_, ?_, ?_⟩, ?_, fun q hq => by simpa using a3 q hq⟩
 ·rw [h1, ← hA]; exact a1.hF.set i u
 ·rw [h2, h7]; exact a1.hS.same (hne _ (Ne.symm n1))
 ·rw [h3, h8]; exact a1.hN.same (hne _ (Ne.symm n2))
 ·rw [h4, h9]; exact a1.hG.same (hne _ (Ne.symm n3))
 ·rw [h5]; exact a1.hL.kq hq fun q hq => by obtain rfl := own_of _ _ _ _ hq; exact Ne.symm n4
 ·rw [h10, h11]; exact a1.hT.kq hq fun q hq e => a1.nt q hq (by rw [e]; simp)
 ·rw [h6]; exact a1.hg.kq hq fun q hq e => a1.ns _ (.inl rfl) (e ▸ hq)
 ·rw [h1, h2, h3, h4, h5]; exact a1.nd
 ·rw [h1, h2, h3, h4, h5, h10]; exact a1.nt
 ·unfold Hb; rw [h1, h2, h3, h4, h5, h6, h10]; exact a1.ns
 ·unfold Hb; rw [h1, h2, h3, h4, h5, h10]; exact a1.lo
 ·unfold Hb; rw [h1, h2, h3, h4, h5, h6, h10]; exact a2
theorem FtM.putM (h : FtM NB B R w f) {b : Nat} (hg : w.grownBy w' (some b)) (hs : w'.heap.size = w.heap.size) (f' : Fm) (hA : fmA NB f' = fmA NB f) (h1 : f'.F = f.F) (h2 : f'.SE = f.SE) (h3 : f'.NO = f.NO) (h4 : f'.GO = f.GO) (h5 : f'.LA = f.LA) (h6 : f'.g = f.g) (h10 : f'.tv = f.tv) (h11 : f'.tx = f.tx)
  (hb : b = f.SE ∨ b = f.NO ∨ b = f.GO) (k1 : if b = f.SE then MapE w' b f'.se else f'.se = f.se) (k2 : if b = f.NO then MapE w' b f'.no else f'.no = f.no) (k3 : if b = f.GO then MapE w' b f'.go else f'.go = f.go) : FtM NB B R w' f' ∧ Kq R w w' := by
 obtain ⟨S, a1, a2, a3⟩ := h
 have hbH : Hb f b := by
  rcases hb with e | e | e
  ·exact .inr (.inl e)
  ·exact .inr (.inr (.inl e))
  ·exact .inr (.inr (.inr (.inl e)))
 have hq : Kq (fun q => q = b) w w' := (Kq.grown hg).mono fun q e => (Option.some.inj e).symm
 have nd := a1.nd
 simp only [List.nodup_cons, List.mem_cons, List.not_mem_nil, or_false, not_or] at nd
 obtain ⟨⟨n1, n2, n3, n4⟩, ⟨n5, n6, n7⟩, ⟨n8, n9⟩, n10, _⟩ := nd
 have hne : ∀ q, q < w.heap.size → q ≠ b → w'.heap[q]? = w.heap[q]? := fun q hl hq => hg.block q hl fun e => hq (Option.some.inj e)
 have hbm : b ∈ [f.SE, f.NO, f.GO] := by simpa using hb
 refine ⟨⟨S, ⟨?_, ?_, ?_, ?_, ?_, ?_, ?_, ?_, ?_, ?_, ?_⟩, ?_, fun q hq => by rw [hs]; exact a3 q hq⟩, hq.mono fun q e => e ▸ a2 b (.inl hbH)⟩
 ·rw [h1, hA]; exact a1.hF.kq hq (by rcases hb with e | e | e <;> omega)
 ·rw [h2]
  by_cases e : b = f.SE
  ·rw [if_pos e] at k1; rw [← e]; exact k1
  ·rw [if_neg e] at k1; rw [k1]; exact a1.hS.same (hne _ a1.hS.lt (Ne.symm e))
 ·rw [h3]
  by_cases e : b = f.NO
  ·rw [if_pos e] at k2; rw [← e]; exact k2
  ·rw [if_neg e] at k2; rw [k2]; exact a1.hN.same (hne _ a1.hN.lt (Ne.symm e))
 ·rw [h4]
  by_cases e : b = f.GO
  ·rw [if_pos e] at k3; rw [← e]; exact k3
  ·rw [if_neg e] at k3; rw [k3]; exact a1.hG.same (hne _ a1.hG.lt (Ne.symm e))
 ·rw [h5]; exact a1.hL.kq hq fun q hq => by obtain rfl := own_of _ _ _ _ hq; rcases hb with e | e | e <;> omega
 ·rw [h10, h11]; exact a1.hT.kq hq fun q hq e => a1.nt q hq (by rw [e]; simp only [List.mem_cons, List.not_mem_nil, or_false] at hbm ⊢; rcases hbm with e | e | e <;> simp [e])
 ·rw [h6]; exact a1.hg.kq hq fun q hq e => a1.ns _ hbH (e ▸ hq)
 ·rw [h1, h2, h3, h4, h5]; exact a1.nd
 ·rw [h1, h2, h3, h4, h5, h10]; exact a1.nt
 ·unfold Hb; rw [h1, h2, h3, h4, h5, h6, h10]; exact a1.ns
 ·unfold Hb; rw [h1, h2, h3, h4, h5, h10]; exact a1.lo
 ·unfold Hb; rw [h1, h2, h3, h4, h5, h6, h10]; exact a2
theorem FtM.dis (h : FtM NB B R w f) : f.SE ≠ f.NO ∧ f.SE ≠ f.GO ∧ f.NO ≠ f.GO := by
 obtain ⟨S, a1, _⟩ := h
 have nd := a1.nd
 simp only [List.nodup_cons, List.mem_cons, List.not_mem_nil, or_false, not_or] at nd
 obtain ⟨_, ⟨n5, n6, _⟩, ⟨n8, _⟩, _⟩ := nd
 exact ⟨n5, n6, n8⟩
theorem FtM.putS (h : FtM NB B R w f) (e : En) (hp : e.t.p < 4294967296) : ∃ o, (Instr.mapUpdate 135 (.map (some f.SE)) (.int .u32 (e.t.p : Int)) (plV e.b e.i)).run Tryz.prog w = .ok () (setBlock w f.SE o) ∧ FtM NB B R (setBlock w f.SE o) { f with se := putE f.se e } ∧ Kq R w (setBlock w f.SE o) := by
 obtain ⟨d1, d2, d3⟩ := h.dis
 obtain ⟨o, hrun, hm, hg⟩ := h.hS.put e hp
 obtain ⟨a, b⟩ := h.putM hg (by simp [setBlock]) { f with se := putE f.se e } rfl rfl rfl rfl rfl rfl rfl rfl rfl (.inl rfl) (by rw [if_pos rfl]; exact hm) (by rw [if_neg d1]) (by rw [if_neg d2])
 exact ⟨o, hrun, a, b⟩
theorem FtM.putN (h : FtM NB B R w f) (e : En) (hp : e.t.p < 4294967296) : ∃ o, (Instr.mapUpdate 135 (.map (some f.NO)) (.int .u32 (e.t.p : Int)) (plV e.b e.i)).run Tryz.prog w = .ok () (setBlock w f.NO o) ∧ FtM NB B R (setBlock w f.NO o) { f with no := putE f.no e } ∧ Kq R w (setBlock w f.NO o) := by
 obtain ⟨d1, d2, d3⟩ := h.dis
 obtain ⟨o, hrun, hm, hg⟩ := h.hN.put e hp
 obtain ⟨a, b⟩ := h.putM hg (by simp [setBlock]) { f with no := putE f.no e } rfl rfl rfl rfl rfl rfl rfl rfl rfl (.inr (.inl rfl)) (by rw [if_neg (Ne.symm d1)]) (by rw [if_pos rfl]; exact hm) (by rw [if_neg d3])
 exact ⟨o, hrun, a, b⟩
theorem FtM.delS (h : FtM NB B R w f) {p : Nat} (hp : p < 4294967296) (ty : TypeId) : ∃ o, (Builtin.delete_ #[135, 100] ty #[.map (some f.SE), .int .u32 (p : Int)]).run Tryz.prog w = .ok (.tuple #[]) (setBlock w f.SE o) ∧ FtM NB B R (setBlock w f.SE o) { f with se := delE f.se p } ∧ Kq R w (setBlock w f.SE o) := by
 obtain ⟨d1, d2, d3⟩ := h.dis
 obtain ⟨o, hrun, hm, hg⟩ := h.hS.del hp ty
 obtain ⟨a, b⟩ := h.putM hg (by simp [setBlock]) { f with se := delE f.se p } rfl rfl rfl rfl rfl rfl rfl rfl rfl (.inl rfl) (by rw [if_pos rfl]; exact hm) (by rw [if_neg d1]) (by rw [if_neg d2])
 exact ⟨o, hrun, a, b⟩
theorem FtM.delG (h : FtM NB B R w f) {p : Nat} (hp : p < 4294967296) (ty : TypeId) : ∃ o, (Builtin.delete_ #[135, 100] ty #[.map (some f.GO), .int .u32 (p : Int)]).run Tryz.prog w = .ok (.tuple #[]) (setBlock w f.GO o) ∧ FtM NB B R (setBlock w f.GO o) { f with go := delE f.go p } ∧ Kq R w (setBlock w f.GO o) := by
 obtain ⟨d1, d2, d3⟩ := h.dis
 obtain ⟨o, hrun, hm, hg⟩ := h.hG.del hp ty
 obtain ⟨a, b⟩ := h.putM hg (by simp [setBlock]) { f with go := delE f.go p } rfl rfl rfl rfl rfl rfl rfl rfl rfl (.inr (.inr rfl)) (by rw [if_neg (Ne.symm d2)]) (by rw [if_neg (Ne.symm d3)]) (by rw [if_pos rfl]; exact hm)
 exact ⟨o, hrun, a, b⟩
end
end
end Go.Proofs.YtcppkaphlcflgaaGreat
