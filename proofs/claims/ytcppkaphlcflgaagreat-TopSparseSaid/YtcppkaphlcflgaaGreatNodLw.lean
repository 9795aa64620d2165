import Derived.Test.YtcppkaphlcflgaaGreatNodPtr
import Derived.Test.YtcppkaphlcflgaaGreatRoomPtr
import Derived.Test.YtcppkaphlcflgaaGreatNodWrite
import Derived.Test.YtcppkaphlcflgaaGreatNodRead
namespace Go.Proofs.YtcppkaphlcflgaaGreat
namespace Spr
open Rl
variable {rs : List Rl} {L : Rl → Nat} {ds : List (List UInt8)} {io : Io}

def pointD (ds : List (List UInt8)) (p k tq : Nat) : List (List UInt8) := if p = 0 then ds ++ [Pt.put zeros k tq] else ds.set (p - 2) (Pt.put (pgs ds p) k tq)
def pointP (ds : List (List UInt8)) (p : Nat) : Nat := if p = 0 then ds.length + 2 else p
def setD (ds : List (List UInt8)) (io : Io) (n tq : Nat) : List (List UInt8) :=
 if n < 6 then ds else if n < 38 then pointD ds io.s (n - 6) tq else
  pointD (pointD ds (ptP ds io.b ((n - 38) / 32)) ((n - 38) % 32) tq) io.b ((n - 38) / 32) (pointP ds (ptP ds io.b ((n - 38) / 32)))
def setI (ds : List (List UInt8)) (io : Io) (n tq : Nat) : Io :=
 if n < 6 then { io with d := io.d.set n tq } else if n < 38 then { io with s := pointP ds io.s } else
  { io with b := pointP (pointD ds (ptP ds io.b ((n - 38) / 32)) ((n - 38) % 32) tq) io.b }
def addD (ds : List (List UInt8)) (io : Io) (n : Nat) : List (List UInt8) := setD (ds ++ [zeros]) io n (ds.length + 2)
def addI (ds : List (List UInt8)) (io : Io) (n : Nat) : Io := setI (ds ++ [zeros]) io n (ds.length + 2)
structure Gr (rs : List Rl) (L : Rl → Nat) (ds : List (List UInt8)) (n : Nat) (rs' : List Rl) (L' : Rl → Nat) (ds' : List (List UInt8)) : Prop where
 pre : rs <+: rs'
 old : ∀ r, L r ≠ 0 → L' r = L r
 mem : ∀ r, r ∈ rs' ↔ r ∈ rs ∨ r = dat n ∨ ∃ m ∈ ups n, r = ptr m
 lk : ∀ r, L' r ≠ 0 ↔ L r ≠ 0 ∨ r = dat n ∨ ∃ m ∈ ups n, r = ptr m
 nw : L' (dat n) = ds.length + 2
 le : ds'.length ≤ ds.length + 3
 dt : ∀ i k, rs[i]? = some (dat k) → ds'.getD i [] = ds.getD i []
 new : ds'.getD ds.length [] = zeros
theorem zeros_len : zeros.length = 64 := List.length_replicate ..
theorem put_len64 {j tt : Nat} {x : List UInt8} (hx : x.length = 64) (hj : j < 32) : (Pt.put x j tt).length = 64 := by rw [Pt.put_len (by omega), hx]
theorem Rep.not_mem (h : Rep rs L ds io) {r : Rl} (hr : L r = 0) : r ∉ rs := fun hm => h.all r hm hr
theorem Rp.val (h : Rp rs L ds io) {r : Rl} {i : Nat} (hi : rs[i]? = some r) (hr : L r ≠ 0) : L r = i + 2 := by
 obtain ⟨j, hj, e⟩ := h.lnk r hr
 rw [idx_one h.nod hi hj]
 exact e
theorem set_last {α : Type} (l : List α) (x y : α) : (l ++ [x]).set l.length y = l ++ [y] := by
 rw [List.set_append_right _ _ (Nat.le_refl _), Nat.sub_self]
 rfl
structure Pnt (rs : List Rl) (L : Rl → Nat) (ds : List (List UInt8)) (m i : Nat) (rs' : List Rl) (ds' : List (List UInt8)) : Prop where
 pre : rs <+: rs'
 mem : ∀ r, r ∈ rs' ↔ r ∈ rs ∨ r = Rl.ptr m
 at_ : rs'[i]? = some (Rl.ptr m)
 p : pointP ds (L (Rl.ptr m)) = i + 2
 le : ds'.length ≤ ds.length + 1
 dt : ∀ q k, rs[q]? = some (dat k) → ds'.getD q [] = ds.getD q []
theorem Rp.point (h : Rp rs L ds io) {m j e : Nat} {r : Rl} (hm : m < 34) (hj : j < 32) (hk : kid m j = r) (he : rs[e]? = some r) (hl : ds.length ≤ 60) (h0 : ∀ k, r = dat k → 6 ≤ k) (h1 : ∀ k, r = Rl.ptr k → 2 ≤ k)
  (hz : L (Rl.ptr m) = 0 → Rl.ptr m ∉ rs ∧ ∀ j, j < 32 → L (kid m j) = 0) : ∃ rs' i, Rp rs' (upd L r (e + 2)) (pointD ds (L (Rl.ptr m)) j (e + 2)) io ∧ Pnt rs L ds m i rs' (pointD ds (L (Rl.ptr m)) j (e + 2)) := by
 have hlen := h.len
 have hel := idx_lt he
 by_cases hp : L (Rl.ptr m) = 0
 ·obtain ⟨z1, z2⟩ := hz hp
  have a1 := h.app z1 zeros_len (fun n e => by cases e) (fun q e => by injection e with e; subst e; exact ⟨hm, fun j hj => by rw [two_zeros hj, z2 j hj]⟩)
  have hi : (rs ++ [Rl.ptr m])[ds.length]? = some (Rl.ptr m) := by
   rw [List.getElem?_append_right (by omega), hlen, Nat.sub_self]
   rfl
  have a2 := a1.link hi hj hk (by rw [List.getElem?_append_left hel]; exact he) (by omega) h0 h1
  rw [getD_last, set_last] at a2
  refine ⟨rs ++ [Rl.ptr m], ds.length, ?_, List.prefix_append _ _, fun r => by rw [List.mem_append, List.mem_singleton], hi, ?_, ?_, fun q k hq => ?_⟩
  ·unfold pointD
   rw [if_pos hp]
   exact a2
  ·unfold pointP
   rw [if_pos hp]
  ·unfold pointD
   rw [if_pos hp, List.length_append]
   exact Nat.le_refl _
  ·unfold pointD
   rw [if_pos hp, getD_app (by have := idx_lt hq; omega)]
 ·obtain ⟨i, hi, ei⟩ := h.lnk _ hp
  have hil := idx_lt hi
  refine ⟨rs, i, ?_, List.prefix_refl _, fun r => ⟨.inl, ?_⟩, hi, ?_, ?_, fun q k hq => ?_⟩
  ·have a2 := h.link hi hj hk he (by omega) h0 h1
   unfold pointD pgs
   rw [if_neg hp, ei, Nat.add_sub_cancel]
   exact a2
  ·rintro (hr | rfl)
   ·exact hr
   ·exact List.mem_of_getElem? hi
  ·unfold pointP
   rw [if_neg hp, ei]
  ·unfold pointD
   rw [if_neg hp, List.length_set]
   omega
  ·unfold pointD
   rw [if_neg hp, ei, Nat.add_sub_cancel, getD_set (by omega), if_neg]
   intro e1
   subst e1
   rw [hq] at hi
   cases hi
theorem Rep.of (h : Rep rs L ds io) {n : Nat} {rs' : List Rl} {L' : Rl → Nat} {ds' : List (List UInt8)} {io' : Io} (g : Gr rs L ds n rs' L' ds') (hp : Rp rs' L' ds' io') : Rep rs' L' ds' io' := by
 refine ⟨hp, fun r hr => ?_, fun k hk m hm => ?_, fun m hm => ?_⟩
 ·rw [g.lk]
  rcases (g.mem r).1 hr with h1 | h1
  ·exact .inl (h.all r h1)
  ·exact .inr h1
 ·rw [g.lk]
  rcases (g.lk _).1 hk with h1 | h1 | ⟨q, _, h1⟩
  ·exact .inl (h.up k h1 m hm)
  ·injection h1 with h1
   subst h1
   exact .inr (.inr ⟨m, hm, rfl⟩)
  ·cases h1
 ·rcases (g.lk _).1 hm with h1 | h1 | ⟨q, hq, h1⟩
  ·obtain ⟨k, h2, h3⟩ := h.dn m h1
   exact ⟨k, (g.lk _).2 (.inl h2), h3⟩
  ·cases h1
  ·injection h1 with h1
   subst h1
   exact ⟨n, (g.lk _).2 (.inr (.inl rfl)), hq⟩
theorem pre_at {rs rs' : List Rl} (h : rs <+: rs') {i : Nat} {r : Rl} (hi : rs[i]? = some r) : rs'[i]? = some r := by
 obtain ⟨t, rfl⟩ := h
 rw [List.getElem?_append_left (idx_lt hi)]
 exact hi
theorem Rep.add (h : Rep rs L ds io) {n : Nat} (hn : n < 1062) (h0 : L (dat n) = 0) (hl : ds.length ≤ 50) : ∃ rs' L', Rep rs' L' (addD ds io n) (addI ds io n) ∧ Gr rs L ds n rs' L' (addD ds io n) := by
 have hlen := h.rp.len
 have a1 := h.rp.app (h.not_mem h0) zeros_len (fun k e => by injection e with e; omega) (fun m e => by cases e)
 have hd : (rs ++ [dat n])[ds.length]? = some (dat n) := by
  rw [List.getElem?_append_right (by omega), hlen, Nat.sub_self]
  rfl
 have hdl : (ds ++ [zeros]).length = ds.length + 1 := by rw [List.length_append]; rfl
 have hdt : ∀ q k, rs[q]? = some (dat k) → (ds ++ [zeros]).getD q [] = ds.getD q [] := fun q k hq => getD_app (by have := idx_lt hq; omega)
 have hap : ∀ {q : Nat} {r : Rl}, rs[q]? = some r → (rs ++ [dat n])[q]? = some r := fun hq => pre_at (List.prefix_append _ _) hq
 have hnm : ∀ m, L (Rl.ptr m) = 0 → Rl.ptr m ∉ rs ++ [dat n] := fun m hm hmem => by
  rcases List.mem_append.1 hmem with h1 | h1
  ·exact h.not_mem hm h1
  ·cases List.mem_singleton.1 h1
 by_cases h6 : n < 6
 ·have a2 := a1.dir h6 hd
  have hu : ups n = [] := if_pos h6
  have g : Gr rs L ds n (rs ++ [dat n]) (upd L (dat n) (ds.length + 2)) (ds ++ [zeros]) := by
   refine ⟨List.prefix_append _ _, fun r hr => upd_ne (fun e => hr (by rw [e]; exact h0)), fun r => ?_, fun r => ?_, upd_same _ _ _, by rw [hdl]; omega, hdt, getD_last⟩
   ·rw [List.mem_append, List.mem_singleton, hu]
    simp
   ·rw [hu]
    by_cases e : r = dat n
    ·subst e
     rw [upd_same]
     simp
    ·rw [upd_ne e]
     simp [e]
  have e1 : addD ds io n = ds ++ [zeros] := if_pos h6
  have e2 : addI ds io n = { io with d := io.d.set n (ds.length + 2) } := if_pos h6
  rw [e1, e2]
  exact ⟨_, _, h.of g a2, g⟩
 by_cases h38 : n < 38
 ·have hu : ups n = [0] := by unfold ups; rw [if_neg h6, if_pos h38]
  have hk : kid 0 (n - 6) = dat n := by unfold kid; rw [if_pos rfl, show 6 + (n - 6) = n by omega]
  obtain ⟨rs2, i2, a2, b2⟩ := a1.point (m := 0) (j := n - 6) (by omega) (by omega) hk hd (by omega) (fun k e => by injection e with e; omega) (fun k e => by cases e) (fun hz => ⟨hnm 0 hz, fun j hj => by
   by_cases h1 : L (kid 0 j) = 0
   ·exact h1
   ·have e : kid 0 j = dat (6 + j) := if_pos rfl
    rw [e] at h1
    exact absurd hz (h.up (6 + j) h1 0 (by unfold ups; rw [if_neg (by omega), if_pos (by omega)]; simp))⟩)
  have a3 := a2.sgl b2.at_
  have e1 : addD ds io n = pointD (ds ++ [zeros]) (L (Rl.ptr 0)) (n - 6) (ds.length + 2) := by
   unfold addD setD
   rw [if_neg h6, if_pos h38, h.rp.s]
  have e2 : addI ds io n = { io with s := i2 + 2 } := by
   unfold addI setI
   rw [if_neg h6, if_pos h38, h.rp.s, b2.p]
  rw [e1, e2]
  have hle := b2.le
  have g : Gr rs L ds n rs2 (upd (upd L (dat n) (ds.length + 2)) (Rl.ptr 0) (i2 + 2)) (pointD (ds ++ [zeros]) (L (Rl.ptr 0)) (n - 6) (ds.length + 2)) := by
   refine ⟨(List.prefix_append _ _).trans b2.pre, fun r hr => ?_, fun r => ?_, fun r => ?_, ?_, by omega, fun q k hq => (b2.dt q k (hap hq)).trans (hdt q k hq), (b2.dt _ n hd).trans getD_last⟩
   ·by_cases e : r = Rl.ptr 0
    ·subst e
     rw [upd_same]
     obtain ⟨q, hq, e⟩ := h.rp.lnk _ hr
     rw [e, idx_one a2.nod b2.at_ (pre_at b2.pre (hap hq))]
    ·rw [upd_ne e, upd_ne (fun e => hr (by rw [e]; exact h0))]
   ·rw [b2.mem, List.mem_append, List.mem_singleton, hu]
    simp [or_assoc]
   ·rw [hu]
    by_cases e : r = Rl.ptr 0
    ·subst e
     rw [upd_same]
     simp
    ·rw [upd_ne e]
     by_cases e3 : r = dat n
     ·subst e3
      rw [upd_same]
      simp
     ·rw [upd_ne e3]
      simp [e, e3]
   ·rw [upd_ne (by intro e; cases e), upd_same]
  exact ⟨_, _, h.of g a3, g⟩
 ·obtain ⟨a, ha⟩ : ∃ a, a = (n - 38) / 32 := ⟨_, rfl⟩
  have ha32 : a < 32 := by omega
  have hu : ups n = [1, 2 + a] := by unfold ups; rw [if_neg h6, if_neg h38, ha]
  have hk : kid (2 + a) ((n - 38) % 32) = dat n := by unfold kid; rw [if_neg (by omega), if_neg (by omega), show 38 + 32 * (2 + a - 2) + (n - 38) % 32 = n by omega]
  have hk1 : kid 1 a = Rl.ptr (2 + a) := by unfold kid; rw [if_neg (by omega), if_pos rfl]
  obtain ⟨rs2, i2, a2, b2⟩ := a1.point (m := 2 + a) (j := (n - 38) % 32) (by omega) (by omega) hk hd (by omega) (fun k e => by injection e with e; omega) (fun k e => by cases e) (fun hz => ⟨hnm _ hz, fun j hj => by
   have e : kid (2 + a) j = dat (38 + 32 * a + j) := by unfold kid; rw [if_neg (by omega), if_neg (by omega), show 2 + a - 2 = a by omega]
   by_cases h1 : L (kid (2 + a) j) = 0
   ·exact h1
   ·rw [e] at h1
    exact absurd hz (h.up _ h1 (2 + a) (by unfold ups; rw [if_neg (by omega), if_neg (by omega), show 2 + (38 + 32 * a + j - 38) / 32 = 2 + a by omega]; simp))⟩)
  have hle2 := b2.le
  have hL1 : upd L (dat n) (ds.length + 2) (Rl.ptr 1) = L (Rl.ptr 1) := upd_ne (by intro e; cases e)
  obtain ⟨rs3, i3, a3, b3⟩ := a2.point (m := 1) (j := a) (by omega) ha32 hk1 b2.at_ (by omega) (fun k e => by cases e) (fun k e => by injection e with e; omega) (fun hz => by
   rw [hL1] at hz
   refine ⟨fun hmem => ?_, fun j hj => ?_⟩
   ·rcases (b2.mem _).1 hmem with h1 | h1
    ·exact hnm _ hz h1
    ·injection h1 with h1; omega
   ·have e : kid 1 j = Rl.ptr (2 + j) := by unfold kid; rw [if_neg (by omega), if_pos rfl]
    rw [e, upd_ne (by intro e; cases e)]
    by_cases h1 : L (Rl.ptr (2 + j)) = 0
    ·exact h1
    ·exact absurd hz (h.mid h1))
  rw [hL1] at a3 b3
  have a4 := a3.dbl b3.at_
  have hpt : ptP (ds ++ [zeros]) io.b a = L (Rl.ptr (2 + a)) := by
   rw [h.rp.b]
   by_cases h1 : L (Rl.ptr 1) = 0
   ·rw [h1]
    by_cases h2 : L (Rl.ptr (2 + a)) = 0
    ·rw [h2]; rfl
    ·exact absurd h1 (h.mid h2)
   ·rw [a1.ptr h1 ha32, hk1]
  have b2p := b2.p
  have b3p := b3.p
  rw [hL1] at b3p
  have e1 : addD ds io n = pointD (pointD (ds ++ [zeros]) (L (Rl.ptr (2 + a))) ((n - 38) % 32) (ds.length + 2)) (L (Rl.ptr 1)) a (i2 + 2) := by
   unfold addD setD
   rw [if_neg h6, if_neg h38, ← ha, hpt, h.rp.b, b2p]
  have e2 : addI ds io n = { io with b := i3 + 2 } := by
   unfold addI setI
   rw [if_neg h6, if_neg h38, ← ha, hpt, h.rp.b, b3p]
  rw [e1, e2]
  have hle3 := b3.le
  have g : Gr rs L ds n rs3 (upd (upd (upd L (dat n) (ds.length + 2)) (Rl.ptr (2 + a)) (i2 + 2)) (Rl.ptr 1) (i3 + 2)) (pointD (pointD (ds ++ [zeros]) (L (Rl.ptr (2 + a))) ((n - 38) % 32) (ds.length + 2)) (L (Rl.ptr 1)) a (i2 + 2)) := by
   refine ⟨((List.prefix_append _ _).trans b2.pre).trans b3.pre, fun r hr => ?_, fun r => ?_, fun r => ?_, ?_, by omega, fun q k hq => (b3.dt q k (pre_at b2.pre (hap hq))).trans ((b2.dt q k (hap hq)).trans (hdt q k hq)), (b3.dt _ n (pre_at b2.pre hd)).trans ((b2.dt _ n hd).trans getD_last)⟩
   ·obtain ⟨q, hq, e⟩ := h.rp.lnk _ hr
    by_cases e4 : r = Rl.ptr 1
    ·subst e4
     rw [upd_same, e, idx_one a3.nod b3.at_ (pre_at b3.pre (pre_at b2.pre (hap hq)))]
    ·rw [upd_ne e4]
     by_cases e5 : r = Rl.ptr (2 + a)
     ·subst e5
      rw [upd_same, e, idx_one a2.nod b2.at_ (pre_at b2.pre (hap hq))]
     ·rw [upd_ne e5, upd_ne (fun e => hr (by rw [e]; exact h0))]
   ·rw [b3.mem, b2.mem, List.mem_append, List.mem_singleton, hu]
    constructor
    ·rintro (((h1 | h1) | h1) | h1)
     ·exact .inl h1
     ·exact .inr (.inl h1)
     ·exact .inr (.inr ⟨2 + a, by simp, h1⟩)
     ·exact .inr (.inr ⟨1, by simp, h1⟩)
    ·rintro (h1 | h1 | ⟨m, hm, h1⟩)
     ·exact .inl (.inl (.inl h1))
     ·exact .inl (.inl (.inr h1))
     ·rcases List.mem_cons.1 hm with rfl | hm
      ·exact .inr h1
      ·rw [List.mem_singleton.1 hm] at h1
       exact .inl (.inr h1)
   ·rw [hu]
    by_cases e4 : r = Rl.ptr 1
    ·subst e4
     rw [upd_same]
     simp
    ·rw [upd_ne e4]
     by_cases e5 : r = Rl.ptr (2 + a)
     ·subst e5
      rw [upd_same]
      simp
     ·rw [upd_ne e5]
      by_cases e3 : r = dat n
      ·subst e3
       rw [upd_same]
       simp
      ·rw [upd_ne e3]
       simp [e4, e5, e3]
   ·rw [upd_ne (by intro e; cases e), upd_ne (by intro e; cases e), upd_same]
  exact ⟨_, _, h.of g a4, g⟩
end Spr
end Go.Proofs.YtcppkaphlcflgaaGreat
namespace Go.Proofs.YtcppkaphlcflgaaGreat
namespace Spr
open Rl
variable {rs : List Rl} {L : Rl → Nat} {ds : List (List UInt8)} {io : Io}

def dls (L : Rl → Nat) : List Int := (lst (fD L) 0 1062).map fun n : Nat => (n : Int)
def keyM (m : Nat) : Int × Int := if m = 0 then (1, 0) else if m = 1 then (2, -1) else (2, (m : Int) - 2)
theorem keyM_inj {m m' : Nat} (h : keyM m = keyM m') : m = m' := by
 unfold keyM at h
 split at h <;> split at h <;> (try split at h) <;> (try split at h) <;> simp only [Prod.mk.injEq] at h <;> omega
theorem keys_64 {n : Nat} (hn : n < 1062) : Room.keys 64 (n : Int) = (ups n).map keyM := by
 have hs : Ino.Sized 64 := .inl rfl
 have he : Ino.wayE 64 n = 0 := Ino.wayE_of hs (by omega) (by rw [Ino.pages_64]; omega)
 unfold Room.keys ups
 rcases Ino.way_forms he with ⟨a, b, c, d⟩ | ⟨a, b, c, d, e⟩ | ⟨a, b, c, d⟩
 ·rw [a, if_neg (by decide), if_neg (by decide), if_pos (by omega)]
  rfl
 ·rw [a, if_pos rfl, if_neg (by omega), if_pos (by omega)]
  rfl
 ·rw [a, b, if_neg (by decide), if_pos rfl, if_neg (by omega), if_neg (by omega)]
  have k2 : keyM (2 + (n - 38) / 32) = (2, (((n - 38) / 32 : Nat) : Int)) := by
   unfold keyM
   rw [if_neg (by omega), if_neg (by omega), show ((2 + (n - 38) / 32 : Nat) : Int) - 2 = (((n - 38) / 32 : Nat) : Int) by omega]
  have : ((n : Int) - 6 - 64 / 2) / (64 / 2) = (((n - 38) / 32 : Nat) : Int) := by omega
  rw [this]
  show _ = [keyM 1, keyM (2 + (n - 38) / 32)]
  rw [k2]
  rfl
theorem dls_inc (L : Rl → Nat) : Room.Inc (dls L) := by
 unfold dls Room.Inc
 rw [List.pairwise_map]
 exact (lst_pair _ _ _).imp fun h => by omega
theorem mem_dls {L : Rl → Nat} {x : Int} : x ∈ dls L ↔ ∃ n : Nat, x = n ∧ n < 1062 ∧ L (dat n) ≠ 0 := by
 unfold dls
 rw [List.mem_map]
 constructor
 ·rintro ⟨n, h, rfl⟩
  obtain ⟨_, h2, h3⟩ := mem_lst.1 h
  exact ⟨n, rfl, by omega, by simpa [fD] using h3⟩
 ·rintro ⟨n, rfl, h1, h2⟩
  exact ⟨n, mem_lst.2 ⟨Nat.zero_le _, by omega, by simpa [fD] using h2⟩, rfl⟩
theorem dls_ok (L : Rl → Nat) : Room.allOk 64 (dls L) = true := Room.allOk_iff.2 fun x hx => by
 obtain ⟨n, rfl, h1, _⟩ := mem_dls.1 hx
 exact Ino.wayE_of (.inl rfl) (by omega) (by rw [Ino.pages_64]; omega)
theorem nd_eq {l M : List (Int × Int)} (h : ∀ x, x ∈ l ↔ x ∈ M) (hM : M.Nodup) : Room.nd l = M.length := by
 rw [← Room.nd_nodup hM]
 exact Nat.le_antisymm (Room.nd_mono fun x hx => (h x).1 hx) (Room.nd_mono fun x hx => (h x).2 hx)
theorem lst_nodup (f : Nat → Bool) (a n : Nat) : (lst f a n).Nodup := (lst_pair f a n).imp fun h => by omega
theorem nodup_inj {α β : Type} {f : α → β} {l : List α} (hf : ∀ a b, f a = f b → a = b) (h : l.Nodup) : (l.map f).Nodup := by
 unfold List.Nodup at h ⊢
 rw [List.pairwise_map]
 exact h.imp fun h e => h (hf _ _ e)
theorem Rep.kl_ (h : Rep rs L ds io) : Room.nd (Room.kl 64 (dls L)) = (lst (fP L) 0 34).length := by
 rw [nd_eq (M := (lst (fP L) 0 34).map keyM) (fun x => ?_) (nodup_inj (fun _ _ => keyM_inj) (lst_nodup _ _ _)), List.length_map]
 rw [Room.mem_kl, List.mem_map]
 constructor
 ·rintro ⟨y, hy, hx⟩
  obtain ⟨n, rfl, h1, h2⟩ := mem_dls.1 hy
  rw [keys_64 h1, List.mem_map] at hx
  obtain ⟨m, hm, rfl⟩ := hx
  have h3 := h.up n h2 m hm
  obtain ⟨i, hi, _⟩ := h.rp.lnk _ h3
  exact ⟨m, mem_lst.2 ⟨Nat.zero_le _, by have := h.rp.rp m (List.mem_of_getElem? hi); omega, by simpa [fP] using h3⟩, rfl⟩
 ·rintro ⟨m, hm, rfl⟩
  obtain ⟨_, _, h3⟩ := mem_lst.1 hm
  have h3 : L (ptr m) ≠ 0 := by simpa [fP] using h3
  obtain ⟨n, h4, h5⟩ := h.dn m h3
  obtain ⟨i, hi, _⟩ := h.rp.lnk _ h4
  have hn := h.rp.rd n (List.mem_of_getElem? hi)
  exact ⟨n, mem_dls.2 ⟨n, rfl, hn, h4⟩, by rw [keys_64 hn]; exact List.mem_map.2 ⟨m, h5, rfl⟩⟩
theorem nodup_le {α : Type} [DecidableEq α] {l l' : List α} (h : l.Nodup) (hs : ∀ x ∈ l, x ∈ l') : l.length ≤ l'.length := by
 induction l generalizing l' with
 | nil => exact Nat.zero_le _
 | cons x t ih =>
  rw [List.nodup_cons] at h
  have hx := hs x (by simp)
  have h2 := ih (l' := l'.erase x) h.2 fun y hy => (List.mem_erase_of_ne (fun e => h.1 (by rw [← e]; exact hy))).2 (hs y (by simp [hy]))
  rw [List.length_erase_of_mem hx] at h2
  have := List.length_pos_of_mem hx
  rw [List.length_cons]
  omega
theorem Rep.count (h : Rep rs L ds io) : rs.length = (lst (fD L) 0 1062).length + (lst (fP L) 0 34).length := by
 have hd : ((lst (fD L) 0 1062).map dat ++ (lst (fP L) 0 34).map Rl.ptr).Nodup := by
  rw [List.nodup_append]
  refine ⟨nodup_inj (fun a b e => by injection e) (lst_nodup _ _ _), nodup_inj (fun a b e => by injection e) (lst_nodup _ _ _), ?_⟩
  rintro a ha c hc rfl
  obtain ⟨n, _, rfl⟩ := List.mem_map.1 ha
  obtain ⟨m, _, e⟩ := List.mem_map.1 hc
  cases e
 have hm : ∀ r, r ∈ rs ↔ r ∈ (lst (fD L) 0 1062).map dat ++ (lst (fP L) 0 34).map Rl.ptr := fun r => by
  rw [List.mem_append, List.mem_map, List.mem_map]
  constructor
  ·intro hr
   have h1 := h.all r hr
   cases r with
   | dat n => exact .inl ⟨n, mem_lst.2 ⟨Nat.zero_le _, by have := h.rp.rd n hr; omega, by simpa [fD] using h1⟩, rfl⟩
   | ptr m => exact .inr ⟨m, mem_lst.2 ⟨Nat.zero_le _, by have := h.rp.rp m hr; omega, by simpa [fP] using h1⟩, rfl⟩
  ·have hof : ∀ r, L r ≠ 0 → r ∈ rs := fun r hr => by
    obtain ⟨i, hi, _⟩ := h.rp.lnk r hr
    exact List.mem_of_getElem? hi
   rintro (⟨n, hn, rfl⟩ | ⟨m, hm, rfl⟩)
   ·exact hof _ (by simpa [fD] using (mem_lst.1 hn).2.2)
   ·exact hof _ (by simpa [fP] using (mem_lst.1 hm).2.2)
 have h1 := nodup_le h.rp.nod fun r hr => (hm r).1 hr
 have h2 := nodup_le hd fun r hr => (hm r).2 hr
 rw [List.length_append, List.length_map, List.length_map] at h1 h2
 omega
theorem Rep.file (h : Rep rs L ds io) : Room.file 64 (dls L) = (((ds.length : Nat) : Int), 0) := by
 unfold Room.file
 rw [if_neg (by rw [not_or]; exact ⟨fun h => h (.inl rfl), fun h => h (dls_inc L)⟩), if_pos (dls_ok L)]
 unfold Room.fileN
 rw [h.kl_, h.rp.len, h.count]
 unfold dls
 rw [List.length_map]
theorem Rep.takes (h : Rep rs L ds io) : (yl ds io).length = ds.length := by rw [h.yl_.2, h.rp.len, h.count]
theorem dls_with {L L' : Rl → Nat} {n : Nat} (hn : n < 1062) (h : ∀ k, L' (dat k) ≠ 0 ↔ L (dat k) ≠ 0 ∨ k = n) : Room.row (Room.all (dls L) (n : Int) ((n : Int) + 1)) = dls L' := by
 refine Room.row_unique (dls_inc _) fun x => ?_
 have e : Room.span (n : Int) (Room.more (n : Int) ((n : Int) + 1)) = [(n : Int)] := by
  have e1 : Room.more (n : Int) ((n : Int) + 1) = 1 := by
   unfold Room.more
   rw [if_pos (by omega)]
   omega
  rw [e1]
  show [(n : Int) + ((0 : Nat) : Int)] = _
  rw [show (n : Int) + ((0 : Nat) : Int) = (n : Int) by omega]
 unfold Room.all
 rw [e, List.mem_append, List.mem_singleton, mem_dls, mem_dls]
 constructor
 ·rintro ⟨k, rfl, h1, h2⟩
  rcases (h k).1 h2 with h3 | rfl
  ·exact .inl ⟨k, rfl, h1, h3⟩
  ·exact .inr rfl
 ·rintro (⟨k, rfl, h1, h2⟩ | rfl)
  ·exact ⟨k, rfl, h1, (h k).2 (.inl h2)⟩
  ·exact ⟨n, rfl, hn, (h n).2 (.inr rfl)⟩
end Spr
end Go.Proofs.YtcppkaphlcflgaaGreat
namespace Go.Proofs.YtcppkaphlcflgaaGreat
namespace Spr
variable {rs : List Rl} {L : Rl → Nat} {ds : List (List UInt8)} {io : Io} {s : Ps}

structure Lk (s : Ps) (ds : List (List UInt8)) : Prop where
 tb : s.tb = 1
 us : s.us = (List.range ds.length).map (· + 2)
 g : ∀ n, 2 ≤ n → s.g n = ds.getD (n - 2) []
def V (l p : Nat) : Prop := p = 0 ∨ (2 ≤ p ∧ p < l + 2)
theorem V.mono {l l' p : Nat} (h : V l p) (hl : l ≤ l') : V l' p := by unfold V at *; omega
theorem Lk.mem (h : Lk s ds) {p : Nat} : p ∈ s.us ↔ 2 ≤ p ∧ p < ds.length + 2 := by
 rw [h.us, List.mem_map]
 constructor
 ·rintro ⟨i, hi, rfl⟩
  have := List.mem_range.1 hi
  omega
 ·rintro ⟨h1, h2⟩
  exact ⟨p - 2, List.mem_range.2 (by omega), by omega⟩
theorem Lk.gd (h : Lk s ds) {p : Nat} : Nod.Gd s p ↔ V ds.length p := by
 unfold Nod.Gd V
 rw [h.mem]
theorem Lk.len (h : Lk s ds) : s.us.length = ds.length := by rw [h.us, List.length_map, List.length_range]
theorem Lk.nx (h : Lk s ds) (hn : ds.length < s.np) : s.nx = ds.length + 2 := by
 refine Ps.nx_of ⟨by rw [h.tb]; omega, by rw [h.tb]; omega, fun hm => ?_, fun m h1 h2 => ?_⟩
 ·have := h.mem.1 hm
  omega
 ·rw [h.tb] at h1
  exact h.mem.2 (by omega)
theorem Lk.addX (h : Lk s ds) (x : List UInt8) : Lk (s.addX (ds.length + 2) x) (ds ++ [x]) := by
 refine ⟨h.tb, ?_, fun n hn => ?_⟩
 ·show s.us ++ [ds.length + 2] = _
  rw [h.us, List.length_append, List.length_singleton, List.range_succ, List.map_append]
  rfl
 ·show Pol.updN s.g (ds.length + 2) x n = _
  by_cases e : n = ds.length + 2
  ·subst e
   rw [Pol.updN_same, Nat.add_sub_cancel, getD_last]
  ·rw [Pol.updN_ne e, h.g n hn]
   rcases Nat.lt_or_ge (n - 2) ds.length with h1 | h1
   ·rw [getD_app h1]
   ·rw [List.getD_eq_getElem?_getD, List.getD_eq_getElem?_getD, List.getElem?_eq_none h1, List.getElem?_eq_none (by rw [List.length_append, List.length_singleton]; omega)]
theorem Lk.put (h : Lk s ds) {p : Nat} (h2 : 2 ≤ p) (hp : p < ds.length + 2) (x : List UInt8) : Lk (s.put p x) (ds.set (p - 2) x) := by
 refine ⟨h.tb, ?_, fun n hn => ?_⟩
 ·rw [List.length_set]
  exact h.us
 ·show Pol.updN s.g p x n = _
  rw [getD_set (by omega)]
  by_cases e : n = p
  ·subst e
   rw [Pol.updN_same, if_pos rfl]
  ·rw [Pol.updN_ne e, h.g n hn, if_neg (by omega)]
theorem pts_put {x : List UInt8} {k tt : Nat} (hx : x.length = 64) (hk : k < 32) (h0 : tt ≠ 0) (ht : tt < 65536) : Pt.pts (Pt.put x k tt) ≠ [] := by
 intro e
 unfold Pt.pts at e
 rw [put_len64 hx hk, if_pos (show Ino.Sized (64 : Nat) from .inl rfl)] at e
 have h2 := Pt.two_put (xs := x) (j := k) (tt := tt) (by omega) ht
 have : (k, tt) ∈ Pt.ptsTo (Pt.put x k tt) (64 / 2) := Pt.mem_ptsTo.2 ⟨by omega, by rw [h2]; exact h0, h2.symm⟩
 rw [e] at this
 cases this
theorem getD_len (hs : ∀ x ∈ ds, x.length = 64) {i : Nat} (h : i < ds.length) : (ds.getD i []).length = 64 := by
 rw [List.getD_eq_getElem?_getD, List.getElem?_eq_getElem h]
 exact hs _ (List.getElem_mem _)
theorem Lk.point (h : Lk s ds) (hs : ∀ x ∈ ds, x.length = 64) {p k tt : Nat} (hp : V ds.length p) (hl : ds.length < s.np) (hk : k < 32) (h0 : tt ≠ 0) (ht : tt < 65536) :
  Lk (Nod.pointS s p k tt).1 (pointD ds p k tt) ∧ (Nod.pointS s p k tt).2 = pointP ds p := by
 unfold pointD pointP
 by_cases hz : p = 0
 ·rw [if_pos hz, if_pos hz]
  have hn := h.nx hl
  have e := Nod.pointS_eq (s := s) (p := p) (k := k) (tt := tt) (q := ds.length + 2) (t := s.add (ds.length + 2)) (by rw [if_pos hz, hn]) (by rw [if_pos hz, hn])
  have eg : (s.add (ds.length + 2)).g (ds.length + 2) = zeros := Pol.updN_same _ _ _
  rw [eg, if_neg (pts_put zeros_len hk h0 ht)] at e
  rw [e]
  refine ⟨?_, rfl⟩
  show Lk ((s.add (ds.length + 2)).put (ds.length + 2) (Pt.put zeros k tt)) _
  unfold Ps.add
  rw [Ps.addX_put]
  exact h.addX _
 ·rw [if_neg hz, if_neg hz]
  have hv : 2 ≤ p ∧ p < ds.length + 2 := by unfold V at hp; omega
  have e := Nod.pointS_eq (s := s) (p := p) (k := k) (tt := tt) (q := p) (t := s) (by rw [if_neg hz]) (by rw [if_neg hz])
  have eg : s.g p = pgs ds p := h.g p hv.1
  rw [eg, if_neg (pts_put (show (pgs ds p).length = 64 from getD_len hs (by omega)) hk h0 ht)] at e
  rw [e]
  exact ⟨h.put hv.1 hv.2 _, rfl⟩
theorem pointD_len (p k tt : Nat) : ds.length ≤ (pointD ds p k tt).length ∧ (pointD ds p k tt).length ≤ ds.length + 1 := by
 unfold pointD
 split
 ·rw [List.length_append, List.length_singleton]; omega
 ·rw [List.length_set]; omega
theorem pointD_sz (hs : ∀ x ∈ ds, x.length = 64) {p k tt : Nat} (hp : V ds.length p) (hk : k < 32) : ∀ x ∈ pointD ds p k tt, x.length = 64 := fun x hx => by
 unfold pointD at hx
 split at hx
 ·rcases List.mem_append.1 hx with h1 | h1
  ·exact hs x h1
  ·rw [List.mem_singleton.1 h1]
   exact put_len64 zeros_len hk
 ·rcases List.mem_or_eq_of_mem_set hx with h1 | h1
  ·exact hs x h1
  ·rw [h1]
   exact put_len64 (getD_len hs (by unfold V at hp; omega)) hk
theorem pointP_V {p k tt : Nat} (hp : V ds.length p) : V (pointD ds p k tt).length (pointP ds p) ∧ pointP ds p ≠ 0 ∧ pointP ds p < ds.length + 3 := by
 have h := pointD_len (ds := ds) p k tt
 unfold pointP
 unfold V at *
 by_cases h0 : p = 0
 ·rw [if_pos h0]
  unfold pointD at h ⊢
  rw [if_pos h0] at h ⊢
  rw [List.length_append, List.length_singleton] at *
  omega
 ·rw [if_neg h0]
  omega
theorem Lk.ptP_ (h : Lk s ds) {p k : Nat} (hp : V ds.length p) : Nod.ptP s.g p k = ptP ds p k := by
 unfold Nod.ptP Spr.ptP
 by_cases h0 : p = 0
 ·rw [if_pos h0, if_pos h0]
 ·rw [if_neg h0, if_neg h0, h.g p (by unfold V at hp; omega)]
  rfl
structure SetV (ds : List (List UInt8)) (io : Io) : Prop where
 sz : ∀ x ∈ ds, x.length = 64
 dl : io.d.length = 6
 s : V ds.length io.s
 b : V ds.length io.b
 bj : ∀ j, j < 32 → V ds.length (ptP ds io.b j)
theorem Lk.set (h : Lk s ds) (hv : SetV ds io) {n tt : Nat} (hn : n < 1062) (hl : ds.length + 1 < s.np) (hl2 : ds.length < 8000) (h0 : tt ≠ 0) (ht : tt < 8192) :
  Lk (Nod.setS s io n tt).1 (setD ds io n tt) ∧ (Nod.setS s io n tt).2 = setI ds io n tt ∧ Nod.SetOk s io n tt := by
 have hb : ∀ p, V ds.length p → p = 0 → s.us.length < s.np := fun _ _ _ => by rw [h.len]; omega
 have hS : Nod.SetOk s io n tt := by
  refine ⟨hv.dl, hn, ht, fun _ _ => ⟨h.gd.2 hv.s, hb _ hv.s⟩, fun h38 => ?_⟩
  have hj : (n - 38) / 32 < 32 := by omega
  have h1 := hv.bj _ hj
  rw [h.ptP_ hv.b]
  obtain ⟨a1, a2⟩ := h.point hv.sz (k := (n - 38) % 32) h1 (by omega) (by omega) h0 (by omega)
  have b1 := pointD_len (ds := ds) (ptP ds io.b ((n - 38) / 32)) ((n - 38) % 32) tt
  have b2 := pointP_V (k := (n - 38) % 32) (tt := tt) h1
  refine ⟨h.gd.2 hv.b, h.gd.2 h1, hb _ h1, a1.gd.2 (hv.b.mono b1.1), fun _ => ?_, ?_⟩
  ·rw [a1.len]
   omega
  ·rw [a2]
   omega
 unfold Nod.setS setD setI
 by_cases h6 : n < 6
 ·rw [if_pos h6, if_pos h6, if_pos h6]
  exact ⟨h, rfl, hS⟩
 rw [if_neg h6, if_neg h6, if_neg h6]
 by_cases h38 : n < 38
 ·rw [if_pos h38, if_pos h38, if_pos h38]
  obtain ⟨a1, a2⟩ := h.point hv.sz (k := n - 6) hv.s (by omega) (by omega) h0 (by omega : tt < 65536)
  exact ⟨a1, by rw [a2], hS⟩
 ·rw [if_neg h38, if_neg h38, if_neg h38]
  have hj : (n - 38) / 32 < 32 := by omega
  have h1 := hv.bj _ hj
  obtain ⟨a1, a2⟩ := h.point hv.sz (k := (n - 38) % 32) h1 (by omega) (by omega) h0 (by omega : tt < 65536)
  have b1 := pointD_len (ds := ds) (ptP ds io.b ((n - 38) / 32)) ((n - 38) % 32) tt
  have b2 := pointP_V (k := (n - 38) % 32) (tt := tt) h1
  have hnp := fun p k tt => (show (Nod.pointS s p k tt).1.np = s.np from by
   have h := Nod.pointS_eq (s := s) (p := p) (k := k) (tt := tt) rfl rfl
   rw [h]
   by_cases h0 : p = 0
   ·simp only [if_pos h0]
    split <;> rfl
   ·simp only [if_neg h0]
    split <;> rfl)
  obtain ⟨a3, a4⟩ := a1.point (pointD_sz hv.sz h1 (by omega)) (k := (n - 38) / 32) (tt := pointP ds (ptP ds io.b ((n - 38) / 32))) (hv.b.mono b1.1) (by rw [hnp]; omega) hj b2.2.1 (by omega)
  simp only [h.ptP_ hv.b, a2]
  exact ⟨a3, by rw [a4], hS⟩
end Spr
end Go.Proofs.YtcppkaphlcflgaaGreat
namespace Go.Proofs.YtcppkaphlcflgaaGreat
namespace Spr
open Rl
variable {rs : List Rl} {L : Rl → Nat} {ds : List (List UInt8)} {io : Io} {s : Ps}

theorem Lk.there (h : Lk s ds) {p : Nat} (h1 : 2 ≤ p) (h2 : p < ds.length + 2) : s.There p := Or.inr (h.mem.2 ⟨h1, h2⟩)
theorem Rep.V_ (h : Rep rs L ds io) (r : Rl) : V ds.length (L r) := by
 by_cases h0 : L r = 0
 ·exact .inl h0
 ·obtain ⟨i, hi, e⟩ := h.rp.lnk r h0
  have h1 := idx_lt hi
  have h2 := h.rp.len
  exact .inr (by omega)
theorem ptP_app {p k : Nat} (hp : V ds.length p) (x : List UInt8) : ptP (ds ++ [x]) p k = ptP ds p k := by
 unfold ptP pgs
 by_cases h0 : p = 0
 ·rw [if_pos h0, if_pos h0]
 ·rw [if_neg h0, if_neg h0, getD_app (by unfold V at hp; omega)]
theorem Rep.setV (h : Rep rs L ds io) : SetV (ds ++ [zeros]) io := by
 have hl : ds.length ≤ (ds ++ [zeros]).length := by rw [List.length_append]; omega
 have hb : V ds.length io.b := by rw [h.rp.b]; exact h.V_ _
 refine ⟨fun x hx => ?_, h.rp.dl, ?_, hb.mono hl, fun j hj => ?_⟩
 ·rcases List.mem_append.1 hx with h1 | h1
  ·exact h.rp.sz x h1
  ·rw [List.mem_singleton.1 h1]
   exact zeros_len
 ·rw [h.rp.s]
  exact (h.V_ _).mono hl
 ·rw [ptP_app hb, h.ptP_ hj]
  exact (h.V_ _).mono hl
theorem Rep.wf (h : Rep rs L ds io) (hl : Lk s ds) : Nod.Wf s io := by
 have hb : V ds.length io.b := by rw [h.rp.b]; exact h.V_ _
 have hs : V ds.length io.s := by rw [h.rp.s]; exact h.V_ _
 have h0 : ∀ k, ptP ds 0 k = 0 := fun k => rfl
 refine ⟨h.rp.dl, fun n hn => hl.gd.2 (by rw [h.rp.d n hn]; exact h.V_ _), hl.gd.2 hs, hl.gd.2 hb, fun j hj => hl.gd.2 ?_, fun j hj => hl.gd.2 ?_, fun j k hj hk => hl.gd.2 ?_⟩
 ·rw [hl.ptP_ hs, h.rp.s]
  by_cases h1 : L (Rl.ptr 0) = 0
  ·rw [h1]; exact .inl rfl
  ·rw [h.rp.ptr h1 hj]; exact h.V_ _
 ·rw [hl.ptP_ hb, h.ptP_ hj]; exact h.V_ _
 ·rw [hl.ptP_ hb, h.ptP_ hj, hl.ptP_ (h.V_ _)]
  by_cases h1 : L (Rl.ptr (2 + j)) = 0
  ·rw [h1]; exact .inl rfl
  ·rw [h.rp.ptr h1 hk]; exact h.V_ _
theorem Rep.at_lk (h : Rep rs L ds io) (hl : Lk s ds) {n : Nat} (hn : n < 1062) : Nod.atP s.g io n = L (dat n) := by
 rw [← h.at_ hn]
 have hb : V ds.length io.b := by rw [h.rp.b]; exact h.V_ _
 have hs : V ds.length io.s := by rw [h.rp.s]; exact h.V_ _
 unfold Nod.atP atP
 by_cases h6 : n < 6
 ·rw [if_pos h6, if_pos h6]
 ·rw [if_neg h6, if_neg h6]
  by_cases h38 : n < 38
  ·rw [if_pos h38, if_pos h38, hl.ptP_ hs]
  ·rw [if_neg h38, if_neg h38, hl.ptP_ hb, hl.ptP_]
   rw [h.ptP_ (by omega)]
   exact h.V_ _
def pgD (L : Rl → Nat) (ds : List (List UInt8)) (n : Nat) : List UInt8 := if L (dat n) = 0 then zeros else ds.getD (L (dat n) - 2) []
theorem Rep.pgD_len (h : Rep rs L ds io) (n : Nat) : (pgD L ds n).length = 64 := by
 unfold pgD
 split
 ·exact zeros_len
 ·have := h.V_ (dat n)
  exact getD_len h.rp.sz (by unfold V at this; omega)
theorem Rep.rdPg_ (h : Rep rs L ds io) (hl : Lk s ds) {n : Nat} (hn : n < 1062) : Nod.rdPg s io n = pgD L ds n := by
 unfold Nod.rdPg pgD
 rw [h.at_lk hl hn]
 split
 ·rfl
 ·rename_i h0
  have := h.V_ (dat n)
  exact hl.g _ (by unfold V at this; omega)
theorem Rep.put_ (h : Rep rs L ds io) {n : Nat} (h0 : L (dat n) ≠ 0) {x : List UInt8} (hx : x.length = 64) :
  Rep rs L (ds.set (L (dat n) - 2) x) io ∧ ∀ k, pgD L (ds.set (L (dat n) - 2) x) k = if k = n then x else pgD L ds k := by
 obtain ⟨i, hi, e⟩ := h.rp.lnk _ h0
 have hil := idx_lt hi
 have hlen := h.rp.len
 rw [e, Nat.add_sub_cancel]
 refine ⟨⟨⟨by rw [List.length_set]; exact hlen, h.rp.nod, h.rp.dl, h.rp.rd, h.rp.rp, fun y hy => ?_, h.rp.lnk, fun j m hm k hk => ?_, h.rp.d, h.rp.s, h.rp.b⟩, h.all, h.up, h.dn⟩, fun k => ?_⟩
 ·rcases List.mem_or_eq_of_mem_set hy with h1 | h1
  ·exact h.rp.sz y h1
  ·rw [h1]; exact hx
 ·rw [getD_set (by omega), if_neg (fun e => by subst e; rw [hi] at hm; cases hm)]
  exact h.rp.pt j m hm k hk
 ·unfold pgD
  by_cases hk : L (dat k) = 0
  ·rw [if_pos hk, if_pos hk, if_neg (fun e1 => h0 (by rw [← e1]; exact hk))]
  ·rw [if_neg hk, if_neg hk, getD_set (by omega)]
   obtain ⟨j, hj, e2⟩ := h.rp.lnk _ hk
   by_cases e3 : k = n
   ·subst e3
    rw [if_pos rfl, if_pos (by omega)]
   ·rw [if_neg e3, if_neg]
    intro e4
    have e5 : j = i := by omega
    subst e5
    rw [hi] at hj
    injection hj with hj
    injection hj with hj
    exact e3 hj.symm
theorem setS_np (s : Ps) (io : Io) (n tt : Nat) : (Nod.setS s io n tt).1.np = s.np := by
 unfold Nod.setS
 split
 ·rfl
 ·split
  ·exact pointS_np ..
  ·exact (pointS_np ..).trans (pointS_np ..)
structure Ensd (s : Ps) (L : Rl → Nat) (ds : List (List UInt8)) (io : Io) (n : Nat) (rs' : List Rl) (L' : Rl → Nat) (ds' : List (List UInt8)) : Prop where
 rep : Rep rs' L' ds' (Nod.ens s io n).2.1
 lk : Lk (Nod.ens s io n).1 ds'
 at_ : (Nod.ens s io n).2.2 = L' (dat n)
 nz : L' (dat n) ≠ 0
 ok : Nod.EnsOk s io n
 le : ds.length ≤ ds'.length ∧ ds'.length ≤ ds.length + 3
 np : (Nod.ens s io n).1.np = s.np
 lk_ : ∀ k, L' (dat k) ≠ 0 ↔ L (dat k) ≠ 0 ∨ k = n
 pg : ∀ k, pgD L' ds' k = pgD L ds k
theorem Rep.ens (h : Rep rs L ds io) (hl : Lk s ds) {n : Nat} (hn : n < 1062) (hd : ds.length ≤ 50) (hp : s.np = 60) : ∃ rs' L' ds', Ensd s L ds io n rs' L' ds' := by
 have hwf := h.wf hl
 have hat := h.at_lk hl hn
 by_cases h0 : L (dat n) = 0
 ·have ha : Nod.atP s.g io n = 0 := hat.trans h0
  have hnx := hl.nx (by omega)
  have hA : Lk (s.add s.nx) (ds ++ [zeros]) := by rw [hnx]; exact hl.addX _
  have hAl : (ds ++ [zeros]).length = ds.length + 1 := by rw [List.length_append]; rfl
  have hnp : (s.add s.nx).np = s.np := rfl
  obtain ⟨a1, a2, a3⟩ := hA.set h.setV (n := n) (tt := ds.length + 2) hn (by rw [hnp, hAl]; omega) (by omega) (by omega) (by omega)
  obtain ⟨rs', L', b1, b2⟩ := h.add hn h0 hd
  have e : Nod.ens s io n = ((Nod.setS (s.add s.nx) io n (ds.length + 2)).1, (Nod.setS (s.add s.nx) io n (ds.length + 2)).2, ds.length + 2) := by
   have e := show Nod.ens s io n = ((Nod.setS (s.add s.nx) io n s.nx).1, (Nod.setS (s.add s.nx) io n s.nx).2, s.nx) from if_pos ha
   rw [e, hnx]
  have hsn := setS_np (s.add s.nx) io n (ds.length + 2)
  rw [hnp] at hsn
  have a4 : Nod.SetOk (s.add s.nx) io n s.nx := by
   have e9 : Nod.SetOk (s.add s.nx) io n s.nx = Nod.SetOk (s.add s.nx) io n (ds.length + 2) := congrArg _ hnx
   rw [e9]
   exact a3
  clear a3
  generalize Nod.setS (s.add s.nx) io n (ds.length + 2) = Z at *
  replace a1 : Lk Z.1 (addD ds io n) := a1
  replace a2 : Z.2 = addI ds io n := a2
  have hle := b2.pre.length_le
  have hlen1 := b1.rp.len
  have hlen0 := h.rp.len
  have hle2 := b2.le
  have hv9 := b1.V_ (dat n)
  rw [b2.nw] at hv9
  have hth : Z.1.There (ds.length + 2) := a1.there (by omega) (by unfold V at hv9; omega)
  refine ⟨rs', L', addD ds io n, ?_, ?_, ?_, ?_, ⟨hwf, hn, fun _ => ⟨by rw [hl.len]; omega, a4⟩, ?_, ?_⟩, ⟨by omega, hle2⟩, ?_, fun k => ?_, fun k => ?_⟩
  ·rw [e]
   show Rep rs' L' (addD ds io n) Z.2
   rw [a2]
   exact b1
  ·rw [e]
   exact a1
  ·rw [e, b2.nw]
  ·rw [b2.nw]; omega
  ·rw [e]
   exact hth
  ·rw [e]
   show Z.2.d.length = 6
   rw [a2]
   exact b1.rp.dl
  ·rw [e]
   exact hsn
  ·rw [b2.lk]
   constructor
   ·rintro (h1 | h1 | ⟨m, _, h1⟩)
    ·exact .inl h1
    ·injection h1 with h1; exact .inr h1
    ·cases h1
   ·rintro (h1 | h1)
    ·exact .inl h1
    ·exact .inr (.inl (by rw [h1]))
  ·unfold pgD
   by_cases hk : L (dat k) = 0
   ·rw [if_pos hk]
    by_cases e3 : k = n
    ·subst e3
     rw [if_neg (by rw [b2.nw]; omega), b2.nw, Nat.add_sub_cancel, b2.new]
    ·rw [if_pos]
     by_cases h9 : L' (dat k) = 0
     ·exact h9
     ·rcases (b2.lk (dat k)).1 h9 with h1 | h1 | ⟨m, _, h1⟩
      ·exact absurd hk h1
      ·injection h1 with h1; exact absurd h1 e3
      ·cases h1
   ·have e1 := b2.old _ hk
    obtain ⟨i, hi, e2⟩ := h.rp.lnk _ hk
    rw [if_neg (by rw [e1]; exact hk), if_neg hk, e1, e2, Nat.add_sub_cancel, b2.dt i k hi]
 ·have ha : ¬ Nod.atP s.g io n = 0 := by rw [hat]; exact h0
  have e : Nod.ens s io n = (s, io, Nod.atP s.g io n) := if_neg ha
  have hv := h.V_ (dat n)
  refine ⟨rs, L, ds, by rw [e]; exact h, by rw [e]; exact hl, by rw [e]; exact hat, h0, ⟨hwf, hn, fun h1 => absurd h1 ha, ?_, by rw [e]; exact h.rp.dl⟩, ⟨Nat.le_refl _, by omega⟩, by rw [e], fun k => ⟨.inl, ?_⟩, fun k => rfl⟩
  ·rw [e]
   show s.There (Nod.atP s.g io n)
   rw [hat]
   exact .inr (hl.mem.2 (by unfold V at hv; omega))
  ·rintro (h1 | rfl)
   ·exact h1
   ·exact h0
end Spr
end Go.Proofs.YtcppkaphlcflgaaGreat
