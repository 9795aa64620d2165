/-
  A block is erased.
-/
/-
  What writing a page makes: plain mathematics.
-/
import Derived.Test.YtiipnpfaaghekaaGreatFtlOps
import Derived.Test.YtiipnpfaaghekaaGreatFtlNeed
import Derived.Test.YtiipnpfaaghekaaGreatFtlCopy
import Derived.Test.YtiipnpfaaghekaaGreatFtlAsk
import Derived.Test.YtiipnpfaaghekaaGreatTagWrite
import Derived.Test.YtiipnpfaaghekaaGreatFtlAt
/-
  A page is programmed with the next number: put.
-/
/-
  A page is programmed with the next number.
-/
/-
  Blocks are made free, until enough are.
-/
/-
  What is needed in a block is copied away, page by page: plain mathematics.
-/
namespace Go.Proofs.YtiipnpfaaghekaaGreat
open Go.RowKit Ftl

section
variable {NB B n : Nat} {R : Nat → Prop} {w : World} {f : Fm} {x : List Nat} {E : List En}
set_option maxRecDepth 100000 in
set_option maxHeartbeats 4000000 in
theorem wipe_calls (h : FtM NB B R w f) (hi : Fi NB n x f.g E) {k : Nat} (hk : k < NB) (hs : (Gc.at_ f.g.l k).st = 0 ∨ (Gc.at_ f.g.l k).st = 3) (hn : n ≤ 1099511627776) :
    Calls Tryz.prog 96 #[.pointer (some ⟨f.F, 0, none⟩), .int .i64 (k : Int)] w fun e w' => e = .returned (.int .i64 0) ∧ ∃ ps', FtR NB B R w w' { f with g := erG f.g k ps' } := by
  have HE := Lib.hid (fErase_calls h hi hk hs hn)
  have c1 := h.c1
  have g1 : (0 : Int) ≤ (k : Int) := by omega
  have g2 : (k : Int) < (NB : Int) := by omega
  clear h hi hs
  go_enter Tryz.func96, Tryz.ntmps96
  go_wp2_with fail
  refine HE.out.mono ?_
  rintro e w1 ⟨rfl, ps', h1⟩
  have H1 := Lib.hid h1
  have c10 := h1.1.c10
  simp only at c10
  obtain ⟨y0, f0⟩ := h1.1.hL.cellg (k := k) (by simpa using hk)
  rw [List.getElem_replicate] at y0
  simp only at y0 f0
  have y0 : w1.cell? ⟨f.LA, k, none⟩ = some (.bool false) := y0
  have hF := h1.1.setL k
  have HF := Lib.hid (h1.step hF.1 hF.2)
  clear h1 c1 hF
  go_wp2
  go_ret
  exact ⟨rfl, ps', HF.out⟩
end
end Go.Proofs.YtiipnpfaaghekaaGreat
/-
  An action is done: what is needed is copied away, the block is erased.
-/
/-
  What is needed in a block is copied away.
-/
namespace Go.Proofs.YtiipnpfaaghekaaGreat
open Go.RowKit

namespace Ftl
def sk (e : En) : Tg × List UInt8 := (e.t, e.d)
/-- All but places, and the manager, as it was. -/
structure Same (f f' : Fm) : Prop where
  F : f'.F = f.F
  SE : f'.SE = f.SE
  NO : f'.NO = f.NO
  GO : f'.GO = f.GO
  LA : f'.LA = f.LA
  M : f'.g.M = f.g.M
  ML : f'.g.ML = f.g.ML
  C : f'.g.C = f.g.C
  seq : f'.seq = f.seq
  ep : f'.ep = f.ep
  tv : f'.tv = f.tv
  tx : f'.tx = f.tx
  ov : f'.ov = f.ov
  se : f'.se.map sk = f.se.map sk
  no : f'.no.map sk = f.no.map sk
  go : f'.go.map (fun e => e.t.p) = f.go.map fun e => e.t.p
  gh : f'.g.gh = f.g.gh
theorem Same.refl (f : Fm) : Same f f := ⟨rfl, rfl, rfl, rfl, rfl, rfl, rfl, rfl, rfl, rfl, rfl, rfl, rfl, rfl, rfl, rfl, rfl⟩
theorem Same.trans {a b c : Fm} (h : Same a b) (k : Same b c) : Same a c :=
  ⟨k.F.trans h.F, k.SE.trans h.SE, k.NO.trans h.NO, k.GO.trans h.GO, k.LA.trans h.LA, k.M.trans h.M, k.ML.trans h.ML, k.C.trans h.C, k.seq.trans h.seq, k.ep.trans h.ep, k.tv.trans h.tv, k.tx.trans h.tx, k.ov.trans h.ov, k.se.trans h.se, k.no.trans h.no, k.go.trans h.go, k.gh.trans h.gh⟩
theorem Same.lenE {f f' : Fm} (h : Same f f') : (f'.se ++ f'.no).length = (f.se ++ f.no).length := by
  have h1 := congrArg List.length h.se
  have h2 := congrArg List.length h.no
  simp only [List.length_map] at h1 h2
  rw [List.length_append, List.length_append, h1, h2]
theorem putE_perm {l : List En} {x e : En} (hu : Uq l) (hx : x ∈ l) (hp : x.t.p = e.t.p) : (x :: putE l e).Perm (e :: l) := by
  obtain ⟨l1, l2, rfl⟩ := List.append_of_mem hx
  rw [putE_is hu hp]
  refine ((List.perm_middle (a := e) (l₁ := l1) (l₂ := l2)).cons x).trans ?_
  refine (List.Perm.swap e x (l1 ++ l2)).trans ?_
  exact (List.perm_middle.symm).cons e
theorem putE_sk {l : List En} {x e : En} (hu : Uq l) (hx : x ∈ l) (ht : e.t = x.t) (hd : e.d = x.d) : (putE l e).map sk = l.map sk := by
  obtain ⟨l1, l2, rfl⟩ := List.append_of_mem hx
  rw [putE_is hu (by rw [ht])]
  simp only [List.map_append, List.map_cons]
  rw [show sk e = sk x by unfold sk; rw [ht, hd]]
theorem uq_sk {l l' : List En} (h : l'.map sk = l.map sk) (hu : Uq l) : Uq l' := by
  have e : ∀ l : List En, l.map (fun e => e.t.p) = (l.map sk).map fun y => y.1.p := fun l => by rw [List.map_map]; rfl
  unfold Uq at *
  rw [e, h, ← e]
  exact hu
theorem putE_keys {l : List En} {e : En} (hs : (getE l e.t.p).isSome = true) : (putE l e).map (fun e => e.t.p) = l.map fun e => e.t.p := by
  unfold putE
  rw [if_pos hs, List.map_map]
  refine List.map_congr_left fun x _ => ?_
  show (if x.t.p = e.t.p then e else x).t.p = x.t.p
  split
  · rename_i h; exact h.symm
  · rfl
theorem mem_putE_of {l : List En} {e y : En} (hy : y ∈ l) (hne : y.t.p ≠ e.t.p) : y ∈ putE l e := by
  unfold putE
  split
  · exact List.mem_map.2 ⟨y, hy, if_neg hne⟩
  · exact List.mem_append_left _ hy
/-- Behind j of the m pages of block k. -/
structure Mvj (NB n : Nat) (f f' : Fm) (k m j : Nat) (rest : List Hd) : Prop where
  same : Same f f'
  fi : Fi NB (n + 2 * j) [] f'.g (f'.se ++ f'.no)
  us : Uq f'.se
  un : Uq f'.no
  wear : ∀ q, (Gc.at_ f'.g.l q).wear = (Gc.at_ f.g.l q).wear
  live : (Gc.at_ f'.g.l k).live = m - j
  st : (Gc.at_ f'.g.l k).st = if (Gc.at_ f.g.l k).st = 2 ∧ j = m then 3 else (Gc.at_ f.g.l k).st
  rows : (j = 0 ∧ f'.g.l = f.g.l ∧ f'.g.opn = -1) ∨ (0 < j ∧ ∃ a, a < NB ∧ a ≠ k ∧ (Gc.at_ f.g.l a).st = 0 ∧ (∀ q, q ≠ a → q ≠ k → Gc.at_ f'.g.l q = Gc.at_ f.g.l q) ∧ Gc.count 0 f'.g.l + 1 = Gc.count 0 f.g.l ∧ f'.g.opn = (if j = 8 then -1 else (a : Int)) ∧ (Gc.at_ f'.g.l a).nx = j)
  mem : ∀ y ∈ rest, y.e.b = k ∧ y.e ∈ if y.n then f'.no else f'.se
  nd : (rest.map pr).Nodup
  len : rest.length + j = m
/-- Where the next one goes. -/
def nxE (x : Hd) (k i : Nat) : En := { x.e with b := k, i := i }
/-- The map tells of the copy, the manager has not been told of the old page yet. -/
theorem Mvj.mid {NB n k m j k' i' : Nat} {f f' : Fm} {x : Hd} {rest : List Hd} {g1 : Mg} (h : Mvj NB n f f' k m j (x :: rest)) (hP : Pgd NB f'.g g1 k' i' (Tg.page x.e.t x.e.d)) (hfi : Fi NB (n + 2 * j + 1) [k'] g1 (f'.se ++ f'.no)) : Fi NB (n + 2 * j + 1) [k] g1 ((if x.n then f'.se else putE f'.se (nxE x k' i')) ++ (if x.n then putE f'.no (nxE x k' i') else f'.no)) := by
  obtain ⟨xb, xm⟩ := h.mem x (by simp)
  have hok : Oe x.e := h.fi.ok x.e (by
    cases hn : x.n
    · rw [hn] at xm; exact List.mem_append_left _ xm
    · rw [hn] at xm; exact List.mem_append_right _ xm)
  have hgp : Gp g1 (nxE x k' i') := by
    refine ⟨?_, ?_, hP.i8⟩
    · show (g1.bl k').pgs i' = some (Tg.page x.e.t x.e.d)
      rw [hP.bl, upd_same]
      exact upd_same _ _ _
    · show i' < (g1.bl k').nx
      rw [hP.bl, upd_same]
      exact Nat.lt_succ_self _
  have hfa : Fi NB (n + 2 * j + 1) [] g1 (nxE x k' i' :: (f'.se ++ f'.no)) := Fi.add (e := nxE x k' i') hfi hgp ⟨hok.rt, hok.len⟩ (List.Perm.refl _)
  have hperm : (x.e :: ((if x.n then f'.se else putE f'.se (nxE x k' i')) ++ (if x.n then putE f'.no (nxE x k' i') else f'.no))).Perm (nxE x k' i' :: (f'.se ++ f'.no)) := by
    cases hn : x.n
    · rw [hn] at xm
      exact (putE_perm (e := nxE x k' i') h.us xm rfl).append_right f'.no
    · rw [hn] at xm
      refine (List.perm_middle (a := x.e) (l₁ := f'.se) (l₂ := putE f'.no (nxE x k' i'))).symm.trans ?_
      refine ((putE_perm (e := nxE x k' i') h.un xm rfl).append_left f'.se).trans ?_
      exact List.perm_middle
  have hfd := hfa.del hperm
  rw [xb] at hfd
  exact hfd
theorem Mvj.step {NB n k m j k' i' : Nat} {f f' f4 : Fm} {x : Hd} {rest : List Hd} {g1 : Mg} (h : Mvj NB n f f' k m j (x :: rest)) (hk : k < NB) (hm : m ≤ 8) (h0 : (Gc.at_ f.g.l k).st ≠ 0 ∧ (Gc.at_ f.g.l k).st ≠ 1) (hP : Pgd NB f'.g g1 k' i' (Tg.page x.e.t x.e.d)) (hfi : Fi NB (n + 2 * j + 1) [k'] g1 (f'.se ++ f'.no))
    (hs : Same f' { f4 with g := g1, se := f'.se, no := f'.no }) (hse : f4.se = if x.n then f'.se else putE f'.se (nxE x k' i')) (hno : f4.no = if x.n then putE f'.no (nxE x k' i') else f'.no) (hg : f4.g = { g1 with l := g1.l.set k (dropB (Gc.at_ g1.l k)) }) : Mvj NB n f f4 k m (j + 1) rest := by
  obtain ⟨xb, xm⟩ := h.mem x (by simp)
  have hjm : j < m := by have := h.len; rw [List.length_cons] at this; omega
  have hlen := h.fi.w.len
  have hlen1 : g1.l.length = NB := hfi.w.len
  -- the block that is programmed is another one
  have hlk : 0 < (Gc.at_ f'.g.l k).live := by rw [h.live]; omega
  have hstk : (Gc.at_ f'.g.l k).st = (Gc.at_ f.g.l k).st := by rw [h.st, if_neg (by omega)]
  have hkk : k' ≠ k := by
    intro e
    subst e
    rcases hP.was with ⟨_, h1, _⟩ | ⟨h1, h2, _⟩
    · rw [hstk] at h1; exact h0.1 h1
    · rw [hstk] at h2; exact h0.2 h2
  have hrow1 : Gc.at_ g1.l k = Gc.at_ f'.g.l k := hP.row k (Ne.symm hkk)
  have hl4 : f4.g.l = g1.l.set k (dropB (Gc.at_ f'.g.l k)) := by rw [hg, hrow1]
  have hat4 : Gc.at_ f4.g.l k = dropB (Gc.at_ f'.g.l k) := by rw [hl4]; exact at_set _ _ (by omega)
  have hoth : ∀ q, q ≠ k → Gc.at_ f4.g.l q = Gc.at_ g1.l q := fun q hq => by rw [hl4]; exact at_set_other _ _ hq
  -- the entry that tells of the copy
  have hok : Oe x.e := h.fi.ok x.e (by
    cases hn : x.n
    · rw [hn] at xm; exact List.mem_append_left _ xm
    · rw [hn] at xm; exact List.mem_append_right _ xm)
  have hgp : Gp g1 (nxE x k' i') := by
    refine ⟨?_, ?_, hP.i8⟩
    · show (g1.bl k').pgs i' = some (Tg.page x.e.t x.e.d)
      rw [hP.bl, upd_same]
      exact upd_same _ _ _
    · show i' < (g1.bl k').nx
      rw [hP.bl, upd_same]
      exact Nat.lt_succ_self _
  have hfa : Fi NB (n + 2 * j + 1) [] g1 (nxE x k' i' :: (f'.se ++ f'.no)) := Fi.add (e := nxE x k' i') hfi hgp ⟨hok.rt, hok.len⟩ (List.Perm.refl _)
  have hperm : (x.e :: (f4.se ++ f4.no)).Perm (nxE x k' i' :: (f'.se ++ f'.no)) := by
    cases hn : x.n
    · rw [hn] at xm
      rw [hse, hno, hn]
      exact (putE_perm (e := nxE x k' i') h.us xm rfl).append_right f'.no
    · rw [hn] at xm
      rw [hse, hno, hn]
      refine (List.perm_middle (a := x.e) (l₁ := f'.se) (l₂ := putE f'.no (nxE x k' i'))).symm.trans ?_
      refine ((putE_perm (e := nxE x k' i') h.un xm rfl).append_left f'.se).trans ?_
      exact List.perm_middle
  have hfd := hfa.del hperm
  rw [xb] at hfd
  have hfx := hfd.drop
  rw [← hg] at hfx
  have hu : Uq f4.se ∧ Uq f4.no ∧ f4.se.map sk = f'.se.map sk ∧ f4.no.map sk = f'.no.map sk := by
    cases hn : x.n
    · rw [hn] at xm
      rw [hse, hno, hn]
      have := putE_sk (e := nxE x k' i') h.us xm rfl rfl
      exact ⟨uq_sk this h.us, h.un, this, rfl⟩
    · rw [hn] at xm
      rw [hse, hno, hn]
      have := putE_sk (e := nxE x k' i') h.un xm rfl rfl
      exact ⟨h.us, uq_sk this h.un, rfl, this⟩
  refine ⟨?_, ?_, hu.1, hu.2.1, fun q => ?_, ?_, ?_, .inr ⟨by omega, ?_⟩, fun y hy => ?_, ?_, ?_⟩
  · exact h.same.trans ⟨hs.F, hs.SE, hs.NO, hs.GO, hs.LA, by rw [hg]; exact hs.M, by rw [hg]; exact hs.ML, by rw [hg]; exact hs.C, hs.seq, hs.ep, hs.tv, hs.tx, hs.ov, hu.2.2.1, hu.2.2.2, hs.go, by rw [hg]; exact hs.gh⟩
  · rw [show n + 2 * (j + 1) = n + 2 * j + 1 + 1 by omega]; exact hfx
  · by_cases hq : q = k
    · subst hq
      rw [hat4]
      exact h.wear q
    · rw [hoth q hq]
      by_cases hq2 : q = k'
      · subst hq2; rw [hP.wear]; exact h.wear q
      · rw [hP.row q hq2]; exact h.wear q
  · rw [hat4]
    show (Gc.at_ f'.g.l k).live - 1 = _
    rw [h.live]; omega
  · rw [hat4]
    show (if (Gc.at_ f'.g.l k).st = 2 ∧ (Gc.at_ f'.g.l k).live - 1 = 0 then 3 else (Gc.at_ f'.g.l k).st) = _
    rw [hstk, h.live]
    by_cases e2 : (Gc.at_ f.g.l k).st = 2
    · by_cases e3 : j + 1 = m
      · rw [if_pos ⟨e2, by omega⟩, if_pos ⟨e2, e3⟩]
      · rw [if_neg (by omega), if_neg (by omega)]
    · rw [if_neg (fun e => e2 e.1), if_neg (fun e => e2 e.1)]
  · have hc4 : Gc.count 0 f4.g.l = Gc.count 0 g1.l := by
      have h1 := Gc.count_set 0 (l := g1.l) (k := k) (dropB (Gc.at_ f'.g.l k)) (by omega)
      rw [hrow1, hstk, if_neg h0.1] at h1
      have h2 : (dropB (Gc.at_ f'.g.l k)).st ≠ 0 := by
        show (if _ then 3 else (Gc.at_ f'.g.l k).st) ≠ 0
        split
        · omega
        · rw [hstk]; exact h0.1
      rw [if_neg h2] at h1
      rw [hl4]; omega
    have ho4 : f4.g.opn = if i' + 1 = 8 then -1 else (k' : Int) := by rw [hg]; exact hP.opn
    rcases h.rows with ⟨rfl, r2, r3⟩ | ⟨r1, a, r2, r3, r4, r5, r6, r7, r8⟩
    · rcases hP.was with ⟨_, p1, rfl, p3⟩ | ⟨p1, _⟩
      · refine ⟨k', hP.hk, hkk, by rw [← r2]; exact p1, fun q q1 q2 => ?_, ?_, ?_, ?_⟩
        · rw [hoth q q2, hP.row q q1, r2]
        · rw [hc4, ← r2]; exact p3
        · rw [ho4]
        · rw [hoth k' hkk, hP.nx]
      · rw [r3] at p1; omega
    · rw [if_neg (by omega)] at r7
      rcases hP.was with ⟨p1, _⟩ | ⟨p1, p2, p3, p4⟩
      · omega
      · obtain rfl : k' = a := by omega
        refine ⟨k', r2, r3, r4, fun q q1 q2 => ?_, ?_, ?_, ?_⟩
        · rw [hoth q q2, hP.row q q1]; exact r5 q q1 q2
        · rw [hc4, p4]; exact r6
        · rw [ho4, ← p3, r8]
        · rw [hoth k' hkk, hP.nx, ← p3, r8]
  · obtain ⟨y1, y2⟩ := h.mem y (by simp [hy])
    refine ⟨y1, ?_⟩
    have hnd := h.nd
    rw [List.map_cons, List.nodup_cons] at hnd
    have hne : ¬ pr y = pr x := fun e => hnd.1 (e ▸ List.mem_map.2 ⟨y, hy, rfl⟩)
    cases hn : x.n <;> cases hyn : y.n
    · rw [hn] at xm
      rw [hyn] at y2
      have y2 : y.e ∈ f'.se := y2
      have xm : x.e ∈ f'.se := xm
      show y.e ∈ f4.se
      rw [hse, hn]
      exact mem_putE_of y2 fun e => hne (by unfold pr; rw [hn, hyn, uq_one h.us y2 xm e])
    · rw [hyn] at y2
      show y.e ∈ f4.no
      rw [hno, hn]; exact y2
    · rw [hyn] at y2
      show y.e ∈ f4.se
      rw [hse, hn]; exact y2
    · rw [hn] at xm
      rw [hyn] at y2
      have y2 : y.e ∈ f'.no := y2
      have xm : x.e ∈ f'.no := xm
      show y.e ∈ f4.no
      rw [hno, hn]
      exact mem_putE_of y2 fun e => hne (by unfold pr; rw [hn, hyn, uq_one h.un y2 xm e])
  · have := h.nd
    rw [List.map_cons, List.nodup_cons] at this
    exact this.2
  · have := h.len; rw [List.length_cons] at this; omega
theorem uq_nodup {l : List En} (h : Uq l) : l.Nodup := nodup_of_map h
theorem ofMap_mem {n : Bool} {l : List En} {k : Nat} {y : Bool × En} : y ∈ ofMap n l k ↔ y.1 = n ∧ y.2 ∈ l ∧ y.2.b = k := by
  unfold ofMap
  rw [List.mem_map]
  constructor
  · rintro ⟨e, he, rfl⟩
    rw [List.mem_filter] at he
    exact ⟨rfl, he.1, by simpa using he.2⟩
  · rintro ⟨h1, h2, h3⟩
    refine ⟨y.2, List.mem_filter.2 ⟨h2, by simpa using h3⟩, ?_⟩
    rw [← h1]
theorem allIn_nodup {f : Fm} {k : Nat} (h1 : Uq f.se) (h2 : Uq f.no) : (allIn f k).Nodup := by
  unfold allIn
  rw [List.nodup_append]
  refine ⟨nodup_map (fun a b e => congrArg Prod.snd e) ((uq_nodup h1).filter _), nodup_map (fun a b e => congrArg Prod.snd e) ((uq_nodup h2).filter _), ?_⟩
  rintro a ha b hb rfl
  have e1 := (ofMap_mem.1 ha).1
  have e2 := (ofMap_mem.1 hb).1
  rw [e1] at e2
  cases e2
theorem allIn_len (f : Fm) (k : Nat) : (allIn f k).length = ((f.se ++ f.no).filter fun e => e.b == k).length := by
  unfold allIn ofMap
  rw [List.filter_append, List.length_append, List.length_append, List.length_map, List.length_map]
theorem mvj0 {NB n k : Nat} {f : Fm} {L : List Hd} (hfi : Fi NB n [] f.g (f.se ++ f.no)) (h1 : Uq f.se) (h2 : Uq f.no) (hk : k < NB) (ho : f.g.opn = -1) (hL : (L.map pr).Perm (allIn f k)) : Mvj NB n f f k (Gc.at_ f.g.l k).live 0 L := by
  have hc := hfi.count hk
  rw [← allIn_len] at hc
  have hb := hfi.w.bk k hk
  refine ⟨Same.refl f, hfi, h1, h2, fun _ => rfl, rfl, ?_, .inl ⟨rfl, rfl, ho⟩, fun y hy => ?_, hL.nodup_iff.2 (allIn_nodup h1 h2), ?_⟩
  · rw [if_neg]
    rintro ⟨e1, e2⟩
    have := hb.fu e1
    omega
  · have hy2 : pr y ∈ allIn f k := hL.mem_iff.1 (List.mem_map.2 ⟨y, hy, rfl⟩)
    unfold allIn at hy2
    rcases List.mem_append.1 hy2 with h3 | h3
    · obtain ⟨e1, e2, e3⟩ := ofMap_mem.1 h3
      have e1 : y.n = false := e1
      exact ⟨e3, by rw [e1]; exact e2⟩
    · obtain ⟨e1, e2, e3⟩ := ofMap_mem.1 h3
      have e1 : y.n = true := e1
      exact ⟨e3, by rw [e1]; exact e2⟩
  · have := hL.length_eq
    rw [List.length_map] at this
    omega
end Ftl
end Go.Proofs.YtiipnpfaaghekaaGreat
namespace Go.Proofs.YtiipnpfaaghekaaGreat
open Go.RowKit Ftl Go.ChangeMaps

theorem heldInfo : (Tryz.prog.info? 144).map (·.size) = some 4 := by kernel_rfl
theorem heldCs : Tryz.prog.cellsOf 144 = 4 := by kernel_rfl
theorem hd_at {SE NO : Nat} {w : World} {B : Nat} {a : Option Addr} {n : Nat} {l : List Hd} (h : ArrM 4 (hdL SE NO) w B a n l) {k : Nat} (hk : k < n) : ∃ x, l[k]? = some x ∧ ∃ b o, a = some ⟨b, o, none⟩ ∧ b < B ∧ w.cell? ⟨b, o + k * 4, none⟩ = some (.map (some (if x.n then NO else SE))) ∧ w.cell? ⟨b, o + k * 4 + 1, none⟩ = some (.int .u32 (x.e.t.p : Int)) ∧ w.cell? ⟨b, o + k * 4 + 2, none⟩ = some (.int .i64 (x.e.b : Int)) ∧ w.cell? ⟨b, o + k * 4 + 3, none⟩ = some (.int .i64 (x.e.i : Int)) := by
  obtain ⟨b, o, hk', ha, hb, hc⟩ := h.atv hk
  exact ⟨l[k], List.getElem?_eq_getElem hk', b, o, ha, hb, hc 0 _ rfl, hc 1 _ rfl, hc 2 _ rfl, hc 3 _ rfl⟩
section
variable {NB B n : Nat} {R : Nat → Prop} {w : World} {f : Fm}
/-- What moving leaves. -/
def Mvd (NB B : Nat) (R : Nat → Prop) (n : Nat) (f : Fm) (k : Nat) (w : World) (e : Ending) (w' : World) : Prop :=
  e = .returned (.int .i64 0) ∧ ∃ f', FtR NB B R w w' f' ∧ Mvj NB n f f' k (Gc.at_ f.g.l k).live (Gc.at_ f.g.l k).live []
set_option maxRecDepth 100000 in
set_option maxHeartbeats 8000000 in
theorem move_calls (h : FtM NB B R w f) (hi : Fi NB n [] f.g (f.se ++ f.no)) {k : Nat} (hk : k < NB) (ho : f.g.opn = -1) (hf : 0 < Gc.count 0 f.g.l) :
    Calls Tryz.prog 95 #[.pointer (some ⟨f.F, 0, none⟩), .int .i64 (k : Int)] w (Mvd NB B R n f k w) := by
  have hb := hi.w.bk k hk
  have hal : (allIn f k).length = (Gc.at_ f.g.l k).live := by rw [allIn_len]; exact hi.count hk
  have HN := Lib.hid (needed_calls h k (fun e he => (hi.pg e he).i8) (by have := hb.l8; omega))
  have HB0 := h.base
  have HH := Lib.hid h
  have HI := Lib.hid hi
  have HO := Lib.hid ho
  have HF := Lib.hid hf
  have HL8 := Lib.hid hb.l8
  have HAl := Lib.hid hal
  have H01 := Lib.hid (show 0 < (Gc.at_ f.g.l k).live → (Gc.at_ f.g.l k).st ≠ 0 ∧ (Gc.at_ f.g.l k).st ≠ 1 from fun hp => ⟨fun e => by have := (hb.fr e).1; omega, fun e => by have := (hb.op e).1; omega⟩)
  clear h hi ho hf hb hal
  go_enter Tryz.func95, Tryz.ntmps95
  go_wp2_with fail
  refine HN.out.mono ?_
  rintro e w1 ⟨⟨a, m, c, L, rfl, hm, hL, hA, hA2⟩, hb1⟩
  have hmz : m = (Gc.at_ f.g.l k).live := by
    have := hL.length_eq
    rw [List.length_map, hA.len, HAl.out] at this
    exact this
  obtain ⟨M, hM⟩ : ∃ M, M = (Gc.at_ f.g.l k).live := ⟨_, rfl⟩
  rw [← hM] at hmz
  subst hmz
  have HM := Lib.hid hM
  have H1 := Lib.hid (HH.out.on hb1)
  have HB1 := Lib.hid hb1
  have HA := Lib.hid hA
  have HJ0 := Lib.hid (show Mvj NB n f f k m 0 L by rw [HM.out]; exact mvj0 HI.out HH.out.hS.uq HH.out.hN.uq hk HO.out hL)
  have HA2 := Lib.hid hA2
  clear hb1 hL hA hM hA2
  go_wp2_with fail
  go_loopw [4, 6, 7, 8, 9, 10, 11, 16] (fun _ _ _ _ _ _ _ v wr => ∃ j : Nat, j ≤ m ∧ v = .int .i64 (j : Int) ∧ Hid (∃ f', FtR NB B R w1 wr f' ∧ Mvj NB n f f' k m j (L.drop j))) (fun _ _ _ _ _ _ _ v _ => m - (intOf v).toNat)
  case atStart => exact ⟨0, by omega, rfl, ⟨f, H1.out.refl, HJ0.out⟩⟩
  case round =>
    obtain ⟨j, hj, rfl, hX⟩ := hrel
    by_cases hlt : j < m
    · obtain ⟨f', hf1, hf2⟩ := hX.out
      have hA := HA.out.kq (Nat.le_refl _) hf1.2 fun b o e h1 => by
        have := HA2.out b o e
        have := (HH.out.bnd b h1).2
        omega
      obtain ⟨x, hx, b, o, rfl, hbl, c0, c1, c2, c3⟩ := hd_at hA hlt
      have hdr : L.drop j = x :: L.drop (j + 1) := by
        obtain ⟨hjl, he⟩ := List.getElem?_eq_some_iff.1 hx
        rw [List.drop_eq_getElem_cons hjl, he]
      rw [hdr] at hf2
      have HF1 := Lib.hid hf1
      have HF2 := Lib.hid hf2
      have hcs := heldCs
      have g1 : (0 : Int) ≤ (j : Int) := by omega
      have g2 : (j : Int) < (m : Int) := by omega
      clear hX hf1 hf2 hA hx hdr
      have HFF := Lib.hid HF2.out.same.F
      obtain ⟨MB, hMB⟩ : ∃ MB, MB = if x.n then f.NO else f.SE := ⟨_, rfl⟩
      rw [← hMB] at c0
      have HMB := Lib.hid hMB
      clear hMB
      go_upto_region 4 with fail
      have hal := (Below.refl wr.heap.size wr).alloc (Nat.le_refl _) (.cells #[.map (some MB), .int .u32 (x.e.t.p : Int), .int .i64 (x.e.b : Int), .int .i64 (x.e.i : Int)] 144)
      obtain ⟨R1, hR1⟩ : ∃ R1, R1 = Up R w1 wr := ⟨_, rfl⟩
      have HR1 := Lib.hid hR1
      have HM1 := Lib.hid (show FtM NB B R1 (wr.alloc (.cells #[.map (some MB), .int .u32 (x.e.t.p : Int), .int .i64 (x.e.b : Int), .int .i64 (x.e.i : Int)] 144)) f' by rw [hR1]; exact HF1.out.1.on hal)
      have HQ1 := Lib.hid (Blk.new wr 144 #[.map (some MB), .int .u32 (x.e.t.p : Int), .int .i64 (x.e.b : Int), .int .i64 (x.e.i : Int)])
      have HQn := Lib.hid (show ¬ R1 wr.heap.size by rw [hR1]; exact HF1.out.1.not_new (Nat.le_refl _))
      have HB2 := Lib.hid hal
      clear hR1 hal c0 c1 c2 c3
      generalize wr.alloc (.cells #[.map (some MB), .int .u32 (x.e.t.p : Int), .int .i64 (x.e.b : Int), .int .i64 (x.e.i : Int)] 144) = W1 at *
      have HQz := Lib.hid (show ∀ q : Nat, q < wr.heap.size → q < W1.heap.size from fun q hq => Nat.lt_of_lt_of_le hq HB2.out.size)
      obtain ⟨Q, hQ⟩ : ∃ Q, Q = wr.heap.size := ⟨_, rfl⟩
      rw [← hQ] at HQ1 HQn ⊢
      have HQe := Lib.hid hQ
      clear hQ
      have hc0 := HM1.out.c0
      rw [HFF.out] at hc0
      have hq3 : W1.cell? ⟨Q, 3, none⟩ = some (.int .i64 (x.e.i : Int)) := Blk.cellv (i := 3) HQ1.out rfl
      have HRd := Lib.hid (fRead_calls (HM1.out.on (below_drew W1)) hk x.h)
      refine wp_region_noPanic ?_
      refine wp_region_held_drew (S := (fun W' => W'.cell? ⟨f.F, 0, none⟩ = some (.pointer (some ⟨f'.g.C, 0, none⟩)) ∧ W'.cell? ⟨Q, 3, none⟩ = some (.int .i64 (x.e.i : Int)))) (by kernel_rfl) ⟨hc0, hq3⟩ (fun hS0 => ?_)
      refine takeV 0 (v := (.pointer (some ⟨f.F, 0, none⟩))) rfl (by kernel_rfl) (by kernel_rfl) (by kernel_rfl) (fun _ _ _ h => h) (by rfl) (fun _ _ => rfl) (by assumption) ?_
      try simp only [layR]
      refine takeV 1 (v := (.pointer (some ⟨f.F, 0, none⟩))) rfl (by kernel_rfl) (by kernel_rfl) (by kernel_rfl) (fun _ _ _ h => h) (by rfl) (fun _ _ => rfl) (by assumption) ?_
      try simp only [layR]
      refine takeV 2 (v := (.pointer (some ⟨f.F, 0, none⟩))) rfl (by kernel_rfl) (by kernel_rfl) (by kernel_rfl) (fun _ _ _ h => h) (by rfl) (fun W hSw => ?_) (by assumption) ?_
      · skip
        go_simp
      try simp only [layR]
      refine takeV 3 (v := (.pointer (some ⟨f'.g.C, 0, none⟩))) rfl (by kernel_rfl) (by kernel_rfl) (by kernel_rfl) (fun _ _ _ h => h) (by rfl) (fun W hSw => ?_) (by assumption) ?_
      · obtain ⟨y8, y9⟩ := hSw
        go_simp
      try simp only [layR]
      refine takeV 4 (v := (.int .i64 (k : Int))) rfl (by kernel_rfl) (by kernel_rfl) (by kernel_rfl) (fun _ _ _ h => h) (by rfl) (fun _ _ => rfl) (by assumption) ?_
      try simp only [layR]
      refine takeV 5 (v := (.pointer (some ⟨Q, 2, none⟩))) rfl (by kernel_rfl) (by kernel_rfl) (by kernel_rfl) (fun _ _ _ h => h) (by rfl) (fun W hSw => ?_) (by assumption) ?_
      · skip
        go_simp
      try simp only [layR]
      refine takeV 6 (v := (.pointer (some ⟨Q, 3, none⟩))) rfl (by kernel_rfl) (by kernel_rfl) (by kernel_rfl) (fun _ _ _ h => h) (by rfl) (fun W hSw => ?_) (by assumption) ?_
      · skip
        go_simp
      try simp only [layR]
      refine takeV 7 (v := (.int .i64 (x.e.i : Int))) rfl (by kernel_rfl) (by kernel_rfl) (by kernel_rfl) (fun _ _ _ h => h) (by rfl) (fun W hSw => ?_) (by assumption) ?_
      · obtain ⟨y8, y9⟩ := hSw
        go_simp
      try simp only [layR]
      refine wpAnyH_ready (rs := [8]) (by kernel_rfl) (by simp) ?_
      refine AllReadyH.cons rfl (fun K' hK => ?_) AllReadyH.nil
      go_simp
      refine HRd.out.mono ?_
      rintro e W2 ⟨⟨a3, c3, rfl, hc3, ho3⟩, hm2, hk2⟩
      have HM2 := Lib.hid hm2
      have HK2 := Lib.hid hk2
      have HO2 := Lib.hid ho3
      have hS1 : W2.cell? ⟨f.F, 0, none⟩ = some (.pointer (some ⟨f'.g.C, 0, none⟩)) ∧ W2.cell? ⟨Q, 3, none⟩ = some (.int .i64 (x.e.i : Int)) := by
        refine ⟨by rw [← HFF.out]; exact hm2.c0, ?_⟩
        exact (Blk.kq (HQ1.out.drew) hk2 HQn.out).cellv (i := 3) rfl
      clear hm2 hk2 ho3
      refine hK.out _ _ hS1 (fun hS2 => ?_)
      try simp only [layR]
      refine takeV 9 (v := (.tuple #[.slice a3 96 c3, .int .i64 0])) rfl (by kernel_rfl) (by kernel_rfl) (by kernel_rfl) (fun _ _ _ h => h) (by rfl) (fun _ _ => rfl) (by assumption) ?_
      try simp only [layR]
      refine takeV 10 (v := (.slice a3 96 c3)) rfl (by kernel_rfl) (by kernel_rfl) (by kernel_rfl) (fun _ _ _ h => h) (by rfl) (fun _ _ => rfl) (by assumption) ?_
      try simp only [layR]
      refine takeV 11 (v := (.int .i64 0)) rfl (by kernel_rfl) (by kernel_rfl) (by kernel_rfl) (fun _ _ _ h => h) (by rfl) (fun _ _ => rfl) (by assumption) ?_
      try simp only [layR]
      refine takeV 12 (v := (.slice a3 96 c3)) rfl (by kernel_rfl) (by kernel_rfl) (by kernel_rfl) (fun _ _ _ h => h) (by rfl) (fun _ _ => rfl) (by assumption) ?_
      try simp only [layR]
      refine takeV 13 (v := (.int .i64 0)) rfl (by kernel_rfl) (by kernel_rfl) (by kernel_rfl) (fun _ _ _ h => h) (by rfl) (fun _ _ => rfl) (by assumption) ?_
      try simp only [layR]
      refine wpAnyH_done (by kernel_rfl) ?_ _
      refine NoPanic.normal ?_
      clear hS0 hS1 hS2 hc0 hq3
      have hx1 := HF2.out.mem x (by simp)
      have hxe : x.e ∈ f'.se ++ f'.no := by
        obtain ⟨_, hx2⟩ := hx1
        cases hn : x.n
        · rw [hn] at hx2; exact List.mem_append_left _ hx2
        · rw [hn] at hx2; exact List.mem_append_right _ hx2
      have hpg : chL ((f'.g.bl k).pgs x.e.i) = Tg.page x.e.t x.e.d := by
        have := (HF2.out.fi.pg x.e hxe).pg
        rw [hx1.1] at this
        rw [this]; rfl
      have hO2 := HO2.out
      rw [hpg] at hO2
      have HO2 := Lib.hid hO2
      have HXk := Lib.hid (HF2.out.fi.ok x.e hxe).key
      have hap : ∀ q, Value.ownBlock (.slice a3 96 c3) = some q → ¬ R1 q := fun q hq => HM1.out.not_new (hO2.blockLt q hq).1
      have hr : f'.g.opn ≠ -1 ∨ 0 < Gc.count 0 f'.g.l := by
        rcases HF2.out.rows with ⟨_, e1, _⟩ | ⟨_, a, _, _, _, _, _, e1, _⟩
        · rw [e1]; exact .inr HF.out
        · refine .inl ?_
          have := HL8.out
          have := HM.out
          rw [e1, if_neg (by omega)]
          omega
      have HC := Lib.hid (copied_calls HM2.out HF2.out.fi hr a3 c3 _ (HF2.out.fi.al _ _ _ (HF2.out.fi.lt hxe) (HF2.out.fi.pg x.e hxe).i8 (HF2.out.fi.pg x.e hxe).pg) (HO2.out.mono (Nat.zero_le _)) hap)
      rw [HFF.out] at HC
      have HQ2 := Lib.hid (Blk.kq HQ1.out.drew HK2.out HQn.out)
      clear hx1 hxe hpg hO2 hap hr
      go_wp2_with fail
      refine HC.out.mono ?_
      rintro e W4 ⟨k', i', g1', rfl, h4, hP, hfi⟩
      obtain ⟨R2, hR2⟩ : ∃ R2, R2 = Up R1 W2 W4 := ⟨_, rfl⟩
      have hb5 := (Below.refl W4.heap.size W4).alloc (Nat.le_refl _) (.cells #[.int .i64 (k' : Int), .int .i64 (i' : Int)] 52)
      obtain ⟨W5, hW5⟩ : ∃ W5, W5 = W4.alloc (.cells #[.int .i64 (k' : Int), .int .i64 (i' : Int)] 52) := ⟨_, rfl⟩
      rw [← hW5] at hb5
      have hm5 := h4.1.on hb5
      have HQn2 := Lib.hid (show ¬ R2 Q by rw [hR2]; exact h4.far HQn.out (Blk.lt HQ2.out))
      rw [← hR2] at hm5
      have HQ5 := Lib.hid ((h4.blk HQ2.out HQn.out).belowHere hb5)
      have HZ5 := Lib.hid (show Blk W5 W4.heap.size 52 #[.int .i64 (k' : Int), .int .i64 (i' : Int)] by rw [hW5]; exact Blk.new W4 _ _)
      have HB5 := Lib.hid hb5
      have HW5 := Lib.hid hW5
      obtain ⟨o6, hrun, hm6, hk6⟩ := hm5.putB x.n (MB := MB) (by rw [HMB.out, show ({ f' with g := g1' } : Fm).NO = f.NO from HF2.out.same.NO, show ({ f' with g := g1' } : Fm).SE = f.SE from HF2.out.same.SE]) (nxE x k' i') HXk.out
      have hrun : (Instr.mapUpdate 55 (.map (some MB)) (.int .u32 (x.e.t.p : Int)) (.agg #[.int .i64 (k' : Int), .int .i64 (i' : Int)])).run Tryz.prog W5 = .ok () (setBlock W5 MB o6) := hrun
      have HM6 := Lib.hid hm6
      have HK6 := Lib.hid hk6
      have HR2 := Lib.hid hR2
      have HP := Lib.hid hP
      have HFi := Lib.hid hfi
      have HK4 := Lib.hid h4.2
      have HZs := Lib.hid (show W4.heap.size ≤ W5.heap.size from hb5.size)
      clear hm5 hm6 hk6 hR2 hb5 hP hfi h4
      have q0 := Blk.cellv (i := 0) HQ5.out rfl
      have q1 := Blk.cellv (i := 1) HQ5.out rfl
      have z0 := Blk.cellv (i := 0) HZ5.out rfl
      have z1 := Blk.cellv (i := 1) HZ5.out rfl
      have hcs2 := placeCells
      go_upto_region 10 with fail
      rw [← hW5]
      clear hW5
      go_upto_region 11 with fail
      -- region 11
      have HQ6 := Lib.hid (Blk.kq HQ5.out HK6.out HQn2.out)
      clear hrun q0 q1 z0 z1
      obtain ⟨W6, hW6⟩ : ∃ W6, W6 = setBlock W5 MB o6 := ⟨_, rfl⟩
      rw [← hW6] at HM6 HK6 HQ6 ⊢
      clear hW6
      obtain ⟨f2, hf2⟩ : ∃ f2, f2 = ({ f' with g := g1', se := if x.n then f'.se else putE f'.se (nxE x k' i'), no := if x.n then putE f'.no (nxE x k' i') else f'.no } : Fm) := ⟨_, rfl⟩
      have HM6 : Hid (FtM NB B R2 W6 f2) := by rw [hf2]; exact HM6
      have HS6 := Lib.hid (show Same f' { f2 with g := g1', se := f'.se, no := f'.no } by rw [hf2]; exact ⟨rfl, rfl, rfl, rfl, rfl, HP.out.M, HP.out.ML, HP.out.C, rfl, rfl, rfl, rfl, rfl, rfl, rfl, rfl, HP.out.gh⟩)
      have HSe6 := Lib.hid (show f2.se = if x.n then f'.se else putE f'.se (nxE x k' i') by rw [hf2])
      have HNo6 := Lib.hid (show f2.no = if x.n then putE f'.no (nxE x k' i') else f'.no by rw [hf2])
      have HG6 := Lib.hid (show f2.g = g1' by rw [hf2])
      have HFF6 := Lib.hid (show f2.F = f.F by rw [hf2]; exact HFF.out)
      clear hf2
      obtain ⟨gb, gi, hgv⟩ : ∃ gb gi : Nat, plO (getE f2.go x.e.t.p) = .agg #[.int .i64 (gb : Int), .int .i64 (gi : Int)] := by
        cases getE f2.go x.e.t.p with
        | none => exact ⟨0, 0, rfl⟩
        | some e => exact ⟨e.b, e.i, rfl⟩
      obtain ⟨gf, hgf⟩ : ∃ gf, gf = (getE f2.go x.e.t.p).isSome := ⟨_, rfl⟩
      have HGf := Lib.hid hgf
      have HLk := Lib.hid (fun (W' : World) (hW : Below W6.heap.size W6 W') => show (Instr.lookup 55 (.map (some f2.GO)) (.int .u32 (x.e.t.p : Int)) true).run Tryz.prog W' = .ok (.tuple #[.agg #[.int .i64 (gb : Int), .int .i64 (gi : Int)], .bool gf]) W' by
        have := (HM6.out.on hW).hG.look HXk.out true
        rw [hgv, ← hgf] at this
        exact this)
      have HC7 := Lib.hid (fun (W' : World) (hW : Below W6.heap.size W6 W') => show W'.cell? ⟨f.F, 7, none⟩ = some (.map (some f2.GO)) by rw [← HFF6.out]; exact (HM6.out.on hW).c7)
      have HC1 := Lib.hid (fun (W' : World) (hW : Below W6.heap.size W6 W') => show W'.cell? ⟨Q, 1, none⟩ = some (.int .u32 (x.e.t.p : Int)) from (HQ6.out.belowHere hW).cellv (i := 1) rfl)
      clear hgv hgf
      have HS0 := Lib.hid (show Below W6.heap.size W6 W6.drew from below_drew W6)
      refine wp_region_noPanic ?_
      refine wp_region_held_drew (S := (fun W' => Below W6.heap.size W6 W')) (by kernel_rfl) HS0.out (fun hS0 => ?_)
      generalize W6.drew = W7 at *
      refine takeV 0 (v := (.pointer (some ⟨f.F, 0, none⟩))) rfl (by kernel_rfl) (by kernel_rfl) (by kernel_rfl) (fun _ _ _ h => h) (by rfl) (fun _ _ => rfl) (by assumption) ?_
      try simp only [layR]
      refine takeV 1 (v := (.pointer (some ⟨f.F, 0, none⟩))) rfl (by kernel_rfl) (by kernel_rfl) (by kernel_rfl) (fun _ _ _ h => h) (by rfl) (fun _ _ => rfl) (by assumption) ?_
      try simp only [layR]
      refine takeV 2 (v := (.pointer (some ⟨f.F, 7, none⟩))) rfl (by kernel_rfl) (by kernel_rfl) (by kernel_rfl) (fun _ _ _ h => h) (by rfl) (fun W hSw => ?_) (by assumption) ?_
      · skip
        go_simp
      try simp only [layR]
      refine takeV 3 (v := (.map (some f2.GO))) rfl (by kernel_rfl) (by kernel_rfl) (by kernel_rfl) (fun _ _ _ h => h) (by rfl) (fun W hSw => ?_) (by assumption) ?_
      · have y9 := HC7.out _ hSw
        go_simp
      try simp only [layR]
      refine takeV 4 (v := (.pointer (some ⟨Q, 1, none⟩))) rfl (by kernel_rfl) (by kernel_rfl) (by kernel_rfl) (fun _ _ _ h => h) (by rfl) (fun W hSw => ?_) (by assumption) ?_
      · skip
        go_simp
      try simp only [layR]
      refine takeV 5 (v := (.int .u32 (x.e.t.p : Int))) rfl (by kernel_rfl) (by kernel_rfl) (by kernel_rfl) (fun _ _ _ h => h) (by rfl) (fun W hSw => ?_) (by assumption) ?_
      · have y9 := HC1.out _ hSw
        go_simp
      try simp only [layR]
      refine takeV 6 (v := (.tuple #[.agg #[.int .i64 (gb : Int), .int .i64 (gi : Int)], .bool gf])) rfl (by kernel_rfl) (by kernel_rfl) (by kernel_rfl) (fun _ _ _ h => h) (by rfl) (fun W hSw => ?_) (by assumption) ?_
      · have y9 := HLk.out _ hSw
        go_simp
      try simp only [layR]
      refine takeV 7 (v := (.tuple #[.agg #[.int .i64 (gb : Int), .int .i64 (gi : Int)], .bool gf])) rfl (by kernel_rfl) (by kernel_rfl) (by kernel_rfl) (fun _ _ _ h => h) (by rfl) (fun _ _ => rfl) (by assumption) ?_
      try simp only [layR]
      refine takeV 8 (v := (.agg #[.int .i64 (gb : Int), .int .i64 (gi : Int)])) rfl (by kernel_rfl) (by kernel_rfl) (by kernel_rfl) (fun _ _ _ h => h) (by rfl) (fun _ _ => rfl) (by assumption) ?_
      try simp only [layR]
      refine takeV 9 (v := (.bool gf)) rfl (by kernel_rfl) (by kernel_rfl) (by kernel_rfl) (fun _ _ _ h => h) (by rfl) (fun _ _ => rfl) (by assumption) ?_
      try simp only [layR]
      refine wpAnyH_ready (rs := [10]) (by kernel_rfl) (by simp) ?_
      refine AllReadyH.cons rfl (fun K' hK => ?_) AllReadyH.nil
      go_simp
      have hS1 := hS0.alloc hS0.size (.cells #[.int .i64 0, .int .i64 0] 52)
      have hbT := Blk.new W7 52 #[.int .i64 0, .int .i64 0]
      have HT0 := Lib.hid hS0.size
      refine hK.out _ _ hS1 (fun hS2 => ?_)
      try simp only [layR]
      refine wpAnyH_ready (rs := [11]) (by kernel_rfl) (by simp) ?_
      refine AllReadyH.cons rfl (fun K' hK => ?_) AllReadyH.nil
      go_simp
      have hS3 := hS0.alloc hS0.size (.cells #[.int .i64 (gb : Int), .int .i64 (gi : Int)] 52)
      refine hK.out _ _ hS3 (fun hS4 => ?_)
      try simp only [layR]
      refine takeV 12 (v := (.bool gf)) rfl (by kernel_rfl) (by kernel_rfl) (by kernel_rfl) (fun _ _ _ h => h) (by rfl) (fun _ _ => rfl) (by assumption) ?_
      try simp only [layR]
      refine wpAnyH_done (by kernel_rfl) ?_ _
      refine NoPanic.normal ?_
      have HM7 := Lib.hid (HM6.out.on hS3)
      have HQ7 := Lib.hid (HQ6.out.belowHere hS3)
      have HB7 := Lib.hid hS3
      clear hS0 hS1 hS2 hS3 hS4 hbT HS0
      generalize W7.alloc (.cells #[.int .i64 (gb : Int), .int .i64 (gi : Int)] 52) = W8 at *
      have q1 := Blk.cellv (i := 1) HQ7.out rfl
      cases gf
      · have HM8 := HM7
        have HS8 := HS6
        have HSe8 := HSe6
        have HNo8 := HNo6
        have HG8 := HG6
        have HK8 := Lib.hid (Kq.of (T := R2) HB7.out)
        clear HM7 HS6 HSe6 HNo6 HG6
        obtain ⟨f3, hf3⟩ : ∃ f3, f3 = f2 := ⟨_, rfl⟩
        rw [← hf3] at HM8 HS8 HSe8 HNo8 HG8
        clear hf3
        have hc8 := HM8.out.c1
        have eF8 : f3.F = f.F := HS8.out.F.trans HFF.out
        rw [eF8] at hc8
        have hfx : Fi NB (n + 2 * j + 1) (k :: []) f3.g (f3.se ++ f3.no) := by
          rw [HG8.out, HSe8.out, HNo8.out]
          exact HF2.out.mid HP.out HFi.out
        have HDr := Lib.hid (fDrop_calls HM8.out hfx)
        have HFd := Lib.hid (Mvj.step (f4 := { f3 with g := { f3.g with l := f3.g.l.set k (dropB (Gc.at_ f3.g.l k)) } }) HF2.out hk (by have := HL8.out; have := HM.out; omega) (H01.out (by have := HM.out; omega)) HP.out HFi.out HS8.out HSe8.out HNo8.out (by rw [HG8.out]))
        clear hfx eF8
        go_wp2_with fail
        refine HDr.out.mono ?_
        rintro e W9 ⟨rfl, hm9, hk9⟩
        have HM9 := Lib.hid hm9
        have HK9 := Lib.hid hk9
        clear hm9 hk9 hc8
        go_wp2_with fail
        go_roundw
        case rel =>
          refine ⟨j + 1, by omega, by go_num, ⟨_, ?_, HFd.out⟩⟩
          have hk49 : Kq R2 W4 W9 := (((Kq.of HB5.out).trans HK6.out).trans HK8.out).trans HK9.out
          have hkA : Kq R1 wr W4 := ((Kq.of HB2.out).on (below_drew W1)).trans (HK2.out.trans HK4.out)
          have hz1 : wr.heap.size ≤ W2.heap.size := Nat.le_trans HB2.out.size HK2.out.size
          have hz2 := HK4.out.size
          have hz3 := hk49.size
          have hkE : Kq R1 wr W9 := hkA.then_ hk49 fun q hq => by
            rw [HR2.out] at hq
            rcases hq with h1 | h1
            · exact .inl h1
            · exact .inr (by omega)
          have hmE : FtM NB B (Up R1 wr W9) W9 _ := HM9.out.more (fun q hq => by
            rw [HR2.out] at hq
            rcases hq with h1 | h1
            · exact .inl h1
            · exact .inr (by omega)) fun q hq => by
            rcases hq with h1 | h1
            · exact HM9.out.bnd q (by rw [HR2.out]; exact .inl h1)
            · exact ⟨by have := HB0; have := HB1.out.size; have := HF1.out.2.size; omega, h1.2⟩
          have := HF1.out.then_ (f2 := _) ⟨by rw [HR1.out] at hmE; exact hmE, by rw [HR1.out] at hkE; exact hkE⟩
          exact this
        case measure => simp [intOf]; omega
      · by_cases hp : 0 < x.e.t.p
        · have hpi : (0 : Int) < (x.e.t.p : Int) := by omega
          have HPk := Lib.hid hp
          go_upto_region 13 with fail
          clear q1 hpi hp
          obtain ⟨sb, si, hsv⟩ : ∃ sb si : Nat, plO (getE f2.se x.e.t.p) = .agg #[.int .i64 (sb : Int), .int .i64 (si : Int)] := by
            cases getE f2.se x.e.t.p with
            | none => exact ⟨0, 0, rfl⟩
            | some e => exact ⟨e.b, e.i, rfl⟩
          obtain ⟨S7, hS7⟩ : ∃ S7 : World → Prop, S7 = fun W' => (∃ f5, FtM NB B R2 W' f5 ∧ f5.F = f.F ∧ f5.GO = f2.GO ∧ f5.SE = f2.SE ∧ f5.se = f2.se) ∧ Blk W' Q 144 #[.map (some MB), .int .u32 (x.e.t.p : Int), .int .i64 (x.e.b : Int), .int .i64 (x.e.i : Int)] := ⟨_, rfl⟩
          have HLs := Lib.hid (fun (W' : World) (hW : S7 W') => show (Instr.lookup 55 (.map (some f2.SE)) (.int .u32 (x.e.t.p : Int)) false).run Tryz.prog W' = .ok (.agg #[.int .i64 (sb : Int), .int .i64 (si : Int)]) W' by
            rw [hS7] at hW
            obtain ⟨⟨f5, e1, e2, e3, e4, e5⟩, _⟩ := hW
            have := e1.hS.look HXk.out false
            rw [e5, e4, hsv] at this
            exact this)
          have HD7 := Lib.hid (fun (W' : World) (hW : S7 W') => show W'.cell? ⟨f.F, 7, none⟩ = some (.map (some f2.GO)) by
            rw [hS7] at hW
            obtain ⟨⟨f5, e1, e2, e3, e4, e5⟩, _⟩ := hW
            rw [← e2, ← e3]; exact e1.c7)
          have HD5 := Lib.hid (fun (W' : World) (hW : S7 W') => show W'.cell? ⟨f.F, 5, none⟩ = some (.map (some f2.SE)) by
            rw [hS7] at hW
            obtain ⟨⟨f5, e1, e2, e3, e4, e5⟩, _⟩ := hW
            rw [← e2, ← e4]; exact e1.c5)
          have HD1 := Lib.hid (fun (W' : World) (hW : S7 W') => show W'.cell? ⟨Q, 1, none⟩ = some (.int .u32 (x.e.t.p : Int)) by
            rw [hS7] at hW
            exact hW.2.cellv (i := 1) rfl)
          have HS0 := Lib.hid (show Below W8.heap.size W8 W8.drew from below_drew W8)
          have hpg := (HM7.out.on HS0.out).putG { x.e with b := sb, i := si } HXk.out
          obtain ⟨o9, hrun9, hm9, hk9⟩ := hpg
          have hrun9 : (Instr.mapUpdate 55 (.map (some f2.GO)) (.int .u32 (x.e.t.p : Int)) (.agg #[.int .i64 (sb : Int), .int .i64 (si : Int)])).run Tryz.prog W8.drew = .ok () (setBlock W8.drew f2.GO o9) := hrun9
          have HM9 := Lib.hid hm9
          have HK9 := Lib.hid ((Kq.of (T := R2) HB7.out).trans ((Kq.of (T := R2) HS0.out).trans hk9))
          have hQ7 := HQ7.out.belowHere HS0.out
          have hS80 : S7 W8.drew := by rw [hS7]; exact ⟨⟨f2, HM7.out.on HS0.out, HFF6.out, rfl, rfl, rfl⟩, hQ7⟩
          have hS81 : S7 (setBlock W8.drew f2.GO o9) := by rw [hS7]; exact ⟨⟨_, hm9, HFF6.out, rfl, rfl, rfl⟩, hQ7.kq hk9 HQn2.out⟩
          have HS81 := Lib.hid hS81
          clear hm9 hk9 hsv hS7 hS81 hQ7
          refine wp_region_noPanic ?_
          refine wp_region_held_drew (S := S7) (by kernel_rfl) hS80 (fun hS0 => ?_)
          refine takeV 0 (v := (.pointer (some ⟨f.F, 0, none⟩))) rfl (by kernel_rfl) (by kernel_rfl) (by kernel_rfl) (fun _ _ _ h => h) (by rfl) (fun _ _ => rfl) (by assumption) ?_
          try simp only [layR]
          refine takeV 1 (v := (.pointer (some ⟨f.F, 0, none⟩))) rfl (by kernel_rfl) (by kernel_rfl) (by kernel_rfl) (fun _ _ _ h => h) (by rfl) (fun _ _ => rfl) (by assumption) ?_
          try simp only [layR]
          refine takeV 2 (v := (.pointer (some ⟨f.F, 7, none⟩))) rfl (by kernel_rfl) (by kernel_rfl) (by kernel_rfl) (fun _ _ _ h => h) (by rfl) (fun W hSw => ?_) (by assumption) ?_
          · skip
            go_simp
          try simp only [layR]
          refine takeV 3 (v := (.map (some f2.GO))) rfl (by kernel_rfl) (by kernel_rfl) (by kernel_rfl) (fun _ _ _ h => h) (by rfl) (fun W hSw => ?_) (by assumption) ?_
          · have y9 := HD7.out _ hSw
            go_simp
          try simp only [layR]
          refine takeV 4 (v := (.pointer (some ⟨Q, 1, none⟩))) rfl (by kernel_rfl) (by kernel_rfl) (by kernel_rfl) (fun _ _ _ h => h) (by rfl) (fun W hSw => ?_) (by assumption) ?_
          · skip
            go_simp
          try simp only [layR]
          refine takeV 5 (v := (.int .u32 (x.e.t.p : Int))) rfl (by kernel_rfl) (by kernel_rfl) (by kernel_rfl) (fun _ _ _ h => h) (by rfl) (fun W hSw => ?_) (by assumption) ?_
          · have y9 := HD1.out _ hSw
            go_simp
          try simp only [layR]
          refine takeV 6 (v := (.pointer (some ⟨f.F, 0, none⟩))) rfl (by kernel_rfl) (by kernel_rfl) (by kernel_rfl) (fun _ _ _ h => h) (by rfl) (fun _ _ => rfl) (by assumption) ?_
          try simp only [layR]
          refine takeV 7 (v := (.pointer (some ⟨f.F, 0, none⟩))) rfl (by kernel_rfl) (by kernel_rfl) (by kernel_rfl) (fun _ _ _ h => h) (by rfl) (fun _ _ => rfl) (by assumption) ?_
          try simp only [layR]
          refine takeV 8 (v := (.pointer (some ⟨f.F, 5, none⟩))) rfl (by kernel_rfl) (by kernel_rfl) (by kernel_rfl) (fun _ _ _ h => h) (by rfl) (fun W hSw => ?_) (by assumption) ?_
          · skip
            go_simp
          try simp only [layR]
          refine takeV 9 (v := (.map (some f2.SE))) rfl (by kernel_rfl) (by kernel_rfl) (by kernel_rfl) (fun _ _ _ h => h) (by rfl) (fun W hSw => ?_) (by assumption) ?_
          · have y9 := HD5.out _ hSw
            go_simp
          try simp only [layR]
          refine takeV 10 (v := (.pointer (some ⟨Q, 1, none⟩))) rfl (by kernel_rfl) (by kernel_rfl) (by kernel_rfl) (fun _ _ _ h => h) (by rfl) (fun W hSw => ?_) (by assumption) ?_
          · skip
            go_simp
          try simp only [layR]
          refine takeV 11 (v := (.int .u32 (x.e.t.p : Int))) rfl (by kernel_rfl) (by kernel_rfl) (by kernel_rfl) (fun _ _ _ h => h) (by rfl) (fun W hSw => ?_) (by assumption) ?_
          · have y9 := HD1.out _ hSw
            go_simp
          try simp only [layR]
          refine takeV 12 (v := (.agg #[.int .i64 (sb : Int), .int .i64 (si : Int)])) rfl (by kernel_rfl) (by kernel_rfl) (by kernel_rfl) (fun _ _ _ h => h) (by rfl) (fun W hSw => ?_) (by assumption) ?_
          · have y9 := HLs.out _ hSw
            go_simp
          try simp only [layR]
          refine wpAnyH_ready (rs := [13]) (by kernel_rfl) (by simp) ?_
          refine AllReadyH.cons rfl (fun K' hK => ?_) AllReadyH.nil
          go_simp
          refine hK.out _ _ HS81.out (fun hS9 => ?_)
          refine wpAnyH_done (by kernel_rfl) ?_ _
          refine NoPanic.normal ?_
          obtain ⟨W9', hW9'⟩ : ∃ W9', W9' = setBlock W8.drew f2.GO o9 := ⟨_, rfl⟩
          rw [← hW9'] at HM9 HK9 ⊢
          clear hrun9 hS80 hS0 hS9 hW9' HS81 HD1 HD5 HD7 HLs
          obtain ⟨f3, hf3⟩ : ∃ f3, f3 = ({ f2 with go := putE f2.go { x.e with b := sb, i := si } } : Fm) := ⟨_, rfl⟩
          have hgk : f3.go.map (fun e => e.t.p) = f2.go.map fun e => e.t.p := by
            rw [hf3]
            exact putE_keys (e := { x.e with b := sb, i := si }) HGf.out.symm
          have HM8 : Hid (FtM NB B R2 W9' f3) := by rw [hf3]; exact HM9
          have HS8 : Hid (Same f' { f3 with g := g1', se := f'.se, no := f'.no }) := Lib.hid (by
            have h6 := HS6.out
            rw [hf3] at hgk ⊢
            exact ⟨h6.F, h6.SE, h6.NO, h6.GO, h6.LA, h6.M, h6.ML, h6.C, h6.seq, h6.ep, h6.tv, h6.tx, h6.ov, h6.se, h6.no, hgk.trans h6.go, h6.gh⟩)
          have HSe8 : Hid (f3.se = if x.n then f'.se else putE f'.se (nxE x k' i')) := by rw [hf3]; exact HSe6
          have HNo8 : Hid (f3.no = if x.n then putE f'.no (nxE x k' i') else f'.no) := by rw [hf3]; exact HNo6
          have HG8 : Hid (f3.g = g1') := by rw [hf3]; exact HG6
          have HK8 := HK9
          clear HM7 HM9 HK9 HS6 HSe6 HNo6 HG6 hgk hf3 HB7 HQ7
          generalize W8 = W8o at *
          generalize W9' = W8 at *
          have hc8 := HM8.out.c1
          have eF8 : f3.F = f.F := HS8.out.F.trans HFF.out
          rw [eF8] at hc8
          have hfx : Fi NB (n + 2 * j + 1) (k :: []) f3.g (f3.se ++ f3.no) := by
            rw [HG8.out, HSe8.out, HNo8.out]
            exact HF2.out.mid HP.out HFi.out
          have HDr := Lib.hid (fDrop_calls HM8.out hfx)
          have HFd := Lib.hid (Mvj.step (f4 := { f3 with g := { f3.g with l := f3.g.l.set k (dropB (Gc.at_ f3.g.l k)) } }) HF2.out hk (by have := HL8.out; have := HM.out; omega) (H01.out (by have := HM.out; omega)) HP.out HFi.out HS8.out HSe8.out HNo8.out (by rw [HG8.out]))
          clear hfx eF8
          go_wp2_with fail
          refine HDr.out.mono ?_
          rintro e W9 ⟨rfl, hm9, hk9⟩
          have HM9 := Lib.hid hm9
          have HK9 := Lib.hid hk9
          clear hm9 hk9 hc8
          go_wp2_with fail
          go_roundw
          case rel =>
            refine ⟨j + 1, by omega, by go_num, ⟨_, ?_, HFd.out⟩⟩
            have hk49 : Kq R2 W4 W9 := (((Kq.of HB5.out).trans HK6.out).trans HK8.out).trans HK9.out
            have hkA : Kq R1 wr W4 := ((Kq.of HB2.out).on (below_drew W1)).trans (HK2.out.trans HK4.out)
            have hz1 : wr.heap.size ≤ W2.heap.size := Nat.le_trans HB2.out.size HK2.out.size
            have hz2 := HK4.out.size
            have hz3 := hk49.size
            have hkE : Kq R1 wr W9 := hkA.then_ hk49 fun q hq => by
              rw [HR2.out] at hq
              rcases hq with h1 | h1
              · exact .inl h1
              · exact .inr (by omega)
            have hmE : FtM NB B (Up R1 wr W9) W9 _ := HM9.out.more (fun q hq => by
              rw [HR2.out] at hq
              rcases hq with h1 | h1
              · exact .inl h1
              · exact .inr (by omega)) fun q hq => by
              rcases hq with h1 | h1
              · exact HM9.out.bnd q (by rw [HR2.out]; exact .inl h1)
              · exact ⟨by have := HB0; have := HB1.out.size; have := HF1.out.2.size; omega, h1.2⟩
            have := HF1.out.then_ (f2 := _) ⟨by rw [HR1.out] at hmE; exact hmE, by rw [HR1.out] at hkE; exact hkE⟩
            exact this
          case measure => simp [intOf]; omega
        · have hpi : ¬ (0 : Int) < (x.e.t.p : Int) := by omega
          have HM8 := HM7
          have HS8 := HS6
          have HSe8 := HSe6
          have HNo8 := HNo6
          have HG8 := HG6
          have HK8 := Lib.hid (Kq.of (T := R2) HB7.out)
          clear HM7 HS6 HSe6 HNo6 HG6
          obtain ⟨f3, hf3⟩ : ∃ f3, f3 = f2 := ⟨_, rfl⟩
          rw [← hf3] at HM8 HS8 HSe8 HNo8 HG8
          clear hf3
          have hc8 := HM8.out.c1
          have eF8 : f3.F = f.F := HS8.out.F.trans HFF.out
          rw [eF8] at hc8
          have hfx : Fi NB (n + 2 * j + 1) (k :: []) f3.g (f3.se ++ f3.no) := by
            rw [HG8.out, HSe8.out, HNo8.out]
            exact HF2.out.mid HP.out HFi.out
          have HDr := Lib.hid (fDrop_calls HM8.out hfx)
          have HFd := Lib.hid (Mvj.step (f4 := { f3 with g := { f3.g with l := f3.g.l.set k (dropB (Gc.at_ f3.g.l k)) } }) HF2.out hk (by have := HL8.out; have := HM.out; omega) (H01.out (by have := HM.out; omega)) HP.out HFi.out HS8.out HSe8.out HNo8.out (by rw [HG8.out]))
          clear hfx eF8
          go_wp2_with fail
          refine HDr.out.mono ?_
          rintro e W9 ⟨rfl, hm9, hk9⟩
          have HM9 := Lib.hid hm9
          have HK9 := Lib.hid hk9
          clear hm9 hk9 hc8
          go_wp2_with fail
          go_roundw
          case rel =>
            refine ⟨j + 1, by omega, by go_num, ⟨_, ?_, HFd.out⟩⟩
            have hk49 : Kq R2 W4 W9 := (((Kq.of HB5.out).trans HK6.out).trans HK8.out).trans HK9.out
            have hkA : Kq R1 wr W4 := ((Kq.of HB2.out).on (below_drew W1)).trans (HK2.out.trans HK4.out)
            have hz1 : wr.heap.size ≤ W2.heap.size := Nat.le_trans HB2.out.size HK2.out.size
            have hz2 := HK4.out.size
            have hz3 := hk49.size
            have hkE : Kq R1 wr W9 := hkA.then_ hk49 fun q hq => by
              rw [HR2.out] at hq
              rcases hq with h1 | h1
              · exact .inl h1
              · exact .inr (by omega)
            have hmE : FtM NB B (Up R1 wr W9) W9 _ := HM9.out.more (fun q hq => by
              rw [HR2.out] at hq
              rcases hq with h1 | h1
              · exact .inl h1
              · exact .inr (by omega)) fun q hq => by
              rcases hq with h1 | h1
              · exact HM9.out.bnd q (by rw [HR2.out]; exact .inl h1)
              · exact ⟨by have := HB0; have := HB1.out.size; have := HF1.out.2.size; omega, h1.2⟩
            have := HF1.out.then_ (f2 := _) ⟨by rw [HR1.out] at hmE; exact hmE, by rw [HR1.out] at hkE; exact hkE⟩
            exact this
          case measure => simp [intOf]; omega
    · obtain rfl : j = m := by omega
      have HX := Lib.hid hX.out
      clear hX
      go_wp2_with fail
      go_ret
      obtain ⟨f', h1, h2⟩ := HX.out
      rw [List.drop_eq_nil_of_le (by have := HJ0.out.len; omega)] at h2
      rw [HM.out] at h2
      exact ⟨rfl, f', h1.from_ HB1.out HB0, h2⟩
end
end Go.Proofs.YtiipnpfaaghekaaGreat
namespace Go.Proofs.YtiipnpfaaghekaaGreat
open Go.RowKit

namespace Ftl
/-- What an action on block k makes. -/
structure Actd (NB n : Nat) (f f' : Fm) (k : Nat) : Prop where
  same : Same f f'
  fi : Fi NB (n + 17) [] f'.g (f'.se ++ f'.no)
  wk : (Gc.at_ f'.g.l k).wear = (Gc.at_ f.g.l k).wear + 1
  wo : ∀ q, q ≠ k → (Gc.at_ f'.g.l q).wear = (Gc.at_ f.g.l q).wear
  res : ((Gc.at_ f.g.l k).st = 3 ∧ f'.g.opn = -1 ∧ Gc.count 0 f'.g.l = Gc.count 0 f.g.l + 1) ∨
    ((Gc.at_ f.g.l k).st = 0 ∧ f'.g.opn = -1 ∧ Gc.count 0 f'.g.l = Gc.count 0 f.g.l ∧ ∀ q, q ≠ k → Gc.at_ f'.g.l q = Gc.at_ f.g.l q) ∨
    ((Gc.at_ f.g.l k).st = 2 ∧ Gc.count 0 f'.g.l = Gc.count 0 f.g.l ∧ ((Gc.at_ f.g.l k).live < 8 → f'.g.opn ≠ -1) ∧ ((Gc.at_ f.g.l k).live = 8 → f'.g.opn = -1) ∧ ∃ a, (Gc.at_ f.g.l a).st = 0 ∧ ∀ q, q ≠ a → q ≠ k → Gc.at_ f'.g.l q = Gc.at_ f.g.l q)
theorem actd {NB n k : Nat} {f f1 : Fm} {ps' : Nat → Nat} (hi : Fi NB n [] f.g (f.se ++ f.no)) (h : Mvj NB n f f1 k (Gc.at_ f.g.l k).live (Gc.at_ f.g.l k).live []) (hk : k < NB) (hs : (Gc.at_ f.g.l k).st = 0 ∨ (Gc.at_ f.g.l k).st = 2 ∨ (Gc.at_ f.g.l k).st = 3) (hw : ∀ j, j < NB → (Gc.at_ f.g.l k).wear ≤ (Gc.at_ f.g.l j).wear + 3) : Actd NB n f { f1 with g := erG f1.g k ps' } k := by
  have hb := hi.w.bk k hk
  have hlen1 := h.fi.w.len
  have hst := h.st
  have hst1 : (Gc.at_ f1.g.l k).st = 0 ∨ (Gc.at_ f1.g.l k).st = 3 := by
    rw [hst]
    split
    · exact .inr rfl
    · omega
  have hwe : (f1.g.bl k).wear = (Gc.at_ f.g.l k).wear := by rw [(h.fi.w.bk k hk).we, h.wear]
  have hl : (erG f1.g k ps').l = f1.g.l.set k ⟨0, 0, (Gc.at_ f.g.l k).wear + 1, 0⟩ := by
    show f1.g.l.set k ⟨0, 0, (f1.g.bl k).wear + 1, 0⟩ = _
    rw [hwe]
  have hatk : Gc.at_ (erG f1.g k ps').l k = ⟨0, 0, (Gc.at_ f.g.l k).wear + 1, 0⟩ := by rw [hl]; exact at_set _ _ (by omega)
  have hoth : ∀ q, q ≠ k → Gc.at_ (erG f1.g k ps').l q = Gc.at_ f1.g.l q := fun q hq => by rw [hl]; exact at_set_other _ _ hq
  have hc : Gc.count 0 (erG f1.g k ps').l + (if (Gc.at_ f1.g.l k).st = 0 then 1 else 0) = Gc.count 0 f1.g.l + 1 := by
    have := Gc.count_set 0 (l := f1.g.l) (k := k) ⟨0, 0, (Gc.at_ f.g.l k).wear + 1, 0⟩ (by omega)
    rw [← hl] at this
    exact this
  have hopn : f1.g.opn ≠ (k : Int) ∨ f1.g.opn = -1 := by
    rcases h.rows with ⟨_, _, e⟩ | ⟨_, a, _, a2, _, _, _, e, _⟩
    · exact .inr e
    · rw [e]
      split
      · exact .inr rfl
      · exact .inl (by omega)
  have ho : (erG f1.g k ps').opn = f1.g.opn := by
    show (if f1.g.opn = (k : Int) then (-1 : Int) else f1.g.opn) = _
    rcases hopn with e | e
    · rw [if_neg e]
    · rw [if_neg (by omega)]
  have l8 := hb.l8
  refine ⟨?_, ?_, ?_, fun q hq => ?_, ?_⟩
  · have := h.same
    exact ⟨this.F, this.SE, this.NO, this.GO, this.LA, this.M, this.ML, this.C, this.seq, this.ep, this.tv, this.tx, this.ov, this.se, this.no, this.go, this.gh⟩
  · refine (h.fi.erase (ps' := ps') hk hst1 fun j hj => ?_).le (by omega)
    rw [h.wear, h.wear]; exact hw j hj
  · show (Gc.at_ (erG f1.g k ps').l k).wear = _
    rw [hatk]
  · show (Gc.at_ (erG f1.g k ps').l q).wear = _
    rw [hoth q hq]; exact h.wear q
  · show (_ ∧ (erG f1.g k ps').opn = -1 ∧ Gc.count 0 (erG f1.g k ps').l = _) ∨ (_ ∧ (erG f1.g k ps').opn = -1 ∧ Gc.count 0 (erG f1.g k ps').l = _ ∧ ∀ q, q ≠ k → Gc.at_ (erG f1.g k ps').l q = _) ∨ (_ ∧ Gc.count 0 (erG f1.g k ps').l = _ ∧ (_ → (erG f1.g k ps').opn ≠ -1) ∧ (_ → (erG f1.g k ps').opn = -1) ∧ ∃ a, _ ∧ ∀ q, q ≠ a → q ≠ k → Gc.at_ (erG f1.g k ps').l q = _)
    rw [ho]
    rcases hs with e | e | e
    · have hz := (hb.fr e).1
      rcases h.rows with ⟨_, r2, r3⟩ | ⟨r1, _⟩
      · refine .inr (.inl ⟨e, r3, ?_, fun q hq => by rw [hoth q hq, r2]⟩)
        rw [r2, e, if_pos rfl] at hc
        omega
      · omega
    · have hz := hb.fu e
      rcases h.rows with ⟨r1, _⟩ | ⟨r1, a, r2, r3, r4, r5, r6, r7, r8⟩
      · omega
      · refine .inr (.inr ⟨e, ?_, fun h8 => ?_, fun h8 => ?_, a, r4, fun q q1 q2 => by rw [hoth q q2]; exact r5 q q1 q2⟩)
        · rw [show (Gc.at_ f1.g.l k).st = 3 by rw [hst]; exact if_pos ⟨e, rfl⟩, if_neg (by omega)] at hc
          omega
        · rw [r7, if_neg (by omega)]; omega
        · rw [r7, if_pos h8]
    · have hz := hb.sl e
      rcases h.rows with ⟨_, r2, r3⟩ | ⟨r1, _⟩
      · refine .inl ⟨e, r3, ?_⟩
        rw [r2, e, if_neg (by omega)] at hc
        omega
      · omega
end Ftl
section
open Ftl
variable {NB B n : Nat} {R : Nat → Prop} {w : World} {f : Fm}
theorem actCells : Tryz.prog.cellsOf 131 = 2 := by kernel_rfl
set_option maxRecDepth 100000 in
set_option maxHeartbeats 4000000 in
theorem act_calls (h : FtM NB B R w f) (hi : Fi NB n [] f.g (f.se ++ f.no)) (a : Int) {k : Nat} (ha : a ≠ 0) (hk : k < NB) (hs : (Gc.at_ f.g.l k).st = 0 ∨ (Gc.at_ f.g.l k).st = 2 ∨ (Gc.at_ f.g.l k).st = 3) (ho : f.g.opn = -1) (hf : 0 < Gc.count 0 f.g.l) (hw : ∀ j, j < NB → (Gc.at_ f.g.l k).wear ≤ (Gc.at_ f.g.l j).wear + 3) (hn : n + 16 ≤ 1099511627776) :
    Calls Tryz.prog 79 #[.pointer (some ⟨f.F, 0, none⟩), .agg #[.int .i64 a, .int .i64 (k : Int)]] w fun e w' => e = .returned (.int .i64 0) ∧ ∃ f', FtR NB B R w w' f' ∧ Actd NB n f f' k := by
  have HB0 := h.base
  have hb0 := (Below.refl w.heap.size w).alloc (Nat.le_refl _) (.cells #[.int .i64 a, .int .i64 (k : Int)] 131)
  have HM := Lib.hid (move_calls (h.on hb0) hi hk ho hf)
  have HK := Lib.hid (Blk.new w 131 #[.int .i64 a, .int .i64 (k : Int)])
  have HZ := Lib.hid (h.not_new (Nat.le_refl w.heap.size))
  have HB1 := Lib.hid hb0
  have HI := Lib.hid hi
  have HW := Lib.hid hw
  have HSs := Lib.hid hs
  have HN := Lib.hid hn
  have hA : (a == 0) = false := by rw [beq_eq_false_iff_ne]; exact ha
  have HL8 := Lib.hid (hi.w.bk k hk).l8
  have hcs := actCells
  clear h hi hs ho hf hw hn ha hb0
  go_enter Tryz.func79, Tryz.ntmps79
  go_wp2_with fail
  generalize w.alloc (.cells #[.int .i64 a, .int .i64 (k : Int)] 131) = w1 at *
  refine HM.out.mono ?_
  rintro e w2 ⟨rfl, f1, h1, h2⟩
  have H1 := Lib.hid h1
  have H2 := Lib.hid h2
  have HK2 := Lib.hid (h1.blk HK.out HZ.out)
  have HWp := Lib.hid (fun (n' : Nat) (hn' : n' = n + 2 * (Gc.at_ f.g.l k).live) => wipe_calls h1.1 (n := n') (hn' ▸ h2.fi) hk (by
    rw [h2.st]
    have := HSs.out
    split
    · exact .inr rfl
    · rcases this with e | e | e
      · exact .inl e
      · rename_i hne; exact absurd ⟨e, rfl⟩ hne
      · exact .inr e) (by have := HN.out; have := HL8.out; omega))
  have hF : (Value.pointer (some ⟨f1.F, 0, none⟩)) = .pointer (some ⟨f.F, 0, none⟩) := by rw [h2.same.F]
  rw [hF] at HWp
  have k1 := Blk.cellv (i := 1) HK2.out rfl
  clear h1 h2 hF
  go_wp2_with fail
  refine (HWp.out _ rfl).mono ?_
  rintro e w3 ⟨rfl, ps', h3⟩
  have H3 := Lib.hid ((H1.out.then_ h3).from_ HB1.out HB0)
  clear h3 k1
  go_wp2
  go_ret
  exact ⟨rfl, _, H3.out, actd HI.out H2.out hk HSs.out HW.out⟩
end
end Go.Proofs.YtiipnpfaaghekaaGreat
namespace Go.Proofs.YtiipnpfaaghekaaGreat
open Go.RowKit

namespace Ftl
theorem enough_no {g : Mg} (h3 : 3 ≤ Gc.count 0 g.l) (h : enough g = false) : g.opn = -1 ∧ Gc.count 0 g.l = 3 := by
  unfold enough at h
  rw [decide_eq_true h3, Bool.true_and, Bool.or_eq_false_iff, decide_eq_false_iff_not, decide_eq_false_iff_not] at h
  omega
theorem enough_yes {g : Mg} (h3 : 3 ≤ Gc.count 0 g.l) (h : g.opn ≠ -1 ∨ 4 ≤ Gc.count 0 g.l) : enough g = true := by
  unfold enough
  rw [decide_eq_true h3, Bool.true_and, Bool.or_eq_true, decide_eq_true_eq, decide_eq_true_eq]
  exact h
theorem enough_is {g : Mg} (h : enough g = true) : 3 ≤ Gc.count 0 g.l ∧ (g.opn ≠ -1 ∨ 4 ≤ Gc.count 0 g.l) := by
  unfold enough at h
  rw [Bool.and_eq_true, Bool.or_eq_true, decide_eq_true_eq, decide_eq_true_eq, decide_eq_true_eq] at h
  exact h
/-- Behind i actions. -/
structure Ens (NB n : Nat) (f f' : Fm) (i : Nat) : Prop where
  same : Same f f'
  fi : Fi NB (n + 17 * i) [] f'.g (f'.se ++ f'.no)
  en : (enough f'.g = true ∧ i ≤ NB + 1) ∨ (f'.g.opn = -1 ∧ Gc.count 0 f'.g.l = 3 ∧ i ≤ NB ∧ (Stuck f'.g.l → ∃ X L, Lvl NB f'.g.l X L i))
theorem ens0 {NB n : Nat} {f : Fm} (hi : Fi NB n [] f.g (f.se ++ f.no)) (h3 : 3 ≤ Gc.count 0 f.g.l) (hE : (f.se ++ f.no).length + 2 ≤ 8 * (NB - 3)) : Ens NB n f f 0 := by
  refine ⟨Same.refl f, hi, ?_⟩
  cases he : enough f.g with
  | true => exact .inl ⟨rfl, by omega⟩
  | false =>
    obtain ⟨h1, h2⟩ := enough_no h3 he
    refine .inr ⟨h1, h2, by omega, fun hs => ?_⟩
    have hn := hi.nb
    obtain ⟨X, hX⟩ := lvl0 hi.w.len (by omega) hs (fun i hi' => hi.shut h1 i hi') (fun i j h4 h5 => hi.w.gap i j h4 h5) (hi.wait h1 h2 hE)
    exact ⟨X, _, hX⟩
/-- What is bid then, and that it may be done. -/
theorem Ens.bid {NB n i : Nat} {f f' : Fm} (h : Ens NB n f f' i) (he : enough f'.g = false) : ∃ (a : Int) (k : Nat), Gc.next f'.g.l 8 (decide (8 ≤ roomOf f'.g)) = (a, (k : Int)) ∧ a ≠ 0 ∧ k < NB ∧ ((Gc.at_ f'.g.l k).st = 0 ∨ (Gc.at_ f'.g.l k).st = 2 ∨ (Gc.at_ f'.g.l k).st = 3) ∧ f'.g.opn = -1 ∧ Gc.count 0 f'.g.l = 3 ∧ (∀ j, j < NB → (Gc.at_ f'.g.l k).wear ≤ (Gc.at_ f'.g.l j).wear + 3) ∧ ∀ f2, Actd NB (n + 17 * i) f' f2 k → Ens NB n f f2 (i + 1) := by
  rcases h.en with ⟨h1, _⟩ | ⟨ho, hc, hi, hL⟩
  · rw [he] at h1; cases h1
  have hlen := h.fi.w.len
  have hnb := h.fi.nb
  have hroom : decide (8 ≤ roomOf f'.g) = true := by
    unfold roomOf
    rw [if_pos ho, hc]
    decide
  rw [hroom]
  obtain ⟨a, k, hx, hk, hr⟩ := next_is (l := f'.g.l) (by omega) (fun i hi => h.fi.shut ho i (by omega))
  rw [hlen] at hk
  have hle : ∀ j, j < NB → Gc.least f'.g.l ≤ (Gc.at_ f'.g.l j).wear := fun j hj => h.fi.w.least hj
  have hl8 := (h.fi.w.bk k hk).l8
  have go : ∀ f2, Actd NB (n + 17 * i) f' f2 k → Same f f2 ∧ Fi NB (n + 17 * (i + 1)) [] f2.g (f2.se ++ f2.no) := fun f2 ha => ⟨h.same.trans ha.same, ha.fi.le (by omega)⟩
  refine ⟨a, k, hx, ?_, hk, ?_, ho, hc, fun j hj => ?_, fun f2 ha => ?_⟩
  · rcases hr with ⟨e, _⟩ | ⟨e, _⟩ | ⟨_, _, ⟨e, _⟩ | ⟨e, _⟩⟩ <;> omega
  · rcases hr with ⟨_, e, _⟩ | ⟨_, e, _⟩ | ⟨_, _, ⟨_, e⟩ | ⟨_, e, _⟩⟩ <;> omega
  · have := hle j hj
    rcases hr with ⟨_, _, e⟩ | ⟨_, _, _, e⟩ | ⟨_, e, _⟩ <;> omega
  · obtain ⟨g1, g2⟩ := go f2 ha
    rcases hr with ⟨_, e, _⟩ | ⟨_, e, e8, _⟩ | ⟨hs, ew, hq⟩
    · rcases ha.res with ⟨_, r2, r3⟩ | ⟨r1, _⟩ | ⟨r1, _⟩
      · exact ⟨g1, g2, .inl ⟨enough_yes (by omega) (.inr (by omega)), by omega⟩⟩
      · omega
      · omega
    · rcases ha.res with ⟨r1, _⟩ | ⟨r1, _⟩ | ⟨r1, r2, r3, _⟩
      · omega
      · omega
      · exact ⟨g1, g2, .inl ⟨enough_yes (by omega) (.inl (r3 e8)), by omega⟩⟩
    · obtain ⟨X, L, hl⟩ := hL hs
      obtain ⟨s1, s2⟩ := hl.stuck hlen (by omega) hs fun i hi => (h.fi.shut ho i hi).1
      have hXk : X ≠ k := by
        rintro rfl
        have := hl.we
        omega
      have next : f2.g.opn = -1 → Gc.count 0 f2.g.l = 3 → Gc.at_ f2.g.l X = Gc.at_ f'.g.l X → Ens NB n f f2 (i + 1) := fun q1 q2 q3 =>
        ⟨g1, g2, .inr ⟨q1, q2, by omega, fun _ => ⟨X, L, hl.step hk (by omega) (by rw [ha.wk]; omega) (fun q _ hq => ha.wo q hq) q3⟩⟩⟩
      rcases hq with ⟨_, e⟩ | ⟨_, e, e8⟩
      · rcases ha.res with ⟨r1, _⟩ | ⟨_, r2, r3, r4⟩ | ⟨r1, _⟩
        · omega
        · exact next r2 (by omega) (r4 X hXk)
        · omega
      · rcases ha.res with ⟨r1, _⟩ | ⟨r1, _⟩ | ⟨_, r2, _, r3, a', r4, r5⟩
        · omega
        · omega
        · exact next (r3 (by omega)) (by omega) (r5 X (by rintro rfl; have := hl.st; omega) hXk)
end Ftl
section
open Ftl
variable {NB B n : Nat} {R : Nat → Prop} {w : World} {f : Fm}
/-- What ensuring leaves. -/
def Esd (NB B : Nat) (R : Nat → Prop) (n : Nat) (f : Fm) (w : World) (e : Ending) (w' : World) : Prop :=
  e = .returned (.int .i64 0) ∧ ∃ f', FtR NB B R w w' f' ∧ Same f f' ∧ Fi NB (n + 17 * (NB + 1)) [] f'.g (f'.se ++ f'.no) ∧ Ftl.enough f'.g = true
set_option maxRecDepth 100000 in
set_option maxHeartbeats 4000000 in
theorem ensure_calls (h : FtM NB B R w f) (hi : Fi NB n [] f.g (f.se ++ f.no)) (h3 : 3 ≤ Gc.count 0 f.g.l) (hE : (f.se ++ f.no).length + 2 ≤ 8 * (NB - 3)) (hn : n ≤ 1099511000000) :
    Calls Tryz.prog 53 #[.pointer (some ⟨f.F, 0, none⟩)] w (Esd NB B R n f w) := by
  have hnb := hi.nb
  obtain ⟨hnb1, hnb2⟩ := hnb
  have c0 := h.c0
  have HG := Lib.hid (fGeo_calls h)
  have HH := Lib.hid h
  have HB0 := h.base
  have HS0 := Lib.hid (ens0 hi h3 hE)
  have HN := Lib.hid hn
  have i1 := IntWalk.i64_in (8 * (NB : Int)) ⟨by omega, by omega⟩
  have i2 := IntWalk.i64_in (8 * (NB : Int) * 8) ⟨by omega, by omega⟩
  have hcs := geoCells
  clear h hi h3 hE hn
  go_enter Tryz.func53, Tryz.ntmps53
  go_wp2_with fail
  refine HG.out.mono ?_
  rintro e w1 ⟨rfl, hb⟩
  have HB1 := Lib.hid hb
  unfold geoV
  clear hb c0
  go_wp2_with fail
  have HB2 := Lib.hid (HB1.out.alloc HB1.out.size (.cells #[.int .i64 (NB : Int), .int .i64 8, .int .i64 64] 48))
  generalize w1.alloc (.cells #[.int .i64 (NB : Int), .int .i64 8, .int .i64 64] 48) = w2 at *
  go_loopw [2, 4, 16] (fun _ _ v wr => ∃ i : Nat, v = .int .i64 (i : Int) ∧ Hid (∃ f', FtR NB B R w2 wr f' ∧ Ens NB n f f' i)) (fun _ _ v _ => NB + 5 - (intOf v).toNat)
  case atStart => exact ⟨0, rfl, ⟨f, (HH.out.on HB2.out).refl, HS0.out⟩⟩
  case round =>
    obtain ⟨i, rfl, hX⟩ := hrel
    obtain ⟨f', h1, h2⟩ := hX.out
    have hib : i ≤ NB + 1 := by rcases h2.en with ⟨_, e⟩ | ⟨_, _, e, _⟩ <;> omega
    have HIb := Lib.hid hib
    have hlt : (i : Int) < 8 * (NB : Int) * 8 := by omega
    have hF : (Value.pointer (some ⟨f'.F, 0, none⟩)) = .pointer (some ⟨f.F, 0, none⟩) := by rw [h2.same.F]
    have hE := fEnough_calls h1.1 h2.fi
    rw [hF] at hE
    have HE := Lib.hid hE
    have H1 := Lib.hid h1
    have H2 := Lib.hid h2
    have hBw : B ≤ w2.heap.size := Nat.le_trans HB0 HB2.out.size
    clear hX h1 h2 hF hE hib
    cases hen : Ftl.enough f'.g with
    | true =>
      rw [hen] at HE
      have HEn := Lib.hid hen
      clear hen
      go_wp2_with fail
      refine HE.out.mono ?_
      rintro e w3 ⟨rfl, hb3⟩
      have H3 := Lib.hid ((H1.out.on hb3 hBw).from_ HB2.out HB0)
      clear hb3
      go_wp2
      go_ret
      exact ⟨rfl, f', H3.out, H2.out.same, H2.out.fi.le (by have := HIb.out; omega), HEn.out⟩
    | false =>
      obtain ⟨a, k, hx, ha, hk, hs, ho, hc, hw, hstep⟩ := H2.out.bid hen
      rw [hen] at HE
      have HSt := Lib.hid hstep
      have HX := Lib.hid hx
      have HO := Lib.hid ho
      have HC := Lib.hid hc
      have HW := Lib.hid hw
      have HSs := Lib.hid hs
      have HA := Lib.hid ha
      clear hen hstep hx ho hc hw hs ha
      go_wp2_with fail
      refine HE.out.mono ?_
      rintro e w3 ⟨rfl, hb3⟩
      have H3 := Lib.hid (H1.out.on hb3 hBw)
      have c1 := H3.out.1.c1
      rw [H2.out.same.F] at c1
      clear hb3
      go_wp2_with fail
      refine (fNext_calls H3.out.1 H2.out.fi (by have := HN.out; have := HIb.out; omega)).mono ?_
      rw [HX.out]
      rintro e w4 ⟨rfl, hb4⟩
      have H4 := Lib.hid (H3.out.on hb4 hBw)
      rw [show acV (a, (k : Int)) = .agg #[.int .i64 a, .int .i64 (k : Int)] from rfl]
      have hAc := act_calls H4.out.1 H2.out.fi a HA.out hk HSs.out HO.out (by have := HC.out; omega) HW.out (by have := HN.out; have := HIb.out; omega)
      rw [show (Value.pointer (some ⟨f'.F, 0, none⟩)) = .pointer (some ⟨f.F, 0, none⟩) by rw [H2.out.same.F]] at hAc
      have HAc := Lib.hid hAc
      clear hb4 c1 hAc
      go_wp2_with fail
      refine HAc.out.mono ?_
      rintro e w5 ⟨rfl, f2, h5, h6⟩
      have H5 := Lib.hid (H4.out.then_ h5)
      have H6 := Lib.hid (HSt.out f2 h6)
      clear h5 h6
      go_wp2_with fail
      go_roundw
      case rel => exact ⟨i + 1, by go_num, ⟨f2, H5.out, H6.out⟩⟩
      case measure => simp [intOf]; have := HIb.out; omega
end
end Go.Proofs.YtiipnpfaaghekaaGreat
namespace Go.Proofs.YtiipnpfaaghekaaGreat
open Go.RowKit Ftl

section
variable {NB B n : Nat} {R : Nat → Prop} {w : World} {f : Fm} {x : List Nat} {E : List En}
set_option maxRecDepth 100000 in
set_option maxHeartbeats 4000000 in
theorem clean_calls (h : FtM NB B R w f) (hn : NB ≤ 1000) :
    Calls Tryz.prog 52 #[.pointer (some ⟨f.F, 0, none⟩)] w fun e w' => e = .returned (.int .i64 0) ∧ Below w.heap.size w w' := by
  have hb0 := (Below.refl w.heap.size w).alloc (Nat.le_refl _) (.cells #[.bool false, .bool true] 4)
  have HH := Lib.hid (h.on hb0)
  have HK := Lib.hid (Blk.new w 4 #[.bool false, .bool true])
  have HB0 := Lib.hid hb0
  clear h hb0
  go_enter Tryz.func52, Tryz.ntmps52
  go_wp2_with fail
  generalize w.alloc (.cells #[.bool false, .bool true] 4) = w1 at *
  obtain ⟨Q, hQ⟩ : ∃ Q, Q = w.heap.size := ⟨_, rfl⟩
  rw [← hQ] at HK ⊢
  have HQ := Lib.hid hQ
  clear hQ
  go_loopw [4, 5, 6, 9] (fun _ _ _ v wr => ∃ i : Nat, i ≤ 2 ∧ v = .int .i64 (i : Int) ∧ wr = w1) (fun _ _ _ v _ => 2 - (intOf v).toNat)
  case atStart => exact ⟨0, by omega, rfl, rfl⟩
  case round =>
    obtain ⟨i, hi, rfl, hw⟩ := hrel
    subst hw
    by_cases hlt : i < 2
    · have hc : ∃ bv : Bool, wr.cell? ⟨Q, i, none⟩ = some (.bool bv) := by
        rcases (show i = 0 ∨ i = 1 by omega) with rfl | rfl
        · exact ⟨false, Blk.cellv HK.out rfl⟩
        · exact ⟨true, Blk.cellv HK.out rfl⟩
      obtain ⟨bv, hc⟩ := hc
      have g1 : (0 : Int) ≤ (i : Int) := by omega
      have g2 : (i : Int) < 2 := by omega
      have c10 := HH.out.c10
      go_wp2_with fail
      go_loopw [5, 6, 18] (fun _ _ v wq => ∃ j : Nat, j ≤ NB ∧ v = .int .i64 (j : Int) ∧ wq = wr) (fun _ _ v _ => NB - (intOf v).toNat)
      case atStart => exact ⟨0, by omega, rfl, rfl⟩
      case round =>
        obtain ⟨j, hj, rfl, hw⟩ := hrel
        subst hw
        by_cases hlj : j < NB
        · have y0 : wr.cell? ⟨f.LA, j, none⟩ = some (.bool false) := by
            have y9 := (HH.out.hL.cellg (k := j) (by simpa using hlj)).1
            rw [List.getElem_replicate] at y9
            exact y9
          have g3 : (0 : Int) ≤ (j : Int) := by omega
          have g4 : (j : Int) < (NB : Int) := by omega
          go_wp2_with fail
          go_roundw
          case rel => exact ⟨j + 1, by omega, by go_num, trivial⟩
          case measure => simp [intOf]; omega
        · obtain rfl : j = NB := by omega
          go_wp2_with fail
          go_roundw
          case rel => exact ⟨i + 1, by omega, by go_num, trivial⟩
          case measure => simp [intOf]; omega
    · obtain rfl : i = 2 := by omega
      go_wp2
      go_ret
      exact ⟨rfl, HB0.out⟩
/-- What programming leaves. -/
def Pgm (NB B : Nat) (R : Nat → Prop) (n : Nat) (x : List Nat) (E : List En) (f : Fm) (bs : List UInt8) (w : World) (e : Ending) (w' : World) : Prop :=
  ∃ (k i : Nat) (g' : Mg), e = .returned (.tuple #[.agg #[.int .i64 (k : Int), .int .i64 (i : Int)], .int .i64 0]) ∧ FtR NB B R w w' { f with g := g' } ∧ Pgd NB f.g g' k i bs ∧ Fi NB (n + 1) (k :: x) g' E
set_option maxRecDepth 100000 in
set_option maxHeartbeats 4000000 in
theorem program_calls (h : FtM NB B R w f) (hi : Fi NB n x f.g E) (hr : f.g.opn ≠ -1 ∨ 0 < Gc.count 0 f.g.l) (a : Option Addr) (c : Nat) (bs : List UInt8) (hgh : f.g.gh bs) (hbs : Own byteV 5 w 0 (.slice a 96 c) bs) (hap : ∀ q, Value.ownBlock (.slice a 96 c) = some q → ¬ R q) :
    Calls Tryz.prog 54 #[.pointer (some ⟨f.F, 0, none⟩), .slice a 96 c] w (Pgm NB B R n x E f bs w) := by
  have HB0 := h.base
  have hb0 := (Below.refl w.heap.size w).alloc (Nat.le_refl _) (.cells #[.int .i64 0, .int .i64 0] 52)
  have h1 := h.on hb0
  have HK := Lib.hid (Blk.new w 52 #[.int .i64 0, .int .i64 0])
  have HZ := Lib.hid (h.not_new (Nat.le_refl w.heap.size))
  have HBl := Lib.hid hb0
  have HP := Lib.hid (fProg_calls h1 hi hr a c bs hgh (hbs.on hb0) hap)
  have c1 := h1.c1
  clear h h1 hi hr hgh hbs hap hb0
  have hcs := placeCells
  go_enter Tryz.func54, Tryz.ntmps54
  go_wp2_with fail
  refine wp_loop_rounds 1 ?_
  rw [rounds_succ]
  generalize w.alloc (.cells #[.int .i64 0, .int .i64 0] 52) = w1 at *
  obtain ⟨Z, hZ⟩ : ∃ Z, Z = w.heap.size := ⟨_, rfl⟩
  rw [← hZ] at HK HZ ⊢
  have HZe := Lib.hid hZ
  clear hZ
  go_wp2_with fail
  refine HP.out.mono ?_
  rintro e w2 ⟨k, i, g', rfl, h2, hpg, hfi⟩
  have HK2 := Lib.hid (h2.blk HK.out HZ.out)
  have H2 := Lib.hid h2
  have HPg := Lib.hid hpg
  have HFi := Lib.hid hfi
  clear h2 hpg hfi c1
  obtain ⟨k0, k1, f0, f1, q0, q1⟩ := plZ HK2.out k i
  have HF := Lib.hid (H2.out.tail HBl.out HB0 (((Kq.refl (fun q => q = Z) w2).setCell (p := ⟨Z, 0, none⟩) (.inl rfl) (.int .i64 (k : Int))).setCell (p := ⟨Z, 1, none⟩) (.inl rfl) (.int .i64 (i : Int))) fun q hq => by subst hq; exact ⟨by rw [HZe.out]; exact Nat.le_refl _, Blk.lt HK.out, HZ.out⟩)
  go_wp2_with fail
  refine bodyPost_ret (v := .tuple #[.agg #[.int .i64 (k : Int), .int .i64 (i : Int)], .int .i64 0]) (by simp [results, Tryz.results54, go_sem, q0, q1]) rfl ⟨k, i, g', rfl, HF.out, HPg.out, HFi.out⟩
end
end Go.Proofs.YtiipnpfaaghekaaGreat
namespace Go.Proofs.YtiipnpfaaghekaaGreat
open Go.RowKit Ftl

theorem tagCs : Tryz.prog.cellsOf 63 = 4 := by kernel_rfl
section
variable {NB B n : Nat} {R : Nat → Prop} {w : World} {f : Fm}
/-- What put leaves. -/
def Ptd (NB B : Nat) (R : Nat → Prop) (n : Nat) (f : Fm) (t : Tg) (pay : List UInt8) (w : World) (e : Ending) (w' : World) : Prop :=
  ∃ (k i : Nat) (f1 : Fm) (g' : Mg), e = .returned (.tuple #[.agg #[.int .i64 (k : Int), .int .i64 (i : Int)], .int .i64 0]) ∧ FtR NB B R w w' { f1 with g := g', seq := f.seq + 1 } ∧ Same f f1 ∧ Pgd NB f1.g g' k i (Tg.page t pay) ∧ Fi NB (n + 17 * (NB + 1) + 1) [k] g' (f1.se ++ f1.no) ∧ 3 ≤ Gc.count 0 g'.l
theorem Ftl.Pgd.fr {g g' : Mg} {k i : Nat} {bs : List UInt8} (h : Pgd NB g g' k i bs) (he : Ftl.enough g = true) : 3 ≤ Gc.count 0 g'.l := by
  obtain ⟨h1, h2⟩ := enough_is he
  rcases h.was with ⟨a1, _, _, a4⟩ | ⟨a1, _, _, a4⟩
  · rcases h2 with h2 | h2
    · exact absurd a1 h2
    · omega
  · omega
set_option maxRecDepth 100000 in
set_option maxHeartbeats 8000000 in
theorem fput_calls (h : FtM NB B R w f) (hi : Fi NB n [] f.g (f.se ++ f.no)) (h3 : 3 ≤ Gc.count 0 f.g.l) (hE : (f.se ++ f.no).length + 2 ≤ 8 * (NB - 3)) (hn : n ≤ 1099511000000)
    (kd p : Nat) (hk : kd = 1 ∨ kd = 2) (hp : p < 8192) (hs : 1 ≤ f.seq ∧ f.seq ≤ 1000000000) (he : 1 ≤ f.ep ∧ f.ep ≤ 1000000000) (a : Option Addr) (c : Nat) (pay : List UInt8) (hgh : f.g.gh (Tg.page ⟨(kd : Int), p, f.seq, f.ep⟩ pay)) (hx : Bytes w w.heap.size a 64 pay) (hap : ∀ b o, a = some ⟨b, o, none⟩ → ¬ R b) :
    Calls Tryz.prog 24 #[.pointer (some ⟨f.F, 0, none⟩), .agg #[.int .i64 (kd : Int), .int .u32 (p : Int), .int .u64 0, .int .u64 0], .slice a 64 c] w (Ptd NB B R n f ⟨(kd : Int), p, f.seq, f.ep⟩ pay w) := by
  have HB0 := h.base
  obtain ⟨t, ht⟩ : ∃ t : Tg, t = ⟨(kd : Int), p, f.seq, f.ep⟩ := ⟨_, rfl⟩
  have hright : Tg.Right t := by
    rw [ht]
    exact ⟨by rcases hk with rfl | rfl <;> simp, hp, hs.1, by show f.seq < _; omega, he.1, by show f.ep < _; omega⟩
  have HT := Lib.hid ht
  have HRt := Lib.hid hright
  obtain ⟨w1, hw1⟩ : ∃ w1, w1 = (w.alloc (.cells #[.int .i64 (kd : Int), .int .u32 (p : Int), .int .u64 0, .int .u64 0] 63)).alloc (.cells #[.int .i64 0, .int .i64 0] 52) := ⟨_, rfl⟩
  have hb1 : Below w.heap.size w w1 := by rw [hw1]; exact ((Below.refl _ w).alloc (Nat.le_refl _) _).alloc (by simp) _
  have hq1 : Blk w1 w.heap.size 63 #[.int .i64 (kd : Int), .int .u32 (p : Int), .int .u64 0, .int .u64 0] := by rw [hw1]; exact (Blk.new w _ _).alloc _
  have hz1 : Blk w1 (w.heap.size + 1) 52 #[.int .i64 0, .int .i64 0] := by
    have := Blk.new (w.alloc (.cells #[.int .i64 (kd : Int), .int .u32 (p : Int), .int .u64 0, .int .u64 0] 63)) 52 #[.int .i64 0, .int .i64 0]
    rw [World.size_alloc] at this
    rw [hw1]; exact this
  have HW1 := Lib.hid hw1
  have HB1 := Lib.hid hb1
  have HQ1 := Lib.hid hq1
  have HZ1 := Lib.hid hz1
  have HQn := Lib.hid (h.not_new (Nat.le_refl w.heap.size))
  have HZn := Lib.hid (show ¬ R (w.heap.size + 1) from h.not_new (Nat.le_succ w.heap.size))
  have H1 := Lib.hid (h.on hb1)
  have HX1 := Lib.hid (hx.on hb1)
  have HAp := Lib.hid hap
  have HAb := Lib.hid (show ∀ b o, a = some ⟨b, o, none⟩ → b < w.heap.size from fun b o e => by obtain ⟨b', o', e', hlt, _⟩ := hx.2.2 (by omega); rw [e] at e'; injection e' with e'; injection e' with e'; omega)
  have HI := Lib.hid hi
  have H3 := Lib.hid h3
  have HE := Lib.hid hE
  have HN := Lib.hid hn
  have HSq := Lib.hid hs
  have HEp := Lib.hid he
  have HGh := Lib.hid (show f.g.gh (Tg.page t pay) by rw [ht]; exact hgh)
  have hnb := hi.nb
  clear hgh h hi h3 hE hn hk hs he hx hap ht hright hb1 hq1 hz1
  go_enter Tryz.func24, Tryz.ntmps24
  go_upto_region 1 with fail
  rw [← hw1]
  clear hw1
  go_wp2_with fail
  refine (clean_calls H1.out hnb.2).mono ?_
  rintro e w2 ⟨rfl, hb2⟩
  have H2 := Lib.hid (H1.out.on hb2)
  have HQ2 := Lib.hid (HQ1.out.belowHere hb2)
  have HZ2 := Lib.hid (HZ1.out.belowHere hb2)
  have HX2 := Lib.hid (HX1.out.on hb2)
  have HB2 := Lib.hid (HB1.out.then_ hb2)
  clear hb2
  go_wp2_with fail
  refine (ensure_calls H2.out HI.out H3.out HE.out HN.out).mono ?_
  rintro e w3 ⟨rfl, f1, h3, hsame, hfi, hen⟩
  have H4 := Lib.hid h3
  have HS := Lib.hid hsame
  have HFi := Lib.hid hfi
  have HEn := Lib.hid hen
  have HQ3 := Lib.hid (h3.blk HQ2.out HQn.out)
  have HZ3 := Lib.hid (h3.blk HZ2.out HZn.out)
  have HX3 := Lib.hid ((HX2.out.kq (Nat.le_refl _) h3.2 HAp.out).mono h3.2.size)
  have c8 := h3.1.c8
  have c9 := h3.1.c9
  rw [hsame.F, hsame.seq] at c8
  rw [hsame.F, hsame.ep] at c9
  clear h3 hsame hfi hen
  go_upto_region 7 with fail
  have hd := HQ3.out.drew
  have y2 := Blk.cellv (i := 2) hd rfl
  have y3 := Blk.cellv (i := 3) hd rfl
  have u2 := Blk.frozen hd 2
  have u3 := Blk.frozen hd 3
  have hs1 := hd.set 2 (.int .u64 (f.seq : Int))
  have v3 := hs1.cellv (i := 3) (v := .int .u64 0) rfl
  have x3 := hs1.frozen 3
  have HQ4 := Lib.hid (hs1.set 3 (.int .u64 (f.ep : Int)))
  have hFQ : f.F ≠ w.heap.size := by
    have h1 := H2.out.inF
    exact fun e => HQn.out (e ▸ h1)
  have HFQ := Lib.hid hFQ
  clear hd hs1 hFQ
  obtain ⟨W, hW⟩ : ∃ W, W = w3.drew := ⟨_, rfl⟩
  have hc : W.cell? ⟨f.F, 8, none⟩ = some (.int .u64 (f.seq : Int)) ∧ W.cell? ⟨f.F, 9, none⟩ = some (.int .u64 (f.ep : Int)) := by rw [hW]; exact ⟨c8, c9⟩
  rw [← hW] at y2 y3 u2 u3 v3 x3 HQ4
  have HWe := Lib.hid hW
  clear c8 c9
  have far : ∀ (U : World) (i : Nat) (u : Value), (U.cell? ⟨f.F, 8, none⟩ = some (.int .u64 (f.seq : Int)) ∧ U.cell? ⟨f.F, 9, none⟩ = some (.int .u64 (f.ep : Int))) → (U.setCell ⟨w.heap.size, i, none⟩ u).cell? ⟨f.F, 8, none⟩ = some (.int .u64 (f.seq : Int)) ∧ (U.setCell ⟨w.heap.size, i, none⟩ u).cell? ⟨f.F, 9, none⟩ = some (.int .u64 (f.ep : Int)) := fun U i u hU =>
    ⟨(World.cell?_setCell_far U ⟨w.heap.size, i, none⟩ ⟨f.F, 8, none⟩ u (Ne.symm HFQ.out)).trans hU.1, (World.cell?_setCell_far U ⟨w.heap.size, i, none⟩ ⟨f.F, 9, none⟩ u (Ne.symm HFQ.out)).trans hU.2⟩
  have FAR := Lib.hid far
  clear far
  refine wp_region_noPanic ?_
  refine wp_region_held_drew (S := (fun W' => W'.cell? ⟨f.F, 8, none⟩ = some (.int .u64 (f.seq : Int)) ∧ W'.cell? ⟨f.F, 9, none⟩ = some (.int .u64 (f.ep : Int)))) (by kernel_rfl) (by rw [← HWe.out]; exact hc) (fun hS0 => ?_)
  rw [← hW] at hS0 ⊢
  clear hW hc
  refine takeV 0 (v := (.pointer (some ⟨f.F, 0, none⟩))) rfl (by kernel_rfl) (by kernel_rfl) (by kernel_rfl) (fun _ _ _ h => h) (by rfl) (fun _ _ => rfl) (by assumption) ?_
  try simp only [layR]
  refine takeV 1 (v := (.pointer (some ⟨f.F, 0, none⟩))) rfl (by kernel_rfl) (by kernel_rfl) (by kernel_rfl) (fun _ _ _ h => h) (by rfl) (fun _ _ => rfl) (by assumption) ?_
  try simp only [layR]
  refine takeV 2 (v := (.pointer (some ⟨f.F, 8, none⟩))) rfl (by kernel_rfl) (by kernel_rfl) (by kernel_rfl) (fun _ _ _ h => h) (by rfl) (fun W hSw => ?_) (by assumption) ?_
  · skip
    go_simp
  try simp only [layR]
  refine takeV 3 (v := (.int .u64 (f.seq : Int))) rfl (by kernel_rfl) (by kernel_rfl) (by kernel_rfl) (fun _ _ _ h => h) (by rfl) (fun W hSw => ?_) (by assumption) ?_
  · obtain ⟨y8, y9⟩ := hSw
    go_simp
  try simp only [layR]
  refine takeV 4 (v := (.pointer (some ⟨f.F, 0, none⟩))) rfl (by kernel_rfl) (by kernel_rfl) (by kernel_rfl) (fun _ _ _ h => h) (by rfl) (fun _ _ => rfl) (by assumption) ?_
  try simp only [layR]
  refine takeV 5 (v := (.pointer (some ⟨f.F, 0, none⟩))) rfl (by kernel_rfl) (by kernel_rfl) (by kernel_rfl) (fun _ _ _ h => h) (by rfl) (fun _ _ => rfl) (by assumption) ?_
  try simp only [layR]
  refine takeV 6 (v := (.pointer (some ⟨f.F, 9, none⟩))) rfl (by kernel_rfl) (by kernel_rfl) (by kernel_rfl) (fun _ _ _ h => h) (by rfl) (fun W hSw => ?_) (by assumption) ?_
  · skip
    go_simp
  try simp only [layR]
  refine takeV 7 (v := (.int .u64 (f.ep : Int))) rfl (by kernel_rfl) (by kernel_rfl) (by kernel_rfl) (fun _ _ _ h => h) (by rfl) (fun W hSw => ?_) (by assumption) ?_
  · obtain ⟨y8, y9⟩ := hSw
    go_simp
  try simp only [layR]
  refine takeV 8 (v := (.pointer (some ⟨w.heap.size, 2, none⟩))) rfl (by kernel_rfl) (by kernel_rfl) (by kernel_rfl) (fun _ _ _ h => h) (by rfl) (fun W hSw => ?_) (by assumption) ?_
  · skip
    go_simp
  try simp only [layR]
  refine wpAnyH_ready (rs := [9]) (by kernel_rfl) (by simp) ?_
  refine AllReadyH.cons rfl (fun K' hK => ?_) AllReadyH.nil
  go_simp
  have hS1 := FAR.out W 2 (.int .u64 (f.seq : Int)) hS0
  refine hK.out _ _ hS1 (fun hS2 => ?_)
  try simp only [layR]
  refine takeV 10 (v := (.pointer (some ⟨w.heap.size, 3, none⟩))) rfl (by kernel_rfl) (by kernel_rfl) (by kernel_rfl) (fun _ _ _ h => h) (by rfl) (fun W hSw => ?_) (by assumption) ?_
  · skip
    go_simp
  try simp only [layR]
  refine wpAnyH_ready (rs := [11]) (by kernel_rfl) (by simp) ?_
  refine AllReadyH.cons rfl (fun K' hK => ?_) AllReadyH.nil
  go_simp
  have hS3 := FAR.out _ 3 (.int .u64 (f.ep : Int)) hS1
  refine hK.out _ _ hS3 (fun hS4 => ?_)
  refine wpAnyH_done (by kernel_rfl) ?_ _
  refine NoPanic.normal ?_
  clear hS0 hS1 hS2 hS3 hS4 y2 y3 u2 u3 v3 x3
  obtain ⟨Z, hZ⟩ : ∃ Z, Z = w.heap.size + 1 := ⟨_, rfl⟩
  rw [← hZ] at HZ2 HZ3 HZn ⊢
  have HZe := Lib.hid hZ
  clear hZ
  obtain ⟨Q, hQ⟩ : ∃ Q, Q = w.heap.size := ⟨_, rfl⟩
  have HQe := Lib.hid hQ
  have HK5 := Lib.hid (((Kq.of (T := fun q => q = Q) (below_drew w3)).setCell (p := ⟨w.heap.size, 2, none⟩) (.inl hQ.symm) (.int .u64 (f.seq : Int))).setCell (p := ⟨w.heap.size, 3, none⟩) (.inl hQ.symm) (.int .u64 (f.ep : Int)))
  rw [← HWe.out] at HK5
  generalize (W.setCell ⟨w.heap.size, 2, none⟩ (.int .u64 (f.seq : Int))).setCell ⟨w.heap.size, 3, none⟩ (.int .u64 (f.ep : Int)) = W5 at *
  rw [← hQ] at HQ4 HQn HQ1 ⊢
  clear hQ
  obtain ⟨R1, hR1⟩ : ∃ R1, R1 = Up R w2 w3 := ⟨_, rfl⟩
  have HR1 := Lib.hid hR1
  have hQn1 : ¬ R1 Q := by rw [hR1]; exact H4.out.far HQn.out (by rw [HQe.out]; exact HQ2.out.lt)
  have hZn1 : ¬ R1 (Z) := by rw [hR1]; exact H4.out.far HZn.out HZ2.out.lt
  have hm5 : FtM NB B R1 W5 f1 := by rw [hR1]; exact H4.out.1.kq HK5.out fun q hq e => by rw [hR1] at hQn1; exact hQn1 (e ▸ hq)
  have HM5 := Lib.hid hm5
  have HQn1 := Lib.hid hQn1
  have HZn1 := Lib.hid hZn1
  have HX5 := Lib.hid ((HX3.out.kq (Nat.le_refl _) HK5.out fun b o e h1 => by have := HAb.out b o e; have := HQe.out; omega).mono HK5.out.size)
  have HZ5 := Lib.hid (HZ3.out.kq HK5.out fun e => by have := HQe.out; have := HZe.out; omega)
  have z0 := Blk.cellv (i := 0) HQ4.out rfl
  have z1 := Blk.cellv (i := 1) HQ4.out rfl
  have z2 := Blk.cellv (i := 2) HQ4.out rfl
  have z3 := Blk.cellv (i := 3) HQ4.out rfl
  have hcs := tagCs
  clear hR1 hm5 hQn1 hZn1
  have HWr := Lib.hid (twrite_good t a 64 c pay W5 HRt.out (.inl rfl) HX5.out)
  rw [show tagV t = .agg #[.int .i64 (kd : Int), .int .u32 (p : Int), .int .u64 (f.seq : Int), .int .u64 (f.ep : Int)] by rw [HT.out]] at HWr
  go_wp2_with fail
  refine HWr.out.mono ?_
  rintro e W6 ⟨⟨v6, rfl, ho6⟩, hb6⟩
  have hplen : (Tg.page t pay).length = 96 := by rw [Tg.page_len, HX5.out.len]
  obtain ⟨a6, c6, rfl, hc6⟩ := ho6.formN hplen
  have HO6 := Lib.hid ho6
  have HB6 := Lib.hid hb6
  have HM6 := Lib.hid (HM5.out.on hb6)
  have HZ6 := Lib.hid (HZ5.out.belowHere hb6)
  have d8 := HM6.out.c8
  have u8 := HM6.out.frz 8
  rw [HS.out.F, HS.out.seq] at d8
  rw [HS.out.F] at u8
  have i8 := IntWalk.u64_in ((f.seq : Int) + 1) ⟨by omega, by have := HSq.out; omega⟩
  have hm7 := HM6.out.setF 8 (.int .u64 ((f.seq : Int) + 1)) { f1 with seq := f.seq + 1 } (by unfold fmA; simp) rfl rfl rfl rfl rfl rfl rfl rfl rfl rfl rfl
  rw [show (⟨f1.F, 8, none⟩ : Addr) = ⟨f.F, 8, none⟩ by rw [HS.out.F]] at hm7
  have HM7 := Lib.hid hm7
  have hF1 : R1 f.F := by have := HM6.out.inF; rw [HS.out.F] at this; exact this
  have HK7 := Lib.hid ((Kq.refl R1 W6).setCell (p := ⟨f.F, 8, none⟩) (.inl hF1) (.int .u64 ((f.seq : Int) + 1)))
  clear z0 z1 z2 z3 hb6 ho6 hm7 hF1 hplen
  go_upto_region 12 with fail
  clear d8 u8
  generalize W6.setCell ⟨f.F, 8, none⟩ (.int .u64 ((f.seq : Int) + 1)) = W7 at *
  have hap7 : ∀ q, Value.ownBlock (.slice a6 96 c6) = some q → ¬ R1 q := fun q hq => HM5.out.not_new (HO6.out.blockLt q hq).1
  have HO7 := Lib.hid ((HO6.out.kq HK7.out hap7).mono (Nat.zero_le _))
  have HZ7 := Lib.hid (HZ6.out.kq HK7.out HZn1.out)
  have hr : f1.g.opn ≠ -1 ∨ 0 < Gc.count 0 f1.g.l := by
    obtain ⟨e1, e2⟩ := enough_is HEn.out
    exact .inr (by omega)
  have HP := Lib.hid (program_calls HM7.out HFi.out hr a6 c6 _ (show f1.g.gh (Tg.page t pay) by rw [HS.out.gh]; exact HGh.out) HO7.out hap7)
  rw [show (Value.pointer (some ⟨({ f1 with seq := f.seq + 1 } : Fm).F, 0, none⟩)) = .pointer (some ⟨f.F, 0, none⟩) from congrArg (fun q => Value.pointer (some ⟨q, 0, none⟩)) HS.out.F] at HP
  clear hap7 hr
  go_wp2_with fail
  refine HP.out.mono ?_
  rintro e W8 ⟨k, i, g', rfl, h8, hpg, hfi⟩
  have HZ8 := Lib.hid (h8.blk HZ7.out HZn1.out)
  have H8 := Lib.hid h8
  have HPg := Lib.hid hpg
  have HFi8 := Lib.hid hfi
  have HZn2 := Lib.hid (h8.far HZn1.out HZ7.out.lt)
  clear h8 hpg hfi
  obtain ⟨k0, k1, f0, f1', q0, q1⟩ := plZ HZ8.out k i
  have hcs2 := placeCells
  go_wp2_with fail
  refine bodyPost_ret (v := .tuple #[.agg #[.int .i64 (k : Int), .int .i64 (i : Int)], .int .i64 0]) (by simp [results, Tryz.results24, go_sem, q0, q1]) rfl ⟨k, i, f1, g', rfl, ?_, HS.out, by have h9 := HPg.out; rw [HT.out] at h9; exact h9, HFi8.out, HPg.out.fr HEn.out⟩
  have s2 := HB2.out.size
  have s3 := H4.out.2.size
  have s5 := HK5.out.size
  have s6 := HB6.out.size
  have s7 := HK7.out.size
  have s8 := H8.out.2.size
  have hR1' : ∀ q, R1 q → R q ∨ (w.heap.size ≤ q ∧ q < w3.heap.size) := fun q hq => by
    rw [HR1.out] at hq
    rcases hq with h1 | h1
    · exact .inl h1
    · exact .inr ⟨by omega, h1.2⟩
  have hkz : Kq (fun q => q = Z) W8 ((W8.setCell ⟨Z, 0, none⟩ (.int .i64 (k : Int))).setCell ⟨Z, 1, none⟩ (.int .i64 (i : Int))) := ((Kq.refl (fun q => q = Z) W8).setCell (p := ⟨Z, 0, none⟩) (.inl rfl) _).setCell (p := ⟨Z, 1, none⟩) (.inl rfl) _
  have hm9 := H8.out.1.kq hkz fun q hq e => HZn2.out (e ▸ hq)
  refine ⟨hm9.more (fun q hq => ?_) fun q hq => ?_, ?_⟩
  · rcases hq with h1 | h1
    · rcases hR1' q h1 with h2 | h2
      · exact .inl h2
      · exact .inr ⟨h2.1, by simp only [World.size_setCell]; omega⟩
    · exact .inr ⟨by omega, by simp only [World.size_setCell]; omega⟩
  · rcases hq with h1 | h1
    · exact hm9.bnd q (.inl (by rw [HR1.out]; exact .inl h1))
    · exact ⟨by omega, h1.2⟩
  · have hk3 : Kq R w w3 := (Kq.of HB2.out).trans H4.out.2
    have hk5 : Kq R w W5 := hk3.then_ HK5.out fun q e => .inr (by rw [e, HQe.out]; exact Nat.le_refl _)
    have hk7 : Kq R w W7 := (hk5.on HB6.out).then_ HK7.out fun q hq => by
      rcases hR1' q hq with h2 | h2
      · exact .inl h2
      · exact .inr h2.1
    have hk8 : Kq R w W8 := hk7.then_ H8.out.2 fun q hq => by
      rcases hR1' q hq with h2 | h2
      · exact .inl h2
      · exact .inr h2.1
    exact hk8.then_ hkz fun q e => .inr (by have := HZe.out; omega)
end
end Go.Proofs.YtiipnpfaaghekaaGreat
namespace Go.Proofs.YtiipnpfaaghekaaGreat
open Go.RowKit

/-- A translation on the way: what is its own now; what has happened since w. -/
structure Pr (NB B : Nat) (R : Nat → Prop) (w : World) (R' : Nat → Prop) (W : World) (f : Fm) : Prop where
  ft : FtM NB B R' W f
  kq : Kq R w W
  up : ∀ q, R' q → Up R w W q
  bn : ∀ q, R q → B ≤ q ∧ q < w.heap.size
section
variable {NB B : Nat} {R R' T : Nat → Prop} {w W W' : World} {f f' : Fm}
theorem Pr.start (h : FtM NB B R w f) : Pr NB B R w R w f := ⟨h, Kq.refl _ _, fun _ hq => .inl hq, h.bnd⟩
theorem Pr.up_ {q : Nat} (h : Pr NB B R w R' W f) (hs : W.heap.size ≤ W'.heap.size) (hq : R' q) : Up R w W' q := by
  rcases h.up q hq with h1 | h1
  · exact .inl h1
  · exact .inr ⟨h1.1, by omega⟩
theorem Pr.on (h : Pr NB B R w R' W f) (hb : Below W.heap.size W W') : Pr NB B R w R' W' f := ⟨h.ft.on hb, h.kq.on hb, fun _ hq => h.up_ hb.size hq, h.bn⟩
theorem Pr.same (h : Pr NB B R w R' W f) (h1 : FtM NB B R' W' f') (h2 : Kq R' W W') : Pr NB B R w R' W' f' :=
  ⟨h1, h.kq.then_ h2 fun q hq => by rcases h.up q hq with h3 | h3; exact .inl h3; exact .inr h3.1, fun _ hq => h.up_ h2.size hq, h.bn⟩
theorem Pr.step (h : Pr NB B R w R' W f) (h1 : FtR NB B R' W W' f') : Pr NB B R w (Up R' W W') W' f' := by
  have hs := h.kq.size
  refine ⟨h1.1, h.kq.then_ h1.2 fun q hq => by rcases h.up q hq with h3 | h3; exact .inl h3; exact .inr h3.1, fun q hq => ?_, h.bn⟩
  rcases hq with h2 | h2
  · exact h.up_ h1.2.size h2
  · exact .inr ⟨by omega, h2.2⟩
theorem Pr.mine (h : Pr NB B R w R' W f) (hk : Kq T W W') (hT : ∀ q, T q → w.heap.size ≤ q ∧ ¬ R' q) : Pr NB B R w R' W' f :=
  ⟨h.ft.kq hk fun q hq ht => (hT q ht).2 hq, h.kq.then_ hk fun q hq => .inr (hT q hq).1, fun _ hq => h.up_ hk.size hq, h.bn⟩
theorem Pr.fin (h : Pr NB B R w R' W f) (hB : B ≤ w.heap.size) : FtR NB B R w W f := by
  refine ⟨h.ft.more h.up fun q hq => ?_, h.kq⟩
  rcases hq with h1 | h1
  · have := h.bn q h1
    have := h.kq.size
    omega
  · exact ⟨by omega, h1.2⟩
end
namespace Ftl
theorem getE_sk {l l' : List En} (h : l'.map sk = l.map sk) (p : Nat) : (getE l' p).map sk = (getE l p).map sk := by
  unfold getE
  induction l generalizing l' with
  | nil =>
    cases l' with
    | nil => rfl
    | cons a t => cases h
  | cons b t ih =>
    cases l' with
    | nil => cases h
    | cons a s =>
      rw [List.map_cons, List.map_cons] at h
      injection h with h1 h2
      have hp : a.t.p = b.t.p := congrArg (fun y => y.1.p) h1
      rw [List.find?_cons, List.find?_cons, hp]
      split
      · show some (sk a) = some (sk b); rw [h1]
      · exact ih h2
theorem getE_some {l l' : List En} (h : l'.map sk = l.map sk) (p : Nat) : (getE l' p).isSome = (getE l p).isSome := by
  have := congrArg Option.isSome (getE_sk h p)
  simpa using this
theorem getE_keys {l l' : List En} (h : l'.map (fun e => e.t.p) = l.map fun e => e.t.p) (p : Nat) : (getE l' p).isSome = (getE l p).isSome := by
  unfold getE
  induction l generalizing l' with
  | nil =>
    cases l' with
    | nil => rfl
    | cons a t => cases h
  | cons b t ih =>
    cases l' with
    | nil => cases h
    | cons a s =>
      rw [List.map_cons, List.map_cons] at h
      injection h with h1 h2
      have hp : a.t.p = b.t.p := h1
      rw [List.find?_cons, List.find?_cons, hp]
      split
      · rfl
      · exact ih h2
theorem getE_putE {l : List En} {e : En} (hu : Uq l) (q : Nat) : getE (putE l e) q = if q = e.t.p then some e else getE l q := by
  cases hg : getE l e.t.p with
  | some x =>
    obtain ⟨hx, hp⟩ := getE_mem hg
    obtain ⟨l1, l2, rfl⟩ := List.append_of_mem hx
    obtain ⟨n1, n2⟩ := uq_app hu
    rw [putE_is hu hp]
    unfold getE
    rw [List.find?_append, List.find?_append, List.find?_cons, List.find?_cons]
    by_cases hq : q = e.t.p
    · subst hq
      rw [if_pos rfl]
      have : l1.find? (fun y => y.t.p == e.t.p) = none := List.find?_eq_none.2 fun y hy => by have := n1 y hy; simp; omega
      rw [this]
      simp
    · rw [if_neg hq]
      have h1 : (e.t.p == q) = false := by rw [beq_eq_false_iff_ne]; omega
      have h2 : (x.t.p == q) = false := by rw [beq_eq_false_iff_ne]; omega
      rw [h1, h2]
  | none =>
    have hn := getE_none hg
    rw [putE_new fun x hx => hn x hx]
    unfold getE
    rw [List.find?_append, List.find?_cons, List.find?_nil]
    by_cases hq : q = e.t.p
    · subst hq
      rw [if_pos rfl]
      have : l.find? (fun y => y.t.p == e.t.p) = none := List.find?_eq_none.2 fun y hy => by have := hn y hy; simp; omega
      rw [this]
      simp
    · rw [if_neg hq]
      have h1 : (e.t.p == q) = false := by rw [beq_eq_false_iff_ne]; omega
      rw [h1]
      cases l.find? (fun y => y.t.p == q) <;> rfl
theorem getE_delE (l : List En) (p q : Nat) : getE (delE l p) q = if q = p then none else getE l q := by
  unfold getE delE
  rw [List.find?_filter]
  by_cases hq : q = p
  · subst hq
    rw [if_pos rfl]
    exact List.find?_eq_none.2 fun y _ => by simp
  · rw [if_neg hq]
    congr 1
    funext y
    by_cases h : y.t.p = q
    · simp [h, hq]
    · simp [h]
theorem uq_putE {l : List En} {e : En} (hu : Uq l) : Uq (putE l e) := by
  cases hg : getE l e.t.p with
  | some x =>
    obtain ⟨hx, hp⟩ := getE_mem hg
    unfold Uq
    rw [putE_keys (by rw [hg]; rfl)]
    exact hu
  | none =>
    have hn := getE_none hg
    rw [putE_new fun x hx => hn x hx]
    unfold Uq at *
    rw [List.map_append, List.nodup_append]
    refine ⟨hu, by simp, ?_⟩
    rintro a ha b hb rfl
    obtain ⟨x, hx, rfl⟩ := List.mem_map.1 ha
    simp at hb
    exact hn x hx hb
/-- A page is told to be not needed: no block becomes free. -/
theorem count_dropB {l : List Bk} {k : Nat} (hk : k < l.length) (hs : (Gc.at_ l k).st ≠ 0) : Gc.count 0 (l.set k (dropB (Gc.at_ l k))) = Gc.count 0 l := by
  have h1 := Gc.count_set 0 (l := l) (k := k) (dropB (Gc.at_ l k)) hk
  rw [if_neg hs] at h1
  have h2 : (dropB (Gc.at_ l k)).st ≠ 0 := by
    show (if _ then 3 else (Gc.at_ l k).st) ≠ 0
    split
    · omega
    · exact hs
  rw [if_neg h2] at h1
  omega
section
variable {NB n k : Nat} {x : List Nat} {g : Mg} {E : List En} {e e0 : En}
theorem Fi.notFree (h : Fi NB n (k :: x) g E) : (Gc.at_ g.l k).st ≠ 0 := fun e => by
  have hk := h.ltx (k := k) (by simp)
  have hb := h.w.bk k hk
  have hc : 0 < (E.map (·.b) ++ k :: x).count k := List.count_pos_iff.2 (by simp)
  have := hb.lv
  have := (hb.fr e).1
  omega
theorem Fi.lenl (h : Fi NB n x g E) (hk : k ∈ x) : k < g.l.length := by rw [h.w.len]; exact h.ltx hk
/-- The old entry's page is not needed any more. -/
theorem Fi.out {l l' : List En} (h : Fi NB n x g (l ++ l')) (he : e0 ∈ l') : ∃ E', (e0 :: E').Perm (l ++ l') ∧ Fi NB n (e0.b :: x) g E' ∧ ∀ e, e.t.p = e0.t.p → Uq l' → (l ++ putE l' e).Perm (e :: E') := by
  obtain ⟨l1, l2, rfl⟩ := List.append_of_mem he
  have hp : (e0 :: (l ++ (l1 ++ l2))).Perm (l ++ (l1 ++ e0 :: l2)) := by
    have h1 : (l ++ (l1 ++ e0 :: l2)).Perm (l ++ e0 :: (l1 ++ l2)) := List.Perm.append_left l List.perm_middle
    exact (h1.trans List.perm_middle).symm
  refine ⟨l ++ (l1 ++ l2), hp, h.del hp, fun e h1 hu => ?_⟩
  rw [putE_is hu h1.symm]
  have h1 : (l ++ (l1 ++ e :: l2)).Perm (l ++ e :: (l1 ++ l2)) := List.Perm.append_left l List.perm_middle
  exact h1.trans List.perm_middle
end
theorem Pgd.gp {NB k i : Nat} {g g' : Mg} {t : Tg} {pay : List UInt8} (h : Pgd NB g g' k i (Tg.page t pay)) : Gp g' ⟨t, pay, k, i⟩ := by
  refine ⟨?_, ?_, h.i8⟩
  · show (g'.bl k).pgs i = _
    rw [h.bl, upd_same]
    exact upd_same _ _ _
  · show i < (g'.bl k).nx
    rw [h.bl, upd_same]
    exact Nat.lt_succ_self _
/-- What Write makes of a translation. -/
structure Wrd (NB : Nat) (f f' : Fm) (p : Nat) (pay : List UInt8) : Prop where
  fc : Fc NB f'
  F : f'.F = f.F
  C : f'.g.C = f.g.C
  gh : f'.g.gh = f.g.gh
  tx : f'.tx = f.tx
  se : f'.se.map sk = f.se.map sk
  no : ∀ q, (getE f'.no q).map sk = if q = p then some (⟨1, p, f.seq, f.ep⟩, pay) else (getE f.no q).map sk
  go : ∀ q, (getE f'.go q).isSome = if q = p then false else (getE f.go q).isSome
  len : f'.no.length = f.no.length + if (getE f.no p).isSome then 0 else 1
  seq : f'.seq = f.seq + 1
  ep : f'.ep = f.ep
theorem wrd {NB k i p m : Nat} {f f1 f' : Fm} {pay : List UInt8} (h : Fc NB f) (hS : Same f f1) (hu : Uq f1.no) (hp1 : 1 ≤ p)
    (hfi : Fi NB m [] f'.g (f1.se ++ putE f1.no ⟨⟨1, p, f.seq, f.ep⟩, pay, k, i⟩)) (hm : m ≤ 100000 * f.seq + 100000) (hfr : 3 ≤ Gc.count 0 f'.g.l) (hcap : (getE f.no p).isSome = true ∨ (f.se ++ f.no).length + 3 ≤ 8 * (NB - 3))
    (hC : f'.g.C = f.g.C) (hGh : f'.g.gh = f.g.gh) (hF : f'.F = f1.F) (htx : f'.tx = f1.tx) (hse : f'.se = f1.se) (hno : f'.no = putE f1.no ⟨⟨1, p, f.seq, f.ep⟩, pay, k, i⟩) (hgo : f'.go = delE f1.go p) (hsq : f'.seq = f.seq + 1) (hep : f'.ep = f1.ep) (hov : f'.ov = f1.ov) : Wrd NB f f' p pay := by
  have hlen : (putE f1.no ⟨⟨1, p, f.seq, f.ep⟩, pay, k, i⟩).length = f.no.length + if (getE f.no p).isSome then 0 else 1 := by
    rw [putE_len]
    have h1 := congrArg List.length hS.no
    simp only [List.length_map] at h1
    rw [h1, getE_some hS.no]
  refine ⟨⟨?_, hfr, ?_, by rw [hov, hS.ov]; exact h.ov, ?_, fun x hx => ?_, ?_, ?_⟩, hF.trans hS.F, hC, hGh, htx.trans hS.tx, by rw [hse]; exact hS.se, fun q => ?_, fun q => ?_, ?_, hsq, hep.trans hS.ep⟩
  · rw [hse, hno, hsq]
    exact hfi.le (by omega)
  · rw [hse, hno, List.length_append, hlen]
    have h1 := congrArg List.length hS.se
    simp only [List.length_map] at h1
    have h2 := h.cap
    rw [List.length_append] at h2 hcap
    rcases hcap with e | e
    · rw [e, if_pos rfl]; omega
    · split <;> omega
  · rw [hsq, hep, hS.ep]; have := h.sq; omega
  · rw [hgo] at hx
    rw [hse, getE_some hS.se]
    have hx1 : x ∈ f1.go := (List.mem_filter.1 hx).1
    have : x.t.p ∈ f.go.map fun e => e.t.p := by rw [← hS.go]; exact List.mem_map.2 ⟨x, hx1, rfl⟩
    obtain ⟨y, hy, hyp⟩ := List.mem_map.1 this
    rw [← hyp]
    exact h.gk y hy
  · rw [hno, getE_putE hu, if_neg (show ¬ 0 = p by omega)]
    have := getE_some hS.no 0
    rw [h.n0] at this
    cases hg : getE f1.no 0 with
    | none => rfl
    | some e => rw [hg] at this; cases this
  · rw [hgo, getE_delE, if_neg (show ¬ 0 = p by omega)]
    have := getE_keys hS.go 0
    rw [h.g0] at this
    cases hg : getE f1.go 0 with
    | none => rfl
    | some e => rw [hg] at this; cases this
  · rw [hno, getE_putE hu]
    by_cases hq : q = p
    · rw [if_pos hq, if_pos hq]; rfl
    · rw [if_neg hq, if_neg hq]; exact getE_sk hS.no q
  · rw [hgo, getE_delE]
    by_cases hq : q = p
    · rw [if_pos hq, if_pos hq]; rfl
    · rw [if_neg hq, if_neg hq]; exact getE_keys hS.go q
  · rw [hno]; exact hlen
end Ftl
end Go.Proofs.YtiipnpfaaghekaaGreat
