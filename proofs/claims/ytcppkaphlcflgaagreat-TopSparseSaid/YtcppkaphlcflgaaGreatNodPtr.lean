import Derived.Test.YtcppkaphlcflgaaGreatInoPtsM
import Derived.Test.YtcppkaphlcflgaaGreatPolAct
import Derived.Test.YtcppkaphlcflgaaGreatInoPoint2
namespace Go.Proofs.YtcppkaphlcflgaaGreat
namespace Spr

inductive Rl where
 | dat (n : Nat)
 | ptr (m : Nat)
deriving DecidableEq
open Rl
def kid (m j : Nat) : Rl := if m = 0 then dat (6 + j) else if m = 1 then ptr (2 + j) else dat (38 + 32 * (m - 2) + j)
def ups (n : Nat) : List Nat := if n < 6 then [] else if n < 38 then [0] else [1, 2 + (n - 38) / 32]
structure Io where
 d : List Nat
 s : Nat
 b : Nat
def pgs (ds : List (List UInt8)) (p : Nat) : List UInt8 := ds.getD (p - 2) []
def zeros : List UInt8 := List.replicate 64 0
theorem two_zeros {j : Nat} (h : j < 32) : Pt.two zeros j = 0 := by
 rw [Pt.two_eq (by rw [zeros, List.length_replicate]; omega)]
 unfold zeros
 rw [List.getElem_replicate, List.getElem_replicate]
 rfl
def upd (L : Rl → Nat) (r : Rl) (v : Nat) : Rl → Nat := fun x => if x = r then v else L x
theorem upd_same (L : Rl → Nat) (r : Rl) (v : Nat) : upd L r v r = v := if_pos rfl
theorem upd_ne {L : Rl → Nat} {r x : Rl} {v : Nat} (h : x ≠ r) : upd L r v x = L x := if_neg h
theorem kid_inj {m j m' j' : Nat} (hm : m < 34) (hm' : m' < 34) (hj : j < 32) (hj' : j' < 32) (h : kid m j = kid m' j') : m = m' ∧ j = j' := by
 unfold kid at h
 split at h <;> split at h <;> (try split at h) <;> (try split at h) <;> (try cases h) <;> (try injection h) <;> omega
structure Rp (rs : List Rl) (L : Rl → Nat) (ds : List (List UInt8)) (io : Io) : Prop where
 len : ds.length = rs.length
 nod : rs.Nodup
 dl : io.d.length = 6
 rd : ∀ n, dat n ∈ rs → n < 1062
 rp : ∀ m, ptr m ∈ rs → m < 34
 sz : ∀ x ∈ ds, x.length = 64
 lnk : ∀ r, L r ≠ 0 → ∃ i, rs[i]? = some r ∧ L r = i + 2
 pt : ∀ i m, rs[i]? = some (ptr m) → ∀ j, j < 32 → Pt.two (ds.getD i []) j = L (kid m j)
 d : ∀ k, k < 6 → io.d.getD k 0 = L (dat k)
 s : io.s = L (ptr 0)
 b : io.b = L (ptr 1)
variable {rs : List Rl} {L : Rl → Nat} {ds : List (List UInt8)} {io : Io}
theorem getD_app {α : Type} {l : List α} {x y : α} {i : Nat} (h : i < l.length) : (l ++ [x]).getD i y = l.getD i y := by
 rw [List.getD_eq_getElem?_getD, List.getElem?_append_left h, ← List.getD_eq_getElem?_getD]
theorem getD_last {α : Type} {l : List α} {x y : α} : (l ++ [x]).getD l.length y = x := by
 rw [List.getD_eq_getElem?_getD, List.getElem?_append_right (Nat.le_refl _), Nat.sub_self]
 rfl
theorem getD_set {α : Type} {l : List α} {x y : α} {i k : Nat} (h : i < l.length) : (l.set i x).getD k y = if k = i then x else l.getD k y := by
 rw [List.getD_eq_getElem?_getD, List.getD_eq_getElem?_getD]
 by_cases e : k = i
 ·subst e
  rw [if_pos rfl, List.getElem?_set_self h]
  rfl
 ·rw [if_neg e, List.getElem?_set_ne (Ne.symm e)]
theorem idx_lt {α : Type} {l : List α} {i : Nat} {x : α} (h : l[i]? = some x) : i < l.length := (List.getElem?_eq_some_iff.1 h).1
theorem idx_one {l : List Rl} (hn : l.Nodup) {i j : Nat} {r : Rl} (h1 : l[i]? = some r) (h2 : l[j]? = some r) : i = j := by
 obtain ⟨a1, b1⟩ := List.getElem?_eq_some_iff.1 h1
 obtain ⟨a2, b2⟩ := List.getElem?_eq_some_iff.1 h2
 exact (List.getElem_inj hn).1 (b1.trans b2.symm)
theorem Rp.app (h : Rp rs L ds io) {r : Rl} (hr : r ∉ rs) {x : List UInt8} (hx : x.length = 64) (h1 : ∀ n, r = dat n → n < 1062) (h2 : ∀ m, r = ptr m → m < 34 ∧ ∀ j, j < 32 → Pt.two x j = L (kid m j)) : Rp (rs ++ [r]) L (ds ++ [x]) io := by
 have hl := h.len
 refine ⟨by rw [List.length_append, List.length_append, hl]; rfl, ?_, h.dl, fun n hn => ?_, fun m hm => ?_, fun y hy => ?_, fun q hq => ?_, fun i m him j hj => ?_, h.d, h.s, h.b⟩
 ·rw [List.nodup_append]
  refine ⟨h.nod, by simp, ?_⟩
  rintro a ha c hc rfl
  obtain rfl := List.mem_singleton.1 hc
  exact hr ha
 ·rcases List.mem_append.1 hn with hn | hn
  ·exact h.rd n hn
  ·exact h1 n (List.mem_singleton.1 hn).symm
 ·rcases List.mem_append.1 hm with hm | hm
  ·exact h.rp m hm
  ·exact (h2 m (List.mem_singleton.1 hm).symm).1
 ·rcases List.mem_append.1 hy with hy | hy
  ·exact h.sz y hy
  ·rw [List.mem_singleton.1 hy]; exact hx
 ·obtain ⟨i, hi, e⟩ := h.lnk q hq
  exact ⟨i, by rw [List.getElem?_append_left (idx_lt hi)]; exact hi, e⟩
 ·have hi := idx_lt him
  rw [List.length_append, List.length_singleton] at hi
  by_cases e : i = rs.length
  ·subst e
   rw [List.getElem?_append_right (Nat.le_refl _), Nat.sub_self] at him
   have him : some r = some (ptr m) := him
   rw [← hl, getD_last]
   exact (h2 m (Option.some.inj him)).2 j hj
  ·rw [List.getElem?_append_left (by omega)] at him
   rw [getD_app (by omega)]
   exact h.pt i m him j hj
theorem Rp.link (h : Rp rs L ds io) {i m j e : Nat} {r : Rl} (hi : rs[i]? = some (ptr m)) (hj : j < 32) (hk : kid m j = r) (he : rs[e]? = some r) (he2 : e + 2 < 65536) (h0 : ∀ k, r = dat k → 6 ≤ k) (h1 : ∀ k, r = ptr k → 2 ≤ k) :
  Rp rs (upd L r (e + 2)) (ds.set i (Pt.put (ds.getD i []) j (e + 2))) io := by
 have hl := h.len
 have hil := idx_lt hi
 have hm := h.rp m (List.mem_of_getElem? hi)
 have hx : (ds.getD i []).length = 64 := by
  rw [List.getD_eq_getElem?_getD, List.getElem?_eq_getElem (by omega)]
  exact h.sz _ (List.getElem_mem _)
 refine ⟨by rw [List.length_set, hl], h.nod, h.dl, h.rd, h.rp, fun y hy => ?_, fun q hq => ?_, fun i' m' him j' hj' => ?_, fun k hk6 => ?_, ?_, ?_⟩
 ·rcases List.mem_or_eq_of_mem_set hy with hy | rfl
  ·exact h.sz y hy
  ·rw [Pt.put_len (by omega), hx]
 ·by_cases e1 : q = r
  ·subst e1
   exact ⟨e, he, upd_same _ _ _⟩
  ·rw [upd_ne e1] at hq ⊢
   exact h.lnk q hq
 ·have hm' := h.rp m' (List.mem_of_getElem? him)
  rw [getD_set (by omega)]
  by_cases e1 : i' = i
  ·subst e1
   rw [if_pos rfl]
   have em : ptr m = ptr m' := Option.some.inj (hi.symm.trans him)
   injection em with em
   subst em
   by_cases e2 : j' = j
   ·subst e2
    rw [Pt.two_put (by omega) he2, hk, upd_same]
   ·rw [Pt.two_other (by omega) (by omega) e2, h.pt i' m hi j' hj', upd_ne]
    rw [← hk]
    intro e3
    exact e2 (kid_inj hm hm hj' hj e3).2
  ·rw [if_neg e1, h.pt i' m' him j' hj', upd_ne]
   rw [← hk]
   intro e3
   obtain ⟨e4, _⟩ := kid_inj hm' hm hj' hj e3
   subst e4
   exact e1 (idx_one h.nod him hi)
 ·rw [h.d k hk6, upd_ne]
  intro e1
  have := h0 k e1.symm
  omega
 ·rw [h.s, upd_ne]
  intro e1
  have := h1 0 e1.symm
  omega
 ·rw [h.b, upd_ne]
  intro e1
  have := h1 1 e1.symm
  omega
theorem kid_dat {m j k : Nat} (h : kid m j = dat k) : 6 ≤ k := by
 unfold kid at h
 split at h
 ·injection h; omega
 ·split at h
  ·cases h
  ·injection h; omega
theorem kid_ptr {m j k : Nat} (h : kid m j = ptr k) : m = 1 ∧ k = 2 + j := by
 unfold kid at h
 split at h
 ·cases h
 ·split at h
  ·injection h; omega
  ·cases h
theorem Rp.dir (h : Rp rs L ds io) {k e : Nat} (hk : k < 6) (he : rs[e]? = some (dat k)) : Rp rs (upd L (dat k) (e + 2)) ds { io with d := io.d.set k (e + 2) } := by
 refine ⟨h.len, h.nod, by rw [List.length_set]; exact h.dl, h.rd, h.rp, h.sz, fun q hq => ?_, fun i m him j hj => ?_, fun q hq => ?_, ?_, ?_⟩
 ·by_cases e1 : q = dat k
  ·subst e1
   exact ⟨e, he, upd_same _ _ _⟩
  ·rw [upd_ne e1] at hq ⊢
   exact h.lnk q hq
 ·rw [h.pt i m him j hj, upd_ne]
  intro e1
  have := kid_dat e1
  omega
 ·show (io.d.set k (e + 2)).getD q 0 = _
  rw [getD_set (by rw [h.dl]; exact hk)]
  by_cases e1 : q = k
  ·subst e1
   rw [if_pos rfl, upd_same]
  ·rw [if_neg e1, h.d q hq, upd_ne]
   intro e2
   injection e2 with e2
   exact e1 e2
 ·rw [upd_ne (by intro e1; cases e1)]; exact h.s
 ·rw [upd_ne (by intro e1; cases e1)]; exact h.b
theorem Rp.sgl (h : Rp rs L ds io) {e : Nat} (he : rs[e]? = some (ptr 0)) : Rp rs (upd L (ptr 0) (e + 2)) ds { io with s := e + 2 } := by
 refine ⟨h.len, h.nod, h.dl, h.rd, h.rp, h.sz, fun q hq => ?_, fun i m him j hj => ?_, fun q hq => ?_, ?_, ?_⟩
 ·by_cases e1 : q = ptr 0
  ·subst e1
   exact ⟨e, he, upd_same _ _ _⟩
  ·rw [upd_ne e1] at hq ⊢
   exact h.lnk q hq
 ·rw [h.pt i m him j hj, upd_ne]
  intro e1
  have := kid_ptr e1
  omega
 ·rw [upd_ne (by intro e1; cases e1)]; exact h.d q hq
 ·rw [upd_same]
 ·rw [upd_ne (by intro e1; injection e1 with e1; cases e1)]; exact h.b
theorem Rp.dbl (h : Rp rs L ds io) {e : Nat} (he : rs[e]? = some (ptr 1)) : Rp rs (upd L (ptr 1) (e + 2)) ds { io with b := e + 2 } := by
 refine ⟨h.len, h.nod, h.dl, h.rd, h.rp, h.sz, fun q hq => ?_, fun i m him j hj => ?_, fun q hq => ?_, ?_, ?_⟩
 ·by_cases e1 : q = ptr 1
  ·subst e1
   exact ⟨e, he, upd_same _ _ _⟩
  ·rw [upd_ne e1] at hq ⊢
   exact h.lnk q hq
 ·rw [h.pt i m him j hj, upd_ne]
  intro e1
  have := kid_ptr e1
  omega
 ·rw [upd_ne (by intro e1; cases e1)]; exact h.d q hq
 ·rw [upd_ne (by intro e1; injection e1 with e1; cases e1)]; exact h.s
 ·rw [upd_same]
structure Rep (rs : List Rl) (L : Rl → Nat) (ds : List (List UInt8)) (io : Io) : Prop where
 rp : Rp rs L ds io
 all : ∀ r ∈ rs, L r ≠ 0
 up : ∀ n, L (dat n) ≠ 0 → ∀ m ∈ ups n, L (ptr m) ≠ 0
 dn : ∀ m, L (ptr m) ≠ 0 → ∃ n, L (dat n) ≠ 0 ∧ m ∈ ups n
theorem Rep.zero : Rep [] (fun _ => 0) [] ⟨[0, 0, 0, 0, 0, 0], 0, 0⟩ := by
 refine ⟨⟨rfl, List.nodup_nil, rfl, fun n h => ?_, fun n h => ?_, fun x h => ?_, fun r h => absurd rfl h, fun i m h => ?_, fun k hk => ?_, rfl, rfl⟩, fun r h => ?_, fun n h => absurd rfl h, fun n h => absurd rfl h⟩
 ·cases h
 ·cases h
 ·cases h
 ·simp at h
 ·obtain h | h | h | h | h | h : k = 0 ∨ k = 1 ∨ k = 2 ∨ k = 3 ∨ k = 4 ∨ k = 5 := by omega
  all_goals (subst h; rfl)
 ·cases h
def ptP (ds : List (List UInt8)) (p k : Nat) : Nat := if p = 0 then 0 else Pt.two (pgs ds p) k
def atP (ds : List (List UInt8)) (io : Io) (n : Nat) : Nat := if n < 6 then io.d.getD n 0 else if n < 38 then ptP ds io.s (n - 6) else ptP ds (ptP ds io.b ((n - 38) / 32)) ((n - 38) % 32)
theorem Rp.ptr (h : Rp rs L ds io) {m j : Nat} (hm : L (ptr m) ≠ 0) (hj : j < 32) : ptP ds (L (ptr m)) j = L (kid m j) := by
 obtain ⟨i, hi, e⟩ := h.lnk _ hm
 unfold ptP pgs
 rw [if_neg hm, e, Nat.add_sub_cancel]
 exact h.pt i m hi j hj
theorem Rep.mid (h : Rep rs L ds io) {a : Nat} (ha : L (Rl.ptr (2 + a)) ≠ 0) : L (Rl.ptr 1) ≠ 0 := by
 obtain ⟨n, h1, h2⟩ := h.dn _ ha
 refine h.up n h1 1 ?_
 unfold ups at h2 ⊢
 split
 ·rename_i h3
  rw [if_pos h3] at h2
  cases h2
 ·rename_i h3
  rw [if_neg h3] at h2
  split
  ·rename_i h4
   rw [if_pos h4] at h2
   have := List.mem_singleton.1 h2
   omega
  ·simp
theorem Rep.ptP_ (h : Rep rs L ds io) {a : Nat} (ha : a < 32) : ptP ds io.b a = L (Rl.ptr (2 + a)) := by
 rw [h.rp.b]
 by_cases h1 : L (Rl.ptr 1) = 0
 ·rw [h1]
  by_cases h2 : L (Rl.ptr (2 + a)) = 0
  ·rw [h2]; rfl
  ·exact absurd h1 (h.mid h2)
 ·rw [h.rp.ptr h1 ha]
  rfl
theorem Rep.at_ (h : Rep rs L ds io) {n : Nat} (hn : n < 1062) : atP ds io n = L (dat n) := by
 unfold atP
 by_cases h6 : n < 6
 ·rw [if_pos h6]
  exact h.rp.d n h6
 rw [if_neg h6]
 by_cases h38 : n < 38
 ·rw [if_pos h38, h.rp.s]
  by_cases h1 : L (Rl.ptr 0) = 0
  ·rw [h1]
   by_cases h2 : L (dat n) = 0
   ·rw [h2]; rfl
   ·exact absurd h1 (h.up n h2 0 (by unfold ups; rw [if_neg h6, if_pos h38]; simp))
  ·rw [h.rp.ptr h1 (by omega)]
   unfold kid
   rw [if_pos rfl, show 6 + (n - 6) = n by omega]
 ·rw [if_neg h38, h.ptP_ (by omega)]
  by_cases h1 : L (Rl.ptr (2 + (n - 38) / 32)) = 0
  ·rw [h1]
   by_cases h2 : L (dat n) = 0
   ·rw [h2]; rfl
   ·exact absurd h1 (h.up n h2 _ (by unfold ups; rw [if_neg h6, if_neg h38]; simp))
  ·rw [h.rp.ptr h1 (by omega)]
   unfold kid
   rw [if_neg (by omega), if_neg (by omega), show 38 + 32 * (2 + (n - 38) / 32 - 2) + (n - 38) % 32 = n by omega]
end Spr
end Go.Proofs.YtcppkaphlcflgaaGreat
namespace Go.Proofs.YtcppkaphlcflgaaGreat
namespace Spr
open Rl
variable {rs : List Rl} {L : Rl → Nat} {ds : List (List UInt8)} {io : Io}

def ptrs (ds : List (List UInt8)) : Nat → Nat → Nat → List (Nat × Nat × Nat)
 | 0, p, fr => if p = 0 then [] else [(fr, p, 0)]
 | lv + 1, p, fr => if p = 0 then [] else (fr, p, lv + 1) :: (Pt.pts (pgs ds p)).flatMap fun x => ptrs ds lv x.2 (fr + x.1 * (if lv = 1 then 32 else 1))
def yl (ds : List (List UInt8)) (io : Io) : List (Nat × Nat × Nat) := (List.range 6).flatMap (fun k => ptrs ds 0 (io.d.getD k 0) k) ++ ptrs ds 1 io.s 6 ++ ptrs ds 2 io.b 38
def nums (l : List (Nat × Nat × Nat)) : List Nat := (l.filter fun x => x.2.2 == 0).map (·.1)
def cntp (l : List (Nat × Nat × Nat)) : Nat := (l.filter fun x => x.2.2 != 0).length
theorem nums_app (l l' : List (Nat × Nat × Nat)) : nums (l ++ l') = nums l ++ nums l' := by unfold nums; rw [List.filter_append, List.map_append]
theorem cntp_app (l l' : List (Nat × Nat × Nat)) : cntp (l ++ l') = cntp l + cntp l' := by unfold cntp; rw [List.filter_append, List.length_append]
theorem len_two (l : List (Nat × Nat × Nat)) : l.length = (nums l).length + cntp l := by
 induction l with
 | nil => rfl
 | cons x t ih =>
  have e : x :: t = [x] ++ t := rfl
  rw [e, nums_app, cntp_app, List.length_append, List.length_append, ih]
  unfold nums cntp
  by_cases h : x.2.2 = 0
  ·simp [h]; omega
  ·simp [h]; omega
def lst (f : Nat → Bool) (a n : Nat) : List Nat := ((List.range n).map fun i => a + i).filter f
theorem lst_add (f : Nat → Bool) (a m n : Nat) : lst f a (m + n) = lst f a m ++ lst f (a + m) n := by
 unfold lst
 rw [List.range_add, List.map_append, List.filter_append, List.map_map]
 congr 2
 exact List.map_congr_left fun i _ => (Nat.add_assoc a m i).symm
theorem mem_lst {f : Nat → Bool} {a n x : Nat} : x ∈ lst f a n ↔ a ≤ x ∧ x < a + n ∧ f x = true := by
 unfold lst
 rw [List.mem_filter, List.mem_map]
 constructor
 ·rintro ⟨⟨i, hi, rfl⟩, h⟩
  have := List.mem_range.1 hi
  exact ⟨by omega, by omega, h⟩
 ·rintro ⟨h1, h2, h3⟩
  exact ⟨⟨x - a, List.mem_range.2 (by omega), by omega⟩, h3⟩
theorem lst_none {f : Nat → Bool} {a n : Nat} (h : ∀ x, a ≤ x → x < a + n → f x = false) : lst f a n = [] := by
 cases hl : lst f a n with
 | nil => rfl
 | cons x t =>
  obtain ⟨h1, h2, h3⟩ := mem_lst.1 (show x ∈ lst f a n by rw [hl]; simp)
  rw [h x h1 h2] at h3
  cases h3
theorem lst_pair (f : Nat → Bool) (a n : Nat) : (lst f a n).Pairwise (· < ·) := by
 unfold lst
 refine List.Pairwise.filter _ ?_
 rw [List.pairwise_map]
 exact List.pairwise_lt_range.imp fun h => by omega
theorem lst_one (f : Nat → Bool) (a : Nat) : lst f a 1 = if f a then [a] else [] := by
 unfold lst
 show (List.filter f [a + 0]) = _
 rw [Nat.add_zero, List.filter_cons]
 rfl
def fD (L : Rl → Nat) (n : Nat) : Bool := L (dat n) != 0
def fP (L : Rl → Nat) (m : Nat) : Bool := L (ptr m) != 0
def seg (L : Rl → Nat) (fr n : Nat) : List (Nat × Nat × Nat) := (List.range n).flatMap fun j => if L (dat (fr + j)) = 0 then [] else [(fr + j, L (dat (fr + j)), 0)]
theorem seg_succ (L : Rl → Nat) (fr n : Nat) : seg L fr (n + 1) = seg L fr n ++ (if L (dat (fr + n)) = 0 then [] else [(fr + n, L (dat (fr + n)), 0)]) := by
 unfold seg
 rw [List.range_succ, List.flatMap_append]
 simp
theorem nums_seg (L : Rl → Nat) (fr n : Nat) : nums (seg L fr n) = lst (fD L) fr n ∧ cntp (seg L fr n) = 0 := by
 induction n with
 | zero => exact ⟨rfl, rfl⟩
 | succ n ih =>
  rw [seg_succ, nums_app, cntp_app, ih.1, ih.2, lst_add, lst_one]
  unfold fD
  by_cases h : L (dat (fr + n)) = 0
  ·simp [h, nums, cntp]
  ·simp [h, nums, cntp]
theorem pts_flat {β : Type} (xs : List UInt8) (F : Nat × Nat → List β) (k : Nat) : (Pt.ptsTo xs k).flatMap F = (List.range k).flatMap fun j => if Pt.two xs j = 0 then [] else F (j, Pt.two xs j) := by
 induction k with
 | zero => rfl
 | succ k ih =>
  rw [List.range_succ, List.flatMap_append, ← ih, Pt.ptsTo]
  split
  ·rename_i h
   simp [h]
  ·rename_i h
   simp [h]
theorem flat_congr {α β : Type} {l : List α} {f g : α → List β} (h : ∀ x ∈ l, f x = g x) : l.flatMap f = l.flatMap g := by
 induction l with
 | nil => rfl
 | cons x t ih => rw [List.flatMap_cons, List.flatMap_cons, h x (by simp), ih fun y hy => h y (by simp [hy])]
theorem Rp.pts_ (h : Rp rs L ds io) {m : Nat} (hm : L (Rl.ptr m) ≠ 0) {β : Type} (F : Nat × Nat → List β) :
  (Pt.pts (pgs ds (L (Rl.ptr m)))).flatMap F = (List.range 32).flatMap fun j => if L (kid m j) = 0 then [] else F (j, L (kid m j)) := by
 obtain ⟨i, hi, e⟩ := h.lnk _ hm
 have hil := idx_lt hi
 have hlen := h.len
 have hx : (pgs ds (L (Rl.ptr m))).length = 64 := by
  unfold pgs
  rw [e, Nat.add_sub_cancel, List.getD_eq_getElem?_getD, List.getElem?_eq_getElem (by omega)]
  exact h.sz _ (List.getElem_mem _)
 unfold Pt.pts
 rw [hx, if_pos (show Ino.Sized (64 : Nat) from .inl rfl), show 64 / 2 = 32 from rfl, pts_flat]
 refine flat_congr fun j hj => ?_
 have h1 := h.ptr hm (List.mem_range.1 hj)
 unfold ptP at h1
 rw [if_neg hm] at h1
 rw [h1]
theorem Rp.ptrs1 (h : Rp rs L ds io) {m fr : Nat} (hk : ∀ j, j < 32 → kid m j = dat (fr + j)) : ptrs ds 1 (L (Rl.ptr m)) fr = if L (Rl.ptr m) = 0 then [] else (fr, L (Rl.ptr m), 1) :: seg L fr 32 := by
 unfold ptrs
 split
 ·rfl
 ·rename_i hm
  rw [h.pts_ hm]
  refine congrArg _ (flat_congr fun j hj => ?_)
  rw [hk j (List.mem_range.1 hj)]
  split
  ·rfl
  ·rename_i h0
   unfold ptrs
   rw [if_neg h0]
   simp
theorem Rep.gone (h : Rep rs L ds io) {m n : Nat} (hm : L (Rl.ptr m) = 0) (hn : m ∈ ups n) : fD L n = false := by
 unfold fD
 by_cases h1 : L (dat n) = 0
 ·rw [h1]; rfl
 ·exact absurd hm (h.up n h1 m hn)
theorem Rep.one (h : Rep rs L ds io) {m fr : Nat} (hk : ∀ j, j < 32 → kid m j = dat (fr + j)) (hu : ∀ j, j < 32 → m ∈ ups (fr + j)) : nums (ptrs ds 1 (L (Rl.ptr m)) fr) = lst (fD L) fr 32 ∧ cntp (ptrs ds 1 (L (Rl.ptr m)) fr) = (lst (fP L) m 1).length := by
 rw [h.rp.ptrs1 hk, lst_one]
 unfold fP
 split
 ·rename_i hm
  rw [lst_none fun x h1 h2 => h.gone hm (by have := hu (x - fr) (by omega); rwa [show fr + (x - fr) = x by omega] at this), hm]
  exact ⟨rfl, rfl⟩
 ·rename_i hm
  have e : (fr, L (Rl.ptr m), 1) :: seg L fr 32 = [(fr, L (Rl.ptr m), 1)] ++ seg L fr 32 := rfl
  obtain ⟨h1, h2⟩ := nums_seg L fr 32
  rw [e, nums_app, cntp_app, h1, h2]
  exact ⟨rfl, by rw [if_pos (by simpa using hm)]; rfl⟩
theorem Rep.two_ (h : Rep rs L ds io) (k : Nat) (hk : k ≤ 32) : nums ((List.range k).flatMap fun a => if L (kid 1 a) = 0 then [] else ptrs ds 1 (L (kid 1 a)) (38 + a * 32)) = lst (fD L) 38 (32 * k) ∧ cntp ((List.range k).flatMap fun a => if L (kid 1 a) = 0 then [] else ptrs ds 1 (L (kid 1 a)) (38 + a * 32)) = (lst (fP L) 2 k).length := by
 induction k with
 | zero => exact ⟨rfl, rfl⟩
 | succ k ih =>
  obtain ⟨i1, i2⟩ := ih (by omega)
  have hkk : kid 1 k = Rl.ptr (2 + k) := by unfold kid; rw [if_neg (by omega), if_pos rfl]
  obtain ⟨o1, o2⟩ := h.one (m := 2 + k) (fr := 38 + k * 32) (fun j hj => by unfold kid; rw [if_neg (by omega), if_neg (by omega), show 38 + 32 * (2 + k - 2) + j = 38 + k * 32 + j by omega]) (fun j hj => by unfold ups; rw [if_neg (by omega), if_neg (by omega), show 2 + (38 + k * 32 + j - 38) / 32 = 2 + k by omega]; simp)
  rw [List.range_succ, List.flatMap_append, nums_app, cntp_app, i1, i2, show 32 * (k + 1) = 32 * k + 32 by omega, lst_add (fD L), lst_add (fP L), List.length_append]
  simp only [List.flatMap_cons, List.flatMap_nil, List.append_nil, hkk]
  rw [show 38 + 32 * k = 38 + k * 32 by omega, ← o1, ← o2]
  by_cases h0 : L (Rl.ptr (2 + k)) = 0
  ·rw [if_pos h0, h0]
   exact ⟨rfl, rfl⟩
  ·rw [if_neg h0]
   exact ⟨rfl, rfl⟩
theorem Rep.yl_ (h : Rep rs L ds io) : nums (yl ds io) = lst (fD L) 0 1062 ∧ (yl ds io).length = (lst (fD L) 0 1062).length + (lst (fP L) 0 34).length := by
 have h0 : nums ((List.range 6).flatMap fun k => ptrs ds 0 (io.d.getD k 0) k) = lst (fD L) 0 6 ∧ cntp ((List.range 6).flatMap fun k => ptrs ds 0 (io.d.getD k 0) k) = 0 := by
  have e : ((List.range 6).flatMap fun k => ptrs ds 0 (io.d.getD k 0) k) = seg L 0 6 := by
   unfold seg
   refine flat_congr fun k hk => ?_
   rw [h.rp.d k (List.mem_range.1 hk), Nat.zero_add]
   rfl
  rw [e]
  exact nums_seg L 0 6
 obtain ⟨o1, o2⟩ := h.one (m := 0) (fr := 6) (fun j hj => if_pos rfl) (fun j hj => by unfold ups; rw [if_neg (by omega), if_pos (by omega)]; simp)
 have h2 : nums (ptrs ds 2 io.b 38) = lst (fD L) 38 1024 ∧ cntp (ptrs ds 2 io.b 38) = (lst (fP L) 1 1).length + (lst (fP L) 2 32).length := by
  rw [h.rp.b, lst_one]
  unfold ptrs fP
  split
  ·rename_i hm
   rw [lst_none fun x h1 h2 => h.gone hm (by unfold ups; rw [if_neg (by omega), if_neg (by omega)]; simp), hm]
   rw [lst_none fun x h1 h2 => by
    by_cases h3 : L (Rl.ptr x) = 0
    ·rw [h3]; rfl
    ·obtain ⟨a, rfl⟩ : ∃ a, x = 2 + a := ⟨x - 2, by omega⟩
     exact absurd hm (h.mid h3)]
   exact ⟨rfl, rfl⟩
  ·rename_i hm
   obtain ⟨t1, t2⟩ := h.two_ 32 (Nat.le_refl _)
   rw [h.rp.pts_ hm]
   have e : ∀ t, (38, L (Rl.ptr 1), 1 + 1) :: t = [(38, L (Rl.ptr 1), 2)] ++ t := fun t => rfl
   rw [e, nums_app, cntp_app]
   have e2 : ((List.range 32).flatMap fun j => if L (kid 1 j) = 0 then [] else ptrs ds 1 (j, L (kid 1 j)).2 (38 + (j, L (kid 1 j)).1 * (if 1 = 1 then 32 else 1))) = (List.range 32).flatMap fun a => if L (kid 1 a) = 0 then [] else ptrs ds 1 (L (kid 1 a)) (38 + a * 32) := rfl
   rw [e2, t1, t2]
   refine ⟨?_, by rw [if_pos (by simpa using hm)]; rfl⟩
   rw [show nums [(38, L (Rl.ptr 1), 2)] = [] from rfl, List.nil_append]
 rw [← h.rp.s] at o1 o2
 have e1 : lst (fD L) 0 1062 = lst (fD L) 0 6 ++ lst (fD L) 6 32 ++ lst (fD L) 38 1024 := by
  have a := lst_add (fD L) 0 38 1024
  have b := lst_add (fD L) 0 6 32
  simp only [Nat.zero_add, Nat.reduceAdd] at a b
  rw [a, b]
 have e2 : lst (fP L) 0 34 = lst (fP L) 0 1 ++ lst (fP L) 1 1 ++ lst (fP L) 2 32 := by
  have a := lst_add (fP L) 0 2 32
  have b := lst_add (fP L) 0 1 1
  simp only [Nat.zero_add, Nat.reduceAdd] at a b
  rw [a, b]
 have e3 : nums (yl ds io) = lst (fD L) 0 1062 := by
  unfold yl
  rw [nums_app, nums_app, h0.1, o1, h2.1, e1]
 refine ⟨e3, ?_⟩
 rw [len_two, e3, e2]
 unfold yl
 rw [cntp_app, cntp_app, h0.2, o2, h2.2, List.length_append, List.length_append]
 omega
end Spr
end Go.Proofs.YtcppkaphlcflgaaGreat
namespace Go.Proofs.YtcppkaphlcflgaaGreat
open Pol Spr

noncomputable def Ps.nx (s : Ps) : Nat := open Classical in if h : ∃ n, s.Nx n then Classical.choose h else 0
theorem Ps.nx_of {s : Ps} {n : Nat} (h : s.Nx n) : s.nx = n := by
 unfold Ps.nx
 rw [dif_pos ⟨n, h⟩]
 exact (Classical.choose_spec (⟨n, h⟩ : ∃ n, s.Nx n)).one h
theorem Ps.nx_is {s : Ps} (h : s.us.length < s.np) : s.Nx s.nx := by
 obtain ⟨n, hn⟩ := Ps.Nx.ex h
 rw [Ps.nx_of hn]
 exact hn
namespace Nod
def ptP (g : Nat → List UInt8) (p k : Nat) : Nat := if p = 0 then 0 else Pt.two (g p) k
def atP (g : Nat → List UInt8) (io : Io) (n : Nat) : Nat := if n < 6 then io.d.getD n 0 else if n < 38 then ptP g io.s (n - 6) else ptP g (ptP g io.b ((n - 38) / 32)) ((n - 38) % 32)
def Gd (s : Ps) (p : Nat) : Prop := p = 0 ∨ p ∈ s.us
structure Wf (s : Ps) (io : Io) : Prop where
 dl : io.d.length = 6
 wd : ∀ n, n < 6 → Gd s (io.d.getD n 0)
 ws : Gd s io.s
 wb : Gd s io.b
 sj : ∀ j, j < 32 → Gd s (ptP s.g io.s j)
 bj : ∀ j, j < 32 → Gd s (ptP s.g io.b j)
 bk : ∀ j k, j < 32 → k < 32 → Gd s (ptP s.g (ptP s.g io.b j) k)
theorem Gd.there {s : Ps} {p : Nat} (h : Gd s p) (h0 : p ≠ 0) : s.There p := by
 rcases h with h | h
 ·exact absurd h h0
 ·exact .inr h
theorem Gd.lt {s : Ps} {p : Nat} (h : Gd s p) (ho : s.Ok) (hb : s.tb + s.np < 8192) : p < 8192 := by
 rcases h with h | h
 ·omega
 ·have := ho.us p h
  omega
theorem Wf.at_ {s : Ps} {io : Io} (h : Wf s io) {n : Nat} (hn : n < 1062) : Gd s (atP s.g io n) := by
 unfold atP
 split
 ·exact h.wd n (by omega)
 ·split
  ·exact h.sj _ (by omega)
  ·exact h.bk _ _ (by omega) (by omega)
noncomputable def pointS (s : Ps) (p k tq : Nat) : Ps × Nat :=
 let q := if p = 0 then s.nx else p
 let t := if p = 0 then s.add s.nx else s
 let x := Pt.put (t.g q) k tq
 if Pt.pts x = [] then (t.del q, 0) else (t.put q x, q)
theorem pointS_eq {s t : Ps} {p k tt q : Nat} (hq : q = if p = 0 then s.nx else p) (ht : t = if p = 0 then s.add s.nx else s) : pointS s p k tt = if Pt.pts (Pt.put (t.g q) k tt) = [] then (t.del q, 0) else (t.put q (Pt.put (t.g q) k tt), q) := by
 subst hq ht
 unfold pointS
 rfl
noncomputable def setS (s : Ps) (io : Io) (n tq : Nat) : Ps × Io :=
 if n < 6 then (s, { io with d := io.d.set n tq })
 else if n < 38 then ((pointS s io.s (n - 6) tq).1, { io with s := (pointS s io.s (n - 6) tq).2 })
 else
  let r := pointS s (ptP s.g io.b ((n - 38) / 32)) ((n - 38) % 32) tq
  let q := pointS r.1 io.b ((n - 38) / 32) r.2
  (q.1, { io with b := q.2 })
end Nod
end Go.Proofs.YtcppkaphlcflgaaGreat
namespace Go.Proofs.YtcppkaphlcflgaaGreat
open Pol Spr
namespace Nod
def ptrs (g : Nat → List UInt8) : Nat → Nat → Nat → List (Nat × Nat × Nat)
 | 0, p, fr => if p = 0 then [] else [(fr, p, 0)]
 | lv + 1, p, fr => if p = 0 then [] else (fr, p, lv + 1) :: (Pt.pts (g p)).flatMap fun x => ptrs g lv x.2 (fr + x.1 * (if lv = 1 then 32 else 1))
def yl (g : Nat → List UInt8) (io : Io) : List (Nat × Nat × Nat) := (List.range 6).flatMap (fun k => ptrs g 0 (io.d.getD k 0) k) ++ ptrs g 1 io.s 6 ++ ptrs g 2 io.b 38
def GdL (s : Ps) : Nat → Nat → Prop
 | 0, p => Gd s p
 | l + 1, p => Gd s p ∧ ∀ j, j < 32 → GdL s l (ptP s.g p j)
theorem GdL.gd {s : Ps} {l p : Nat} (h : GdL s l p) : Gd s p := by
 cases l with
 | zero => exact h
 | succ l => exact h.1
theorem Wf.gs {s : Ps} {io : Io} (h : Wf s io) : GdL s 1 io.s := ⟨h.ws, fun j hj => h.sj j hj⟩
theorem Wf.gb {s : Ps} {io : Io} (h : Wf s io) : GdL s 2 io.b := ⟨h.wb, fun j hj => ⟨h.bj j hj, fun k hk => h.bk j k hj hk⟩⟩
theorem ptsTo_mem {x : List UInt8} {k j v : Nat} (h : (j, v) ∈ Pt.ptsTo x k) : j < k ∧ v = Pt.two x j ∧ v ≠ 0 := by
 induction k with
 | zero => cases h
 | succ k ih =>
  rw [Pt.ptsTo] at h
  split at h
  ·have := ih h; exact ⟨by omega, this.2⟩
  ·rename_i h0
   rcases List.mem_append.1 h with h1 | h1
   ·have := ih h1; exact ⟨by omega, this.2⟩
   ·obtain ⟨rfl, rfl⟩ := Prod.mk.inj (List.mem_singleton.1 h1)
    exact ⟨by omega, rfl, h0⟩
theorem pts_mem {x : List UInt8} (hx : x.length = 64) {j v : Nat} (h : (j, v) ∈ Pt.pts x) : j < 32 ∧ v = Pt.two x j ∧ v ≠ 0 := by
 unfold Pt.pts at h
 rw [hx, if_pos (show Ino.Sized (64 : Nat) from .inl rfl)] at h
 exact ptsTo_mem h
end Nod
end Go.Proofs.YtcppkaphlcflgaaGreat
namespace Go.Proofs.YtcppkaphlcflgaaGreat
open Pol Spr
namespace Nod
structure SetOk (s : Ps) (io : Io) (n tt : Nat) : Prop where
 dl : io.d.length = 6
 hn : n < 1062
 ht : tt < 8192
 one : 6 ≤ n → n < 38 → Gd s io.s ∧ (io.s = 0 → s.us.length < s.np)
 two : 38 ≤ n → Gd s io.b ∧ Gd s (ptP s.g io.b ((n - 38) / 32)) ∧ (ptP s.g io.b ((n - 38) / 32) = 0 → s.us.length < s.np) ∧ Gd (pointS s (ptP s.g io.b ((n - 38) / 32)) ((n - 38) % 32) tt).1 io.b ∧
  (io.b = 0 → (pointS s (ptP s.g io.b ((n - 38) / 32)) ((n - 38) % 32) tt).1.us.length < s.np) ∧ (pointS s (ptP s.g io.b ((n - 38) / 32)) ((n - 38) % 32) tt).2 < 8192
noncomputable def ens (s : Ps) (io : Io) (n : Nat) : Ps × Io × Nat :=
 if atP s.g io n = 0 then ((setS (s.add s.nx) io n s.nx).1, (setS (s.add s.nx) io n s.nx).2, s.nx) else (s, io, atP s.g io n)
structure EnsOk (s : Ps) (io : Io) (n : Nat) : Prop where
 wf : Wf s io
 hn : n < 1062
 new : atP s.g io n = 0 → s.us.length < s.np ∧ SetOk (s.add s.nx) io n s.nx
 th : (ens s io n).1.There (ens s io n).2.2
 dl : (ens s io n).2.1.d.length = 6
def wrK (off : Nat) (b : List UInt8) : Nat := min (64 - off % 64) b.length
def wrX (x : List UInt8) (off : Nat) (b : List UInt8) : List UInt8 := x.take (off % 64) ++ b.take (wrK off b) ++ x.drop (off % 64 + wrK off b)
noncomputable def wr1 (s : Ps) (io : Io) (off : Nat) (b : List UInt8) : Ps × Io :=
 ((ens s io (off / 64)).1.put (ens s io (off / 64)).2.2 (wrX ((ens s io (off / 64)).1.g (ens s io (off / 64)).2.2) off b), (ens s io (off / 64)).2.1)
noncomputable def wrS : Nat → Ps → Io → Nat → List UInt8 → Ps × Io
 | 0, s, io, _, _ => (s, io)
 | m + 1, s, io, off, b => if b = [] then (s, io) else wrS m (wr1 s io off b).1 (wr1 s io off b).2 (off + wrK off b) (b.drop (wrK off b))
def WrOk : Nat → Ps → Io → Nat → List UInt8 → Prop
 | 0, _, _, _, b => b = []
 | m + 1, s, io, off, b => b = [] ∨ (EnsOk s io (off / 64) ∧ WrOk m (wr1 s io off b).1 (wr1 s io off b).2 (off + wrK off b) (b.drop (wrK off b)))
theorem wrK_pos {off : Nat} {b : List UInt8} (h : b ≠ []) : 1 ≤ wrK off b ∧ wrK off b ≤ b.length ∧ off % 64 + wrK off b ≤ 64 := by
 have := List.length_pos_iff.2 h
 unfold wrK
 omega
theorem wrX_len {x b : List UInt8} {off : Nat} (hx : x.length = 64) : (wrX x off b).length = 64 := by
 unfold wrX wrK
 simp only [List.length_append, List.length_take, List.length_drop, hx]
 omega
end Nod
end Go.Proofs.YtcppkaphlcflgaaGreat
namespace Go.Proofs.YtcppkaphlcflgaaGreat
open Go.RowKit

structure Nf where
 k : Int
 l : Int
 s : Int
 io : Spr.Io
def nfL (P : Nat) (f : Nf) : List Value := [.pointer (some ⟨P, 0, none⟩), .int .i64 f.k, .int .i64 f.l, .int .i64 f.s] ++ f.io.d.map Pol.iV ++ [Pol.iV f.io.s, Pol.iV f.io.b]
structure NfM (w : World) (F P : Nat) (f : Nf) : Prop where
 blk : Blk w F 82 (nfL P f).toArray
 dl : f.io.d.length = 6
section
variable {w w' : World} {F P : Nat} {f : Nf}
theorem NfM.on (h : NfM w F P f) (hb : Below w.heap.size w w') : NfM w' F P f := ⟨Blk.belowHere h.blk hb, h.dl⟩
theorem NfM.kq {T : Nat → Prop} (h : NfM w F P f) (hk : Kq T w w') (hF : ¬ T F) : NfM w' F P f := ⟨Blk.kq h.blk hk hF, h.dl⟩
theorem NfM.lt (h : NfM w F P f) : F < w.heap.size := Blk.lt h.blk
theorem NfM.at_ (h : NfM w F P f) {i : Nat} {v : Value} (hv : (nfL P f)[i]? = some v) : w.cell? ⟨F, i, none⟩ = some v := Blk.cellv h.blk (by rw [List.getElem?_toArray]; exact hv)
theorem NfM.p (h : NfM w F P f) : w.cell? ⟨F, 0, none⟩ = some (.pointer (some ⟨P, 0, none⟩)) := h.at_ rfl
theorem NfM.d (h : NfM w F P f) {n : Nat} (hn : n < 6) : w.cell? ⟨F, 4 + n, none⟩ = some (.int .i64 (f.io.d.getD n 0 : Nat)) := h.at_ (by
 have hd := h.dl
 unfold nfL
 rw [List.getElem?_append_left (by simp only [List.length_append, List.length_map, List.length_cons, List.length_nil]; omega), List.getElem?_append_right (by simp only [List.length_cons, List.length_nil]; omega)]
 simp only [List.length_cons, List.length_nil, Nat.zero_add, Nat.reduceAdd, Nat.add_sub_cancel_left, List.getElem?_map, List.getD_eq_getElem?_getD]
 rw [List.getElem?_eq_getElem (by omega)]
 rfl)
theorem NfM.s (h : NfM w F P f) : w.cell? ⟨F, 10, none⟩ = some (.int .i64 (f.io.s : Nat)) := h.at_ (by
 have hd := h.dl
 unfold nfL
 rw [List.getElem?_append_right (by simp only [List.length_append, List.length_map, List.length_cons, List.length_nil]; omega)]
 simp only [List.length_append, List.length_map, List.length_cons, List.length_nil, hd]
 rfl)
theorem NfM.b (h : NfM w F P f) : w.cell? ⟨F, 11, none⟩ = some (.int .i64 (f.io.b : Nat)) := h.at_ (by
 have hd := h.dl
 unfold nfL
 rw [List.getElem?_append_right (by simp only [List.length_append, List.length_map, List.length_cons, List.length_nil]; omega)]
 simp only [List.length_append, List.length_map, List.length_cons, List.length_nil, hd]
 rfl)
end
end Go.Proofs.YtcppkaphlcflgaaGreat
namespace Go.Proofs.YtcppkaphlcflgaaGreat
open Go.RowKit Pol Nod
variable {NB B P : Nat} {Q : Nat → Prop} {w w' : World} {f : Fm} {s : Ps}

def PolAsked (NB B : Nat) (Q : Nat → Prop) (P : Nat) (f : Fm) (s : Ps) (v : Value) (w : World) (e : Ending) (w' : World) : Prop := e = .returned v ∧ PlM NB B Q w' P f s ∧ Kq Q w w'
theorem nodPointer_zero (h : PlM NB B Q w P f s) (F k : Nat) : Calls Tryz.prog 75 #[.pointer (some ⟨F, 0, none⟩), .int .i64 0, .int .i64 (k : Int)] w (PolAsked NB B Q P f s (.int .i64 0) w) := by
 go_enter Tryz.func75, Tryz.ntmps75
 go_wp2
 go_ret
 exact ⟨rfl, h, Kq.refl _ _⟩
theorem nodPointer_page (h : PlM NB B Q w P f s) {F n k : Nat} (hF : w.cell? ⟨F, 0, none⟩ = some (.pointer (some ⟨P, 0, none⟩))) (hn : s.There n) (hk : k < 32) (h8 : Pt.two (s.g n) k < 8192) :
  Calls Tryz.prog 75 #[.pointer (some ⟨F, 0, none⟩), .int .i64 (n : Int), .int .i64 (k : Int)] w (PolAsked NB B Q P f s (.int .i64 (Pt.two (s.g n) k : Int)) w) := by
 have hG := Lib.hid (polGet_calls h hn)
 have hx := h.ok.sz n hn
 have hH : Pt.Has (s.g n).length (k : Int) := by rw [hx]; exact ⟨.inl rfl, by omega, by omega⟩
 have hv := Lib.hid (Pt.ptr_yes hH (by rw [Int.toNat_natCast]; exact h8))
 have HX := Lib.hid hx
 have hlt := there_lt h hn
 have n0 : (n : Int) ≠ 0 := by omega
 have n1 : ((n : Int) == 0) = false := by rw [beq_eq_false_iff_ne]; omega
 clear h hn hx hH h8 hlt
 go_enter Tryz.func75, Tryz.ntmps75
 go_wp2_with fail
 refine hG.out.mono ?_
 rintro e w1 ⟨⟨v, rfl, ho⟩, hp, hq⟩
 obtain ⟨a, c, rfl, hc⟩ := ho.formN HX.out
 have HA := Lib.hid (ho.arr (by have := HX.out; omega))
 have HP := Lib.hid hp
 have HQ := Lib.hid hq
 clear ho hp hq
 go_wp2_with fail
 refine (pointer_calls a 64 c _ (k : Int) w1 HA.out).mono ?_
 rintro e w2 ⟨rfl, hb2⟩
 obtain ⟨v1, v2⟩ := hv.out
 rw [Int.toNat_natCast] at v1
 rw [v1, v2]
 have HB2 := Lib.hid hb2
 clear hb2 v1 v2
 go_wp2
 go_ret
 exact ⟨rfl, HP.out.on HB2.out, HQ.out.on HB2.out⟩
theorem nodPointer_calls (h : PlM NB B Q w P f s) {F n k : Nat} (hF : w.cell? ⟨F, 0, none⟩ = some (.pointer (some ⟨P, 0, none⟩))) (hn : Gd s n) (hk : k < 32) (h8 : ptP s.g n k < 8192) :
  Calls Tryz.prog 75 #[.pointer (some ⟨F, 0, none⟩), .int .i64 (n : Int), .int .i64 (k : Int)] w (PolAsked NB B Q P f s (.int .i64 (ptP s.g n k : Int)) w) := by
 by_cases h0 : n = 0
 ·subst h0
  exact nodPointer_zero h F k
 ·have e : ptP s.g n k = Pt.two (s.g n) k := by unfold ptP; rw [if_neg h0]
  rw [e] at h8 ⊢
  exact nodPointer_page h hF (hn.there h0) hk h8
end Go.Proofs.YtcppkaphlcflgaaGreat
