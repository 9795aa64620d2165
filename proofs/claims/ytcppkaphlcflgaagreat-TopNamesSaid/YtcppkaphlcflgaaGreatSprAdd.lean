import Derived.Test.YtcppkaphlcflgaaGreatInoRight
namespace Go.Proofs.YtcppkaphlcflgaaGreat
open Lib (hid)
set_option maxRecDepth 100000
set_option maxHeartbeats 16000000
section
namespace Spr

inductive Rl where
 | dat (n : Nat)
 | ptr (m : Nat)
deriving DecidableEq
open Rl
def kid (m j : Nat) : Rl := if m = 0 then dat (6 + j) else if m = 1 then ptr (2 + j) else dat (38 + 32 * (m - 2) + j)
def ups (n : Nat) : List Nat := if n < 6 then [] else if n < 38 then [0] else [1, 2 + (n - 38) / 32]
structure Io where
 d : List Nat
 s : Nat
 b : Nat
def pgs (ds : List (List UInt8)) (p : Nat) : List UInt8 := ds.getD (p - 2) []
def zeros : List UInt8 := List.replicate 64 0
theorem two_zeros {j : Nat} (h : j < 32) : Pt.two zeros j = 0 := by
 rw [Pt.two_eq (by rw [zeros, List.length_replicate]; omega)]
 unfold zeros
 rw [List.getElem_replicate, List.getElem_replicate]
 rfl
structure Rp (rs : List Rl) (L : Rl → Nat) (ds : List (List UInt8)) (io : Io) : Prop where
 len : ds.length = rs.length
 nod : rs.Nodup
 dl : io.d.length = 6
 rd : ∀ n, dat n ∈ rs → n < 1062
 rp : ∀ m, ptr m ∈ rs → m < 34
 sz : ∀ x ∈ ds, x.length = 64
 lnk : ∀ r, L r ≠ 0 → ∃ i, rs[i]? = some r ∧ L r = i + 2
 pt : ∀ i m, rs[i]? = some (ptr m) → ∀ j, j < 32 → Pt.two (ds.getD i []) j = L (kid m j)
 d : ∀ k, k < 6 → io.d.getD k 0 = L (dat k)
 s : io.s = L (ptr 0)
 b : io.b = L (ptr 1)
variable {rs : List Rl} {L : Rl → Nat} {ds : List (List UInt8)} {io : Io}
theorem getD_set {α : Type} {l : List α} {x y : α} {i k : Nat} (h : i < l.length) : (l.set i x).getD k y = if k = i then x else l.getD k y := by
 rw [List.getD_eq_getElem?_getD, List.getD_eq_getElem?_getD]
 by_cases e : k = i
 ·subst e
  rw [if_pos rfl, List.getElem?_set_self h]
  rfl
 ·rw [if_neg e, List.getElem?_set_ne (Ne.symm e)]
theorem idx_one {l : List Rl} (hn : l.Nodup) {i j : Nat} {r : Rl} (h1 : l[i]? = some r) (h2 : l[j]? = some r) : i = j := by
 obtain ⟨a1, b1⟩ := List.getElem?_eq_some_iff.1 h1
 obtain ⟨a2, b2⟩ := List.getElem?_eq_some_iff.1 h2
 exact (List.getElem_inj hn).1 (b1.trans b2.symm)
structure Rep (rs : List Rl) (L : Rl → Nat) (ds : List (List UInt8)) (io : Io) : Prop where
 rp : Rp rs L ds io
 all : ∀ r ∈ rs, L r ≠ 0
 up : ∀ n, L (dat n) ≠ 0 → ∀ m ∈ ups n, L (ptr m) ≠ 0
 dn : ∀ m, L (ptr m) ≠ 0 → ∃ n, L (dat n) ≠ 0 ∧ m ∈ ups n
def ptP (ds : List (List UInt8)) (p k : Nat) : Nat := if p = 0 then 0 else Pt.two (pgs ds p) k
def atP (ds : List (List UInt8)) (io : Io) (n : Nat) : Nat := if n < 6 then io.d.getD n 0 else if n < 38 then ptP ds io.s (n - 6) else ptP ds (ptP ds io.b ((n - 38) / 32)) ((n - 38) % 32)
theorem Rp.ptr (h : Rp rs L ds io) {m j : Nat} (hm : L (ptr m) ≠ 0) (hj : j < 32) : ptP ds (L (ptr m)) j = L (kid m j) := by
 obtain ⟨i, hi, e⟩ := h.lnk _ hm
 unfold ptP pgs
 rw [if_neg hm, e, Nat.add_sub_cancel]
 exact h.pt i m hi j hj
theorem Rep.mid (h : Rep rs L ds io) {a : Nat} (ha : L (Rl.ptr (2 + a)) ≠ 0) : L (Rl.ptr 1) ≠ 0 := by
 obtain ⟨n, h1, h2⟩ := h.dn _ ha
 refine h.up n h1 1 ?_
 unfold ups at h2 ⊢
 split
 ·rename_i h3
  rw [if_pos h3] at h2
  cases h2
 ·rename_i h3
  rw [if_neg h3] at h2
  split
  ·rename_i h4
   rw [if_pos h4] at h2
   have := List.mem_singleton.1 h2
   omega
  ·simp
theorem Rep.ptP_ (h : Rep rs L ds io) {a : Nat} (ha : a < 32) : ptP ds io.b a = L (Rl.ptr (2 + a)) := by
 rw [h.rp.b]
 by_cases h1 : L (Rl.ptr 1) = 0
 ·rw [h1]
  by_cases h2 : L (Rl.ptr (2 + a)) = 0
  ·rw [h2]; rfl
  ·exact absurd h1 (h.mid h2)
 ·rw [h.rp.ptr h1 ha]
  rfl
theorem Rep.at_ (h : Rep rs L ds io) {n : Nat} (hn : n < 1062) : atP ds io n = L (dat n) := by
 unfold atP
 by_cases h6 : n < 6
 ·rw [if_pos h6]
  exact h.rp.d n h6
 rw [if_neg h6]
 by_cases h38 : n < 38
 ·rw [if_pos h38, h.rp.s]
  by_cases h1 : L (Rl.ptr 0) = 0
  ·rw [h1]
   by_cases h2 : L (dat n) = 0
   ·rw [h2]; rfl
   ·exact absurd h1 (h.up n h2 0 (by unfold ups; rw [if_neg h6, if_pos h38]; simp))
  ·rw [h.rp.ptr h1 (by omega)]
   unfold kid
   rw [if_pos rfl, show 6 + (n - 6) = n by omega]
 ·rw [if_neg h38, h.ptP_ (by omega)]
  by_cases h1 : L (Rl.ptr (2 + (n - 38) / 32)) = 0
  ·rw [h1]
   by_cases h2 : L (dat n) = 0
   ·rw [h2]; rfl
   ·exact absurd h1 (h.up n h2 _ (by unfold ups; rw [if_neg h6, if_neg h38]; simp))
  ·rw [h.rp.ptr h1 (by omega)]
   unfold kid
   rw [if_neg (by omega), if_neg (by omega), show 38 + 32 * (2 + (n - 38) / 32 - 2) + (n - 38) % 32 = n by omega]
end Spr
end
section
namespace Spr
open Rl
variable {rs : List Rl} {L : Rl → Nat} {ds : List (List UInt8)} {io : Io}

theorem put_len64 {j tt : Nat} {x : List UInt8} (hx : x.length = 64) (hj : j < 32) : (Pt.put x j tt).length = 64 := by rw [Pt.put_len (by omega), hx]
theorem Rp.val (h : Rp rs L ds io) {r : Rl} {i : Nat} (hi : rs[i]? = some r) (hr : L r ≠ 0) : L r = i + 2 := by
 obtain ⟨j, hj, e⟩ := h.lnk r hr
 rw [idx_one h.nod hi hj]
 exact e
end Spr
end
end Go.Proofs.YtcppkaphlcflgaaGreat
