import Derived.Test.YtcppkaphlcflgaaGreatRoomPtr
import Derived.Test.YtcppkaphlcflgaaGreatNodRead
namespace Go.Proofs.YtcppkaphlcflgaaGreat
open Lib (hid)
set_option maxRecDepth 100000
set_option maxHeartbeats 16000000
section
namespace Spr
open Rl
variable {rs : List Rl} {L : Rl → Nat} {ds : List (List UInt8)} {io : Io}

theorem pts_flat {β : Type} (xs : List UInt8) (F : Nat × Nat → List β) (k : Nat) : (Pt.ptsTo xs k).flatMap F = (List.range k).flatMap fun j => if Pt.two xs j = 0 then [] else F (j, Pt.two xs j) := by
 induction k with
 | zero => rfl
 | succ k ih =>
  rw [List.range_succ, List.flatMap_append, ← ih, Pt.ptsTo]
  split
  ·rename_i h
   simp [h]
  ·rename_i h
   simp [h]
end Spr
end
section
namespace Spr
open Rl
variable {rs : List Rl} {L : Rl → Nat} {ds : List (List UInt8)} {io : Io}

end Spr
end
section
namespace Spr
variable {rs : List Rl} {L : Rl → Nat} {ds : List (List UInt8)} {io : Io} {s : Ps}

structure Lk (s : Ps) (ds : List (List UInt8)) : Prop where
 tb : s.tb = 1
 us : s.us = (List.range ds.length).map (· + 2)
 g : ∀ n, 2 ≤ n → s.g n = ds.getD (n - 2) []
def V (l p : Nat) : Prop := p = 0 ∨ (2 ≤ p ∧ p < l + 2)
theorem Lk.mem (h : Lk s ds) {p : Nat} : p ∈ s.us ↔ 2 ≤ p ∧ p < ds.length + 2 := by
 rw [h.us, List.mem_map]
 constructor
 ·rintro ⟨i, hi, rfl⟩
  have := List.mem_range.1 hi
  omega
 ·rintro ⟨h1, h2⟩
  exact ⟨p - 2, List.mem_range.2 (by omega), by omega⟩
theorem Lk.len (h : Lk s ds) : s.us.length = ds.length := by rw [h.us, List.length_map, List.length_range]
theorem Lk.nx (h : Lk s ds) (hn : ds.length < s.np) : s.nx = ds.length + 2 := by
 refine Ps.nx_of ⟨by rw [h.tb]; omega, by rw [h.tb]; omega, fun hm => ?_, fun m h1 h2 => ?_⟩
 ·have := h.mem.1 hm
  omega
 ·rw [h.tb] at h1
  exact h.mem.2 (by omega)
theorem pts_put {x : List UInt8} {k tt : Nat} (hx : x.length = 64) (hk : k < 32) (h0 : tt ≠ 0) (ht : tt < 65536) : Pt.pts (Pt.put x k tt) ≠ [] := by
 intro e
 unfold Pt.pts at e
 rw [put_len64 hx hk, if_pos (show Ino.Sized (64 : Nat) from .inl rfl)] at e
 have h2 := Pt.two_put (xs := x) (j := k) (tt := tt) (by omega) ht
 have : (k, tt) ∈ Pt.ptsTo (Pt.put x k tt) (64 / 2) := Pt.mem_ptsTo.2 ⟨by omega, by rw [h2]; exact h0, h2.symm⟩
 rw [e] at this
 cases this
theorem Lk.ptP_ (h : Lk s ds) {p k : Nat} (hp : V ds.length p) : Nod.ptP s.g p k = ptP ds p k := by
 unfold Nod.ptP Spr.ptP
 by_cases h0 : p = 0
 ·rw [if_pos h0, if_pos h0]
 ·rw [if_neg h0, if_neg h0, h.g p (by unfold V at hp; omega)]
  rfl
end Spr
end
section
open Pol Spr
namespace Nam
def adr (j : Nat) : Nat := if j < 7 then 3 + j else 4 + j
def cnt (M : Nat) : Nat := if M ≤ 6 then M else M + 1
def pgB (B : List UInt8) (j : Nat) : List UInt8 := (List.range 64).map fun i => B.getD (64 * j + i) 0
theorem pgB_len (B : List UInt8) (j : Nat) : (pgB B j).length = 64 := by unfold pgB; rw [List.length_map, List.length_range]
theorem pgB_get (B : List UInt8) {j i : Nat} (h : i < 64) : (pgB B j)[i]? = some (B.getD (64 * j + i) 0) := by
 unfold pgB
 rw [List.getElem?_map, List.getElem?_range h]
 rfl
theorem pgB_zero {B : List UInt8} {j : Nat} (h : B.length ≤ 64 * j) : pgB B j = Pol.zeros := by
 apply List.ext_getElem?
 intro i
 rcases Nat.lt_or_ge i 64 with h1 | h1
 ·rw [pgB_get B h1]
  unfold Pol.zeros
  rw [List.getElem?_replicate, if_pos h1, List.getD_eq_getElem?_getD, List.getElem?_eq_none (by omega)]
  rfl
 ·rw [List.getElem?_eq_none (by rw [pgB_len]; exact h1), List.getElem?_eq_none (by rw [Pol.zeros_len]; exact h1)]
structure Df (T1 : List UInt8) (s : Ps) (io : Io) (M : Nat) (B : List UInt8) : Prop where
 ok : s.Ok
 tb : s.tb = 2
 np : s.np = 60
 us : ∀ p, p ∈ s.us ↔ 3 ≤ p ∧ p < 3 + cnt M
 hM : M ≤ 30
 dl : io.d.length = 6
 d : ∀ k, k < 6 → io.d.getD k 0 = if k < M then adr k else 0
 si : io.s = if M ≤ 6 then 0 else 10
 b : io.b = 0
 pt : 6 < M → ∀ j, j < 32 → Pt.two (s.g 10) j = if 6 + j < M then adr (6 + j) else 0
 g : ∀ j, j < M → s.g (adr j) = pgB B j
 t1 : s.g 1 = T1
variable {s : Ps} {io : Io} {M : Nat} {B T1 : List UInt8}
theorem adr_inj {i j : Nat} (h : adr i = adr j) : i = j := by unfold adr at h; split at h <;> split at h <;> omega
theorem adr_ne {j : Nat} : adr j ≠ 10 := by unfold adr; split <;> omega
theorem adr_lo {j : Nat} : 3 ≤ adr j := by unfold adr; split <;> omega
theorem adr_hi {j : Nat} (h : j < M) : adr j < 3 + cnt M := by unfold adr cnt; split <;> split <;> omega
theorem Df.mem (h : Df T1 s io M B) {j : Nat} (hj : j < M) : adr j ∈ s.us := (h.us _).2 ⟨adr_lo, adr_hi hj⟩
theorem Df.len (h : Df T1 s io M B) : s.us.length = cnt M := by
 have h1 := Ps.sub_len (l := s.us) (l' := (List.range (cnt M)).map (3 + ·)) h.ok.nd fun x hx => by
  have := (h.us x).1 hx
  exact List.mem_map.2 ⟨x - 3, List.mem_range.2 (by omega), by omega⟩
 have h2 := Ps.sub_len (l := (List.range (cnt M)).map (3 + ·)) (l' := s.us) (by
  unfold List.Nodup
  rw [List.pairwise_map]
  exact List.nodup_range.imp fun h e => h (by omega)) fun x hx => by
  obtain ⟨i, hi, rfl⟩ := List.mem_map.1 hx
  have := List.mem_range.1 hi
  exact (h.us _).2 (by omega)
 rw [List.length_map, List.length_range] at h1 h2
 omega
theorem Df.at_ (h : Df T1 s io M B) {n : Nat} (hn : n < 1062) : Nod.atP s.g io n = if n < M then adr n else 0 := by
 unfold Nod.atP
 by_cases h6 : n < 6
 ·rw [if_pos h6]
  exact h.d n h6
 rw [if_neg h6]
 have hM := h.hM
 by_cases h38 : n < 38
 ·rw [if_pos h38, h.si]
  unfold Nod.ptP
  by_cases hs : M ≤ 6
  ·rw [if_pos hs, if_pos rfl, if_neg (by omega)]
  ·rw [if_neg hs, if_neg (by omega), h.pt (by omega) (n - 6) (by omega), show 6 + (n - 6) = n by omega]
 ·rw [if_neg h38, h.b, if_neg (by omega)]
  rfl
theorem Df.gd (h : Df T1 s io M B) (n : Nat) : Nod.Gd s (if n < M then adr n else 0) := by
 by_cases hn : n < M
 ·rw [if_pos hn]
  exact .inr (h.mem hn)
 ·rw [if_neg hn]
  exact .inl rfl
theorem Df.gs (h : Df T1 s io M B) : Nod.Gd s io.s := by
 rw [h.si]
 split
 ·exact .inl rfl
 ·exact .inr ((h.us _).2 ⟨by omega, by unfold cnt; rw [if_neg (by assumption)]; omega⟩)
theorem Df.wf (h : Df T1 s io M B) : Nod.Wf s io := by
 have h0 : ∀ k, Nod.ptP s.g 0 k = 0 := fun k => rfl
 refine ⟨h.dl, fun n hn => ?_, h.gs, .inl h.b, fun j hj => ?_, fun j _ => ?_, fun j k _ _ => ?_⟩
 ·rw [h.d n hn]
  exact h.gd n
 ·have := h.at_ (n := 6 + j) (by omega)
  unfold Nod.atP at this
  rw [if_neg (by omega), if_pos (by omega), Nat.add_sub_cancel_left] at this
  rw [this]
  exact h.gd _
 ·rw [h.b]
  exact .inl rfl
 ·rw [h.b, h0, h0]
  exact .inl rfl
theorem Df.pg (h : Df T1 s io M B) (hB : B.length ≤ 64 * M) {n : Nat} (hn : n < 1062) : Nod.rdPg s io n = pgB B n := by
 unfold Nod.rdPg
 rw [h.at_ hn]
 by_cases h1 : n < M
 ·rw [if_pos h1, if_neg (by have := @adr_lo n; omega)]
  exact h.g n h1
 ·rw [if_neg h1, if_pos rfl, pgB_zero (by omega)]
theorem Df.rd (h : Df T1 s io M B) (hB : B.length ≤ 64 * M) : ∀ (m off e : Nat), off ≤ e → e ≤ B.length → e - off ≤ 64 * m - off % 64 → Nod.rdS m s io off e = (B.drop off).take (e - off)
 | 0, off, e, h1, h2, h3 => by
  rw [show e - off = 0 by omega]
  rfl
 | m + 1, off, e, h1, h2, h3 => by
  have hM := h.hM
  by_cases hlt : off < e
  ·have e1 : Nod.rdS (m + 1) s io off e = Nod.rdB s io off e ++ Nod.rdS m s io (off + (Nod.rdH off e - off % 64)) e := if_pos hlt
   obtain ⟨r1, r2, r3⟩ := Nod.rdH_pos hlt
   have e2 : Nod.rdB s io off e = (B.drop off).take (Nod.rdH off e - off % 64) := by
    unfold Nod.rdB
    rw [h.pg hB (by omega)]
    apply List.ext_getElem?
    intro i
    rw [List.getElem?_drop, List.getElem?_take, List.getElem?_take]
    by_cases hi : i < Nod.rdH off e - off % 64
    ·rw [if_pos (by omega), if_pos hi, pgB_get _ (by omega), List.getElem?_drop, show 64 * (off / 64) + (off % 64 + i) = off + i by omega, List.getD_eq_getElem?_getD, List.getElem?_eq_getElem (by omega)]
     rfl
    ·rw [if_neg (by omega), if_neg hi]
   have hh : Nod.rdH off e = min 64 (off % 64 + (e - off)) := rfl
   rw [e1, e2, h.rd hB m _ _ r3 h2 (by omega)]
   apply List.ext_getElem?
   intro i
   rw [List.getElem?_append, List.getElem?_take, List.length_take, List.length_drop]
   by_cases hi : i < Nod.rdH off e - off % 64
   ·rw [if_pos (by omega), if_pos hi, List.getElem?_take, if_pos (by omega)]
   ·rw [if_neg (by omega), List.getElem?_take, List.getElem?_take, List.getElem?_drop, List.getElem?_drop]
    by_cases hi2 : i < e - off
    ·rw [if_pos (by omega), if_pos hi2]
     congr 1
     omega
    ·rw [if_neg (by omega), if_neg hi2]
  ·have e1 : Nod.rdS (m + 1) s io off e = [] := if_neg hlt
   rw [e1, show e - off = 0 by omega]
   rfl
end Nam
end
end Go.Proofs.YtcppkaphlcflgaaGreat
