import Derived.Test.YtcppkaphlcflgaaGreatNamM
namespace Go.Proofs.YtcppkaphlcflgaaGreat
open Lib (hid)
set_option maxRecDepth 100000
set_option maxHeartbeats 16000000
section
open Pol Spr
namespace Nam
variable {s : Ps} {io : Io} {M : Nat} {B T1 : List UInt8}
theorem cnt_adr : 3 + cnt M = adr M := by unfold adr cnt; split <;> split <;> omega
theorem Df.nx (h : Df T1 s io M B) (hM : M ≤ 29) : s.Nx (adr M) := by
 have hc : cnt M ≤ 30 := by unfold cnt; split <;> omega
 have htb := h.tb
 have hnp := h.np
 rw [← cnt_adr]
 refine ⟨by omega, by omega, fun hm => ?_, fun m h1 h2 => (h.us m).2 (by omega)⟩
 have := (h.us _).1 hm
 omega
theorem add_us {p a : Nat} : p ∈ (s.add a).us ↔ p ∈ s.us ∨ p = a := by
 show p ∈ s.us ++ [a] ↔ _
 rw [List.mem_append, List.mem_singleton]
theorem del_us {p a : Nat} : p ∈ (s.del a).us ↔ p ∈ s.us ∧ p ≠ a := by
 show p ∈ s.us.filter (· != a) ↔ _
 rw [List.mem_filter, bne_iff_ne]
theorem add_g {p a : Nat} : (s.add a).g p = if p = a then Pol.zeros else s.g p := rfl
theorem del_g {p a : Nat} : (s.del a).g p = if p = a then [] else s.g p := rfl
theorem put_g {p a : Nat} {x : List UInt8} : (s.put a x).g p = if p = a then x else s.g p := rfl
theorem no_pts {x : List UInt8} (hx : x.length = 64) (h : ∀ j, j < 32 → Pt.two x j = 0) : Pt.pts x = [] := by
 rw [List.eq_nil_iff_forall_not_mem]
 rintro ⟨j, v⟩ hm
 obtain ⟨h1, h2, h3⟩ := Nod.pts_mem hx hm
 exact h3 (by rw [h2, h j h1])
theorem some_pts {x : List UInt8} (hx : x.length = 64) {j : Nat} (hj : j < 32) (h : Pt.two x j ≠ 0) : Pt.pts x ≠ [] := by
 intro e
 unfold Pt.pts at e
 rw [hx, if_pos (show Ino.Sized (64 : Nat) from .inl rfl)] at e
 have : (j, Pt.two x j) ∈ Pt.ptsTo x (64 / 2) := Pt.mem_ptsTo.2 ⟨by omega, h, rfl⟩
 rw [e] at this
 cases this
theorem Df.s10 (h : Df T1 s io M B) (hM : 6 < M) : (s.g 10).length = 64 := h.ok.sz 10 (.inr ((h.us 10).2 ⟨by omega, by unfold cnt; rw [if_neg (by omega)]; omega⟩))
theorem Df.grow (h : Df T1 s io M B) (hM : M ≤ 29) (hB : B.length ≤ 64 * M) : Df T1 (Nod.ens s io M).1 (Nod.ens s io M).2.1 (M + 1) B ∧ (Nod.ens s io M).2.2 = adr M ∧ Nod.EnsOk s io M := by
 have hnx := h.nx hM
 have e1 := Ps.nx_of hnx
 have hat : Nod.atP s.g io M = 0 := by rw [h.at_ (by omega), if_neg (by omega)]
 have e : Nod.ens s io M = ((Nod.setS (s.add (adr M)) io M (adr M)).1, (Nod.setS (s.add (adr M)) io M (adr M)).2, adr M) := by
  have e := show Nod.ens s io M = ((Nod.setS (s.add s.nx) io M s.nx).1, (Nod.setS (s.add s.nx) io M s.nx).2, s.nx) from if_pos hat
  rw [e, e1]
 have hok := h.ok.add hnx
 have hz : pgB B M = Pol.zeros := pgB_zero hB
 have hdl := h.dl
 have hlen := h.len
 have hcn : cnt M ≤ 31 := by unfold cnt; split <;> omega
 have haM : adr M < 40 := by rw [← cnt_adr]; omega
 have hSet : Nod.SetOk (s.add s.nx) io M s.nx := by
  rw [e1]
  refine ⟨hdl, by omega, by omega, fun _ _ => ⟨?_, fun _ => ?_⟩, fun h38 => by omega⟩
  ·rcases h.gs with h1 | h1
   ·exact .inl h1
   ·exact .inr (add_us.2 (.inl h1))
  ·show (s.us ++ [adr M]).length < s.np
   rw [List.length_append, hlen, h.np, List.length_singleton]
   omega
 have hD : Df T1 (Nod.setS (s.add (adr M)) io M (adr M)).1 (Nod.setS (s.add (adr M)) io M (adr M)).2 (M + 1) B := by
  by_cases h6 : M < 6
  ·have es : Nod.setS (s.add (adr M)) io M (adr M) = (s.add (adr M), { io with d := io.d.set M (adr M) }) := if_pos h6
   rw [es]
   refine ⟨hok, h.tb, h.np, fun p => ?_, by omega, by rw [List.length_set]; exact hdl, fun k hk => ?_, ?_, h.b, fun h7 => by omega, fun j hj => ?_, (add_g.trans (if_neg (by have := @adr_lo M; omega))).trans h.t1⟩
   ·rw [add_us, h.us, ← cnt_adr]
    unfold cnt
    rw [if_pos (by omega), if_pos (by omega)]
    omega
   ·show (io.d.set M (adr M)).getD k 0 = _
    rw [getD_set (by omega)]
    by_cases e9 : k = M
    ·subst e9
     rw [if_pos rfl, if_pos (by omega)]
    ·rw [if_neg e9, h.d k hk]
     by_cases h9 : k < M
     ·rw [if_pos h9, if_pos (by omega)]
     ·rw [if_neg h9, if_neg (by omega)]
   ·show io.s = _
    rw [h.si, if_pos (by omega), if_pos (by omega)]
   ·show (s.add (adr M)).g (adr j) = _
    rw [add_g]
    by_cases e9 : j = M
    ·subst e9
     rw [if_pos rfl, hz]
    ·rw [if_neg (fun e8 => e9 (adr_inj e8)), h.g j (by omega)]
  ·have es : Nod.setS (s.add (adr M)) io M (adr M) = ((Nod.pointS (s.add (adr M)) io.s (M - 6) (adr M)).1, { io with s := (Nod.pointS (s.add (adr M)) io.s (M - 6) (adr M)).2 }) := by
    unfold Nod.setS
    rw [if_neg h6, if_pos (by omega)]
   rw [es]
   by_cases h7 : M = 6
   ·subst h7
    have ha : adr 6 = 9 := rfl
    have hs0 : io.s = 0 := h.si
    rw [ha] at hnx hok ⊢
    have hn2 : (s.add 9).Nx 10 := by
     have htb := h.tb
     have hnp := h.np
     have hc6 : cnt 6 = 6 := rfl
     refine ⟨show s.tb < 10 by omega, show 10 ≤ s.tb + s.np by omega, fun hm => ?_, fun m h1 h2 => ?_⟩
     ·rcases add_us.1 hm with h1 | h1
      ·have := (h.us _).1 h1
       omega
      ·omega
     ·have h1 : s.tb < m := h1
      refine add_us.2 ?_
      rcases Nat.lt_or_ge m 9 with h3 | h3
      ·exact .inl ((h.us m).2 (by omega))
      ·exact .inr (by omega)
    have hok2 := hok.add hn2
    have ep := Nod.pointS_eq (s := s.add 9) (p := 0) (k := 0) (tt := 9) (q := 10) (t := (s.add 9).add 10) (by rw [if_pos rfl, Ps.nx_of hn2]) (by rw [if_pos rfl, Ps.nx_of hn2])
    have eg : ((s.add 9).add 10).g 10 = Pol.zeros := add_g.trans (if_pos rfl)
    rw [eg, if_neg (pts_put Pol.zeros_len (by omega) (by omega) (by omega))] at ep
    rw [hs0, show (6 - 6 : Nat) = 0 from rfl, ep]
    have hth : ((s.add 9).add 10).There 10 := .inr (add_us.2 (.inr rfl))
    refine ⟨hok2.put hth (put_len64 Pol.zeros_len (by omega)), h.tb, h.np, fun p => ?_, by omega, hdl, fun k hk => ?_, rfl, h.b, fun _ j hj => ?_, fun j hj => ?_, by rw [put_g, if_neg (by omega), add_g, if_neg (by omega), add_g, if_neg (by omega)]; exact h.t1⟩
    ·show p ∈ ((s.add 9).add 10).us ↔ _
     rw [add_us, add_us, h.us]
     show ((3 ≤ p ∧ p < 3 + 6) ∨ p = 9) ∨ p = 10 ↔ 3 ≤ p ∧ p < 3 + 8
     omega
    ·show io.d.getD k 0 = _
     rw [h.d k hk, if_pos hk, if_pos (by omega)]
    ·show Pt.two ((((s.add 9).add 10).put 10 (Pt.put Pol.zeros 0 9)).g 10) j = _
     rw [put_g, if_pos rfl]
     by_cases e9 : j = 0
     ·subst e9
      rw [Pt.two_put (by rw [Pol.zeros_len]; omega) (by omega)]
      rfl
     ·rw [Pt.two_other (by rw [Pol.zeros_len]; omega) (by rw [Pol.zeros_len]; omega) e9, if_neg (by omega)]
      exact two_zeros hj
    ·show (((s.add 9).add 10).put 10 (Pt.put Pol.zeros 0 9)).g (adr j) = _
     rw [put_g, if_neg adr_ne, add_g, if_neg adr_ne, add_g]
     by_cases e9 : j = 6
     ·subst e9
      rw [if_pos ha, hz]
     ·rw [if_neg (fun e8 => e9 (adr_inj (e8.trans ha.symm))), h.g j (by omega)]
   ·have h8 : 6 < M := by omega
    have hs1 : io.s = 10 := by rw [h.si, if_neg (by omega)]
    have ep := Nod.pointS_eq (s := s.add (adr M)) (p := 10) (k := M - 6) (tt := adr M) (q := 10) (t := s.add (adr M)) (by rw [if_neg (by omega)]) (by rw [if_neg (by omega)])
    have eg : (s.add (adr M)).g 10 = s.g 10 := Pol.updN_ne (Ne.symm adr_ne)
    have hl10 := h.s10 h8
    rw [eg, if_neg (pts_put hl10 (by omega) (by have := @adr_lo M; omega) (by omega))] at ep
    rw [hs1, ep]
    have h10 : 10 ∈ s.us := (h.us 10).2 ⟨by omega, by unfold cnt; rw [if_neg (by omega)]; omega⟩
    have hth : (s.add (adr M)).There 10 := .inr (add_us.2 (.inl h10))
    refine ⟨hok.put hth (put_len64 hl10 (by omega)), h.tb, h.np, fun p => ?_, by omega, hdl, fun k hk => ?_, ?_, h.b, fun _ j hj => ?_, fun j hj => ?_, by rw [put_g, if_neg (by omega), add_g, if_neg (by have := @adr_lo M; omega)]; exact h.t1⟩
    ·show p ∈ (s.add (adr M)).us ↔ _
     rw [add_us, h.us, ← cnt_adr]
     unfold cnt
     rw [if_neg (by omega), if_neg (by omega)]
     omega
    ·show io.d.getD k 0 = _
     rw [h.d k hk, if_pos (by omega), if_pos (by omega)]
    ·show (10 : Nat) = _
     rw [if_neg (by omega)]
    ·show Pt.two (((s.add (adr M)).put 10 (Pt.put (s.g 10) (M - 6) (adr M))).g 10) j = _
     rw [put_g, if_pos rfl]
     by_cases e9 : j = M - 6
     ·subst e9
      rw [Pt.two_put (by omega) (by omega), show 6 + (M - 6) = M by omega, if_pos (by omega)]
     ·rw [Pt.two_other (by omega) (by omega) e9, h.pt h8 j hj]
      by_cases h9 : 6 + j < M
      ·rw [if_pos h9, if_pos (by omega)]
      ·rw [if_neg h9, if_neg (by omega)]
    ·show ((s.add (adr M)).put 10 (Pt.put (s.g 10) (M - 6) (adr M))).g (adr j) = _
     rw [put_g, if_neg adr_ne, add_g]
     by_cases e9 : j = M
     ·subst e9
      rw [if_pos rfl, hz]
     ·rw [if_neg (fun e8 => e9 (adr_inj e8)), h.g j (by omega)]
 refine ⟨by rw [e]; exact hD, by rw [e], h.wf, by omega, fun _ => ⟨by rw [hlen, h.np]; omega, hSet⟩, ?_, ?_⟩
 ·rw [e]
  exact .inr (hD.mem (by omega))
 ·rw [e]
  exact hD.dl
theorem Df.shrink {n : Nat} (h : Df T1 s io (n + 1) B) : Nod.Tr1Ok s io n ∧ Df T1 (Nod.tr1 s io n).1 (Nod.tr1 s io n).2 n B := by
 have hM := h.hM
 have hat : Nod.atP s.g io n = adr n := by rw [h.at_ (by omega), if_pos (by omega)]
 have hmem : adr n ∈ s.us := h.mem (by omega)
 have hdl := h.dl
 have htb : s.tb < adr n := by have := @adr_lo n; have := h.tb; omega
 have hok := h.ok.del htb
 have h10 : 6 ≤ n → 10 ∈ s.us := fun h6 => (h.us 10).2 ⟨by omega, by unfold cnt; rw [if_neg (by omega)]; omega⟩
 have hs10 : 6 ≤ n → io.s = 10 := fun h6 => by rw [h.si, if_neg (by omega)]
 have e : Nod.tr1 s io n = Nod.setS (s.del (adr n)) io n 0 := by unfold Nod.tr1; rw [hat]
 refine ⟨⟨h.wf, by omega, by rw [hat]; exact hmem, ?_⟩, ?_⟩
 ·rw [hat]
  refine ⟨hdl, by omega, by omega, fun h6 _ => ⟨.inr ?_, fun h0 => ?_⟩, fun h38 => by omega⟩
  ·rw [hs10 h6, del_us]
   exact ⟨h10 h6, Ne.symm adr_ne⟩
  ·have := hs10 h6
   omega
 ·rw [e]
  by_cases h6 : n < 6
  ·have es : Nod.setS (s.del (adr n)) io n 0 = (s.del (adr n), { io with d := io.d.set n 0 }) := if_pos h6
   rw [es]
   refine ⟨hok, h.tb, h.np, fun p => ?_, by omega, by rw [List.length_set]; exact hdl, fun k hk => ?_, ?_, h.b, fun h7 => by omega, fun j hj => ?_, (del_g.trans (if_neg (by have := @adr_lo n; omega))).trans h.t1⟩
   ·rw [del_us, h.us, ← cnt_adr]
    unfold cnt
    rw [if_pos (by omega), if_pos (by omega)]
    omega
   ·show (io.d.set n 0).getD k 0 = _
    rw [getD_set (by omega)]
    by_cases e9 : k = n
    ·subst e9
     rw [if_pos rfl, if_neg (by omega)]
    ·rw [if_neg e9, h.d k hk]
     by_cases h9 : k < n
     ·rw [if_pos (by omega), if_pos h9]
     ·rw [if_neg (by omega), if_neg h9]
   ·show io.s = _
    rw [h.si, if_pos (by omega), if_pos (by omega)]
   ·show (s.del (adr n)).g (adr j) = _
    rw [del_g, if_neg (fun e8 => by have := adr_inj e8; omega), h.g j (by omega)]
  ·have es : Nod.setS (s.del (adr n)) io n 0 = ((Nod.pointS (s.del (adr n)) io.s (n - 6) 0).1, { io with s := (Nod.pointS (s.del (adr n)) io.s (n - 6) 0).2 }) := by
    unfold Nod.setS
    rw [if_neg h6, if_pos (by omega)]
   rw [es, hs10 (by omega)]
   have ep := Nod.pointS_eq (s := s.del (adr n)) (p := 10) (k := n - 6) (tt := 0) (q := 10) (t := s.del (adr n)) (by rw [if_neg (by omega)]) (by rw [if_neg (by omega)])
   have eg : (s.del (adr n)).g 10 = s.g 10 := Pol.updN_ne (Ne.symm adr_ne)
   have hl10 := h.s10 (by omega)
   have hxl : (Pt.put (s.g 10) (n - 6) 0).length = 64 := put_len64 hl10 (by omega)
   have htw : ∀ j, j < 32 → Pt.two (Pt.put (s.g 10) (n - 6) 0) j = if 6 + j < n then adr (6 + j) else 0 := fun j hj => by
    by_cases e9 : j = n - 6
    ·subst e9
     rw [Pt.two_put (by omega) (by omega), if_neg (by omega)]
    ·rw [Pt.two_other (by omega) (by omega) e9, h.pt (by omega) j hj]
     by_cases h9 : 6 + j < n
     ·rw [if_pos (by omega), if_pos h9]
     ·rw [if_neg (by omega), if_neg h9]
   rw [eg] at ep
   by_cases h7 : n = 6
   ·subst h7
    rw [if_pos (no_pts hxl fun j hj => by rw [htw j hj, if_neg (by omega)])] at ep
    rw [ep]
    refine ⟨hok.del (show s.tb < 10 by have := h.tb; omega), h.tb, h.np, fun p => ?_, by omega, hdl, fun k hk => ?_, rfl, h.b, fun h9 => by omega, fun j hj => ?_, by rw [del_g, if_neg (by omega), del_g, if_neg (by have := @adr_lo 6; omega)]; exact h.t1⟩
    ·show p ∈ ((s.del (adr 6)).del 10).us ↔ _
     rw [del_us, del_us, h.us]
     show ((3 ≤ p ∧ p < 3 + 8) ∧ p ≠ 9) ∧ p ≠ 10 ↔ 3 ≤ p ∧ p < 3 + 6
     omega
    ·show io.d.getD k 0 = _
     rw [h.d k hk, if_pos (by omega), if_pos hk]
    ·show ((s.del (adr 6)).del 10).g (adr j) = _
     rw [del_g, if_neg adr_ne, del_g, if_neg (fun e8 => by have := adr_inj e8; omega), h.g j (by omega)]
   ·rw [if_neg (some_pts hxl (j := 0) (by omega) (by rw [htw 0 (by omega), if_pos (by omega)]; have := @adr_lo (6 + 0); omega))] at ep
    rw [ep]
    have hth : (s.del (adr n)).There 10 := .inr (del_us.2 ⟨h10 (by omega), Ne.symm adr_ne⟩)
    refine ⟨hok.put hth hxl, h.tb, h.np, fun p => ?_, by omega, hdl, fun k hk => ?_, ?_, h.b, fun _ j hj => ?_, fun j hj => ?_, by rw [put_g, if_neg (by omega), del_g, if_neg (by have := @adr_lo n; omega)]; exact h.t1⟩
    ·show p ∈ (s.del (adr n)).us ↔ _
     rw [del_us, h.us, ← cnt_adr]
     unfold cnt
     rw [if_neg (by omega), if_neg (by omega)]
     omega
    ·show io.d.getD k 0 = _
     rw [h.d k hk, if_pos (by omega), if_pos (by omega)]
    ·show (10 : Nat) = _
     rw [if_neg (by omega)]
    ·show Pt.two (((s.del (adr n)).put 10 (Pt.put (s.g 10) (n - 6) 0)).g 10) j = _
     rw [put_g, if_pos rfl]
     exact htw j hj
    ·show ((s.del (adr n)).put 10 (Pt.put (s.g 10) (n - 6) 0)).g (adr j) = _
     rw [put_g, if_neg adr_ne, del_g, if_neg (fun e8 => by have := adr_inj e8; omega), h.g j (by omega)]
theorem Df.put_ {B' x : List UInt8} {n : Nat} (h : Df T1 s io M B) (hn : n < M) (hx : x = pgB B' n) (ho : ∀ j, j < M → j ≠ n → pgB B' j = pgB B j) : Df T1 (s.put (adr n) x) io M B' := by
 refine ⟨h.ok.put (.inr (h.mem hn)) (by rw [hx, pgB_len]), h.tb, h.np, h.us, h.hM, h.dl, h.d, h.si, h.b, fun h6 j hj => ?_, fun j hj => ?_, by rw [put_g, if_neg (by have := @adr_lo n; omega)]; exact h.t1⟩
 ·rw [put_g, if_neg (Ne.symm adr_ne)]
  exact h.pt h6 j hj
 ·rw [put_g]
  by_cases e : j = n
  ·subst e
   rw [if_pos rfl, hx]
  ·rw [if_neg (fun e8 => e (adr_inj e8)), h.g j hj, ho j hj e]
theorem Df.tab {x : List UInt8} (h : Df T1 s io M B) (hx : x.length = 64) : Df x (s.put 1 x) io M B := by
 refine ⟨h.ok.put (.inl ⟨by omega, by rw [h.tb]; omega⟩) hx, h.tb, h.np, h.us, h.hM, h.dl, h.d, h.si, h.b, fun h6 j hj => ?_, fun j hj => ?_, by rw [put_g, if_pos rfl]⟩
 ·rw [put_g, if_neg (by omega)]
  exact h.pt h6 j hj
 ·rw [put_g, if_neg (by have := @adr_lo j; omega)]
  exact h.g j hj
end Nam
end
section
open Pol Spr
namespace Nam

variable {s : Ps} {io : Io} {M : Nat} {B T1 : List UInt8}
def setB (B : List UInt8) (k : Nat) (sl : List UInt8) : List UInt8 := B.take (16 * k) ++ sl ++ B.drop (16 * k + 16)
theorem setB_len {k : Nat} {sl : List UInt8} (hs : sl.length = 16) (hk : 16 * k ≤ B.length) : (setB B k sl).length = max B.length (16 * k + 16) := by
 unfold setB
 rw [List.length_append, List.length_append, List.length_take, List.length_drop, hs]
 omega
theorem setB_get {k : Nat} {sl : List UInt8} (hs : sl.length = 16) (hk : 16 * k ≤ B.length) (i : Nat) : (setB B k sl).getD i 0 = if 16 * k ≤ i ∧ i < 16 * k + 16 then sl.getD (i - 16 * k) 0 else B.getD i 0 := by
 unfold setB
 rw [List.getD_eq_getElem?_getD, List.getElem?_append, List.getElem?_append, List.length_append, List.length_take, hs]
 have hm : min (16 * k) B.length = 16 * k := by omega
 rw [hm]
 by_cases h1 : i < 16 * k
 ·rw [if_pos (by omega), if_pos h1, if_neg (by omega), List.getElem?_take, if_pos h1, List.getD_eq_getElem?_getD]
 ·by_cases h2 : i < 16 * k + 16
  ·rw [if_pos h2, if_neg h1, if_pos (by omega), List.getD_eq_getElem?_getD]
  ·rw [if_neg h2, if_neg (by omega), List.getElem?_drop, List.getD_eq_getElem?_getD]
   congr 2
   omega
theorem pgB_setB {k j : Nat} {sl : List UInt8} (hs : sl.length = 16) (hk : 16 * k ≤ B.length) (hj : j ≠ k / 4) : pgB (setB B k sl) j = pgB B j := by
 apply List.ext_getElem?
 intro i
 rcases Nat.lt_or_ge i 64 with h1 | h1
 ·rw [pgB_get _ h1, pgB_get _ h1, setB_get hs hk, if_neg (by omega)]
 ·rw [List.getElem?_eq_none (by rw [pgB_len]; exact h1), List.getElem?_eq_none (by rw [pgB_len]; exact h1)]
theorem wrX_slot {k : Nat} {sl : List UInt8} (hs : sl.length = 16) (hk : 16 * k ≤ B.length) : Nod.wrX (pgB B (k / 4)) (16 * k) sl = pgB (setB B k sl) (k / 4) := by
 have hw : Nod.wrK (16 * k) sl = 16 := by unfold Nod.wrK; rw [hs]; omega
 apply List.ext_getElem?
 intro i
 rcases Nat.lt_or_ge i 64 with h1 | h1
 ·rw [pgB_get _ h1, setB_get hs hk]
  unfold Nod.wrX
  rw [hw, List.take_of_length_le (l := sl) (by omega), List.getElem?_append, List.getElem?_append, List.length_append, List.length_take, pgB_len, hs]
  have hm : min (16 * k % 64) 64 = 16 * k % 64 := by omega
  rw [hm]
  by_cases h2 : i < 16 * k % 64
  ·rw [if_pos (by omega), if_pos h2, if_neg (by omega), List.getElem?_take, if_pos h2, pgB_get _ h1]
  ·by_cases h3 : i < 16 * k % 64 + 16
   ·rw [if_pos h3, if_neg h2, if_pos (by omega), List.getD_eq_getElem?_getD, show 64 * (k / 4) + i - 16 * k = i - 16 * k % 64 by omega, List.getElem?_eq_getElem (by omega)]
    rfl
   ·rw [if_neg h3, if_neg (by omega), List.getElem?_drop, show 16 * k % 64 + 16 + (i - (16 * k % 64 + 16)) = i by omega, pgB_get _ h1]
 ·rw [List.getElem?_eq_none (by rw [Nod.wrX_len (pgB_len _ _)]; exact h1), List.getElem?_eq_none (by rw [pgB_len]; exact h1)]
theorem Df.slot (h : Df T1 s io M B) {k : Nat} {sl : List UInt8} (hs : sl.length = 16) (hk : 16 * k ≤ B.length) (hB : B.length ≤ 64 * M) (hkM : k / 4 ≤ M) (hM : M ≤ 29) :
  Nod.WrOk 1 s io (16 * k) sl ∧ Df T1 (Nod.wrS 1 s io (16 * k) sl).1 (Nod.wrS 1 s io (16 * k) sl).2 (max M (k / 4 + 1)) (setB B k sl) := by
 have hne : sl ≠ [] := fun e => by rw [e] at hs; cases hs
 have hw : Nod.wrK (16 * k) sl = 16 := by unfold Nod.wrK; rw [hs]; omega
 have e1 : Nod.wrS 1 s io (16 * k) sl = Nod.wr1 s io (16 * k) sl := if_neg hne
 have hq : 16 * k / 64 = k / 4 := by omega
 obtain ⟨E, hE1, hE2⟩ : ∃ _ : Nod.EnsOk s io (k / 4), (Nod.ens s io (k / 4)).2.2 = adr (k / 4) ∧ Df T1 (Nod.ens s io (k / 4)).1 (Nod.ens s io (k / 4)).2.1 (max M (k / 4 + 1)) B := by
  rcases Nat.lt_or_ge (k / 4) M with h1 | h1
  ·have hat : Nod.atP s.g io (k / 4) = adr (k / 4) := by rw [h.at_ (by omega), if_pos h1]
   have hne0 : Nod.atP s.g io (k / 4) ≠ 0 := by rw [hat]; have := @adr_lo (k / 4); omega
   have e : Nod.ens s io (k / 4) = (s, io, Nod.atP s.g io (k / 4)) := if_neg hne0
   refine ⟨⟨h.wf, by omega, fun h9 => absurd h9 hne0, ?_, ?_⟩, ?_, ?_⟩
   ·rw [e]
    show s.There (Nod.atP s.g io (k / 4))
    rw [hat]
    exact .inr (h.mem h1)
   ·rw [e]; exact h.dl
   ·rw [e]; exact hat
   ·rw [e, show max M (k / 4 + 1) = M by omega]; exact h
  ·have h2 : k / 4 = M := by omega
   rw [h2]
   obtain ⟨g1, g2, g3⟩ := h.grow hM hB
   exact ⟨g3, g2, by rw [show max M (M + 1) = M + 1 by omega]; exact g1⟩
 have hlt : k / 4 < max M (k / 4 + 1) := by omega
 have hg : (Nod.ens s io (k / 4)).1.g (adr (k / 4)) = pgB B (k / 4) := hE2.g _ hlt
 have e2 : Nod.wr1 s io (16 * k) sl = ((Nod.ens s io (k / 4)).1.put (adr (k / 4)) (Nod.wrX (pgB B (k / 4)) (16 * k) sl), (Nod.ens s io (k / 4)).2.1) := by
  unfold Nod.wr1
  rw [hq, hE1, hg]
 refine ⟨.inr ⟨by rw [hq]; exact E, ?_⟩, ?_⟩
 ·show sl.drop (Nod.wrK (16 * k) sl) = []
  rw [hw]
  exact List.drop_eq_nil_of_le (by omega)
 ·rw [e1, e2]
  exact hE2.put_ hlt (wrX_slot hs hk) fun j _ hj => pgB_setB hs hk hj
def dn (K : Nat) : Nat → List Nat
 | 0 => []
 | m + 1 => if K ≤ m then m :: dn K m else []
theorem dn_le {K : Nat} : ∀ {m x : Nat}, x ∈ dn K m → K ≤ x ∧ x < m
 | 0, _, h => by cases h
 | m + 1, x, h => by
  unfold dn at h
  split at h
  ·rcases List.mem_cons.1 h with rfl | h1
   ·exact ⟨by assumption, by omega⟩
   ·have := dn_le h1
    omega
  ·cases h
theorem rev_range (K : Nat) : ∀ m, (List.range m).reverse = dn K m ++ (List.range (min K m)).reverse
 | 0 => by rw [Nat.min_zero]; rfl
 | m + 1 => by
  unfold dn
  by_cases h : K ≤ m
  ·rw [if_pos h, List.range_succ, List.reverse_append, rev_range K m, show min K (m + 1) = min K m by omega]
   rfl
  ·rw [if_neg h, show min K (m + 1) = m + 1 by omega]
   rfl
theorem Df.down (K : Nat) : ∀ {M : Nat} {s : Ps} {io : Io}, Df T1 s io M B → Nod.TrOk (dn K M) s io ∧ Df T1 (Nod.trL (dn K M) s io).1 (Nod.trL (dn K M) s io).2 (min K M) B
 | 0, s, io, h => by
  rw [Nat.min_zero]
  exact ⟨h.wf, h⟩
 | m + 1, s, io, h => by
  unfold dn
  by_cases hk : K ≤ m
  ·rw [if_pos hk]
   obtain ⟨h1, h2⟩ := h.shrink
   obtain ⟨h3, h4⟩ := h2.down K
   exact ⟨⟨h1, h3⟩, by rw [show min K (m + 1) = min K m by omega]; exact h4⟩
  ·rw [if_neg hk, show min K (m + 1) = m + 1 by omega]
   exact ⟨h.wf, h⟩
theorem pgB_take {tt j : Nat} : pgB (B.take tt) j = if 64 * (j + 1) ≤ tt then pgB B j else if tt ≤ 64 * j then Pol.zeros else Nod.trX (pgB B j) tt := by
 by_cases h1 : 64 * (j + 1) ≤ tt
 ·rw [if_pos h1]
  apply List.ext_getElem?
  intro i
  rcases Nat.lt_or_ge i 64 with h2 | h2
  ·rw [pgB_get _ h2, pgB_get _ h2, List.getD_eq_getElem?_getD, List.getElem?_take, if_pos (by omega), List.getD_eq_getElem?_getD]
  ·rw [List.getElem?_eq_none (by rw [pgB_len]; exact h2), List.getElem?_eq_none (by rw [pgB_len]; exact h2)]
 ·rw [if_neg h1]
  by_cases h2 : tt ≤ 64 * j
  ·rw [if_pos h2]
   exact pgB_zero (by rw [List.length_take]; omega)
  ·rw [if_neg h2]
   have ht : tt % 64 = tt - 64 * j := by omega
   apply List.ext_getElem?
   intro i
   rcases Nat.lt_or_ge i 64 with h3 | h3
   ·unfold Nod.trX
    rw [pgB_get _ h3, List.getD_eq_getElem?_getD, List.getElem?_take, List.getElem?_append, List.length_take, pgB_len, ht]
    by_cases h4 : 64 * j + i < tt
    ·rw [if_pos h4, if_pos (by omega), List.getElem?_take, if_pos (by omega), pgB_get _ h3, List.getD_eq_getElem?_getD]
    ·rw [if_neg h4, if_neg (by omega), List.getElem?_replicate, if_pos (by omega)]
     rfl
   ·rw [List.getElem?_eq_none (by rw [pgB_len]; exact h3), List.getElem?_eq_none (by rw [Nod.trX_len (pgB_len _ _)]; exact h3)]
theorem Df.cut {z tt : Nat} (h : Df T1 s io ((tt + 63) / 64) B) (hz : z = B.length) (ht : tt ≤ B.length) : Df T1 (Nod.trT s io z tt) io ((tt + 63) / 64) (B.take tt) := by
 have hM := h.hM
 by_cases hm : tt % 64 ≠ 0 ∧ tt < z
 ·have hlt : tt / 64 < (tt + 63) / 64 := by omega
  have hat : Nod.atP s.g io (tt / 64) = adr (tt / 64) := by rw [h.at_ (by omega), if_pos hlt]
  have e : Nod.trT s io z tt = s.put (adr (tt / 64)) (Nod.trX (pgB B (tt / 64)) tt) := by
   unfold Nod.trT
   rw [hat, if_pos ⟨by have := @adr_lo (tt / 64); omega, hm⟩, h.g _ hlt]
  rw [e]
  refine h.put_ hlt ?_ fun j hj hne => ?_
  ·rw [pgB_take, if_neg (by omega), if_neg (by omega)]
  ·rw [pgB_take, if_pos (by omega)]
 ·have e : Nod.trT s io z tt = s := by
   unfold Nod.trT
   exact if_neg fun h9 => hm h9.2
  rw [e]
  by_cases h2 : tt < z
  ·have h3 : tt % 64 = 0 := by
    by_cases h4 : tt % 64 = 0
    ·exact h4
    ·exact absurd ⟨h4, h2⟩ hm
   exact ⟨h.ok, h.tb, h.np, h.us, h.hM, h.dl, h.d, h.si, h.b, h.pt, fun j hj => by rw [h.g j hj, pgB_take, if_pos (by omega)], h.t1⟩
  ·rw [List.take_of_length_le (by omega)]
   exact h
theorem numsI_cons (x : Nat × Nat × Nat) (l : List (Nat × Nat × Nat)) : numsI (x :: l) = if x.2.2 = 0 then (x.1 : Int) :: numsI l else numsI l := by
 unfold numsI
 by_cases h : x.2.2 = 0
 ·rw [if_pos h, List.filter_cons_of_pos (by simp [h])]
  rfl
 ·rw [if_neg h, List.filter_cons_of_neg (by simp [h])]
theorem numsI_flat {α : Type} (l : List α) (g : α → List (Nat × Nat × Nat)) (e : α → List Int) (h : ∀ x ∈ l, numsI (g x) = e x) : numsI (l.flatMap g) = l.flatMap e := by
 induction l with
 | nil => rfl
 | cons x t ih => rw [List.flatMap_cons, List.flatMap_cons, numsI_app, h x (by simp), ih fun y hy => h y (by simp [hy])]
theorem flat_if (M a : Nat) : ∀ n, (List.range n).flatMap (fun j => if a + j < M then [((a + j : Nat) : Int)] else []) = ((List.range (min n (M - a))).map fun j => ((a + j : Nat) : Int))
 | 0 => by rw [Nat.zero_min]; rfl
 | n + 1 => by
  rw [List.range_succ, List.flatMap_append, flat_if M a n]
  by_cases h : a + n < M
  ·rw [show min (n + 1) (M - a) = n + 1 by omega, show min n (M - a) = n by omega, List.range_succ, List.map_append, List.flatMap_cons, if_pos h]
   rfl
  ·rw [show min (n + 1) (M - a) = min n (M - a) by omega, List.flatMap_cons, if_neg h]
   exact List.append_nil _
theorem Df.nums (h : Df T1 s io M B) : numsI (Nod.yl s.g io) = (List.range M).map fun n : Nat => (n : Int) := by
 have h1 : numsI ((List.range 6).flatMap (fun k => Nod.ptrs s.g 0 (io.d.getD k 0) k)) = (List.range (min 6 M)).map fun j => ((0 + j : Nat) : Int) := by
  rw [numsI_flat (e := fun j => if 0 + j < M then [((0 + j : Nat) : Int)] else []), flat_if M 0 6]
  ·rfl
  ·intro k hk
   rw [h.d k (List.mem_range.1 hk), Nat.zero_add]
   unfold Nod.ptrs
   by_cases h9 : k < M
   ·rw [if_pos h9, if_neg (by have := @adr_lo k; omega), if_pos h9]
    rfl
   ·rw [if_neg h9, if_pos rfl, if_neg h9]
    rfl
 have h2 : numsI (Nod.ptrs s.g 1 io.s 6) = (List.range (min 32 (M - 6))).map fun j => ((6 + j : Nat) : Int) := by
  rw [h.si]
  by_cases h9 : M ≤ 6
  ·rw [if_pos h9, show min 32 (M - 6) = 0 by omega]
   rfl
  ·rw [if_neg h9]
   have hl := h.s10 (by omega)
   have e : Nod.ptrs s.g 1 10 6 = (6, 10, 1) :: (List.range 32).flatMap fun j => if Pt.two (s.g 10) j = 0 then [] else Nod.ptrs s.g 0 (Pt.two (s.g 10) j) (6 + j) := by
    have e1 : Nod.ptrs s.g 1 10 6 = (6, 10, 1) :: (Pt.pts (s.g 10)).flatMap fun x => Nod.ptrs s.g 0 x.2 (6 + x.1 * 1) := rfl
    have e2 : Pt.pts (s.g 10) = Pt.ptsTo (s.g 10) 32 := by
     unfold Pt.pts
     rw [hl, if_pos (show Ino.Sized (64 : Nat) from .inl rfl)]
    rw [e1, e2, Spr.pts_flat]
    simp only [Nat.mul_one]
   rw [e, numsI_cons, if_neg (by simp), numsI_flat (e := fun j => if 6 + j < M then [((6 + j : Nat) : Int)] else []), flat_if M 6 32]
   intro j hj
   rw [h.pt (by omega) j (List.mem_range.1 hj)]
   unfold Nod.ptrs
   by_cases h8 : 6 + j < M
   ·rw [if_pos h8, if_pos h8, if_neg (by have := @adr_lo (6 + j); omega), if_neg (by have := @adr_lo (6 + j); omega)]
    rfl
   ·rw [if_neg h8, if_neg h8, if_pos rfl]
    rfl
 have h3 : numsI (Nod.ptrs s.g 2 io.b 38) = [] := by rw [h.b]; rfl
 unfold Nod.yl
 rw [numsI_app, numsI_app, h1, h2, h3, List.append_nil]
 have hM := h.hM
 by_cases h9 : M ≤ 6
 ·rw [show min 32 (M - 6) = 0 by omega, show min 6 M = M by omega]
  simp
 ·have e : List.range M = List.range 6 ++ (List.range (M - 6)).map (6 + ·) := by
   conv => lhs; rw [show M = 6 + (M - 6) by omega, List.range_add]
  rw [e, show min 32 (M - 6) = M - 6 by omega, show min 6 M = 6 by omega, List.map_append, List.map_map]
  simp only [Nat.zero_add]
  rfl
end Nam
end
end Go.Proofs.YtcppkaphlcflgaaGreat
