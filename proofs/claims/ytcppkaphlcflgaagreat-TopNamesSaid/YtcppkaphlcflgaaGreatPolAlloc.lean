import Derived.Test.YtcppkaphlcflgaaGreatPolM
import Derived.Test.YtcppkaphlcflgaaGreatFtlRead
import Derived.Deep.DeepCutAuto
namespace Go.Proofs.YtcppkaphlcflgaaGreat
open Lib (hid)
set_option maxRecDepth 100000
set_option maxHeartbeats 16000000
section
open Go.RowKit Go.Maps Go.ChangeMaps Pol
variable {NB B P n : Nat} {Q : Nat → Prop} {w w' : World} {f : Fm} {s : Ps}

theorem PlM.drew (h : PlM NB B Q w P f s) : PlM NB B Q w.drew P f s := h.on (below_drew w)
theorem polSize_calls (h : PlM NB B Q w P f s) : Calls Tryz.prog 30 #[.pointer (some ⟨P, 0, none⟩)] w fun e w' => e = .returned (.int .i64 64) ∧ w = w' := by
 have c5 := h.c5
 clear h
 go_enter Tryz.func30, Tryz.ntmps30
 go_wp2
 go_ret
 exact ⟨rfl, rfl⟩
theorem polGiven_calls (h : PlM NB B Q w P f s) (h2 : s.tb < n) (hn : n ≤ s.tb + s.np) : Calls Tryz.prog 28 #[.pointer (some ⟨P, 0, none⟩), .int .i64 (n : Int)] w fun e w' => e = .returned (.bool true) ∧ Below w.heap.size w w' := by
 have HP := hid h.drew
 have hbd := h.bd
 have g1 : (s.tb : Int) + 1 ≤ (n : Int) := by omega
 have g2 := IntWalk.i64_in ((n : Int) - ((s.tb : Int) + 1)) ⟨by omega, by omega⟩
 have g3 : (n : Int) - ((s.tb : Int) + 1) < (s.np : Int) := by omega
 have HB := hid (below_drew w)
 clear h hbd
 go_enter Tryz.func28, Tryz.ntmps28
 go_wp2_with fail
 refine wp_region_noPanic ?_
 refine wp_region_held_drew (S := (fun W' => PlM NB B Q W' P f s)) (by kernel_rfl) HP.out (fun hS0 => ?_)
 refine tk 0 ((.int .i64 (n : Int))) rfl (fun _ _ => rfl) ?_
 try simp only [layR]
 refine tk 1 ((.pointer (some ⟨P, 0, none⟩))) rfl (fun _ _ => rfl) ?_
 try simp only [layR]
 refine tk 2 ((.pointer (some ⟨P, 0, none⟩))) rfl (fun W hSw => ?_) ?_
 ·skip
  go_simp
 try simp only [layR]
 refine tk 3 ((.pointer (some ⟨P, 1, none⟩))) rfl (fun W hSw => ?_) ?_
 ·skip
  go_simp
 try simp only [layR]
 refine tk 4 ((.pointer (some ⟨P, 2, none⟩))) rfl (fun W hSw => ?_) ?_
 ·skip
  go_simp
 try simp only [layR]
 refine tk 5 ((.int .i64 ((s.tb : Int) + 1))) rfl (fun W hSw => ?_) ?_
 ·have y9 := hSw.c2
  go_simp
 try simp only [layR]
 refine tk 6 ((.bool true)) rfl (fun W hSw => ?_) ?_
 ·skip
  go_simp
 try simp only [layR]
 refine tk 7 ((.bool true)) rfl (fun _ _ => rfl) ?_
 try simp only [layR]
 refine tk 8 ((.int .i64 (n : Int))) rfl (fun _ _ => rfl) ?_
 try simp only [layR]
 refine tk 9 ((.pointer (some ⟨P, 0, none⟩))) rfl (fun _ _ => rfl) ?_
 try simp only [layR]
 refine tk 10 ((.pointer (some ⟨P, 0, none⟩))) rfl (fun W hSw => ?_) ?_
 ·skip
  go_simp
 try simp only [layR]
 refine tk 11 ((.pointer (some ⟨P, 1, none⟩))) rfl (fun W hSw => ?_) ?_
 ·skip
  go_simp
 try simp only [layR]
 refine tk 12 ((.pointer (some ⟨P, 2, none⟩))) rfl (fun W hSw => ?_) ?_
 ·skip
  go_simp
 try simp only [layR]
 refine tk 13 ((.int .i64 ((s.tb : Int) + 1))) rfl (fun W hSw => ?_) ?_
 ·have y9 := hSw.c2
  go_simp
 try simp only [layR]
 refine tk 14 ((.int .i64 ((n : Int) - ((s.tb : Int) + 1)))) rfl (fun W hSw => ?_) ?_
 ·skip
  go_simp
 try simp only [layR]
 refine tk 15 ((.pointer (some ⟨P, 0, none⟩))) rfl (fun _ _ => rfl) ?_
 try simp only [layR]
 refine tk 16 ((.pointer (some ⟨P, 0, none⟩))) rfl (fun W hSw => ?_) ?_
 ·skip
  go_simp
 try simp only [layR]
 refine tk 17 ((.pointer (some ⟨P, 1, none⟩))) rfl (fun W hSw => ?_) ?_
 ·skip
  go_simp
 try simp only [layR]
 refine tk 18 ((.pointer (some ⟨P, 3, none⟩))) rfl (fun W hSw => ?_) ?_
 ·skip
  go_simp
 try simp only [layR]
 refine tk 19 ((.int .i64 (s.np : Int))) rfl (fun W hSw => ?_) ?_
 ·have y9 := hSw.c3
  go_simp
 try simp only [layR]
 refine tk 20 ((.bool true)) rfl (fun W hSw => ?_) ?_
 ·skip
  go_simp
 try simp only [layR]
 refine tk 21 ((.bool true)) rfl (fun W hSw => ?_) ?_
 ·skip
  go_simp
 try simp only [layR]
 refine tk 22 ((.bool true)) rfl (fun _ _ => rfl) ?_
 try simp only [layR]
 refine wpAnyH_done (by kernel_rfl) ?_ _
 refine NoPanic.normal ?_
 clear hS0
 go_wp2
 go_ret
 exact ⟨rfl, HB.out⟩
theorem polThere_tab (h : PlM NB B Q w P f s) (h1 : 1 ≤ n) (hn : n ≤ s.tb) : Calls Tryz.prog 76 #[.pointer (some ⟨P, 0, none⟩), .int .i64 (n : Int)] w fun e w' => e = .returned (.bool true) ∧ w = w' := by
 have c1 := h.c1
 have g1 : (1 : Int) ≤ (n : Int) := by omega
 have g2 : (n : Int) ≤ (s.tb : Int) := by omega
 clear h h1 hn
 go_enter Tryz.func76, Tryz.ntmps76
 go_wp2
 go_ret
 exact ⟨rfl, rfl⟩
theorem polThere_us (h : PlM NB B Q w P f s) (hn : s.tb < n) (h9 : n < 4294967296) : Calls Tryz.prog 76 #[.pointer (some ⟨P, 0, none⟩), .int .i64 (n : Int)] w fun e w' => e = .returned (.bool (decide (n ∈ s.us))) ∧ w = w' := by
 have c1 := h.c1
 obtain ⟨U, D, dl, R, hc, _⟩ := id h
 have c6 : w.cell? ⟨P, 6, none⟩ = some (.map (some U)) := hc.hP.cellv rfl
 obtain ⟨v, hl⟩ := hc.used h9
 obtain ⟨bb, hbb⟩ : ∃ b, b = decide (n ∈ s.us) := ⟨_, rfl⟩
 rw [← hbb] at hl ⊢
 have g1 : (1 : Int) ≤ (n : Int) := by omega
 have g2 : ¬ (n : Int) ≤ (s.tb : Int) := by omega
 clear h hn hc hbb
 go_enter Tryz.func76, Tryz.ntmps76
 go_wp2
 go_ret
 exact ⟨rfl, rfl⟩
theorem polThere_yes (h : PlM NB B Q w P f s) (hn : s.There n) (h9 : n < 4294967296) : Calls Tryz.prog 76 #[.pointer (some ⟨P, 0, none⟩), .int .i64 (n : Int)] w fun e w' => e = .returned (.bool true) ∧ w = w' := by
 rcases hn with ⟨h1, h2⟩ | h1
 ·exact polThere_tab h h1 h2
 ·have := polThere_us h (h.ok.us n h1).1 h9
  rw [decide_eq_true h1] at this
  exact this
theorem there_lt (h : PlM NB B Q w P f s) (hn : s.There n) : 1 ≤ n ∧ n < 8192 ∧ n ≤ s.tb + s.np := by
 have hb := h.bd
 rcases hn with ⟨h1, h2⟩ | h1
 ·omega
 ·have := h.ok.us n h1
  omega
theorem polAsked_calls (h : PlM NB B Q w P f s) (hn : s.There n) : Calls Tryz.prog 78 #[.pointer (some ⟨P, 0, none⟩), .int .i64 (n : Int)] w fun e w' => e = .returned (.int .i64 0) ∧ w = w' := by
 have hT := hid (polThere_yes h hn (by have := there_lt h hn; omega))
 clear h
 go_enter Tryz.func78, Tryz.ntmps78
 go_wp2_with fail
 refine hT.out.mono ?_
 rintro e w_ ⟨rfl, rfl⟩
 go_wp2
 go_ret
 exact ⟨rfl, rfl⟩
theorem PlM.run_len (h : PlM NB B Q w P f s) : ∃ U, w.cell? ⟨P, 6, none⟩ = some (.map (some U)) ∧ ∀ ty, (Builtin.len_ #[71] ty #[.map (some U)]).run Tryz.prog w = .ok (.int .i64 (s.us.length : Int)) w := by
 obtain ⟨U, D, dl, R, hc, _⟩ := h
 obtain ⟨es, clock, h1, h2⟩ := hc.hU.size
 refine ⟨U, hc.hP.cellv rfl, fun ty => ?_⟩
 rw [← h2]
 simp [Builtin.len_, run_underlying Tryz.underlying71, MapKept.run_getObj_map h1, goInt]
theorem polRoom_calls (h : PlM NB B Q w P f s) : Calls Tryz.prog 11 #[.pointer (some ⟨P, 0, none⟩)] w fun e w' => e = .returned (.int .i64 ((s.np : Int) - (s.us.length : Int))) ∧ Below w.heap.size w w' := by
 obtain ⟨U, c6, hl⟩ := h.drew.run_len
 have hbd := h.bd
 have hul : s.us.length ≤ s.np := by
  have h1 := Ps.sub_len (l := s.us) (l' := (List.range s.np).map fun i => s.tb + 1 + i) h.ok.nd fun x hx => by
   have := h.ok.us x hx
   exact List.mem_map.2 ⟨x - s.tb - 1, List.mem_range.2 (by omega), by omega⟩
  rw [List.length_map, List.length_range] at h1
  exact h1
 have HS := hid (show w.drew.cell? ⟨P, 3, none⟩ = some (.int .i64 (s.np : Int)) ∧ w.drew.cell? ⟨P, 6, none⟩ = some (.map (some U)) ∧ ∀ ty, (Builtin.len_ #[71] ty #[.map (some U)]).run Tryz.prog w.drew = .ok (.int .i64 (s.us.length : Int)) w.drew from ⟨h.drew.c3, c6, hl⟩)
 have g1 := IntWalk.i64_in ((s.np : Int) - (s.us.length : Int)) ⟨by omega, by omega⟩
 have HB := hid (below_drew w)
 clear h hbd c6 hl hul
 go_enter Tryz.func11, Tryz.ntmps11
 go_wp2_with fail
 refine wp_region_noPanic ?_
 refine wp_region_held_drew (S := (fun W' => W'.cell? ⟨P, 3, none⟩ = some (.int .i64 (s.np : Int)) ∧ W'.cell? ⟨P, 6, none⟩ = some (.map (some U)) ∧ ∀ ty, (Builtin.len_ #[71] ty #[.map (some U)]).run Tryz.prog W' = .ok (.int .i64 (s.us.length : Int)) W')) (by kernel_rfl) HS.out (fun hS0 => ?_)
 refine tk 0 ((.pointer (some ⟨P, 0, none⟩))) rfl (fun _ _ => rfl) ?_
 try simp only [layR]
 refine tk 1 ((.pointer (some ⟨P, 0, none⟩))) rfl (fun W hSw => ?_) ?_
 ·skip
  go_simp
 try simp only [layR]
 refine tk 2 ((.pointer (some ⟨P, 1, none⟩))) rfl (fun W hSw => ?_) ?_
 ·skip
  go_simp
 try simp only [layR]
 refine tk 3 ((.pointer (some ⟨P, 3, none⟩))) rfl (fun W hSw => ?_) ?_
 ·skip
  go_simp
 try simp only [layR]
 refine tk 4 ((.int .i64 (s.np : Int))) rfl (fun W hSw => ?_) ?_
 ·have y9 := hSw.1
  go_simp
 try simp only [layR]
 refine tk 5 ((.pointer (some ⟨P, 0, none⟩))) rfl (fun _ _ => rfl) ?_
 try simp only [layR]
 refine tk 6 ((.pointer (some ⟨P, 0, none⟩))) rfl (fun W hSw => ?_) ?_
 ·skip
  go_simp
 try simp only [layR]
 refine tk 7 ((.pointer (some ⟨P, 6, none⟩))) rfl (fun W hSw => ?_) ?_
 ·skip
  go_simp
 try simp only [layR]
 refine tk 8 ((.map (some U))) rfl (fun W hSw => ?_) ?_
 ·have y9 := hSw.2.1
  go_simp
 try simp only [layR]
 refine tk 9 ((.int .i64 (s.us.length : Int))) rfl (fun W hSw => ?_) ?_
 ·have y9 := hSw.2.2
  go_simp
 try simp only [layR]
 refine tk 10 ((.int .i64 ((s.np : Int) - (s.us.length : Int)))) rfl (fun W hSw => ?_) ?_
 ·skip
  go_simp
 try simp only [layR]
 refine tk 11 ((.int .i64 ((s.np : Int) - (s.us.length : Int)))) rfl (fun _ _ => rfl) ?_
 try simp only [layR]
 refine wpAnyH_done (by kernel_rfl) ?_ _
 refine NoPanic.normal ?_
 clear hS0
 go_wp2
 go_ret
 exact ⟨rfl, HB.out⟩
end
section
open Go.RowKit Ftl

section
variable {NB B n : Nat} {R : Nat → Prop} {w : World} {f : Fm}
def RdpO (NB B : Nat) (R : Nat → Prop) (f : Fm) (d : List UInt8) (w : World) (e : Ending) (w' : World) : Prop :=
 (∃ v, e = .returned (.tuple #[v, .int .i64 0]) ∧ Own byteV 5 w' w.heap.size v d) ∧ FtM NB B R w' f ∧ Kq R w w'
theorem ftReadO_calls (h : FtM NB B R w f) (hc : Fc NB f) (p : Nat) (hp1 : 1 ≤ p) (hp2 : p + 2 < (NB - 3) * 8) (hp3 : p < 8192) (x : En) (hx : curE f p = some x) :
  Calls Tryz.prog 79 #[.pointer (some ⟨f.F, 0, none⟩), .int .u32 (p : Int)] w (RdpO NB B R f x.d w) := by
 have hnb := hc.fi.nb
 have hlg := flogical_calls h hc.fi p (by omega)
 rw [if_neg (by omega)] at hlg
 have HLg := hid hlg
 have HH := hid h
 have HAt := hid (fun (W : World) (hW : FtM NB B R W f) => fat_calls hW p (by omega))
 rw [hx] at HAt
 have hm := curE_mem hx
 have hgp := hc.fi.pg x hm
 have hok := hc.fi.ok x hm
 have hxb := hc.fi.lt hm
 have hchl : chL ((f.g.bl x.b).pgs x.i) = Tg.page x.t x.d := by rw [hgp.pg]; rfl
 have hrd := fun (W : World) (hW : FtM NB B R W f) => fRead_calls hW hxb hgp.i8
 unfold Rdd at hrd
 rw [hchl] at hrd
 have HRd := hid hrd
 have HTr := hid (Tg.read_page hok.rt (pay := x.d) (by rw [hok.len]; decide))
 have HLen := hid hok.plen
 have HDl := hid hok.len
 have hcs := placeCells
 have hct := tagCells
 clear h hc hlg hx hm hgp hok hxb hchl hrd hnb hp1 hp2 hp3
 obtain ⟨xb, hxb⟩ : ∃ b, b = x.b := ⟨_, rfl⟩
 obtain ⟨xi, hxi⟩ : ∃ i, i = x.i := ⟨_, rfl⟩
 have hpl : plO (some x) = .agg #[.int .i64 (xb : Int), .int .i64 (xi : Int)] := by rw [hxb, hxi]; rfl
 rw [← hxb, ← hxi] at HRd
 clear hxb hxi
 have HPl := hid hpl
 clear hpl
 go_enter Tryz.func79, Tryz.ntmps79
 go_wp2_with fail
 refine HLg.out.mono ?_
 rintro e w1 ⟨rfl, hb1⟩
 have H1 := hid (HH.out.on hb1)
 have HB1 := hid hb1
 clear hb1
 go_wp2_with fail
 refine (HAt.out w1 H1.out).mono ?_
 rintro e w2 ⟨rfl, hb2⟩
 rw [HPl.out, show (some x).isSome = true from rfl]
 have hb3 := (HB1.out.then_ hb2).alloc (Nat.le_trans HB1.out.size hb2.size) (.cells #[.int .i64 (xb : Int), .int .i64 (xi : Int)] 184)
 have H2 := hid (HH.out.on hb3)
 have HB2 := hid hb3
 have HZ := hid (Blk.new w2 184 #[.int .i64 (xb : Int), .int .i64 (xi : Int)])
 have HZn := hid (show ¬ R w2.heap.size from (H1.out.on hb2).not_new (Nat.le_refl _))
 clear hb2 hb3
 go_upto_region 7 with fail
 generalize w2.alloc (.cells #[.int .i64 (xb : Int), .int .i64 (xi : Int)] 184) = w3 at *
 generalize w2.heap.size = Z at *
 have HS0 := hid (show w3.drew.cell? ⟨f.F, 0, none⟩ = some (.pointer (some ⟨f.g.C, 0, none⟩)) ∧ Blk w3.drew Z 184 #[.int .i64 (xb : Int), .int .i64 (xi : Int)] from ⟨(H2.out.on (below_drew w3)).c0, HZ.out.belowHere (below_drew w3)⟩)
 have H3 := hid (H2.out.on (below_drew w3))
 have HB3 := hid (HB2.out.then_ (below_drew w3))
 refine wp_region_noPanic ?_
 refine wp_region_held_drew (S := (fun W' => W'.cell? ⟨f.F, 0, none⟩ = some (.pointer (some ⟨f.g.C, 0, none⟩)) ∧ Blk W' Z 184 #[.int .i64 (xb : Int), .int .i64 (xi : Int)])) (by kernel_rfl) HS0.out (fun hS0 => ?_)
 generalize w3.drew = W at *
 clear HS0
 refine tk 0 ((.pointer (some ⟨f.F, 0, none⟩))) rfl (fun _ _ => rfl) ?_
 try simp only [layR]
 refine tk 1 ((.pointer (some ⟨f.F, 0, none⟩))) rfl (fun W hSw => ?_) ?_
 ·skip
  go_simp
 try simp only [layR]
 refine tk 2 ((.pointer (some ⟨f.F, 0, none⟩))) rfl (fun W hSw => ?_) ?_
 ·skip
  go_simp
 try simp only [layR]
 refine tk 3 ((.pointer (some ⟨f.g.C, 0, none⟩))) rfl (fun W hSw => ?_) ?_
 ·obtain ⟨y8, _⟩ := hSw
  go_simp
 try simp only [layR]
 refine tk 4 ((.pointer (some ⟨Z, 0, none⟩))) rfl (fun W hSw => ?_) ?_
 ·skip
  go_simp
 try simp only [layR]
 refine tk 5 ((.int .i64 (xb : Int))) rfl (fun W hSw => ?_) ?_
 ·have y9 := hSw.2.cellv (i := 0) rfl
  go_simp
 try simp only [layR]
 refine tk 6 ((.pointer (some ⟨Z, 1, none⟩))) rfl (fun W hSw => ?_) ?_
 ·skip
  go_simp
 try simp only [layR]
 refine tk 7 ((.int .i64 (xi : Int))) rfl (fun W hSw => ?_) ?_
 ·have y9 := hSw.2.cellv (i := 1) rfl
  go_simp
 try simp only [layR]
 refine rd 8 rfl (fun K' hK => ?_)
 go_simp
 refine (HRd.out W H3.out).mono ?_
 rintro e w4 ⟨⟨a4, c4, rfl, hc4, ho4⟩, hm4, hk4⟩
 have hS4 : w4.cell? ⟨f.F, 0, none⟩ = some (.pointer (some ⟨f.g.C, 0, none⟩)) ∧ Blk w4 Z 184 #[.int .i64 (xb : Int), .int .i64 (xi : Int)] := ⟨hm4.c0, hS0.2.kq hk4 HZn.out⟩
 have H4 := hid hm4
 have HK4 := hid ((Kq.of (T := R) HB3.out).trans hk4)
 have HK4s := hid HK4.out.size
 have HO4 := hid ho4
 have HC4 := hid hc4
 clear hm4 hk4 ho4 hc4
 refine hK.out _ _ hS4 (fun hS5 => ?_)
 try simp only [layR]
 refine tk 9 ((.tuple #[.slice a4 96 c4, .int .i64 0])) rfl (fun W hSw => ?_) ?_
 ·skip
  go_simp
 try simp only [layR]
 refine tk 10 ((.slice a4 96 c4)) rfl (fun W hSw => ?_) ?_
 ·skip
  go_simp
 try simp only [layR]
 refine tk 11 ((.int .i64 0)) rfl (fun W hSw => ?_) ?_
 ·skip
  go_simp
 try simp only [layR]
 refine tk 12 ((.slice a4 96 c4)) rfl (fun _ _ => rfl) ?_
 try simp only [layR]
 refine tk 13 ((.int .i64 0)) rfl (fun _ _ => rfl) ?_
 try simp only [layR]
 refine wpAnyH_done (by kernel_rfl) ?_ _
 refine NoPanic.normal ?_
 clear hS0 hS4 hS5
 go_wp2_with fail
 refine (tread_own a4 64 c4 _ w4 (HO4.out.arr (by rw [HLen.out]; omega)) HC4.out (.inl rfl) HTr.out.2.2).mono ?_
 rintro e w5 ⟨a5, n5, c5, rfl, _, _, hb5, _, hx5⟩
 rw [HTr.out.1, HTr.out.2.2]
 rw [HTr.out.2.1] at hx5
 have HX5 := hid (hx5.mono HK4s.out)
 have HB5 := hid hb5
 clear hx5 hb5
 have hba := (Below.refl w5.heap.size w5).alloc (Nat.le_refl _) (.cells #[.int .i64 x.t.k, .int .u32 (x.t.p : Int), .int .u64 (x.t.s : Int), .int .u64 (x.t.e : Int)] 103)
 have HX6 := hid (HX5.out.on hba)
 have HB6 := hid (HB5.out.then_ hba)
 clear hba
 unfold tagV
 go_wp2_with fail
 go_ret2
 exact ⟨⟨_, rfl, HX6.out⟩, H4.out.on HB6.out, HK4.out.on HB6.out⟩
end
end
section
open Go.RowKit Ftl Go.ChangeMaps

section
variable {NB B n : Nat} {R : Nat → Prop} {w : World} {f : Fm}
theorem fReadNone_calls (h : FtM NB B R w f) (hc : Fc NB f) (p : Nat) (hp1 : 1 ≤ p) (hp2 : p + 2 < (NB - 3) * 8) (hp3 : p < 8192) (hx : curE f p = none) :
  Calls Tryz.prog 79 #[.pointer (some ⟨f.F, 0, none⟩), .int .u32 (p : Int)] w fun e w' => e = .returned (.tuple #[.slice none 0 0, .int .i64 60]) ∧ Below w.heap.size w w' := by
 have hnb := hc.fi.nb
 have hlg := flogical_calls h hc.fi p (by omega)
 rw [if_neg (by omega)] at hlg
 have HLg := hid hlg
 have HH := hid h
 have HAt := hid (fun (W : World) (hW : FtM NB B R W f) => fat_calls hW p (by omega))
 rw [hx] at HAt
 have hcs := placeCells
 clear h hc hlg hx
 go_enter Tryz.func79, Tryz.ntmps79
 go_wp2_with fail
 refine HLg.out.mono ?_
 rintro e w1 ⟨rfl, hb1⟩
 have H1 := hid (HH.out.on hb1)
 have HB1 := hid hb1
 clear hb1
 go_wp2_with fail
 refine (HAt.out w1 H1.out).mono ?_
 rintro e w2 ⟨rfl, hb2⟩
 rw [show plO none = .agg #[.int .i64 0, .int .i64 0] from rfl, show (none : Option En).isSome = false from rfl]
 have HB2 := hid ((HB1.out.then_ hb2).alloc (HB1.out.then_ hb2).size (.cells #[.int .i64 0, .int .i64 0] 184))
 clear hb2
 go_wp2_with fail
 go_ret2
 exact ⟨rfl, HB2.out⟩
end
end
section
open Go.RowKit Go.Maps Go.ChangeMaps Pol Ftl
variable {NB B P n : Nat} {Q : Nat → Prop} {w w' : World} {f : Fm} {s : Ps}

theorem mkP64 (u : World) : (Instr.makeSlice 40 (.int .i64 64) (.int .i64 64)).run Tryz.prog u = .ok (.slice (some ⟨u.heap.size, 0, none⟩) 64 64) (u.alloc (.cells (Array.replicate 64 (.int .u8 0)) 5)) := makeZ 64 (by omega) u
def PolGot (NB B : Nat) (Q : Nat → Prop) (P : Nat) (f : Fm) (s : Ps) (x : List UInt8) (w : World) (e : Ending) (w' : World) : Prop :=
 (∃ v, e = .returned (.tuple #[v, .int .i64 0]) ∧ Own byteV 5 w' w.heap.size v x) ∧ PlM NB B Q w' P f s ∧ Kq Q w w'
theorem PlC.pl {R : Nat → Prop} {U D : Nat} {dl : List Dp} (h : PlC NB B R w P U D dl f s) (h2 : ∀ q, Hp P U D R dl q → Q q) (h3 : ∀ q, Q q → B ≤ q ∧ q < w.heap.size) : PlM NB B Q w P f s := ⟨U, D, dl, R, h, h2, h3⟩
theorem polGet_calls (h : PlM NB B Q w P f s) (hn : s.There n) : Calls Tryz.prog 36 #[.pointer (some ⟨P, 0, none⟩), .int .i64 (n : Int)] w (PolGot NB B Q P f s (s.g n) w) := by
 have hlt := there_lt h hn
 have HA := hid (polAsked_calls h hn)
 have HH := hid h
 obtain ⟨U, D, dl, R, hc, hq1, hq2⟩ := id h
 have hx := hc.ok.sz n hn
 have c7 : w.cell? ⟨P, 7, none⟩ = some (.map (some D)) := hc.hP.cellv rfl
 have c5 := h.c5
 have c0 := h.c0
 have hl := hc.dirty (n := n) (by omega)
 have hg := hc.g n hn
 unfold pgF at hg
 have hbd := hc.bd
 cases hd : diE.get dl n with
 | some d =>
  obtain ⟨hm, hk⟩ := Enc.get_mem hd
  rw [hd] at hl hg
  simp only at hg
  have ho := hc.ow d hm
  rw [hg] at hx ⊢
  obtain ⟨a, c, hv, hlc⟩ := ho.formN hx
  replace hl : (Instr.lookup 72 (.map (some D)) (.int .i64 (n : Int)) true).run Tryz.prog w = .ok (.tuple #[d.v, .bool true]) w := hl
  obtain ⟨dv, hdv⟩ : ∃ v, v = d.v := ⟨_, rfl⟩
  rw [← hdv] at hv hl ho
  subst hv
  have HC := hid (clone_calls a 64 c d.x w (ho.arr (by omega)))
  clear h hc hq1 hq2 hx hg hbd hd hm hk hdv ho hlc
  go_enter Tryz.func36, Tryz.ntmps36
  go_wp2_with fail
  refine HA.out.mono ?_
  rintro e w_ ⟨rfl, rfl⟩
  go_wp2_with fail
  refine HC.out.mono ?_
  rintro e w1 ⟨⟨v, rfl, ho⟩, hb⟩
  have HO := hid ho
  have HB := hid hb
  clear ho hb
  go_wp2
  go_ret2
  exact ⟨⟨_, rfl, HO.out⟩, HH.out.on HB.out, Kq.of HB.out⟩
 | none =>
  rw [hd] at hl hg
  simp only at hg
  replace hl : (Instr.lookup 72 (.map (some D)) (.int .i64 (n : Int)) true).run Tryz.prog w = .ok (.tuple #[.slice none 0 0, .bool false]) w := hl
  have gw := show IntKind.u32.wrap (n : Int) = (n : Int) from IntWalk.u32_in (n : Int) ⟨by omega, by omega⟩
  have hmk := mkP64
  cases hv : vw f n with
  | some y =>
   rw [hv] at hg
   simp only at hg
   obtain ⟨e0, he, hed, _⟩ := vw_some hv
   have HRd := hid (ftReadO_calls hc.hf hc.fc n (by omega) (by omega) (by omega) e0 he)
   rw [hg, ← hed]
   have HC := hid hc
   have HQ1 := hid hq1
   have HQ2 := hid hq2
   clear h hc hq1 hq2 hx hg hbd hd hv
   go_enter Tryz.func36, Tryz.ntmps36
   go_wp2_with fail
   refine HA.out.mono ?_
   rintro e w_ ⟨rfl, rfl⟩
   go_wp2_with fail
   refine HRd.out.mono ?_
   rintro e w1 ⟨⟨v, rfl, ho⟩, hm, hk⟩
   have HO := hid ho
   have hK : Kq R w w1 := hk
   have HK := hid (hK.mono fun q hq => HQ1.out q (.inr (.inr (.inr (.inl hq)))))
   have HPl := hid (show PlM NB B Q w1 P f s from by
    have hc := HC.out
    refine PlC.pl (U := U) (D := D) (dl := dl) (R := R) ⟨hc.hP.kq hK hc.nr.1, hc.hU.same (hK.block _ hc.hU.lt hc.nr.2.1), hc.hD.same (hK.block _ hc.hD.lt hc.nr.2.2), hm, hc.fc, hc.ok, hc.bd, hc.dt, fun d hd => (hc.ow d hd).kq hK fun q hq => (hc.nu d hd q hq).2.2.2, hc.g, hc.ne, hc.nr, hc.nu⟩ HQ1.out fun q hq => ⟨(HQ2.out q hq).1, Nat.lt_of_lt_of_le (HQ2.out q hq).2 hK.size⟩)
   clear ho hm hk hK
   go_wp2
   go_ret2
   exact ⟨⟨_, rfl, HO.out⟩, HPl.out, HK.out⟩
  | none =>
   rw [hv] at hg
   simp only at hg
   have hcur : curE f n = none := by
    unfold vw at hv
    cases hz : curE f n with
    | none => rfl
    | some e => rw [hz] at hv; cases hv
   have HRd := hid (fReadNone_calls hc.hf hc.fc n (by omega) (by omega) (by omega) hcur)
   rw [hg]
   clear hc hq1 hq2 hx hg hbd hd hv hcur h
   go_enter Tryz.func36, Tryz.ntmps36
   go_wp2_with fail
   refine HA.out.mono ?_
   rintro e w_ ⟨rfl, rfl⟩
   go_wp2_with fail
   refine HRd.out.mono ?_
   rintro e w1 ⟨rfl, hb⟩
   have c5' := (HH.out.on hb).c5
   have HB := hid (hb.alloc hb.size (.cells (Array.replicate 64 (.int .u8 0)) 5))
   have HO := hid ((ownMadeZ w1 w1.heap.size 64 (Nat.le_refl _) (by omega)).mono hb.size)
   clear hb
   go_wp2
   go_ret2
   exact ⟨⟨_, rfl, HO.out⟩, HH.out.on HB.out, Kq.of HB.out⟩
end
section
open Go.RowKit Go.Maps Go.ChangeMaps Pol Ftl
variable {NB B P U D n : Nat} {R Q : Nat → Prop} {w w' w1 w2 : World} {f : Fm} {s : Ps} {dl : List Dp}

theorem ow_far {u : Value} {D : Nat} (hu : ∀ q, u.ownBlock = some q → q ≠ D) : u.ownBlock = none ∨ u.ownBlock ≠ some D := by
 cases hb : u.ownBlock with
 | none => exact .inl rfl
 | some q => exact .inr (fun e => hu q hb (Option.some.inj e))
theorem PlC.on (h : PlC NB B R w P U D dl f s) (hb : Below w.heap.size w w') : PlC NB B R w' P U D dl f s := h.kq (T := fun _ => False) (Kq.of hb) fun _ _ h => h
theorem PlC.hi (h : PlC NB B R w P U D dl f s) : P < w.heap.size ∧ U < w.heap.size ∧ D < w.heap.size := ⟨h.hP.lt, h.hU.lt, h.hD.lt⟩
theorem pgF_len (h : PlC NB B R w P U D dl f s) (n : Nat) : (pgF f dl n).length = 64 := by
 unfold pgF
 cases hd : diE.get dl n with
 | some d =>
  obtain ⟨hm, hk⟩ := Enc.get_mem hd
  have h1 := h.g d.n (h.dt d hm)
  unfold pgF at h1
  have hk : d.n = n := hk
  rw [hk, hd] at h1
  simp only at h1 ⊢
  rw [← h1]
  exact h.ok.sz n (hk ▸ h.dt d hm)
 | none =>
  simp only
  cases hv : vw f n with
  | some y =>
   obtain ⟨e, he, h1, _⟩ := vw_some hv
   simp only
   rw [← h1]
   exact (h.fc.fi.ok e (curE_mem he)).len
  | none => exact zeros_len
theorem PlC.putR (h : PlC NB B R w P U D dl f s) (h2 : ∀ q, Hp P U D R dl q → Q q) (h3 : ∀ q, Q q → B ≤ q ∧ q < w.heap.size) (hb : Below w.heap.size w w1) (hn : s.There n) (h9 : n < 4294967296) {v : Value} {x : List UInt8} (ho : Own byteV 5 w1 w.heap.size v x) (hx : x.length = 64) :
  ∃ o, (Instr.mapUpdate 72 (.map (some D)) (.int .i64 (n : Int)) v).run Tryz.prog w1 = .ok () (setBlock w1 D o) ∧ PlR NB B Q w (setBlock w1 D o) P f (s.put n x) := by
 have hh := h.hi
 have hB : B ≤ w.heap.size := by have := h3 P (h2 P (.inl rfl)); omega
 have hRl : ∀ q, R q → q < w.heap.size := fun q hq => (h3 q (h2 q (.inr (.inr (.inr (.inl hq)))))).2
 obtain ⟨o, r1, r2, r3⟩ := (h.on hb).put hn h9 (ho.mono (Nat.zero_le _)) hx fun q hq => by
  have := (ho.blockLt q hq).1
  refine ⟨by omega, by omega, by omega, fun hr => ?_⟩
  have := hRl q hr
  omega
 have hs1 := hb.size
 have hs2 := r3.size
 refine ⟨o, r1, ⟨U, D, _, R, r2, fun q hq => ?_, fun q hq => ?_⟩, (Kq.of hb).trans ((Kq.grown r3).mono fun k hk => Option.some.inj hk ▸ h2 D (.inr (.inr (.inl rfl))))⟩
 ·rcases hq with e | e | e | e | ⟨d, hd, e⟩
  ·exact .inl (h2 q (.inl e))
  ·exact .inl (h2 q (.inr (.inl e)))
  ·exact .inl (h2 q (.inr (.inr (.inl e))))
  ·exact .inl (h2 q (.inr (.inr (.inr (.inl e)))))
  ·rcases Enc.mem_put hd with rfl | hd
   ·have := ho.blockLt q e
    exact .inr ⟨this.1, by omega⟩
   ·exact .inl (h2 q (.inr (.inr (.inr (.inr ⟨d, hd, e⟩)))))
 ·rcases hq with e | e
  ·have := h3 q e; omega
  ·omega
theorem polPut_calls (h : PlM NB B Q w P f s) (hn : s.There n) (a : Option Addr) (c : Nat) (x : List UInt8) (hx : Bytes w w.heap.size a 64 x) :
  Calls Tryz.prog 37 #[.pointer (some ⟨P, 0, none⟩), .int .i64 (n : Int), .slice a 64 c] w fun e w' => e = .returned (.int .i64 0) ∧ PlR NB B Q w w' P f (s.put n x) := by
 have hlt := there_lt h hn
 have hA := hid (polAsked_calls h hn)
 have hxl := hx.len
 obtain ⟨U, D, dl, R, hc, hq1, hq2⟩ := id h
 have c5 := h.c5
 have HC0 := hid (hc.on (below_drew w))
 have HQ1 := hid hq1
 have HQ2 := hid hq2
 have HN := hid hn
 have HLT := hid hlt
 have hC := hid (clone_calls a 64 c x w.drew (hx.on (below_drew w)))
 have HXL := hid hxl
 have c7 : w.drew.cell? ⟨P, 7, none⟩ = some (.map (some D)) := HC0.out.hP.cellv rfl
 have HC7 := hid c7
 clear h hx hn hc hq1 hq2 hlt hxl c7
 go_enter Tryz.func37, Tryz.ntmps37
 go_wp2_with fail
 refine hA.out.mono ?_
 rintro e w_ ⟨rfl, rfl⟩
 go_wp2_with fail
 refine wp_region_noPanic ?_
 refine wp_region_held_drew (S := (fun W' => W'.cell? ⟨P, 7, none⟩ = some (.map (some D)))) (by kernel_rfl) HC7.out (fun hS0 => ?_)
 refine tk 0 ((.pointer (some ⟨P, 0, none⟩))) rfl (fun _ _ => rfl) ?_
 try simp only [layR]
 refine tk 1 ((.pointer (some ⟨P, 0, none⟩))) rfl (fun W hSw => ?_) ?_
 ·skip
  go_simp
 try simp only [layR]
 refine tk 2 ((.pointer (some ⟨P, 7, none⟩))) rfl (fun W hSw => ?_) ?_
 ·skip
  go_simp
 try simp only [layR]
 refine tk 3 ((.map (some D))) rfl (fun W hSw => ?_) ?_
 ·skip
  go_simp
 try simp only [layR]
 refine tk 4 ((.int .i64 (n : Int))) rfl (fun _ _ => rfl) ?_
 try simp only [layR]
 refine tk 5 ((.slice a 64 c)) rfl (fun _ _ => rfl) ?_
 try simp only [layR]
 refine rd 6 rfl (fun K' hK => ?_)
 go_simp
 refine hC.out.mono ?_
 rintro e w1 ⟨⟨v, rfl, ho⟩, hb⟩
 have hp1 := HC0.out.on hb
 obtain ⟨o, hrun, hp2⟩ := HC0.out.putR (Q := Q) HQ1.out HQ2.out hb HN.out (by have := HLT.out; omega) ho HXL.out
 have HP2 := hid (PlR.from_ (below_drew w) hp2 (by have := HQ2.out P (HQ1.out P (.inl rfl)); omega))
 have hS3 := HP2.out.1.hP
 have hS4 : (setBlock w1 D o).cell? ⟨P, 7, none⟩ = some (.map (some D)) := by
  have h1 : Blk (setBlock w1 D o) P 74 (plA f.F U D s) := by
   have hne := HC0.out.ne.2.1
   have h2 := setBlock_grown hp1.hD o
   exact hp1.hP.grown h2 (by intro e; injection e with e; exact hne e)
  exact h1.cellv rfl
 refine hK.out _ _ (hp1.hP.cellv rfl) (fun hS1 => ?_)
 try simp only [layR]
 clear hp1 hp2 ho hb hS3
 refine rd 7 rfl (fun K' hK => ?_)
 go_simp
 refine hK.out _ _ hS4 (fun hS2 => ?_)
 try simp only [layR]
 refine wpAnyH_done (by kernel_rfl) ?_ _
 refine NoPanic.normal ?_
 clear hS0 hS1 hS2 hrun c5 hS4
 go_wp2
 go_ret
 exact ⟨rfl, HP2.out⟩
theorem PlC.mark (h : PlC NB B R w P U D dl f s) (hn : s.Nx n) : ∃ o, (Instr.mapUpdate 71 (.map (some U)) (.int .i64 (n : Int)) (.int .i64 (n : Int))).run Tryz.prog w = .ok () (setBlock w U o) ∧
  PlC NB B R (setBlock w U o) P U D dl f (s.addX n (pgF f dl n)) ∧ w.grownBy (setBlock w U o) (some U) := by
 have hbd := h.bd
 have hlo := hn.lo
 have hhi := hn.hi
 obtain ⟨n1, n2, n3⟩ := h.ne
 obtain ⟨o, h1, h3, h4⟩ := h.hU.put Pol.inLaw Tryz.underlying71 n (Pol.inOf (show n < 4294967296 by omega))
 rw [Enc.put_new (E := usE) (l := s.us) (e := n) (fun y hy e => hn.new ((show y = n from e) ▸ hy))] at h3
 refine ⟨o, h1, ⟨h.hP.grown h4 (by intro e; injection e with e; exact n1 e), h3, h.hD.same (h4.block _ h.hD.lt (by intro e; injection e with e; exact n3 e.symm)), h.hf.kq (Kq.grown h4) fun q hq e => h.nr.2.1 (Option.some.inj e ▸ hq), h.fc, h.ok.addX hn (pgF_len h n), h.bd, fun d hd => Ps.there_addX.2 (.inl (h.dt d hd)), fun d hd => (h.ow d hd).grown h4 (ow_far fun q e => (h.nu d hd q e).2.1), fun m hm => ?_, h.ne, h.nr, h.nu⟩, h4⟩
 show updN s.g n (pgF f dl n) m = _
 by_cases e : m = n
 ·subst e; rw [updN_same]
 ·rw [updN_ne e]
  rcases Ps.there_addX.1 hm with h5 | h5
  ·exact h.g m h5
  ·exact absurd h5 e
theorem PlC.del (h : PlC NB B R w P U D dl f s) (hn : s.tb < n) (h9 : n < 4294967296) (ty1 ty2 : TypeId) :
  ∃ o1 o2, (Builtin.delete_ #[71, 3] ty1 #[.map (some U), .int .i64 (n : Int)]).run Tryz.prog w = .ok (.tuple #[]) (setBlock w U o1) ∧ (setBlock w U o1).cell? ⟨P, 7, none⟩ = some (.map (some D)) ∧
   (Builtin.delete_ #[72, 3] ty2 #[.map (some D), .int .i64 (n : Int)]).run Tryz.prog (setBlock w U o1) = .ok (.tuple #[]) (setBlock (setBlock w U o1) D o2) ∧
   PlC NB B R (setBlock (setBlock w U o1) D o2) P U D (diE.del dl n) f (s.del n) ∧ Kq (fun q => q = U ∨ q = D) w (setBlock (setBlock w U o1) D o2) := by
 obtain ⟨n1, n2, n3⟩ := h.ne
 obtain ⟨o1, r1, r2, r3⟩ := h.hU.del (p := n) Pol.inLaw Tryz.underlying71 (Pol.inOf h9) ty1
 have hD1 := h.hD.same (w' := setBlock w U o1) (r3.block _ h.hD.lt (by intro e; injection e with e; exact n3 e.symm))
 have hP1 := h.hP.grown r3 (by intro e; injection e with e; exact n1 e)
 obtain ⟨o2, t1, t2, t3⟩ := hD1.del (p := n) Pol.inLaw Tryz.underlying72 (Pol.inOf h9) ty2
 have hk : Kq (fun q => q = U ∨ q = D) w (setBlock (setBlock w U o1) D o2) := ((Kq.grown r3).mono fun k hk => .inl (Option.some.inj hk).symm).trans ((Kq.grown t3).mono fun k hk => .inr (Option.some.inj hk).symm)
 refine ⟨o1, o2, r1, hP1.cellv rfl, t1, ⟨h.hP.kq hk (by rintro (e | e); exact n1 e; exact n2 e), ?_, t2, h.hf.kq hk ?_, h.fc, h.ok.del hn, h.bd, fun d hd => ?_, fun d hd => ?_, fun m hm => ?_, h.ne, h.nr, fun d hd => h.nu d (Enc.mem_del.1 hd).1⟩, hk⟩
 ·have hU2 := r2.same (w' := setBlock (setBlock w U o1) D o2) (t3.block _ r2.lt (by intro e; injection e with e; exact n3 e))
  exact hU2
 ·rintro q hq (e | e)
  ·exact h.nr.2.1 (e ▸ hq)
  ·exact h.nr.2.2 (e ▸ hq)
 ·obtain ⟨h1, h2⟩ := Enc.mem_del.1 hd
  exact (Ps.there_del hn).2 ⟨h.dt d h1, h2⟩
 ·obtain ⟨h1, h2⟩ := Enc.mem_del.1 hd
  exact (h.ow d h1).kq hk fun q hq => by
   have := h.nu d h1 q hq
   rintro (e | e)
   ·exact this.2.1 e
   ·exact this.2.2.1 e
 ·obtain ⟨h1, h2⟩ := (Ps.there_del hn).1 hm
  show updN s.g n [] m = _
  rw [updN_ne h2, pgF_del f dl h2]
  exact h.g m h1
end
section
open Go.RowKit Go.Maps Go.ChangeMaps Pol Ftl
variable {NB B P U D n : Nat} {R Q : Nat → Prop} {w w' w1 w2 : World} {f : Fm} {s : Ps} {dl : List Dp}

theorem polAlloc_calls (h : PlM NB B Q w P f s) (hn : s.Nx n) :
  Calls Tryz.prog 34 #[.pointer (some ⟨P, 0, none⟩)] w fun e w' => e = .returned (.tuple #[.int .i64 (n : Int), .int .i64 0]) ∧ PlR NB B Q w w' P f (s.add n) := by
 have HP := hid h
 have c2 := h.c2
 have hmk := mkP64
 have hbd := h.bd
 have HBD := hid hbd
 have hlo := hn.lo
 have hhi := hn.hi
 have HN := hid hn
 have HB0 := hid h.base
 clear h hn
 go_enter Tryz.func34, Tryz.ntmps34
 go_wp2_with fail
 go_loopw [4] (fun i wr => ∃ k : Nat, s.tb < k ∧ k ≤ n ∧ i = .int .i64 (k : Int) ∧ PlM NB B Q wr P f s ∧ Below w.heap.size w wr) (fun i _ => n + 1 - (intOf i).toNat)
 case atStart => exact ⟨s.tb + 1, by omega, by omega, by go_num, HP.out, Below.refl _ _⟩
 case round =>
  obtain ⟨k, h2, hk, rfl, hp, hb⟩ := hrel
  have HG := hid (polGiven_calls hp h2 (by omega))
  have HB := hid hb
  have HPr := hid hp
  have iv := IntWalk.i64_in ((k : Int) + 1) ⟨by omega, by omega⟩
  clear hp hb c2
  by_cases hlt : k < n
  ·have HK := hid (HN.out.least k h2 hlt)
   go_wp2_with fail
   refine HG.out.mono ?_
   rintro e w1 ⟨rfl, hb1⟩
   have HP1 := hid (HPr.out.on hb1)
   have HB1 := hid (HB.out.then_ hb1)
   clear hb1
   go_wp2_with fail
   refine (polThere_yes HP1.out (.inr HK.out) (by have := HBD.out; omega)).mono ?_
   rintro e w_ ⟨rfl, rfl⟩
   go_wp2_with fail
   go_roundw
   case rel => exact ⟨k + 1, by omega, by omega, by go_num, HP1.out, HB1.out⟩
   case measure => simp [intOf]; omega
  ·obtain rfl : k = n := by omega
   go_wp2_with fail
   refine HG.out.mono ?_
   rintro e w1 ⟨rfl, hb1⟩
   have hp1 := HPr.out.on hb1
   have hT := polThere_us hp1 h2 (by omega)
   rw [decide_eq_false HN.out.new] at hT
   have HT := hid hT
   obtain ⟨U, D, dl, R, hc, hq1, hq2⟩ := id hp1
   have c6 : w1.cell? ⟨P, 6, none⟩ = some (.map (some U)) := hc.hP.cellv rfl
   obtain ⟨o, hrun, hm, hg⟩ := hc.mark HN.out
   have HM := hid hm
   have HK1 := hid ((Kq.of (T := Q) (HB.out.then_ hb1)).trans ((Kq.grown hg).mono fun q hq => Option.some.inj hq ▸ hq1 U (.inr (.inl rfl))))
   have HS := hid hg.size
   have HQ1 := hid hq1
   have HQ2 := hid hq2
   clear hp1 hT hc hm hg hb1 HG hq1 hq2 iv hlt
   go_wp2_with fail
   refine HT.out.mono ?_
   rintro e w_ ⟨rfl, rfl⟩
   go_upto_region 8 with fail
   generalize setBlock w1 U o = W8 at *
   have hd8 := HM.out.on (below_drew W8)
   have hba : Below W8.drew.heap.size W8.drew (W8.drew.alloc (.cells (Array.replicate 64 (.int .u8 0)) 5)) := (Below.refl _ _).alloc (Nat.le_refl _) _
   have hq3 : ∀ q, Q q → B ≤ q ∧ q < W8.drew.heap.size := fun q hq => ⟨(HQ2.out q hq).1, Nat.lt_of_lt_of_le (HQ2.out q hq).2 HS.out⟩
   obtain ⟨o2, hrun2, hp2⟩ := hd8.putR (Q := Q) HQ1.out hq3 hba (n := k) (Ps.there_addX.2 (.inr rfl)) (by omega) (v := .slice (some ⟨W8.drew.heap.size, 0, none⟩) 64 64) (ownMadeZ W8.drew W8.drew.heap.size 64 (Nat.le_refl _) (by omega)) zeros_len
   rw [Ps.addX_put] at hp2
   have HP2 := hid (PlR.behind (HK1.out.on (below_drew W8)) hp2 HB0.out)
   have HB8 := hid (show W8.drew.cell? ⟨P, 7, none⟩ = some (.map (some D)) ∧ W8.drew.cell? ⟨P, 5, none⟩ = some (.int .i64 64) from ⟨hd8.hP.cellv rfl, hd8.hP.cellv rfl⟩)
   have hd9 := hd8.on hba
   have HB9 := hid (show (W8.drew.alloc (.cells (Array.replicate 64 (.int .u8 0)) 5)).cell? ⟨P, 7, none⟩ = some (.map (some D)) ∧ (W8.drew.alloc (.cells (Array.replicate 64 (.int .u8 0)) 5)).cell? ⟨P, 5, none⟩ = some (.int .i64 64) from ⟨hd9.hP.cellv rfl, hd9.hP.cellv rfl⟩)
   have HB10 := hid (show (setBlock (W8.drew.alloc (.cells (Array.replicate 64 (.int .u8 0)) 5)) D o2).cell? ⟨P, 7, none⟩ = some (.map (some D)) ∧ (setBlock (W8.drew.alloc (.cells (Array.replicate 64 (.int .u8 0)) 5)) D o2).cell? ⟨P, 5, none⟩ = some (.int .i64 64) from by
    have hne := hd9.ne.2.1
    have h2 := hd9.hP.grown (setBlock_grown hd9.hD o2) (by intro e; injection e with e; exact hne e)
    exact ⟨h2.cellv rfl, h2.cellv rfl⟩)
   clear hp2 hba hrun hd8 hd9 c6 hq3
   refine wp_region_noPanic ?_
   refine wp_region_held_drew (S := (fun W' => W'.cell? ⟨P, 7, none⟩ = some (.map (some D)) ∧ W'.cell? ⟨P, 5, none⟩ = some (.int .i64 64))) (by kernel_rfl) HB8.out (fun hS0 => ?_)
   generalize W8.drew = W9 at *
   refine tk 0 ((.pointer (some ⟨P, 0, none⟩))) rfl (fun _ _ => rfl) ?_
   try simp only [layR]
   refine tk 1 ((.pointer (some ⟨P, 0, none⟩))) rfl (fun W hSw => ?_) ?_
   ·skip
    go_simp
   try simp only [layR]
   refine tk 2 ((.pointer (some ⟨P, 7, none⟩))) rfl (fun W hSw => ?_) ?_
   ·skip
    go_simp
   try simp only [layR]
   refine tk 3 ((.map (some D))) rfl (fun W hSw => ?_) ?_
   ·have y9 := hSw.1
    go_simp
   try simp only [layR]
   refine tk 4 ((.int .i64 (k : Int))) rfl (fun _ _ => rfl) ?_
   try simp only [layR]
   refine tk 5 ((.pointer (some ⟨P, 0, none⟩))) rfl (fun _ _ => rfl) ?_
   try simp only [layR]
   refine tk 6 ((.pointer (some ⟨P, 0, none⟩))) rfl (fun W hSw => ?_) ?_
   ·skip
    go_simp
   try simp only [layR]
   refine tk 7 ((.pointer (some ⟨P, 5, none⟩))) rfl (fun W hSw => ?_) ?_
   ·skip
    go_simp
   try simp only [layR]
   refine tk 8 ((.int .i64 64)) rfl (fun W hSw => ?_) ?_
   ·have y9 := hSw.2
    go_simp
   try simp only [layR]
   refine rd 9 rfl (fun K' hK => ?_)
   go_simp
   refine hK.out _ _ HB9.out (fun hS1 => ?_)
   try simp only [layR]
   refine rd 10 rfl (fun K' hK => ?_)
   go_simp
   refine hK.out _ _ HB10.out (fun hS2 => ?_)
   try simp only [layR]
   refine wpAnyH_done (by kernel_rfl) ?_ _
   refine NoPanic.normal ?_
   clear hS0 hS1 hS2 hrun2 hmk
   go_wp2
   go_ret2
   exact ⟨rfl, HP2.out⟩
theorem polFree_calls (h : PlM NB B Q w P f s) (hn : n ∈ s.us) :
  Calls Tryz.prog 103 #[.pointer (some ⟨P, 0, none⟩), .int .i64 (n : Int)] w fun e w' => e = .returned (.int .i64 0) ∧ PlR NB B Q w w' P f (s.del n) := by
 have hr := h.ok.us n hn
 have hbd := h.bd
 have hA := hid (polAsked_calls h (.inr hn))
 have hG := hid (polGiven_calls h hr.1 hr.2)
 have HP := hid h
 have HB0 := hid h.base
 clear h
 go_enter Tryz.func103, Tryz.ntmps103
 go_wp2_with fail
 refine hA.out.mono ?_
 rintro e w_ ⟨rfl, rfl⟩
 go_wp2_with fail
 refine hG.out.mono ?_
 rintro e w1 ⟨rfl, hb1⟩
 obtain ⟨U, D, dl, R, hc, hq1, hq2⟩ := HP.out.on hb1
 have c6 : w1.cell? ⟨P, 6, none⟩ = some (.map (some U)) := hc.hP.cellv rfl
 obtain ⟨o1, o2, r1, r2, r3, r4, r5⟩ := hc.del hr.1 (show n < 4294967296 by omega) 0 0
 have r1 : ∀ ty, (Builtin.delete_ #[71, 3] ty #[.map (some U), .int .i64 (n : Int)]).run Tryz.prog w1 = .ok (.tuple #[]) (setBlock w1 U o1) := fun _ => r1
 have r3 : ∀ ty, (Builtin.delete_ #[72, 3] ty #[.map (some D), .int .i64 (n : Int)]).run Tryz.prog (setBlock w1 U o1) = .ok (.tuple #[]) (setBlock (setBlock w1 U o1) D o2) := fun _ => r3
 have hs1 := hb1.size
 have HF := hid (show PlR NB B Q w (setBlock (setBlock w1 U o1) D o2) P f (s.del n) from by
  have hk2 := r5.mono (T' := Q) fun q hq => by
   rcases hq with rfl | rfl
   ·exact hq1 _ (.inr (.inl rfl))
   ·exact hq1 _ (.inr (.inr (.inl rfl)))
  have hsz := r5.size
  have hpl : PlM NB B Q (setBlock (setBlock w1 U o1) D o2) P f (s.del n) := ⟨U, D, _, R, r4, fun q hq => hq1 q (by
   rcases hq with e | e | e | e | ⟨d, hd, e⟩
   ·exact .inl e
   ·exact .inr (.inl e)
   ·exact .inr (.inr (.inl e))
   ·exact .inr (.inr (.inr (.inl e)))
   ·exact .inr (.inr (.inr (.inr ⟨d, (Enc.mem_del.1 hd).1, e⟩)))), fun q hq => ⟨(hq2 q hq).1, by have := (hq2 q hq).2; omega⟩⟩
  exact PlR.from_ hb1 (PlM.same_ hpl hk2 (by have := HB0.out; omega)) HB0.out)
 clear hc hq1 hq2 hb1 r4 r5 hs1
 go_wp2
 go_ret
 exact ⟨rfl, HF.out⟩
end
end Go.Proofs.YtcppkaphlcflgaaGreat
