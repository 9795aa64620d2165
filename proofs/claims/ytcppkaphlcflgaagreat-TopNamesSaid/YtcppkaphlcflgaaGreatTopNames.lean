import Derived.Test.YtcppkaphlcflgaaGreatNamText
import Derived.Test.YtcppkaphlcflgaaGreatFtlMade
import Derived.Deep.DeepCutAuto
namespace Go.Proofs.YtcppkaphlcflgaaGreat
open Lib (hid)
set_option maxRecDepth 100000
set_option maxHeartbeats 16000000
open Go.RowKit Ftl Pol

theorem ds_empty {s : Ps} {fi : Nf} (h : Nam.Ds s fi []) : ind s 1 = ⟨2, 0, 0, 0, 0, 0, 0, 0, 0, 0, 0⟩ ∧ indE s 1 = 0 := by
 have hM : Nam.pgN ([] : List UInt8).length = 0 := rfl
 have hd := h.df.d
 have hs := h.df.si
 have hb := h.df.b
 rw [hM] at hd hs
 have e : ∀ k, k < 6 → nd fi k = 0 := fun k hk => by
  unfold nd
  rw [hd k hk, if_neg (by omega)]
  rfl
 rw [if_pos (by omega)] at hs
 have hz : fi.s = 0 := h.z
 refine ⟨h.i1.1.trans ?_, h.i1.2⟩
 unfold nodOf
 rw [h.k2, h.l0, hz, hs, hb, e 0 (by omega), e 1 (by omega), e 2 (by omega), e 3 (by omega), e 4 (by omega), e 5 (by omega)]
 rfl
structure NmW (w : World) (B Z T : Nat) (f : Fm) (X : List UInt8) (L : List Nat) (v : Value) (W : World) : Prop where
 ex : ∃ (s : Ps) (fi : Nf) (R : Nat → Prop), PlM 16 B R W Z f s ∧ Nam.Ds s fi X ∧ ¬ R T ∧ ∀ q, v.ownBlock = some q → ¬ R q
 hB : w.heap.size ≤ B
 t : TrB W T Z
 tw : w.heap.size ≤ T
 o : Own strV 9 W w.heap.size v (L.map Nam.txt)
 vt : ∀ q, v.ownBlock = some q → q ≠ T
 bel : Below w.heap.size w W
section
variable {w W W' : World} {B Z T : Nat} {f : Fm} {X X' : List UInt8} {L L' : List Nat} {v v' : Value} {R : Nat → Prop} {s s' : Ps} {fi' : Nf}
theorem NmW.next (h : NmW w B Z T f X L v W) (h1 : PlM 16 B R W Z f s) (hT : ¬ R T) (hv : ∀ q, v.ownBlock = some q → ¬ R q) (hp : PlR 16 B R W W' Z f s') (hd : Nam.Ds s' fi' X') : NmW w B Z T f X' L v W' :=
 ⟨⟨s', fi', Up R W W', hp.1, hd, fun h9 => hT (up_of h9 h.t.lt), fun q hq h9 => hv q hq (up_of h9 (h.o.blockLt q hq).2)⟩, h.hB, h.t.kq hp.2 hT, h.tw, h.o.kq hp.2 fun q hq => hv q hq, h.vt, h.bel.trans (hp.2.below (fun q hq => Nat.le_trans h.hB (h1.bnd q hq).1) h.bel.size)⟩
theorem NmW.on (h : NmW w B Z T f X L v W) (hb : Below W.heap.size W W') : NmW w B Z T f X L v W' := by
 obtain ⟨s, fi, R, a1, a2, a3, a4⟩ := h.ex
 exact ⟨⟨s, fi, R, a1.on hb, a2, a3, a4⟩, h.hB, h.t.on hb, h.tw, h.o.on hb, h.vt, h.bel.then_ hb⟩
theorem NmW.ask (h : NmW w B Z T f X L v W) {fi : Nf} (h1 : PlM 16 B R W Z f s) (hd : Nam.Ds s fi X) (hT : ¬ R T) (hv : ∀ q, v.ownBlock = some q → ¬ R q) (hp : PlM 16 B R W' Z f s) (hk : Kq R W W') : NmW w B Z T f X L v W' :=
 ⟨⟨s, fi, R, hp, hd, hT, hv⟩, h.hB, h.t.kq hk hT, h.tw, h.o.kq hk fun q hq => hv q hq, h.vt, h.bel.trans (hk.below (fun q hq => Nat.le_trans h.hB (h1.bnd q hq).1) h.bel.size)⟩
theorem NmW.row (h : NmW w B Z T f X L v W) (ho : Own strV 9 W' w.heap.size v' (L'.map Nam.txt)) (hk : Kq (fun q => v.ownBlock = some q) W W') (hv' : ∀ q, v'.ownBlock = some q → v.ownBlock = some q ∨ W.heap.size ≤ q) : NmW w B Z T f X L' v' W' := by
 obtain ⟨s, fi, R, a1, a2, a3, a4⟩ := h.ex
 refine ⟨⟨s, fi, R, a1.kq hk fun q hq e => a4 q e hq, a2, a3, fun q hq => ?_⟩, h.hB, h.t.kq hk fun e => h.vt T e rfl, h.tw, ho, fun q hq e => ?_, h.bel.trans (hk.below (fun q hq => (h.o.blockLt q hq).1) h.bel.size)⟩
 ·rcases hv' q hq with e | e
  ·exact a4 q e
  ·exact a1.not_new e
 ·rcases hv' q hq with e2 | e2
  ·exact h.vt q e2 e
  ·have := h.t.lt
   omega
end
theorem topNames_walk (x0 : UInt8) (a1 : Option Addr) (n1 c1 : Nat) (x1 : List UInt8) (w : World) (g1 : Bytes w w.heap.size a1 n1 x1) (_ : n1 ≤ c1) (_ : c1 ≤ 140737488351232) :
  Calls Tryz.prog 4 #[.int .u8 (x0.toNat : Int), .slice a1 n1 c1] w fun e w' => e = .returned (.bool true) ∧ Below w.heap.size w w' := by
 have HX := hid g1
 clear g1
 go_enter Tryz.func4, Tryz.ntmps4
 go_wp2_with fail
 refine (made_calls w).mono ?_
 rintro e w1 ⟨B, R, f, rfl, hB, hf, hd, _, hb⟩
 have hvw : vw f 1 = none := by
  rw [vw_eq, hd.no, hd.go, hd.se]
  rfl
 have hz : pgF f [] 1 = Pol.zeros := by
  unfold pgF
  show (match vw f 1 with | some y => y.2 | none => Pol.zeros) = _
  rw [hvw]
 have HZ := hid hz
 have HOp := hid (show Calls Tryz.prog 6 #[.pointer (some ⟨f.F, 0, none⟩), .agg #[.int .i64 2, .int .i64 3, .int .i64 60, .int .i64 4], .slice none 0 0] w1 fun e w' => ∃ Z, e = .returned (.tuple #[.pointer (some ⟨Z, 0, none⟩), .int .i64 0]) ∧ PlR 16 B R w1 w' Z f (Ps.new0 f 2 60 4) ∧ w1.heap.size ≤ Z from
  polOpen_calls (tb := 2) (np := 60) (ino := 4) hf hd.fc (by rw [hd.tv, List.length_replicate]) (by omega) (by omega) (by omega))
 obtain ⟨F, hF⟩ : ∃ F, F = f.F := ⟨_, rfl⟩
 rw [← hF] at HOp ⊢
 have HB1 := hid hb
 have HF1 := hid hf
 have HBb := hid hB
 clear hb hf hd hB hF hvw hz
 go_wp2_with fail
 refine HOp.out.mono ?_
 rintro e w2 ⟨Z, rfl, hpl, _⟩
 have HPl := hid hpl.1
 have HB2 := hid (HB1.out.trans (hpl.2.below (fun q hq => Nat.le_trans HBb.out (HF1.out.bnd q hq).1) HB1.out.size))
 obtain ⟨U, hU⟩ : ∃ U, U = Up R w1 w2 := ⟨_, rfl⟩
 rw [← hU] at HPl
 clear hpl HOp hU
 go_wp2_with fail
 refine (treOpen_calls w2 Z).mono ?_
 rintro e w3 ⟨rfl, ht3, hb3⟩
 obtain ⟨T, hT⟩ : ∃ T, T = w2.heap.size := ⟨_, rfl⟩
 rw [← hT] at ht3 ⊢
 have HT3 := hid ht3
 have HP3 := hid (HPl.out.on hb3)
 have HB3 := hid (HB2.out.then_ hb3)
 have HTU := hid (show ¬ U T ∧ w.heap.size ≤ T from ⟨HPl.out.not_new (by omega), by rw [hT]; exact HB2.out.size⟩)
 have hst := Nam.Ds.start HZ.out HP3.out.ok
 have HS1 := hid hst.1
 have HS2 := hid hst.2.1
 have HS3 := hid hst.2.2.1
 have HDs := hid hst.2.2.2
 obtain ⟨s0, hs0⟩ : ∃ x, x = Ps.new0 f 2 60 4 := ⟨_, rfl⟩
 have HI := hid (show s0.ino = 4 ∧ s0.tb = 2 from by rw [hs0]; exact ⟨rfl, rfl⟩)
 rw [← hs0] at HS1 HS2 HS3 HDs HP3
 clear ht3 hb3 hT hst hs0
 go_wp2_with fail
 refine (treMake_calls (m := 1) (kd := 2) (.inr rfl) HP3.out HT3.out HTU.out.1 (by omega) (by rw [HI.out.1]; omega) (by rw [HI.out.1]; omega) (by rw [HI.out.2]; omega) (fun j h1 h2 => by omega) HS1.out).mono ?_
 rintro e w4 ⟨rfl, hp4⟩
 obtain ⟨s1, hs1⟩ : ∃ x, x = setI s0 1 (nodOf Nam.fi0) := ⟨_, rfl⟩
 obtain ⟨U1, hU1⟩ : ∃ x, x = Up U w3 w4 := ⟨_, rfl⟩
 have HP4 := hid (show PlM 16 B U1 w4 Z f s1 from by rw [hs1, hU1]; exact hp4.1)
 have HT4 := hid (HT3.out.kq hp4.2 HTU.out.1)
 have HTU1 := hid (show ¬ U1 T from by rw [hU1]; exact fun h => HTU.out.1 (up_of h HT3.out.lt))
 have HB4 := hid (HB3.out.trans (hp4.2.below (fun q hq => Nat.le_trans HBb.out (HP3.out.bnd q hq).1) HB3.out.size))
 have HI1 := hid (show s1.ino = 4 ∧ s1.tb = 2 from by rw [hs1]; exact HI.out)
 rw [← hs1] at HS2 HS3 HDs
 clear hp4 hs1 hU1
 go_wp2_with fail
 refine (treMake_calls (m := 2) (kd := 1) (.inl rfl) HP4.out HT4.out HTU1.out (by omega) (by rw [HI1.out.1]; omega) (by rw [HI1.out.1]; omega) (by rw [HI1.out.2]; omega) (fun j h1 h2 => by
  obtain rfl : j = 1 := by omega
  exact HS2.out) HS3.out).mono ?_
 rintro e w5 ⟨rfl, hp5⟩
 obtain ⟨s2, hs2⟩ : ∃ x, x = setI s1 2 Nam.fileN := ⟨_, rfl⟩
 obtain ⟨U2, hU2⟩ : ∃ x, x = Up U1 w4 w5 := ⟨_, rfl⟩
 have HP5 := hid (show PlM 16 B U2 w5 Z f s2 from by rw [hs2, hU2]; exact hp5.1)
 have HT5 := hid (HT4.out.kq hp5.2 HTU1.out)
 have HTU2 := hid (show ¬ U2 T from by rw [hU2]; exact fun h => HTU1.out (up_of h HT4.out.lt))
 have HB5 := hid (HB4.out.trans (hp5.2.below (fun q hq => Nat.le_trans HBb.out (HP4.out.bnd q hq).1) HB4.out.size))
 rw [← hs2] at HDs
 clear hp5 hs2 hU2
 have HW5 := hid (show NmW w B Z T f [] (List.range 0) (.slice none 0 0) w5 from ⟨⟨s2, Nam.fi0, U2, HP5.out, HDs.out, HTU2.out, fun q hq => by cases hq⟩, HBb.out, HT5.out, HTU.out.2, Own.nil _ _, fun q hq => (by cases hq), HB5.out⟩)
 have hx0 : x0.toNat < 256 := x0.toNat_lt
 obtain ⟨p, hp⟩ : ∃ p, p = x0.toNat % 100 := ⟨_, rfl⟩
 have hp100 : p < 100 := by omega
 have q1 : (x0.toNat : Int) % 100 = (p : Int) := by omega
 have q2 := IntWalk.i64_in (p : Int) ⟨by omega, by omega⟩
 have q3 := IntWalk.i64_in ((p : Int) + 1) ⟨by omega, by omega⟩
 have q4 := IntWalk.u8_in (p : Int) ⟨by omega, by omega⟩
 clear HP5 HT5 HTU2 HB5 HDs HP4 HT4 HTU1 HB4 HP3 HT3 HTU HB3 HS1 HS2 HS3 HI HI1 HPl HB2 HZ HB1 HF1 hp hx0
 go_wp2_with fail
 clear q1 q2 q3 q4
 go_loopw [16, 17] (fun v16 v17 wr => ∃ (k : Nat) (X : List UInt8), v17 = .int .i64 (k : Int) ∧ k ≤ p + 1 ∧ Hid (Nam.Nm X (List.range k) ∧ (∀ j, j < Dir.cnt X → Dir.used X j) ∧ X.length = 16 * k) ∧ Hid (NmW w B Z T f X (List.range k) v16 wr)) (fun _ v17 _ => p + 1 - (intOf v17).toNat)
 case atStart => exact ⟨0, [], rfl, Nat.zero_le _, hid ⟨Nam.Nm.start, fun j hj => absurd hj (by rw [show Dir.cnt [] = 0 from rfl]; omega), rfl⟩, HW5⟩
 case round =>
  obtain ⟨k, X, rfl, hk, HNm, HNw⟩ := hrel
  clear HW5
  by_cases hlt : k < p + 1
  ·have g1 : (k : Int) < (p : Int) + 1 := by omega
   have q9 := IntWalk.i64_in ((k : Int) + 1) ⟨by omega, by omega⟩
   have HTx := hid (fun W : World => text_calls (n := k) (by omega) W)
   have hk99 : k < 100 := by omega
   have HAd := hid (show ∀ W : World, NmW w B Z T f X (List.range k) u16 W → Calls Tryz.prog 17 #[.pointer (some ⟨T, 0, none⟩), .int .i64 1, .string (strL (Nam.txt k)), .int .i64 2] W fun e w' => e = .returned (.int .i64 0) ∧ ∃ X', Nam.Nm X' (List.range (k + 1)) ∧ (∀ j, j < Dir.cnt X' → Dir.used X' j) ∧ X'.length = 16 * (k + 1) ∧ NmW w B Z T f X' (List.range k) u16 w' from fun W hW => by
    obtain ⟨h1, h2, h3⟩ := HNm.out
    obtain ⟨s, fi, R, a1, a2, a3, a4⟩ := hW.ex
    have hni : k ∉ List.range k := by rw [List.mem_range]; omega
    refine (treAdd_calls a1 hW.t a3 a2 (Nam.txt k) (h1.addE hk99 hni) (by omega)).mono ?_
    rintro e w' ⟨rfl, r, s', fi', hr, hd, hp⟩
    obtain ⟨b1, b2⟩ := h1.full_add hk99 hni hr h2
    refine ⟨rfl, Dir.addedAt X ⟨2, Nam.txt k⟩ r, ?_, b1, by rw [b2, h3]; omega, hW.next a1 a3 a4 hp hd⟩
    rw [List.range_succ]
    exact h1.add hk99 hni hr)
   clear hlt hk99
   go_wp2_with fail
   refine (HTx.out wr).mono ?_
   rintro e W1 ⟨rfl, hb1⟩
   have HN1 := hid (HNw.out.on hb1)
   clear hb1
   go_wp2_with fail
   refine (HAd.out W1 HN1.out).mono ?_
   rintro e W2 ⟨rfl, X', hx1, hx2, hx3, hn2⟩
   have HNm2 := hid (show Nam.Nm X' (List.range (k + 1)) ∧ (∀ j, j < Dir.cnt X' → Dir.used X' j) ∧ X'.length = 16 * (k + 1) from ⟨hx1, hx2, hx3⟩)
   have HN2 := hid hn2
   clear hx1 hx2 hx3 hn2
   go_wp2_with fail
   refine (HTx.out W2).mono ?_
   rintro e W3 ⟨rfl, hb3⟩
   have HN3 := hid (HN2.out.on hb3)
   have HLn := hid (show ((List.range k).map Nam.txt).length = k from by rw [List.length_map, List.length_range])
   have hsz := HN3.out.bel.size
   clear hb3
   go_wp2_with (at_builtin; refine wpList_litS2 rfl _ _ rfl w.heap.size _ ((List.range k).map Nam.txt) rfl HN3.out.o 1 [Nam.txt k] rfl rfl rfl (by rw [HLn.out]; omega) hsz ?_; intro v6 W6 HO6 HK6 HV6)
   have HN6 := hid (HN3.out.row (L' := List.range (k + 1)) (by rw [List.range_succ, List.map_append]; exact HO6.out) HK6.out HV6.out)
   clear hsz
   go_wp2_with fail
   go_roundw
   case rel => exact ⟨k + 1, X', by go_num, by omega, HNm2, HN6⟩
   case measure => simp [intOf]; omega
  ·have g1 : ¬ (k : Int) < (p : Int) + 1 := by omega
   obtain rfl : k = p + 1 := by omega
   clear hlt hk
   obtain ⟨C, hC⟩ : ∃ C, C = Nam.cnt (Nam.pgN (16 * (p + 1))) := ⟨_, rfl⟩
   have hC30 : C ≤ 60 := by rw [hC]; unfold Nam.cnt Nam.pgN; split <;> omega
   have HDr := hid (show ∀ W : World, Calls Tryz.prog 19 #[.int .i64 64, .int .i64 ((p : Int) + 1)] W fun e w' => e = .returned (.tuple #[.int .i64 (C : Int), .int .i64 0]) ∧ Below W.heap.size W w' from fun W => by
    have h := dir_calls 64 ((p + 1 : Nat) : Int) W (by omega) (.inl (by omega))
    rw [Nam.dir_room (p + 1) (by omega), ← hC] at h
    rw [show (p : Int) + 1 = ((p + 1 : Nat) : Int) from by omega]
    exact h)
   have HRm := hid (show ∀ W : World, NmW w B Z T f X (List.range (p + 1)) u16 W → Calls Tryz.prog 11 #[.pointer (some ⟨Z, 0, none⟩)] W fun e w' => e = .returned (.int .i64 ((60 : Int) - (C : Int))) ∧ Below W.heap.size W w' from fun W hW => by
    obtain ⟨s, fi, R, a1, a2, a3, a4⟩ := hW.ex
    have h := polRoom_calls a1
    rw [a2.df.np, a2.df.len, HNm.out.2.2, ← hC] at h
    exact h)
   have q5 := IntWalk.i64_in ((60 : Int) - (C : Int)) ⟨by omega, by omega⟩
   clear hC
   go_wp2_with fail
   refine (HDr.out wr).mono ?_
   rintro e W1 ⟨rfl, hb1⟩
   have HN1 := hid (HNw.out.on hb1)
   clear hb1
   go_wp2_with fail
   refine (HRm.out W1 HN1.out).mono ?_
   rintro e W2 ⟨rfl, hb2⟩
   have HN2 := hid (HN1.out.on hb2)
   have HNl := hid (show Nam.Nm X (List.range (p + 1)) ∧ (List.range (p + 1)).Nodup from ⟨HNm.out.1, List.nodup_range⟩)
   have hl0 : 0 + (List.range (p + 1)).length = p + 1 := by rw [List.length_range]; omega
   have HL0 := hid hl0
   clear hb2 hl0
   go_wp2_with fail
   clear q5 g1
   go_loopw [16, 20, 21, 22, 23] (fun v16 v20 _ _ _ wr => ∃ (k : Nat) (X : List UInt8) (L : List Nat), v20 = .int .i64 (k : Int) ∧ Hid (k + L.length = p + 1) ∧ Hid (Nam.Nm X L ∧ L.Nodup) ∧ Hid (NmW w B Z T f X L v16 wr)) (fun _ v20 _ _ _ _ => p + 1 - (intOf v20).toNat)
   case atStart => exact ⟨0, X, List.range (p + 1), rfl, HL0, HNl, HN2⟩
   case round =>
    obtain ⟨k, X, L, rfl, HKl, HNm, HNw⟩ := hrel
    obtain ⟨m, hm⟩ : ∃ m, m = L.length := ⟨_, rfl⟩
    obtain ⟨a16, c16, hv16, hc16⟩ := HNw.out.o.formN (n := m) (by rw [List.length_map, hm])
    subst hv16
    have HM := hid hm
    have hkm := HKl.out
    rw [← hm] at hkm
    have HKm := hid hkm
    clear HNl HN2 HL0 hm
    by_cases h0 : m = 0
    ·subst h0
     have hL0 : L = [] := List.eq_nil_of_length_eq_zero HM.out.symm
     subst hL0
     have hX0 := HNm.out.1.empty
     subst hX0
     clear hkm
     have HIn := hid (show Calls Tryz.prog 22 #[.pointer (some ⟨T, 0, none⟩), .int .i64 1] wr fun e w' => e = .returned (.tuple #[.agg #[.int .i64 2, .int .i64 0, .int .i64 0, .int .i64 0, .int .i64 0, .int .i64 0, .int .i64 0, .int .i64 0, .int .i64 0, .int .i64 0, .int .i64 0], .int .i64 0]) ∧ NmW w B Z T f [] [] (.slice a16 0 c16) w' from by
      obtain ⟨s, fi, R, a1, a2, a3, a4⟩ := HNw.out.ex
      refine (treInode_calls a1 HNw.out.t (n := 1) (by omega) (by rw [a2.ino]; omega) (by rw [a2.ino]; omega) (by rw [a2.df.tb]; omega)).mono ?_
      rintro e w' ⟨rfl, hp, hk⟩
      obtain ⟨e1, e2⟩ := ds_empty a2
      rw [e1, e2]
      exact ⟨rfl, HNw.out.ask a1 a2 a3 a4 hp hk⟩)
     have HRm2 := hid (show ∀ W : World, NmW w B Z T f [] [] (.slice a16 0 c16) W → Calls Tryz.prog 11 #[.pointer (some ⟨Z, 0, none⟩)] W fun e w' => e = .returned (.int .i64 60) ∧ Below W.heap.size W w' from fun W hW => by
      obtain ⟨s, fi, R, a1, a2, a3, a4⟩ := hW.ex
      have h := polRoom_calls a1
      rw [a2.df.np, a2.df.len] at h
      exact h)
     have heq : ∀ w : World, (Op.equalIn 10000 35 (.agg #[.int .i64 2, .int .i64 0, .int .i64 0, .int .i64 0, .int .i64 0, .int .i64 0, .int .i64 0, .int .i64 0, .int .i64 0, .int .i64 0, .int .i64 0]) (.agg #[.int .i64 2, .int .i64 0, .int .i64 0, .int .i64 0, .int .i64 0, .int .i64 0, .int .i64 0, .int .i64 0, .int .i64 0, .int .i64 0, .int .i64 0])).run Tryz.prog w = .ok true w := fun w => eqNod ⟨2, 0, 0, 0, 0, 0, 0, 0, 0, 0, 0⟩ ⟨2, 0, 0, 0, 0, 0, 0, 0, 0, 0, 0⟩ w
     go_wp2_with fail
     refine HIn.out.mono ?_
     rintro e W1 ⟨rfl, hn1⟩
     have HN1 := hid hn1
     clear hn1
     have HJ := hid (Blk.new W1 35 #[.int .i64 0, .int .i64 0, .int .i64 0, .int .i64 0, .int .i64 0, .int .i64 0, .int .i64 0, .int .i64 0, .int .i64 0, .int .i64 0, .int .i64 0])
     obtain ⟨W3, hW3⟩ : ∃ W3, W3 = (W1.alloc (.cells #[.int .i64 0, .int .i64 0, .int .i64 0, .int .i64 0, .int .i64 0, .int .i64 0, .int .i64 0, .int .i64 0, .int .i64 0, .int .i64 0, .int .i64 0] 35)).setRow W1.heap.size #[.int .i64 2, .int .i64 0, .int .i64 0, .int .i64 0, .int .i64 0, .int .i64 0, .int .i64 0, .int .i64 0, .int .i64 0, .int .i64 0, .int .i64 0] := ⟨_, rfl⟩
     have hb3 : Below W1.heap.size W1 W3 := by rw [hW3]; exact ((Below.refl _ W1).alloc (Nat.le_refl _) _).setRow_ (Nat.le_refl _) _
     have hi3 : Blk W3 W1.heap.size 35 #[.int .i64 2, .int .i64 0, .int .i64 0, .int .i64 0, .int .i64 0, .int .i64 0, .int .i64 0, .int .i64 0, .int .i64 0, .int .i64 0, .int .i64 0] := by rw [hW3]; exact HJ.out.row _
     have HW3 := hid hW3
     have HN3 := hid (HN1.out.on hb3)
     have y0 := hi3.cellv (i := 0) rfl
     have y1 := hi3.cellv (i := 1) rfl
     have y2 := hi3.cellv (i := 2) rfl
     have y3 := hi3.cellv (i := 3) rfl
     have y4 := hi3.cellv (i := 4) rfl
     have y5 := hi3.cellv (i := 5) rfl
     have y6 := hi3.cellv (i := 6) rfl
     have y7 := hi3.cellv (i := 7) rfl
     have y8 := hi3.cellv (i := 8) rfl
     have y9 := hi3.cellv (i := 9) rfl
     have y10 := hi3.cellv (i := 10) rfl
     clear hW3 hb3 hi3
     go_wp2_with (refine wpList_store_blk rfl rfl _ _ _ rfl W1.heap.size #[.int .i64 2, .int .i64 0, .int .i64 0, .int .i64 0, .int .i64 0, .int .i64 0, .int .i64 0, .int .i64 0, .int .i64 0, .int .i64 0, .int .i64 0] rfl rfl 35 #[.int .i64 0, .int .i64 0, .int .i64 0, .int .i64 0, .int .i64 0, .int .i64 0, .int .i64 0, .int .i64 0, .int .i64 0, .int .i64 0, .int .i64 0] HJ.out rfl nodInfo (nodOne ⟨2, 0, 0, 0, 0, 0, 0, 0, 0, 0, 0⟩) ?_; rw [← HW3.out])
     refine (HRm2.out W3 HN3.out).mono ?_
     rintro e W4 ⟨rfl, hb4⟩
     have HN4 := hid (HN3.out.on hb4)
     clear hb4 y0 y1 y2 y3 y4 y5 y6 y7 y8 y9 y10
     go_wp2_with fail
     refine (awake_calls _).mono ?_
     rintro e W9 ⟨rfl, hb9⟩
     have HB9 := hid (HN4.out.bel.then_ hb9)
     clear hb9
     go_wp2
     go_ret
     exact ⟨rfl, HB9.out⟩
    ·have g1 : (0 : Int) < (m : Int) := by omega
     have hk99 : k < 1000 ∧ m ≤ 100 := by omega
     clear hkm
     go_upto_if 107 with fail
     go_cut [21] from 102 to 119 (fun v21 wx => ∃ t : Nat, v21 = .int .i64 (t : Int) ∧ t < m ∧ wx = wr)
     case first =>
      by_cases hn : n1 = 0
      ·have g2 : ¬ (0 : Int) < (n1 : Int) := by omega
       clear hn
       go_wp2_with fail
       go_meet
       case rel => exact ⟨0, rfl, by omega, rfl⟩
      ·have g2 : (0 : Int) < (n1 : Int) := by omega
       obtain ⟨j, hj⟩ : ∃ j, j = k % n1 := ⟨_, rfl⟩
       have hjn : j < n1 := by rw [hj]; exact Nat.mod_lt _ (by omega)
       obtain ⟨b, o, hjl, hbo, hbl, hce⟩ := HX.out.at_ (k := j) hjn
       have HBo := hid hbo
       obtain ⟨y, hy⟩ : ∃ y, y = x1[j].toNat := ⟨_, rfl⟩
       have hy256 : y < 256 := by rw [hy]; exact x1[j].toNat_lt
       have hce2 : wr.cell? ⟨b, o + j, none⟩ = some (.int .u8 (y : Int)) := by rw [hy]; exact (HNw.out.bel.cell (p := ⟨b, o + j, none⟩) hbl).trans hce
       obtain ⟨t, htm⟩ : ∃ t, t = y % m := ⟨_, rfl⟩
       have ht : t < m := by rw [htm]; exact Nat.mod_lt _ (by omega)
       have q1 : (k : Int) % (n1 : Int) = (j : Int) := by rw [hj]; exact (Int.natCast_emod k n1).symm
       have q2 : (y : Int) % (m : Int) = (t : Int) := by rw [htm]; exact (Int.natCast_emod y m).symm
       have q1' : Int.tmod (k : Int) (n1 : Int) = (j : Int) := by rw [Int.tmod_eq_emod_of_nonneg (by omega)]; exact q1
       have q2' : Int.tmod (y : Int) (m : Int) = (t : Int) := by rw [Int.tmod_eq_emod_of_nonneg (by omega)]; exact q2
       have q3 := IntWalk.i64_in (y : Int) ⟨by omega, by omega⟩
       have z0 : (0 : Int) ≤ (j : Int) := by omega
       have z1 : (j : Int) < (n1 : Int) := by omega
       have z2 : ((n1 : Int) == 0) = false := by rw [beq_eq_false_iff_ne]; omega
       have z3 : ((m : Int) == 0) = false := by rw [beq_eq_false_iff_ne]; omega
       have HT := hid ht
       clear hj hy hce htm hjl hbo ht
       rw [HBo.out]
       go_wp2_with fail
       rw [← HBo.out]
       go_meet
       case rel => exact ⟨t, rfl, HT.out, rfl⟩
     obtain ⟨t, rfl, ht, rfl⟩ := hcut
     obtain ⟨M, hM⟩ : ∃ M, M + 1 = m := ⟨m - 1, by omega⟩
     have hm2 := HM.out
     obtain ⟨i, hi⟩ : ∃ i, i = L[t]'(by omega) := ⟨_, rfl⟩
     obtain ⟨l, hl⟩ : ∃ l, l = L[L.length - 1]'(by omega) := ⟨_, rfl⟩
     have hiL : i ∈ L := by rw [hi]; exact List.getElem_mem _
     obtain ⟨L', hL'⟩ : ∃ L', L' = (L.set t l).take (L.length - 1) := ⟨_, rfl⟩
     have hsw := Nam.swap_mem HNm.out.2 (t := t) (by omega) hi.symm hl.symm
     rw [← hL'] at hsw
     have HL' := hid (show L'.length = M ∧ L' = (L.set t l).take M from ⟨by rw [hL', List.length_take, List.length_set]; omega, by rw [hL', show L.length - 1 = M from by omega]⟩)
     obtain ⟨g, rfl, _, _⟩ := HNw.out.o.addr (by rw [List.length_map]; omega)
     have hcell : ∀ W X, NmW w B Z T f X L (.slice (some ⟨g, 0, none⟩) m c16) W → W.cell? ⟨g, t, none⟩ = some (.string (strL (Nam.txt i))) := fun W X hW => by
      obtain ⟨h, _⟩ := hW.o.cellg (k := t) (by rw [List.length_map]; omega)
      rw [h, hi, List.getElem_map]
      rfl
     have hcell2 : ∀ W X, NmW w B Z T f X L (.slice (some ⟨g, 0, none⟩) m c16) W → W.cell? ⟨g, M, none⟩ = some (.string (strL (Nam.txt l))) ∧ W.frozen? ⟨g, t, none⟩ = false := fun W X hW => by
      obtain ⟨h, _⟩ := hW.o.cellg (k := M) (by rw [List.length_map]; omega)
      obtain ⟨_, h2⟩ := hW.o.cellg (k := t) (by rw [List.length_map]; omega)
      refine ⟨?_, h2⟩
      rw [h, hl, List.getElem_map]
      simp only [show L.length - 1 = M from by omega]
      rfl
     have HC1 := hid hcell
     have HC2 := hid hcell2
     have HFd := hid (show Calls Tryz.prog 20 #[.pointer (some ⟨T, 0, none⟩), .int .i64 1, .string (strL (Nam.txt i))] wc fun e w' => e = .returned (.tuple #[.int .i64 2, .int .i64 0]) ∧ NmW w B Z T f X L (.slice (some ⟨g, 0, none⟩) m c16) w' from by
      obtain ⟨s, fi, R, a1, a2, a3, a4⟩ := HNw.out.ex
      obtain ⟨kk, hkk⟩ := HNm.out.1.find hiL
      refine (treFind_calls a1 HNw.out.t a3 a2.dirOk (Nam.txt i) (by rw [hkk]; show (0 : Int) ≤ (kk : Int); omega)).mono ?_
      rintro e w' ⟨rfl, hp, hk⟩
      rw [hkk]
      exact ⟨rfl, HNw.out.ask a1 a2 a3 a4 hp hk⟩)
     have HRv := hid (show ∀ W : World, NmW w B Z T f X L (.slice (some ⟨g, 0, none⟩) m c16) W → Calls Tryz.prog 21 #[.pointer (some ⟨T, 0, none⟩), .int .i64 1, .string (strL (Nam.txt i))] W fun e w' => e = .returned (.int .i64 0) ∧ ∃ X', Nam.Nm X' L' ∧ NmW w B Z T f X' L (.slice (some ⟨g, 0, none⟩) m c16) w' from fun W hW => by
      obtain ⟨s, fi, R, a1, a2, a3, a4⟩ := hW.ex
      refine (treRemove_calls a1 hW.t a3 a2 (Nam.txt i) (HNm.out.1.namedE hiL)).mono ?_
      rintro e w' ⟨rfl, s', fi', hd, hp⟩
      exact ⟨rfl, _, HNm.out.1.del hiL hsw.2, hW.next a1 a3 a4 hp hd⟩)
     have HNd := hid hsw.1
     have q9 := IntWalk.i64_in ((k : Int) + 1) ⟨by omega, by omega⟩
     have qM : IntKind.i64.wrap ((m : Int) - 1) = (M : Int) := by
      rw [show (m : Int) - 1 = (M : Int) from by omega]
      exact IntWalk.i64_in _ ⟨by omega, by omega⟩
     have y0 := hcell wc X HNw.out
     have z5 : (t : Int) < (m : Int) := by omega
     have z6 : (M : Int) < (m : Int) := by omega
     have z7 : (0 : Int) ≤ (M : Int) := by omega
     have hcut := cutS_to (some ⟨g, 0, none⟩) m c16 M (by omega)
     have HMm := hid (show M + 1 = m ∧ t < m ∧ L.length = m from ⟨hM, ht, hm2.symm⟩)
     clear hi hl hsw hL' hm2 hM hcell hcell2 ht hiL hk99
     go_wp2_with fail
     refine HFd.out.mono ?_
     rintro e W1 ⟨rfl, hn1⟩
     have HN1 := hid hn1
     have y1 := HC1.out W1 X hn1
     clear hn1 y0
     go_wp2_with fail
     refine (HRv.out W1 HN1.out).mono ?_
     rintro e W2 ⟨rfl, X', hx, hn2⟩
     have HNm2 := hid hx
     have HN2 := hid hn2
     obtain ⟨y2, y3⟩ := HC2.out W2 X' hn2
     have y4 := HC1.out W2 X' hn2
     clear hx hn2 y1
     go_wp2_with fail
     have HW3 := hid (show NmW w B Z T f X' L' (.slice (some ⟨g, 0, none⟩) M c16) (W2.setCell ⟨g, t, none⟩ (.string (strL (Nam.txt l)))) from HN2.out.row (by
      have ho := (HN2.out.o.set t (Nam.txt l)).cut (m := M) (by rw [List.length_set, List.length_map]; have := HMm.out; omega)
      rw [← List.map_set, ← List.map_take, ← HL'.out.2] at ho
      exact ho) ((Kq.one ⟨g, t, none⟩ _).mono fun q e => by rw [e]; rfl) fun q hq => .inl hq)
     go_roundw
     case rel =>
      refine ⟨k + 1, X', L', by go_num, hid ?_, hid ⟨HNm2.out, HNd.out⟩, HW3⟩
      have := HKm.out
      have := HMm.out
      rw [HL'.out.1]
      omega
     case measure =>
      have := HKm.out
      have := HMm.out
      simp [intOf]
      omega
end Go.Proofs.YtcppkaphlcflgaaGreat
