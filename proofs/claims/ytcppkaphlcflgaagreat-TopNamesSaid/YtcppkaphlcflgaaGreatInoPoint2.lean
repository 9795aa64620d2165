import Derived.Lib.SliceRun
import Derived.Test.YtcppkaphlcflgaaGreatInoRight
import Derived.Deep.QuietTactic
import Derived.BigQuiet
import Derived.Deep.RegionHeld3
import Derived.Deep.DeepCutAuto
namespace Go.Proofs.YtcppkaphlcflgaaGreat
open Lib (hid)
set_option maxRecDepth 100000
set_option maxHeartbeats 16000000
section
open Go.RowKit

theorem clone_calls (a : Option Addr) (n c : Nat) (xs : List UInt8) (w : World) (hx : Bytes w w.heap.size a n xs) :
  Calls Tryz.prog 70 #[.slice a n c] w fun e w' => (∃ v, e = .returned v ∧ Own byteV 5 w' w.heap.size v xs) ∧ Below w.heap.size w w' := by
 have HX := hid hx
 have hroom := hx.room
 have hnil := fun w => Lib.run_eql_slice_nil (P := Tryz.prog) w 40 5 a n c 0 0 Tryz.underlying40
 cases a with
 | none =>
  have hn : xs = [] := by
   have hl := hx.len
   by_cases h0 : n = 0
   ·subst h0; exact List.eq_nil_of_length_eq_zero hl
   ·obtain ⟨b, o, _, ha, _⟩ := hx.atv (k := 0) (by omega); cases ha
  subst hn
  simp only [Option.isNone_none] at hnil
  clear hx
  go_enter Tryz.func70, Tryz.ntmps70
  go_wp2
  go_ret
  exact ⟨⟨_, rfl, Own.nil _ _⟩, Below.refl _ _⟩
 | some p =>
  simp only [Option.isNone_some] at hnil
  have ho := hid (Own.made (f := byteV) (e := 5) (w := w) (base := w.heap.size) (xs := ([] : List UInt8)) (Nat.le_refl _) (by simp))
  have hx1 := hid (HX.out.alloc (.cells #[] 5))
  have hb1 := hid ((Below.refl w.heap.size w).alloc (Nat.le_refl _) (.cells #[] 5))
  clear hx
  go_enter Tryz.func70, Tryz.ntmps70
  go_wp2_with (at_builtin; refine wpList_ontoB rfl _ _ rfl w.heap.size _ [] rfl ho.out _ _ n _ xs rfl hx1.out (by simp only [List.length_nil]; omega) (by simp) ?_; intro v1 w1 HO1 hb2)
  go_ret
  refine ⟨⟨_, rfl, ?_⟩, hb1.out.trans hb2.out⟩
  have h := HO1.out
  rw [List.nil_append] at h
  exact h
end
section
open Go.RowKit

theorem pointed_yes (a : Option Addr) (n c : Nat) (k : Int) (w : World) (h : Pt.Has n k) :
  Calls Tryz.prog 158 #[.slice a n c, .int .i64 k] w fun e w' => e = .returned (.bool true) ∧ w = w' := by
 have hb := Pt.has_bound h
 have hd : decide (Ino.Sized n) = true := decide_eq_true h.1
 have h1 := h.2.1
 have h2 : k < (n : Int) / 2 := h.2.2
 have hn : n ≤ 512 := hb.2.1
 have h3 : decide (k < (n : Int) / 2) = true := decide_eq_true h2
 clear h hb
 go_enter Tryz.func158, Tryz.ntmps158
 go_wp2_with fail
 refine (sized_calls _ _).mono ?_
 rintro e w_ ⟨rfl, rfl⟩
 rw [hd]
 go_wp2
 go_ret
 exact ⟨by first | rfl | simp [h2], rfl⟩
theorem pointed_no (a : Option Addr) (n c : Nat) (k : Int) (w : World) (hn : n ≤ 140737488351232) (h : ¬ Pt.Has n k) :
  Calls Tryz.prog 158 #[.slice a n c, .int .i64 k] w fun e w' => e = .returned (.bool false) ∧ w = w' := by
 by_cases hs : Ino.Sized n
 ·have hd : decide (Ino.Sized n) = true := decide_eq_true hs
  by_cases h1 : 0 ≤ k
  ·have h2 : ¬ k < (n : Int) / 2 := fun h2 => h ⟨hs, h1, h2⟩
   have h3 : decide (k < (n : Int) / 2) = false := decide_eq_false h2
   have h4 : (n : Int) / 2 ≤ k := by omega
   clear h hs h2
   go_enter Tryz.func158, Tryz.ntmps158
   go_wp2_with fail
   refine (sized_calls _ _).mono ?_
   rintro e w_ ⟨rfl, rfl⟩
   rw [hd]
   go_wp2
   go_ret
   exact ⟨by first | rfl | simp [h4], rfl⟩
  ·have h3 : decide (0 ≤ k) = false := decide_eq_false h1
   clear h hs
   go_enter Tryz.func158, Tryz.ntmps158
   go_wp2_with fail
   refine (sized_calls _ _).mono ?_
   rintro e w_ ⟨rfl, rfl⟩
   rw [hd]
   go_wp2
   go_ret
   exact ⟨rfl, rfl⟩
 ·have hd : decide (Ino.Sized n) = false := decide_eq_false hs
  clear h hs
  go_enter Tryz.func158, Tryz.ntmps158
  go_wp2_with fail
  refine (sized_calls _ _).mono ?_
  rintro e w_ ⟨rfl, rfl⟩
  rw [hd]
  go_wp2
  go_ret
  exact ⟨rfl, rfl⟩
theorem i64_or_high (X b : Nat) (hX : X < 36028797018963968) (hb : b < 256) : bits .or .i64 (b : Int) ((X : Int) * 256) = ((X * 256 + b : Nat) : Int) := by
 rw [← i64_or_low X b hX hb]
 unfold bits
 simp only [BitVec.or_comm]
theorem pointer_calls (a : Option Addr) (n c : Nat) (xs : List UInt8) (k : Int) (w : World) (hx : Bytes w w.heap.size a n xs) :
  Calls Tryz.prog 119 #[.slice a n c, .int .i64 k] w fun e w' => e = .returned (.tuple #[.int .i64 (Pt.ptrV xs k), .int .i64 (Pt.ptrE xs k)]) ∧ Below w.heap.size w w' := by
 have hl := hx.len
 have hroom := hx.room
 by_cases h : Pt.Has n k
 case neg =>
  obtain ⟨r1, r2⟩ := Pt.ptr_no (xs := xs) (k := k) (by rw [hl]; exact h)
  rw [r1, r2]
  have HP := hid (pointed_no a n c k w hroom h)
  clear r1 r2 h hl hx
  go_enter Tryz.func119, Tryz.ntmps119
  go_wp2_with fail
  refine HP.out.mono ?_
  rintro e w_ ⟨rfl, rfl⟩
  go_wp2
  go_ret2
  exact ⟨rfl, Below.refl _ _⟩
 have HP := hid (pointed_yes a n c k w h)
 have HH := hid (show Pt.Has xs.length k by rw [hl]; exact h)
 obtain ⟨q1, q2, q3, q4⟩ := Pt.has_bound h
 obtain ⟨j, rfl⟩ : ∃ j : Nat, k = j := ⟨k.toNat, q3.symm⟩
 rw [Int.toNat_natCast] at q1 q4
 obtain ⟨b, o, hk0, rfl, hbb, hc0⟩ := hx.at_ (k := 2 * j) (by omega)
 obtain ⟨b', o', hk1, hab, _, hc1⟩ := hx.at_ (k := 2 * j + 1) (by omega)
 simp only [Option.some.injEq, Addr.mk.injEq, and_true] at hab
 obtain ⟨rfl, rfl⟩ := hab
 have h2 := hid (Pt.two_eq (xs := xs) (j := j) (by omega))
 have x0l := (xs[2 * j]).toNat_lt
 have x1l := (xs[2 * j + 1]).toNat_lt
 generalize xs[2 * j].toNat = x0 at *
 generalize xs[2 * j + 1].toNat = x1 at *
 have hor := hid (i64_or_high x1 x0 (by omega) x0l)
 have hn2 : ((2 * j : Nat) : Int) = 2 * (j : Int) := by omega
 have HN2 := hid hn2
 clear h q3 hl hx hn2
 go_enter Tryz.func119, Tryz.ntmps119
 go_wp2_with fail
 refine HP.out.mono ?_
 rintro e w_ ⟨rfl, rfl⟩
 go_wp2_with fail
 have hc0' : w.drew.cell? ⟨b, o + 2 * j, none⟩ = some (.int .u8 (x0 : Int)) := hc0
 have hc1' : w.drew.cell? ⟨b, o + (2 * j + 1), none⟩ = some (.int .u8 (x1 : Int)) := hc1
 refine wp_region_noPanic ?_
 refine wp_region_held_drew (S := (fun W' => W'.cell? ⟨b, o + 2 * j, none⟩ = some (.int .u8 (x0 : Int)) ∧ W'.cell? ⟨b, o + (2 * j + 1), none⟩ = some (.int .u8 (x1 : Int)))) (by kernel_rfl) ⟨hc0', hc1'⟩ (fun hS0 => ?_)
 clear hc0 hc1 hc0' hc1'
 refine tk 0 (.slice (some ⟨b, o, none⟩) n c) rfl (fun _ _ => rfl) ?_
 try simp only [layR]
 refine tk 1 (.int .i64 j) rfl (fun _ _ => rfl) ?_
 try simp only [layR]
 refine tk 2 (.int .i64 (2 * (j : Int))) rfl (fun W hSw => ?_) ?_
 ·have g := IntWalk.i64_in (2 * (j : Int)) ⟨by omega, by omega⟩
  go_simp
 try simp only [layR]
 refine tk 3 (.pointer (some ⟨b, o + 2 * j, none⟩)) rfl (fun W hSw => ?_) ?_
 ·have g1 : (0 : Int) ≤ 2 * (j : Int) := (by omega); have g2 : 2 * (j : Int) < (n : Int) := (by omega); have g3 : (2 * (j : Int)).toNat = 2 * j := (by omega)
  go_simp
 try simp only [layR]
 refine tk 4 (.int .u8 x0) rfl (fun W hSw => ?_) ?_
 ·obtain ⟨e0, e1⟩ := hSw
  go_simp
 try simp only [layR]
 refine tk 5 (.int .i64 x0) rfl (fun W hSw => ?_) ?_
 ·have g := IntWalk.i64_in (x0 : Int) ⟨by omega, by omega⟩
  go_simp
 try simp only [layR]
 refine tk 6 (.slice (some ⟨b, o, none⟩) n c) rfl (fun _ _ => rfl) ?_
 try simp only [layR]
 refine tk 7 (.int .i64 j) rfl (fun _ _ => rfl) ?_
 try simp only [layR]
 refine tk 8 (.int .i64 (2 * (j : Int))) rfl (fun W hSw => ?_) ?_
 ·have g := IntWalk.i64_in (2 * (j : Int)) ⟨by omega, by omega⟩
  go_simp
 try simp only [layR]
 refine tk 9 (.int .i64 (2 * (j : Int) + 1)) rfl (fun W hSw => ?_) ?_
 ·have g := IntWalk.i64_in (2 * (j : Int) + 1) ⟨by omega, by omega⟩
  go_simp
 try simp only [layR]
 refine tk 10 (.pointer (some ⟨b, o + (2 * j + 1), none⟩)) rfl (fun W hSw => ?_) ?_
 ·have g1 : (0 : Int) ≤ 2 * (j : Int) + 1 := (by omega); have g2 : 2 * (j : Int) + 1 < (n : Int) := (by omega); have g3 : (2 * (j : Int) + 1).toNat = 2 * j + 1 := (by omega)
  go_simp
 try simp only [layR]
 refine tk 11 (.int .u8 x1) rfl (fun W hSw => ?_) ?_
 ·obtain ⟨e0, e1⟩ := hSw
  go_simp
 try simp only [layR]
 refine tk 12 (.int .i64 x1) rfl (fun W hSw => ?_) ?_
 ·have g := IntWalk.i64_in (x1 : Int) ⟨by omega, by omega⟩
  go_simp
 try simp only [layR]
 refine tk 13 (.int .i64 ((x1 : Int) * 256)) rfl (fun W hSw => ?_) ?_
 ·have g := IntWalk.i64_in ((x1 : Int) * 256) ⟨by omega, by omega⟩
  go_simp
 try simp only [layR]
 refine tk 14 (.int .i64 (x1 * 256 + x0 : Nat)) rfl (fun W hSw => ?_) ?_
 ·have g := hor.out
  go_simp
 try simp only [layR]
 refine tk 15 (.int .i64 (x1 * 256 + x0 : Nat)) rfl (fun _ _ => rfl) ?_
 try simp only [layR]
 refine wpAnyH_done (by kernel_rfl) ?_ _
 refine NoPanic.normal ?_
 clear hS0
 have hv : Hid (Pt.two xs j = x1 * 256 + x0) := hid (by rw [h2.out]; omega)
 have hlt : x1 * 256 + x0 < 65536 := by omega
 have HT := hid (Int.toNat_natCast j)
 clear h2 hor HN2
 generalize x1 * 256 + x0 = V at *
 by_cases hp : V < 8192
 ·obtain ⟨r1, r2⟩ := Pt.ptr_yes HH.out (by rw [HT.out, hv.out]; exact hp)
  rw [HT.out, hv.out] at r1
  have HR1 := hid r1
  have HR2 := hid r2
  have HPg := hid (page_yes (V : Int) ⟨by omega, by omega⟩ w.drew)
  clear r1 r2 hp
  go_wp2_with fail
  refine HPg.out.mono ?_
  rintro e w_ ⟨rfl, rfl⟩
  go_wp2
  go_ret2
  exact ⟨by rw [HR1.out, HR2.out]; rfl, (Below.refl _ _).drew⟩
 ·obtain ⟨r1, r2⟩ := Pt.ptr_big HH.out (by rw [HT.out, hv.out]; exact hp)
  have HR1 := hid r1
  have HR2 := hid r2
  have HPg := hid (page_no (V : Int) (fun h => by unfold Nod.Pg at h; omega) w.drew)
  clear r1 r2 hp
  go_wp2_with fail
  refine HPg.out.mono ?_
  rintro e w_ ⟨rfl, rfl⟩
  go_wp2
  go_ret2
  exact ⟨by rw [HR1.out, HR2.out]; rfl, (Below.refl _ _).drew⟩
end
section
open Go.RowKit

theorem byte_mod (T : Nat) : Value.int .u8 ((T : Int) % 256) = byteV (UInt8.ofNat T) := by
 unfold byteV
 rw [UInt8.toNat_ofNat']
 exact congrArg (Value.int .u8) (by omega)
theorem byte_low (T : Nat) (h : T < 256) : Value.int .u8 (T : Int) = byteV (UInt8.ofNat T) := by
 unfold byteV
 rw [UInt8.toNat_ofNat', Nat.mod_eq_of_lt h]
theorem byte_div (T : Nat) (h : T < 65536) : Value.int .u8 ((T : Int) / 256) = byteV (UInt8.ofNat (T / 256)) := by
 rw [← byte_low (T / 256) (by omega)]
 exact congrArg (Value.int .u8) (by omega)
def Pointed (xs : List UInt8) (k tt : Int) (w : World) (e : Ending) (w' : World) : Prop := ∃ v, e = .returned (.tuple #[v, .int .i64 (Pt.pointE xs k tt)]) ∧ Own byteV 5 w' w.heap.size v (Pt.pointL xs k tt) ∧ Below w.heap.size w w'
theorem pointed_none {xs : List UInt8} {k tt : Int} {w w' : World} (h : ¬ (Pt.Has xs.length k ∧ Nod.Pg tt)) (hb : Below w.heap.size w w') : Pointed xs k tt w (.returned (.tuple #[.slice none 0 0, .int .i64 1])) w' := by
 unfold Pointed
 rw [(Pt.pointed_no h).1, (Pt.pointed_no h).2]
 exact ⟨_, rfl, Own.nil _ _, hb⟩
theorem point_calls (a : Option Addr) (n c : Nat) (xs : List UInt8) (k tt : Int) (w : World) (hx : Bytes w w.heap.size a n xs) :
  Calls Tryz.prog 120 #[.slice a n c, .int .i64 k, .int .i64 tt] w (Pointed xs k tt w) := by
 have hl := hx.len
 have hroom := hx.room
 by_cases h : Pt.Has n k
 case neg =>
  have HN := hid (fun w' (hb : Below w.heap.size w w') => pointed_none (xs := xs) (k := k) (tt := tt) (fun g => h (by rw [← hl]; exact g.1)) hb)
  have HP := hid (pointed_no a n c k w hroom h)
  clear h hl hx
  go_enter Tryz.func120, Tryz.ntmps120
  go_wp2_with fail
  refine HP.out.mono ?_
  rintro e w_ ⟨rfl, rfl⟩
  go_wp2
  go_ret2
  exact HN.out _ (Below.refl _ _)
 have HP := hid (pointed_yes a n c k w h)
 by_cases hp : Nod.Pg tt
 case neg =>
  have HN := hid (fun w' (hb : Below w.heap.size w w') => pointed_none (xs := xs) (k := k) (tt := tt) (fun g => hp g.2) hb)
  have HG := hid (page_no tt hp w)
  clear h hl hx hp
  go_enter Tryz.func120, Tryz.ntmps120
  go_wp2_with fail
  refine HP.out.mono ?_
  rintro e w_ ⟨rfl, rfl⟩
  go_wp2_with fail
  refine HG.out.mono ?_
  rintro e w_ ⟨rfl, rfl⟩
  go_wp2
  go_ret2
  exact HN.out _ (Below.refl _ _)
 have HG := hid (page_yes tt hp w)
 obtain ⟨r1, r2⟩ := Pt.pointed (xs := xs) (k := k) (tt := tt) ⟨by rw [hl]; exact h, hp⟩
 unfold Nod.Pg at hp
 obtain ⟨T, rfl⟩ : ∃ T : Nat, tt = T := ⟨tt.toNat, by omega⟩
 obtain ⟨q1, q2, q3, q4⟩ := Pt.has_bound h
 obtain ⟨j, rfl⟩ : ∃ j : Nat, k = j := ⟨k.toNat, q3.symm⟩
 rw [Int.toNat_natCast, Int.toNat_natCast] at r1
 rw [Int.toNat_natCast] at q1 q4
 have HR1 := hid r1
 have HR2 := hid r2
 have hT : T < 8192 := by omega
 have HX := hid hx
 have hlen := hid hl
 clear h q3 hl hx r1 r2 hp
 have b1 : (0 : Int) ≤ 2 * (j : Int) := by omega
 have b2 : 2 * (j : Int) < (n : Int) := by omega
 have b3 : (0 : Int) ≤ 2 * (j : Int) + 1 := by omega
 have b4 : 2 * (j : Int) + 1 < (n : Int) := by omega
 go_enter Tryz.func120, Tryz.ntmps120
 go_wp2_with fail
 refine HP.out.mono ?_
 rintro e w_ ⟨rfl, rfl⟩
 go_wp2_with fail
 refine HG.out.mono ?_
 rintro e w_ ⟨rfl, rfl⟩
 go_wp2_with fail
 refine (clone_calls a n c xs _ HX.out).mono ?_
 rintro e w1 ⟨⟨v1, rfl, ho⟩, hb⟩
 obtain ⟨a1, c1, rfl, _⟩ := ho.formN (n := n) hlen.out
 obtain ⟨g, rfl, hgb, _⟩ := ho.addr (by rw [hlen.out]; omega)
 have HO := hid ho
 have HB := hid hb
 obtain ⟨hc0, hf0⟩ := ho.cellg (k := 2 * j) (by rw [hlen.out]; omega)
 obtain ⟨hc1, hf1⟩ := ho.cellg (k := 2 * j + 1) (by rw [hlen.out]; omega)
 have HS := hid (Pt.put_sets (xs := xs) (j := j) (tt := T) (by rw [hlen.out]; omega))
 clear ho hb
 go_wp2
 go_ret2
 have hset := (HO.out.set (2 * j) (UInt8.ofNat T)).set (2 * j + 1) (UInt8.ofNat (T / 256))
 rw [HS.out, ← byte_mod, ← byte_div T (by omega)] at hset
 unfold Pointed
 rw [HR1.out, HR2.out]
 exact ⟨_, rfl, hset, (HB.out.setCell (p := ⟨g, 2 * j, none⟩) hgb _).setCell (p := ⟨g, 2 * j + 1, none⟩) hgb _⟩
end
end Go.Proofs.YtcppkaphlcflgaaGreat
