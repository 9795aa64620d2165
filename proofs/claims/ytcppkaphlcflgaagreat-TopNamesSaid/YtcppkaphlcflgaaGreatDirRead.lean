import Derived.Test.YtcppkaphlcflgaaGreatDirCopy2
import Derived.Test.YtcppkaphlcflgaaGreatSlEq
import Derived.Deep.QuietTactic
import Derived.BigQuiet
import Derived.Laws.BytesArg
import Derived.Laws.BytesString
import Derived.Lib.SlicesS
namespace Go.Proofs.YtcppkaphlcflgaaGreat
open Lib (hid)
set_option maxRecDepth 100000
set_option maxHeartbeats 16000000
section
open Go.RowKit

def entV (e : Ent) : Value := .agg #[.int .i64 e.i, .string (strL e.nm)]
theorem entV_eq (e : Ent) : entV e = .agg #[.int .i64 e.i, .string (strL e.nm)] := rfl
def entO (e : Ent) : Obj := .cells #[.int .i64 e.i, .string (strL e.nm)] 114
attribute [go_sem] entV_eq
def WriteR (e : Ent) (w : World) (x : Ending) (w' : World) : Prop := (∃ v, x = .returned (.tuple #[v, .int .i64 (Dir.writeE e)]) ∧ Own byteV 5 w' w.heap.size v (Dir.writeL e)) ∧ Below w.heap.size w w'
theorem inode_calls (i : Int) (w : World) : Calls Tryz.prog 95 #[.int .i64 i] w fun e w' => e = .returned (.bool (Dir.okI i)) ∧ w = w' := by
 unfold Dir.okI
 cases h1 : decide (1 ≤ i)
 all_goals
  go_enter Tryz.func95, Tryz.ntmps95
  go_wp2
  go_ret
  exact ⟨rfl, rfl⟩
theorem writeR_bad {e : Ent} {w w' : World} (he : ¬ Dir.writeE e = 0) (hb : Below w.heap.size w w') : WriteR e w (.returned (.tuple #[.slice none 0 0, .int .i64 (Dir.writeE e)])) w' := by
 unfold WriteR Dir.writeL
 rw [if_neg he]
 exact ⟨⟨_, rfl, Own.nil _ _⟩, hb⟩
theorem byte_mod (T : Nat) : Value.int .u8 ((T : Int) % 256) = byteV (UInt8.ofNat T) := by
 unfold byteV
 rw [UInt8.toNat_ofNat']
 exact congrArg (Value.int .u8) (by omega)
theorem byte_low (T : Nat) (h : T < 256) : Value.int .u8 (T : Int) = byteV (UInt8.ofNat T) := by
 unfold byteV
 rw [UInt8.toNat_ofNat', Nat.mod_eq_of_lt h]
theorem byte_div (T : Nat) (h : T < 65536) : Value.int .u8 ((T : Int) / 256) = byteV (UInt8.ofNat (T / 256)) := by
 rw [← byte_low (T / 256) (by omega)]
 exact congrArg (Value.int .u8) (by omega)
theorem write_calls (e : Ent) (w : World) (hn : e.nm.length ≤ 140737488351232) :
  Calls Tryz.prog 51 #[entV e] w (WriteR e w) := by
 have hbl := hid ((Below.refl w.heap.size w).alloc (Nat.le_refl _) (entO e))
 by_cases hi : Dir.okI e.i = true
 case neg =>
  have hE : Dir.writeE e = 1 := if_neg hi
  have HB := hid (fun w' => writeR_bad (w := w) (w' := w') (e := e) (by omega))
  rw [hE] at HB
  have hi2 : Dir.okI e.i = false := by simpa using hi
  obtain ⟨i, nm⟩ := e
  clear hi hE
  go_enter Tryz.func51, Tryz.ntmps51
  go_wp2_with fail
  refine (inode_calls i _).mono ?_
  rintro e w_ ⟨rfl, rfl⟩
  rw [hi2]
  go_wp2
  go_ret2
  exact HB.out _ hbl.out
 have hE : Dir.writeE e = Pth.nameE e.nm := if_pos hi
 by_cases hnm : Pth.nameE e.nm = 0
 case neg =>
  have HB := hid (fun w' => writeR_bad (w := w) (w' := w') (e := e) (by rw [hE]; exact hnm))
  rw [hE] at HB
  obtain ⟨i, nm⟩ := e
  have HN := hid (fun w => name_calls nm w hn)
  simp only at hnm HB hi
  generalize Pth.nameE nm = E at *
  have g1 : (E == 0) = false := by simpa using hnm
  have g2 : (E != 0) = true := by simpa using hnm
  clear hE hnm
  go_enter Tryz.func51, Tryz.ntmps51
  go_wp2_with fail
  refine (inode_calls i _).mono ?_
  rintro e w_ ⟨rfl, rfl⟩
  rw [hi]
  go_wp2_with fail
  refine (HN.out _).mono ?_
  rintro e w_ ⟨rfl, rfl⟩
  go_wp2
  go_ret2
  exact HB.out _ hbl.out
 rw [hnm] at hE
 have HW := hid (show Dir.writeL e = Dir.slotL e from if_pos hE)
 have HE := hid hE
 have HN := hid (fun w => name_calls e.nm w hn)
 rw [hnm] at HN
 obtain ⟨i, nm⟩ := e
 obtain ⟨h1, h2⟩ := Dir.nameE_len hnm
 obtain ⟨h3, h4⟩ := (Dir.okI_iff i).1 hi
 obtain ⟨I, rfl⟩ : ∃ I : Nat, i = I := ⟨i.toNat, by omega⟩
 simp only at h1 h2 h3 h4 hi HN
 have b0 := hid (Blk.new w 114 #[.int .i64 (I : Int), .string (strL nm)])
 unfold WriteR
 clear hE hnm hn
 have hmk : ∀ u : World, (Instr.makeSlice 40 (.int .i64 16) (.int .i64 16)).run Tryz.prog u = .ok (.slice (some ⟨u.heap.size, 0, none⟩) 16 16) (u.alloc (.cells (Array.replicate 16 (.int .u8 0)) 5)) := makeZ 16 (by decide)
 go_enter Tryz.func51, Tryz.ntmps51
 go_wp2_with fail
 refine (inode_calls _ _).mono ?_
 rintro e w_ ⟨rfl, rfl⟩
 rw [hi]
 go_wp2_with fail
 refine (HN.out _).mono ?_
 rintro e w_ ⟨rfl, rfl⟩
 go_wp2_with fail
 obtain ⟨w1, hw1⟩ : ∃ w1, w1 = (w.alloc (.cells #[.int .i64 (I : Int), .string (strL nm)] 114)).alloc (.cells (Array.replicate 16 (.int .u8 0)) 5) := ⟨_, rfl⟩
 obtain ⟨g, hg⟩ : ∃ g, g = w.heap.size + 1 := ⟨_, rfl⟩
 have b1 := b0.out.alloc (.cells (Array.replicate 16 (.int .u8 0)) 5)
 have ho := ownMadeZ (w.alloc (.cells #[.int .i64 (I : Int), .string (strL nm)] 114)) (w.alloc (.cells #[.int .i64 (I : Int), .string (strL nm)] 114)).heap.size 16 (Nat.le_refl _) (by decide)
 have hb := hbl.out.alloc (by simp [entO]) (.cells (Array.replicate 16 (.int .u8 0)) 5)
 unfold entO at hb
 have hgz : (w.alloc (.cells #[.int .i64 (I : Int), .string (strL nm)] 114)).heap.size = g := by rw [hg]; simp
 rw [hgz] at ho
 rw [← hw1] at b1 ho hb ⊢
 rw [← hg]
 have hne : w.heap.size ≠ g := by omega
 have hgb : w.heap.size ≤ g := by omega
 have hlt := hid (show w.heap.size < g by omega)
 have e0 := b1.cellv (i := 0) rfl
 have e1 := b1.cellv (i := 1) rfl
 obtain ⟨c0, f0⟩ := ho.cellg (k := 0) (by simp)
 obtain ⟨c1, f1⟩ := ho.cellg (k := 1) (by simp)
 obtain ⟨c2, f2⟩ := ho.cellg (k := 2) (by simp)
 have HO := hid ho
 have HB := hid hb
 have B1 := hid b1
 clear hw1 hg hgz ho hb b1 b0 hbl
 have q3 : (1 : Int) ≤ (I : Int) := h3
 have q4 : (I : Int) ≤ 65535 := h4
 have q5 : IntKind.u8.wrap (I : Int) = (I : Int) % 256 := IntKind.wrap_u8 _
 have q6 : IntKind.u8.wrap ((I : Int) / 256) = (I : Int) / 256 := IntWalk.u8_in _ ⟨by omega, by omega⟩
 have q7 : IntKind.u8.wrap (nm.length : Int) = (nm.length : Int) := IntWalk.u8_in _ ⟨by omega, by omega⟩
 refine wp_region_noPanic ?_
 refine wp_region_held_drew (S := (fun W' => Blk W' w.heap.size 114 #[.int .i64 (I : Int), .string (strL nm)])) (by kernel_rfl) B1.out (fun hS0 => ?_)
 refine tk 0 (.slice (some ⟨g, 0, none⟩) 16 16) rfl (fun _ _ => rfl) ?_
 try simp only [layR]
 refine tk 1 (.slice (some ⟨g, 0, none⟩) 16 16) rfl (fun _ _ => rfl) ?_
 try simp only [layR]
 refine tk 2 (.slice (some ⟨g, 0, none⟩) 16 16) rfl (fun _ _ => rfl) ?_
 try simp only [layR]
 refine tk 3 (.pointer (some ⟨w.heap.size, 0, none⟩)) rfl (fun W hSw => ?_) ?_
 ·go_simp
 try simp only [layR]
 refine tk 4 (.int .i64 (I : Int)) rfl (fun W hSw => ?_) ?_
 ·have r0 := hSw.cellv (i := 0) rfl
  go_simp
 try simp only [layR]
 refine tk 5 (.int .u8 ((I : Int) % 256)) rfl (fun W hSw => ?_) ?_
 ·go_simp
 try simp only [layR]
 refine tk 6 (.pointer (some ⟨w.heap.size, 0, none⟩)) rfl (fun W hSw => ?_) ?_
 ·go_simp
 try simp only [layR]
 refine tk 7 (.int .i64 (I : Int)) rfl (fun W hSw => ?_) ?_
 ·have r0 := hSw.cellv (i := 0) rfl
  go_simp
 try simp only [layR]
 refine tk 8 (.int .i64 ((I : Int) / 256)) rfl (fun W hSw => ?_) ?_
 ·go_simp
 try simp only [layR]
 refine tk 9 (.int .u8 ((I : Int) / 256)) rfl (fun W hSw => ?_) ?_
 ·go_simp
 try simp only [layR]
 refine tk 10 (.pointer (some ⟨w.heap.size, 1, none⟩)) rfl (fun W hSw => ?_) ?_
 ·go_simp
 try simp only [layR]
 refine tk 11 (.string (strL nm)) rfl (fun W hSw => ?_) ?_
 ·have r1 := hSw.cellv (i := 1) rfl
  go_simp
 try simp only [layR]
 refine tk 12 (.int .i64 nm.length) rfl (fun W hSw => ?_) ?_
 ·go_simp
 try simp only [layR]
 refine tk 13 (.int .u8 nm.length) rfl (fun W hSw => ?_) ?_
 ·go_simp
 try simp only [layR]
 refine tk 14 (.pointer (some ⟨g, 0, none⟩)) rfl (fun W hSw => ?_) ?_
 ·go_simp
 try simp only [layR]
 refine rd 15 rfl (fun K' hK => ?_)
 go_simp
 have bs1 := B1.out.far (p := ⟨g, 0, none⟩) hne (.int .u8 ((I : Int) % 256))
 refine hK.out _ _ bs1 (fun hS1 => ?_)
 try simp only [layR]
 refine tk 16 (.pointer (some ⟨g, 1, none⟩)) rfl (fun W hSw => ?_) ?_
 ·go_simp
 try simp only [layR]
 refine rd 17 rfl (fun K' hK => ?_)
 go_simp
 have bs2 := bs1.far (p := ⟨g, 1, none⟩) hne (.int .u8 ((I : Int) / 256))
 refine hK.out _ _ bs2 (fun hS2 => ?_)
 try simp only [layR]
 refine tk 18 (.pointer (some ⟨g, 2, none⟩)) rfl (fun W hSw => ?_) ?_
 ·go_simp
 try simp only [layR]
 refine rd 19 rfl (fun K' hK => ?_)
 go_simp
 have bs3 := bs2.far (p := ⟨g, 2, none⟩) hne (.int .u8 (nm.length : Int))
 refine hK.out _ _ bs3 (fun hS3 => ?_)
 try simp only [layR]
 refine wpAnyH_done (by kernel_rfl) ?_ _
 refine NoPanic.normal ?_
 have hset := ((HO.out.set 0 (UInt8.ofNat I)).set 1 (UInt8.ofNat (I / 256))).set 2 (UInt8.ofNat nm.length)
 rw [← byte_mod, ← byte_div I (by omega), ← byte_low nm.length (by omega)] at hset
 have hb3 := ((HB.out.setCell (p := ⟨g, 0, none⟩) hgb (.int .u8 ((I : Int) % 256))).setCell (p := ⟨g, 1, none⟩) hgb (.int .u8 ((I : Int) / 256))).setCell (p := ⟨g, 2, none⟩) hgb (.int .u8 (nm.length : Int))
 obtain ⟨w2, hw2⟩ : ∃ w2, w2 = (((w1.setCell ⟨g, 0, none⟩ (.int .u8 ((I : Int) % 256))).setCell ⟨g, 1, none⟩ (.int .u8 ((I : Int) / 256))).setCell ⟨g, 2, none⟩ (.int .u8 (nm.length : Int))).drew := ⟨_, rfl⟩
 rw [← hw2]
 have HO2 : Own byteV 5 w2 g (.slice (some ⟨g, 0, none⟩) 16 16) (UInt8.ofNat I :: UInt8.ofNat (I / 256) :: UInt8.ofNat nm.length :: List.replicate 13 0) := by rw [hw2]; exact hset
 have HB2 : Below w.heap.size w w2 := by rw [hw2]; exact hb3.drew
 have BS2 : Blk w2 w.heap.size 114 #[.int .i64 (I : Int), .string (strL nm)] := by rw [hw2]; exact bs3
 have H2 := hid HO2
 have HB2' := hid HB2
 have BS2' := hid BS2
 clear hw2 hset hb3 bs1 bs2 bs3 hS1 hS2 hS3 hS0 c0 c1 c2 f0 f1 f2 e0 e1 HO HB B1 HO2 HB2 BS2
 go_wp2_with fail
 refine wp_region_noPanic ?_
 refine wp_region_held_drew (S := (fun W' => Blk W' w.heap.size 114 #[.int .i64 (I : Int), .string (strL nm)])) (by kernel_rfl) BS2'.out (fun hS0 => ?_)
 refine tk 0 (.slice (some ⟨g, 0, none⟩) 16 16) rfl (fun _ _ => rfl) ?_
 try simp only [layR]
 refine tk 1 (.slice (some ⟨g, 3, none⟩) 13 13) rfl (fun W hSw => ?_) ?_
 ·go_simp
 try simp only [layR]
 refine tk 2 (.pointer (some ⟨w.heap.size, 1, none⟩)) rfl (fun W hSw => ?_) ?_
 ·go_simp
 try simp only [layR]
 refine tk 3 (.string (strL nm)) rfl (fun W hSw => ?_) ?_
 ·have r1 := hSw.cellv (i := 1) rfl
  go_simp
 try simp only [layR]
 refine rd 4 rfl (fun K' hK => ?_)
 refine step_copyS rfl (.tmp 35) (.tmp 37) rfl g g 16 16 3 13 13 _ rfl H2.out nm rfl (by omega) (by omega) ?_
 intro w3 HO3 HB3
 refine hK.out _ _ (BS2'.out.drew.below HB3.out hlt.out) (fun hS4 => ?_)
 try simp only [layR]
 refine wpAnyH_done (by kernel_rfl) ?_ _
 refine NoPanic.normal ?_
 go_wp2
 go_ret2
 rw [HE.out]
 refine ⟨⟨_, rfl, ?_⟩, ?_⟩
 ·rw [HW.out]
  have ho3 := HO3.out.mono hgb
  have e : (UInt8.ofNat I :: UInt8.ofNat (I / 256) :: UInt8.ofNat nm.length :: List.replicate 13 (0 : UInt8)).take 3 ++ nm ++ (UInt8.ofNat I :: UInt8.ofNat (I / 256) :: UInt8.ofNat nm.length :: List.replicate 13 (0 : UInt8)).drop (3 + nm.length) = Dir.slotL ⟨(I : Int), nm⟩ := by
   have hd : (UInt8.ofNat I :: UInt8.ofNat (I / 256) :: UInt8.ofNat nm.length :: List.replicate 13 (0 : UInt8)).drop (3 + nm.length) = List.replicate (13 - nm.length) 0 := by
    rw [← List.drop_drop]
    show (List.replicate 13 (0 : UInt8)).drop nm.length = _
    rw [List.drop_replicate]
   rw [hd]
   rfl
  rw [e] at ho3
  exact ho3
 ·exact HB2'.out.drew.trans (HB3.out.mono hgb)
end
section
open Go.RowKit

namespace Dir
theorem isZ_take_snoc (b : List UInt8) (k : Nat) (h : k < b.length) : isZ (b.take (k + 1)) = (isZ (b.take k) && (b[k] == 0)) := by
 unfold isZ
 rw [List.take_succ_eq_append_getElem h, List.all_append]; simp
theorem isZ_no {b : List UInt8} {k : Nat} (h : k < b.length) (hk : (b[k] == 0) = false) : isZ b = false := by
 cases hz : isZ b
 ·rfl
 ·rw [isZ, List.all_eq_true] at hz
  rw [hz _ (List.getElem_mem h)] at hk; cases hk
end Dir
theorem byte0 (c : UInt8) : ((c.toNat : Int) == 0) = (c == 0) := by
 rw [Bool.eq_iff_iff, beq_iff_eq, beq_iff_eq]
 constructor
 ·intro h; apply UInt8.toNat_inj.1; show c.toNat = 0; omega
 ·rintro rfl; rfl
theorem nonzero_calls (c : UInt8) (w : World) : Calls Tryz.prog 143 #[.int .u8 (c.toNat : Int)] w fun e w' => e = .returned (.bool (!(c == 0))) ∧ w = w' := by
 have h := hid (byte0 c)
 go_enter Tryz.func143, Tryz.ntmps143
 go_wp2
 go_ret
 exact ⟨by rw [← h.out]; rfl, rfl⟩
theorem indexNZ_calls (a : Option Addr) (n c : Nat) (b : List UInt8) (w : World) (hx : Bytes w w.heap.size a n b) :
  Calls Tryz.prog 172 #[.slice a n c, .func (.func 143) #[] #[]] w fun e w' => (∃ r : Int, e = .returned (.int .i64 r) ∧ -1 ≤ r ∧ Dir.isZ b = decide (r < 0)) ∧ w = w' := by
 have hl := hx.len
 have hroom := hx.room
 have HX := hid hx
 have HL := hid hl
 clear hx hl
 go_enter Tryz.func172, Tryz.ntmps172
 go_wp2
 go_loop [5, 8] (fun _ i => ∃ k : Nat, k ≤ n ∧ i = .int .i64 k ∧ Dir.isZ (b.take k) = true) (fun _ i => n - (intOf i).toNat)
 case atStart => exact ⟨0, by omega, rfl, rfl⟩
 case round =>
  obtain ⟨k, hk, rfl, hz⟩ := hrel
  have HZ := hid hz
  clear hz
  by_cases hlt : k < n
  ·obtain ⟨b1, o1, hk1, rfl, hbl1, hc1⟩ := HX.out.at_ (k := k) hlt
   have hsn := hid (Dir.isZ_take_snoc b k hk1)
   have hno := hid (fun h => Dir.isZ_no hk1 h)
   have hcc := hid (fun w => nonzero_calls b[k] w)
   cases hb : b[k] == 0
   ·rw [hb] at hcc hno
    have hno2 := hid (hno.out rfl)
    clear hno hsn hb
    go_wp2_with fail
    refine (hcc.out _).mono ?_
    rintro e w_ ⟨rfl, rfl⟩
    go_wp2
    go_ret
    exact ⟨⟨k, rfl, by omega, by rw [hno2.out, decide_eq_false (by omega)]⟩, rfl⟩
   ·rw [hb] at hcc hsn
    clear hno hb
    go_wp2_with fail
    refine (hcc.out _).mono ?_
    rintro e w_ ⟨rfl, rfl⟩
    go_wp2
    go_round
    case rel => exact ⟨k + 1, by omega, by go_num, by rw [hsn.out, HZ.out]; rfl⟩
    case measure => simp [intOf]; omega
  ·obtain rfl : k = n := by omega
   go_wp2
   go_ret
   exact ⟨⟨-1, rfl, by omega, by rw [List.take_of_length_le (by rw [HL.out]; omega)] at HZ; rw [HZ.out]; rfl⟩, rfl⟩
theorem containsNZ_calls (a : Option Addr) (n c : Nat) (b : List UInt8) (w : World) (hx : Bytes w w.heap.size a n b) :
  Calls Tryz.prog 142 #[.slice a n c, .func (.func 143) #[] #[]] w fun e w' => e = .returned (.bool (!Dir.isZ b)) ∧ w = w' := by
 go_enter Tryz.func142, Tryz.ntmps142
 go_wp2_with fail
 refine (indexNZ_calls a n c b _ hx).mono ?_
 rintro e w_ ⟨⟨r, rfl, hr, hz⟩, rfl⟩
 have HZ := hid hz
 clear hz
 by_cases h0 : r < 0
 ·have g1 : decide ((0 : Int) ≤ r) = false := decide_eq_false (by omega)
  rw [decide_eq_true h0] at HZ
  clear h0
  go_wp2
  go_ret
  exact ⟨by rw [HZ.out]; rfl, rfl⟩
 ·have g1 : decide ((0 : Int) ≤ r) = true := decide_eq_true (by omega)
  rw [decide_eq_false h0] at HZ
  clear h0
  go_wp2
  go_ret
  exact ⟨by rw [HZ.out]; rfl, rfl⟩
theorem empty_calls (a : Option Addr) (n c : Nat) (b : List UInt8) (w : World) (hx : Bytes w w.heap.size a n b) :
  Calls Tryz.prog 99 #[.slice a n c] w fun e w' => e = .returned (.bool (Dir.isZ b)) ∧ w = w' := by
 have hc := hid (containsNZ_calls a n c b w hx)
 clear hx
 generalize Dir.isZ b = D at *
 cases D
 all_goals
  go_enter Tryz.func99, Tryz.ntmps99
  go_wp2_with fail
  refine hc.out.mono ?_
  rintro e w_ ⟨rfl, rfl⟩
  go_wp2
  go_ret
  exact ⟨rfl, rfl⟩
end
section
open Go.RowKit Go

theorem convB {w : World} {B : Nat} {a : Option Addr} {n c : Nat} {xs : List UInt8} (hx : Bytes w B a n xs) :
  (convert 40 9 (.slice a n c)).run Tryz.prog w = .ok (.string (strL xs)) w := by
 have hl := hx.len
 by_cases hn : n = 0
 ·subst hn
  obtain rfl : xs = [] := List.eq_nil_of_length_eq_zero hl
  rw [run_convert_bytes_string w _ _ _ a 0 c Tryz.underlying40 Tryz.underlying5 Tryz.underlying9]
  cases a with
  | none => rfl
  | some a =>
   have h := run_loadCells_list (P := Tryz.prog) w a [] (fun j v hj => by simp at hj)
   exact run_bytesToString w a 0 c [] h
 ·obtain ⟨b, o, _, rfl, _, _⟩ := hx.at_ (k := 0) (by omega)
  have h := run_convert_bytes_arg (P := Tryz.prog) w 40 5 Tryz.underlying40 Tryz.underlying5 b o n c (xs.map fun x => (x.toNat : Int)) (by simp [hl])
   (fun i hi => by
    obtain ⟨b', o', hi', hb, _, hc⟩ := hx.at_ hi
    simp only [Option.some.injEq, Addr.mk.injEq, and_true] at hb
    obtain ⟨rfl, rfl⟩ := hb
    rw [hc]
    simp [List.getD, hi']) 9 Tryz.underlying9
  have e : (xs.map fun x => (x.toNat : Int)).map (fun n => UInt8.ofNat n.toNat) = xs := by
   rw [List.map_map]
   conv => rhs; rw [← List.map_id xs]
   apply List.map_congr_left
   intro x _
   simp
  have e2 : strOfNums (xs.map fun x => (x.toNat : Int)) = strL xs := by
   unfold strOfNums strL
   rw [e]
  rw [e2] at h
  exact h
end
section
open Go.RowKit

def ReadR (b : List UInt8) (w : World) (x : Ending) (w' : World) : Prop := x = .returned (.tuple #[entV (Dir.readR b).1, .bool (Dir.readR b).2.1, .int .i64 (Dir.readR b).2.2]) ∧ Below w.heap.size w w'
theorem i64_or_hi (x y : Nat) (hx : x < 256) (hy : y < 256) : bits .or .i64 (x : Int) ((y : Int) * 256) = ((x + 256 * y : Nat) : Int) := by
 have h1 : x ||| y * 256 = x + 256 * y := by
  have h := Nat.two_pow_add_eq_or_of_lt (i := 8) (b := x) hx y
  rw [Nat.or_comm, Nat.mul_comm y 256, Nat.add_comm]
  exact h.symm
 have e : (y : Int) * 256 = ((y * 256 : Nat) : Int) := by omega
 rw [e]
 have a1 : (BitVec.ofInt 64 ((y * 256 : Nat) : Int)).toNat = y * 256 := ofInt_i64 _ (by omega)
 have a2 : (BitVec.ofInt 64 (x : Int)).toNat = x := ofInt_i64 _ (by omega)
 show IntKind.i64.wrap ((BitVec.ofInt 64 (x : Int) ||| BitVec.ofInt 64 ((y * 256 : Nat) : Int)).toNat : Int) = _
 rw [BitVec.toNat_or, a1, a2, h1]
 exact IntWalk.i64_in _ ⟨by omega, by omega⟩
theorem entOne (e : Ent) : (#[.int .i64 e.i, .string (strL e.nm)] : Array Value).all (·.oneCell') = true := by simp [Value.oneCell']
theorem entInfo : (Tryz.prog.info? 114).map (·.size) = some 2 := by kernel_rfl
theorem read_bad {b : List UInt8} {E : Int} {w w' : World} (h : Dir.readR b = (Dir.none_, false, E)) (hb : Below w.heap.size w w') : ReadR b w (.returned (.tuple #[.agg #[.int .i64 0, .string ⟨#[]⟩], .bool false, .int .i64 E])) w' := by
 unfold ReadR
 rw [h]
 exact ⟨rfl, hb⟩
theorem read_len (a : Option Addr) (n c : Nat) (b : List UInt8) (w : World) (hx : Bytes w w.heap.size a n b) (h : n ≠ 16) :
  Calls Tryz.prog 141 #[.slice a n c] w (ReadR b w) := by
 have h1 : ((n : Int) != 16) = true := by rw [bne_iff_ne]; omega
 have HB := hid (fun w' => read_bad (w := w) (w' := w') (b := b) (E := 1) (by unfold Dir.readR; rw [if_pos (by rw [hx.len]; exact h)]))
 clear hx h
 go_enter Tryz.func141, Tryz.ntmps141
 go_wp2
 refine bodyPost_ret (v := .tuple #[.agg #[.int .i64 0, .string ⟨#[]⟩], .bool false, .int .i64 1]) (by simp [results, Tryz.results141, go_sem]) rfl (HB.out _ ((Below.refl _ _).alloc (Nat.le_refl _) _))
theorem read_zero (a : Option Addr) (c : Nat) (b : List UInt8) (w : World) (hx : Bytes w w.heap.size a 16 b) (h : Dir.isZ b = true) :
  Calls Tryz.prog 141 #[.slice a 16 c] w (ReadR b w) := by
 have HB := hid (fun w' => read_bad (w := w) (w' := w') (b := b) (E := 0) (by unfold Dir.readR; rw [if_neg (by rw [hx.len]; omega), if_pos h]))
 have he := hid (empty_calls a 16 c b _ (hx.alloc (.cells #[.int .i64 0, .string ⟨#[]⟩] 114)))
 rw [h] at he
 have b0 := Blk.new w 114 #[.int .i64 0, .string ⟨#[]⟩]
 have hb1 := (Below.refl w.heap.size w).alloc (Nat.le_refl _) (.cells #[.int .i64 0, .string ⟨#[]⟩] 114)
 clear hx h
 go_enter Tryz.func141, Tryz.ntmps141
 go_wp2_with fail
 refine he.out.mono ?_
 rintro e w_ ⟨rfl, rfl⟩
 go_wp2
 refine bodyPost_ret (v := .tuple #[.agg #[.int .i64 0, .string ⟨#[]⟩], .bool false, .int .i64 0]) (by simp [results, Tryz.results141, go_sem]) rfl (HB.out _ ((Below.refl _ _).alloc (Nat.le_refl _) _))
theorem bytes_getD {w : World} {B : Nat} {a : Option Addr} {n : Nat} {b : List UInt8} (hx : Bytes w B a n b) (hn : 0 < n) : ∃ g o, a = some ⟨g, o, none⟩ ∧ g < B ∧ ∀ k, k < n → w.cell? ⟨g, o + k, none⟩ = some (.int .u8 ((b.getD k 0).toNat : Int)) := by
 obtain ⟨h1, h2, h3⟩ := hx
 obtain ⟨g, o, ha, hlt, hc⟩ := h3 (by omega)
 refine ⟨g, o, ha, hlt, fun k hk => ?_⟩
 rw [hc k (by omega), List.getD_eq_getElem?_getD, List.getElem?_eq_getElem (by omega)]
 rfl
theorem read_big (a : Option Addr) (c : Nat) (b : List UInt8) (w : World) (hx : Bytes w w.heap.size a 16 b) (h : Dir.isZ b = false) (hn : 13 < Dir.lenN b) :
  Calls Tryz.prog 141 #[.slice a 16 c] w (ReadR b w) := by
 have HB := hid (fun w' => read_bad (w := w) (w' := w') (b := b) (E := 50) (by unfold Dir.readR; rw [if_neg (by rw [hx.len]; omega), if_neg (by rw [h]; simp), if_pos hn]))
 have he := hid (empty_calls a 16 c b _ (hx.alloc (.cells #[.int .i64 0, .string ⟨#[]⟩] 114)))
 rw [h] at he
 obtain ⟨g, o, rfl, hlt, hc⟩ := bytes_getD (hx.alloc (.cells #[.int .i64 0, .string ⟨#[]⟩] 114)) (by omega)
 have c2 := hc 2 (by omega)
 have hb2 := (b.getD 2 0).toNat_lt
 unfold Dir.lenN at hn
 generalize (b.getD 2 0).toNat = N at *
 have g1 : decide (13 < (N : Int)) = true := decide_eq_true (by omega)
 clear hx h hc hn
 go_enter Tryz.func141, Tryz.ntmps141
 go_wp2_with fail
 refine he.out.mono ?_
 rintro e w_ ⟨rfl, rfl⟩
 go_wp2
 refine bodyPost_ret (v := .tuple #[.agg #[.int .i64 0, .string ⟨#[]⟩], .bool false, .int .i64 50]) (by simp [results, Tryz.results141, go_sem]) rfl (HB.out _ ((Below.refl _ _).alloc (Nat.le_refl _) _))
theorem read_go (a : Option Addr) (c : Nat) (b : List UInt8) (w : World) (hx : Bytes w w.heap.size a 16 b) (hcc : 16 ≤ c) (h : Dir.isZ b = false) (hn : ¬ 13 < Dir.lenN b) :
  Calls Tryz.prog 141 #[.slice a 16 c] w (ReadR b w) := by
 have HR := hid (show Dir.readR b = if Dir.writeE (Dir.entN b) = 0 ∧ b = Dir.slotL (Dir.entN b) then (Dir.entN b, true, 0) else (Dir.none_, false, 50) by
  unfold Dir.readR; rw [if_neg (by rw [hx.len]; omega), if_neg (by rw [h]; simp), if_neg hn])
 have he := hid (empty_calls a 16 c b _ (hx.alloc (.cells #[.int .i64 0, .string ⟨#[]⟩] 114)))
 rw [h] at he
 have hb1 := (Below.refl w.heap.size w).alloc (Nat.le_refl _) (.cells #[.int .i64 0, .string ⟨#[]⟩] 114)
 have hx1 := hx.on hb1
 have br := Blk.new w 114 #[.int .i64 0, .string ⟨#[]⟩]
 obtain ⟨w1, hw1⟩ : ∃ w1, w1 = w.alloc (.cells #[.int .i64 0, .string ⟨#[]⟩] 114) := ⟨_, rfl⟩
 rw [← hw1] at he hb1 hx1 br
 have hcut0 := hx1.drop (l := 3) (by omega) hcc
 have hcut := hcut0.take (k := Dir.lenN b) (by omega)
 rw [show (b.drop 3).take (Dir.lenN b) = Dir.nameN b from rfl] at hcut
 have hnl : (Dir.nameN b).length = Dir.lenN b := hcut.len
 have hent : Dir.entN b = ⟨((Dir.inN b : Nat) : Int), Dir.nameN b⟩ := rfl
 have hin : Dir.inN b = (b.getD 0 0).toNat + 256 * (b.getD 1 0).toNat := rfl
 obtain ⟨g, o, rfl, hlt, hc⟩ := bytes_getD hx1 (by omega)
 have hl2 : Dir.lenN b = (b.getD 2 0).toNat := rfl
 have y0 := (b.getD 0 0).toNat_lt
 have y1 := (b.getD 1 0).toNat_lt
 have HC := hid (show ∀ W, Below w1.heap.size w1 W → W.cell? ⟨g, o, none⟩ = some (.int .u8 ((b.getD 0 0).toNat : Int)) ∧ W.cell? ⟨g, o + 1, none⟩ = some (.int .u8 ((b.getD 1 0).toNat : Int)) ∧ W.cell? ⟨g, o + 2, none⟩ = some (.int .u8 ((b.getD 2 0).toNat : Int)) from
  fun W hb => ⟨(hb.cell hlt).trans (hc 0 (by omega)), (hb.cell hlt).trans (hc 1 (by omega)), (hb.cell hlt).trans (hc 2 (by omega))⟩)
 rw [← hl2] at HC
 have HX := hid hx1
 have HCUT := hid hcut
 have HW := hid (fun W => write_calls (Dir.entN b) W (by rw [hent]; simp only [hnl]; omega))
 unfold WriteR at HW
 rw [hent] at HR HW
 have hor := i64_or_hi (b.getD 0 0).toNat (b.getD 1 0).toNat y0 y1
 rw [← hin] at hor
 have hinlt : Dir.inN b < 65536 := by omega
 generalize Dir.lenN b = N at *
 generalize Dir.inN b = I at *
 generalize Dir.nameN b = nm at *
 generalize (b.getD 0 0).toNat = x0 at *
 generalize (b.getD 1 0).toNat = x1 at *
 have HBR := hid br
 have HB1 := hid hb1
 have HL := hid hx.len
 have c2 := (HC.out w1 (Below.refl _ _)).2.2
 have g1 : decide (13 < (N : Int)) = false := decide_eq_false (by omega)
 have hnb : N ≤ 13 := by omega
 have q3 : IntKind.i64.wrap (3 + (N : Int)) = 3 + (N : Int) := IntWalk.i64_in _ ⟨by omega, by omega⟩
 have f1 : (0 : Int) ≤ 3 + (N : Int) := by omega
 have f2 : 3 + (N : Int) ≤ (c : Int) := by omega
 have f3 : (3 : Int) ≤ max (3 + (N : Int)) 0 := by omega
 have f4 : (3 + (N : Int)).toNat - 3 = N := by omega
 have f5 : ¬ c = 3 := by omega
 rw [show cutA (some ⟨g, o, none⟩) c 3 = some ⟨g, o + 3, none⟩ by unfold cutA; rw [if_neg f5]; exact congrArg some (Addr.add_mid g o 3)] at HCUT
 clear hx h hc hn hx1 hb1 br hcut0 hcut hent hin hl2
 go_enter Tryz.func141, Tryz.ntmps141
 go_wp2_with fail
 rw [← hw1]
 have hsz1 : w.heap.size < w1.heap.size := by rw [hw1]; simp
 clear hw1
 refine he.out.mono ?_
 rintro e w_ ⟨rfl, rfl⟩
 go_wp2_with fail
 have q1 : IntKind.i64.wrap (x1 : Int) = (x1 : Int) := IntWalk.i64_in _ ⟨by omega, by omega⟩
 have q0 : IntKind.i64.wrap (x0 : Int) = (x0 : Int) := IntWalk.i64_in _ ⟨by omega, by omega⟩
 have q2 : IntKind.i64.wrap ((x1 : Int) * 256) = (x1 : Int) * 256 := IntWalk.i64_in _ ⟨by omega, by omega⟩
 refine wp_region_noPanic ?_
 refine wp_region_held_drew (S := (fun W' => Below w1.heap.size w1 W')) (by kernel_rfl) (Below.refl _ _).drew (fun hS0 => ?_)
 refine tk 0 (.slice (some ⟨g, o, none⟩) 16 c) rfl (fun _ _ => rfl) ?_
 try simp only [layR]
 refine tk 1 (.pointer (some ⟨g, o, none⟩)) rfl (fun W hSw => ?_) ?_
 ·go_simp
 try simp only [layR]
 refine tk 2 (.int .u8 (x0 : Int)) rfl (fun W hSw => ?_) ?_
 ·have r := (HC.out W hSw).1
  go_simp
 try simp only [layR]
 refine tk 3 (.int .i64 (x0 : Int)) rfl (fun W hSw => ?_) ?_
 ·go_simp
 try simp only [layR]
 refine tk 4 (.slice (some ⟨g, o, none⟩) 16 c) rfl (fun _ _ => rfl) ?_
 try simp only [layR]
 refine tk 5 (.pointer (some ⟨g, o + 1, none⟩)) rfl (fun W hSw => ?_) ?_
 ·go_simp
 try simp only [layR]
 refine tk 6 (.int .u8 (x1 : Int)) rfl (fun W hSw => ?_) ?_
 ·have r := (HC.out W hSw).2.1
  go_simp
 try simp only [layR]
 refine tk 7 (.int .i64 (x1 : Int)) rfl (fun W hSw => ?_) ?_
 ·go_simp
 try simp only [layR]
 refine tk 8 (.int .i64 ((x1 : Int) * 256)) rfl (fun W hSw => ?_) ?_
 ·go_simp
 try simp only [layR]
 refine tk 9 (.int .i64 (I : Int)) rfl (fun W hSw => ?_) ?_
 ·go_simp
 try simp only [layR]
 refine tk 10 (.slice (some ⟨g, o, none⟩) 16 c) rfl (fun _ _ => rfl) ?_
 try simp only [layR]
 refine tk 11 (.int .i64 (N : Int)) rfl (fun _ _ => rfl) ?_
 try simp only [layR]
 refine tk 12 (.int .i64 (3 + (N : Int))) rfl (fun W hSw => ?_) ?_
 ·go_simp
 try simp only [layR]
 refine tk 13 (.slice (some ⟨g, o + 3, none⟩) N (c - 3 : Nat)) rfl (fun W hSw => ?_) ?_
 ·go_simp
 try simp only [layR]
 refine tk 14 (.string (strL nm)) rfl (fun W hSw => ?_) ?_
 ·have r := convB (c := (c - 3 : Nat)) (HCUT.out.on hSw)
  go_simp
 try simp only [layR]
 refine tk 15 (.agg #[.int .i64 (I : Int), .string (strL nm)]) rfl (fun W hSw => ?_) ?_
 ·go_simp
 try simp only [layR]
 refine rd 16 rfl (fun K' hK => ?_)
 go_simp
 refine hK.out _ _ ((Below.refl _ _).alloc (Nat.le_refl _) _).drew (fun hS1 => ?_)
 try simp only [layR]
 refine rd 17 rfl (fun K' hK => ?_)
 go_simp
 refine hK.out _ _ ((Below.refl _ _).alloc (Nat.le_refl _) _).drew (fun hS2 => ?_)
 try simp only [layR]
 refine wpAnyH_done (by kernel_rfl) ?_ _
 refine NoPanic.normal ?_
 obtain ⟨w2, hw2⟩ : ∃ w2, w2 = (w1.alloc (.cells #[.int .i64 (I : Int), .string (strL nm)] 114)).drew := ⟨_, rfl⟩
 rw [← hw2]
 have be2 : Blk w2 w1.heap.size 114 #[.int .i64 (I : Int), .string (strL nm)] := by rw [hw2]; exact (Blk.new _ _ _).drew
 have hb2 : Below w1.heap.size w1 w2 := by rw [hw2]; exact ((Below.refl _ _).alloc (Nat.le_refl _) _).drew
 have br2 := HBR.out.belowHere hb2
 have hx2 := HX.out.on hb2
 have hbb2 := HB1.out.trans (hb2.mono (Nat.le_of_lt hsz1))
 have BE2 := hid be2
 have BR2 := hid br2
 have HX2 := hid hx2
 have HBB2 := hid hbb2
 have e0 := be2.cellv (i := 0) rfl
 have e1 := be2.cellv (i := 1) rfl
 clear hw2 be2 hb2 br2 hx2 hbb2 hS0 hS1 hS2 c2
 go_wp2_with fail
 refine (HW.out _).mono ?_
 rintro e w3 ⟨⟨v, rfl, ho⟩, hb⟩
 have HO := hid ho
 have be3 := BE2.out.belowHere hb
 have br3 := BR2.out.belowHere hb
 have BE3 := hid be3
 have BR3 := hid br3
 have HX3 := hid (HX2.out.on hb)
 have HBB3 := hid (HBB2.out.then_ hb)
 have x0 := be3.cellv (i := 0) rfl
 have x1 := be3.cellv (i := 1) rfl
 have hwl := hid (Dir.writeL_len ⟨(I : Int), nm⟩)
 have hws := hid (show Dir.writeE ⟨(I : Int), nm⟩ = 0 → Dir.writeL ⟨(I : Int), nm⟩ = Dir.slotL ⟨(I : Int), nm⟩ from fun h => if_pos h)
 clear ho hb be3 br3
 by_cases hE : Dir.writeE ⟨(I : Int), nm⟩ = 0
 case neg =>
  have hr := hid (fun w9 => read_bad (w := w) (w' := w9) (b := b) (HR.out.trans (if_neg (fun h => hE h.1))))
  generalize Dir.writeE ⟨(I : Int), nm⟩ = E at *
  have g2 : (E == 0) = false := by simpa using hE
  have g3 : (E != 0) = true := by simpa using hE
  clear hE hwl hws
  go_wp2_with (refine wpList_store_blk rfl rfl _ _ _ rfl w.heap.size #[.int .i64 0, .string ⟨#[]⟩] rfl rfl 114 #[.int .i64 0, .string ⟨#[]⟩] BR3.out rfl entInfo (entOne ⟨0, []⟩) ?_)
  have q := BR3.out.row #[.int .i64 0, .string ⟨#[]⟩]
  have z0 := q.cellv (i := 0) rfl
  have z1 := q.cellv (i := 1) rfl
  refine bodyPost_ret (v := .tuple #[.agg #[.int .i64 0, .string ⟨#[]⟩], .bool false, .int .i64 50]) (by simp [results, Tryz.results141, go_sem, *]) rfl (hr.out _ (HBB3.out.setRow_ (Nat.le_refl _) _))
 case pos =>
  have hlen := hwl.out hE
  have hsl := hid (hws.out hE)
  have HR2 := hid (show Dir.readR b = if b = Dir.slotL ⟨(I : Int), nm⟩ then (⟨(I : Int), nm⟩, true, 0) else (Dir.none_, false, 50) by
   rw [HR.out]
   by_cases h : b = Dir.slotL ⟨(I : Int), nm⟩
   ·rw [if_pos h, if_pos ⟨hE, h⟩]
   ·rw [if_neg h, if_neg (fun g => h g.2)])
  rw [hE]
  rw [hsl.out] at HO hlen
  clear hE hwl hws hsl HR HW
  generalize Dir.slotL ⟨(I : Int), nm⟩ = sl at *
  obtain ⟨a3, c3, rfl, _⟩ := HO.out.formN (n := 16) hlen
  have HY := hid (HO.out.arr (by omega))
  have HQ := hid (equal_bytes (some ⟨g, o, none⟩) a3 16 16 c c3 b sl w3 HX3.out HY.out)
  by_cases hD : b = sl
  case neg =>
   have hr := hid (fun w9 => read_bad (w := w) (w' := w9) (b := b) (HR2.out.trans (if_neg hD)))
   rw [decide_eq_false hD] at HQ
   clear hD HR2 hlen
   go_wp2_with fail
   refine HQ.out.mono ?_
   rintro e w4 ⟨rfl, hb⟩
   have BR4 := hid (BR3.out.belowHere hb)
   have HBB4 := hid (HBB3.out.then_ hb)
   clear hb
   go_wp2_with (refine wpList_store_blk rfl rfl _ _ _ rfl w.heap.size #[.int .i64 0, .string ⟨#[]⟩] rfl rfl 114 #[.int .i64 0, .string ⟨#[]⟩] BR4.out rfl entInfo (entOne ⟨0, []⟩) ?_)
   have q := BR4.out.row #[.int .i64 0, .string ⟨#[]⟩]
   have z0 := q.cellv (i := 0) rfl
   have z1 := q.cellv (i := 1) rfl
   refine bodyPost_ret (v := .tuple #[.agg #[.int .i64 0, .string ⟨#[]⟩], .bool false, .int .i64 50]) (by simp [results, Tryz.results141, go_sem, *]) rfl (hr.out _ (HBB4.out.setRow_ (Nat.le_refl _) _))
  case pos =>
   have hr := hid (HR2.out.trans (if_pos hD))
   rw [decide_eq_true hD] at HQ
   clear hD HR2 hlen
   go_wp2_with fail
   refine HQ.out.mono ?_
   rintro e w4 ⟨rfl, hb⟩
   have be4 := BE3.out.belowHere hb
   have e40 := be4.cellv (i := 0) rfl
   have e41 := be4.cellv (i := 1) rfl
   have BR4 := hid (BR3.out.belowHere hb)
   have HBB4 := hid (HBB3.out.then_ hb)
   clear hb be4
   go_wp2_with (refine wpList_store_blk rfl rfl _ _ _ rfl w.heap.size #[.int .i64 (I : Int), .string (strL nm)] rfl rfl 114 #[.int .i64 0, .string ⟨#[]⟩] BR4.out rfl entInfo (entOne ⟨(I : Int), nm⟩) ?_)
   have q := BR4.out.row #[.int .i64 (I : Int), .string (strL nm)]
   have z0 := q.cellv (i := 0) rfl
   have z1 := q.cellv (i := 1) rfl
   refine bodyPost_ret (v := .tuple #[.agg #[.int .i64 (I : Int), .string (strL nm)], .bool true, .int .i64 0]) (by simp [results, Tryz.results141, go_sem, *]) rfl ⟨?_, HBB4.out.setRow_ (Nat.le_refl _) _⟩
   rw [hr.out]
   rfl
theorem read_calls (a : Option Addr) (n c : Nat) (b : List UInt8) (w : World) (hx : Bytes w w.heap.size a n b) (hcc : n ≤ c) :
  Calls Tryz.prog 141 #[.slice a n c] w (ReadR b w) := by
 by_cases h1 : n = 16
 ·subst h1
  cases h2 : Dir.isZ b
  ·by_cases h3 : 13 < Dir.lenN b
   ·exact read_big a c b w hx h2 h3
   ·exact read_go a c b w hx hcc h2 h3
  ·exact read_zero a c b w hx h2
 ·exact read_len a n c b w hx h1
end
end Go.Proofs.YtcppkaphlcflgaaGreat
