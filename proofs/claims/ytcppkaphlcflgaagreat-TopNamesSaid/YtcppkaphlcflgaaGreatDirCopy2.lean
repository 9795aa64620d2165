import Derived.Test.YtcppkaphlcflgaaGreatInoTake
import Derived.Laws.CopyOwn
import Derived.Test.YtcppkaphlcflgaaGreatRows
import Derived.TacticsIn
import Derived.Lib.Strings
import Derived.Lib.SlicesS
import Derived.Lib.BufferWrite
import Derived.Lib.SliceRun
namespace Go.Proofs.YtcppkaphlcflgaaGreat
open Lib (hid)
set_option maxRecDepth 100000
set_option maxHeartbeats 16000000
section
open Go.RowKit

theorem splice_take {α : Type} (L : List α) (off n : Nat) (cs : List α) (h : off + cs.length ≤ n) (hn : n ≤ L.length) : (splice L off cs).take n = (L.take n).take off ++ cs ++ (L.take n).drop (off + cs.length) := by
 have hX : (L.take n).length = n := by rw [List.length_take]; omega
 have hL : L = L.take n ++ L.drop n := (List.take_append_drop n L).symm
 have h1 : L.take off = (L.take n).take off := by rw [List.take_take, Nat.min_eq_left (by omega)]
 have h2 : L.drop (off + cs.length) = (L.take n).drop (off + cs.length) ++ L.drop n := by
  conv => lhs; rw [hL]
  rw [List.drop_append_of_le_length (by omega)]
 unfold splice
 rw [h1, h2]
 generalize L.take n = X at *
 generalize L.drop n = R at *
 rw [← List.append_assoc, ← List.append_assoc, List.take_append_of_le_length (by simp only [List.length_append, List.length_take, List.length_drop]; omega),
  List.take_of_length_le (by simp only [List.length_append, List.length_take, List.length_drop]; omega)]
theorem u8size : (Tryz.prog.info? 5).map (·.size) = some 1 := by kernel_rfl
theorem wpList_copyB {w : World} {ops : Array Oper} {rest : List Oper} {o : Oper} {ac : Act} {Q : Exit → Act → World → Prop} (hgd : o.guard = none) (d s : Operand)
  (ho : o.op = .call { callee := .builtin .copy, args := #[d, s], argTypes := #[40, 40] }) (base g L C off : Nat) (xs : List UInt8)
  (hd : ac.eval d = .slice (cutA (some ⟨g, 0, none⟩) C off) (L - off : Nat) (C - off : Nat)) (hown : Own byteV 5 w base (.slice (some ⟨g, 0, none⟩) L C) xs)
  (B : Nat) (a : Option Addr) (m c : Nat) (ys : List UInt8) (hs : ac.eval s = .slice a m c) (hy : Bytes w B a m ys) (hm : off + m ≤ L)
  (h : ∀ w', Hid (Own byteV 5 w' base (.slice (some ⟨g, 0, none⟩) L C) (xs.take off ++ ys ++ xs.drop (off + m))) → Hid (Below base w w') → wpList Tryz.prog ops Q rest (ac.put o.dst (goInt m)) w') : wpList Tryz.prog ops Q (o :: rest) ac w := by
 have hl := hy.len
 rcases hown.2 with ⟨hv, _⟩ | ⟨g', cap, cur, hv, hgb, hg, hcap, hmx, hsz, ht⟩
 ·cases hv
 ·injection hv with e1 e2 e3
  injection e1 with e1
  injection e1 with e1
  subst e1 e3
  have hxl : xs.length = L := e2.symm
  have hcl : cur.toList.length = C := by simpa using hsz
  rw [hxl] at hcap ht
  have hcs : (ys.map byteV).length = m := by rw [List.length_map, hl]
  refine wpList_copy_splice hgd d s _ _ ho 5 Tryz.underlying40 u8size _ a _ _ m c hd hs g off cur.toList 5 (by simpa using hg) (ys.map byteV) (by rw [hcs]; exact (Nat.min_eq_left (by omega)).symm) ?_ (by rw [hcs, hcl]; omega)
   (fun v hv => by obtain ⟨x, _, rfl⟩ := List.mem_map.1 hv; exact byteV_one x) base w (Below.refl _ _) hgb ?_
  ·intro hp
   rw [hcs] at hp
   obtain ⟨b, o', ha, _, hc⟩ := hy.2.2 (by omega)
   refine ⟨?_, ⟨b, o', none⟩, ha, fun j v hj => ?_⟩
   ·rw [cutA, if_neg (by omega)]
    show some ((⟨g, 0, none⟩ : Addr).add off) = _
    rw [Addr.add_mid, Nat.zero_add]
   ·rw [List.getElem?_map] at hj
    cases hk : ys[j]? with
    | none => rw [hk] at hj; cases hj
    | some y =>
     rw [hk] at hj
     injection hj with hj
     subst hj
     obtain ⟨hjl, hje⟩ := List.getElem?_eq_some_iff.1 hk
     rw [Addr.add_mid, hc j hjl, hje]
  ·intro w' hg' hb
   rw [hcs]
   refine h w' (hid ?_) (hid hb)
   have hlen : (xs.take off ++ ys ++ xs.drop (off + m)).length = L := by simp only [List.length_append, List.length_take, List.length_drop, hl, hxl]; omega
   refine ⟨by rw [List.length_map, Nat.mul_one], .inr ⟨g, C, (splice cur.toList off (ys.map byteV)).toArray, by rw [hlen], hgb, hg'.out, by rw [hlen]; exact hcap, hmx, ?_, ?_⟩⟩
   ·rw [List.size_toArray, length_splice _ _ _ (by rw [hcs, hcl]; omega), hcl, Nat.mul_one]
   ·rw [hlen]
    show (splice cur.toList off (ys.map byteV)).take (L * 1) = _
    rw [Nat.mul_one, splice_take _ _ _ _ (by rw [hcs]; omega) (by rw [hcl]; omega)]
    have ht' : cur.toList.take L = xs.map byteV := by simpa using ht
    rw [ht', hcs, List.map_append, List.map_append, List.map_take, List.map_drop]
end
section
open Go.RowKit

theorem wpList_copyM {w : World} {ops : Array Oper} {rest : List Oper} {o : Oper} {ac : Act} {Q : Exit → Act → World → Prop} (hgd : o.guard = none) (d s : Operand)
  (ho : o.op = .call { callee := .builtin .copy, args := #[d, s], argTypes := #[40, 40] }) (base g L C off : Nat) (xs : List UInt8)
  (hd : ac.eval d = .slice (cutA (some ⟨g, 0, none⟩) C off) (L - off : Nat) (C - off : Nat)) (hown : Own byteV 5 w base (.slice (some ⟨g, 0, none⟩) L C) xs)
  (B : Nat) (a : Option Addr) (m c : Nat) (ys : List UInt8) (hs : ac.eval s = .slice a m c) (hy : Bytes w B a m ys) (ho2 : off ≤ L) (k : Nat) (hk : k = min (L - off) m)
  (h : ∀ w', Hid (Own byteV 5 w' base (.slice (some ⟨g, 0, none⟩) L C) (xs.take off ++ ys.take k ++ xs.drop (off + k))) → Hid (Below base w w') → wpList Tryz.prog ops Q rest (ac.put o.dst (goInt k)) w') : wpList Tryz.prog ops Q (o :: rest) ac w := by
 have hl := hy.len
 rcases hown.2 with ⟨hv, _⟩ | ⟨g', cap, cur, hv, hgb, hg, hcap, hmx, hsz, ht⟩
 ·cases hv
 ·injection hv with e1 e2 e3
  injection e1 with e1
  injection e1 with e1
  subst e1 e3
  have hxl : xs.length = L := e2.symm
  have hcl : cur.toList.length = C := by simpa using hsz
  rw [hxl] at hcap ht
  have hcs : ((ys.take k).map byteV).length = k := by rw [List.length_map, List.length_take, hl]; omega
  refine wpList_copy_splice hgd d s _ _ ho 5 Tryz.underlying40 u8size _ a _ _ m c hd hs g off cur.toList 5 (by simpa using hg) ((ys.take k).map byteV) (by rw [hcs, hk]; exact Nat.min_comm ..) ?_ (by rw [hcs, hcl]; omega)
   (fun v hv => by obtain ⟨x, _, rfl⟩ := List.mem_map.1 hv; exact byteV_one x) base w (Below.refl _ _) hgb ?_
  ·intro hp
   rw [hcs] at hp
   obtain ⟨b, o', ha, _, hc⟩ := hy.2.2 (by omega)
   refine ⟨?_, ⟨b, o', none⟩, ha, fun j v hj => ?_⟩
   ·rw [cutA, if_neg (by omega)]
    show some ((⟨g, 0, none⟩ : Addr).add off) = _
    rw [Addr.add_mid, Nat.zero_add]
   ·rw [List.getElem?_map] at hj
    cases hkk : (ys.take k)[j]? with
    | none => rw [hkk] at hj; cases hj
    | some y =>
     rw [hkk] at hj
     injection hj with hj
     subst hj
     obtain ⟨hjl, hje⟩ := List.getElem?_eq_some_iff.1 hkk
     rw [List.length_take] at hjl
     rw [List.getElem_take] at hje
     rw [Addr.add_mid, hc j (by omega), hje]
  ·intro w' hg' hb
   rw [hcs]
   refine h w' (hid ?_) (hid hb)
   have hlen : (xs.take off ++ ys.take k ++ xs.drop (off + k)).length = L := by simp only [List.length_append, List.length_take, List.length_drop, hl, hxl]; omega
   refine ⟨by rw [List.length_map, Nat.mul_one], .inr ⟨g, C, (splice cur.toList off ((ys.take k).map byteV)).toArray, by rw [hlen], hgb, hg'.out, by rw [hlen]; exact hcap, hmx, ?_, ?_⟩⟩
   ·rw [List.size_toArray, length_splice _ _ _ (by rw [hcs, hcl]; omega), hcl, Nat.mul_one]
   ·rw [hlen]
    show (splice cur.toList off ((ys.take k).map byteV)).take (L * 1) = _
    rw [Nat.mul_one, splice_take _ _ _ _ (by rw [hcs]; omega) (by rw [hcl]; omega)]
    have ht' : cur.toList.take L = xs.map byteV := by simpa using ht
    rw [ht', hcs]
    simp only [List.map_append, List.map_take, List.map_drop]
theorem wpList_copyAt {w : World} {ops : Array Oper} {rest : List Oper} {o : Oper} {ac : Act} {Q : Exit → Act → World → Prop} (hgd : o.guard = none) (d s : Operand)
  (ho : o.op = .call { callee := .builtin .copy, args := #[d, s], argTypes := #[40, 40] }) (base g L C off : Nat) (xs : List UInt8)
  (hd : ac.eval d = .slice (some ⟨g, off, none⟩) (L - off : Nat) (C - off : Nat)) (hown : Own byteV 5 w base (.slice (some ⟨g, 0, none⟩) L C) xs)
  (B : Nat) (a : Option Addr) (m c : Nat) (ys : List UInt8) (hs : ac.eval s = .slice a m c) (hy : Bytes w B a m ys) (ho2 : off ≤ L) (hlt : off < C) (k : Nat) (hk : k = min (L - off) m)
  (h : ∀ w', Hid (Own byteV 5 w' base (.slice (some ⟨g, 0, none⟩) L C) (xs.take off ++ ys.take k ++ xs.drop (off + k))) → Hid (Below base w w') → wpList Tryz.prog ops Q rest (ac.put o.dst (goInt k)) w') : wpList Tryz.prog ops Q (o :: rest) ac w :=
 wpList_copyM hgd d s ho base g L C off xs (by
  rw [hd, cutA, if_neg (by omega)]
  show _ = Value.slice (some ((⟨g, 0, none⟩ : Addr).add off)) _ _
  rw [Addr.add_mid, Nat.zero_add]) hown B a m c ys hs hy ho2 k hk h
end
section
open Go.RowKit

def strV (l : List UInt8) : Value := .string (strL l)
theorem strV_eq (l : List UInt8) : strV l = .string (strL l) := rfl
theorem strV_one (l : List UInt8) : (strV l).oneCell' = true := rfl
theorem strL_toList (l : List UInt8) : (strL l).toList = l := by rw [Lib.toList_data]; rfl
theorem strL_data (l : List UInt8) : (strL l).data.toList = l := rfl
theorem strL_size (l : List UInt8) : (strL l).size = l.length := rfl
theorem strL_append (a b : List UInt8) : strL a ++ strL b = strL (a ++ b) := by
 apply ByteArray.ext
 rw [ByteArray.data_append]
 simp [strL]
theorem strL_get (l : List UInt8) (i : Nat) (h : i < (strL l).size) : (strL l)[i] = l[i]'(by rw [strL_size] at h; exact h) := by
 show (strL l).data[i] = _
 simp [strL]
attribute [go_sem] strV_eq strL_size strL_toList strL_append strL_get
end
section
open Go.RowKit

namespace Pth
def byteOk (c : UInt8) : Bool := !(c == 0) && !(c == 47)
def nameB (l : List UInt8) : Bool := !(l == []) && decide (l.length ≤ 13) && !(l == [46]) && !(l == [46, 46]) && l.all byteOk
def nameE (l : List UInt8) : Int := if nameB l then 0 else 31
end Pth
theorem all_take_snoc (l : List UInt8) (p : UInt8 → Bool) (k : Nat) (h : k < l.length) : (l.take (k + 1)).all p = ((l.take k).all p && p l[k]) := by
 rw [List.take_succ_eq_append_getElem h, List.all_append]; simp
theorem byteOk_iff (c : UInt8) : Pth.byteOk c = true ↔ ((c.toNat : Int) == 0) = false ∧ ((c.toNat : Int) == 47) = false := by
 unfold Pth.byteOk
 rw [Bool.and_eq_true, Bool.not_eq_true', Bool.not_eq_true', beq_eq_false_iff_ne, beq_eq_false_iff_ne, beq_eq_false_iff_ne, beq_eq_false_iff_ne]
 constructor
 ·rintro ⟨h1, h2⟩
  refine ⟨fun h => h1 ?_, fun h => h2 ?_⟩
  ·apply UInt8.toNat_inj.1; show c.toNat = 0; omega
  ·apply UInt8.toNat_inj.1; show c.toNat = 47; omega
 ·rintro ⟨h1, h2⟩
  refine ⟨fun h => h1 ?_, fun h => h2 ?_⟩
  ·subst h; rfl
  ·subst h; rfl
theorem nameE_bad (l : List UInt8) (h : ¬ (l ≠ [] ∧ l.length ≤ 13 ∧ l ≠ [46] ∧ l ≠ [46, 46] ∧ l.all Pth.byteOk = true)) : Pth.nameE l = 31 := by
 unfold Pth.nameE
 rw [if_neg]
 intro hb
 apply h
 simpa [Pth.nameB, and_assoc] using hb
theorem nameE_good (l : List UInt8) (h : l ≠ [] ∧ l.length ≤ 13 ∧ l ≠ [46] ∧ l ≠ [46, 46] ∧ l.all Pth.byteOk = true) : Pth.nameE l = 0 := by
 unfold Pth.nameE
 rw [if_pos]
 simpa [Pth.nameB, and_assoc] using h
theorem name_calls (l : List UInt8) (w : World) (hl : l.length ≤ 140737488351232) :
  Calls Tryz.prog 96 #[.string (strL l)] w fun e w' => e = .returned (.int .i64 (Pth.nameE l)) ∧ w = w' := by
 by_cases h0 : l = []
 ·subst h0
  have hv : Pth.nameE [] = 31 := by decide
  rw [hv]
  clear hv
  go_enter Tryz.func96, Tryz.ntmps96
  go_wp2
  go_ret
  exact ⟨rfl, rfl⟩
 have g0 : (l == []) = false := by simpa using h0
 have g0' : l.isEmpty = false := by simpa using h0
 by_cases h1 : 13 < l.length
 ·have g1 : decide (13 < (l.length : Int)) = true := decide_eq_true (by omega)
  rw [nameE_bad l (fun h => by omega)]
  clear h0 h1
  go_enter Tryz.func96, Tryz.ntmps96
  go_wp2
  go_ret
  exact ⟨rfl, rfl⟩
 have g1 : decide (13 < (l.length : Int)) = false := decide_eq_false (by omega)
 by_cases h2 : l = [46]
 ·have g2 : (l == [46]) = true := by rw [h2]; rfl
  rw [nameE_bad l (fun h => h.2.2.1 h2)]
  clear h0 h1 h2
  go_enter Tryz.func96, Tryz.ntmps96
  go_wp2
  go_ret
  exact ⟨rfl, rfl⟩
 have g2 : (l == [46]) = false := by simpa using h2
 by_cases h3 : l = [46, 46]
 ·have g3 : (l == [46, 46]) = true := by rw [h3]; rfl
  rw [nameE_bad l (fun h => h.2.2.2.1 h3)]
  clear h0 h1 h2 h3
  go_enter Tryz.func96, Tryz.ntmps96
  go_wp2
  go_ret
  exact ⟨rfl, rfl⟩
 have g3 : (l == [46, 46]) = false := by simpa using h3
 have HG := hid (fun h => nameE_good l ⟨h0, by omega, h2, h3, h⟩)
 have HB := hid (fun (h : ¬ l.all Pth.byteOk = true) => nameE_bad l (fun hh => h hh.2.2.2.2))
 obtain ⟨E, hE⟩ : ∃ E, E = Pth.nameE l := ⟨_, rfl⟩
 rw [← hE] at HG HB ⊢
 clear h0 h1 h2 h3 hE
 go_enter Tryz.func96, Tryz.ntmps96
 go_wp2
 go_loop [3, 21] (fun _ i => ∃ k : Nat, k ≤ l.length ∧ i = .int .i64 k ∧ (l.take k).all Pth.byteOk = true) (fun _ i => l.length - (intOf i).toNat)
 case atStart => exact ⟨0, by omega, rfl, rfl⟩
 case round =>
  obtain ⟨k, hk, rfl, hall⟩ := hrel
  have HA := hid hall
  clear hall
  by_cases hlt : k < l.length
  ·have HT := hid (all_take_snoc l Pth.byteOk k hlt)
   have HK := hid (byteOk_iff l[k])
   have HM := hid (List.getElem_mem hlt)
   have hb := (l[k]).toNat_lt
   cases hc : Pth.byteOk l[k]
   ·have hbad := hid (HB.out (fun h => by have h2 := List.all_eq_true.1 h _ HM.out; rw [hc] at h2; cases h2))
    have hor : ((l[k].toNat : Int) == 0) = true ∨ ((l[k].toNat : Int) == 47) = true := by
     cases h1 : ((l[k].toNat : Int) == 0)
     ·cases h2 : ((l[k].toNat : Int) == 47)
      ·have := HK.out.2 ⟨h1, h2⟩; rw [hc] at this; cases this
      ·exact .inr rfl
     ·exact .inl rfl
    clear hc
    cases hz : ((l[k].toNat : Int) == 0)
    ·rcases hor with h | h
     ·rw [hz] at h; cases h
     ·go_wp2
      go_ret
      exact ⟨by rw [hbad.out]; rfl, rfl⟩
    ·clear hor
     go_wp2
     go_ret
     exact ⟨by rw [hbad.out]; rfl, rfl⟩
   ·obtain ⟨z1, z2⟩ := HK.out.1 hc
    rw [hc] at HT
    clear hc
    go_wp2
    go_round
    case rel => exact ⟨k + 1, by omega, by go_num, by rw [HT.out, HA.out]; rfl⟩
    case measure => simp [intOf]; omega
  ·obtain rfl : k = l.length := by omega
   have hg := hid (HG.out (by have := HA.out; rw [List.take_length] at this; exact this))
   go_wp2
   go_ret
   exact ⟨by rw [hg.out]; rfl, rfl⟩
end
section

structure Ent where
 i : Int
 nm : List UInt8
deriving DecidableEq
namespace Dir
def none_ : Ent := ⟨0, []⟩
def okI (i : Int) : Bool := decide (1 ≤ i) && decide (i ≤ 65535)
def writeE (e : Ent) : Int := if okI e.i = true then Pth.nameE e.nm else 1
def slotL (e : Ent) : List UInt8 := [UInt8.ofNat e.i.toNat, UInt8.ofNat (e.i.toNat / 256), UInt8.ofNat e.nm.length] ++ e.nm ++ List.replicate (13 - e.nm.length) 0
def writeL (e : Ent) : List UInt8 := if writeE e = 0 then slotL e else []
def isZ (b : List UInt8) : Bool := b.all (· == 0)
def inN (b : List UInt8) : Nat := (b.getD 0 0).toNat + 256 * (b.getD 1 0).toNat
def lenN (b : List UInt8) : Nat := (b.getD 2 0).toNat
def nameN (b : List UInt8) : List UInt8 := (b.drop 3).take (lenN b)
def entN (b : List UInt8) : Ent := ⟨(inN b : Nat), nameN b⟩
def readR (b : List UInt8) : Ent × Bool × Int :=
 if b.length ≠ 16 then (none_, false, 1)
 else if isZ b = true then (none_, false, 0)
 else if 13 < lenN b then (none_, false, 50)
 else if writeE (entN b) = 0 ∧ b = slotL (entN b) then (entN b, true, 0)
 else (none_, false, 50)
theorem okI_iff (i : Int) : okI i = true ↔ 1 ≤ i ∧ i ≤ 65535 := by unfold okI; rw [Bool.and_eq_true, decide_eq_true_iff, decide_eq_true_iff]
theorem nameE_len {nm : List UInt8} (h : Pth.nameE nm = 0) : 0 < nm.length ∧ nm.length ≤ 13 := by
 unfold Pth.nameE at h
 split at h
 ·rename_i h2
  simp [Pth.nameB] at h2
  have h3 := h2.1.1.1.1
  have h4 := h2.1.1.1.2
  exact ⟨List.length_pos_iff.2 h3, h4⟩
 ·omega
theorem writeE_iff (e : Ent) : writeE e = 0 ↔ (1 ≤ e.i ∧ e.i ≤ 65535) ∧ Pth.nameE e.nm = 0 := by
 unfold writeE
 split
 ·rename_i h
  rw [okI_iff] at h
  exact ⟨fun g => ⟨h, g⟩, fun g => g.2⟩
 ·rename_i h
  rw [okI_iff] at h
  exact ⟨fun g => absurd g (by omega), fun g => absurd g.1 h⟩
theorem slotL_len (e : Ent) (h : e.nm.length ≤ 13) : (slotL e).length = 16 := by
 unfold slotL
 rw [List.length_append, List.length_append, List.length_replicate]
 simp only [List.length_cons, List.length_nil]
 omega
theorem writeL_len (e : Ent) (h : writeE e = 0) : (writeL e).length = 16 := by
 rw [writeL, if_pos h]
 exact slotL_len e (nameE_len ((writeE_iff e).1 h).2).2
theorem isZ_rep (n : Nat) : isZ (List.replicate n 0) = true := by
 unfold isZ
 rw [List.all_eq_true]
 intro x hx
 rw [List.mem_replicate] at hx
 simp [hx.2]
theorem isZ_iff (b : List UInt8) : isZ b = true ↔ b = List.replicate b.length 0 := by
 constructor
 ·intro h
  rw [isZ, List.all_eq_true] at h
  rw [List.eq_replicate_iff]
  exact ⟨rfl, fun x hx => by have := h x hx; simpa using this⟩
 ·intro h; rw [h]; exact isZ_rep _
theorem readR_used {b : List UInt8} (h : (readR b).2.1 = true) : writeE (readR b).1 = 0 ∧ writeL (readR b).1 = b ∧ (readR b).2.2 = 0 ∧ b.length = 16 := by
 unfold readR at h ⊢
 split at h
 ·cases h
 ·split at h
  ·cases h
  ·split at h
   ·cases h
   ·split at h
    ·rename_i h1 h2 h3 h4
     rw [if_neg h1, if_neg h2, if_neg h3, if_pos h4]
     refine ⟨h4.1, ?_, rfl, by omega⟩
     rw [writeL, if_pos h4.1]; exact h4.2.symm
    ·cases h
theorem readR_none {b : List UInt8} (h : (readR b).2.1 = false) : (readR b).1 = none_ := by
 unfold readR at h ⊢
 split
 ·rfl
 ·split
  ·rfl
  ·split
   ·rfl
   ·split
    ·rename_i h1 h2 h3 h4
     rw [if_neg h1, if_neg h2, if_neg h3, if_pos h4] at h; cases h
    ·rfl
theorem readR_slot (e : Ent) (h : writeE e = 0) : readR (slotL e) = (e, true, 0) := by
 obtain ⟨i, nm⟩ := e
 obtain ⟨⟨h1, h2⟩, h3⟩ := (writeE_iff _).1 h
 obtain ⟨h4, h5⟩ := nameE_len h3
 simp only at h1 h2 h4 h5
 have hl := slotL_len ⟨i, nm⟩ h5
 have e1 : lenN (slotL ⟨i, nm⟩) = nm.length := by
  show (UInt8.ofNat nm.length).toNat = _
  rw [UInt8.toNat_ofNat']; omega
 have e2 : nameN (slotL ⟨i, nm⟩) = nm := by
  unfold nameN
  rw [e1]
  show (nm ++ List.replicate (13 - nm.length) 0).take nm.length = nm
  simp
 have e3 : ((inN (slotL ⟨i, nm⟩) : Nat) : Int) = i := by
  show (((UInt8.ofNat i.toNat).toNat + 256 * (UInt8.ofNat (i.toNat / 256)).toNat : Nat) : Int) = i
  rw [UInt8.toNat_ofNat', UInt8.toNat_ofNat']
  omega
 have e4 : entN (slotL ⟨i, nm⟩) = ⟨i, nm⟩ := by unfold entN; rw [e2, e3]
 have hz : ¬ isZ (slotL ⟨i, nm⟩) = true := by
  intro hz
  rw [isZ, List.all_eq_true] at hz
  have := hz (UInt8.ofNat nm.length) (by simp [slotL])
  have h6 : UInt8.ofNat nm.length = 0 := by simpa using this
  have h7 := congrArg UInt8.toNat h6
  rw [UInt8.toNat_ofNat'] at h7
  simp at h7
  omega
 unfold readR
 rw [if_neg (by omega), if_neg hz, if_neg (by omega), e4, if_pos ⟨h, rfl⟩]
end Dir
end
section
open Go.RowKit

theorem byteCells_eq (l : List UInt8) : Lib.byteCells l = l.map byteV := rfl
theorem own_splice {w : World} {base g L C off : Nat} {xs : List UInt8} (hown : Own byteV 5 w base (.slice (some ⟨g, 0, none⟩) L C) xs) (ys : List UInt8) (hm : off + ys.length ≤ L) :
  ∃ cur : Array Value, w.heap[g]? = some (.cells cur 5 (0, 0)) ∧ cur.size = C ∧ L ≤ C ∧ Own byteV 5 (w.setRow g (cur.toList.take off ++ ys.map byteV ++ cur.toList.drop (off + ys.length)).toArray) base (.slice (some ⟨g, 0, none⟩) L C) (xs.take off ++ ys ++ xs.drop (off + ys.length)) ∧ base ≤ g := by
 rcases hown.2 with ⟨hv, _⟩ | ⟨g', cap, cur, hv, hgb, hg, hcap, hmx, hsz, ht⟩
 ·cases hv
 ·injection hv with e1 e2 e3
  injection e1 with e1
  injection e1 with e1
  subst e1 e3
  have hxl : xs.length = L := e2.symm
  have hcl : cur.toList.length = C := by simpa using hsz
  rw [hxl] at hcap ht
  have hcs : (ys.map byteV).length = ys.length := List.length_map _
  refine ⟨cur, hg, by simpa using hsz, hcap, ?_, hgb⟩
  have hlen : (xs.take off ++ ys ++ xs.drop (off + ys.length)).length = L := by simp only [List.length_append, List.length_take, List.length_drop, hxl]; omega
  have hsp : cur.toList.take off ++ ys.map byteV ++ cur.toList.drop (off + ys.length) = splice cur.toList off (ys.map byteV) := by
   unfold splice; rw [hcs, List.append_assoc]
  rw [hsp]
  refine ⟨by rw [List.length_map, Nat.mul_one], .inr ⟨g, C, (splice cur.toList off (ys.map byteV)).toArray, by rw [hlen], hgb, setRow_heap w g cur _ 5 _ hg, by rw [hlen]; exact hcap, hmx, ?_, ?_⟩⟩
  ·rw [List.size_toArray, length_splice _ _ _ (by rw [hcs, hcl]; omega), hcl, Nat.mul_one]
  ·rw [hlen]
   show (splice cur.toList off (ys.map byteV)).take (L * 1) = _
   rw [Nat.mul_one, splice_take _ _ _ _ (by rw [hcs]; omega) (by rw [hcl]; omega)]
   have ht' : cur.toList.take L = xs.map byteV := by simpa using ht
   rw [ht', hcs, List.map_append, List.map_append, List.map_take, List.map_drop]
theorem step_copyS {w : World} {ops : Array Oper} {o : Oper} {a : Act} {K : Act → World → Prop} {Q : Exit → Act → World → Prop} {E : Prop} (hgd : o.guard = none) (d s : Operand)
  (ho : o.op = .call { callee := .builtin .copy, args := #[d, s], argTypes := #[40, 9] }) (base g L C off l c : Nat) (xs : List UInt8)
  (hd : a.eval d = .slice (some ⟨g, off, none⟩) l c) (hown : Own byteV 5 w base (.slice (some ⟨g, 0, none⟩) L C) xs)
  (ys : List UInt8) (hs : a.eval s = .string (strL ys)) (hm : off + ys.length ≤ L) (hl : ys.length ≤ l)
  (h : ∀ w', Hid (Own byteV 5 w' base (.slice (some ⟨g, 0, none⟩) L C) (xs.take off ++ ys ++ xs.drop (off + ys.length))) → Hid (Below base w w') → K (a.put o.dst (goInt ys.length)) w') :
  if Region.wanted o (yielded ops a.tmps) = true then Oper.wp Tryz.prog o a w K Q else E := by
 have hw : Region.wanted o (yielded ops a.tmps) = true := by simp [Region.wanted, hgd]
 rw [if_pos hw]
 obtain ⟨cur, hg, hsz, hLC, hown', hgb⟩ := own_splice hown ys hm
 have hrun := Lib.run_copy_row_string (P := Tryz.prog) w 40 9 o.type 5 g off l c (strL ys) cur 5 Tryz.underlying40 u8size hg (by rw [strL_size]; exact hl) (by rw [strL_size]; omega)
 rw [strL_size, strL_data, byteCells_eq] at hrun
 unfold Oper.wp
 simp [execOp, ho, resolve, invoke, builtin, hd, hs, hrun, Result.andThen]
 refine h _ (hid ?_) (hid (below_setRow (Below.refl _ _) hgb _))
 simpa using hown'
end
section
open Go.RowKit

theorem zeroU8 (w : World) : (zeroValue 5).run Tryz.prog w = .ok (.int .u8 0) w := by kernel_rfl
theorem run_clearB (w : World) (ty : TypeId) (g off m c : Nat) (cur : Array Value) (hg : w.heap[g]? = some (.cells cur 5 (0, 0))) (hm : 0 < m) (hfit : off + m ≤ cur.size) :
  (Builtin.clear_ #[40] ty #[.slice (some ⟨g, off, none⟩) m c]).run Tryz.prog w = .ok (.tuple #[]) (w.setRow g (cur.toList.take off ++ (List.replicate m (0 : UInt8)).map byteV ++ cur.toList.drop (off + m)).toArray) := by
 have hzc : (Builtin.zeroCells (Value.int .u8 0).cells m).toList = (List.replicate m (0 : UInt8)).map byteV := by
  rw [List.map_replicate]
  show (Builtin.zeroCells #[Value.int .u8 0] m).toList = _
  simp [Builtin.zeroCells]
  apply List.ext_getElem
  ·simp
  ·intro i h1 h2
   simp [Nat.mod_one, byteV]
 have hst := run_storeCells_at Tryz.prog g off 5 ((List.replicate m (0 : UInt8)).map byteV) 0 cur w hg (by simpa using hfit) (by intro v hv'; rw [List.map_replicate] at hv'; rw [List.eq_of_mem_replicate hv']; rfl)
 rw [List.length_map, List.length_replicate] at hst
 simp only [Nat.add_zero] at hst
 obtain ⟨k, rfl⟩ : ∃ k, m = k + 1 := ⟨m - 1, by omega⟩
 have hz := fun w => zeroU8 w
 simp [Builtin.clear_, run_underlying Tryz.underlying40, hz, hzc]
 rw [List.map_replicate] at hst
 rw [hst]
 simp
theorem run_clearP {w : World} {base g L C off : Nat} {xs : List UInt8} {ad : Option Addr} {dl dc : Nat} (had : ad = cutA (some ⟨g, 0, none⟩) C off) (hown : Own byteV 5 w base (.slice (some ⟨g, 0, none⟩) L C) xs) (hm : off + dl ≤ L) (hp : 0 < dl) :
  ∃ w', (∀ ty, (Builtin.clear_ #[40] ty #[.slice ad dl dc]).run Tryz.prog w = .ok (.tuple #[]) w') ∧ Own byteV 5 w' base (.slice (some ⟨g, 0, none⟩) L C) (xs.take off ++ List.replicate dl 0 ++ xs.drop (off + dl)) ∧ Below base w w' := by
 obtain ⟨cur, hg, hsz, hLC, hown', hgb⟩ := own_splice hown (List.replicate dl (0 : UInt8)) (by rw [List.length_replicate]; exact hm)
 rw [List.length_replicate] at hown'
 have had2 : ad = some ⟨g, off, none⟩ := by
  rw [had, cutA, if_neg (by omega)]
  show some ((⟨g, 0, none⟩ : Addr).add off) = _
  rw [Addr.add_mid, Nat.zero_add]
 subst had2
 exact ⟨_, fun ty => run_clearB w ty g off dl dc cur hg hp (by omega), hown', below_setRow (Below.refl _ _) hgb _⟩
theorem wpList_clearB {w : World} {ops : Array Oper} {rest : List Oper} {o : Oper} {ac : Act} {Q : Exit → Act → World → Prop} (hgd : o.guard = none) (d : Operand)
  (ho : o.op = .call { callee := .builtin .clear, args := #[d], argTypes := #[40] }) (base g L C off : Nat) (xs : List UInt8) (ad : Option Addr) (dl dc : Nat)
  (hd : ac.eval d = .slice ad dl dc) (had : ad = cutA (some ⟨g, 0, none⟩) C off) (hown : Own byteV 5 w base (.slice (some ⟨g, 0, none⟩) L C) xs)
  (hm : off + dl ≤ L) (hp : 0 < dl)
  (h : ∀ w', Hid (Own byteV 5 w' base (.slice (some ⟨g, 0, none⟩) L C) (xs.take off ++ List.replicate dl 0 ++ xs.drop (off + dl))) → Hid (Below base w w') → wpList Tryz.prog ops Q rest (ac.put o.dst (.tuple #[])) w') : wpList Tryz.prog ops Q (o :: rest) ac w := by
 obtain ⟨cur, hg, hsz, hLC, hown', hgb⟩ := own_splice hown (List.replicate dl (0 : UInt8)) (by rw [List.length_replicate]; exact hm)
 rw [List.length_replicate] at hown'
 have had2 : ad = some ⟨g, off, none⟩ := by
  rw [had, cutA, if_neg (by omega)]
  show some ((⟨g, 0, none⟩ : Addr).add off) = _
  rw [Addr.add_mid, Nat.zero_add]
 subst had2
 have hrun := run_clearB w o.type g off dl dc cur hg hp (by omega)
 refine wpList_plain hgd fun K hK => ?_
 unfold Oper.wp
 simp [execOp, ho, resolve, invoke, builtin, hd, hrun, Result.andThen]
 refine hK _ _ (h _ (hid ?_) (hid (below_setRow (Below.refl _ _) hgb _)))
 simpa using hown'
end
end Go.Proofs.YtcppkaphlcflgaaGreat
