import Derived.Test.YtcppkaphlcflgaaGreatDirRead
import Derived.Maps.OwnSet
import Derived.WalkMore
import Derived.Carry
import Derived.OwnWalkIn
import Derived.TacticsInMore
import Derived.LoopNIn
import Derived.LoopIn
import Derived.BigRegionIn
import Derived.Shelf.Abstract
import Derived.Test.YtcppkaphlcflgaaGreatInoPoint2
namespace Go.Proofs.YtcppkaphlcflgaaGreat
open Lib (hid)
set_option maxRecDepth 100000
set_option maxHeartbeats 16000000
section
open Go.RowKit Go.Maps Go.WideMaps

theorem strLaw : Keyed Tryz.prog 9 := string_keyed Tryz.underlying9
theorem zeroInt (w : World) : (zeroValue 3).run Tryz.prog w = .ok (.int .i64 0) w := by kernel_rfl
theorem strKey (l : List UInt8) (h : l.length ≤ maxLen) : keyOf Tryz.prog 9 (.string (strL l)) = some (.string l) := by
 have := keyOf_string_mk Tryz.underlying9 (s := strL l) (by rw [strL_size]; exact h)
 exact this
def NameSet (w : World) (B k : Nat) (l : List (List UInt8)) : Prop :=
 ∃ D : DataW Unit, w.ownsMap Tryz.prog 9 (plainElem Tryz.prog 3) B k D ∧ Maps.IsMap D ∧ ∀ nm, Maps.has D (.string nm) = l.contains nm
theorem NameSet.made (w : World) : NameSet (w.alloc (.map #[] 0)) w.heap.size 0 [] := ⟨.map [], World.ownsMap_made _ _ _ _, ⟨[], rfl⟩, fun _ => rfl⟩
theorem NameSet.on {w w' : World} {B k : Nat} {l : List (List UInt8)} (h : NameSet w B k l) (hb : Below w.heap.size w w') : NameSet w' B k l := by
 obtain ⟨D, h, h2⟩ := h
 have hlt := h.lt
 obtain ⟨es, clock, hh, r⟩ := h
 exact ⟨D, ⟨es, clock, (hb.block B hlt).trans hh, r⟩, h2⟩
theorem NameSet.mono {w : World} {B k k' : Nat} {l : List (List UInt8)} (h : NameSet w B k l) (hk : k ≤ k') : NameSet w B k' l := by
 obtain ⟨D, h, h2⟩ := h
 exact ⟨D, h.mono hk, h2⟩
section
variable {w : World} {ops : Array Oper} {rest : List Oper} {o : Oper} {a : Act} {Q : Exit → Act → World → Prop} {B k : Nat} {l : List (List UInt8)}
theorem wpList_lookup_name (hg : o.guard = none) (m x : Operand) (hop : o.op = Op.lookup 231 m x true) (hm : a.eval m = .map (some B)) (hown : NameSet w B k l) (nm : List UInt8) (hl : nm.length ≤ maxLen)
  (hx : a.eval x = .string (strL nm)) (hK : ∀ c : Int, wpList Tryz.prog ops Q rest (a.put o.dst (.tuple #[.int .i64 c, .bool (l.contains nm)])) w) : wpList Tryz.prog ops Q (o :: rest) a w := by
 obtain ⟨D, hown, _, hh⟩ := hown
 refine wpList_lookup_own_ok_int w hg m x 231 hop 9 3 .i64 strLaw Tryz.underlying231 Tryz.underlying3 (zeroInt _) B k D hm hown _ _ hx (strKey nm hl) ?_
 intro c _ _
 rw [hh]
 exact hK c
theorem wpList_add_name (hg : o.guard = none) (m x v : Operand) (hop : o.op = Op.mapUpdate 231 m x v) (hm : a.eval m = .map (some B)) (hown : NameSet w B k l) (hk : k < maxLen) (nm : List UInt8) (hl : nm.length ≤ maxLen) (i : Int) (hi : (Lit.int .i64 i).wf = true)
  (hx : a.eval x = .string (strL nm)) (hv : a.eval v = .int .i64 i) (hK : ∀ w', Hid (NameSet w' B (k + 1) (l ++ [nm])) → Hid (w.grownBy w' (some B)) → wpList Tryz.prog ops Q rest (a.put o.dst undef) w') : wpList Tryz.prog ops Q (o :: rest) a w := by
 obtain ⟨D, hown, hD, hh⟩ := hown
 refine wpList_mapUpdate_own w hg m x v 231 hop 9 3 strLaw Tryz.underlying231 _ B k D hm hown hk _ _ _ hx hv (strKey nm hl) _ [] (plainElem_int Tryz.underlying3 hi) ?_
 intro w' h1 h2
 refine hK w' (hid ⟨_, h1, hD.put _ _, fun nm' => ?_⟩) (hid h2)
 by_cases he : nm' = nm
 ·subst he
  rw [Maps.has_put_same hD (by trivial)]
  simp
 ·rw [Maps.has_put_other (by intro h; injection h with h; exact he h), hh]
  rw [List.contains_append]
  simp [he]
end

namespace Dir
def slotAt (b : List UInt8) (k : Nat) : List UInt8 := (b.drop (16 * k)).take 16
def rd (b : List UInt8) (k : Nat) : Ent × Bool × Int := readR (slotAt b k)
def seen (b : List UInt8) : Nat → List (List UInt8)
 | 0 => []
 | k + 1 => if (rd b k).2.1 = true then seen b k ++ [(rd b k).1.nm] else seen b k
def okAt (b : List UInt8) (k : Nat) : Bool := decide ((rd b k).2.2 = 0) && !((rd b k).2.1 && (seen b k).contains (rd b k).1.nm)
def okTo (b : List UInt8) : Nat → Bool
 | 0 => true
 | k + 1 => okTo b k && okAt b k
def cnt (b : List UInt8) : Nat := b.length / 16
def lastOk (b : List UInt8) : Bool := decide (cnt b = 0) || (rd b (cnt b - 1)).2.1
def goodB (b : List UInt8) : Bool := decide (b.length % 16 = 0) && okTo b (cnt b) && lastOk b
theorem okTo_less {b : List UInt8} {k m : Nat} (h : k ≤ m) (hm : okTo b m = true) : okTo b k = true := by
 induction m with
 | zero =>
  obtain rfl : k = 0 := by omega
  exact hm
 | succ m ih =>
  rcases Nat.lt_or_ge k (m + 1) with h2 | h2
  ·rw [okTo, Bool.and_eq_true] at hm
   exact ih (by omega) hm.1
  ·obtain rfl : k = m + 1 := by omega
   exact hm
theorem good_at {b : List UInt8} {k : Nat} (h : k < cnt b) (hn : okAt b k = false) : goodB b = false := by
 cases hg : goodB b
 ·rfl
 ·rw [goodB, Bool.and_eq_true, Bool.and_eq_true] at hg
  have := okTo_less (k := k + 1) (by omega) hg.1.2
  rw [okTo, hn, Bool.and_false] at this
  cases this
theorem good_last {b : List UInt8} {k : Nat} (h : k + 1 = cnt b) (hn : (rd b k).2.1 = false) : goodB b = false := by
 unfold goodB lastOk
 rw [show cnt b - 1 = k by omega, hn, decide_eq_false (by omega : ¬ cnt b = 0)]
 simp
theorem good_end {b : List UInt8} (h : okTo b (cnt b) = true) (hl : cnt b = 0 ∨ (rd b (cnt b - 1)).2.1 = true) : goodB b = decide (b.length % 16 = 0) := by
 unfold goodB lastOk
 rw [h]
 rcases hl with hl | hl
 ·rw [decide_eq_true hl]; simp
 ·rw [hl]; simp
theorem rd_len (b : List UInt8) : (readR b).1.nm.length ≤ 13 := by
 cases h : (readR b).2.1
 ·rw [readR_none h]; simp [none_]
 ·exact (nameE_len ((writeE_iff _).1 (readR_used h).1).2).2
end Dir
theorem slots_calls (a : Option Addr) (n c : Nat) (w : World) (hn : n ≤ 140737488355328) : Calls Tryz.prog 98 #[.slice a n c] w fun e w' => e = .returned (.int .i64 (n / 16 : Nat)) ∧ w = w' := by
 have q : (n : Int) / 16 = ((n / 16 : Nat) : Int) := by omega
 have hq : n / 16 ≤ 140737488355328 := by omega
 generalize n / 16 = m at *
 go_enter Tryz.func98, Tryz.ntmps98
 go_wp2
 go_ret
 exact ⟨rfl, rfl⟩
theorem slot_calls (a : Option Addr) (n c k : Nat) (b : List UInt8) (w : World) (hx : Bytes w w.heap.size a n b) (hnc : n ≤ c) (hk : k < n / 16) :
  Calls Tryz.prog 100 #[.slice a n c, .int .i64 k] w fun e w' => (∃ a' c', e = .returned (.slice a' 16 c') ∧ 16 ≤ c' ∧ a' = cutA a c (16 * k) ∧ Bytes w w.heap.size a' 16 (Dir.slotAt b k)) ∧ w = w' := by
 have hroom := hx.room
 have hc := cutB_mid a n c (16 * k) (16 * k + 16) (by omega) (by omega)
 have HY := hid ((hx.drop (l := 16 * k) (by omega) hnc).take (k := 16) (by omega))
 have hcc : 16 ≤ c - 16 * k := by omega
 rw [show 16 * k + 16 - 16 * k = 16 by omega, show ((16 * k : Nat) : Int) = (k : Int) * 16 by omega, show ((16 * k + 16 : Nat) : Int) = ((k : Int) + 1) * 16 by omega] at hc
 have q1 : IntKind.i64.wrap ((k : Int) * 16) = (k : Int) * 16 := IntWalk.i64_in _ ⟨by omega, by omega⟩
 have q2 : IntKind.i64.wrap ((k : Int) + 1) = (k : Int) + 1 := IntWalk.i64_in _ ⟨by omega, by omega⟩
 have q3 : IntKind.i64.wrap (((k : Int) + 1) * 16) = ((k : Int) + 1) * 16 := IntWalk.i64_in _ ⟨by omega, by omega⟩
 clear hx
 go_enter Tryz.func100, Tryz.ntmps100
 go_wp2
 go_ret
 exact ⟨⟨_, _, rfl, hcc, rfl, HY.out⟩, rfl⟩
end
section
open Go.RowKit Go.Maps Go.WideMaps

namespace Dir
def checkE (b : List UInt8) : Int := if goodB b = true then 0 else 50
theorem checkE_no {b : List UInt8} (h : goodB b = false) : checkE b = 50 := by unfold checkE; rw [h]; rfl
end Dir
theorem check_calls (a : Option Addr) (n c : Nat) (b : List UInt8) (w : World) (hx : Bytes w w.heap.size a n b) (hnc : n ≤ c) :
  Calls Tryz.prog 144 #[.slice a n c] w fun e w' => e = .returned (.int .i64 (Dir.checkE b)) ∧ Below w.heap.size w w' := by
 have hl := hx.len
 have hroom := hx.room
 have HX := hid hx
 obtain ⟨S, hS⟩ : ∃ S, S = Dir.cnt b := ⟨_, rfl⟩
 have hSn : S = n / 16 := by rw [hS, Dir.cnt, hl]
 have HS := hid hSn
 have hsl := hid (fun W => slots_calls a n c W (by omega))
 rw [← hSn] at hsl
 have hSle : S ≤ 140737488351232 := by omega
 have HGA := hid (fun k (h : k < S) (hn : Dir.okAt b k = false) => Dir.checkE_no (Dir.good_at (by rw [← hS]; exact h) hn))
 have HGL := hid (fun k (h : k + 1 = S) (hn : (Dir.rd b k).2.1 = false) => Dir.checkE_no (Dir.good_last (by rw [← hS]; exact h) hn))
 have HGE := hid (fun (h : Dir.okTo b S = true) (h2 : S = 0 ∨ (Dir.rd b (S - 1)).2.1 = true) => (show Dir.checkE b = if n % 16 = 0 then 0 else 50 by
  unfold Dir.checkE
  rw [hS] at h h2
  rw [Dir.good_end h h2, hl]
  simp only [decide_eq_true_eq]))
 have hmod : (n : Int).tmod 16 = ((n % 16 : Nat) : Int) := by rw [Int.tmod_eq_emod_of_nonneg (by omega)]; omega
 have hmod2 : (n : Int) % 16 = ((n % 16 : Nat) : Int) := by omega
 obtain ⟨M, hM⟩ : ∃ M, M = n % 16 := ⟨_, rfl⟩
 rw [← hM] at hmod hmod2 HGE
 have hMl : M < 16 := by omega
 clear hx hS hSn hl hM
 have hmm := @run_makeMap Tryz.prog
 go_enter Tryz.func144, Tryz.ntmps144
 go_wp2
 go_step3
 go_wp2
 go_step3
 go_wp2_with fail
 refine (hsl.out _).mono ?_
 rintro e w_ ⟨rfl, rfl⟩
 go_wp2_with fail
 go_loopw [4, 18] (fun g i wr => ∃ k : Nat, k ≤ S ∧ i = .int .i64 k ∧ g = .bool ((M : Int) == 0) ∧ Dir.okTo b k = true ∧ (k = 0 ∨ k < S ∨ (Dir.rd b (k - 1)).2.1 = true) ∧ NameSet wr w.heap.size k (Dir.seen b k) ∧ Below w.heap.size w wr) (fun _ i _ => S - (intOf i).toNat)
 case atStart => exact ⟨0, by omega, rfl, rfl, rfl, .inl rfl, NameSet.made w, (Below.refl _ _).alloc (Nat.le_refl _) _⟩
 case round =>
  obtain ⟨k, hk, rfl, rfl, hok, hlast, hns, hb⟩ := hrel
  have HOK := hid hok
  have HLA := hid hlast
  have HNS := hid hns
  have HB := hid hb
  clear hok hlast hns hb
  by_cases hlt : k < S
  ·have hsc := hid (slot_calls a n c k b wr (HX.out.on HB.out) (by have := hnc; omega) (by have := HS.out; omega))
   go_wp2_with fail
   refine hsc.out.mono ?_
   rintro e w_ ⟨⟨a1, c1, rfl, hc1, ha1, hy⟩, rfl⟩
   clear ha1
   have HY := hid hy
   clear hy
   go_wp2_with fail
   have hrd := hid (read_calls a1 16 c1 (Dir.slotAt b k) wr HY.out hc1)
   unfold ReadR at hrd
   rw [show Dir.readR (Dir.slotAt b k) = Dir.rd b k from rfl] at hrd
   have hnl : (Dir.rd b k).1.nm.length ≤ maxLen := Nat.le_trans (Dir.rd_len _) (by simp [maxLen])
   have hat := hid (show Dir.okAt b k = (decide ((Dir.rd b k).2.2 = 0) && !((Dir.rd b k).2.1 && (Dir.seen b k).contains (Dir.rd b k).1.nm)) from rfl)
   have hsn := hid (show Dir.seen b (k + 1) = if (Dir.rd b k).2.1 = true then Dir.seen b k ++ [(Dir.rd b k).1.nm] else Dir.seen b k from rfl)
   have hto := hid (show Dir.okTo b (k + 1) = (Dir.okTo b k && Dir.okAt b k) from rfl)
   have hbad := hid (fun h => HGA.out k hlt h)
   have hend := hid (fun h => HGL.out k h)
   have hus := hid (show (Dir.rd b (k + 1 - 1)).2.1 = (Dir.rd b k).2.1 by rw [Nat.add_sub_cancel])
   generalize Dir.rd b k = R at *
   obtain ⟨⟨i, nm⟩, u, er⟩ := R
   simp only at hnl
   refine hrd.out.mono ?_
   rintro e w2 ⟨rfl, hb2⟩
   have HNS3 := hid (((HNS.out.on hb2)).on ((Below.refl w2.heap.size w2).alloc (Nat.le_refl _) (.cells #[.int .i64 i, .string (strL nm)] 114)))
   have HB3 := hid ((HB.out.then_ hb2).then_ ((Below.refl w2.heap.size w2).alloc (Nat.le_refl _) (.cells #[.int .i64 i, .string (strL nm)] 114)))
   clear hb2
   by_cases her : er = 0
   case neg =>
    have g1 : (er == 0) = false := by simpa using her
    have g2 : (er != 0) = true := by simpa using her
    have hf := hid (hbad.out (by rw [hat.out]; simp [her]))
    clear her
    go_wp2_with (at_lookup; refine wpList_lookup_name rfl _ _ rfl rfl HNS3.out nm hnl rfl ?_; intro cc)
    rw [Exit.noGoto_ret]
    go_ret
    exact ⟨by rw [hf.out]; rfl, HB3.out⟩
   subst her
   cases u
   ·have hokn := hid (show Dir.okTo b (k + 1) = true by rw [hto.out, HOK.out, hat.out]; simp)
    have hsn2 := hid (show Dir.seen b (k + 1) = Dir.seen b k from hsn.out)
    by_cases hk1 : k + 1 = S
    ·have hf := hid (hend.out hk1 rfl)
     have g1 : ((k : Int) == (S : Int) - 1) = true := by rw [beq_iff_eq]; omega
     clear hk1
     go_wp2_with (first
      | (at_lookup; refine wpList_lookup_name rfl _ _ rfl rfl HNS3.out nm hnl rfl ?_; intro cc)
      | (go_at_call 98; refine (hsl.out _).mono ?_; rintro e w_ ⟨rfl, rfl⟩))
     rw [Exit.noGoto_ret]
     go_ret
     exact ⟨by rw [hf.out]; rfl, HB3.out⟩
    ·have g1 : ((k : Int) == (S : Int) - 1) = false := by rw [beq_eq_false_iff_ne]; omega
     go_wp2_with (first
      | (at_lookup; refine wpList_lookup_name rfl _ _ rfl rfl HNS3.out nm hnl rfl ?_; intro cc)
      | (go_at_call 98; refine (hsl.out _).mono ?_; rintro e w_ ⟨rfl, rfl⟩))
     go_roundw
     case rel => exact ⟨k + 1, by omega, by go_num, rfl, hokn.out, .inr (.inl (by omega)), by rw [hsn2.out]; exact HNS3.out.mono (by omega), HB3.out⟩
     case measure => simp [intOf]; omega
   ·obtain ⟨T, hT⟩ : ∃ T, T = (Dir.seen b k).contains nm := ⟨_, rfl⟩
    cases T
    ·have hTT := hid hT.symm
     have hokn := hid (show Dir.okTo b (k + 1) = true by rw [hto.out, HOK.out, hat.out]; simp only [← hT]; rfl)
     have hsn2 := hid (show Dir.seen b (k + 1) = Dir.seen b k ++ [nm] from hsn.out)
     have hi64 : (Lit.int .i64 (k : Int)).wf = true := WalkArith.wf_i64 (by omega)
     have hsz0 := HB3.out.size
     clear hT
     go_wp2_with (first
      | (at_lookup; refine wpList_lookup_name rfl _ _ rfl rfl HNS3.out nm hnl rfl ?_; intro cc; rw [hTT.out])
      | (at_mapUpdate; refine wpList_add_name rfl _ _ _ rfl rfl HNS3.out (by simp only [maxLen]; omega) nm hnl (k : Int) hi64 rfl rfl ?_; intro w5 HN5 hg5))
     go_roundw
     case rel => exact ⟨k + 1, by omega, by go_num, rfl, hokn.out, .inr (.inr hus.out), by rw [hsn2.out]; exact HN5.out, HB3.out.grown hg5.out HB3.out.size (fun j hj => by cases hj; exact Nat.le_refl _)⟩
     case measure => simp [intOf]; omega
    ·have hf := hid (hbad.out (by rw [hat.out]; simp only [← hT]; rfl))
     have hTT := hid hT.symm
     clear hT
     go_wp2_with (at_lookup; refine wpList_lookup_name rfl _ _ rfl rfl HNS3.out nm hnl rfl ?_; intro cc; rw [hTT.out])
     rw [Exit.noGoto_ret]
     go_ret
     exact ⟨by rw [hf.out]; rfl, HB3.out⟩
  ·obtain rfl : k = S := by omega
   have hfin := hid (HGE.out HOK.out (by have h := HLA.out; rcases h with h | h | h <;> first | exact .inl h | exact .inr h | (exfalso; omega)))
   by_cases hM0 : M = 0
   ·have g1 : ((M : Int) == 0) = true := by rw [hM0]; rfl
    have hf := hid (hfin.out.trans (if_pos hM0))
    clear hM0
    go_wp2
    rw [Exit.noGoto_ret]
    go_ret
    exact ⟨by rw [hf.out]; rfl, HB.out⟩
   ·have g1 : ((M : Int) == 0) = false := by rw [beq_eq_false_iff_ne]; omega
    have hf := hid (hfin.out.trans (if_neg hM0))
    clear hM0
    go_wp2
    rw [Exit.noGoto_ret]
    go_ret
    exact ⟨by rw [hf.out]; rfl, HB.out⟩

namespace Dir
def roomTo (b : List UInt8) (k : Nat) : Prop := ∀ j, j < k → isZ (slotAt b j) = false
def IsRoom (b : List UInt8) (r : Nat) : Prop := roomTo b r ∧ r ≤ cnt b ∧ (r < cnt b → isZ (slotAt b r) = true)
end Dir
theorem room_calls (a : Option Addr) (n c : Nat) (b : List UInt8) (w : World) (hx : Bytes w w.heap.size a n b) (hnc : n ≤ c) :
  Calls Tryz.prog 54 #[.slice a n c] w fun e w' => (∃ r : Nat, e = .returned (.int .i64 r) ∧ Dir.IsRoom b r) ∧ w = w' := by
 have hl := hx.len
 have hroom := hx.room
 have HX := hid hx
 obtain ⟨S, hS⟩ : ∃ S, S = Dir.cnt b := ⟨_, rfl⟩
 have hSn : S = n / 16 := by rw [hS, Dir.cnt, hl]
 have HS := hid hSn
 have HC := hid hS
 have hsl := hid (fun W => slots_calls a n c W (by omega))
 rw [← hSn] at hsl
 have hSle : S ≤ 140737488351232 := by omega
 clear hx hS hSn hl
 go_enter Tryz.func54, Tryz.ntmps54
 go_wp2_with fail
 refine (hsl.out _).mono ?_
 rintro e w_ ⟨rfl, rfl⟩
 go_wp2_with fail
 go_loop [6] (fun i => ∃ k : Nat, k ≤ S ∧ i = .int .i64 k ∧ Dir.roomTo b k) (fun i => S - (intOf i).toNat)
 case atStart => exact ⟨0, by omega, rfl, fun j hj => by omega⟩
 case round =>
  obtain ⟨k, hk, rfl, hz⟩ := hrel
  have HZ := hid hz
  clear hz
  by_cases hlt : k < S
  ·have hsc := hid (slot_calls a n c k b w HX.out hnc (by have := HS.out; omega))
   go_wp2_with fail
   refine hsc.out.mono ?_
   rintro e w_ ⟨⟨a1, c1, rfl, hc1, ha1, hy⟩, rfl⟩
   have HE := hid (empty_calls a1 16 c1 _ w hy)
   clear ha1 hy
   cases hb : Dir.isZ (Dir.slotAt b k)
   ·rw [hb] at HE
    have hnx := hid (show Dir.roomTo b (k + 1) from fun j hj => by
     by_cases h : j = k
     ·rw [h]; exact hb
     ·exact HZ.out j (by omega))
    clear hb
    go_wp2_with fail
    refine HE.out.mono ?_
    rintro e w_ ⟨rfl, rfl⟩
    go_wp2
    go_round
    case rel => exact ⟨k + 1, by omega, by go_num, hnx.out⟩
    case measure => simp [intOf]; omega
   ·rw [hb] at HE
    have hfin := hid (show Dir.IsRoom b k from ⟨HZ.out, by have := HC.out; omega, fun _ => hb⟩)
    clear hb
    go_wp2_with fail
    refine HE.out.mono ?_
    rintro e w_ ⟨rfl, rfl⟩
    go_wp2
    go_ret
    exact ⟨⟨k, rfl, hfin.out⟩, rfl⟩
  ·obtain rfl : k = S := by omega
   have hfin := hid (show Dir.IsRoom b k from ⟨HZ.out, by have := HC.out; omega, fun h => by have := HC.out; omega⟩)
   go_wp2_with fail
   refine (hsl.out _).mono ?_
   rintro e w_ ⟨rfl, rfl⟩
   go_wp2
   go_ret
   exact ⟨⟨k, rfl, hfin.out⟩, rfl⟩
end
section
open Go.RowKit

attribute [local go_sem] Oper.semAt_some

namespace Dir
def entsTo (b : List UInt8) : Nat → List (Nat × Ent)
 | 0 => []
 | k + 1 => if (rd b k).2.1 = true then entsTo b k ++ [(k, (rd b k).1)] else entsTo b k
def ents (b : List UInt8) : List (Nat × Ent) := entsTo b (cnt b)
theorem entsTo_pre {b : List UInt8} {k m : Nat} (h : k ≤ m) : entsTo b k <+: entsTo b m := by
 induction m with
 | zero =>
  obtain rfl : k = 0 := by omega
  exact List.prefix_refl _
 | succ m ih =>
  rcases Nat.lt_or_ge k (m + 1) with h2 | h2
  ·refine (ih (by omega)).trans ?_
   rw [entsTo]
   split
   ·exact List.prefix_append _ _
   ·exact List.prefix_refl _
  ·obtain rfl : k = m + 1 := by omega
   exact List.prefix_refl _
end Dir
def entEnc (x : Nat × Ent) : Array Value := #[.int .i64 (x.1 : Int), .agg #[.int .i64 x.2.i, .string (strL x.2.nm)]]
theorem grown_of_below' {c : Nat} {W W' : World} (h : Below W.heap.size W W') : W.grownBy W' (some c) := ⟨h.os, h.tape, h.output, h.size, fun k hk _ => h.block k hk⟩
theorem all_iter (a : Option Addr) (n c : Nat) (b : List UInt8) (C n0 : Nat) (w : World) (hnc : n ≤ c) (hx : Bytes w n0 a n b) (hC : Blk w C 40 #[.slice a n c]) (hn0 : n0 ≤ C) :
  Iter Tryz.prog 140 #[.pointer (some ⟨C, 0, none⟩)] entEnc (Dir.ents b) C n0 w := by
 intro lp J Jx W hW hJ hJx hY h0
 have hxW := hx.below (B := n0) (hW.mono (Nat.le_of_lt (Nat.lt_of_le_of_lt hn0 hC.lt)))
 have hCW := hC.belowHere hW
 have hroom := hx.room
 have hl := hx.len
 obtain ⟨S, hS⟩ : ∃ S, S = Dir.cnt b := ⟨_, rfl⟩
 have hSn : S = n / 16 := by rw [hS, Dir.cnt, hl]
 have HS := hid hSn
 have hsl := hid (fun W => slots_calls a n c W (by omega))
 rw [← hSn] at hsl
 have hSle : S ≤ 140737488351232 := by omega
 have HE := hid (show Dir.ents b = Dir.entsTo b S by rw [hS]; rfl)
 have HY := hid hY
 have HJ := hid hJ
 have HX := hid hxW
 have HC := hid hCW
 have H0 := hid h0
 have cc := hCW.cellv (i := 0) rfl
 have hsc := hid (callsIn_wide (n := 7) |>.2 (hsl.out W))
 clear hx hC hW hl hSn hS hY hJ hxW hCW h0 hsl
 refine callsIn_of_wp Tryz.func140 rfl trivial ?_ rfl
 simp only [Tryz.ntmps140, List.size_toArray, List.length_cons, List.length_nil, Nat.reduceAdd, Nat.reduceSub, Array.replicate_succ, Array.replicate_zero, List.push_toArray, List.append_toArray, List.nil_append, List.cons_append]
 gi_wp2_with fail
 refine ⟨trivial, ?_⟩
 refine hsc.out.mono ?_
 rintro e w_ ⟨rfl, rfl⟩
 gi_wp2
 gi_loopw [9] (fun i wr => ∃ k : Nat, k ≤ S ∧ i = .int .i64 k ∧ Bytes wr n0 a n b ∧ Blk wr C 40 #[.slice a n c] ∧ J (Dir.entsTo b k) wr) (fun i _ => S - (intOf i).toNat)
 case atStart => exact ⟨0, by omega, rfl, HX.out, HC.out, H0.out⟩
 case round =>
  obtain ⟨k, hk, rfl, hx, hc, hj⟩ := hrel
  have hszr : n0 ≤ wr.heap.size := Nat.le_of_lt (Nat.lt_of_le_of_lt hn0 hc.lt)
  have cc := hc.cellv (i := 0) rfl
  have HX := hid hx
  have HC := hid hc
  have HJ1 := hid hj
  clear hx hc hj
  by_cases hlt : k < S
  ·have hst := hid (callsIn_wide (n := 7) |>.2 (slot_calls a n c k b wr (HX.out.mono hszr) hnc (by have := HS.out; omega)))
   have hent := hid (show Dir.entsTo b (k + 1) = if (Dir.rd b k).2.1 = true then Dir.entsTo b k ++ [(k, (Dir.rd b k).1)] else Dir.entsTo b k from rfl)
   have hpre := hid (show Dir.entsTo b (k + 1) <+: Dir.ents b by rw [HE.out]; exact Dir.entsTo_pre (by omega))
   gi_wp2_with fail
   refine ⟨trivial, ?_⟩
   refine hst.out.mono ?_
   rintro e w_ ⟨⟨a1, c1, rfl, hc1, ha1, hy⟩, rfl⟩
   clear ha1
   have hrd := hid (callsIn_wide (n := 7) |>.2 (read_calls a1 16 c1 (Dir.slotAt b k) wr hy hc1))
   unfold ReadR at hrd
   rw [show Dir.readR (Dir.slotAt b k) = Dir.rd b k from rfl] at hrd
   generalize Dir.rd b k = R at *
   obtain ⟨⟨i, nm⟩, u, er⟩ := R
   clear hy
   gi_wp2_with fail
   refine ⟨trivial, ?_⟩
   refine hrd.out.mono ?_
   rintro e w2 ⟨rfl, hb2⟩
   have hb3 := hb2.trans (((Below.refl w2.heap.size w2).alloc (Nat.le_refl _) (.cells #[.int .i64 i, .string (strL nm)] 114)).mono hb2.size)
   have HX3 := hid (HX.out.below (hb3.mono hszr))
   have HC3 := hid (HC.out.belowHere hb3)
   have HJ3 := hid (HJ.out _ _ _ HJ1.out (grown_of_below' hb3))
   clear hb2 hb3
   cases u
   ·have hent2 := hid (show Dir.entsTo b (k + 1) = Dir.entsTo b k from hent.out)
    gi_wp2
    all_goals (refine ⟨fun _ h => (by cases h), ?_⟩; gi_wp2)
    go_roundw
    case rel => exact ⟨k + 1, by omega, by go_num, HX3.out, HC3.out, by rw [hent2.out]; exact HJ3.out⟩
    case measure => simp [intOf]; omega
   ·have hent2 := hid (show Dir.entsTo b (k + 1) = Dir.entsTo b k ++ [(k, ⟨i, nm⟩)] from hent.out)
    obtain ⟨fn, tmps, assign, body, hy, hR⟩ := HY.out (Dir.entsTo b k) (k, ⟨i, nm⟩) _ HJ3.out (by rw [← hent2.out]; exact hpre.out)
    unfold entEnc at hy
    gi_wp2
    refine hR.mono ?_
    rintro e W3 (⟨rfl, hJ3, hb3, hc3⟩ | ⟨rfl, hJx3⟩)
    ·have HX4 := hid (HX3.out.below hb3)
     have HC4 := hid (hc3.trans HC3.out)
     have HJ4 := hid hJ3
     clear hJ3 hb3 hc3
     gi_wp2
     go_roundw
     case rel => exact ⟨k + 1, by omega, by go_num, HX4.out, HC4.out, by rw [hent2.out]; exact HJ4.out⟩
     case measure => simp [intOf]; omega
    ·gi_wp2
     refine bodyPost_ret (results_none rfl _ _ _) rfl ?_
     exact ⟨⟨_, rfl⟩, .inr ⟨_, by rw [← hent2.out]; exact hpre.out, hJx3⟩⟩
  ·obtain rfl : k = S := by omega
   gi_wp2
   go_end0
   exact ⟨⟨_, rfl⟩, .inl (by rw [HE.out]; exact HJ1.out)⟩
end
section
open Go.RowKit

theorem range_law2 {α : Type} {P : Program} {g : Operand} {ps : Array Tmp} {assign body : Code} {Q : Exit → Act → World → Prop} {a : Act} {w : World} {gf : Nat} {lb : Array Value} {encs : α → Array Value} {xs : List α} {c n0 : Nat} {w0 : World}
  (hg : a.eval g = .func (.func gf) #[] lb) (eg : ∀ args w, (callFunc gf args).run P w = .ok (.enter gf args) w) (hit : Iter P gf lb encs xs c n0 w0) (hb0 : Below w0.heap.size w0 w) (hn0 : n0 ≤ w.heap.size) (hc : c < w.heap.size)
  (hps : ∀ x, (encs x).size = ps.size) (I : List α → World → Prop) (Ix : Code → List α → World → Prop) (hI : ∀ pre, Keeps2 c w.heap.size (I pre)) (hIx : ∀ k pre, Keeps2 c w.heap.size (Ix k pre)) (h0 : I [] w) (M : List α → α → Act → World → Prop) (hM : ∀ pre x a1, Keeps2 c w.heap.size (M pre x a1))
  (hassign : ∀ (l : Nat) (pre : List α) (x : α) (W : World) (K : Act → World → Prop), I pre W → (pre ++ [x]) <+: xs → (∀ a1 W', KeepsOthers W W' → Below n0 W W' → W'.heap[c]? = W.heap[c]? → W.heap.size ≤ W'.heap.size → M pre x a1 W' → K a1 W') →
   assign.wpIn (Fence.wide.inRound l) 7 P (Exit.then K (fun _ _ _ => False)) { tmps := (ps.zip (encs x)).foldl (fun t (p, v) => t.setIfInBounds p v) a.tmps, defers := [] } W)
  (hbody : ∀ (l : Nat) (pre : List α) (x : α) (a1 : Act) (W : World), M pre x a1 W → (pre ++ [x]) <+: xs → body.wpIn (Fence.wide.inRound l) 7 P (LeftBy n0 c I Ix (pre ++ [x]) W) a1 W)
  (hdone : ∀ (D : Nat) (W : World), w.heap.size ≤ D → I xs W → W.heap[D]? = some (.deferred (some [])) → Q .normal { a with defers := { target := .collected D, args := #[] } :: a.defers } W)
  (hstop : ∀ (D : Nat) (k : Code) (pre : List α) (W : World), w.heap.size ≤ D → pre <+: xs → Ix k pre W → W.heap[D]? = some (.deferred (some [])) → k.wpIn Fence.wide 9 P Q { a with defers := { target := .collected D, args := #[] } :: a.defers } W) :
  (Code.rangeFunc g ps assign body).wpIn Fence.wide 9 P Q a w := by
 refine wpIn_rangeFunc fun fn hfn => ?_
 obtain ⟨D, hD⟩ : ∃ D, w.heap.size = D := ⟨_, rfl⟩
 obtain ⟨R, hR⟩ : ∃ R : LoopState → Option Code → Loop, R = fun st pe => { state := st, pending := pe, fn, tmps := a.tmps, params := ps, assign, body, defers := D } := ⟨_, rfl⟩
 have hstate : ∀ st pe st' pe', { R st pe with state := st', pending := pe' } = R st' pe' := by intros; rw [hR]
 obtain ⟨V, hV⟩ : ∃ V, (w.alloc (.deferred (some []))).alloc (.loop (R .ready none)) = V := ⟨_, rfl⟩
 have vl : V.heap[D + 1]? = some (.loop (R .ready none)) := by
  have h := World.alloc_heap_new (w.alloc (.deferred (some []))) (.loop (R .ready none))
  rw [World.size_alloc, hD, hV] at h
  exact h
 have vd : V.heap[D]? = some (.deferred (some [])) := by
  rw [← hV, Below.heap_alloc _ _ _ (by rw [World.size_alloc]; omega), ← hD]
  exact World.alloc_heap_new w _
 have hIV : I [] V := by rw [← hV]; exact (hI []).alloc _ ((hI []).alloc _ h0)
 have hbV : Below w0.heap.size w0 V := by
  rw [← hV]
  exact (hb0.alloc hb0.size _).alloc (by rw [World.size_alloc]; have := hb0.size; omega) _
 have turn2 : ∀ (A : World) (r : Loop) (jump : Option Code), A.heap[D + 1]? = some (.loop r) → (A.putObj (D + 1) (.loop { r with state := if jump.isNone then .ready else .done, pending := jump })).heap[D + 1]? = some (.loop { r with state := if jump.isNone then .ready else .done, pending := jump }) :=
  fun A r jump h => World.putObj_heap_same (heap_lt h)
 refine ⟨D + 1, [{ target := .collected D, args := #[] }], V, { target := .fn (.func gf) lb, args := #[.func (.yield (D + 1)) #[] #[]] }, V, gf, #[.func (.yield (D + 1)) #[] #[]] ++ lb, V, ?_, ?_, fun _ _ => trivial, ?_, wide_one, ?_⟩
 ·have h := run_enterLoop_outer (P := P) (w := w) fn a.tmps ps assign body
  rw [hD] at h
  rw [← hV, hR]
  exact h
 ·simp only [resolve, hg]
  simp [go_sem]
 ·simp [invoke, go_sem, eg]
 ·refine (hit (D + 1) (fun pre W => I pre W ∧ W.heap[D + 1]? = some (.loop (R .ready none)) ∧ W.heap[D]? = some (.deferred (some [])))
   (fun pre W => ∃ k, Ix k pre W ∧ W.heap[D + 1]? = some (.loop (R .done (some k))) ∧ W.heap[D]? = some (.deferred (some []))) V hbV ?_ ?_ ?_ ⟨hIV, vl, vd⟩).mono ?_
  ·rintro pre A B ⟨h1, h2, h3⟩ hgr
   exact ⟨(hI pre).one A B h1 hgr, kept1 h2 hgr (by omega), kept1 h3 hgr (by omega)⟩
  ·rintro pre A B ⟨k, h1, h2, h3⟩ hgr
   exact ⟨k, (hIx k pre).one A B h1 hgr, kept1 h2 hgr (by omega), kept1 h3 hgr (by omega)⟩
  ·rintro pre x A ⟨hi, hl, hd⟩ hpre
   refine ⟨fn, _, assign, body, by have h := run_yield (P := P) (args := encs x) hl (by rw [hR]; exact hps x); rw [hR] at h; exact h, roundIn_of_wpIn hfn (hassign _ pre x A _ hi hpre ?_)⟩
   intro a1 A1 ko ab1 ac1 _ am
   have al1 := ko.same _ _ hl rfl
   have ad1 := ko.same _ _ hd rfl
   refine ⟨_, run_beginRound al1 (by rw [hR]), ?_⟩
   obtain ⟨A2, hA2⟩ : ∃ A2, A1.putObj (D + 1) (.loop { R .ready none with state := .busy }) = A2 := ⟨_, rfl⟩
   have al : A2.heap[D + 1]? = some (.loop { R .ready none with state := .busy }) := by rw [← hA2]; exact World.putObj_heap_same (heap_lt al1)
   have ad : A2.heap[D]? = some (.deferred (some [])) := by rw [← hA2]; exact (World.putObj_heap_other (by omega)).trans ad1
   have ac : A2.heap[c]? = A.heap[c]? := by rw [← hA2]; exact (World.putObj_heap_other (by omega)).trans ac1
   have ab : Below n0 A A2 := by rw [← hA2]; exact ab1.trans (below_turn _ (by omega))
   have ai : M pre x a1 A2 := by rw [← hA2]; exact (hM pre x a1).turn _ (by omega) am al1 rfl
   rw [hA2]
   refine wpIn_mono (hbody _ pre x a1 A2 ai hpre) ?_
   intro e a3 B hp
   cases e with
   | normal =>
    obtain ⟨h1, h2, h3, h4⟩ := hp
    have bl := h1.same _ _ al rfl
    have bd := h1.same _ _ ad rfl
    refine ⟨_, _, run_endRound none bl, .inl ⟨rfl, ⟨(hI _).turn _ (by omega) h4 bl rfl, ?_, (World.putObj_heap_other (by omega)).trans bd⟩, (ab.trans h2).trans (below_turn _ (by omega)), ?_⟩⟩
    ·rw [turn2 B _ none bl, hR]; rfl
    ·rw [World.putObj_heap_other (by omega), h3, ac]
   | ret =>
    obtain ⟨h1, h4⟩ := hp
    have bl := h1.same _ _ al rfl
    have bd := h1.same _ _ ad rfl
    refine ⟨_, _, run_endRound (some .ret) bl, .inr ⟨rfl, .ret, (hIx _ _).turn _ (by omega) h4 bl rfl, ?_, (World.putObj_heap_other (by omega)).trans bd⟩⟩
    rw [turn2 B _ (some .ret) bl, hR]; rfl
   | exit id =>
    obtain ⟨h1, h4⟩ := hp
    have bl := h1.same _ _ al rfl
    have bd := h1.same _ _ ad rfl
    refine ⟨_, _, run_endRound (some (.exit id)) bl, .inr ⟨rfl, .exit id, (hIx _ _).turn _ (by omega) h4 bl rfl, ?_, (World.putObj_heap_other (by omega)).trans bd⟩⟩
    rw [turn2 B _ (some (.exit id)) bl, hR]; rfl
   | goto t =>
    obtain ⟨h1, h4⟩ := hp
    have bl := h1.same _ _ al rfl
    have bd := h1.same _ _ ad rfl
    refine ⟨_, _, run_endRound (some (.goto t)) bl, .inr ⟨rfl, .goto t, (hIx _ _).turn _ (by omega) h4 bl rfl, ?_, (World.putObj_heap_other (by omega)).trans bd⟩⟩
    rw [turn2 B _ (some (.goto t)) bl, hR]; rfl
   | panic ch => exact hp.elim
   | outgrown => exact hp.elim
  ·rintro e B ⟨⟨v, rfl⟩, h | ⟨pre, hpre, k, h1, bl, bd⟩⟩
   ·obtain ⟨h1, bl, bd⟩ := h
    refine ⟨none, _, by have h := run_endLoop (P := P) bl (by rw [hR]; simp); rw [hR] at h; exact h, ?_⟩
    exact hdone D _ (by omega) ((hI _).turn _ (by omega) h1 bl rfl) ((World.putObj_heap_other (by omega)).trans bd)
   ·refine ⟨some k, _, by have h := run_endLoop (P := P) bl (by rw [hR]; simp); rw [hR] at h; exact h, ?_⟩
    exact hstop D k pre _ (by omega) hpre ((hIx k pre).turn _ (by omega) h1 bl rfl) ((World.putObj_heap_other (by omega)).trans bd)
end
section
open Go.RowKit Go.Shelf

attribute [local go_sem] Oper.semAt_some

namespace Dir
def findIn (nm : List UInt8) : List (Nat × Ent) → Int × Int
 | [] => (-1, 0)
 | x :: t => if x.2.nm = nm then ((x.1 : Int), x.2.i) else findIn nm t
def findR (b nm : List UInt8) : Int × Int := findIn nm (ents b)
theorem findIn_none {nm : List UInt8} {l : List (Nat × Ent)} (h : ∀ y ∈ l, y.2.nm ≠ nm) : findIn nm l = (-1, 0) := by
 induction l with
 | nil => rfl
 | cons x t ih =>
  rw [findIn, if_neg (h x (by simp)), ih (fun y hy => h y (by simp [hy]))]
theorem findIn_some {nm : List UInt8} {pre l : List (Nat × Ent)} {x : Nat × Ent} (hp : (pre ++ [x]) <+: l) (h : ∀ y ∈ pre, y.2.nm ≠ nm) (hx : x.2.nm = nm) : findIn nm l = ((x.1 : Int), x.2.i) := by
 obtain ⟨t, rfl⟩ := hp
 induction pre with
 | nil => simp [findIn, hx]
 | cons y r ih =>
  rw [List.cons_append, List.cons_append, findIn, if_neg (h y (by simp))]
  exact ih (fun z hz => h z (by simp [hz]))
end Dir
def FindI (H : Nat) (w : World) (nm : List UInt8) (pre : List (Nat × Ent)) (W : World) : Prop :=
 Blk W H 9 #[.string (strL nm)] ∧ Blk W (H + 1) 3 #[.int .i64 0] ∧ Blk W (H + 2) 3 #[.int .i64 0] ∧ Below H w W ∧ H + 4 ≤ W.heap.size ∧ (∀ y ∈ pre, y.2.nm ≠ nm)
def FindX (H : Nat) (w : World) (r : Int × Int) (k : Code) (W : World) : Prop :=
 Blk W (H + 1) 3 #[.int .i64 r.1] ∧ Blk W (H + 2) 3 #[.int .i64 r.2] ∧ Below H w W ∧ k = .ret
theorem findI_keeps (H : Nat) (w : World) (hw : H ≤ w.heap.size) (nm : List UInt8) (pre : List (Nat × Ent)) : Keeps2 (H + 3) (H + 4) (FindI H w nm pre) :=
 (Blk.keeps2 (by omega)).and ((Blk.keeps2 (by omega)).and ((Blk.keeps2 (by omega)).and ((below_keeps2 (by omega) (by omega) hw).and (size_keeps2.and (Keeps2.pure _)))))
theorem findX_keeps (H : Nat) (w : World) (hw : H ≤ w.heap.size) (r : Int × Int) (k : Code) : Keeps2 (H + 3) (H + 4) (FindX H w r k) :=
 (Blk.keeps2 (by omega)).and ((Blk.keeps2 (by omega)).and ((below_keeps2 (by omega) (by omega) hw).and (Keeps2.pure _)))
theorem allFn (a : Option Addr) (n c : Nat) (w : World) :
  Calls Tryz.prog 97 #[.slice a n c] w fun e w' => e = .returned (.func (.func 140) #[] #[.pointer (some ⟨w.heap.size, 0, none⟩)]) ∧ w.alloc (.cells #[.slice a n c] 40) = w' := by
 go_enter Tryz.func97, Tryz.ntmps97
 go_wp2
 go_ret
 exact ⟨rfl, rfl⟩
def findAct (a : Option Addr) (n c H : Nat) (nm : List UInt8) (x : Nat × Ent) (g : Nat) : Act :=
 { tmps := #[.slice a n c, .string (strL nm), undef, .pointer (some ⟨H, 0, none⟩), .pointer (some ⟨H + 1, 0, none⟩), .pointer (some ⟨H + 2, 0, none⟩), .int .i64 (x.1 : Int), .pointer (some ⟨g, 0, none⟩), .slice a n c, .func (.func 140) #[] #[.pointer (some ⟨H + 3, 0, none⟩)], .int .i64 (x.1 : Int), .agg #[.int .i64 x.2.i, .string (strL x.2.nm)], undef, undef, undef, undef, undef, undef, undef], defers := [] }
theorem find_calls (a : Option Addr) (n c : Nat) (b nm : List UInt8) (w : World) (hx : Bytes w w.heap.size a n b) (hnc : n ≤ c) :
  Calls Tryz.prog 52 #[.slice a n c, .string (strL nm)] w fun e w' => e = .returned (.tuple #[.int .i64 (Dir.findR b nm).1, .int .i64 (Dir.findR b nm).2]) ∧ Below w.heap.size w w' := by
 refine callsIn_wide (n := 9) |>.1 ?_
 refine callsIn_of_wp_marks Tryz.func52 rfl trivial ?_ rfl
 refine wpIn_wide.2 ?_
 simp only [Tryz.ntmps52, List.size_toArray, List.length_cons, List.length_nil, Nat.reduceAdd, Nat.reduceSub, Array.replicate_succ, Array.replicate_zero, List.push_toArray, List.append_toArray, List.nil_append, List.cons_append]
 go_wp2_with fail
 refine (allFn a n c _).mono ?_
 rintro e w' ⟨rfl, rfl⟩
 go_wp2
 rw [show w.heap.size + 1 + 1 + 1 = w.heap.size + 3 from rfl, show w.heap.size + 1 + 1 = w.heap.size + 2 from rfl]
 have b3 := (((Blk.new w 9 #[.string (strL nm)]).alloc (.cells #[.int .i64 0] 3)).alloc (.cells #[.int .i64 0] 3)).alloc (.cells #[.slice a n c] 40)
 have b4 := ((Blk.new (w.alloc (.cells #[.string (strL nm)] 9)) 3 #[.int .i64 0]).alloc (.cells #[.int .i64 0] 3)).alloc (.cells #[.slice a n c] 40)
 have b5 := (Blk.new ((w.alloc (.cells #[.string (strL nm)] 9)).alloc (.cells #[.int .i64 0] 3)) 3 #[.int .i64 0]).alloc (.cells #[.slice a n c] 40)
 have b6 := Blk.new (((w.alloc (.cells #[.string (strL nm)] 9)).alloc (.cells #[.int .i64 0] 3)).alloc (.cells #[.int .i64 0] 3)) 40 #[.slice a n c]
 have hb0 : Below w.heap.size w ((((w.alloc (.cells #[.string (strL nm)] 9)).alloc (.cells #[.int .i64 0] 3)).alloc (.cells #[.int .i64 0] 3)).alloc (.cells #[.slice a n c] 40)) := ((((Below.refl _ w).alloc (Nat.le_refl _) _).alloc (by simp) _).alloc (by simp; omega) _).alloc (by simp; omega) _
 have hsz : ((((w.alloc (.cells #[.string (strL nm)] 9)).alloc (.cells #[.int .i64 0] 3)).alloc (.cells #[.int .i64 0] 3)).alloc (.cells #[.slice a n c] 40)).heap.size = w.heap.size + 4 := by simp
 simp only [World.size_alloc] at b4 b5 b6
 rw [show w.heap.size + 1 + 1 = w.heap.size + 2 from rfl] at b5
 rw [show w.heap.size + 1 + 1 + 1 = w.heap.size + 3 from rfl] at b6
 generalize (((w.alloc (.cells #[.string (strL nm)] 9)).alloc (.cells #[.int .i64 0] 3)).alloc (.cells #[.int .i64 0] 3)).alloc (.cells #[.slice a n c] 40) = W0 at *
 have hit := all_iter a n c b (w.heap.size + 3) w.heap.size W0 hnc (hx.below hb0) b6 (by omega)
 have HNE := hid (fun pre x (h : (pre ++ [x]) <+: Dir.ents b) (h1 : ∀ y ∈ pre, y.2.nm ≠ nm) (h2 : x.2.nm = nm) => (show Dir.findR b nm = _ from Dir.findIn_some h h1 h2))
 have HNO := hid (fun (h1 : ∀ y ∈ Dir.ents b, y.2.nm ≠ nm) => (show Dir.findR b nm = _ from Dir.findIn_none h1))
 refine wpIn_wide.1 (range_law2 (gf := 140) (lb := #[.pointer (some ⟨w.heap.size + 3, 0, none⟩)]) (encs := entEnc) (xs := Dir.ents b) (c := w.heap.size + 3) (n0 := w.heap.size) (w0 := W0) rfl (enters_of Tryz.func140 (by kernel_rfl) rfl) hit (Below.refl _ _) (by omega) (by omega) (fun _ => rfl)
  (FindI w.heap.size w nm) (fun k _ => FindX w.heap.size w (Dir.findR b nm) k) (fun pre => by rw [hsz]; exact findI_keeps _ w (Nat.le_refl _) nm pre) (fun k pre => by rw [hsz]; exact findX_keeps _ w (Nat.le_refl _) _ k)
  ⟨b3, b4, b5, hb0, by omega, by simp⟩
  (fun pre x a1 W => ∃ g, a1 = findAct a n c w.heap.size nm x g ∧ w.heap.size + 4 ≤ g ∧ Blk W g 114 #[.int .i64 x.2.i, .string (strL x.2.nm)] ∧ FindI w.heap.size w nm pre W) ?keeps ?assign ?body ?done ?stop)
 case keeps =>
  intro pre x a1
  rw [hsz]
  refine Keeps2.ex fun g => ?_
  by_cases hg : w.heap.size + 4 ≤ g
  ·exact (Keeps2.pure _).and ((Keeps2.pure _).and ((Blk.keeps2 (by omega)).and (findI_keeps _ w (Nat.le_refl _) nm pre)))
  ·intro W W' r h; exact absurd h.2.1 hg
 case assign =>
  intro lp pre x W K hi hpre hK
  unfold entEnc
  obtain ⟨i3, i4, i5, i6, i7, i8⟩ := id hi
  gi_wp2
  refine hK _ _ (KeepsOthers.alloc _ _) ((Below.refl w.heap.size W).alloc (by omega) _) (Below.heap_alloc _ _ _ (by omega)) (by simp) ⟨W.heap.size, rfl, i7, Blk.new _ _ _, i3.alloc _, i4.alloc _, i5.alloc _, i6.alloc (by omega) _, by simp; omega, i8⟩
 case body =>
  rintro lp pre x a1 W ⟨g, rfl, hg, bg, b3, b4, b5, hbel, hsW, hn⟩ hpre
  unfold findAct
  obtain ⟨k, i, xm⟩ := x
  have e0 := bg.cellv (i := 0) rfl
  have e1 := bg.cellv (i := 1) rfl
  have c3 := b3.cellv (i := 0) rfl
  have c4 := b4.cellv (i := 0) rfl
  have c5 := b5.cellv (i := 0) rfl
  have f4 := b4.frozen 0
  have f5 := b5.frozen 0
  have HB := hid hbel
  have HN := hid hn
  have B3 := hid b3
  have B4 := hid b4
  have B5 := hid b5
  by_cases he : xm = nm
  ·have hfr := hid (HNE.out pre _ hpre hn he)
   subst he
   have g1 : (xm == xm) = true := by simp
   clear hn hbel b3 b4 b5 bg
   gi_wp2
   gi_region
   all_goals
    gi_wp2
    have ko := (others_setCell W (w.heap.size + 1) 0 (.int .i64 (k : Int))).trans (others_setCell _ (w.heap.size + 2) 0 (.int .i64 i))
    refine ⟨⟨ko.size, ko.same⟩, ?_, ?_, ((HB.out.setCell (p := ⟨w.heap.size + 1, 0, none⟩) (by simp) _).setCell (p := ⟨w.heap.size + 2, 0, none⟩) (by simp) _).drew, rfl⟩
    ·rw [hfr.out]; exact ((B4.out.set 0 _).far (by simp) _).drew
    ·rw [hfr.out]; exact ((B5.out.far (by simp) _).set 0 _).drew
  ·have g1 : (xm == nm) = false := by simpa using he
   have hn2 := hid (show ∀ y ∈ pre ++ [(k, (⟨i, xm⟩ : Ent))], y.2.nm ≠ nm from by
    intro y hy
    rw [List.mem_append] at hy
    rcases hy with h | h
    ·exact hn y h
    ·rw [List.mem_singleton.1 h]; exact he)
   clear hn hbel b3 b4 b5 bg he
   gi_wp2
   exact ⟨KeepsOthers.refl _, Below.refl _ _, rfl, B3.out, B4.out, B5.out, HB.out, hsW, hn2.out⟩
 case done =>
  rintro D W hD ⟨b3, b4, b5, hbel, hsW, hn⟩ hK
  have hfr := hid (HNO.out hn)
  have HB := hid hbel
  have B4 := hid b4
  have B5 := hid b5
  have c4 := b4.cellv (i := 0) rfl
  have c5 := b5.cellv (i := 0) rfl
  have f4 := b4.frozen 0
  have f5 := b5.frozen 0
  have hK2 : ∀ u v, ((W.setCell ⟨w.heap.size + 1, 0, none⟩ u).setCell ⟨w.heap.size + 2, 0, none⟩ v).heap[D]? = some (.deferred (some [])) := fun u v => by
   rw [heap_setCell_other _ _ _ _ (by simp; omega), heap_setCell_other _ _ _ _ (by simp; omega)]; exact hK
  clear hn hbel b3 b4 b5
  go_wp2
  refine ⟨by simp, .inl ⟨_, _, rfl, run_takeDeferred (hK2 _ _), ?_⟩⟩
  have z4 := ((Blk.keeps2 (c := w.heap.size) (B := 0) (by omega)) _ _ D ((B4.out.set 0 (.int .i64 (-1))).far (p := ⟨w.heap.size + 2, 0, none⟩) (by simp) (.int .i64 0)) (grownBy_putObj' _ D (.deferred none)) (.inr ⟨by omega, _, hK2 _ _, rfl⟩) : Blk _ _ _ _).cellv (i := 0) rfl
  have z5 := ((Blk.keeps2 (c := w.heap.size) (B := 0) (by omega)) _ _ D ((B5.out.far (p := ⟨w.heap.size + 1, 0, none⟩) (by simp) (.int .i64 (-1))).set 0 (.int .i64 0)) (grownBy_putObj' _ D (.deferred none)) (.inr ⟨by omega, _, hK2 _ _, rfl⟩) : Blk _ _ _ _).cellv (i := 0) rfl
  have hb9 := ((HB.out.setCell (p := ⟨w.heap.size + 1, 0, none⟩) (by simp) (.int .i64 (-1))).setCell (p := ⟨w.heap.size + 2, 0, none⟩) (by simp) (.int .i64 0)).trans (below_turn (l := D) (.deferred none) (by omega))
  refine ⟨_, by simp [results, Tryz.results52, go_sem, z4, z5]; rfl, by rw [hfr.out], hb9⟩
 case stop =>
  rintro D k pre W hD _ ⟨b4, b5, hbel, rfl⟩ hK
  have HB := hid hbel
  have c4 := b4.cellv (i := 0) rfl
  have c5 := b5.cellv (i := 0) rfl
  have B4 := hid b4
  have B5 := hid b5
  clear hbel b4 b5
  refine wpIn_wide.2 ?_
  go_wp2
  refine ⟨by simp, .inl ⟨_, _, rfl, run_takeDeferred hK, ?_⟩⟩
  have z4 := ((Blk.keeps2 (c := w.heap.size) (B := 0) (by omega)) _ _ D B4.out (grownBy_putObj' _ D (.deferred none)) (.inr ⟨by omega, _, hK, rfl⟩) : Blk _ _ _ _).cellv (i := 0) rfl
  have z5 := ((Blk.keeps2 (c := w.heap.size) (B := 0) (by omega)) _ _ D B5.out (grownBy_putObj' _ D (.deferred none)) (.inr ⟨by omega, _, hK, rfl⟩) : Blk _ _ _ _).cellv (i := 0) rfl
  refine ⟨_, by simp [results, Tryz.results52, go_sem, z4, z5], rfl, HB.out.trans (below_turn _ (by omega))⟩
end
section
open Go.RowKit

namespace Dir
theorem checkE_yes {b : List UInt8} (h : goodB b = true) : checkE b = 0 := by unfold checkE; rw [if_pos h]
theorem entsTo_lt {b : List UInt8} {k : Nat} {x : Nat × Ent} (h : x ∈ entsTo b k) : x.1 < k := by
 induction k with
 | zero => cases h
 | succ k ih =>
  rw [entsTo] at h
  split at h
  ·rw [List.mem_append] at h
   rcases h with h | h
   ·have := ih h; omega
   ·rw [List.mem_singleton] at h; subst h; simp
  ·have := ih h; omega
theorem findIn_mem {nm : List UInt8} {l : List (Nat × Ent)} (h : 0 ≤ (findIn nm l).1) : ∃ x ∈ l, findIn nm l = ((x.1 : Int), x.2.i) ∧ x.2.nm = nm := by
 induction l with
 | nil => simp [findIn] at h
 | cons x t ih =>
  rw [findIn] at h ⊢
  split
  ·rename_i he
   exact ⟨x, by simp, rfl, he⟩
  ·rename_i he
   rw [if_neg he] at h
   obtain ⟨y, hy, h1⟩ := ih h
   exact ⟨y, by simp [hy], h1⟩
theorem findR_nat {b nm : List UInt8} (h : 0 ≤ (findR b nm).1) : ∃ k : Nat, (findR b nm).1 = k ∧ k < cnt b := by
 obtain ⟨x, hx, h1, _⟩ := findIn_mem (l := ents b) h
 exact ⟨x.1, by unfold findR; rw [h1], entsTo_lt hx⟩
theorem findR_neg {b nm : List UInt8} (h : ¬ 0 ≤ (findR b nm).1) : (findR b nm).1 = -1 := by
 unfold findR at h ⊢
 have : ∀ l : List (Nat × Ent), ¬ 0 ≤ (findIn nm l).1 → (findIn nm l).1 = -1 := by
  intro l
  induction l with
  | nil => intro _; rfl
  | cons x t ih =>
   intro h
   rw [findIn] at h ⊢
   split
   ·rename_i he; rw [if_pos he] at h; simp at h
   ·rename_i he; rw [if_neg he] at h; exact ih h
 exact this _ h
def namedE (b nm : List UInt8) : Int := if goodB b = true then (if 0 ≤ (findR b nm).1 then 0 else 60) else 50
def namedK (b nm : List UInt8) : Nat := if namedE b nm = 0 then (findR b nm).1.toNat else 0
def addE (b : List UInt8) (e : Ent) : Int := if goodB b = true then (if writeE e = 0 then (if 0 ≤ (findR b e.nm).1 then 61 else 0) else writeE e) else 50
def putSlot (b : List UInt8) (k : Nat) (s : List UInt8) : List UInt8 := b.take (16 * k) ++ s ++ b.drop (16 * k + 16)
def addedAt (b : List UInt8) (e : Ent) (r : Nat) : List UInt8 := if r = cnt b then b ++ slotL e else putSlot b r (slotL e)
end Dir
theorem named_calls (a : Option Addr) (n c : Nat) (b nm : List UInt8) (w : World) (hx : Bytes w w.heap.size a n b) (hnc : n ≤ c) :
  Calls Tryz.prog 101 #[.slice a n c, .string (strL nm)] w fun e w' => e = .returned (.tuple #[.int .i64 (Dir.namedK b nm : Nat), .int .i64 (Dir.namedE b nm)]) ∧ Below w.heap.size w w' := by
 have HC := hid (check_calls a n c b w hx hnc)
 have HF := hid (fun W (hb : Below w.heap.size w W) => find_calls a n c b nm W (hx.on hb) hnc)
 cases hg : Dir.goodB b
 ·have hE : Dir.namedE b nm = 50 := by unfold Dir.namedE; rw [hg]; rfl
  have hK : Dir.namedK b nm = 0 := by unfold Dir.namedK; rw [hE]; rfl
  have HE := hid hE
  have HK := hid hK
  rw [Dir.checkE_no hg] at HC
  clear hx hE hK hg HF
  go_enter Tryz.func101, Tryz.ntmps101
  go_wp2_with fail
  refine HC.out.mono ?_
  rintro e w1 ⟨rfl, hb⟩
  have HB := hid hb
  clear hb
  go_wp2
  go_ret2
  exact ⟨by rw [HE.out, HK.out]; rfl, HB.out⟩
 rw [Dir.checkE_yes hg] at HC
 by_cases hf : 0 ≤ (Dir.findR b nm).1
 ·obtain ⟨k, hk, _⟩ := Dir.findR_nat hf
  have hE : Dir.namedE b nm = 0 := by unfold Dir.namedE; rw [if_pos hg, if_pos hf]
  have hK : Dir.namedK b nm = k := by unfold Dir.namedK; rw [if_pos hE, hk]; rfl
  have HE := hid hE
  have HK := hid hK
  rw [hk] at HF
  clear hx hE hK hg hk hf
  generalize (Dir.findR b nm).2 = z at *
  go_enter Tryz.func101, Tryz.ntmps101
  go_wp2_with fail
  refine HC.out.mono ?_
  rintro e w1 ⟨rfl, hb⟩
  have HB := hid hb
  clear hb
  go_wp2_with fail
  refine (HF.out _ HB.out).mono ?_
  rintro e w2 ⟨rfl, hb⟩
  have HB2 := hid (HB.out.then_ hb)
  clear hb
  go_wp2
  go_ret2
  exact ⟨by rw [HE.out, HK.out]; rfl, HB2.out⟩
 ·have hk := Dir.findR_neg hf
  have hE : Dir.namedE b nm = 60 := by unfold Dir.namedE; rw [if_pos hg, if_neg hf]
  have hK : Dir.namedK b nm = 0 := by unfold Dir.namedK; rw [hE]; rfl
  have HE := hid hE
  have HK := hid hK
  rw [hk] at HF
  clear hx hE hK hg hk hf
  generalize (Dir.findR b nm).2 = z at *
  go_enter Tryz.func101, Tryz.ntmps101
  go_wp2_with fail
  refine HC.out.mono ?_
  rintro e w1 ⟨rfl, hb⟩
  have HB := hid hb
  clear hb
  go_wp2_with fail
  refine (HF.out _ HB.out).mono ?_
  rintro e w2 ⟨rfl, hb⟩
  have HB2 := hid (HB.out.then_ hb)
  clear hb
  go_wp2
  go_ret2
  exact ⟨by rw [HE.out, HK.out]; rfl, HB2.out⟩
end
section
open Go.RowKit

theorem Own.take {α : Type} {f : α → Value} {e : TypeId} {w : World} {base g n c : Nat} {xs : List α} (h : Own f e w base (.slice (some ⟨g, 0, none⟩) n c) xs) {k : Nat} (hk : k ≤ n) : Own f e w base (.slice (some ⟨g, 0, none⟩) k c) (xs.take k) := by
 rcases h.2 with ⟨hv, _⟩ | ⟨g', cap, cur, hv, hgb, hg, hc, hm, hs, ht⟩
 ·cases hv
 ·injection hv with h1 h2 h3
  injection h1 with h1
  injection h1 with h1
  subst h1 h3
  have hl : (xs.take k).length = k := by rw [List.length_take]; omega
  refine ⟨by simp, .inr ⟨g, c, cur, by rw [hl], hgb, hg, by omega, hm, hs, ?_⟩⟩
  rw [hl, List.map_take, ← ht, List.take_take]
  congr 1
  omega
namespace Dir
def trimTo (b : List UInt8) : Nat → List UInt8
 | 0 => []
 | m + 1 => if isZ (slotAt b m) = true then trimTo b m else b.take (16 * (m + 1))
def zeros : List UInt8 := List.replicate 16 0
def removedL (b nm : List UInt8) : List UInt8 := trimTo (putSlot b (namedK b nm) zeros) (cnt b)
theorem named_ok {b nm : List UInt8} (h : namedE b nm = 0) : goodB b = true ∧ 0 ≤ (findR b nm).1 ∧ (findR b nm).1 = (namedK b nm : Nat) ∧ namedK b nm < cnt b := by
 have h0 := h
 unfold namedE at h
 split at h
 ·rename_i hg
  split at h
  ·rename_i hf
   obtain ⟨k, hk, hlt⟩ := findR_nat hf
   have : namedK b nm = k := by unfold namedK; rw [if_pos h0, hk]; rfl
   exact ⟨hg, hf, by rw [this, hk], by rw [this]; exact hlt⟩
  ·cases h
 ·cases h
theorem good_mod {b : List UInt8} (h : goodB b = true) : b.length = 16 * cnt b := by
 rw [goodB, Bool.and_eq_true, Bool.and_eq_true] at h
 have := of_decide_eq_true h.1.1
 unfold cnt
 omega
theorem putSlot_len {b s : List UInt8} {k : Nat} (hk : k < cnt b) (hs : s.length = 16) : (putSlot b k s).length = b.length := by
 unfold cnt at hk
 unfold putSlot
 simp only [List.length_append, List.length_take, List.length_drop, hs]
 omega
theorem slotAt_take {b : List UInt8} {k m : Nat} (h : k < m) : slotAt (b.take (16 * m)) k = slotAt b k := by
 unfold slotAt
 rw [List.drop_take, List.take_take]
 congr 1
 omega
end Dir
def RemoveR (b nm : List UInt8) (w : World) (x : Ending) (w' : World) : Prop :=
 (∃ v xs, x = .returned (.tuple #[v, .int .i64 (Dir.namedE b nm)]) ∧ Own byteV 5 w' w.heap.size v xs ∧ (Dir.namedE b nm = 0 → xs = Dir.removedL b nm) ∧ (Dir.namedE b nm ≠ 0 → xs = [])) ∧ Below w.heap.size w w'
theorem remove_calls (a : Option Addr) (n c : Nat) (b nm : List UInt8) (w : World) (hx : Bytes w w.heap.size a n b) (hnc : n ≤ c) (hn : n ≤ 100000) :
  Calls Tryz.prog 56 #[.slice a n c, .string (strL nm)] w (RemoveR b nm w) := by
 have HN := hid (named_calls a n c b nm w hx hnc)
 have HX := hid hx
 have HL := hid hx.len
 have hroom := hx.room
 clear hx
 unfold RemoveR
 by_cases hE : Dir.namedE b nm = 0
 case neg =>
  have hr := hid hE
  generalize Dir.namedE b nm = E at *
  have g1 : (E == 0) = false := by simpa using hE
  have g2 : (E != 0) = true := by simpa using hE
  clear hE
  go_enter Tryz.func56, Tryz.ntmps56
  go_wp2_with fail
  refine HN.out.mono ?_
  rintro e w1 ⟨rfl, hb⟩
  have HB := hid hb
  clear hb
  go_wp2
  go_ret2
  exact ⟨⟨_, [], rfl, Own.nil _ _, fun h => absurd h hr.out, fun _ => rfl⟩, HB.out⟩
 obtain ⟨hg, hf, hk, hlt⟩ := Dir.named_ok hE
 have hlen := Dir.good_mod hg
 have hr := hid (show Dir.removedL b nm = Dir.trimTo (Dir.putSlot b (Dir.namedK b nm) Dir.zeros) (Dir.cnt b) from rfl)
 have hpl := Dir.putSlot_len (s := Dir.zeros) hlt (by simp [Dir.zeros])
 have hps := hid (show b.take (16 * Dir.namedK b nm) ++ List.replicate 16 0 ++ b.drop (16 * Dir.namedK b nm + 16) = Dir.putSlot b (Dir.namedK b nm) Dir.zeros from rfl)
 rw [hE] at HN ⊢
 generalize Dir.namedK b nm = k at *
 generalize Dir.removedL b nm = T at *
 generalize Dir.putSlot b k Dir.zeros = b1 at *
 generalize Dir.cnt b = S at *
 have hnS : n = 16 * S := by rw [← HL.out]; exact hlen
 rw [HL.out] at hpl
 have HPL := hid hpl
 have HNS := hid hnS
 have hS0 : 0 < S := by omega
 have HSN := hid (show n / 16 = S by omega)
 have hn16 : 16 ≤ n := by omega
 have hkb := hid (show k < n / 16 ∧ 16 * k + 16 ≤ n by omega)
 clear hE hg hf hk hlen hpl hnS
 go_enter Tryz.func56, Tryz.ntmps56
 go_wp2_with fail
 refine HN.out.mono ?_
 rintro e w1 ⟨rfl, hb⟩
 have HB1 := hid hb
 have HX1 := hid (HX.out.on hb)
 clear hb
 go_wp2_with fail
 refine (clone_calls a n c b _ HX1.out).mono ?_
 rintro e w2 ⟨⟨v2, rfl, ho⟩, hb⟩
 obtain ⟨a2, c2, rfl, hc2⟩ := ho.formN (n := n) HL.out
 obtain ⟨g, rfl, hgb, _⟩ := ho.addr (by rw [HL.out]; omega)
 have HB2 := hid (HB1.out.then_ hb)
 have hsz1 := HB1.out.size
 have hsz2 := hb.size
 have hst := hid (slot_calls (some ⟨g, 0, none⟩) n c2 k b w2 (ho.arr (by rw [HL.out]; omega)) hc2 hkb.out.1)
 have HO2 := hid (ho.mono hsz1)
 clear hb ho
 go_wp2_with fail
 refine hst.out.mono ?_
 rintro e w_ ⟨⟨a6, c6, rfl, hc6, ha6, _⟩, rfl⟩
 obtain ⟨w3, hrun, ho3, hb3⟩ := run_clearP (dl := 16) (dc := c6) ha6 HO2.out hkb.out.2 (by omega)
 rw [hps.out] at ho3
 have HO3 := hid ho3
 have HB3 := hid (HB2.out.trans hb3)
 clear ha6 ho3 hb3
 go_wp2_with fail
 refine (slots_calls _ n c2 _ (by omega)).mono ?_
 rintro e w_ ⟨rfl, rfl⟩
 rw [HSN.out]
 go_wp2_with fail
 go_loop [8, 9] (fun o i => ∃ m : Nat, m ≤ S ∧ i = .int .i64 m ∧ o = .slice (some ⟨g, 0, none⟩) (16 * m) c2 ∧ T = Dir.trimTo b1 m) (fun _ i => (intOf i).toNat)
 case atStart => exact ⟨S, Nat.le_refl _, rfl, by rw [← HNS.out], hr.out⟩
 case round =>
  obtain ⟨m, hm, rfl, rfl, hT⟩ := hrel
  have HT := hid hT
  clear hT
  have HOm := hid (HO3.out.take (k := 16 * m) (by have := HNS.out; omega))
  cases m with
  | zero =>
   go_wp2
   go_ret2
   have h := HOm.out
   rw [Nat.mul_zero, List.take_zero] at h
   have ht := HT.out
   rw [show Dir.trimTo b1 0 = [] from rfl] at ht
   first
    | exact ⟨⟨_, [], rfl, h, fun _ => ht.symm, fun h => absurd rfl h⟩, HB3.out⟩
    | exact ⟨⟨_, rfl, by rw [ht]; exact h⟩, HB3.out⟩
  | succ m =>
   have hl1 : (b1.take (16 * (m + 1))).length = 16 * (m + 1) := by rw [List.length_take, HPL.out]; have := HNS.out; omega
   have hst2 := slot_calls (some ⟨g, 0, none⟩) (16 * (m + 1)) c2 m (b1.take (16 * (m + 1))) w3 (HOm.out.arr (by rw [hl1]; have := HNS.out; omega)) (by have := HNS.out; omega) (by omega)
   rw [Dir.slotAt_take (by omega)] at hst2
   have HST := hid hst2
   have HTR := hid (show Dir.trimTo b1 (m + 1) = if Dir.isZ (Dir.slotAt b1 m) = true then Dir.trimTo b1 m else b1.take (16 * (m + 1)) from rfl)
   have hmb : m ≤ 100000 := by have := HNS.out; omega
   have g2 : decide ((0 : Int) < ((m + 1 : Nat) : Int)) = true := decide_eq_true (by omega)
   clear hst2 hl1
   go_wp2_with fail
   refine HST.out.mono ?_
   rintro e w_ ⟨⟨a7, c7, rfl, hc7, ha7, hy⟩, rfl⟩
   have HEM := hid (empty_calls a7 16 c7 _ w3 hy)
   clear ha7 hy
   cases hz : Dir.isZ (Dir.slotAt b1 m)
   ·rw [hz] at HEM HTR
    have htr := hid (show Dir.trimTo b1 (m + 1) = b1.take (16 * (m + 1)) from HTR.out)
    clear hz
    go_wp2_with fail
    refine HEM.out.mono ?_
    rintro e w_ ⟨rfl, rfl⟩
    go_wp2
    go_ret2
    exact ⟨⟨_, b1.take (16 * (m + 1)), rfl, HOm.out, fun _ => by rw [HT.out, htr.out], fun h => absurd rfl h⟩, HB3.out⟩
   ·rw [hz] at HEM HTR
    have htr := hid (show Dir.trimTo b1 (m + 1) = Dir.trimTo b1 m from HTR.out)
    have hcut := cutB_to (some ⟨g, 0, none⟩) (16 * (m + 1)) c2 (16 * m) (by have := HNS.out; omega)
    rw [show ((16 * m : Nat) : Int) = (m : Int) * 16 by omega] at hcut
    have q1 : IntKind.i64.wrap ((m : Int) * 16) = (m : Int) * 16 := IntWalk.i64_in _ ⟨by omega, by have := HNS.out; omega⟩
    clear hz
    go_wp2_with fail
    refine HEM.out.mono ?_
    rintro e w_ ⟨rfl, rfl⟩
    go_wp2
    exact ⟨⟨m, by omega, rfl, rfl, by rw [HT.out, htr.out]⟩, by simp [intOf]⟩
end
end Go.Proofs.YtcppkaphlcflgaaGreat
