import Derived.Test.YtcppkaphlcflgaaGreatFtlSort
import Derived.Test.YtcppkaphlcflgaaGreatFtlMem
import Derived.Test.YtcppkaphlcflgaaGreatFtlCopy
namespace Go.Proofs.YtcppkaphlcflgaaGreat
open Go.RowKit Go.Maps

set_option maxHeartbeats 1000000 in
theorem insNil_calls (v : Value) (w : World) :
  Calls Tryz.prog 219 #[.slice none 0 0, .int .i64 0, .int .i64 0, v] w fun e w' => e = .returned (.tuple #[]) ∧ w = w' := by
 go_enter Tryz.func219, Tryz.ntmps219
 go_wp2
 refine wp_loop_rounds 1 ?_
 rw [rounds_succ]
 go_wp2
 go_end0
 exact ⟨rfl, rfl⟩
set_option maxHeartbeats 1000000 in
theorem pdqNil_calls (v : Value) (x : Int) (w : World) :
  Calls Tryz.prog 200 #[.slice none 0 0, .int .i64 0, .int .i64 0, .int .i64 x, v] w fun e w' => e = .returned (.tuple #[]) ∧ w = w' := by
 have HI := Lib.hid (insNil_calls v w)
 go_enter Tryz.func200, Tryz.ntmps200
 go_wp2
 refine wp_loop_rounds 1 ?_
 rw [rounds_succ]
 go_wp2_with fail
 refine HI.out.mono ?_
 rintro e w1 ⟨rfl, rfl⟩
 go_wp2
 (try simp only [Exit.inBlock, Exit.then])
 refine bodyPost_ret (results_none rfl _ _ _) rfl ?_
 exact ⟨rfl, rfl⟩
set_option maxHeartbeats 1000000 in
theorem sortNil_calls (v : Value) (w : World) :
  Calls Tryz.prog 186 #[.slice none 0 0, v] w fun e w' => e = .returned (.tuple #[]) ∧ w = w' := by
 go_enter Tryz.func186, Tryz.ntmps186
 go_wp2_with fail
 refine (bitsLen_calls 0 w (by omega) (by omega)).mono ?_
 rintro e w1 ⟨rfl, rfl⟩
 generalize Lib.bitLen (0 : Int).toNat = x
 go_wp2_with fail
 refine (pdqNil_calls v x _).mono ?_
 rintro e w1 ⟨rfl, rfl⟩
 go_wp2
 go_end0
 exact ⟨rfl, rfl⟩
namespace Ftl
def pr (x : Hd) : Bool × En := (x.n, x.e)
def ofMap (n : Bool) (l : List En) (k : Nat) : List (Bool × En) := (l.filter fun e => e.b == k).map fun e => (n, e)
def allIn (f : Fm) (k : Nat) : List (Bool × En) := ofMap false f.se k ++ ofMap true f.no k
def metIn (f : Fm) (k : Nat) : Nat → List (Bool × En)
 | 0 => []
 | 1 => ofMap false f.se k
 | _ => allIn f k
theorem ofMap_snoc (n : Bool) (l : List En) (e : En) (k : Nat) : ofMap n (l ++ [e]) k = ofMap n l k ++ if e.b = k then [(n, e)] else [] := by
 unfold ofMap
 rw [List.filter_append, List.map_append, List.filter_cons]
 by_cases h : e.b = k <;> simp [h]
theorem ofMap_perm {n : Bool} {l l' : List En} {k : Nat} (h : l.Perm l') : (ofMap n l k).Perm (ofMap n l' k) := (h.filter _).map _
theorem ofMap_app (n : Bool) (l l' : List En) (k : Nat) : ofMap n (l ++ l') k = ofMap n l k ++ ofMap n l' k := by unfold ofMap; rw [List.filter_append, List.map_append]
theorem metIn_succ (f : Fm) (k : Nat) {i : Nat} (hi : i < 2) : metIn f k (i + 1) = metIn f k i ++ ofMap (decide (i = 1)) (if i = 1 then f.no else f.se) k := by
 match i with
 | 0 => rfl
 | 1 => rfl
theorem metIn_len (f : Fm) (k : Nat) (i : Nat) : (metIn f k i).length ≤ (allIn f k).length := by
 match i with
 | 0 => exact Nat.zero_le _
 | 1 => unfold allIn; rw [List.length_append]; exact Nat.le_add_right _ _
 | _ + 2 => exact Nat.le_refl _
end Ftl
theorem infoHd : (Tryz.prog.info? 250).map (fun i => (i.zero, i.size, i.bytes)) = some (some (.agg #[.map none, .int .u32 0, .int .i64 0, .int .i64 0]), 4, 32) := by kernel_rfl
theorem wpList_litHd {SE NO : Nat} {w : World} {ops : Array Oper} {rest : List Oper} {o : Oper} {ac : Act} {Q : Exit → Act → World → Prop} {cs : Array Value} (hgd : o.guard = none) (s x : Operand) (ho : o.op = .call { callee := .builtin .append, args := #[s, x], argTypes := #[235, 235] }) (base : Nat)
  (v : Value) (xs : List Hd) (hs : ac.eval s = v) (hown : OwnM 4 (hdL SE NO) 250 w base v xs) (y : Hd) (g : Nat) (hx : ac.eval x = .slice (some ⟨g, 0, none⟩) 1 1) (hg : g = w.heap.size) (hcs : cs = (hdL SE NO y).toArray)
  (hbytes : xs.length ≤ 1000000) (hbase : base ≤ w.heap.size)
  (h : ∀ v' w', Hid (OwnM 4 (hdL SE NO) 250 w' base v' (xs ++ [y])) → Hid (Kq (fun q => v.ownBlock = some q) w w') → wpList Tryz.prog ops Q rest (ac.put o.dst v') w') : wpList Tryz.prog ops Q (o :: rest) ac (w.alloc (.cells cs 250)) := by
 subst hg
 obtain ⟨i0, hi, hz0, hz1, hz2⟩ := info_parts infoHd
 have hb2 : base ≤ (w.alloc (.cells cs 250)).heap.size := by simp; omega
 exact wpList_append_OwnM hgd s x 235 ho base 250 i0 _ 32 Tryz.underlying235 hi hz0 hz1 hz2 rfl (by decide) (hd_one SE NO) v xs hs (hown.alloc _) _ _ 1 1 [y] hx (ArrM.lit1 w 250 y hcs) (by omega) (by simp only [maxLen]; omega) hb2 fun v' w' h1 h2 _ =>
  h v' w' (Lib.hid h1) (Lib.hid ((Kq.of ((Below.refl _ w).alloc (Nat.le_refl _) _)).trans (Kq.grown h2)))
namespace Ftl
theorem met_len {f : Fm} {k i MB r : Nat} {w : World} {d lst : List En} {L : List Hd} (hi : i < 2) (hls : lst = if i = 1 then f.no else f.se) (hr : RngE w MB r lst d) (hp : (L.map pr).Perm (metIn f k i ++ ofMap (decide (i = 1)) d k)) (hlen : (allIn f k).length ≤ 12) : L.length ≤ 12 := by
 obtain ⟨rest, hrest⟩ := hr.rest
 have h1 := hp.length_eq
 rw [List.length_map, List.length_append] at h1
 have h2 := (ofMap_perm (n := decide (i = 1)) (k := k) hrest).length_eq
 rw [ofMap_app, List.length_append] at h2
 have h3 := metIn_len f k (i + 1)
 rw [metIn_succ f k hi, ← hls, List.length_append] at h3
 omega
theorem met_done {f : Fm} {k i : Nat} {d lst : List En} {L : List Hd} (hi : i < 2) (hls : lst = if i = 1 then f.no else f.se) (hd : d.Perm lst) (hp : (L.map pr).Perm (metIn f k i ++ ofMap (decide (i = 1)) d k)) : (L.map pr).Perm (metIn f k (i + 1)) := by
 rw [metIn_succ f k hi, ← hls]
 exact hp.trans ((ofMap_perm hd).append_left _)
theorem met_more {f : Fm} {k i : Nat} {d : List En} {L : List Hd} {e : En} {h8 : e.i < 8} (hk : e.b = k) (hp : (L.map pr).Perm (metIn f k i ++ ofMap (decide (i = 1)) d k)) : ((L ++ [(⟨decide (i = 1), e, h8⟩ : Hd)]).map pr).Perm (metIn f k i ++ ofMap (decide (i = 1)) (d ++ [e]) k) := by
 rw [ofMap_snoc, if_pos hk, List.map_append, ← List.append_assoc]
 exact hp.append_right _
theorem met_pass {f : Fm} {k i : Nat} {d : List En} {L : List Hd} {e : En} (hk : ¬ e.b = k) (hp : (L.map pr).Perm (metIn f k i ++ ofMap (decide (i = 1)) d k)) : (L.map pr).Perm (metIn f k i ++ ofMap (decide (i = 1)) (d ++ [e]) k) := by
 rw [ofMap_snoc, if_neg hk, List.append_nil]
 exact hp
end Ftl
theorem ArrM.kq {α : Type} {m : Nat} {f : α → List Value} {T : Nat → Prop} {w w' : World} {B n : Nat} {a : Option Addr} {xs : List α} (h : ArrM m f w B a n xs) (hB : B ≤ w.heap.size) (hk : Kq T w w') (hT : ∀ b o, a = some ⟨b, o, none⟩ → ¬ T b) : ArrM m f w' B a n xs := by
 obtain ⟨h1, h2, h3⟩ := h
 refine ⟨h1, h2, fun hn => ?_⟩
 obtain ⟨b, o, ha, hlt, hc⟩ := h3 hn
 exact ⟨b, o, ha, hlt, fun i hi j v hv => (World.cell?_of_block (a := ⟨b, _, none⟩) (hk.block b (by omega) (hT b o ha))).trans (hc i hi j v hv)⟩
theorem ownM_neR {α : Type} {m : Nat} {f : α → List Value} {e : TypeId} {w : World} {base b r : Nat} {v : Value} {xs : List α} {l d : List En} (h : OwnM m f e w base v xs) (hr : RngE w b r l d) : v.ownBlock ≠ some r ∧ v.ownBlock ≠ some b := by
 rcases h.2.2 with ⟨rfl, _⟩ | ⟨g, cap, cur, rfl, _, hg, _⟩
 ·constructor <;> · intro e; cases e
 ·obtain ⟨es, clock, since, seen, c0, h1, _, h3, _⟩ := hr.1
  refine ⟨fun e => ?_, fun e => ?_⟩
  ·obtain rfl : g = r := Option.some.inj e
   rw [hg] at h3; cases h3
  ·obtain rfl : g = b := Option.some.inj e
   rw [hg] at h1; cases h1
section
open Ftl
variable {NB B : Nat} {R : Nat → Prop} {w : World} {f : Fm}
def Ndd (f : Fm) (k : Nat) (w : World) (e : Ending) (w' : World) : Prop :=
 (∃ a n c, ∃ L : List Hd, e = .returned (.slice a n c) ∧ n ≤ 12 ∧ (L.map pr).Perm (allIn f k) ∧ ArrM 4 (hdL f.SE f.NO) w' w'.heap.size a n L ∧ ∀ b o, a = some ⟨b, o, none⟩ → w.heap.size ≤ b) ∧ Below w.heap.size w w'
set_option maxRecDepth 100000 in
set_option maxHeartbeats 4000000 in
theorem needed_calls (h : FtM NB B R w f) (k : Nat) (h8 : ∀ e ∈ f.se ++ f.no, e.i < 8) (hlen : (allIn f k).length ≤ 12) :
  Calls Tryz.prog 175 #[.pointer (some ⟨f.F, 0, none⟩), .int .i64 (k : Int)] w (Ndd f k w) := by
 have HH := Lib.hid h
 have H8 := Lib.hid h8
 have HL := Lib.hid hlen
 clear h h8 hlen
 go_enter Tryz.func175, Tryz.ntmps175
 go_upto_region 2 with fail
 have HS0 := Lib.hid (show Below w.heap.size w w.drew from below_drew w)
 refine wp_region_noPanic ?_
 refine wp_region_held_drew (S := (fun W' => Below w.heap.size w W')) (by kernel_rfl) HS0.out (fun hS0 => ?_)
 generalize w.drew = w1 at *
 refine takeV 0 (v := (.pointer (some ⟨f.F, 0, none⟩))) rfl (by kernel_rfl) (by kernel_rfl) (by kernel_rfl) (fun _ _ _ h => h) (by rfl) (fun _ _ => rfl) (by assumption) ?_
 try simp only [layR]
 refine takeV 1 (v := (.pointer (some ⟨f.F, 0, none⟩))) rfl (by kernel_rfl) (by kernel_rfl) (by kernel_rfl) (fun _ _ _ h => h) (by rfl) (fun _ _ => rfl) (by assumption) ?_
 try simp only [layR]
 refine takeV 2 (v := (.pointer (some ⟨f.F, 5, none⟩))) rfl (by kernel_rfl) (by kernel_rfl) (by kernel_rfl) (fun _ _ _ h => h) (by rfl) (fun W hSw => ?_) (by assumption) ?_
 ·skip
  go_simp
 try simp only [layR]
 refine takeV 3 (v := (.map (some f.SE))) rfl (by kernel_rfl) (by kernel_rfl) (by kernel_rfl) (fun _ _ _ h => h) (by rfl) (fun W hSw => ?_) (by assumption) ?_
 ·have y9 := (HH.out.on hSw).c5
  go_simp
 try simp only [layR]
 refine takeV 4 (v := (.pointer (some ⟨f.F, 0, none⟩))) rfl (by kernel_rfl) (by kernel_rfl) (by kernel_rfl) (fun _ _ _ h => h) (by rfl) (fun _ _ => rfl) (by assumption) ?_
 try simp only [layR]
 refine takeV 5 (v := (.pointer (some ⟨f.F, 0, none⟩))) rfl (by kernel_rfl) (by kernel_rfl) (by kernel_rfl) (fun _ _ _ h => h) (by rfl) (fun _ _ => rfl) (by assumption) ?_
 try simp only [layR]
 refine takeV 6 (v := (.pointer (some ⟨f.F, 6, none⟩))) rfl (by kernel_rfl) (by kernel_rfl) (by kernel_rfl) (fun _ _ _ h => h) (by rfl) (fun W hSw => ?_) (by assumption) ?_
 ·skip
  go_simp
 try simp only [layR]
 refine takeV 7 (v := (.map (some f.NO))) rfl (by kernel_rfl) (by kernel_rfl) (by kernel_rfl) (fun _ _ _ h => h) (by rfl) (fun W hSw => ?_) (by assumption) ?_
 ·have y9 := (HH.out.on hSw).c6
  go_simp
 try simp only [layR]
 refine takeV 10 (v := (.int .i64 0)) rfl (by kernel_rfl) (by kernel_rfl) (by kernel_rfl) (fun _ _ _ h => h) (by rfl) (fun _ _ => rfl) (by assumption) ?_
 try simp only [layR]
 refine wpAnyH_ready (rs := [8]) (by kernel_rfl) (by simp) ?_
 refine AllReadyH.cons rfl (fun K' hK => ?_) AllReadyH.nil
 go_simp
 have hS1 : Below w.heap.size w (w1.alloc (.cells #[.map (some f.SE), .map (some f.NO)] 135)) := hS0.then_ ((Below.refl _ _).alloc (Nat.le_refl _) _)
 have HK1 := Lib.hid (Blk.new w1 135 #[.map (some f.SE), .map (some f.NO)])
 have HB1 := Lib.hid hS1
 have HKz := Lib.hid hS0.size
 refine hK.out _ _ hS1 (fun hS2 => ?_)
 try simp only [layR]
 refine takeV 9 (v := (.int .i64 2)) rfl (by kernel_rfl) (by kernel_rfl) (by kernel_rfl) (fun _ _ _ h => h) (by rfl) (fun W hSw => ?_) (by assumption) ?_
 ·skip
  go_simp
 try simp only [layR]
 refine wpAnyH_done (by kernel_rfl) ?_ _
 refine NoPanic.normal ?_
 generalize hw2 : w1.alloc (.cells #[.map (some f.SE), .map (some f.NO)] 135) = w2 at *
 clear hw2 hS0 hS1 hS2
 generalize w1.heap.size = K at *
 clear HS0
 clear w1
 go_wp2_with fail
 go_loopw [5, 7, 8, 9, 20] (fun v5 _ _ _ v20 wr => ∃ i : Nat, i ≤ 2 ∧ v20 = .int .i64 (i : Int) ∧ Hid (∃ L : List Hd, OwnM 4 (hdL f.SE f.NO) 250 wr w2.heap.size v5 L ∧ (L.map pr).Perm (metIn f k i) ∧ (L = [] → v5 = .slice none 0 0)) ∧ Hid (Below w2.heap.size w2 wr)) (fun _ _ _ _ v20 _ => 2 - (intOf v20).toNat)
 case atStart =>
  exact ⟨0, by omega, rfl, ⟨[], OwnM.nil (hd_len _ _) _ _, List.Perm.refl _, fun _ => rfl⟩, Below.refl _ _⟩
 case round =>
  obtain ⟨i, hi, rfl, hL, hb⟩ := hrel
  have HB := Lib.hid hb.out
  have HZ := Lib.hid (Nat.le_trans HB1.out.size hb.out.size)
  by_cases hlt : i < 2
  ·obtain ⟨MB, hMB⟩ : ∃ MB, MB = if i = 1 then f.NO else f.SE := ⟨_, rfl⟩
   obtain ⟨lst, hls⟩ : ∃ lst, lst = if i = 1 then f.no else f.se := ⟨_, rfl⟩
   have hF := (HH.out.on HB1.out).on hb.out
   have hkc := Blk.belowHere HK1.out hb.out
   have hcell : wr.cell? ⟨K, i, none⟩ = some (.map (some MB)) := by
    rw [hMB]
    rcases (show i = 0 ∨ i = 1 by omega) with rfl | rfl
    ·exact hkc.cellv rfl
    ·exact hkc.cellv rfl
   have hme : MapE wr MB lst := by
    rw [hMB, hls]
    rcases (show i = 0 ∨ i = 1 by omega) with rfl | rfl
    ·exact hF.hS
    ·exact hF.hN
   have HM := Lib.hid hme
   have HMB := Lib.hid hMB
   have HLS := Lib.hid hls
   have g1 : (0 : Int) ≤ (i : Int) := by omega
   have g2 : (i : Int) < 2 := by omega
   clear hF hkc hme hMB hls
   go_wp2_with (at_range; refine wpList_range_E _ rfl _ rfl MB lst rfl HM.out ?_; intro w3 HR3 HB3 hs3)
   go_frame
   clear hcell
   have hL3 : Hid (∃ L : List Hd, OwnM 4 (hdL f.SE f.NO) 250 w3 w2.heap.size u5 L ∧ (L.map pr).Perm (metIn f k i) ∧ (L = [] → u5 = .slice none 0 0)) := by
    obtain ⟨L, l1, l2, l3⟩ := hL.out
    exact ⟨L, l1.on HB3.out, l2, l3⟩
   have HB4 := Lib.hid (HB.out.then_ HB3.out)
   have HRz := Lib.hid hb.out.size
   clear hL hb HB
   generalize wr.heap.size = r at *
   go_loopw [5, 8, 9, 26] (fun v5 _ _ _ wq => Hid (∃ d, RngE wq MB r lst d ∧ ∃ L : List Hd, OwnM 4 (hdL f.SE f.NO) 250 wq w2.heap.size v5 L ∧ (L.map pr).Perm (metIn f k i ++ ofMap (decide (i = 1)) d k) ∧ (L = [] → v5 = .slice none 0 0)) ∧ Hid (Below w2.heap.size w2 wq)) (fun _ _ _ _ wq => wq.rangeLeft MB r)
   case atStart =>
    obtain ⟨L, l1, l2, l3⟩ := hL3.out
    exact ⟨⟨[], HR3.out, L, l1, by rw [show ofMap (decide (i = 1)) [] k = [] from rfl, List.append_nil]; exact l2, l3⟩, HB4.out⟩
   case round =>
    obtain ⟨hX, hb5⟩ := hrel
    have HB5 := Lib.hid hb5.out
    clear hL3 HR3 HB3 HB4 hb5
    obtain ⟨d, hd, L, l1, l2, l3⟩ := hX.out
    have HD := Lib.hid hd
    have HL1 := Lib.hid l1
    have HL2 := Lib.hid l2
    have HL3 := Lib.hid l3
    clear hX hd l1 l2 l3
    go_wp2_with (at_next; refine wpList_next_E _ rfl _ rfl MB r lst d rfl HD.out ?_ ?_)
    ·intro hp
     have HP := Lib.hid (met_done hlt HLS.out hp.out HL2.out)
     go_wp2_with fail
     go_roundw
     case rel => exact ⟨i + 1, by omega, by go_num, ⟨L, HL1.out, HP.out, HL3.out⟩, HB5.out⟩
     case measure => simp [intOf]; omega
    ·intro e w6 he hr6 hg6 hs6 hl6 hen
     rw [plV_eq] at hen ⊢
     have hne := Lib.hid (ownM_neR HL1.out HD.out)
     have HO6 := Lib.hid ((HL1.out.grown hg6.out (.inr fun e => hne.out.1 e)).alloc (.cells #[.int .i64 (e.b : Int), .int .i64 (e.i : Int)] 184))
     have hb6 : Below w2.heap.size w2 w6 := HB5.out.grown hg6.out HB5.out.size (fun j hj => by have := HRz.out; have := Option.some.inj hj; omega)
     have HB6 := Lib.hid hb6
     have HB7 := Lib.hid (hb6.alloc hb6.size (.cells #[.int .i64 (e.b : Int), .int .i64 (e.i : Int)] 184))
     have hle := H8.out e (by
      have h1 := he.out.1
      rw [HLS.out] at h1
      rcases (show i = 0 ∨ i = 1 by omega) with rfl | rfl
      ·exact List.mem_append_left _ h1
      ·exact List.mem_append_right _ h1)
     have HLE := Lib.hid hle
     clear hb6 hle
     by_cases hk : e.b = k
     ·have hkb : ((e.b : Int) == (k : Int)) = true := by rw [beq_iff_eq]; omega
      have HKe := Lib.hid hk
      clear hk
      have hcs' : #[.map (some MB), .int .u32 (e.t.p : Int), .int .i64 (e.b : Int), .int .i64 (e.i : Int)] = (hdL f.SE f.NO ⟨decide (i = 1), e, HLE.out⟩).toArray := by simp [hdL, HMB.out]
      have hgz : wr.heap.size + 1 = (w6.alloc (.cells #[.int .i64 (e.b : Int), .int .i64 (e.i : Int)] 184)).heap.size := by simp [hs6]
      have HCS := Lib.hid hcs'
      have HGZ := Lib.hid hgz
      have HLl := Lib.hid (show L.length ≤ 1000000 by have := met_len hlt HLS.out HD.out HL2.out HL.out; omega)
      clear hcs' hgz
      go_wp2_with (at_builtin; refine wpList_litHd (SE := f.SE) (NO := f.NO) rfl _ _ rfl w2.heap.size _ L rfl HO6.out ⟨decide (i = 1), e, HLE.out⟩ _ rfl HGZ.out HCS.out HLl.out HB7.out.size ?_; intro v7 w7 HO7 HK7)
      have hal := (Below.refl w6.heap.size w6).alloc (Nat.le_refl _) (.cells #[.int .i64 (e.b : Int), .int .i64 (e.i : Int)] 184)
      have hr7 := hr6.out.on hal
      have q1 := HK7.out.block MB hr7.ltb fun e => hne.out.2 e
      have q2 := HK7.out.block r hr7.ltr fun e => hne.out.1 e
      have HR7 := Lib.hid (hr7.same q1 q2)
      have HM7 := Lib.hid (show w7.rangeLeft MB r < wr.rangeLeft MB r by rw [left_same q1 q2, hr6.out.1.left_on hal]; exact hl6.out)
      have HB8 := Lib.hid (HB7.out.trans (HK7.out.below (fun q hq => (HO6.out.blockLt q hq).1) HB7.out.size))
      have HP := Lib.hid (met_more (h8 := HLE.out) HKe.out HL2.out)
      clear hal hr7 q1 q2
      go_wp2_with fail
      go_roundw
      case rel => exact ⟨⟨d ++ [e], HR7.out, _, HO7.out, HP.out, fun h => by simp at h⟩, HB8.out⟩
      case measure => exact HM7.out
     ·have hkb : ((e.b : Int) == (k : Int)) = false := by rw [beq_eq_false_iff_ne]; omega
      have HKe := Lib.hid hk
      clear hk
      go_wp2_with fail
      have hal := (Below.refl w6.heap.size w6).alloc (Nat.le_refl _) (.cells #[.int .i64 (e.b : Int), .int .i64 (e.i : Int)] 184)
      go_roundw
      case rel => exact ⟨⟨d ++ [e], hr6.out.on hal, _, HO6.out, met_pass HKe.out HL2.out, HL3.out⟩, HB7.out⟩
      case measure => rw [hr6.out.1.left_on hal]; exact hl6.out
  ·obtain rfl : i = 2 := by omega
   obtain ⟨L, l1, l2, l3⟩ := hL.out
   have hl12 : L.length ≤ 12 := by
    have := l2.length_eq
    rw [List.length_map] at this
    have h3 := HL.out
    have : (metIn f k 2).length = (allIn f k).length := rfl
    omega
   have HLl := Lib.hid hl12
   by_cases h0 : L = []
   ·subst h0
    obtain rfl := l3 rfl
    have HP := Lib.hid l2
    clear hL hb l1 l2 l3 hl12
    go_wp2_with fail
    refine (sortNil_calls _ wr).mono ?_
    rintro e w7 ⟨rfl, rfl⟩
    go_wp2
    go_ret
    exact ⟨⟨none, 0, 0, [], rfl, by omega, HP.out, ArrM.none_ _ _ _, fun _ _ e => (by cases e)⟩, HB1.out.trans (HB.out.mono HB1.out.size)⟩
   ·obtain ⟨P, c, rfl, hc, hP1, hP2⟩ := l1.form_some (List.length_pos_iff.2 h0)
    have HS := Lib.hid (hdSort_calls f.SE f.NO P L.length c w2.heap.size wr L l1 hl12)
    have HP := Lib.hid l2
    clear hL hb l1 l2 l3 hl12 h0
    go_wp2_with fail
    refine HS.out.mono ?_
    rintro e w7 ⟨rfl, hX, hb7⟩
    have HX := Lib.hid hX
    have HB7 := Lib.hid hb7
    clear hX hb7
    go_wp2
    go_ret
    obtain ⟨L', p1, p2⟩ := HX.out
    exact ⟨⟨_, _, _, L', rfl, HLl.out, (p1.map pr).trans HP.out, p2, fun b o e => by injection e with e; injection e with e; have := HB1.out.size; omega⟩, HB1.out.trans ((HB.out.trans HB7.out).mono HB1.out.size)⟩
end
end Go.Proofs.YtcppkaphlcflgaaGreat
namespace Go.Proofs.YtcppkaphlcflgaaGreat
open Go.RowKit

namespace Ftl
def sk (e : En) : Tg × List UInt8 := (e.t, e.d)
structure Same (f f' : Fm) : Prop where
 F : f'.F = f.F
 SE : f'.SE = f.SE
 NO : f'.NO = f.NO
 GO : f'.GO = f.GO
 LA : f'.LA = f.LA
 M : f'.g.M = f.g.M
 ML : f'.g.ML = f.g.ML
 C : f'.g.C = f.g.C
 seq : f'.seq = f.seq
 ep : f'.ep = f.ep
 tv : f'.tv = f.tv
 tx : f'.tx = f.tx
 ov : f'.ov = f.ov
 se : f'.se.map sk = f.se.map sk
 no : f'.no.map sk = f.no.map sk
 go : f'.go.map (fun e => e.t.p) = f.go.map fun e => e.t.p
 gh : f'.g.gh = f.g.gh
theorem Same.refl (f : Fm) : Same f f := ⟨rfl, rfl, rfl, rfl, rfl, rfl, rfl, rfl, rfl, rfl, rfl, rfl, rfl, rfl, rfl, rfl, rfl⟩
theorem Same.trans {a b c : Fm} (h : Same a b) (k : Same b c) : Same a c :=
 ⟨k.F.trans h.F, k.SE.trans h.SE, k.NO.trans h.NO, k.GO.trans h.GO, k.LA.trans h.LA, k.M.trans h.M, k.ML.trans h.ML, k.C.trans h.C, k.seq.trans h.seq, k.ep.trans h.ep, k.tv.trans h.tv, k.tx.trans h.tx, k.ov.trans h.ov, k.se.trans h.se, k.no.trans h.no, k.go.trans h.go, k.gh.trans h.gh⟩
theorem Same.lenE {f f' : Fm} (h : Same f f') : (f'.se ++ f'.no).length = (f.se ++ f.no).length := by
 have h1 := congrArg List.length h.se
 have h2 := congrArg List.length h.no
 simp only [List.length_map] at h1 h2
 rw [List.length_append, List.length_append, h1, h2]
theorem putE_perm {l : List En} {x e : En} (hu : Uq l) (hx : x ∈ l) (hp : x.t.p = e.t.p) : (x :: putE l e).Perm (e :: l) := by
 obtain ⟨l1, l2, rfl⟩ := List.append_of_mem hx
 rw [putE_is hu hp]
 refine ((List.perm_middle (a := e) (l₁ := l1) (l₂ := l2)).cons x).trans ?_
 refine (List.Perm.swap e x (l1 ++ l2)).trans ?_
 exact (List.perm_middle.symm).cons e
theorem putE_sk {l : List En} {x e : En} (hu : Uq l) (hx : x ∈ l) (ht : e.t = x.t) (hd : e.d = x.d) : (putE l e).map sk = l.map sk := by
 obtain ⟨l1, l2, rfl⟩ := List.append_of_mem hx
 rw [putE_is hu (by rw [ht])]
 simp only [List.map_append, List.map_cons]
 rw [show sk e = sk x by unfold sk; rw [ht, hd]]
theorem uq_sk {l l' : List En} (h : l'.map sk = l.map sk) (hu : Uq l) : Uq l' := by
 have e : ∀ l : List En, l.map (fun e => e.t.p) = (l.map sk).map fun y => y.1.p := fun l => by rw [List.map_map]; rfl
 unfold Uq at *
 rw [e, h, ← e]
 exact hu
theorem putE_keys {l : List En} {e : En} (hs : (getE l e.t.p).isSome = true) : (putE l e).map (fun e => e.t.p) = l.map fun e => e.t.p := by
 unfold putE
 rw [if_pos hs, List.map_map]
 refine List.map_congr_left fun x _ => ?_
 show (if x.t.p = e.t.p then e else x).t.p = x.t.p
 split
 ·rename_i h; exact h.symm
 ·rfl
theorem mem_putE_of {l : List En} {e y : En} (hy : y ∈ l) (hne : y.t.p ≠ e.t.p) : y ∈ putE l e := by
 unfold putE
 split
 ·exact List.mem_map.2 ⟨y, hy, if_neg hne⟩
 ·exact List.mem_append_left _ hy
structure Mvj (NB n : Nat) (f f' : Fm) (k m j : Nat) (rest : List Hd) : Prop where
 same : Same f f'
 fi : Fi NB (n + 2 * j) [] f'.g (f'.se ++ f'.no)
 us : Uq f'.se
 un : Uq f'.no
 wear : ∀ q, (Gc.at_ f'.g.l q).wear = (Gc.at_ f.g.l q).wear
 live : (Gc.at_ f'.g.l k).live = m - j
 st : (Gc.at_ f'.g.l k).st = if (Gc.at_ f.g.l k).st = 2 ∧ j = m then 3 else (Gc.at_ f.g.l k).st
 rows : (j = 0 ∧ f'.g.l = f.g.l ∧ f'.g.opn = -1) ∨ (0 < j ∧ ∃ a, a < NB ∧ a ≠ k ∧ (Gc.at_ f.g.l a).st = 0 ∧ (∀ q, q ≠ a → q ≠ k → Gc.at_ f'.g.l q = Gc.at_ f.g.l q) ∧ Gc.count 0 f'.g.l + 1 = Gc.count 0 f.g.l ∧ f'.g.opn = (if j = 8 then -1 else (a : Int)) ∧ (Gc.at_ f'.g.l a).nx = j)
 mem : ∀ y ∈ rest, y.e.b = k ∧ y.e ∈ if y.n then f'.no else f'.se
 nd : (rest.map pr).Nodup
 len : rest.length + j = m
def nxE (x : Hd) (k i : Nat) : En := { x.e with b := k, i := i }
theorem Mvj.mid {NB n k m j k' i' : Nat} {f f' : Fm} {x : Hd} {rest : List Hd} {g1 : Mg} (h : Mvj NB n f f' k m j (x :: rest)) (hP : Pgd NB f'.g g1 k' i' (Tg.page x.e.t x.e.d)) (hfi : Fi NB (n + 2 * j + 1) [k'] g1 (f'.se ++ f'.no)) : Fi NB (n + 2 * j + 1) [k] g1 ((if x.n then f'.se else putE f'.se (nxE x k' i')) ++ (if x.n then putE f'.no (nxE x k' i') else f'.no)) := by
 obtain ⟨xb, xm⟩ := h.mem x (by simp)
 have hok : Oe x.e := h.fi.ok x.e (by
  cases hn : x.n
  ·rw [hn] at xm; exact List.mem_append_left _ xm
  ·rw [hn] at xm; exact List.mem_append_right _ xm)
 have hgp : Gp g1 (nxE x k' i') := by
  refine ⟨?_, ?_, hP.i8⟩
  ·show (g1.bl k').pgs i' = some (Tg.page x.e.t x.e.d)
   rw [hP.bl, upd_same]
   exact upd_same _ _ _
  ·show i' < (g1.bl k').nx
   rw [hP.bl, upd_same]
   exact Nat.lt_succ_self _
 have hfa : Fi NB (n + 2 * j + 1) [] g1 (nxE x k' i' :: (f'.se ++ f'.no)) := Fi.add (e := nxE x k' i') hfi hgp ⟨hok.rt, hok.len⟩ (List.Perm.refl _)
 have hperm : (x.e :: ((if x.n then f'.se else putE f'.se (nxE x k' i')) ++ (if x.n then putE f'.no (nxE x k' i') else f'.no))).Perm (nxE x k' i' :: (f'.se ++ f'.no)) := by
  cases hn : x.n
  ·rw [hn] at xm
   exact (putE_perm (e := nxE x k' i') h.us xm rfl).append_right f'.no
  ·rw [hn] at xm
   refine (List.perm_middle (a := x.e) (l₁ := f'.se) (l₂ := putE f'.no (nxE x k' i'))).symm.trans ?_
   refine ((putE_perm (e := nxE x k' i') h.un xm rfl).append_left f'.se).trans ?_
   exact List.perm_middle
 have hfd := hfa.del hperm
 rw [xb] at hfd
 exact hfd
theorem Mvj.step {NB n k m j k' i' : Nat} {f f' f4 : Fm} {x : Hd} {rest : List Hd} {g1 : Mg} (h : Mvj NB n f f' k m j (x :: rest)) (hk : k < NB) (hm : m ≤ 8) (h0 : (Gc.at_ f.g.l k).st ≠ 0 ∧ (Gc.at_ f.g.l k).st ≠ 1) (hP : Pgd NB f'.g g1 k' i' (Tg.page x.e.t x.e.d)) (hfi : Fi NB (n + 2 * j + 1) [k'] g1 (f'.se ++ f'.no))
  (hs : Same f' { f4 with g := g1, se := f'.se, no := f'.no }) (hse : f4.se = if x.n then f'.se else putE f'.se (nxE x k' i')) (hno : f4.no = if x.n then putE f'.no (nxE x k' i') else f'.no) (hg : f4.g = { g1 with l := g1.l.set k (dropB (Gc.at_ g1.l k)) }) : Mvj NB n f f4 k m (j + 1) rest := by
 obtain ⟨xb, xm⟩ := h.mem x (by simp)
 have hjm : j < m := by have := h.len; rw [List.length_cons] at this; omega
 have hlen := h.fi.w.len
 have hlen1 : g1.l.length = NB := hfi.w.len
 -- the block that is programmed is another one
 have hlk : 0 < (Gc.at_ f'.g.l k).live := by rw [h.live]; omega
 have hstk : (Gc.at_ f'.g.l k).st = (Gc.at_ f.g.l k).st := by rw [h.st, if_neg (by omega)]
 have hkk : k' ≠ k := by
  intro e
  subst e
  rcases hP.was with ⟨_, h1, _⟩ | ⟨h1, h2, _⟩
  ·rw [hstk] at h1; exact h0.1 h1
  ·rw [hstk] at h2; exact h0.2 h2
 have hrow1 : Gc.at_ g1.l k = Gc.at_ f'.g.l k := hP.row k (Ne.symm hkk)
 have hl4 : f4.g.l = g1.l.set k (dropB (Gc.at_ f'.g.l k)) := by rw [hg, hrow1]
 have hat4 : Gc.at_ f4.g.l k = dropB (Gc.at_ f'.g.l k) := by rw [hl4]; exact at_set _ _ (by omega)
 have hoth : ∀ q, q ≠ k → Gc.at_ f4.g.l q = Gc.at_ g1.l q := fun q hq => by rw [hl4]; exact at_set_other _ _ hq
 -- the entry that tells of the copy
 have hok : Oe x.e := h.fi.ok x.e (by
  cases hn : x.n
  ·rw [hn] at xm; exact List.mem_append_left _ xm
  ·rw [hn] at xm; exact List.mem_append_right _ xm)
 have hgp : Gp g1 (nxE x k' i') := by
  refine ⟨?_, ?_, hP.i8⟩
  ·show (g1.bl k').pgs i' = some (Tg.page x.e.t x.e.d)
   rw [hP.bl, upd_same]
   exact upd_same _ _ _
  ·show i' < (g1.bl k').nx
   rw [hP.bl, upd_same]
   exact Nat.lt_succ_self _
 have hfa : Fi NB (n + 2 * j + 1) [] g1 (nxE x k' i' :: (f'.se ++ f'.no)) := Fi.add (e := nxE x k' i') hfi hgp ⟨hok.rt, hok.len⟩ (List.Perm.refl _)
 have hperm : (x.e :: (f4.se ++ f4.no)).Perm (nxE x k' i' :: (f'.se ++ f'.no)) := by
  cases hn : x.n
  ·rw [hn] at xm
   rw [hse, hno, hn]
   exact (putE_perm (e := nxE x k' i') h.us xm rfl).append_right f'.no
  ·rw [hn] at xm
   rw [hse, hno, hn]
   refine (List.perm_middle (a := x.e) (l₁ := f'.se) (l₂ := putE f'.no (nxE x k' i'))).symm.trans ?_
   refine ((putE_perm (e := nxE x k' i') h.un xm rfl).append_left f'.se).trans ?_
   exact List.perm_middle
 have hfd := hfa.del hperm
 rw [xb] at hfd
 have hfx := hfd.drop
 rw [← hg] at hfx
 have hu : Uq f4.se ∧ Uq f4.no ∧ f4.se.map sk = f'.se.map sk ∧ f4.no.map sk = f'.no.map sk := by
  cases hn : x.n
  ·rw [hn] at xm
   rw [hse, hno, hn]
   have := putE_sk (e := nxE x k' i') h.us xm rfl rfl
   exact ⟨uq_sk this h.us, h.un, this, rfl⟩
  ·rw [hn] at xm
   rw [hse, hno, hn]
   have := putE_sk (e := nxE x k' i') h.un xm rfl rfl
   exact ⟨h.us, uq_sk this h.un, rfl, this⟩
 refine ⟨?_, ?_, hu.1, hu.2.1, fun q => ?_, ?_, ?_, .inr ⟨by omega, ?_⟩, fun y hy => ?_, ?_, ?_⟩
 ·exact h.same.trans ⟨hs.F, hs.SE, hs.NO, hs.GO, hs.LA, by rw [hg]; exact hs.M, by rw [hg]; exact hs.ML, by rw [hg]; exact hs.C, hs.seq, hs.ep, hs.tv, hs.tx, hs.ov, hu.2.2.1, hu.2.2.2, hs.go, by rw [hg]; exact hs.gh⟩
 ·rw [show n + 2 * (j + 1) = n + 2 * j + 1 + 1 by omega]; exact hfx
 ·by_cases hq : q = k
  ·subst hq
   rw [hat4]
   exact h.wear q
  ·rw [hoth q hq]
   by_cases hq2 : q = k'
   ·subst hq2; rw [hP.wear]; exact h.wear q
   ·rw [hP.row q hq2]; exact h.wear q
 ·rw [hat4]
  show (Gc.at_ f'.g.l k).live - 1 = _
  rw [h.live]; omega
 ·rw [hat4]
  show (if (Gc.at_ f'.g.l k).st = 2 ∧ (Gc.at_ f'.g.l k).live - 1 = 0 then 3 else (Gc.at_ f'.g.l k).st) = _
  rw [hstk, h.live]
  by_cases e2 : (Gc.at_ f.g.l k).st = 2
  ·by_cases e3 : j + 1 = m
   ·rw [if_pos ⟨e2, by omega⟩, if_pos ⟨e2, e3⟩]
   ·rw [if_neg (by omega), if_neg (by omega)]
  ·rw [if_neg (fun e => e2 e.1), if_neg (fun e => e2 e.1)]
 ·have hc4 : Gc.count 0 f4.g.l = Gc.count 0 g1.l := by
   have h1 := Gc.count_set 0 (l := g1.l) (k := k) (dropB (Gc.at_ f'.g.l k)) (by omega)
   rw [hrow1, hstk, if_neg h0.1] at h1
   have h2 : (dropB (Gc.at_ f'.g.l k)).st ≠ 0 := by
    show (if _ then 3 else (Gc.at_ f'.g.l k).st) ≠ 0
    split
    ·omega
    ·rw [hstk]; exact h0.1
   rw [if_neg h2] at h1
   rw [hl4]; omega
  have ho4 : f4.g.opn = if i' + 1 = 8 then -1 else (k' : Int) := by rw [hg]; exact hP.opn
  rcases h.rows with ⟨rfl, r2, r3⟩ | ⟨r1, a, r2, r3, r4, r5, r6, r7, r8⟩
  ·rcases hP.was with ⟨_, p1, rfl, p3⟩ | ⟨p1, _⟩
   ·refine ⟨k', hP.hk, hkk, by rw [← r2]; exact p1, fun q q1 q2 => ?_, ?_, ?_, ?_⟩
    ·rw [hoth q q2, hP.row q q1, r2]
    ·rw [hc4, ← r2]; exact p3
    ·rw [ho4]
    ·rw [hoth k' hkk, hP.nx]
   ·rw [r3] at p1; omega
  ·rw [if_neg (by omega)] at r7
   rcases hP.was with ⟨p1, _⟩ | ⟨p1, p2, p3, p4⟩
   ·omega
   ·obtain rfl : k' = a := by omega
    refine ⟨k', r2, r3, r4, fun q q1 q2 => ?_, ?_, ?_, ?_⟩
    ·rw [hoth q q2, hP.row q q1]; exact r5 q q1 q2
    ·rw [hc4, p4]; exact r6
    ·rw [ho4, ← p3, r8]
    ·rw [hoth k' hkk, hP.nx, ← p3, r8]
 ·obtain ⟨y1, y2⟩ := h.mem y (by simp [hy])
  refine ⟨y1, ?_⟩
  have hnd := h.nd
  rw [List.map_cons, List.nodup_cons] at hnd
  have hne : ¬ pr y = pr x := fun e => hnd.1 (e ▸ List.mem_map.2 ⟨y, hy, rfl⟩)
  cases hn : x.n <;> cases hyn : y.n
  ·rw [hn] at xm
   rw [hyn] at y2
   have y2 : y.e ∈ f'.se := y2
   have xm : x.e ∈ f'.se := xm
   show y.e ∈ f4.se
   rw [hse, hn]
   exact mem_putE_of y2 fun e => hne (by unfold pr; rw [hn, hyn, uq_one h.us y2 xm e])
  ·rw [hyn] at y2
   show y.e ∈ f4.no
   rw [hno, hn]; exact y2
  ·rw [hyn] at y2
   show y.e ∈ f4.se
   rw [hse, hn]; exact y2
  ·rw [hn] at xm
   rw [hyn] at y2
   have y2 : y.e ∈ f'.no := y2
   have xm : x.e ∈ f'.no := xm
   show y.e ∈ f4.no
   rw [hno, hn]
   exact mem_putE_of y2 fun e => hne (by unfold pr; rw [hn, hyn, uq_one h.un y2 xm e])
 ·have := h.nd
  rw [List.map_cons, List.nodup_cons] at this
  exact this.2
 ·have := h.len; rw [List.length_cons] at this; omega
theorem uq_nodup {l : List En} (h : Uq l) : l.Nodup := nodup_of_map h
theorem ofMap_mem {n : Bool} {l : List En} {k : Nat} {y : Bool × En} : y ∈ ofMap n l k ↔ y.1 = n ∧ y.2 ∈ l ∧ y.2.b = k := by
 unfold ofMap
 rw [List.mem_map]
 constructor
 ·rintro ⟨e, he, rfl⟩
  rw [List.mem_filter] at he
  exact ⟨rfl, he.1, by simpa using he.2⟩
 ·rintro ⟨h1, h2, h3⟩
  refine ⟨y.2, List.mem_filter.2 ⟨h2, by simpa using h3⟩, ?_⟩
  rw [← h1]
theorem allIn_nodup {f : Fm} {k : Nat} (h1 : Uq f.se) (h2 : Uq f.no) : (allIn f k).Nodup := by
 unfold allIn
 rw [List.nodup_append]
 refine ⟨nodup_map (fun a b e => congrArg Prod.snd e) ((uq_nodup h1).filter _), nodup_map (fun a b e => congrArg Prod.snd e) ((uq_nodup h2).filter _), ?_⟩
 rintro a ha b hb rfl
 have e1 := (ofMap_mem.1 ha).1
 have e2 := (ofMap_mem.1 hb).1
 rw [e1] at e2
 cases e2
theorem allIn_len (f : Fm) (k : Nat) : (allIn f k).length = ((f.se ++ f.no).filter fun e => e.b == k).length := by
 unfold allIn ofMap
 rw [List.filter_append, List.length_append, List.length_append, List.length_map, List.length_map]
theorem mvj0 {NB n k : Nat} {f : Fm} {L : List Hd} (hfi : Fi NB n [] f.g (f.se ++ f.no)) (h1 : Uq f.se) (h2 : Uq f.no) (hk : k < NB) (ho : f.g.opn = -1) (hL : (L.map pr).Perm (allIn f k)) : Mvj NB n f f k (Gc.at_ f.g.l k).live 0 L := by
 have hc := hfi.count hk
 rw [← allIn_len] at hc
 have hb := hfi.w.bk k hk
 refine ⟨Same.refl f, hfi, h1, h2, fun _ => rfl, rfl, ?_, .inl ⟨rfl, rfl, ho⟩, fun y hy => ?_, hL.nodup_iff.2 (allIn_nodup h1 h2), ?_⟩
 ·rw [if_neg]
  rintro ⟨e1, e2⟩
  have := hb.fu e1
  omega
 ·have hy2 : pr y ∈ allIn f k := hL.mem_iff.1 (List.mem_map.2 ⟨y, hy, rfl⟩)
  unfold allIn at hy2
  rcases List.mem_append.1 hy2 with h3 | h3
  ·obtain ⟨e1, e2, e3⟩ := ofMap_mem.1 h3
   have e1 : y.n = false := e1
   exact ⟨e3, by rw [e1]; exact e2⟩
  ·obtain ⟨e1, e2, e3⟩ := ofMap_mem.1 h3
   have e1 : y.n = true := e1
   exact ⟨e3, by rw [e1]; exact e2⟩
 ·have := hL.length_eq
  rw [List.length_map] at this
  omega
end Ftl
end Go.Proofs.YtcppkaphlcflgaaGreat
