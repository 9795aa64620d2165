import Derived.Test.YtcppkaphlcflgaaGreatSlEq
import Derived.Test.YtcppkaphlcflgaaGreatFtlEn
import Derived.Test.YtcppkaphlcflgaaGreatMapAt
import Derived.Deep.CutBlock
namespace Go.Proofs.YtcppkaphlcflgaaGreat
open Lib (hid)
set_option maxRecDepth 100000
set_option maxHeartbeats 16000000
section
open Go.RowKit

end
section
open Go.RowKit

section
variable {α : Type} {m : Nat} {f : α → List Value} {e : TypeId} {w : World} {base : Nat} {v : Value} {xs : List α}
theorem OwnM.notBlk {g : Nat} {t : TypeId} {cs : Array Value} (h : OwnM m f e w base v xs) (hb : Blk w g t cs) (ht : e ≠ t) : v.ownBlock ≠ some g := by
 rcases h.2.2 with ⟨rfl, _⟩ | ⟨g', cap, cur, rfl, _, hh, _⟩
 ·intro e; cases e
 ·intro he
  have : g' = g := by simpa [Value.ownBlock] using he
  subst this
  unfold Blk at hb
  rw [hh] at hb
  injection hb with hb
  injection hb with _ hb
  exact ht hb
end
end
section
open Go.RowKit

def bolV (x : Bool) : Value := .bool x
theorem bolV_eq (x : Bool) : bolV x = .bool x := rfl
def naV (x : Nat) : Value := .int .i64 (x : Int)
theorem naV_eq (x : Nat) : naV x = .int .i64 (x : Int) := rfl
theorem step_litBk {w : World} {ops : Array Oper} {o : Oper} {ac : Act} {Q : Exit → Act → World → Prop} {cs : Array Value} {K : Act → World → Prop} {E : Prop} (hgd : o.guard = none) (s x : Operand) (ho : o.op = .call { callee := .builtin .append, args := #[s, x], argTypes := #[176, 176] })
  (base : Nat) (v : Value) (xs : List Bk) (hs : ac.eval s = v) (hown : OwnM 4 bkL 180 w base v xs) (y : Bk) (g : Nat) (hx : ac.eval x = .slice (some ⟨g, 0, none⟩) 1 1) (hg : g = w.heap.size) (hcs : cs = (bkL y).toArray) (hlen : xs.length ≤ 1000000) (hbase : base ≤ w.heap.size)
  (h : ∀ v' w', Hid (OwnM 4 bkL 180 w' base v' (xs ++ [y])) → Hid ((w.alloc (.cells cs 180)).grownBy w' v.ownBlock) → K (ac.put o.dst v') w') : if Region.wanted o (yielded ops ac.tmps) = true then Oper.wp Tryz.prog o ac (w.alloc (.cells cs 180)) K Q else E := by
 have hw : Region.wanted o (yielded ops ac.tmps) = true := by simp [Region.wanted, hgd]
 rw [if_pos hw]
 subst hg
 obtain ⟨i0, hi, hz0, hz1, hz2⟩ := info_parts infoBk
 exact wp_append_OwnM s x 176 ho base 180 i0 _ 32 Tryz.underlying176 hi hz0 hz1 hz2 rfl (by decide) bk_one v xs hs (hown.alloc _) _ _ 1 1 [y] hx (ArrM.lit1 w 180 y hcs) (by omega) (by simp only [maxLen]; omega) (by simp; omega) fun v' w' h1 h2 _ =>
  h v' w' (hid h1) (hid h2)
def openB (x : Pb) (fr : Bool) (n : Nat) : Bk := if x.bad then ⟨4, 0, x.wear, 0⟩ else if fr then ⟨0, 0, x.wear, 0⟩ else if 0 < n then ⟨2, n, x.wear, 0⟩ else ⟨3, 0, x.wear, 0⟩
def openL (bl : Nat → Pb) (fr : List Bool) (lv : List Nat) (k : Nat) : List Bk := (List.range k).map fun i => openB (bl i) (fr.getD i false) (lv.getD i 0)
theorem openL_succ (bl : Nat → Pb) (fr : List Bool) (lv : List Nat) (k : Nat) : openL bl fr lv (k + 1) = openL bl fr lv k ++ [openB (bl k) (fr.getD k false) (lv.getD k 0)] := by simp [openL, List.range_succ]
def Opened (NB B : Nat) (S : Nat → Prop) (w : World) (C BL : Nat) (ps : Nat → Nat) (bl : Nat → Pb) (fr : List Bool) (lv : List Nat) (res bad : Nat) (e : Ending) (w' : World) : Prop :=
 ∃ M ML cap, e = .returned (.tuple #[.pointer (some ⟨M, 0, none⟩), .int .i64 0]) ∧ w.heap.size ≤ M ∧ w.heap.size ≤ ML ∧
   MgM NB B S w' ⟨M, ML, C, BL, cap, ps, bl, openL bl fr lv NB, -1, res, bad, decide (4 < (Gc.greatest (openL bl fr lv NB) : Int) - Gc.least (openL bl fr lv NB)), fun _ => True⟩ ∧ Below w.heap.size w w'
theorem openB_wear (x : Pb) (fr : Bool) (n : Nat) : (openB x fr n).wear = x.wear := by
 unfold openB
 split
 ·rfl
 ·split
  ·rfl
  ·split <;> rfl
theorem openL_at (bl : Nat → Pb) (fr : List Bool) (lv : List Nat) {k i : Nat} (hi : i < k) : Gc.at_ (openL bl fr lv k) i = openB (bl i) (fr.getD i false) (lv.getD i 0) := by
 rw [Gc.at_, List.getD_eq_getElem?_getD, openL, List.getElem?_map, List.getElem?_range hi]
 rfl
theorem wearOf_le {l : List Bk} {o : Option Nat} {b n : Nat} (h : ∀ i, i < n → (Gc.at_ l i).wear ≤ b) (ho : ∀ k, o = some k → k < n) : Gc.wearOf l o ≤ b := by
 cases o with
 | none => exact Nat.zero_le _
 | some k => exact h k (ho k rfl)
section
variable {NB B C BL : Nat} {S : Nat → Prop} {w : World} {ps : Nat → Nat} {bl : Nat → Pb}
def OpI (GB M NB C : Nat) (res bad : Nat) (bl : Nat → Pb) (fr : List Bool) (lv : List Nat) (w : World) (k : Nat) (W : World) : Prop :=
 ∃ v, Blk W GB 66 #[.int .i64 (NB : Int), .int .i64 8, .int .i64 64] ∧ Blk W M 178 #[.pointer (some ⟨C, 0, none⟩), v, .int .i64 (-1), .int .i64 (res : Int), .int .i64 (bad : Int), .bool false] ∧ OwnM 4 bkL 180 W w.heap.size v (openL bl fr lv k) ∧ Below w.heap.size w W
theorem bOpen_calls (h : ChM NB B S w C BL ps bl) (hN : 0 < NB) (hnb : NB ≤ 1000) (hw : ∀ k, k < NB → (bl k).wear ≤ 1099511627776) (af : Option Addr) (cf : Nat) (fr : List Bool) (hf : Arr bolV w w.heap.size af NB fr) (al : Option Addr) (cl : Nat) (lv : List Nat) (hl : Arr naV w w.heap.size al NB lv) (hlv : ∀ k, k < NB → lv.getD k 0 ≤ 8 ∧ (fr.getD k false = true → lv.getD k 0 = 0)) (res bad : Nat) :
  Calls Tryz.prog 68 #[.pointer (some ⟨C, 0, none⟩), .slice af NB cf, .slice al NB cl, .int .i64 (res : Int), .int .i64 (bad : Int)] w (Opened NB B S w C BL ps bl fr lv res bad) := by
 have HU := hid (chUp_calls h)
 have HG := hid (chGeo_calls h)
 have HH := hid h
 have HF := hid hf
 have HL := hid hl
 have HV := hid hlv
 have HW := hid hw
 have hlf := hf.len
 have hll := hl.len
 have hlt := h.ltC
 have d1 : decide ((res : Int) < 0) = false := decide_eq_false (by omega)
 have d2 : decide ((bad : Int) < 0) = false := decide_eq_false (by omega)
 clear h hf hl hlv hw
 go_enter Tryz.func68, Tryz.ntmps68
 go_wp2_with fail
 refine (HU.out).mono ?_
 rintro e w_ ⟨rfl, rfl⟩
 go_wp2_with fail
 refine HG.out.mono ?_
 rintro e w1 ⟨rfl, hb⟩
 have hgk := Blk.new w1 66 #[.int .i64 (NB : Int), .int .i64 8, .int .i64 64]
 have hbg := (Below.refl w1.heap.size w1).alloc (Nat.le_refl _) (.cells #[.int .i64 (NB : Int), .int .i64 8, .int .i64 64] 66)
 have q0 := hgk.cellv (i := 0) (v := .int .i64 (NB : Int)) rfl
 have hg2 := hgk.alloc (.cells #[.pointer (some ⟨C, 0, none⟩), .slice none 0 0, .int .i64 (-1), .int .i64 (res : Int), .int .i64 (bad : Int), .bool false] 178)
 have hm2 := Blk.new (w1.alloc (.cells #[.int .i64 (NB : Int), .int .i64 8, .int .i64 64] 66)) 178 #[.pointer (some ⟨C, 0, none⟩), .slice none 0 0, .int .i64 (-1), .int .i64 (res : Int), .int .i64 (bad : Int), .bool false]
 have hb2 := (hb.then_ hbg).alloc (Nat.le_trans hb.size hbg.size) (.cells #[.pointer (some ⟨C, 0, none⟩), .slice none 0 0, .int .i64 (-1), .int .i64 (res : Int), .int .i64 (bad : Int), .bool false] 178)
 rw [World.size_alloc] at hm2
 have HB2 := hid hb2
 have HG2 := hid hg2
 have HM2 := hid hm2
 have HS1 := hid hb.size
 clear hb hgk hbg hg2 hm2 hb2
 unfold geoV
 go_wp2_with fail
 clear q0
 generalize hw2 : (w1.alloc (.cells #[.int .i64 (NB : Int), .int .i64 8, .int .i64 64] 66)).alloc (.cells #[.pointer (some ⟨C, 0, none⟩), .slice none 0 0, .int .i64 (-1), .int .i64 (res : Int), .int .i64 (bad : Int), .bool false] 178) = w2 at *
 clear hw2
 generalize hMe : w1.heap.size + 1 = M at *
 generalize hGe : w1.heap.size = GB at *
 have HMe := hid hMe
 clear hGe hMe
 go_loopw [14, 15, 16, 53] (fun _ _ _ i wr => ∃ k : Nat, k ≤ NB ∧ i = .int .i64 (k : Int) ∧ OpI GB M NB C res bad bl fr lv w k wr) (fun _ _ _ i _ => NB - (intOf i).toNat)
 case atStart => exact ⟨0, by omega, rfl, .slice none 0 0, HG2.out, HM2.out, OwnM.nil bk_len _ _, HB2.out⟩
 case round =>
  obtain ⟨k, hk, rfl, v, hg, hm, ho, hb⟩ := hrel
  have HGr := hid hg
  have HMr := hid hm
  have HOr := hid ho
  have HBr := hid hb
  clear hg hm ho hb
  by_cases hlt2 : k < NB
  ·obtain ⟨b1, o1, hk1, rfl, hbl1, hc1⟩ := (HL.out.below HBr.out).atv hlt2
   obtain ⟨b2, o2, hk2, rfl, hbl2, hc2⟩ := (HF.out.below HBr.out).atv hlt2
   have hnv := HV.out k hlt2
   have e1 : lv[k] = lv.getD k 0 := by rw [List.getD_eq_getElem?_getD, List.getElem?_eq_getElem hk1]; rfl
   have e2 : fr[k] = fr.getD k false := by rw [List.getD_eq_getElem?_getD, List.getElem?_eq_getElem hk2]; rfl
   rw [e1, naV_eq] at hc1
   rw [e2, bolV_eq] at hc2
   have HSu := hid (openL_succ bl fr lv k)
   clear e1 e2
   generalize lv.getD k 0 = n at *
   generalize fr.getD k false = f at *
   obtain ⟨hn8, hfn⟩ := hnv
   have gc1 := HGr.out.cellv (i := 1) (v := .int .i64 8) rfl
   have k0 : (0 : Int) ≤ (k : Int) := by omega
   have k1 : (k : Int) < (NB : Int) := by omega
   have d3 : decide ((n : Int) < 0) = false := decide_eq_false (by omega)
   have d4 : decide ((8 : Int) < (n : Int)) = false := decide_eq_false (by omega)
   have HFn := hid hfn
   clear hfn
   go_upto_region 12 with fail
   go_cut [75] (fun v wx => v = .bool false ∧ wr = wx)
   case first =>
    cases f
    ·go_wp2_with fail
     go_meet
     exact ⟨rfl, rfl⟩
    ·obtain rfl : n = 0 := HFn.out rfl
     go_wp2_with fail
     go_meet
     exact ⟨rfl, rfl⟩
   case rest =>
    obtain ⟨rfl, hw⟩ := hcut
    subst hw
    have HCr := hid (HH.out.on HBr.out)
    have HWe := hid (chWear_calls HCr.out hlt2)
    have HBa := hid (chBad_calls (HCr.out.on ((Below.refl wr.heap.size wr).alloc (Nat.le_refl _) (.cells #[.int .i64 3, .int .i64 0, .int .i64 ((bl k).wear : Int), .int .i64 0] 180))) hlt2)
    have HKb := hid (Blk.new wr 180 #[.int .i64 3, .int .i64 0, .int .i64 ((bl k).wear : Int), .int .i64 0])
    have hc2' := cell_on hc2 ((Below.refl wr.heap.size wr).alloc (Nat.le_refl _) (.cells #[.int .i64 3, .int .i64 0, .int .i64 ((bl k).wear : Int), .int .i64 0] 180))
    have HB3 := hid ((Below.refl wr.heap.size wr).alloc (Nat.le_refl _) (.cells #[.int .i64 3, .int .i64 0, .int .i64 ((bl k).wear : Int), .int .i64 0] 180))
    have HOp := hid (show openB (bl k) f n = if (bl k).bad then ⟨4, 0, (bl k).wear, 0⟩ else if f then ⟨0, 0, (bl k).wear, 0⟩ else if 0 < n then ⟨2, n, (bl k).wear, 0⟩ else ⟨3, 0, (bl k).wear, 0⟩ from rfl)
    clear gc1 d3 d4 hc1
    generalize (bl k).wear = we at *
    generalize (bl k).bad = bd at *
    go_wp2_with fail
    refine HWe.out.mono ?_
    rintro e w_ ⟨rfl, rfl⟩
    go_upto_block 3 with fail
    clear hc2
    generalize hw3 : wr.alloc (.cells #[.int .i64 3, .int .i64 0, .int .i64 (we : Int), .int .i64 0] 180) = w3 at *
    generalize hgb : wr.heap.size = gb at *
    have HW3 := hid hw3
    clear hw3
    go_cut [] (fun wx => Blk wx gb 180 (bkA (openB (bl k) f n)) ∧ Below gb wr wx)
    case first =>
     have a0 := HKb.out.cellv (i := 0) (v := .int .i64 3) rfl
     have z0 := HKb.out.frozen 0
     cases bd
     ·cases f
      ·by_cases hn0 : 0 < n
       ·have dn : decide ((0 : Int) < (n : Int)) = true := decide_eq_true (by omega)
        have a1 := HKb.out.cellv (i := 1) (v := .int .i64 0) rfl
        have z1 := HKb.out.frozen 1
        have hs := (HKb.out.set 0 (.int .i64 2)).set 1 (.int .i64 (n : Int))
        have HSs := hid hs
        have HBs := hid ((HB3.out.setCell (p := ⟨gb, 0, none⟩) (Nat.le_refl _) (.int .i64 2)).setCell (p := ⟨gb, 1, none⟩) (Nat.le_refl _) (.int .i64 (n : Int)))
        clear hs
        go_wp2_with fail
        refine HBa.out.mono ?_
        rintro e w_ ⟨rfl, rfl⟩
        go_wp2_with fail
        go_meet
        refine ⟨?_, HBs.out⟩
        rw [HOp.out, if_neg (by simp), if_neg (by simp), if_pos hn0]
        exact HSs.out
       ·obtain rfl : n = 0 := by omega
        go_wp2_with fail
        refine HBa.out.mono ?_
        rintro e w_ ⟨rfl, rfl⟩
        go_wp2_with fail
        go_meet
        refine ⟨?_, HB3.out⟩
        rw [HOp.out, if_neg (by simp), if_neg (by simp), if_neg (by simp)]
        exact HKb.out
      ·have hs := HKb.out.set 0 (.int .i64 0)
       have HSs := hid hs
       have HBs := hid (HB3.out.setCell (p := ⟨gb, 0, none⟩) (Nat.le_refl _) (.int .i64 0))
       clear hs
       go_wp2_with fail
       refine HBa.out.mono ?_
       rintro e w_ ⟨rfl, rfl⟩
       go_wp2_with fail
       go_meet
       refine ⟨?_, HBs.out⟩
       rw [HOp.out, if_neg (by simp), if_pos trivial]
       exact HSs.out
     ·have hs := HKb.out.set 0 (.int .i64 4)
      have HSs := hid hs
      have HBs := hid (HB3.out.setCell (p := ⟨gb, 0, none⟩) (Nat.le_refl _) (.int .i64 4))
      clear hs
      go_wp2_with fail
      refine HBa.out.mono ?_
      rintro e w_ ⟨rfl, rfl⟩
      go_wp2_with fail
      go_meet
      refine ⟨?_, HBs.out⟩
      rw [HOp.out, if_pos trivial]
      exact HSs.out
    case rest =>
     obtain ⟨hk4, hb4⟩ := hcut
     generalize hye : openB (bl k) f n = y at *
     have hm4 := HMr.out.below hb4 (by rw [← hgb]; exact HMr.out.lt)
     have hg4 := HGr.out.below hb4 (by rw [← hgb]; exact HGr.out.lt)
     have ho4 := HOr.out.below hb4 (by rw [hgb]; exact Nat.le_refl _)
     have HNe := hid (show v.ownBlock ≠ some gb from fun e => by have := (HOr.out.blockLt _ e).2; omega)
     have hsz4 := hb4.size
     have HGb := hid hgb
     have hbs := HBr.out.size
     have HM5 := hid (hm4.drew)
     have HG5 := hid (hg4.drew)
     have HO5 := hid (ho4.drew)
     have HY5 := hid (hk4.drew)
     have HB5 := hid ((HBr.out.trans (hb4.mono (by omega))).drew)
     have HSz5 := hid (show w.heap.size ≤ wc.drew.heap.size from Nat.le_trans hbs (by show wr.heap.size ≤ wc.heap.size; omega))
     have HLn := hid (show (openL bl fr lv k).length = k by simp [openL])
     have HMw := hid (show w.heap.size ≤ M by have := HMe.out; have := HS1.out; omega)
     have HGM := hid (show GB ≠ M from fun e => by have h1 := HGr.out; have h2 := HMr.out; rw [e] at h1; unfold Blk at h1 h2; rw [h1] at h2; injection h2 with h2; injection h2 with _ h2; exact absurd h2 (by decide))
     have cc1 := HM5.out.cellv (i := 1) rfl
     clear hm4 hg4 ho4 hk4 hb4 hsz4 hbs HOp HWe HBa HKb HB3 hye hc2' HW3
     go_upto_region 21 with fail
     refine wp_region_noPanic ?_
     refine wp_region_held_drew (S := (fun W' => Blk W' gb 180 #[.int .i64 (y.st : Int), .int .i64 (y.live : Int), .int .i64 (y.wear : Int), .int .i64 (y.nx : Int)])) (by kernel_rfl) HY5.out (fun hS0 => ?_)
     generalize wc.drew = w5 at *
     refine tk 0 ((.pointer (some ⟨M, 0, none⟩))) rfl (fun _ _ => rfl) ?_
     try simp only [layR]
     refine tk 1 ((.pointer (some ⟨M, 0, none⟩))) rfl (fun _ _ => rfl) ?_
     try simp only [layR]
     refine tk 2 ((.pointer (some ⟨M, 0, none⟩))) rfl (fun W hSw => ?_) ?_
     ·skip
      go_simp
     try simp only [layR]
     refine tk 3 ((.pointer (some ⟨M, 1, none⟩))) rfl (fun W hSw => ?_) ?_
     ·skip
      go_simp
     try simp only [layR]
     refine tk 5 ((.agg #[.int .i64 (y.st : Int), .int .i64 (y.live : Int), .int .i64 (y.wear : Int), .int .i64 (y.nx : Int)])) rfl (fun W hSw => ?_) ?_
     ·have y0 := hSw.cellv (i := 0) rfl; have y1 := hSw.cellv (i := 1) rfl; have y2 := hSw.cellv (i := 2) rfl; have y3 := hSw.cellv (i := 3) rfl
      go_simp
     try simp only [layR]
     refine wpAnyH_ready (rs := [4, 6]) (by kernel_rfl) (by simp) ?_
     refine AllReadyH.cons rfl (fun K' hK => ?_) (AllReadyH.cons rfl (fun K' hK => ?_) AllReadyH.nil)
     ·go_simp
      refine hK.out _ _ hS0 (fun hS1 => ?_)
      try simp only [layR]
      refine rd 6 rfl (fun K' hK => ?_)
      go_simp
      refine hK.out _ _ (hS1.alloc _) (fun hS2 => ?_)
      try simp only [layR]
      clear hS1 hS2
      refine rd 7 rfl (fun K' hK => ?_)
      refine step_litBk (w := w5) (cs := #[.int .i64 (y.st : Int), .int .i64 (y.live : Int), .int .i64 (y.wear : Int), .int .i64 (y.nx : Int)]) rfl (.tmp 101) (.tmp 103) rfl w.heap.size _ (openL bl fr lv k) rfl HO5.out y w5.heap.size rfl rfl rfl (by rw [HLn.out]; omega) HSz5.out ?_
      intro v7 w7 HO7 HG7
      obtain ⟨a7, c7, rfl, _⟩ := HO7.out.formN (n := k + 1) (by rw [List.length_append, HLn.out]; rfl)
      have HM7 := hid ((HM5.out.alloc (.cells #[.int .i64 (y.st : Int), .int .i64 (y.live : Int), .int .i64 (y.wear : Int), .int .i64 (y.nx : Int)] 180)).grown HG7.out (fun e => HO5.out.notBlk HM5.out (by decide) e.symm))
      have HG8 := hid ((HG5.out.alloc (.cells #[.int .i64 (y.st : Int), .int .i64 (y.live : Int), .int .i64 (y.wear : Int), .int .i64 (y.nx : Int)] 180)).grown HG7.out (fun e => HO5.out.notBlk HG5.out (by decide) e.symm))
      have HK7 := hid ((HY5.out.alloc (.cells #[.int .i64 (y.st : Int), .int .i64 (y.live : Int), .int .i64 (y.wear : Int), .int .i64 (y.nx : Int)] 180)).grown HG7.out (fun e => HNe.out e.symm))
      have HB7 := hid ((HB5.out.alloc HSz5.out (.cells #[.int .i64 (y.st : Int), .int .i64 (y.live : Int), .int .i64 (y.wear : Int), .int .i64 (y.nx : Int)] 180)).grown HG7.out (by rw [World.size_alloc]; have := HSz5.out; omega) (fun q hq => (HO5.out.blockLt q hq).1))
      have e1 := HM7.out.cellv (i := 1) rfl
      have z1 := HM7.out.frozen 1
      refine hK.out _ _ HK7.out (fun hS5 => ?_)
      try simp only [layR]
      refine tk 8 ((.pointer (some ⟨M, 0, none⟩))) rfl (fun W hSw => ?_) ?_
      ·skip
       go_simp
      try simp only
      refine tk 9 ((.pointer (some ⟨M, 1, none⟩))) rfl (fun W hSw => ?_) ?_
      ·skip
       go_simp
      try simp only
      have hne7 : gb ≠ M := by have := HMr.out.lt; have := HGb.out; omega
      refine rd 10 rfl (fun K' hK => ?_)
      go_simp
      refine hK.out _ _ (HK7.out.far (p := ⟨M, 1, none⟩) hne7 _) (fun hS6 => ?_)
      try simp only [layR]
      refine wpAnyH_done (by kernel_rfl) ?_ _
      refine NoPanic.normal ?_
      have HMf := hid (HM7.out.set 1 (.slice a7 (k + 1) c7))
      have HGf := hid (HG8.out.far (p := ⟨M, 1, none⟩) (by have := HGM.out; simpa using this) (.slice a7 (k + 1) c7))
      have HOf := hid (HO7.out.far (p := ⟨M, 1, none⟩) (HO7.out.notBlk HM7.out (by decide)) (.slice a7 (k + 1) c7))
      have HBf := hid (HB7.out.setCell (p := ⟨M, 1, none⟩) HMw.out (.slice a7 (k + 1) c7))
      clear hS0 hS5 hS6 e1 z1 hne7
      go_wp2_with fail
      go_roundw
      case rel => exact ⟨k + 1, by omega, by go_num, _, HGf.out, HMf.out, by rw [HSu.out]; exact HOf.out, HBf.out⟩
      case measure => simp [intOf]; omega
     ·go_simp
      refine hK.out _ _ (hS0.alloc _) (fun hS1 => ?_)
      try simp only [layR]
      have cc2 := cell_on cc1 ((Below.refl w5.heap.size w5).alloc (Nat.le_refl _) (.cells #[.int .i64 (y.st : Int), .int .i64 (y.live : Int), .int .i64 (y.wear : Int), .int .i64 (y.nx : Int)] 180))
      refine rd 4 rfl (fun K' hK => ?_)
      go_simp
      refine hK.out _ _ hS1 (fun hS2 => ?_)
      try simp only [layR]
      clear hS1 hS2
      refine rd 7 rfl (fun K' hK => ?_)
      refine step_litBk (w := w5) (cs := #[.int .i64 (y.st : Int), .int .i64 (y.live : Int), .int .i64 (y.wear : Int), .int .i64 (y.nx : Int)]) rfl (.tmp 101) (.tmp 103) rfl w.heap.size _ (openL bl fr lv k) rfl HO5.out y w5.heap.size rfl rfl rfl (by rw [HLn.out]; omega) HSz5.out ?_
      intro v7 w7 HO7 HG7
      obtain ⟨a7, c7, rfl, _⟩ := HO7.out.formN (n := k + 1) (by rw [List.length_append, HLn.out]; rfl)
      have HM7 := hid ((HM5.out.alloc (.cells #[.int .i64 (y.st : Int), .int .i64 (y.live : Int), .int .i64 (y.wear : Int), .int .i64 (y.nx : Int)] 180)).grown HG7.out (fun e => HO5.out.notBlk HM5.out (by decide) e.symm))
      have HG8 := hid ((HG5.out.alloc (.cells #[.int .i64 (y.st : Int), .int .i64 (y.live : Int), .int .i64 (y.wear : Int), .int .i64 (y.nx : Int)] 180)).grown HG7.out (fun e => HO5.out.notBlk HG5.out (by decide) e.symm))
      have HK7 := hid ((HY5.out.alloc (.cells #[.int .i64 (y.st : Int), .int .i64 (y.live : Int), .int .i64 (y.wear : Int), .int .i64 (y.nx : Int)] 180)).grown HG7.out (fun e => HNe.out e.symm))
      have HB7 := hid ((HB5.out.alloc HSz5.out (.cells #[.int .i64 (y.st : Int), .int .i64 (y.live : Int), .int .i64 (y.wear : Int), .int .i64 (y.nx : Int)] 180)).grown HG7.out (by rw [World.size_alloc]; have := HSz5.out; omega) (fun q hq => (HO5.out.blockLt q hq).1))
      have e1 := HM7.out.cellv (i := 1) rfl
      have z1 := HM7.out.frozen 1
      refine hK.out _ _ HK7.out (fun hS5 => ?_)
      try simp only [layR]
      refine tk 8 ((.pointer (some ⟨M, 0, none⟩))) rfl (fun W hSw => ?_) ?_
      ·skip
       go_simp
      try simp only
      refine tk 9 ((.pointer (some ⟨M, 1, none⟩))) rfl (fun W hSw => ?_) ?_
      ·skip
       go_simp
      try simp only
      have hne7 : gb ≠ M := by have := HMr.out.lt; have := HGb.out; omega
      refine rd 10 rfl (fun K' hK => ?_)
      go_simp
      refine hK.out _ _ (HK7.out.far (p := ⟨M, 1, none⟩) hne7 _) (fun hS6 => ?_)
      try simp only [layR]
      refine wpAnyH_done (by kernel_rfl) ?_ _
      refine NoPanic.normal ?_
      have HMf := hid (HM7.out.set 1 (.slice a7 (k + 1) c7))
      have HGf := hid (HG8.out.far (p := ⟨M, 1, none⟩) (by have := HGM.out; simpa using this) (.slice a7 (k + 1) c7))
      have HOf := hid (HO7.out.far (p := ⟨M, 1, none⟩) (HO7.out.notBlk HM7.out (by decide)) (.slice a7 (k + 1) c7))
      have HBf := hid (HB7.out.setCell (p := ⟨M, 1, none⟩) HMw.out (.slice a7 (k + 1) c7))
      clear hS0 hS5 hS6 e1 z1 hne7
      go_wp2_with fail
      go_roundw
      case rel => exact ⟨k + 1, by omega, by go_num, _, HGf.out, HMf.out, by rw [HSu.out]; exact HOf.out, HBf.out⟩
      case measure => simp [intOf]; omega
  ·obtain rfl : k = NB := by omega
   have hlen : (openL bl fr lv k).length = k := by simp [openL]
   obtain ⟨ML, cap, rfl, hcap, hML, hMLt⟩ := HOr.out.form_some (by rw [hlen]; exact hN)
   rw [hlen] at HMr HOr hcap
   have hg : MgM k B S wr ⟨M, ML, C, BL, cap, ps, bl, openL bl fr lv k, -1, res, bad, false, fun _ => True⟩ := ⟨HMr.out, HOr.out.mono (Nat.zero_le _), HH.out.on HBr.out, fun e => HOr.out.notBlk HMr.out (by decide) (by rw [show M = ML from e]; rfl), fun hs => by have h1 : M < w.heap.size := HH.out.hi _ hs; have := HMe.out; have := HS1.out; omega, fun hs => by have h1 : ML < w.heap.size := HH.out.hi _ hs; omega, by have := HH.out.base; have := HMe.out; have := HS1.out; show B ≤ M; omega, by have := HH.out.base; show B ≤ ML; omega, hnb⟩
   have HGm := hid hg
   have hgr := hid (fun (W : World) (hW : Below wr.heap.size wr W) => greatest_calls (some ⟨ML, 0, none⟩) k cap _ W ((hg.on hW).arr) hnb)
   have hls := hid (fun (W : World) (hW : Below wr.heap.size wr W) => least_calls (some ⟨ML, 0, none⟩) k cap _ W ((hg.on hW).arr) hnb)
   have HMle := hid (show w.heap.size ≤ M by have := HMe.out; have := HS1.out; omega)
   have m1 := (hg.on (below_drew wr)).m1
   simp only at m1
   have hwl : ∀ i, i < k → (Gc.at_ (openL bl fr lv k) i).wear ≤ 1099511627776 := fun i hi => by rw [openL_at _ _ _ hi, openB_wear]; exact HW.out i hi
   have hgb1 : Gc.greatest (openL bl fr lv k) ≤ 1099511627776 := wearOf_le hwl fun q hq => by have := (Gc.best_some hq).1; omega
   have hlb1 : Gc.least (openL bl fr lv k) ≤ 1099511627776 := wearOf_le hwl fun q hq => by have := (Gc.best_some hq).1; omega
   clear hwl
   clear hg
   generalize hgr2 : Gc.greatest (openL bl fr lv k) = gr at *
   generalize hls2 : Gc.least (openL bl fr lv k) = ls at *
   have HE1 := hid hgr2
   have HE2 := hid hls2
   clear hgr2 hls2
   have i1 := IntWalk.i64_in ((gr : Int) - ls) ⟨by omega, by omega⟩
   go_upto_region 23 with fail
   have HD0 := hid (show Below wr.heap.size wr wr.drew from below_drew wr)
   refine wp_region_noPanic ?_
   refine wp_region_held_drew (S := (fun W' => W'.cell? ⟨M, 1, none⟩ = some (.slice (some ⟨ML, 0, none⟩) k cap))) (by kernel_rfl) m1 (fun hS0 => ?_)
   generalize wr.drew = w5 at *
   refine tk 0 ((.pointer (some ⟨M, 0, none⟩))) rfl (fun _ _ => rfl) ?_
   try simp only [layR]
   refine tk 1 ((.pointer (some ⟨M, 0, none⟩))) rfl (fun _ _ => rfl) ?_
   try simp only [layR]
   refine tk 2 ((.pointer (some ⟨M, 0, none⟩))) rfl (fun W hSw => ?_) ?_
   ·skip
    go_simp
   try simp only [layR]
   refine tk 3 ((.pointer (some ⟨M, 1, none⟩))) rfl (fun W hSw => ?_) ?_
   ·skip
    go_simp
   try simp only [layR]
   refine tk 4 ((.slice (some ⟨ML, 0, none⟩) k cap)) rfl (fun W hSw => ?_) ?_
   ·skip
    go_simp
   try simp only [layR]
   refine tk 6 ((.pointer (some ⟨M, 0, none⟩))) rfl (fun _ _ => rfl) ?_
   try simp only [layR]
   refine tk 7 ((.pointer (some ⟨M, 0, none⟩))) rfl (fun W hSw => ?_) ?_
   ·skip
    go_simp
   try simp only [layR]
   refine tk 8 ((.pointer (some ⟨M, 1, none⟩))) rfl (fun W hSw => ?_) ?_
   ·skip
    go_simp
   try simp only [layR]
   refine tk 9 ((.slice (some ⟨ML, 0, none⟩) k cap)) rfl (fun W hSw => ?_) ?_
   ·skip
    go_simp
   try simp only [layR]
   refine rd 5 rfl (fun K' hK => ?_)
   go_simp
   refine (hgr.out w5 HD0.out).mono ?_
   rintro e w6 ⟨rfl, hb6⟩
   have HD6 := hid (HD0.out.then_ hb6)
   have m6 := cell_on hS0 hb6
   clear hb6
   refine hK.out _ _ m6 (fun hS1 => ?_)
   try simp only [layR]
   refine rd 10 rfl (fun K' hK => ?_)
   go_simp
   refine (hls.out w6 HD6.out).mono ?_
   rintro e w7 ⟨rfl, hb7⟩
   have HD7 := hid (HD6.out.then_ hb7)
   have m7 := cell_on m6 hb7
   clear hb7
   refine hK.out _ _ m7 (fun hS2 => ?_)
   try simp only [layR]
   refine tk 11 ((.int .i64 ((gr : Int) - ls))) rfl (fun W hSw => ?_) ?_
   ·skip
    go_simp
   try simp only [layR]
   refine tk 12 ((.bool (decide (4 < (gr : Int) - ls)))) rfl (fun W hSw => ?_) ?_
   ·skip
    go_simp
   try simp only [layR]
   refine tk 13 ((.pointer (some ⟨M, 0, none⟩))) rfl (fun W hSw => ?_) ?_
   ·skip
    go_simp
   try simp only [layR]
   refine tk 14 ((.pointer (some ⟨M, 5, none⟩))) rfl (fun W hSw => ?_) ?_
   ·skip
    go_simp
   try simp only [layR]
   have hg7 := HGm.out.on HD7.out
   have m5 := hg7.m5
   have z5 := hg7.frzM 5
   simp only at m5 z5
   have HF7 := hid (hg7.setE (decide (4 < (gr : Int) - ls)))
   have m8 := HF7.out.m1
   simp only at m8
   have HB7 := hid ((HBr.out.then_ HD7.out).setCell (p := ⟨M, 5, none⟩) HMle.out (.bool (decide (4 < (gr : Int) - ls))))
   clear hg7
   refine rd 15 rfl (fun K' hK => ?_)
   go_simp
   refine hK.out _ _ m8 (fun hS3 => ?_)
   try simp only [layR]
   refine wpAnyH_done (by kernel_rfl) ?_ _
   refine NoPanic.normal ?_
   clear hS0 hS1 hS2 hS3 m1 m6 m7 m5 z5 m8
   go_wp2_with fail
   go_ret2
   refine ⟨M, ML, cap, rfl, HMle.out, hML, ?_, HB7.out⟩
   rw [HE1.out, HE2.out]
   exact HF7.out
end
end
end Go.Proofs.YtcppkaphlcflgaaGreat
