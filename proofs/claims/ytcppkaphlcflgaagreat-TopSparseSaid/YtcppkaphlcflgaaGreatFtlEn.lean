import Derived.Test.YtcppkaphlcflgaaGreatBlkSmall
import Derived.Test.YtcppkaphlcflgaaGreatGcAct
import Derived.Lib.SliceRun
import Derived.Deep.CutBlock
import Derived.Deep.DeepCutAuto
namespace Go.Proofs.YtcppkaphlcflgaaGreat
open Go.RowKit

section
variable {NB B : Nat} {S : Nat → Prop} {w : World} {g : Mg}
theorem bFree_calls (h : MgM NB B S w g) :
  Calls Tryz.prog 191 #[.pointer (some ⟨g.M, 0, none⟩)] w fun e w' => e = .returned (.int .i64 (Gc.count 0 g.l : Int)) ∧ Below w.heap.size w w' := by
 have m1 := h.m1
 have HC := Lib.hid (count_calls 0 _ NB g.cap g.l w h.arr h.nb)
 clear h
 go_enter Tryz.func191, Tryz.ntmps191
 go_wp2_with fail
 refine HC.out.mono ?_
 rintro e w1 ⟨rfl, hb⟩
 have HB := Lib.hid hb
 clear hb
 go_wp2
 go_ret
 exact ⟨rfl, HB.out⟩
def roomOf (g : Mg) : Int := (Gc.count 0 g.l : Int) * 8 + (if g.opn = -1 then 0 else 8 - ((Gc.at_ g.l g.opn.toNat).nx : Int))
set_option maxRecDepth 100000 in
theorem bRoom_calls (h : MgM NB B S w g) (ho : g.opn = -1 ∨ (0 ≤ g.opn ∧ g.opn < NB)) (hx : (Gc.at_ g.l g.opn.toNat).nx ≤ 8) :
  Calls Tryz.prog 188 #[.pointer (some ⟨g.M, 0, none⟩)] w fun e w' => e = .returned (.int .i64 (roomOf g)) ∧ Below w.heap.size w w' := by
 have HF := Lib.hid (bFree_calls h)
 have HH := Lib.hid h
 have hnb := h.nb
 have hcl := Nat.le_trans (Gc.count_le 0 g.l) (Nat.le_of_eq h.len)
 clear h
 go_enter Tryz.func188, Tryz.ntmps188
 go_wp2_with fail
 refine HF.out.mono ?_
 rintro e w1 ⟨rfl, hb⟩
 have HB := Lib.hid hb
 have HG1 := Lib.hid (HH.out.on hb)
 clear hb
 go_wp2_with fail
 refine (bpages_calls HG1.out).mono ?_
 rintro e w2 ⟨rfl, hb⟩
 have HB2 := Lib.hid (HB.out.then_ hb)
 have HG2 := Lib.hid (HG1.out.on hb)
 have m2 := HG2.out.m2
 have i1 := IntWalk.i64_in ((Gc.count 0 g.l : Int) * 8) ⟨by omega, by omega⟩
 have HRm := Lib.hid (show roomOf g = (Gc.count 0 g.l : Int) * 8 + (if g.opn = -1 then 0 else 8 - ((Gc.at_ g.l g.opn.toNat).nx : Int)) from rfl)
 clear hb
 generalize Gc.count 0 g.l = q at *
 rcases ho with ho | ⟨h1, h2⟩
 ·rw [ho] at m2
  rw [if_pos ho] at HRm
  clear ho
  go_wp2_with fail
  go_ret
  exact ⟨by rw [HRm.out, Int.add_zero]; rfl, HB2.out⟩
 ·obtain ⟨k, hk⟩ : ∃ k : Nat, g.opn = (k : Int) := ⟨g.opn.toNat, by omega⟩
  rw [hk] at m2 h1 h2 hx HRm
  have hkn : k < NB := by omega
  have hne : ((k : Int) != -1) = true := by rw [bne_iff_ne]; omega
  rw [if_neg (show ¬ (k : Int) = -1 by omega), Int.toNat_natCast] at HRm
  rw [Int.toNat_natCast] at hx
  generalize hxx : Gc.at_ g.l k = x at *
  have HXX := Lib.hid hxx
  have HOk := Lib.hid hk
  have i2 := IntWalk.i64_in (8 - (x.nx : Int)) ⟨by omega, by omega⟩
  have i3 := IntWalk.i64_in ((q : Int) * 8 + (8 - (x.nx : Int))) ⟨by omega, by omega⟩
  clear hk hxx
  go_upto_region 5 with fail
  have HD := Lib.hid (HG2.out.on (below_drew w2))
  have HS0 := Lib.hid (show Below w2.heap.size w2 w2.drew from below_drew w2)
  refine wp_region_noPanic ?_
  refine wp_region_held_drew (S := (fun W' => Below w2.heap.size w2 W')) (by kernel_rfl) HS0.out (fun hS0 => ?_)
  refine takeV 0 (v := (.int .i64 ((q : Int) * 8))) rfl (by kernel_rfl) (by kernel_rfl) (by kernel_rfl) (fun _ _ _ h => h) (by rfl) (fun _ _ => rfl) (by assumption) ?_
  try simp only [layR]
  refine takeV 1 (v := (.pointer (some ⟨g.M, 0, none⟩))) rfl (by kernel_rfl) (by kernel_rfl) (by kernel_rfl) (fun _ _ _ h => h) (by rfl) (fun _ _ => rfl) (by assumption) ?_
  try simp only [layR]
  refine takeV 3 (v := (.pointer (some ⟨g.M, 0, none⟩))) rfl (by kernel_rfl) (by kernel_rfl) (by kernel_rfl) (fun _ _ _ h => h) (by rfl) (fun _ _ => rfl) (by assumption) ?_
  try simp only [layR]
  refine takeV 4 (v := (.pointer (some ⟨g.M, 0, none⟩))) rfl (by kernel_rfl) (by kernel_rfl) (by kernel_rfl) (fun _ _ _ h => h) (by rfl) (fun W hSw => ?_) (by assumption) ?_
  ·skip
   go_simp
  try simp only [layR]
  refine takeV 5 (v := (.pointer (some ⟨g.M, 1, none⟩))) rfl (by kernel_rfl) (by kernel_rfl) (by kernel_rfl) (fun _ _ _ h => h) (by rfl) (fun W hSw => ?_) (by assumption) ?_
  ·skip
   go_simp
  try simp only [layR]
  refine takeV 6 (v := (.slice (some ⟨g.ML, 0, none⟩) NB g.cap)) rfl (by kernel_rfl) (by kernel_rfl) (by kernel_rfl) (fun _ _ _ h => h) (by rfl) (fun W hSw => ?_) (by assumption) ?_
  ·have y9 := (HG2.out.on hSw).m1
   go_simp
  try simp only [layR]
  refine takeV 7 (v := (.pointer (some ⟨g.M, 0, none⟩))) rfl (by kernel_rfl) (by kernel_rfl) (by kernel_rfl) (fun _ _ _ h => h) (by rfl) (fun _ _ => rfl) (by assumption) ?_
  try simp only [layR]
  refine takeV 8 (v := (.pointer (some ⟨g.M, 0, none⟩))) rfl (by kernel_rfl) (by kernel_rfl) (by kernel_rfl) (fun _ _ _ h => h) (by rfl) (fun W hSw => ?_) (by assumption) ?_
  ·skip
   go_simp
  try simp only [layR]
  refine takeV 9 (v := (.pointer (some ⟨g.M, 2, none⟩))) rfl (by kernel_rfl) (by kernel_rfl) (by kernel_rfl) (fun _ _ _ h => h) (by rfl) (fun W hSw => ?_) (by assumption) ?_
  ·skip
   go_simp
  try simp only [layR]
  refine takeV 10 (v := (.int .i64 (k : Int))) rfl (by kernel_rfl) (by kernel_rfl) (by kernel_rfl) (fun _ _ _ h => h) (by rfl) (fun W hSw => ?_) (by assumption) ?_
  ·have y9 := (HG2.out.on hSw).m2; rw [HOk.out] at y9
   go_simp
  try simp only [layR]
  refine takeV 11 (v := (.pointer (some ⟨g.ML, k * 4, none⟩))) rfl (by kernel_rfl) (by kernel_rfl) (by kernel_rfl) (fun _ _ _ h => h) (by rfl) (fun W hSw => ?_) (by assumption) ?_
  ·skip
   go_simp
  try simp only [layR]
  refine takeV 12 (v := (.pointer (some ⟨g.ML, k * 4 + 3, none⟩))) rfl (by kernel_rfl) (by kernel_rfl) (by kernel_rfl) (fun _ _ _ h => h) (by rfl) (fun W hSw => ?_) (by assumption) ?_
  ·skip
   go_simp
  try simp only [layR]
  refine takeV 13 (v := (.int .i64 (x.nx : Int))) rfl (by kernel_rfl) (by kernel_rfl) (by kernel_rfl) (fun _ _ _ h => h) (by rfl) (fun W hSw => ?_) (by assumption) ?_
  ·have y9 := ((HG2.out.on hSw).r3 hkn).1; rw [HXX.out] at y9
   go_simp
  try simp only [layR]
  refine wpAnyH_ready (rs := [2]) (by kernel_rfl) (by simp) ?_
  refine AllReadyH.cons rfl (fun K' hK => ?_) AllReadyH.nil
  go_simp
  refine (bpages_calls HD.out).mono ?_
  rintro e w3 ⟨rfl, hb⟩
  have hS1 : Below w2.heap.size w2 w3 := HS0.out.then_ hb
  have HB3 := Lib.hid (HB2.out.then_ hS1)
  refine hK.out _ _ hS1 (fun hS2 => ?_)
  try simp only [layR]
  refine takeV 14 (v := (.int .i64 (8 - (x.nx : Int)))) rfl (by kernel_rfl) (by kernel_rfl) (by kernel_rfl) (fun _ _ _ h => h) (by rfl) (fun W hSw => ?_) (by assumption) ?_
  ·skip
   go_simp
  try simp only [layR]
  refine takeV 15 (v := (.int .i64 ((q : Int) * 8 + (8 - (x.nx : Int))))) rfl (by kernel_rfl) (by kernel_rfl) (by kernel_rfl) (fun _ _ _ h => h) (by rfl) (fun W hSw => ?_) (by assumption) ?_
  ·skip
   go_simp
  try simp only [layR]
  refine takeV 16 (v := (.int .i64 ((q : Int) * 8 + (8 - (x.nx : Int))))) rfl (by kernel_rfl) (by kernel_rfl) (by kernel_rfl) (fun _ _ _ h => h) (by rfl) (fun W hSw => ?_) (by assumption) ?_
  ·skip
   go_simp
  try simp only [layR]
  refine wpAnyH_done (by kernel_rfl) ?_ _
  refine NoPanic.normal ?_
  clear hS0 hS1 hS2 hb
  go_wp2_with fail
  go_ret
  exact ⟨by rw [HRm.out]; rfl, HB3.out⟩
end
end Go.Proofs.YtcppkaphlcflgaaGreat
namespace Go.Proofs.YtcppkaphlcflgaaGreat
open Go.RowKit

theorem infoBk : (Tryz.prog.info? 180).map (fun i => (i.zero, i.size, i.bytes)) = some (some (.agg #[.int .i64 0, .int .i64 0, .int .i64 0, .int .i64 0]), 4, 32) := by kernel_rfl
theorem bkEmpty (w : World) : OwnM 4 bkL 180 (w.alloc (.cells #[] 180)) w.heap.size (.slice (some ⟨w.heap.size, 0, none⟩) 0 0) [] :=
 ⟨bk_len, rfl, .inr ⟨w.heap.size, 0, #[], rfl, Nat.le_refl _, heap_alloc_new w _, Nat.le_refl _, by decide, rfl, rfl⟩⟩
theorem wpList_ontoBk {w : World} {ops : Array Oper} {rest : List Oper} {o : Oper} {ac : Act} {Q : Exit → Act → World → Prop} (hgd : o.guard = none) (s x : Operand)
  (ho : o.op = .call { callee := .builtin .append, args := #[s, x], argTypes := #[176, 176] }) (base : Nat)
  (v : Value) (xs : List Bk) (hs : ac.eval s = v) (hown : OwnM 4 bkL 180 w base v xs) (B : Nat) (a : Option Addr) (m c : Nat) (ys : List Bk) (hx : ac.eval x = .slice a m c) (hy : ArrM 4 bkL w B a m ys)
  (hlen : xs.length + m ≤ 1000000) (hbase : base ≤ w.heap.size)
  (h : ∀ v' w', Hid (OwnM 4 bkL 180 w' base v' (xs ++ ys)) → Hid (Below base w w') → wpList Tryz.prog ops Q rest (ac.put o.dst v') w') : wpList Tryz.prog ops Q (o :: rest) ac w := by
 obtain ⟨i0, hi, hz0, hz1, hz2⟩ := info_parts infoBk
 exact wpList_append_OwnM hgd s x 176 ho base 180 i0 _ 32 Tryz.underlying176 hi hz0 hz1 hz2 rfl (by decide) bk_one v xs hs hown B a m c ys hx hy (by omega) (by simp only [maxLen]; omega) hbase fun v' w' h1 h2 _ =>
  h v' w' (Lib.hid h1) (Lib.hid (below_ownM (Below.refl base _) hown h2 hbase))
theorem gclone_calls (p : Addr) (n c : Nat) (l : List Bk) (w : World) (hx : ArrM 4 bkL w w.heap.size (some p) n l) (hn : n ≤ 1000) :
  Calls Tryz.prog 192 #[.slice (some p) n c] w fun e w' => (∃ v, e = .returned v ∧ OwnM 4 bkL 180 w' w.heap.size v l) ∧ Below w.heap.size w w' := by
 have hnil := fun w => Lib.run_eql_slice_nil (P := Tryz.prog) w 176 180 (some p) n c 0 0 Tryz.underlying176
 simp only [Option.isNone_some] at hnil
 have ho := Lib.hid (bkEmpty w)
 have hx1 := Lib.hid (hx.alloc (.cells #[] 180))
 have hb1 := Lib.hid ((Below.refl w.heap.size w).alloc (Nat.le_refl _) (.cells #[] 180))
 clear hx
 go_enter Tryz.func192, Tryz.ntmps192
 go_wp2_with (at_builtin; refine wpList_ontoBk rfl _ _ rfl w.heap.size _ [] rfl ho.out _ _ n _ l rfl hx1.out (by simp only [List.length_nil]; omega) (by simp) ?_; intro v1 w1 HO1 hb2)
 go_ret
 refine ⟨⟨_, rfl, ?_⟩, hb1.out.trans hb2.out⟩
 have h := HO1.out
 rw [List.nil_append] at h
 exact h
section
variable {NB B : Nat} {S : Nat → Prop} {w : World} {g : Mg}
set_option maxRecDepth 100000 in
set_option maxHeartbeats 4000000 in
theorem bNext_calls (h : MgM NB B S w g) (he : g.even = false) (hok : ∀ k, k < NB → Gc.Ok 8 (Gc.at_ g.l k)) (ho : g.opn = -1 ∨ (0 ≤ g.opn ∧ g.opn < NB)) (hx : (Gc.at_ g.l g.opn.toNat).nx ≤ 8) (hN : 0 < NB) :
  Calls Tryz.prog 179 #[.pointer (some ⟨g.M, 0, none⟩)] w fun e w' => e = .returned (acV (Gc.next g.l 8 (decide (8 ≤ roomOf g)))) ∧ Below w.heap.size w w' := by
 have hnb := h.nb
 have hlen := h.len
 have hb0 := (Below.refl w.heap.size w).alloc (Nat.le_refl _) (.cells #[.int .i64 0, .int .i64 0] 239)
 have hk0 := Blk.new w 239 #[.int .i64 0, .int .i64 0]
 have hg0 := h.on hb0
 have m1 := hg0.m1
 have HK0 := Lib.hid hk0
 have HB0 := Lib.hid hb0
 have HG0 := Lib.hid hg0
 have HE := Lib.hid he
 have HOk := Lib.hid hok
 have HO := Lib.hid ho
 have HX := Lib.hid hx
 clear h hb0 hk0 hg0 he hok ho hx
 go_enter Tryz.func179, Tryz.ntmps179
 go_wp2_with fail
 generalize w.alloc (.cells #[.int .i64 0, .int .i64 0] 239) = w1 at *
 refine (gclone_calls _ NB g.cap g.l w1 HG0.out.arr hnb).mono ?_
 rintro e w2 ⟨⟨v, rfl, hv⟩, hb⟩
 have HB2 := Lib.hid (HB0.out.trans (hb.mono HB0.out.size))
 have HG2 := Lib.hid (HG0.out.on hb)
 have HK2 := Lib.hid (HK0.out.belowHere hb)
 obtain ⟨a2, c2, rfl, hc2⟩ := hv.formN hlen
 have HV2 := Lib.hid (hv.arr (by omega))
 clear hb hv m1
 go_wp2_with fail
 go_loopw [4, 15] (fun _ i wr => ∃ k : Nat, k ≤ NB ∧ i = .int .i64 (k : Int) ∧ wr = w2) (fun _ i _ => NB - (intOf i).toNat)
 case atStart => exact ⟨0, by omega, rfl, rfl⟩
 case round =>
  obtain ⟨k, hk, rfl, hw⟩ := hrel
  subst hw
  by_cases hlt : k < NB
  ·have m5 := HG2.out.m5
   rw [HE.out] at m5
   have hk1 : (k : Int) < (NB : Int) := by omega
   go_wp2_with fail
   go_roundw
   case rel => exact ⟨k + 1, by omega, by go_num, trivial⟩
   case measure => simp [intOf]; omega
  ·obtain rfl : k = NB := by omega
   go_wp2_with fail
   refine (bpages_calls HG2.out).mono ?_
   rintro e w3 ⟨rfl, hb⟩
   have HB3 := Lib.hid (HB2.out.then_ hb)
   have HG3 := Lib.hid (HG2.out.on hb)
   have HK3 := Lib.hid (HK2.out.belowHere hb)
   have HV3 := Lib.hid (HV2.out.on hb)
   clear hb
   go_wp2_with fail
   refine (bRoom_calls HG3.out HO.out HX.out).mono ?_
   rintro e w4 ⟨rfl, hb⟩
   have HB4 := Lib.hid (HB3.out.then_ hb)
   have HG4 := Lib.hid (HG3.out.on hb)
   have HK4 := Lib.hid (HK3.out.belowHere hb)
   have HV4 := Lib.hid (HV3.out.on hb)
   clear hb
   generalize hrm : roomOf g = rm at *
   have HRm := Lib.hid hrm
   clear hrm
   go_wp2_with fail
   refine (bpages_calls HG4.out).mono ?_
   rintro e w5 ⟨rfl, hb⟩
   have HB5 := Lib.hid (HB4.out.then_ hb)
   have HK5 := Lib.hid (HK4.out.belowHere hb)
   have HV5 := Lib.hid (HV4.out.on hb)
   clear hb
   go_wp2_with fail
   refine (gnext_calls (decide (8 ≤ rm)) 8 a2 k c2 g.l w5 HV5.out hnb (by omega) (by omega) HOk.out).mono ?_
   rintro e w6 ⟨rfl, hb⟩
   have HB6 := Lib.hid (HB5.out.then_ hb)
   have HK6 := Lib.hid (HK5.out.belowHere hb)
   clear hb
   generalize hac : Gc.next g.l 8 (decide (8 ≤ rm)) = ac at *
   obtain ⟨kd, bn⟩ := ac
   have HAc := Lib.hid hac
   clear hac
   rw [show acV (kd, bn) = .agg #[.int .i64 kd, .int .i64 bn] from rfl]
   have k0 := HK6.out.cellv (i := 0) rfl
   have k1 := HK6.out.cellv (i := 1) rfl
   have f0 := HK6.out.frozen 0
   have f1 := HK6.out.frozen 1
   have hs := (HK6.out.set 0 (.int .i64 kd)).set 1 (.int .i64 bn)
   have q0 := hs.cellv (i := 0) (v := .int .i64 kd) rfl
   have q1 := hs.cellv (i := 1) (v := .int .i64 bn) rfl
   have HBf := Lib.hid ((HB6.out.setCell (p := ⟨w.heap.size, 0, none⟩) (Nat.le_refl _) (.int .i64 kd)).setCell (p := ⟨w.heap.size, 1, none⟩) (Nat.le_refl _) (.int .i64 bn))
   clear hs
   go_wp2_with fail
   refine bodyPost_ret (v := .agg #[.int .i64 kd, .int .i64 bn]) (by simp [results, Tryz.results179, go_sem, q0, q1]) rfl ⟨?_, HBf.out⟩
   rw [HRm.out, HAc.out]
   rfl
end
end Go.Proofs.YtcppkaphlcflgaaGreat
namespace Go.Proofs.YtcppkaphlcflgaaGreat
open Go.RowKit

section
variable {NB B : Nat} {S : Nat → Prop} {w : World} {g : Mg}
set_option maxRecDepth 100000 in
theorem bLeft_calls (h : MgM NB B S w g) (hc : Gc.count 4 g.l = 0) {r : Int} (hr : g.res = r) (hb : g.bad = 0) (h0 : 0 ≤ r) (h1 : r ≤ 1000) :
  Calls Tryz.prog 153 #[.pointer (some ⟨g.M, 0, none⟩)] w fun e w' => e = .returned (.int .i64 r) ∧ Below w.heap.size w w' := by
 have HH := Lib.hid h
 have HR := Lib.hid hr
 have HBd := Lib.hid hb
 have HC := Lib.hid (fun (W : World) (hW : Below w.heap.size w W) => count_calls 4 _ NB g.cap g.l W ((h.on hW).arr) h.nb)
 rw [hc] at HC
 have i1 := IntWalk.i64_in r ⟨by omega, by omega⟩
 clear h hr hb hc
 go_enter Tryz.func153, Tryz.ntmps153
 go_upto_region 3 with fail
 have HS0 := Lib.hid (show Below w.heap.size w w.drew from below_drew w)
 refine wp_region_noPanic ?_
 refine wp_region_held_drew (S := (fun W' => Below w.heap.size w W')) (by kernel_rfl) HS0.out (fun hS0 => ?_)
 generalize w.drew = w1 at *
 refine takeV 0 (v := (.pointer (some ⟨g.M, 0, none⟩))) rfl (by kernel_rfl) (by kernel_rfl) (by kernel_rfl) (fun _ _ _ h => h) (by rfl) (fun _ _ => rfl) (by assumption) ?_
 try simp only [layR]
 refine takeV 1 (v := (.pointer (some ⟨g.M, 0, none⟩))) rfl (by kernel_rfl) (by kernel_rfl) (by kernel_rfl) (fun _ _ _ h => h) (by rfl) (fun W hSw => ?_) (by assumption) ?_
 ·skip
  go_simp
 try simp only [layR]
 refine takeV 2 (v := (.pointer (some ⟨g.M, 3, none⟩))) rfl (by kernel_rfl) (by kernel_rfl) (by kernel_rfl) (fun _ _ _ h => h) (by rfl) (fun W hSw => ?_) (by assumption) ?_
 ·skip
  go_simp
 try simp only [layR]
 refine takeV 3 (v := (.int .i64 r)) rfl (by kernel_rfl) (by kernel_rfl) (by kernel_rfl) (fun _ _ _ h => h) (by rfl) (fun W hSw => ?_) (by assumption) ?_
 ·have y9 := (HH.out.on hSw).m3; rw [HR.out] at y9
  go_simp
 try simp only [layR]
 refine takeV 4 (v := (.pointer (some ⟨g.M, 0, none⟩))) rfl (by kernel_rfl) (by kernel_rfl) (by kernel_rfl) (fun _ _ _ h => h) (by rfl) (fun _ _ => rfl) (by assumption) ?_
 try simp only [layR]
 refine takeV 5 (v := (.pointer (some ⟨g.M, 0, none⟩))) rfl (by kernel_rfl) (by kernel_rfl) (by kernel_rfl) (fun _ _ _ h => h) (by rfl) (fun W hSw => ?_) (by assumption) ?_
 ·skip
  go_simp
 try simp only [layR]
 refine takeV 6 (v := (.pointer (some ⟨g.M, 1, none⟩))) rfl (by kernel_rfl) (by kernel_rfl) (by kernel_rfl) (fun _ _ _ h => h) (by rfl) (fun W hSw => ?_) (by assumption) ?_
 ·skip
  go_simp
 try simp only [layR]
 refine takeV 7 (v := (.slice (some ⟨g.ML, 0, none⟩) NB g.cap)) rfl (by kernel_rfl) (by kernel_rfl) (by kernel_rfl) (fun _ _ _ h => h) (by rfl) (fun W hSw => ?_) (by assumption) ?_
 ·have y9 := (HH.out.on hSw).m1
  go_simp
 try simp only [layR]
 refine takeV 9 (v := (.pointer (some ⟨g.M, 0, none⟩))) rfl (by kernel_rfl) (by kernel_rfl) (by kernel_rfl) (fun _ _ _ h => h) (by rfl) (fun _ _ => rfl) (by assumption) ?_
 try simp only [layR]
 refine takeV 10 (v := (.pointer (some ⟨g.M, 0, none⟩))) rfl (by kernel_rfl) (by kernel_rfl) (by kernel_rfl) (fun _ _ _ h => h) (by rfl) (fun W hSw => ?_) (by assumption) ?_
 ·skip
  go_simp
 try simp only [layR]
 refine takeV 11 (v := (.pointer (some ⟨g.M, 4, none⟩))) rfl (by kernel_rfl) (by kernel_rfl) (by kernel_rfl) (fun _ _ _ h => h) (by rfl) (fun W hSw => ?_) (by assumption) ?_
 ·skip
  go_simp
 try simp only [layR]
 refine takeV 12 (v := (.int .i64 0)) rfl (by kernel_rfl) (by kernel_rfl) (by kernel_rfl) (fun _ _ _ h => h) (by rfl) (fun W hSw => ?_) (by assumption) ?_
 ·have y9 := (HH.out.on hSw).m4; rw [HBd.out] at y9
  go_simp
 try simp only [layR]
 refine wpAnyH_ready (rs := [8]) (by kernel_rfl) (by simp) ?_
 refine AllReadyH.cons rfl (fun K' hK => ?_) AllReadyH.nil
 go_simp
 refine (HC.out w1 hS0).mono ?_
 rintro e w2 ⟨rfl, hb2⟩
 have hS9 := hS0.then_ hb2
 clear hb2
 refine hK.out _ _ hS9 (fun hS1 => ?_)
 try simp only [layR]
 refine takeV 13 (v := (.int .i64 0)) rfl (by kernel_rfl) (by kernel_rfl) (by kernel_rfl) (fun _ _ _ h => h) (by rfl) (fun W hSw => ?_) (by assumption) ?_
 ·have y9 : IntKind.i64.wrap 0 = 0 := by decide
  go_simp
 try simp only [layR]
 refine takeV 14 (v := (.int .i64 r)) rfl (by kernel_rfl) (by kernel_rfl) (by kernel_rfl) (fun _ _ _ h => h) (by rfl) (fun W hSw => ?_) (by assumption) ?_
 ·skip
  go_simp
 try simp only [layR]
 refine takeV 15 (v := (.int .i64 r)) rfl (by kernel_rfl) (by kernel_rfl) (by kernel_rfl) (fun _ _ _ h => h) (by rfl) (fun _ _ => rfl) (by assumption) ?_
 try simp only [layR]
 refine wpAnyH_done (by kernel_rfl) ?_ _
 refine NoPanic.normal ?_
 have HS1 := Lib.hid hS1
 clear hS0 hS1 hS9
 go_wp2_with fail
 go_ret
 exact ⟨rfl, HS1.out⟩
end
end Go.Proofs.YtcppkaphlcflgaaGreat
namespace Go.Proofs.YtcppkaphlcflgaaGreat
open Go.RowKit

section
variable {NB B : Nat} {S : Nat → Prop} {w : World} {g : Mg} {F : Nat}
def wantN (g : Mg) : Int := if roomOf g = (Gc.count 0 g.l : Int) * 8 then 4 else 3
set_option maxRecDepth 100000 in
set_option maxHeartbeats 4000000 in
theorem enough_calls (h : MgM NB B S w g) (f0 : w.cell? ⟨F, 0, none⟩ = some (.pointer (some ⟨g.C, 0, none⟩))) (f1 : w.cell? ⟨F, 1, none⟩ = some (.pointer (some ⟨g.M, 0, none⟩))) (hc : Gc.count 4 g.l = 0) (hr : g.res = 2) (hb : g.bad = 0) (ho : g.opn = -1 ∨ (0 ≤ g.opn ∧ g.opn < NB)) (hx : (Gc.at_ g.l g.opn.toNat).nx ≤ 8) :
  Calls Tryz.prog 177 #[.pointer (some ⟨F, 0, none⟩)] w fun e w' => e = .returned (.bool (decide (wantN g ≤ (Gc.count 0 g.l : Int)))) ∧ Below w.heap.size w w' := by
 have HH := Lib.hid h
 have hcl := Nat.le_trans (Gc.count_le 0 g.l) (Nat.le_of_eq h.len)
 have hnb := h.nb
 have HL := Lib.hid (bLeft_calls h hc hr hb (by omega) (by omega))
 have HF0 := Lib.hid f0
 have HF1 := Lib.hid f1
 have HRm := Lib.hid (fun (W : World) (hW : Below w.heap.size w W) => bRoom_calls (h.on hW) ho hx)
 have HFr := Lib.hid (fun (W : World) (hW : Below w.heap.size w W) => bFree_calls (h.on hW))
 have HGe := Lib.hid (fun (W : World) (hW : Below w.heap.size w W) => chGeo_calls (h.on hW).hc)
 have HWn := Lib.hid (show wantN g = if roomOf g = (Gc.count 0 g.l : Int) * 8 then 4 else 3 from rfl)
 have hg1 := geoF1 (.int .i64 (NB : Int)) (.int .i64 8) (.int .i64 64)
 clear h f0 hc hr hb ho hx
 generalize wantN g = wn at *
 generalize roomOf g = rm at *
 generalize Gc.count 0 g.l = q at *
 have i1 := IntWalk.i64_in ((q : Int) * 8) ⟨by omega, by omega⟩
 go_enter Tryz.func177, Tryz.ntmps177
 go_wp2_with fail
 refine HL.out.mono ?_
 rintro e w1 ⟨rfl, hb1⟩
 have HB1 := Lib.hid hb1
 clear hb1
 go_upto_region 2 with fail
 have HS0 := Lib.hid (show Below w.heap.size w w1.drew from HB1.out.then_ (below_drew w1))
 refine wp_region_noPanic ?_
 refine wp_region_held_drew (S := (fun W' => Below w.heap.size w W')) (by kernel_rfl) HS0.out (fun hS0 => ?_)
 generalize w1.drew = w2 at *
 refine takeV 0 (v := (.pointer (some ⟨F, 0, none⟩))) rfl (by kernel_rfl) (by kernel_rfl) (by kernel_rfl) (fun _ _ _ h => h) (by rfl) (fun _ _ => rfl) (by assumption) ?_
 try simp only [layR]
 refine takeV 1 (v := (.pointer (some ⟨F, 0, none⟩))) rfl (by kernel_rfl) (by kernel_rfl) (by kernel_rfl) (fun _ _ _ h => h) (by rfl) (fun W hSw => ?_) (by assumption) ?_
 ·skip
  go_simp
 try simp only [layR]
 refine takeV 2 (v := (.pointer (some ⟨F, 1, none⟩))) rfl (by kernel_rfl) (by kernel_rfl) (by kernel_rfl) (fun _ _ _ h => h) (by rfl) (fun W hSw => ?_) (by assumption) ?_
 ·skip
  go_simp
 try simp only [layR]
 refine takeV 3 (v := (.pointer (some ⟨g.M, 0, none⟩))) rfl (by kernel_rfl) (by kernel_rfl) (by kernel_rfl) (fun _ _ _ h => h) (by rfl) (fun W hSw => ?_) (by assumption) ?_
 ·have y9 := cell_on HF1.out hSw
  go_simp
 try simp only [layR]
 refine takeV 5 (v := (.pointer (some ⟨F, 0, none⟩))) rfl (by kernel_rfl) (by kernel_rfl) (by kernel_rfl) (fun _ _ _ h => h) (by rfl) (fun _ _ => rfl) (by assumption) ?_
 try simp only [layR]
 refine takeV 6 (v := (.pointer (some ⟨F, 0, none⟩))) rfl (by kernel_rfl) (by kernel_rfl) (by kernel_rfl) (fun _ _ _ h => h) (by rfl) (fun W hSw => ?_) (by assumption) ?_
 ·skip
  go_simp
 try simp only [layR]
 refine takeV 7 (v := (.pointer (some ⟨F, 1, none⟩))) rfl (by kernel_rfl) (by kernel_rfl) (by kernel_rfl) (fun _ _ _ h => h) (by rfl) (fun W hSw => ?_) (by assumption) ?_
 ·skip
  go_simp
 try simp only [layR]
 refine takeV 8 (v := (.pointer (some ⟨g.M, 0, none⟩))) rfl (by kernel_rfl) (by kernel_rfl) (by kernel_rfl) (fun _ _ _ h => h) (by rfl) (fun W hSw => ?_) (by assumption) ?_
 ·have y9 := cell_on HF1.out hSw
  go_simp
 try simp only [layR]
 refine takeV 10 (v := (.pointer (some ⟨F, 0, none⟩))) rfl (by kernel_rfl) (by kernel_rfl) (by kernel_rfl) (fun _ _ _ h => h) (by rfl) (fun _ _ => rfl) (by assumption) ?_
 try simp only [layR]
 refine takeV 11 (v := (.pointer (some ⟨F, 0, none⟩))) rfl (by kernel_rfl) (by kernel_rfl) (by kernel_rfl) (fun _ _ _ h => h) (by rfl) (fun W hSw => ?_) (by assumption) ?_
 ·skip
  go_simp
 try simp only [layR]
 refine takeV 12 (v := (.pointer (some ⟨F, 0, none⟩))) rfl (by kernel_rfl) (by kernel_rfl) (by kernel_rfl) (fun _ _ _ h => h) (by rfl) (fun W hSw => ?_) (by assumption) ?_
 ·skip
  go_simp
 try simp only [layR]
 refine takeV 13 (v := (.pointer (some ⟨g.C, 0, none⟩))) rfl (by kernel_rfl) (by kernel_rfl) (by kernel_rfl) (fun _ _ _ h => h) (by rfl) (fun W hSw => ?_) (by assumption) ?_
 ·have y9 := cell_on HF0.out hSw
  go_simp
 try simp only [layR]
 refine wpAnyH_ready (rs := [4]) (by kernel_rfl) (by simp) ?_
 refine AllReadyH.cons rfl (fun K' hK => ?_) AllReadyH.nil
 go_simp
 refine (HRm.out w2 hS0).mono ?_
 rintro e w3 ⟨rfl, hb3⟩
 have hS3 := hS0.then_ hb3
 clear hb3
 refine hK.out _ _ hS3 (fun hS4 => ?_)
 try simp only [layR]
 refine wpAnyH_ready (rs := [9]) (by kernel_rfl) (by simp) ?_
 refine AllReadyH.cons rfl (fun K' hK => ?_) AllReadyH.nil
 go_simp
 refine (HFr.out w3 hS4).mono ?_
 rintro e w4 ⟨rfl, hb4⟩
 have hS5 := hS4.then_ hb4
 clear hb4
 refine hK.out _ _ hS5 (fun hS6 => ?_)
 try simp only [layR]
 refine wpAnyH_ready (rs := [14]) (by kernel_rfl) (by simp) ?_
 refine AllReadyH.cons rfl (fun K' hK => ?_) AllReadyH.nil
 go_simp
 refine (HGe.out w4 hS6).mono ?_
 rintro e w5 ⟨rfl, hb5⟩
 have hS7 := hS6.then_ hb5
 clear hb5
 refine hK.out _ _ hS7 (fun hS8 => ?_)
 try simp only [layR]
 unfold geoV
 refine takeV 15 (v := (.int .i64 8)) rfl (by kernel_rfl) (by kernel_rfl) (by kernel_rfl) (fun _ _ _ h => h) (by rfl) (fun W hSw => ?_) (by assumption) ?_
 ·skip
  go_simp
 try simp only [layR]
 refine takeV 16 (v := (.int .i64 ((q : Int) * 8))) rfl (by kernel_rfl) (by kernel_rfl) (by kernel_rfl) (fun _ _ _ h => h) (by rfl) (fun W hSw => ?_) (by assumption) ?_
 ·skip
  go_simp
 try simp only [layR]
 refine takeV 17 (v := (.bool (rm == (q : Int) * 8))) rfl (by kernel_rfl) (by kernel_rfl) (by kernel_rfl) (fun _ _ _ h => h) (by rfl) (fun W hSw => ?_) (by assumption) ?_
 ·skip
  go_simp
 try simp only [layR]
 refine wpAnyH_done (by kernel_rfl) ?_ _
 refine NoPanic.normal ?_
 have HS8 := Lib.hid hS8
 have f5 := cell_on HF1.out hS8
 have HFr5 := Lib.hid (HFr.out w5 hS8)
 clear hS0 hS3 hS4 hS5 hS6 hS7 hS8 f1
 by_cases e : rm = (q : Int) * 8
 ·rw [show (rm == (q : Int) * 8) = true by rw [beq_iff_eq]; exact e]
  have HE := Lib.hid e
  clear e
  go_wp2_with fail
  refine HFr5.out.mono ?_
  rintro e w6 ⟨rfl, hb6⟩
  have HB6 := Lib.hid (HS8.out.then_ hb6)
  clear hb6
  go_wp2_with fail
  go_ret
  exact ⟨by rw [HWn.out, if_pos HE.out]; rfl, HB6.out⟩
 ·rw [show (rm == (q : Int) * 8) = false by rw [beq_eq_false_iff_ne]; exact e]
  have HE := Lib.hid e
  clear e
  go_wp2_with fail
  refine HFr5.out.mono ?_
  rintro e w6 ⟨rfl, hb6⟩
  have HB6 := Lib.hid (HS8.out.then_ hb6)
  clear hb6
  go_wp2_with fail
  go_ret
  exact ⟨by rw [HWn.out, if_neg HE.out]; rfl, HB6.out⟩
end
end Go.Proofs.YtcppkaphlcflgaaGreat
