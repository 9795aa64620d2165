import Derived.Test.YtcppkaphlcflgaaGreatFtlCopy
import Derived.Test.YtcppkaphlcflgaaGreatFtlMove
import Derived.Test.YtcppkaphlcflgaaGreatTagTake
import Derived.Test.YtcppkaphlcflgaaGreatFtlAt
namespace Go.Proofs.YtcppkaphlcflgaaGreat
open Go.RowKit Ftl

section
variable {NB B n : Nat} {R : Nat → Prop} {w : World} {f : Fm} {x : List Nat} {E : List En}
set_option maxRecDepth 100000 in
set_option maxHeartbeats 4000000 in
theorem wipe_calls (h : FtM NB B R w f) (hi : Fi NB n x f.g E) {k : Nat} (hk : k < NB) (hs : (Gc.at_ f.g.l k).st = 0 ∨ (Gc.at_ f.g.l k).st = 3) (hn : n ≤ 1099511627776) :
  Calls Tryz.prog 190 #[.pointer (some ⟨f.F, 0, none⟩), .int .i64 (k : Int)] w fun e w' => e = .returned (.int .i64 0) ∧ ∃ ps', FtR NB B R w w' { f with g := erG f.g k ps' } := by
 have HE := Lib.hid (fErase_calls h hi hk hs hn)
 have c1 := h.c1
 have g1 : (0 : Int) ≤ (k : Int) := by omega
 have g2 : (k : Int) < (NB : Int) := by omega
 clear h hi hs
 go_enter Tryz.func190, Tryz.ntmps190
 go_wp2_with fail
 refine HE.out.mono ?_
 rintro e w1 ⟨rfl, ps', h1⟩
 have H1 := Lib.hid h1
 have c10 := h1.1.c10
 simp only at c10
 obtain ⟨y0, f0⟩ := h1.1.hL.cellg (k := k) (by simpa using hk)
 rw [List.getElem_replicate] at y0
 simp only at y0 f0
 have y0 : w1.cell? ⟨f.LA, k, none⟩ = some (.bool false) := y0
 have hF := h1.1.setL k
 have HF := Lib.hid (h1.step hF.1 hF.2)
 clear h1 c1 hF
 go_wp2
 go_ret
 exact ⟨rfl, ps', HF.out⟩
end
end Go.Proofs.YtcppkaphlcflgaaGreat
namespace Go.Proofs.YtcppkaphlcflgaaGreat
open Go.RowKit

namespace Ftl
structure Actd (NB n : Nat) (f f' : Fm) (k : Nat) : Prop where
 same : Same f f'
 fi : Fi NB (n + 17) [] f'.g (f'.se ++ f'.no)
 wk : (Gc.at_ f'.g.l k).wear = (Gc.at_ f.g.l k).wear + 1
 wo : ∀ q, q ≠ k → (Gc.at_ f'.g.l q).wear = (Gc.at_ f.g.l q).wear
 res : ((Gc.at_ f.g.l k).st = 3 ∧ f'.g.opn = -1 ∧ Gc.count 0 f'.g.l = Gc.count 0 f.g.l + 1) ∨
  ((Gc.at_ f.g.l k).st = 0 ∧ f'.g.opn = -1 ∧ Gc.count 0 f'.g.l = Gc.count 0 f.g.l ∧ ∀ q, q ≠ k → Gc.at_ f'.g.l q = Gc.at_ f.g.l q) ∨
  ((Gc.at_ f.g.l k).st = 2 ∧ Gc.count 0 f'.g.l = Gc.count 0 f.g.l ∧ ((Gc.at_ f.g.l k).live < 8 → f'.g.opn ≠ -1) ∧ ((Gc.at_ f.g.l k).live = 8 → f'.g.opn = -1) ∧ ∃ a, (Gc.at_ f.g.l a).st = 0 ∧ ∀ q, q ≠ a → q ≠ k → Gc.at_ f'.g.l q = Gc.at_ f.g.l q)
theorem actd {NB n k : Nat} {f f1 : Fm} {ps' : Nat → Nat} (hi : Fi NB n [] f.g (f.se ++ f.no)) (h : Mvj NB n f f1 k (Gc.at_ f.g.l k).live (Gc.at_ f.g.l k).live []) (hk : k < NB) (hs : (Gc.at_ f.g.l k).st = 0 ∨ (Gc.at_ f.g.l k).st = 2 ∨ (Gc.at_ f.g.l k).st = 3) (hw : ∀ j, j < NB → (Gc.at_ f.g.l k).wear ≤ (Gc.at_ f.g.l j).wear + 3) : Actd NB n f { f1 with g := erG f1.g k ps' } k := by
 have hb := hi.w.bk k hk
 have hlen1 := h.fi.w.len
 have hst := h.st
 have hst1 : (Gc.at_ f1.g.l k).st = 0 ∨ (Gc.at_ f1.g.l k).st = 3 := by
  rw [hst]
  split
  ·exact .inr rfl
  ·omega
 have hwe : (f1.g.bl k).wear = (Gc.at_ f.g.l k).wear := by rw [(h.fi.w.bk k hk).we, h.wear]
 have hl : (erG f1.g k ps').l = f1.g.l.set k ⟨0, 0, (Gc.at_ f.g.l k).wear + 1, 0⟩ := by
  show f1.g.l.set k ⟨0, 0, (f1.g.bl k).wear + 1, 0⟩ = _
  rw [hwe]
 have hatk : Gc.at_ (erG f1.g k ps').l k = ⟨0, 0, (Gc.at_ f.g.l k).wear + 1, 0⟩ := by rw [hl]; exact at_set _ _ (by omega)
 have hoth : ∀ q, q ≠ k → Gc.at_ (erG f1.g k ps').l q = Gc.at_ f1.g.l q := fun q hq => by rw [hl]; exact at_set_other _ _ hq
 have hc : Gc.count 0 (erG f1.g k ps').l + (if (Gc.at_ f1.g.l k).st = 0 then 1 else 0) = Gc.count 0 f1.g.l + 1 := by
  have := Gc.count_set 0 (l := f1.g.l) (k := k) ⟨0, 0, (Gc.at_ f.g.l k).wear + 1, 0⟩ (by omega)
  rw [← hl] at this
  exact this
 have hopn : f1.g.opn ≠ (k : Int) ∨ f1.g.opn = -1 := by
  rcases h.rows with ⟨_, _, e⟩ | ⟨_, a, _, a2, _, _, _, e, _⟩
  ·exact .inr e
  ·rw [e]
   split
   ·exact .inr rfl
   ·exact .inl (by omega)
 have ho : (erG f1.g k ps').opn = f1.g.opn := by
  show (if f1.g.opn = (k : Int) then (-1 : Int) else f1.g.opn) = _
  rcases hopn with e | e
  ·rw [if_neg e]
  ·rw [if_neg (by omega)]
 have l8 := hb.l8
 refine ⟨?_, ?_, ?_, fun q hq => ?_, ?_⟩
 ·have := h.same
  exact ⟨this.F, this.SE, this.NO, this.GO, this.LA, this.M, this.ML, this.C, this.seq, this.ep, this.tv, this.tx, this.ov, this.se, this.no, this.go, this.gh⟩
 ·refine (h.fi.erase (ps' := ps') hk hst1 fun j hj => ?_).le (by omega)
  rw [h.wear, h.wear]; exact hw j hj
 ·show (Gc.at_ (erG f1.g k ps').l k).wear = _
  rw [hatk]
 ·show (Gc.at_ (erG f1.g k ps').l q).wear = _
  rw [hoth q hq]; exact h.wear q
 ·show (_ ∧ (erG f1.g k ps').opn = -1 ∧ Gc.count 0 (erG f1.g k ps').l = _) ∨ (_ ∧ (erG f1.g k ps').opn = -1 ∧ Gc.count 0 (erG f1.g k ps').l = _ ∧ ∀ q, q ≠ k → Gc.at_ (erG f1.g k ps').l q = _) ∨ (_ ∧ Gc.count 0 (erG f1.g k ps').l = _ ∧ (_ → (erG f1.g k ps').opn ≠ -1) ∧ (_ → (erG f1.g k ps').opn = -1) ∧ ∃ a, _ ∧ ∀ q, q ≠ a → q ≠ k → Gc.at_ (erG f1.g k ps').l q = _)
  rw [ho]
  rcases hs with e | e | e
  ·have hz := (hb.fr e).1
   rcases h.rows with ⟨_, r2, r3⟩ | ⟨r1, _⟩
   ·refine .inr (.inl ⟨e, r3, ?_, fun q hq => by rw [hoth q hq, r2]⟩)
    rw [r2, e, if_pos rfl] at hc
    omega
   ·omega
  ·have hz := hb.fu e
   rcases h.rows with ⟨r1, _⟩ | ⟨r1, a, r2, r3, r4, r5, r6, r7, r8⟩
   ·omega
   ·refine .inr (.inr ⟨e, ?_, fun h8 => ?_, fun h8 => ?_, a, r4, fun q q1 q2 => by rw [hoth q q2]; exact r5 q q1 q2⟩)
    ·rw [show (Gc.at_ f1.g.l k).st = 3 by rw [hst]; exact if_pos ⟨e, rfl⟩, if_neg (by omega)] at hc
     omega
    ·rw [r7, if_neg (by omega)]; omega
    ·rw [r7, if_pos h8]
  ·have hz := hb.sl e
   rcases h.rows with ⟨_, r2, r3⟩ | ⟨r1, _⟩
   ·refine .inl ⟨e, r3, ?_⟩
    rw [r2, e, if_neg (by omega)] at hc
    omega
   ·omega
end Ftl
section
open Ftl
variable {NB B n : Nat} {R : Nat → Prop} {w : World} {f : Fm}
theorem actCells : Tryz.prog.cellsOf 239 = 2 := by kernel_rfl
set_option maxRecDepth 100000 in
set_option maxHeartbeats 4000000 in
theorem act_calls (h : FtM NB B R w f) (hi : Fi NB n [] f.g (f.se ++ f.no)) (a : Int) {k : Nat} (ha : a ≠ 0) (hk : k < NB) (hs : (Gc.at_ f.g.l k).st = 0 ∨ (Gc.at_ f.g.l k).st = 2 ∨ (Gc.at_ f.g.l k).st = 3) (ho : f.g.opn = -1) (hf : 0 < Gc.count 0 f.g.l) (hw : ∀ j, j < NB → (Gc.at_ f.g.l k).wear ≤ (Gc.at_ f.g.l j).wear + 3) (hn : n + 16 ≤ 1099511627776) :
  Calls Tryz.prog 178 #[.pointer (some ⟨f.F, 0, none⟩), .agg #[.int .i64 a, .int .i64 (k : Int)]] w fun e w' => e = .returned (.int .i64 0) ∧ ∃ f', FtR NB B R w w' f' ∧ Actd NB n f f' k := by
 have HB0 := h.base
 have hb0 := (Below.refl w.heap.size w).alloc (Nat.le_refl _) (.cells #[.int .i64 a, .int .i64 (k : Int)] 239)
 have HM := Lib.hid (move_calls (h.on hb0) hi hk ho hf)
 have HK := Lib.hid (Blk.new w 239 #[.int .i64 a, .int .i64 (k : Int)])
 have HZ := Lib.hid (h.not_new (Nat.le_refl w.heap.size))
 have HB1 := Lib.hid hb0
 have HI := Lib.hid hi
 have HW := Lib.hid hw
 have HSs := Lib.hid hs
 have HN := Lib.hid hn
 have hA : (a == 0) = false := by rw [beq_eq_false_iff_ne]; exact ha
 have HL8 := Lib.hid (hi.w.bk k hk).l8
 have hcs := actCells
 clear h hi hs ho hf hw hn ha hb0
 go_enter Tryz.func178, Tryz.ntmps178
 go_wp2_with fail
 generalize w.alloc (.cells #[.int .i64 a, .int .i64 (k : Int)] 239) = w1 at *
 refine HM.out.mono ?_
 rintro e w2 ⟨rfl, f1, h1, h2⟩
 have H1 := Lib.hid h1
 have H2 := Lib.hid h2
 have HK2 := Lib.hid (h1.blk HK.out HZ.out)
 have HWp := Lib.hid (fun (n' : Nat) (hn' : n' = n + 2 * (Gc.at_ f.g.l k).live) => wipe_calls h1.1 (n := n') (hn' ▸ h2.fi) hk (by
  rw [h2.st]
  have := HSs.out
  split
  ·exact .inr rfl
  ·rcases this with e | e | e
   ·exact .inl e
   ·rename_i hne; exact absurd ⟨e, rfl⟩ hne
   ·exact .inr e) (by have := HN.out; have := HL8.out; omega))
 have hF : (Value.pointer (some ⟨f1.F, 0, none⟩)) = .pointer (some ⟨f.F, 0, none⟩) := by rw [h2.same.F]
 rw [hF] at HWp
 have k1 := Blk.cellv (i := 1) HK2.out rfl
 clear h1 h2 hF
 go_wp2_with fail
 refine (HWp.out _ rfl).mono ?_
 rintro e w3 ⟨rfl, ps', h3⟩
 have H3 := Lib.hid ((H1.out.then_ h3).from_ HB1.out HB0)
 clear h3 k1
 go_wp2
 go_ret
 exact ⟨rfl, _, H3.out, actd HI.out H2.out hk HSs.out HW.out⟩
end
end Go.Proofs.YtcppkaphlcflgaaGreat
namespace Go.Proofs.YtcppkaphlcflgaaGreat
open Go.RowKit

namespace Ftl
theorem enough_no {g : Mg} (h3 : 3 ≤ Gc.count 0 g.l) (h : enough g = false) : g.opn = -1 ∧ Gc.count 0 g.l = 3 := by
 unfold enough at h
 rw [decide_eq_true h3, Bool.true_and, Bool.or_eq_false_iff, decide_eq_false_iff_not, decide_eq_false_iff_not] at h
 omega
theorem enough_yes {g : Mg} (h3 : 3 ≤ Gc.count 0 g.l) (h : g.opn ≠ -1 ∨ 4 ≤ Gc.count 0 g.l) : enough g = true := by
 unfold enough
 rw [decide_eq_true h3, Bool.true_and, Bool.or_eq_true, decide_eq_true_eq, decide_eq_true_eq]
 exact h
theorem enough_is {g : Mg} (h : enough g = true) : 3 ≤ Gc.count 0 g.l ∧ (g.opn ≠ -1 ∨ 4 ≤ Gc.count 0 g.l) := by
 unfold enough at h
 rw [Bool.and_eq_true, Bool.or_eq_true, decide_eq_true_eq, decide_eq_true_eq, decide_eq_true_eq] at h
 exact h
structure Ens (NB n : Nat) (f f' : Fm) (i : Nat) : Prop where
 same : Same f f'
 fi : Fi NB (n + 17 * i) [] f'.g (f'.se ++ f'.no)
 en : (enough f'.g = true ∧ i ≤ NB + 1) ∨ (f'.g.opn = -1 ∧ Gc.count 0 f'.g.l = 3 ∧ i ≤ NB ∧ (Stuck f'.g.l → ∃ X L, Lvl NB f'.g.l X L i))
theorem ens0 {NB n : Nat} {f : Fm} (hi : Fi NB n [] f.g (f.se ++ f.no)) (h3 : 3 ≤ Gc.count 0 f.g.l) (hE : (f.se ++ f.no).length + 2 ≤ 8 * (NB - 3)) : Ens NB n f f 0 := by
 refine ⟨Same.refl f, hi, ?_⟩
 cases he : enough f.g with
 | true => exact .inl ⟨rfl, by omega⟩
 | false =>
  obtain ⟨h1, h2⟩ := enough_no h3 he
  refine .inr ⟨h1, h2, by omega, fun hs => ?_⟩
  have hn := hi.nb
  obtain ⟨X, hX⟩ := lvl0 hi.w.len (by omega) hs (fun i hi' => hi.shut h1 i hi') (fun i j h4 h5 => hi.w.gap i j h4 h5) (hi.wait h1 h2 hE)
  exact ⟨X, _, hX⟩
theorem Ens.bid {NB n i : Nat} {f f' : Fm} (h : Ens NB n f f' i) (he : enough f'.g = false) : ∃ (a : Int) (k : Nat), Gc.next f'.g.l 8 (decide (8 ≤ roomOf f'.g)) = (a, (k : Int)) ∧ a ≠ 0 ∧ k < NB ∧ ((Gc.at_ f'.g.l k).st = 0 ∨ (Gc.at_ f'.g.l k).st = 2 ∨ (Gc.at_ f'.g.l k).st = 3) ∧ f'.g.opn = -1 ∧ Gc.count 0 f'.g.l = 3 ∧ (∀ j, j < NB → (Gc.at_ f'.g.l k).wear ≤ (Gc.at_ f'.g.l j).wear + 3) ∧ ∀ f2, Actd NB (n + 17 * i) f' f2 k → Ens NB n f f2 (i + 1) := by
 rcases h.en with ⟨h1, _⟩ | ⟨ho, hc, hi, hL⟩
 ·rw [he] at h1; cases h1
 have hlen := h.fi.w.len
 have hnb := h.fi.nb
 have hroom : decide (8 ≤ roomOf f'.g) = true := by
  unfold roomOf
  rw [if_pos ho, hc]
  decide
 rw [hroom]
 obtain ⟨a, k, hx, hk, hr⟩ := next_is (l := f'.g.l) (by omega) (fun i hi => h.fi.shut ho i (by omega))
 rw [hlen] at hk
 have hle : ∀ j, j < NB → Gc.least f'.g.l ≤ (Gc.at_ f'.g.l j).wear := fun j hj => h.fi.w.least hj
 have hl8 := (h.fi.w.bk k hk).l8
 have go : ∀ f2, Actd NB (n + 17 * i) f' f2 k → Same f f2 ∧ Fi NB (n + 17 * (i + 1)) [] f2.g (f2.se ++ f2.no) := fun f2 ha => ⟨h.same.trans ha.same, ha.fi.le (by omega)⟩
 refine ⟨a, k, hx, ?_, hk, ?_, ho, hc, fun j hj => ?_, fun f2 ha => ?_⟩
 ·rcases hr with ⟨e, _⟩ | ⟨e, _⟩ | ⟨_, _, ⟨e, _⟩ | ⟨e, _⟩⟩ <;> omega
 ·rcases hr with ⟨_, e, _⟩ | ⟨_, e, _⟩ | ⟨_, _, ⟨_, e⟩ | ⟨_, e, _⟩⟩ <;> omega
 ·have := hle j hj
  rcases hr with ⟨_, _, e⟩ | ⟨_, _, _, e⟩ | ⟨_, e, _⟩ <;> omega
 ·obtain ⟨g1, g2⟩ := go f2 ha
  rcases hr with ⟨_, e, _⟩ | ⟨_, e, e8, _⟩ | ⟨hs, ew, hq⟩
  ·rcases ha.res with ⟨_, r2, r3⟩ | ⟨r1, _⟩ | ⟨r1, _⟩
   ·exact ⟨g1, g2, .inl ⟨enough_yes (by omega) (.inr (by omega)), by omega⟩⟩
   ·omega
   ·omega
  ·rcases ha.res with ⟨r1, _⟩ | ⟨r1, _⟩ | ⟨r1, r2, r3, _⟩
   ·omega
   ·omega
   ·exact ⟨g1, g2, .inl ⟨enough_yes (by omega) (.inl (r3 e8)), by omega⟩⟩
  ·obtain ⟨X, L, hl⟩ := hL hs
   obtain ⟨s1, s2⟩ := hl.stuck hlen (by omega) hs fun i hi => (h.fi.shut ho i hi).1
   have hXk : X ≠ k := by
    rintro rfl
    have := hl.we
    omega
   have next : f2.g.opn = -1 → Gc.count 0 f2.g.l = 3 → Gc.at_ f2.g.l X = Gc.at_ f'.g.l X → Ens NB n f f2 (i + 1) := fun q1 q2 q3 =>
    ⟨g1, g2, .inr ⟨q1, q2, by omega, fun _ => ⟨X, L, hl.step hk (by omega) (by rw [ha.wk]; omega) (fun q _ hq => ha.wo q hq) q3⟩⟩⟩
   rcases hq with ⟨_, e⟩ | ⟨_, e, e8⟩
   ·rcases ha.res with ⟨r1, _⟩ | ⟨_, r2, r3, r4⟩ | ⟨r1, _⟩
    ·omega
    ·exact next r2 (by omega) (r4 X hXk)
    ·omega
   ·rcases ha.res with ⟨r1, _⟩ | ⟨r1, _⟩ | ⟨_, r2, _, r3, a', r4, r5⟩
    ·omega
    ·omega
    ·exact next (r3 (by omega)) (by omega) (r5 X (by rintro rfl; have := hl.st; omega) hXk)
end Ftl
section
open Ftl
variable {NB B n : Nat} {R : Nat → Prop} {w : World} {f : Fm}
def Esd (NB B : Nat) (R : Nat → Prop) (n : Nat) (f : Fm) (w : World) (e : Ending) (w' : World) : Prop :=
 e = .returned (.int .i64 0) ∧ ∃ f', FtR NB B R w w' f' ∧ Same f f' ∧ Fi NB (n + 17 * (NB + 1)) [] f'.g (f'.se ++ f'.no) ∧ Ftl.enough f'.g = true
set_option maxRecDepth 100000 in
set_option maxHeartbeats 4000000 in
theorem ensure_calls (h : FtM NB B R w f) (hi : Fi NB n [] f.g (f.se ++ f.no)) (h3 : 3 ≤ Gc.count 0 f.g.l) (hE : (f.se ++ f.no).length + 2 ≤ 8 * (NB - 3)) (hn : n ≤ 1099511000000) :
  Calls Tryz.prog 155 #[.pointer (some ⟨f.F, 0, none⟩)] w (Esd NB B R n f w) := by
 have hnb := hi.nb
 obtain ⟨hnb1, hnb2⟩ := hnb
 have c0 := h.c0
 have HG := Lib.hid (fGeo_calls h)
 have HH := Lib.hid h
 have HB0 := h.base
 have HS0 := Lib.hid (ens0 hi h3 hE)
 have HN := Lib.hid hn
 have i1 := IntWalk.i64_in (8 * (NB : Int)) ⟨by omega, by omega⟩
 have i2 := IntWalk.i64_in (8 * (NB : Int) * 8) ⟨by omega, by omega⟩
 have hcs := geoCells
 clear h hi h3 hE hn
 go_enter Tryz.func155, Tryz.ntmps155
 go_wp2_with fail
 refine HG.out.mono ?_
 rintro e w1 ⟨rfl, hb⟩
 have HB1 := Lib.hid hb
 unfold geoV
 clear hb c0
 go_wp2_with fail
 have HB2 := Lib.hid (HB1.out.alloc HB1.out.size (.cells #[.int .i64 (NB : Int), .int .i64 8, .int .i64 64] 66))
 generalize w1.alloc (.cells #[.int .i64 (NB : Int), .int .i64 8, .int .i64 64] 66) = w2 at *
 go_loopw [2, 4, 16] (fun _ _ v wr => ∃ i : Nat, v = .int .i64 (i : Int) ∧ Hid (∃ f', FtR NB B R w2 wr f' ∧ Ens NB n f f' i)) (fun _ _ v _ => NB + 5 - (intOf v).toNat)
 case atStart => exact ⟨0, rfl, ⟨f, (HH.out.on HB2.out).refl, HS0.out⟩⟩
 case round =>
  obtain ⟨i, rfl, hX⟩ := hrel
  obtain ⟨f', h1, h2⟩ := hX.out
  have hib : i ≤ NB + 1 := by rcases h2.en with ⟨_, e⟩ | ⟨_, _, e, _⟩ <;> omega
  have HIb := Lib.hid hib
  have hlt : (i : Int) < 8 * (NB : Int) * 8 := by omega
  have hF : (Value.pointer (some ⟨f'.F, 0, none⟩)) = .pointer (some ⟨f.F, 0, none⟩) := by rw [h2.same.F]
  have hE := fEnough_calls h1.1 h2.fi
  rw [hF] at hE
  have HE := Lib.hid hE
  have H1 := Lib.hid h1
  have H2 := Lib.hid h2
  have hBw : B ≤ w2.heap.size := Nat.le_trans HB0 HB2.out.size
  clear hX h1 h2 hF hE hib
  cases hen : Ftl.enough f'.g with
  | true =>
   rw [hen] at HE
   have HEn := Lib.hid hen
   clear hen
   go_wp2_with fail
   refine HE.out.mono ?_
   rintro e w3 ⟨rfl, hb3⟩
   have H3 := Lib.hid ((H1.out.on hb3 hBw).from_ HB2.out HB0)
   clear hb3
   go_wp2
   go_ret
   exact ⟨rfl, f', H3.out, H2.out.same, H2.out.fi.le (by have := HIb.out; omega), HEn.out⟩
  | false =>
   obtain ⟨a, k, hx, ha, hk, hs, ho, hc, hw, hstep⟩ := H2.out.bid hen
   rw [hen] at HE
   have HSt := Lib.hid hstep
   have HX := Lib.hid hx
   have HO := Lib.hid ho
   have HC := Lib.hid hc
   have HW := Lib.hid hw
   have HSs := Lib.hid hs
   have HA := Lib.hid ha
   clear hen hstep hx ho hc hw hs ha
   go_wp2_with fail
   refine HE.out.mono ?_
   rintro e w3 ⟨rfl, hb3⟩
   have H3 := Lib.hid (H1.out.on hb3 hBw)
   have c1 := H3.out.1.c1
   rw [H2.out.same.F] at c1
   clear hb3
   go_wp2_with fail
   refine (fNext_calls H3.out.1 H2.out.fi (by have := HN.out; have := HIb.out; omega)).mono ?_
   rw [HX.out]
   rintro e w4 ⟨rfl, hb4⟩
   have H4 := Lib.hid (H3.out.on hb4 hBw)
   rw [show acV (a, (k : Int)) = .agg #[.int .i64 a, .int .i64 (k : Int)] from rfl]
   have hAc := act_calls H4.out.1 H2.out.fi a HA.out hk HSs.out HO.out (by have := HC.out; omega) HW.out (by have := HN.out; have := HIb.out; omega)
   rw [show (Value.pointer (some ⟨f'.F, 0, none⟩)) = .pointer (some ⟨f.F, 0, none⟩) by rw [H2.out.same.F]] at hAc
   have HAc := Lib.hid hAc
   clear hb4 c1 hAc
   go_wp2_with fail
   refine HAc.out.mono ?_
   rintro e w5 ⟨rfl, f2, h5, h6⟩
   have H5 := Lib.hid (H4.out.then_ h5)
   have H6 := Lib.hid (HSt.out f2 h6)
   clear h5 h6
   go_wp2_with fail
   go_roundw
   case rel => exact ⟨i + 1, by go_num, ⟨f2, H5.out, H6.out⟩⟩
   case measure => simp [intOf]; have := HIb.out; omega
end
end Go.Proofs.YtcppkaphlcflgaaGreat
namespace Go.Proofs.YtcppkaphlcflgaaGreat
open Go.RowKit

set_option maxHeartbeats 4000000 in
theorem twrite_good (t : Tg) (a : Option Addr) (n c : Nat) (pay : List UInt8) (w : World) (ht : Tg.Right t) (hf : Tg.Fits n) (hx : Bytes w w.heap.size a n pay) :
  Calls Tryz.prog 45 #[tagV t, .slice a n c] w fun e w' => (∃ v, e = .returned (.tuple #[v, .int .i64 0]) ∧ Own byteV 5 w' w.heap.size v (Tg.page t pay)) ∧ Below w.heap.size w w' := by
 have hbl := Lib.hid ((Below.refl w.heap.size w).alloc (Nat.le_refl _) (tagO t))
 have hrb := Tg.rightB_yes ht
 have HP := Lib.hid hx.len
 have hb0 : 64 ≤ n ∧ n ≤ 512 := by unfold Tg.Fits at hf; omega
 obtain ⟨hb1, hb2⟩ := hb0
 have HF := Lib.hid hf
 have HX := Lib.hid hx
 obtain ⟨k, p, s, e⟩ := t
 obtain ⟨hk, hp, hs0, hs, he0, he⟩ := id ht
 simp only at hk hp hs0 hs he0 he
 have HR := Lib.hid ht
 have HHP := Lib.hid (show p < 8192 from hp)
 have HHS := Lib.hid (show s < 18446744073709551616 by omega)
 have HHE := Lib.hid (show e < 18446744073709551616 by omega)
 have hk1 : 1 ≤ k ∧ k ≤ 2 := by omega
 obtain ⟨hk1, hk2⟩ := hk1
 clear hk ht hf hx hs0 he0 hs he
 have bk0 := Lib.hid (Blk.new w 103 #[.int .i64 k, .int .u32 (p : Int), .int .u64 (s : Int), .int .u64 (e : Int)])
 have hmk := makeC (n + 32) (by omega)
 rw [show ((n + 32 : Nat) : Int) = (n : Int) + 32 by omega] at hmk
 go_enter Tryz.func45, Tryz.ntmps45
 go_wp2_with fail
 refine (tagRight_calls ⟨k, p, s, e⟩ (show p < 4294967296 by omega) HHS.out HHE.out _).mono ?_
 rw [hrb]
 rintro e1 w1 ⟨rfl, hb⟩
 have bk1 := Lib.hid (bk0.out.belowHere hb)
 have HB1 := Lib.hid (Below.then_ hbl.out hb)
 have hlt := bk1.out.lt
 clear hb bk0 hbl hrb
 go_wp2_with fail
 refine (fits_yes n HF.out _).mono ?_
 rintro e2 w2 ⟨rfl, rfl⟩
 have ho2 := Lib.hid (ownMadeC w1 w1.heap.size (n + 32) (Nat.le_refl _) (by omega))
 have hb2 := HB1.out.alloc HB1.out.size (.cells (Array.replicate (n + 32) (.int .u8 0)) 5)
 have HB2 := Lib.hid hb2
 have bk2 := Lib.hid (bk1.out.alloc (.cells (Array.replicate (n + 32) (.int .u8 0)) 5))
 have hx2 := Lib.hid (HX.out.below hb2)
 clear hb2
 have hlit := Lib.hid (show #[Value.int .u8 67, Value.int .u8 85, Value.int .u8 k, Value.int .u8 0] = ([67, 85, UInt8.ofNat k.toNat, 0].map byteV).toArray by
  simp only [List.map_cons, List.map_nil, byteV, UInt8.toNat_ofNat']
  rw [show ((k.toNat % 2 ^ 8 : Nat) : Int) = k by omega]
  rfl)
 go_wp2_with (first
  | (at_builtin; refine wpList_ontoB rfl _ _ rfl w1.heap.size _ [] rfl ho2.out _ _ _ _ pay rfl hx2.out (by simp; omega) (by simp) ?_; intro v3 w3 HO3 hb3; have bk3 := Lib.hid (bk2.out.below hb3.out hlt); have hs3 : w1.heap.size < w3.heap.size := (by have := hb3.out.size; simp at this; omega); have q0 := bk3.out.cellv (i := 0) rfl)
  | (at_builtin; refine wpList_litB rfl _ _ rfl w1.heap.size _ ([] ++ pay) rfl HO3.out 4 [67, 85, UInt8.ofNat k.toNat, 0] rfl rfl hlit.out (by rw [List.nil_append, HP.out]; omega) (by omega) ?_; intro v4 w4 HO4 hb4; have bk4 := Lib.hid (bk3.out.below hb4.out hlt); have hs4 := hb4.out.size; have q1 := bk4.out.cellv (i := 1) rfl))
 clear q0 q1 hmk
 have hb4 := Lib.hid (hb3.out.trans hb4.out)
 generalize hL4 : [] ++ pay ++ [67, 85, UInt8.ofNat k.toNat, 0] = L4 at HO4
 have l4 : L4.length = n + 4 := by rw [← hL4]; simp [HP.out]
 have HL4 := Lib.hid hL4
 clear hL4
 refine (tput_calls _ L4 p 4 w1.heap.size _ (by omega) (by omega) (by omega) HO4.out (by omega)).mono ?_
 rintro _ w5 ⟨⟨v5, rfl, ho⟩, hb⟩
 have hs5 := hb.size
 have bk5 := Lib.hid (bk4.out.below hb hlt)
 have hb5 := Lib.hid (hb4.out.trans hb)
 generalize hL5 : L4 ++ bigL p 4 = L5 at ho
 have l5 : L5.length = n + 8 := by rw [← hL5]; simp [bigL_len]; omega
 have HO5 := Lib.hid ho
 have HL5 := Lib.hid hL5
 clear ho hb hL5 bk4 hb4 HO4
 have q2 := bk5.out.cellv (i := 2) rfl
 go_wp2_with fail
 clear q2
 refine (tput_calls _ L5 s 8 w1.heap.size _ HHS.out (by omega) (by omega) HO5.out (by omega)).mono ?_
 rintro _ w6 ⟨⟨v6, rfl, ho⟩, hb⟩
 have hs6 := hb.size
 have bk6 := Lib.hid (bk5.out.below hb hlt)
 have hb6 := Lib.hid (hb5.out.trans hb)
 generalize hL6 : L5 ++ bigL s 8 = L6 at ho
 have l6 : L6.length = n + 16 := by rw [← hL6]; simp [bigL_len]; omega
 have HO6 := Lib.hid ho
 have HL6 := Lib.hid hL6
 clear ho hb hL6 bk5 hb5 HO5
 have q3 := bk6.out.cellv (i := 3) rfl
 go_wp2_with fail
 clear q3
 refine (tput_calls _ L6 e 8 w1.heap.size _ HHE.out (by omega) (by omega) HO6.out (by omega)).mono ?_
 rintro _ w7 ⟨⟨v7, rfl, ho⟩, hb⟩
 have hs7 := hb.size
 have bk7 := Lib.hid (bk6.out.below hb hlt)
 have hb7 := Lib.hid (hb6.out.trans hb)
 generalize hL7 : L6 ++ bigL e 8 = L7 at ho
 have l7 : L7.length = n + 24 := by rw [← hL7]; simp [bigL_len]; omega
 have HO7 := Lib.hid ho
 have HL7 := Lib.hid hL7
 clear ho hb hL7 bk6 hb6 HO6
 have hL7 : L7 = pay ++ Tg.head ⟨k, p, s, e⟩ := by rw [← HL7.out, ← HL6.out, ← HL5.out, ← HL4.out]; simp [Tg.head]
 have HL := Lib.hid hL7
 clear hL7
 obtain ⟨a7, c7, rfl, _⟩ := HO7.out.formN l7
 have hb7' := Lib.hid (HO7.out.arr (by omega))
 go_wp2_with fail
 refine (sum_calls _ _ _ L7 _ hb7'.out).mono ?_
 rintro _ w8 ⟨rfl, rfl⟩
 have hsum := (Crc.sum L7).isLt
 have HSM := Lib.hid (show (Crc.sum L7).toNat = Tg.sumOf ⟨k, p, s, e⟩ pay by rw [HL.out]; rfl)
 generalize (Crc.sum L7).toNat = S at *
 go_wp2_with fail
 refine (tput_calls _ L7 S 4 w1.heap.size _ (by omega) (by omega) (by omega) HO7.out (by omega)).mono ?_
 rintro _ w9 ⟨⟨v9, rfl, ho⟩, hb⟩
 have hs9 := hb.size
 have bk9 := Lib.hid (bk7.out.below hb hlt)
 have hb9 := Lib.hid (hb7.out.trans hb)
 generalize hL9 : L7 ++ bigL S 4 = L9 at ho
 have l9 : L9.length = n + 28 := by rw [← hL9]; simp [bigL_len]; omega
 have HO9 := Lib.hid ho
 have HL9 := Lib.hid hL9
 clear ho hb hL9 bk7 hb7 HO7
 go_wp2_with fail
 refine (tput_calls _ L9 0 4 w1.heap.size _ (by omega) (by omega) (by omega) HO9.out (by omega)).mono ?_
 rintro _ w10 ⟨⟨v10, rfl, ho⟩, hb⟩
 have hs10 := hb.size
 have bk10 := Lib.hid (bk9.out.below hb hlt)
 have hb10 := Lib.hid (hb9.out.trans hb)
 generalize hL10 : L9 ++ bigL 0 4 = L10 at ho
 have l10 : L10.length = n + 32 := by rw [← hL10]; simp [bigL_len]; omega
 have HO10 := Lib.hid ho
 have HL10 := Lib.hid hL10
 clear ho hb hL10 bk9 hb9 HO9
 have hfin : L10 = Tg.page ⟨k, p, s, e⟩ pay := by rw [← HL10.out, ← HL9.out, HL.out, HSM.out, Tg.page_eq]; rfl
 have HB := Lib.hid (HB2.out.trans (hb10.out.mono (Nat.le_of_lt hlt)))
 have HO := Lib.hid (hfin ▸ HO10.out.mono (Nat.le_of_lt hlt))
 clear hfin
 go_wp2
 go_ret2
 exact ⟨⟨_, rfl, HO.out⟩, HB.out⟩
end Go.Proofs.YtcppkaphlcflgaaGreat
namespace Go.Proofs.YtcppkaphlcflgaaGreat
open Go.RowKit Ftl

section
variable {NB B n : Nat} {R : Nat → Prop} {w : World} {f : Fm} {x : List Nat} {E : List En}
set_option maxRecDepth 100000 in
set_option maxHeartbeats 4000000 in
theorem clean_calls (h : FtM NB B R w f) (hn : NB ≤ 1000) :
  Calls Tryz.prog 154 #[.pointer (some ⟨f.F, 0, none⟩)] w fun e w' => e = .returned (.int .i64 0) ∧ Below w.heap.size w w' := by
 have hb0 := (Below.refl w.heap.size w).alloc (Nat.le_refl _) (.cells #[.bool false, .bool true] 4)
 have HH := Lib.hid (h.on hb0)
 have HK := Lib.hid (Blk.new w 4 #[.bool false, .bool true])
 have HB0 := Lib.hid hb0
 clear h hb0
 go_enter Tryz.func154, Tryz.ntmps154
 go_wp2_with fail
 generalize w.alloc (.cells #[.bool false, .bool true] 4) = w1 at *
 obtain ⟨Q, hQ⟩ : ∃ Q, Q = w.heap.size := ⟨_, rfl⟩
 rw [← hQ] at HK ⊢
 have HQ := Lib.hid hQ
 clear hQ
 go_loopw [4, 5, 6, 9] (fun _ _ _ v wr => ∃ i : Nat, i ≤ 2 ∧ v = .int .i64 (i : Int) ∧ wr = w1) (fun _ _ _ v _ => 2 - (intOf v).toNat)
 case atStart => exact ⟨0, by omega, rfl, rfl⟩
 case round =>
  obtain ⟨i, hi, rfl, hw⟩ := hrel
  subst hw
  by_cases hlt : i < 2
  ·have hc : ∃ bv : Bool, wr.cell? ⟨Q, i, none⟩ = some (.bool bv) := by
    rcases (show i = 0 ∨ i = 1 by omega) with rfl | rfl
    ·exact ⟨false, Blk.cellv HK.out rfl⟩
    ·exact ⟨true, Blk.cellv HK.out rfl⟩
   obtain ⟨bv, hc⟩ := hc
   have g1 : (0 : Int) ≤ (i : Int) := by omega
   have g2 : (i : Int) < 2 := by omega
   have c10 := HH.out.c10
   go_wp2_with fail
   go_loopw [5, 6, 18] (fun _ _ v wq => ∃ j : Nat, j ≤ NB ∧ v = .int .i64 (j : Int) ∧ wq = wr) (fun _ _ v _ => NB - (intOf v).toNat)
   case atStart => exact ⟨0, by omega, rfl, rfl⟩
   case round =>
    obtain ⟨j, hj, rfl, hw⟩ := hrel
    subst hw
    by_cases hlj : j < NB
    ·have y0 : wr.cell? ⟨f.LA, j, none⟩ = some (.bool false) := by
      have y9 := (HH.out.hL.cellg (k := j) (by simpa using hlj)).1
      rw [List.getElem_replicate] at y9
      exact y9
     have g3 : (0 : Int) ≤ (j : Int) := by omega
     have g4 : (j : Int) < (NB : Int) := by omega
     go_wp2_with fail
     go_roundw
     case rel => exact ⟨j + 1, by omega, by go_num, trivial⟩
     case measure => simp [intOf]; omega
    ·obtain rfl : j = NB := by omega
     go_wp2_with fail
     go_roundw
     case rel => exact ⟨i + 1, by omega, by go_num, trivial⟩
     case measure => simp [intOf]; omega
  ·obtain rfl : i = 2 := by omega
   go_wp2
   go_ret
   exact ⟨rfl, HB0.out⟩
def Pgm (NB B : Nat) (R : Nat → Prop) (n : Nat) (x : List Nat) (E : List En) (f : Fm) (bs : List UInt8) (w : World) (e : Ending) (w' : World) : Prop :=
 ∃ (k i : Nat) (g' : Mg), e = .returned (.tuple #[.agg #[.int .i64 (k : Int), .int .i64 (i : Int)], .int .i64 0]) ∧ FtR NB B R w w' { f with g := g' } ∧ Pgd NB f.g g' k i bs ∧ Fi NB (n + 1) (k :: x) g' E
set_option maxRecDepth 100000 in
set_option maxHeartbeats 4000000 in
theorem program_calls (h : FtM NB B R w f) (hi : Fi NB n x f.g E) (hr : f.g.opn ≠ -1 ∨ 0 < Gc.count 0 f.g.l) (a : Option Addr) (c : Nat) (bs : List UInt8) (hgh : f.g.gh bs) (hbs : Own byteV 5 w 0 (.slice a 96 c) bs) (hap : ∀ q, Value.ownBlock (.slice a 96 c) = some q → ¬ R q) :
  Calls Tryz.prog 156 #[.pointer (some ⟨f.F, 0, none⟩), .slice a 96 c] w (Pgm NB B R n x E f bs w) := by
 have HB0 := h.base
 have hb0 := (Below.refl w.heap.size w).alloc (Nat.le_refl _) (.cells #[.int .i64 0, .int .i64 0] 184)
 have h1 := h.on hb0
 have HK := Lib.hid (Blk.new w 184 #[.int .i64 0, .int .i64 0])
 have HZ := Lib.hid (h.not_new (Nat.le_refl w.heap.size))
 have HBl := Lib.hid hb0
 have HP := Lib.hid (fProg_calls h1 hi hr a c bs hgh (hbs.on hb0) hap)
 have c1 := h1.c1
 clear h h1 hi hr hgh hbs hap hb0
 have hcs := placeCells
 go_enter Tryz.func156, Tryz.ntmps156
 go_wp2_with fail
 refine wp_loop_rounds 1 ?_
 rw [rounds_succ]
 generalize w.alloc (.cells #[.int .i64 0, .int .i64 0] 184) = w1 at *
 obtain ⟨Z, hZ⟩ : ∃ Z, Z = w.heap.size := ⟨_, rfl⟩
 rw [← hZ] at HK HZ ⊢
 have HZe := Lib.hid hZ
 clear hZ
 go_wp2_with fail
 refine HP.out.mono ?_
 rintro e w2 ⟨k, i, g', rfl, h2, hpg, hfi⟩
 have HK2 := Lib.hid (h2.blk HK.out HZ.out)
 have H2 := Lib.hid h2
 have HPg := Lib.hid hpg
 have HFi := Lib.hid hfi
 clear h2 hpg hfi c1
 obtain ⟨k0, k1, f0, f1, q0, q1⟩ := plZ HK2.out k i
 have HF := Lib.hid (H2.out.tail HBl.out HB0 (((Kq.refl (fun q => q = Z) w2).setCell (p := ⟨Z, 0, none⟩) (.inl rfl) (.int .i64 (k : Int))).setCell (p := ⟨Z, 1, none⟩) (.inl rfl) (.int .i64 (i : Int))) fun q hq => by subst hq; exact ⟨by rw [HZe.out]; exact Nat.le_refl _, Blk.lt HK.out, HZ.out⟩)
 go_wp2_with fail
 refine bodyPost_ret (v := .tuple #[.agg #[.int .i64 (k : Int), .int .i64 (i : Int)], .int .i64 0]) (by simp [results, Tryz.results156, go_sem, q0, q1]) rfl ⟨k, i, g', rfl, HF.out, HPg.out, HFi.out⟩
end
end Go.Proofs.YtcppkaphlcflgaaGreat
namespace Go.Proofs.YtcppkaphlcflgaaGreat
open Go.RowKit Ftl

theorem tagCs : Tryz.prog.cellsOf 103 = 4 := by kernel_rfl
section
variable {NB B n : Nat} {R : Nat → Prop} {w : World} {f : Fm}
def Ptd (NB B : Nat) (R : Nat → Prop) (n : Nat) (f : Fm) (t : Tg) (pay : List UInt8) (w : World) (e : Ending) (w' : World) : Prop :=
 ∃ (k i : Nat) (f1 : Fm) (g' : Mg), e = .returned (.tuple #[.agg #[.int .i64 (k : Int), .int .i64 (i : Int)], .int .i64 0]) ∧ FtR NB B R w w' { f1 with g := g', seq := f.seq + 1 } ∧ Same f f1 ∧ Pgd NB f1.g g' k i (Tg.page t pay) ∧ Fi NB (n + 17 * (NB + 1) + 1) [k] g' (f1.se ++ f1.no) ∧ 3 ≤ Gc.count 0 g'.l
theorem Ftl.Pgd.fr {g g' : Mg} {k i : Nat} {bs : List UInt8} (h : Pgd NB g g' k i bs) (he : Ftl.enough g = true) : 3 ≤ Gc.count 0 g'.l := by
 obtain ⟨h1, h2⟩ := enough_is he
 rcases h.was with ⟨a1, _, _, a4⟩ | ⟨a1, _, _, a4⟩
 ·rcases h2 with h2 | h2
  ·exact absurd a1 h2
  ·omega
 ·omega
set_option maxRecDepth 100000 in
set_option maxHeartbeats 8000000 in
theorem fput_calls (h : FtM NB B R w f) (hi : Fi NB n [] f.g (f.se ++ f.no)) (h3 : 3 ≤ Gc.count 0 f.g.l) (hE : (f.se ++ f.no).length + 2 ≤ 8 * (NB - 3)) (hn : n ≤ 1099511000000)
  (kd p : Nat) (hk : kd = 1 ∨ kd = 2) (hp : p < 8192) (hs : 1 ≤ f.seq ∧ f.seq ≤ 1000000000) (he : 1 ≤ f.ep ∧ f.ep ≤ 1000000000) (a : Option Addr) (c : Nat) (pay : List UInt8) (hgh : f.g.gh (Tg.page ⟨(kd : Int), p, f.seq, f.ep⟩ pay)) (hx : Bytes w w.heap.size a 64 pay) (hap : ∀ b o, a = some ⟨b, o, none⟩ → ¬ R b) :
  Calls Tryz.prog 115 #[.pointer (some ⟨f.F, 0, none⟩), .agg #[.int .i64 (kd : Int), .int .u32 (p : Int), .int .u64 0, .int .u64 0], .slice a 64 c] w (Ptd NB B R n f ⟨(kd : Int), p, f.seq, f.ep⟩ pay w) := by
 have HB0 := h.base
 obtain ⟨t, ht⟩ : ∃ t : Tg, t = ⟨(kd : Int), p, f.seq, f.ep⟩ := ⟨_, rfl⟩
 have hright : Tg.Right t := by
  rw [ht]
  exact ⟨by rcases hk with rfl | rfl <;> simp, hp, hs.1, by show f.seq < _; omega, he.1, by show f.ep < _; omega⟩
 have HT := Lib.hid ht
 have HRt := Lib.hid hright
 obtain ⟨w1, hw1⟩ : ∃ w1, w1 = (w.alloc (.cells #[.int .i64 (kd : Int), .int .u32 (p : Int), .int .u64 0, .int .u64 0] 103)).alloc (.cells #[.int .i64 0, .int .i64 0] 184) := ⟨_, rfl⟩
 have hb1 : Below w.heap.size w w1 := by rw [hw1]; exact ((Below.refl _ w).alloc (Nat.le_refl _) _).alloc (by simp) _
 have hq1 : Blk w1 w.heap.size 103 #[.int .i64 (kd : Int), .int .u32 (p : Int), .int .u64 0, .int .u64 0] := by rw [hw1]; exact (Blk.new w _ _).alloc _
 have hz1 : Blk w1 (w.heap.size + 1) 184 #[.int .i64 0, .int .i64 0] := by
  have := Blk.new (w.alloc (.cells #[.int .i64 (kd : Int), .int .u32 (p : Int), .int .u64 0, .int .u64 0] 103)) 184 #[.int .i64 0, .int .i64 0]
  rw [World.size_alloc] at this
  rw [hw1]; exact this
 have HW1 := Lib.hid hw1
 have HB1 := Lib.hid hb1
 have HQ1 := Lib.hid hq1
 have HZ1 := Lib.hid hz1
 have HQn := Lib.hid (h.not_new (Nat.le_refl w.heap.size))
 have HZn := Lib.hid (show ¬ R (w.heap.size + 1) from h.not_new (Nat.le_succ w.heap.size))
 have H1 := Lib.hid (h.on hb1)
 have HX1 := Lib.hid (hx.on hb1)
 have HAp := Lib.hid hap
 have HAb := Lib.hid (show ∀ b o, a = some ⟨b, o, none⟩ → b < w.heap.size from fun b o e => by obtain ⟨b', o', e', hlt, _⟩ := hx.2.2 (by omega); rw [e] at e'; injection e' with e'; injection e' with e'; omega)
 have HI := Lib.hid hi
 have H3 := Lib.hid h3
 have HE := Lib.hid hE
 have HN := Lib.hid hn
 have HSq := Lib.hid hs
 have HEp := Lib.hid he
 have HGh := Lib.hid (show f.g.gh (Tg.page t pay) by rw [ht]; exact hgh)
 have hnb := hi.nb
 clear hgh h hi h3 hE hn hk hs he hx hap ht hright hb1 hq1 hz1
 go_enter Tryz.func115, Tryz.ntmps115
 go_upto_region 1 with fail
 rw [← hw1]
 clear hw1
 go_wp2_with fail
 refine (clean_calls H1.out hnb.2).mono ?_
 rintro e w2 ⟨rfl, hb2⟩
 have H2 := Lib.hid (H1.out.on hb2)
 have HQ2 := Lib.hid (HQ1.out.belowHere hb2)
 have HZ2 := Lib.hid (HZ1.out.belowHere hb2)
 have HX2 := Lib.hid (HX1.out.on hb2)
 have HB2 := Lib.hid (HB1.out.then_ hb2)
 clear hb2
 go_wp2_with fail
 refine (ensure_calls H2.out HI.out H3.out HE.out HN.out).mono ?_
 rintro e w3 ⟨rfl, f1, h3, hsame, hfi, hen⟩
 have H4 := Lib.hid h3
 have HS := Lib.hid hsame
 have HFi := Lib.hid hfi
 have HEn := Lib.hid hen
 have HQ3 := Lib.hid (h3.blk HQ2.out HQn.out)
 have HZ3 := Lib.hid (h3.blk HZ2.out HZn.out)
 have HX3 := Lib.hid ((HX2.out.kq (Nat.le_refl _) h3.2 HAp.out).mono h3.2.size)
 have c8 := h3.1.c8
 have c9 := h3.1.c9
 rw [hsame.F, hsame.seq] at c8
 rw [hsame.F, hsame.ep] at c9
 clear h3 hsame hfi hen
 go_upto_region 7 with fail
 have hd := HQ3.out.drew
 have y2 := Blk.cellv (i := 2) hd rfl
 have y3 := Blk.cellv (i := 3) hd rfl
 have u2 := Blk.frozen hd 2
 have u3 := Blk.frozen hd 3
 have hs1 := hd.set 2 (.int .u64 (f.seq : Int))
 have v3 := hs1.cellv (i := 3) (v := .int .u64 0) rfl
 have x3 := hs1.frozen 3
 have HQ4 := Lib.hid (hs1.set 3 (.int .u64 (f.ep : Int)))
 have hFQ : f.F ≠ w.heap.size := by
  have h1 := H2.out.inF
  exact fun e => HQn.out (e ▸ h1)
 have HFQ := Lib.hid hFQ
 clear hd hs1 hFQ
 obtain ⟨W, hW⟩ : ∃ W, W = w3.drew := ⟨_, rfl⟩
 have hc : W.cell? ⟨f.F, 8, none⟩ = some (.int .u64 (f.seq : Int)) ∧ W.cell? ⟨f.F, 9, none⟩ = some (.int .u64 (f.ep : Int)) := by rw [hW]; exact ⟨c8, c9⟩
 rw [← hW] at y2 y3 u2 u3 v3 x3 HQ4
 have HWe := Lib.hid hW
 clear c8 c9
 have far : ∀ (U : World) (i : Nat) (u : Value), (U.cell? ⟨f.F, 8, none⟩ = some (.int .u64 (f.seq : Int)) ∧ U.cell? ⟨f.F, 9, none⟩ = some (.int .u64 (f.ep : Int))) → (U.setCell ⟨w.heap.size, i, none⟩ u).cell? ⟨f.F, 8, none⟩ = some (.int .u64 (f.seq : Int)) ∧ (U.setCell ⟨w.heap.size, i, none⟩ u).cell? ⟨f.F, 9, none⟩ = some (.int .u64 (f.ep : Int)) := fun U i u hU =>
  ⟨(World.cell?_setCell_far U ⟨w.heap.size, i, none⟩ ⟨f.F, 8, none⟩ u (Ne.symm HFQ.out)).trans hU.1, (World.cell?_setCell_far U ⟨w.heap.size, i, none⟩ ⟨f.F, 9, none⟩ u (Ne.symm HFQ.out)).trans hU.2⟩
 have FAR := Lib.hid far
 clear far
 refine wp_region_noPanic ?_
 refine wp_region_held_drew (S := (fun W' => W'.cell? ⟨f.F, 8, none⟩ = some (.int .u64 (f.seq : Int)) ∧ W'.cell? ⟨f.F, 9, none⟩ = some (.int .u64 (f.ep : Int)))) (by kernel_rfl) (by rw [← HWe.out]; exact hc) (fun hS0 => ?_)
 rw [← hW] at hS0 ⊢
 clear hW hc
 refine takeV 0 (v := (.pointer (some ⟨f.F, 0, none⟩))) rfl (by kernel_rfl) (by kernel_rfl) (by kernel_rfl) (fun _ _ _ h => h) (by rfl) (fun _ _ => rfl) (by assumption) ?_
 try simp only [layR]
 refine takeV 1 (v := (.pointer (some ⟨f.F, 0, none⟩))) rfl (by kernel_rfl) (by kernel_rfl) (by kernel_rfl) (fun _ _ _ h => h) (by rfl) (fun _ _ => rfl) (by assumption) ?_
 try simp only [layR]
 refine takeV 2 (v := (.pointer (some ⟨f.F, 8, none⟩))) rfl (by kernel_rfl) (by kernel_rfl) (by kernel_rfl) (fun _ _ _ h => h) (by rfl) (fun W hSw => ?_) (by assumption) ?_
 ·skip
  go_simp
 try simp only [layR]
 refine takeV 3 (v := (.int .u64 (f.seq : Int))) rfl (by kernel_rfl) (by kernel_rfl) (by kernel_rfl) (fun _ _ _ h => h) (by rfl) (fun W hSw => ?_) (by assumption) ?_
 ·obtain ⟨y8, y9⟩ := hSw
  go_simp
 try simp only [layR]
 refine takeV 4 (v := (.pointer (some ⟨f.F, 0, none⟩))) rfl (by kernel_rfl) (by kernel_rfl) (by kernel_rfl) (fun _ _ _ h => h) (by rfl) (fun _ _ => rfl) (by assumption) ?_
 try simp only [layR]
 refine takeV 5 (v := (.pointer (some ⟨f.F, 0, none⟩))) rfl (by kernel_rfl) (by kernel_rfl) (by kernel_rfl) (fun _ _ _ h => h) (by rfl) (fun _ _ => rfl) (by assumption) ?_
 try simp only [layR]
 refine takeV 6 (v := (.pointer (some ⟨f.F, 9, none⟩))) rfl (by kernel_rfl) (by kernel_rfl) (by kernel_rfl) (fun _ _ _ h => h) (by rfl) (fun W hSw => ?_) (by assumption) ?_
 ·skip
  go_simp
 try simp only [layR]
 refine takeV 7 (v := (.int .u64 (f.ep : Int))) rfl (by kernel_rfl) (by kernel_rfl) (by kernel_rfl) (fun _ _ _ h => h) (by rfl) (fun W hSw => ?_) (by assumption) ?_
 ·obtain ⟨y8, y9⟩ := hSw
  go_simp
 try simp only [layR]
 refine takeV 8 (v := (.pointer (some ⟨w.heap.size, 2, none⟩))) rfl (by kernel_rfl) (by kernel_rfl) (by kernel_rfl) (fun _ _ _ h => h) (by rfl) (fun W hSw => ?_) (by assumption) ?_
 ·skip
  go_simp
 try simp only [layR]
 refine wpAnyH_ready (rs := [9]) (by kernel_rfl) (by simp) ?_
 refine AllReadyH.cons rfl (fun K' hK => ?_) AllReadyH.nil
 go_simp
 have hS1 := FAR.out W 2 (.int .u64 (f.seq : Int)) hS0
 refine hK.out _ _ hS1 (fun hS2 => ?_)
 try simp only [layR]
 refine takeV 10 (v := (.pointer (some ⟨w.heap.size, 3, none⟩))) rfl (by kernel_rfl) (by kernel_rfl) (by kernel_rfl) (fun _ _ _ h => h) (by rfl) (fun W hSw => ?_) (by assumption) ?_
 ·skip
  go_simp
 try simp only [layR]
 refine wpAnyH_ready (rs := [11]) (by kernel_rfl) (by simp) ?_
 refine AllReadyH.cons rfl (fun K' hK => ?_) AllReadyH.nil
 go_simp
 have hS3 := FAR.out _ 3 (.int .u64 (f.ep : Int)) hS1
 refine hK.out _ _ hS3 (fun hS4 => ?_)
 refine wpAnyH_done (by kernel_rfl) ?_ _
 refine NoPanic.normal ?_
 clear hS0 hS1 hS2 hS3 hS4 y2 y3 u2 u3 v3 x3
 obtain ⟨Z, hZ⟩ : ∃ Z, Z = w.heap.size + 1 := ⟨_, rfl⟩
 rw [← hZ] at HZ2 HZ3 HZn ⊢
 have HZe := Lib.hid hZ
 clear hZ
 obtain ⟨Q, hQ⟩ : ∃ Q, Q = w.heap.size := ⟨_, rfl⟩
 have HQe := Lib.hid hQ
 have HK5 := Lib.hid (((Kq.of (T := fun q => q = Q) (below_drew w3)).setCell (p := ⟨w.heap.size, 2, none⟩) (.inl hQ.symm) (.int .u64 (f.seq : Int))).setCell (p := ⟨w.heap.size, 3, none⟩) (.inl hQ.symm) (.int .u64 (f.ep : Int)))
 rw [← HWe.out] at HK5
 generalize (W.setCell ⟨w.heap.size, 2, none⟩ (.int .u64 (f.seq : Int))).setCell ⟨w.heap.size, 3, none⟩ (.int .u64 (f.ep : Int)) = W5 at *
 rw [← hQ] at HQ4 HQn HQ1 ⊢
 clear hQ
 obtain ⟨R1, hR1⟩ : ∃ R1, R1 = Up R w2 w3 := ⟨_, rfl⟩
 have HR1 := Lib.hid hR1
 have hQn1 : ¬ R1 Q := by rw [hR1]; exact H4.out.far HQn.out (by rw [HQe.out]; exact HQ2.out.lt)
 have hZn1 : ¬ R1 (Z) := by rw [hR1]; exact H4.out.far HZn.out HZ2.out.lt
 have hm5 : FtM NB B R1 W5 f1 := by rw [hR1]; exact H4.out.1.kq HK5.out fun q hq e => by rw [hR1] at hQn1; exact hQn1 (e ▸ hq)
 have HM5 := Lib.hid hm5
 have HQn1 := Lib.hid hQn1
 have HZn1 := Lib.hid hZn1
 have HX5 := Lib.hid ((HX3.out.kq (Nat.le_refl _) HK5.out fun b o e h1 => by have := HAb.out b o e; have := HQe.out; omega).mono HK5.out.size)
 have HZ5 := Lib.hid (HZ3.out.kq HK5.out fun e => by have := HQe.out; have := HZe.out; omega)
 have z0 := Blk.cellv (i := 0) HQ4.out rfl
 have z1 := Blk.cellv (i := 1) HQ4.out rfl
 have z2 := Blk.cellv (i := 2) HQ4.out rfl
 have z3 := Blk.cellv (i := 3) HQ4.out rfl
 have hcs := tagCs
 clear hR1 hm5 hQn1 hZn1
 have HWr := Lib.hid (twrite_good t a 64 c pay W5 HRt.out (.inl rfl) HX5.out)
 rw [show tagV t = .agg #[.int .i64 (kd : Int), .int .u32 (p : Int), .int .u64 (f.seq : Int), .int .u64 (f.ep : Int)] by rw [HT.out]] at HWr
 go_wp2_with fail
 refine HWr.out.mono ?_
 rintro e W6 ⟨⟨v6, rfl, ho6⟩, hb6⟩
 have hplen : (Tg.page t pay).length = 96 := by rw [Tg.page_len, HX5.out.len]
 obtain ⟨a6, c6, rfl, hc6⟩ := ho6.formN hplen
 have HO6 := Lib.hid ho6
 have HB6 := Lib.hid hb6
 have HM6 := Lib.hid (HM5.out.on hb6)
 have HZ6 := Lib.hid (HZ5.out.belowHere hb6)
 have d8 := HM6.out.c8
 have u8 := HM6.out.frz 8
 rw [HS.out.F, HS.out.seq] at d8
 rw [HS.out.F] at u8
 have i8 := IntWalk.u64_in ((f.seq : Int) + 1) ⟨by omega, by have := HSq.out; omega⟩
 have hm7 := HM6.out.setF 8 (.int .u64 ((f.seq : Int) + 1)) { f1 with seq := f.seq + 1 } (by unfold fmA; simp) rfl rfl rfl rfl rfl rfl rfl rfl rfl rfl rfl
 rw [show (⟨f1.F, 8, none⟩ : Addr) = ⟨f.F, 8, none⟩ by rw [HS.out.F]] at hm7
 have HM7 := Lib.hid hm7
 have hF1 : R1 f.F := by have := HM6.out.inF; rw [HS.out.F] at this; exact this
 have HK7 := Lib.hid ((Kq.refl R1 W6).setCell (p := ⟨f.F, 8, none⟩) (.inl hF1) (.int .u64 ((f.seq : Int) + 1)))
 clear z0 z1 z2 z3 hb6 ho6 hm7 hF1 hplen
 go_upto_region 12 with fail
 clear d8 u8
 generalize W6.setCell ⟨f.F, 8, none⟩ (.int .u64 ((f.seq : Int) + 1)) = W7 at *
 have hap7 : ∀ q, Value.ownBlock (.slice a6 96 c6) = some q → ¬ R1 q := fun q hq => HM5.out.not_new (HO6.out.blockLt q hq).1
 have HO7 := Lib.hid ((HO6.out.kq HK7.out hap7).mono (Nat.zero_le _))
 have HZ7 := Lib.hid (HZ6.out.kq HK7.out HZn1.out)
 have hr : f1.g.opn ≠ -1 ∨ 0 < Gc.count 0 f1.g.l := by
  obtain ⟨e1, e2⟩ := enough_is HEn.out
  exact .inr (by omega)
 have HP := Lib.hid (program_calls HM7.out HFi.out hr a6 c6 _ (show f1.g.gh (Tg.page t pay) by rw [HS.out.gh]; exact HGh.out) HO7.out hap7)
 rw [show (Value.pointer (some ⟨({ f1 with seq := f.seq + 1 } : Fm).F, 0, none⟩)) = .pointer (some ⟨f.F, 0, none⟩) from congrArg (fun q => Value.pointer (some ⟨q, 0, none⟩)) HS.out.F] at HP
 clear hap7 hr
 go_wp2_with fail
 refine HP.out.mono ?_
 rintro e W8 ⟨k, i, g', rfl, h8, hpg, hfi⟩
 have HZ8 := Lib.hid (h8.blk HZ7.out HZn1.out)
 have H8 := Lib.hid h8
 have HPg := Lib.hid hpg
 have HFi8 := Lib.hid hfi
 have HZn2 := Lib.hid (h8.far HZn1.out HZ7.out.lt)
 clear h8 hpg hfi
 obtain ⟨k0, k1, f0, f1', q0, q1⟩ := plZ HZ8.out k i
 have hcs2 := placeCells
 go_wp2_with fail
 refine bodyPost_ret (v := .tuple #[.agg #[.int .i64 (k : Int), .int .i64 (i : Int)], .int .i64 0]) (by simp [results, Tryz.results115, go_sem, q0, q1]) rfl ⟨k, i, f1, g', rfl, ?_, HS.out, by have h9 := HPg.out; rw [HT.out] at h9; exact h9, HFi8.out, HPg.out.fr HEn.out⟩
 have s2 := HB2.out.size
 have s3 := H4.out.2.size
 have s5 := HK5.out.size
 have s6 := HB6.out.size
 have s7 := HK7.out.size
 have s8 := H8.out.2.size
 have hR1' : ∀ q, R1 q → R q ∨ (w.heap.size ≤ q ∧ q < w3.heap.size) := fun q hq => by
  rw [HR1.out] at hq
  rcases hq with h1 | h1
  ·exact .inl h1
  ·exact .inr ⟨by omega, h1.2⟩
 have hkz : Kq (fun q => q = Z) W8 ((W8.setCell ⟨Z, 0, none⟩ (.int .i64 (k : Int))).setCell ⟨Z, 1, none⟩ (.int .i64 (i : Int))) := ((Kq.refl (fun q => q = Z) W8).setCell (p := ⟨Z, 0, none⟩) (.inl rfl) _).setCell (p := ⟨Z, 1, none⟩) (.inl rfl) _
 have hm9 := H8.out.1.kq hkz fun q hq e => HZn2.out (e ▸ hq)
 refine ⟨hm9.more (fun q hq => ?_) fun q hq => ?_, ?_⟩
 ·rcases hq with h1 | h1
  ·rcases hR1' q h1 with h2 | h2
   ·exact .inl h2
   ·exact .inr ⟨h2.1, by simp only [World.size_setCell]; omega⟩
  ·exact .inr ⟨by omega, by simp only [World.size_setCell]; omega⟩
 ·rcases hq with h1 | h1
  ·exact hm9.bnd q (.inl (by rw [HR1.out]; exact .inl h1))
  ·exact ⟨by omega, h1.2⟩
 ·have hk3 : Kq R w w3 := (Kq.of HB2.out).trans H4.out.2
  have hk5 : Kq R w W5 := hk3.then_ HK5.out fun q e => .inr (by rw [e, HQe.out]; exact Nat.le_refl _)
  have hk7 : Kq R w W7 := (hk5.on HB6.out).then_ HK7.out fun q hq => by
   rcases hR1' q hq with h2 | h2
   ·exact .inl h2
   ·exact .inr h2.1
  have hk8 : Kq R w W8 := hk7.then_ H8.out.2 fun q hq => by
   rcases hR1' q hq with h2 | h2
   ·exact .inl h2
   ·exact .inr h2.1
  exact hk8.then_ hkz fun q e => .inr (by have := HZe.out; omega)
end
end Go.Proofs.YtcppkaphlcflgaaGreat
