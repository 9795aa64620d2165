
import Derived.Test.YtcppkaphlcflgaaGreatGcMath
import Derived.Test.YtcppkaphlcflgaaGreatChFault
import Derived.Test.YtcppkaphlcflgaaGreatInoPoint2
import Derived.Deep.DeepCutAuto
namespace Go.Proofs.YtcppkaphlcflgaaGreat
open Lib (hid)
set_option maxRecDepth 100000
set_option maxHeartbeats 16000000
section
open Go.RowKit

theorem cell_on {w w' : World} {p : Addr} {v : Value} (h : w.cell? p = some v) (hb : Below w.heap.size w w') : w'.cell? p = some v := (hb.cell (block_lt_isSome (by rw [h]; rfl))).trans h
theorem boxed (x : Bk) (w : World) : Below w.heap.size w (w.alloc (.cells (bkA x) 180)) ∧
  (w.alloc (.cells (bkA x) 180)).cell? ⟨w.heap.size, 0, none⟩ = some (.int .i64 (x.st : Int)) ∧ (w.alloc (.cells (bkA x) 180)).cell? ⟨w.heap.size, 1, none⟩ = some (.int .i64 (x.live : Int)) ∧
  (w.alloc (.cells (bkA x) 180)).cell? ⟨w.heap.size, 2, none⟩ = some (.int .i64 (x.wear : Int)) ∧ (w.alloc (.cells (bkA x) 180)).cell? ⟨w.heap.size, 3, none⟩ = some (.int .i64 (x.nx : Int)) :=
 ⟨(Below.refl _ w).alloc (Nat.le_refl _) _, (Blk.new w _ (bkA x)).cellv rfl, (Blk.new w _ (bkA x)).cellv rfl, (Blk.new w _ (bkA x)).cellv rfl, (Blk.new w _ (bkA x)).cellv rfl⟩
theorem bk_at {w : World} {B : Nat} {a : Option Addr} {n k : Nat} {l : List Bk} (h : ArrM 4 bkL w B a n l) (hk : k < n) :
  ∃ b o, a = some ⟨b, o, none⟩ ∧ b < B ∧ w.cell? ⟨b, o + k * 4, none⟩ = some (.int .i64 ((Gc.at_ l k).st : Int)) ∧ w.cell? ⟨b, o + k * 4 + 1, none⟩ = some (.int .i64 ((Gc.at_ l k).live : Int)) ∧
   w.cell? ⟨b, o + k * 4 + 2, none⟩ = some (.int .i64 ((Gc.at_ l k).wear : Int)) ∧ w.cell? ⟨b, o + k * 4 + 3, none⟩ = some (.int .i64 ((Gc.at_ l k).nx : Int)) := by
 obtain ⟨b, o, hk', ha, hb, hc⟩ := h.atv hk
 have e : Gc.at_ l k = l[k] := by rw [Gc.at_, List.getD_eq_getElem?_getD, List.getElem?_eq_getElem hk']; rfl
 rw [e]
 exact ⟨b, o, ha, hb, hc 0 _ rfl, hc 1 _ rfl, hc 2 _ rfl, hc 3 _ rfl⟩
theorem getD_mem {l : List Bk} {k : Nat} (hk : k < l.length) : Gc.at_ l k ∈ l := by
 rw [Gc.at_, List.getD_eq_getElem?_getD, List.getElem?_eq_getElem hk]
 exact List.getElem_mem hk
theorem ggood_calls (x : Bk) (w : World) : Calls Tryz.prog 150 #[bkV x] w fun e w' => e = .returned (.bool (Gc.good x)) ∧ Below w.heap.size w w' := by
 obtain ⟨hb, c0, c1, c2, c3⟩ := boxed x w
 have HB := hid hb
 unfold bkA at c0 HB
 clear hb c1 c2 c3
 go_enter Tryz.func150, Tryz.ntmps150
 go_wp2
 go_ret
 exact ⟨rfl, HB.out⟩
theorem boxed2 (x y : Bk) (w : World) : Below w.heap.size w ((w.alloc (.cells (bkA x) 180)).alloc (.cells (bkA y) 180)) ∧
  Blk ((w.alloc (.cells (bkA x) 180)).alloc (.cells (bkA y) 180)) w.heap.size 180 (bkA x) ∧
  Blk ((w.alloc (.cells (bkA x) 180)).alloc (.cells (bkA y) 180)) (w.heap.size + 1) 180 (bkA y) :=
 ⟨((Below.refl _ w).alloc (Nat.le_refl _) _).alloc (by simp) _, (Blk.new w _ (bkA x)).alloc _, by have := Blk.new (w.alloc (.cells (bkA x) 180)) 180 (bkA y); rwa [World.size_alloc] at this⟩
theorem gleastF_calls (x y : Bk) (w : World) : Calls Tryz.prog 152 #[bkV x, bkV y] w fun e w' => e = .returned (.bool (Gc.worn x y)) ∧ Below w.heap.size w w' := by
 obtain ⟨hb, h1, h2⟩ := boxed2 x y w
 have HB := hid hb
 have c0 := h1.cellv (i := 2) rfl
 have c1 := h2.cellv (i := 2) rfl
 unfold bkA at c0 c1 HB
 clear hb h1 h2
 go_enter Tryz.func152, Tryz.ntmps152
 go_wp2
 go_ret
 exact ⟨rfl, HB.out⟩
theorem gmostF_calls (x y : Bk) (w : World) : Calls Tryz.prog 151 #[bkV x, bkV y] w fun e w' => e = .returned (.bool (Gc.more x y)) ∧ Below w.heap.size w w' := by
 obtain ⟨hb, h1, h2⟩ := boxed2 x y w
 have HB := hid hb
 have c0 := h1.cellv (i := 2) rfl
 have c1 := h2.cellv (i := 2) rfl
 unfold bkA at c0 c1 HB
 clear hb h1 h2
 go_enter Tryz.func151, Tryz.ntmps151
 go_wp2
 go_ret
 exact ⟨rfl, HB.out⟩
theorem bkCells : Tryz.prog.cellsOf 180 = 4 := by kernel_rfl
end
section
open Go.RowKit

section
variable {NB B C BL : Nat} {S : Nat → Prop} {w : World} {ps : Nat → Nat} {bl : Nat → Pb}
def pbNext (x : Pb) (i : Nat) (L : List UInt8) : Pb := { x with pgs := upd x.pgs i (some L), nx := i + 1 }
def pbPage (x : Pb) (i : Nat) (L : List UInt8) : Pb := { x with pgs := upd x.pgs i (some L) }
theorem upd_upd {α : Type} (f : Nat → α) (k : Nat) (u v : α) : upd (upd f k u) k v = upd f k v := by
 funext j
 unfold upd
 split <;> rfl
theorem chPut_calls (h : ChM NB B S w C BL ps bl) {k i : Nat} (hk : k < NB) (hi : i < 8) (hn : (bl k).nx = i) (a : Option Addr) (n c : Nat) (L : List UInt8) (hv : PgS S (Mu NB C BL ps) w (.slice a n c) (some L)) :
  Calls Tryz.prog 91 #[.pointer (some ⟨BL, k * 5, none⟩), .slice a n c] w fun e w' => e = .returned (.tuple #[]) ∧ ChM NB B S w' C BL ps (upd bl k (pbNext (bl k) i L)) ∧ Kq (fun q => q = BL ∨ q = ps k) w w' := by
 have hd := h.on (below_drew w)
 have b0 := (hd.b0 hk).1
 have b1 : w.drew.cell? ⟨BL, k * 5 + 1, none⟩ = some (.int .i64 (i : Int)) := by rw [← hn]; exact (hd.b1 hk).1
 obtain ⟨v, p0, p1, _⟩ := hd.page hk hi
 have H1 := hid ((h.setP (i := i) hk (.slice a n c) (some L) hv (pbPage (bl k) i L) rfl rfl).on (below_drew _))
 have HB1 := hid (((Kq.refl (fun q => q = BL ∨ q = ps k) w).setCell (p := ⟨ps k, i, none⟩) (.inl (.inr rfl)) (.slice a n c)).on (below_drew _))
 have dBP : ps k ≠ BL := h.dis.pb k hk
 have g1 : (0 : Int) ≤ (i : Int) := by omega
 have g2 : (i : Int) < 8 := by omega
 have HN := hid hn
 clear h hv hd hn
 generalize hP : ps k = P at *
 have HPe := hid hP
 clear hP
 go_enter Tryz.func91, Tryz.ntmps91
 go_wp2_with fail
 refine wp_region_noPanic ?_
 refine wp_region_held_drew (S := (fun W' => W'.cell? ⟨BL, k * 5, none⟩ = some (.slice (some ⟨P, 0, none⟩) 8 8) ∧ W'.cell? ⟨BL, k * 5 + 1, none⟩ = some (.int .i64 (i : Int)))) (by kernel_rfl) ⟨b0, b1⟩ (fun hS0 => ?_)
 refine tk 0 ((.pointer (some ⟨BL, k * 5, none⟩))) rfl (fun _ _ => rfl) ?_
 try simp only [layR]
 refine tk 1 ((.pointer (some ⟨BL, k * 5, none⟩))) rfl (fun W hSw => ?_) ?_
 ·skip
  go_simp
 try simp only [layR]
 refine tk 2 ((.pointer (some ⟨BL, k * 5, none⟩))) rfl (fun W hSw => ?_) ?_
 ·skip
  go_simp
 try simp only [layR]
 refine tk 3 ((.slice (some ⟨P, 0, none⟩) 8 8)) rfl (fun W hSw => ?_) ?_
 ·have c9 := hSw.1
  go_simp
 try simp only [layR]
 refine tk 4 ((.pointer (some ⟨BL, k * 5, none⟩))) rfl (fun _ _ => rfl) ?_
 try simp only [layR]
 refine tk 5 ((.pointer (some ⟨BL, k * 5, none⟩))) rfl (fun W hSw => ?_) ?_
 ·skip
  go_simp
 try simp only [layR]
 refine tk 6 ((.pointer (some ⟨BL, k * 5 + 1, none⟩))) rfl (fun W hSw => ?_) ?_
 ·skip
  go_simp
 try simp only [layR]
 refine tk 7 ((.int .i64 (i : Int))) rfl (fun W hSw => ?_) ?_
 ·have c9 := hSw.2
  go_simp
 try simp only [layR]
 refine tk 8 ((.slice a n c)) rfl (fun _ _ => rfl) ?_
 try simp only [layR]
 refine tk 9 ((.pointer (some ⟨P, i, none⟩))) rfl (fun W hSw => ?_) ?_
 ·skip
  go_simp
 try simp only [layR]
 refine rd 10 rfl (fun K' hK => ?_)
 go_simp
 refine hK.out _ _ ⟨(World.cell?_setCell_far _ _ _ _ (by simpa using dBP)).trans hS0.1, (World.cell?_setCell_far _ _ _ _ (by simpa using dBP)).trans hS0.2⟩ (fun hS1 => ?_)
 try simp only [layR]
 refine wpAnyH_done (by kernel_rfl) ?_ _
 refine NoPanic.normal ?_
 clear hS0 hS1 b0 b1 p0 p1
 obtain ⟨w2, hw2⟩ : ∃ w2, w2 = (w.setCell ⟨P, i, none⟩ (.slice a n c)).drew := ⟨_, rfl⟩
 rw [← hw2] at H1 HB1
 have c1 := (H1.out.b1 hk).1
 have f1 := (H1.out.b1 hk).2
 rw [upd_same] at c1
 have c1' : w2.cell? ⟨BL, k * 5 + 1, none⟩ = some (.int .i64 (i : Int)) := by rw [← HN.out]; exact c1
 have H2 := hid (H1.out.setB (k := k) (j := 1) hk (by omega) (.int .i64 ((i + 1 : Nat) : Int)) (pbNext (bl k) i L) (by rw [upd_same]; rfl) (by rw [upd_same]; rfl))
 rw [upd_upd] at H2
 have HB2 := hid (HB1.out.setCell (p := ⟨BL, k * 5 + 1, none⟩) (.inl (.inl rfl)) (.int .i64 ((i + 1 : Nat) : Int)))
 have e1 : ((i + 1 : Nat) : Int) = (i : Int) + 1 := by omega
 rw [e1] at H2 HB2
 rw [← hw2]
 clear hw2 e1 c1
 go_wp2
 go_end0
 exact ⟨rfl, H2.out, HB2.out⟩
theorem ChM.base (h : ChM NB B S w C BL ps bl) : B ≤ w.heap.size := by
 have h1 := h.lo C (h.hS C (.inl rfl))
 have h2 := h.ltC
 omega
theorem ChM.up {w0 : World} (h : ChM NB B S w C BL ps bl) (h0 : B ≤ w0.heap.size) : ChM NB B (Up S w0 w) w C BL ps bl :=
 h.wide (fun _ hs => .inl hs) (fun k hk => by rcases hk with h1 | h1; exact h.lo k h1; omega) (fun k hk => by rcases hk with h1 | h1; exact h.hi k h1; exact h1.2)
theorem ChM.upup {w0 w1 : World} (h : ChM NB B (Up S w0 w1) w C BL ps bl) (h0 : B ≤ w0.heap.size) (hs : w1.heap.size ≤ w.heap.size) : ChM NB B (Up S w0 w) w C BL ps bl :=
 h.wide (fun k hk => by rcases hk with h1 | h1; exact .inl h1; exact .inr (by omega)) (fun k hk => by rcases hk with h1 | h1; exact h.lo k (.inl h1); omega) (fun k hk => by rcases hk with h1 | h1; exact h.hi k (.inl h1); exact h1.2)
theorem ChM.re {w0 wa wb : World} (h : ChM NB B (Up S wa wb) w C BL ps bl) (h0 : B ≤ w0.heap.size) (h1 : w0.heap.size ≤ wa.heap.size) (hs : wb.heap.size ≤ w.heap.size) : ChM NB B (Up S w0 w) w C BL ps bl :=
 h.wide (fun k hk => by rcases hk with h2 | h2; exact .inl h2; exact .inr (by omega)) (fun k hk => by rcases hk with h2 | h2; exact h.lo k (.inl h2); omega) (fun k hk => by rcases hk with h2 | h2; exact h.hi k (.inl h2); exact h2.2)
theorem ChM.pgNew {w0 : World} (h : ChM NB B S w C BL ps bl) {v : Value} {L : List UInt8} (hl : L.length = 96) (ho : Own byteV 5 w w0.heap.size v L) (hs : ∀ k, S k → k < w0.heap.size) : PgS (Up S w0 w) (Mu NB C BL ps) w v (some L) :=
 ⟨hl, ho.mono (Nat.zero_le _), fun g hg => ⟨.inr (ho.blockLt g hg), fun hm => by have := hs g (h.hS g hm); have := (ho.blockLt g hg).1; omega⟩⟩
theorem chProgram_calls (h : ChM NB B S w C BL ps bl) {k i : Nat} (hk : k < NB) (hi : i < 8) (hn : (bl k).nx = i) (hb1 : (bl k).bad = false) (hb2 : (bl k).broken = false) (a : Option Addr) (c : Nat) (bs : List UInt8) (hx : Own byteV 5 w 0 (.slice a 96 c) bs) (hap : ∀ g, Value.ownBlock (.slice a 96 c) = some g → ¬ S g) :
  Calls Tryz.prog 46 #[.pointer (some ⟨C, 0, none⟩), .int .i64 (k : Int), .int .i64 (i : Int), .slice a 96 c] w fun e w' => e = .returned (.int .i64 0) ∧ ChM NB B (Up S w w') w' C BL ps (upd bl k (pbNext (bl k) i bs)) ∧ Kq S w w' := by
 have HA := hid (chAsked_calls h hk hi)
 have HF := hid (chFull_calls h)
 have HFa := hid (chFault_calls h)
 have c3 := h.c3
 have b1 := (h.b1 hk).1
 have b2 := (h.b2 hk).1
 have b3 := (h.b3 hk).1
 rw [hn] at b1
 rw [hb2] at b2
 rw [hb1] at b3
 have g1 : (0 : Int) ≤ (k : Int) := by omega
 have g2 : (k : Int) < (NB : Int) := by omega
 have HX := hid hx
 have HLen := hid (show bs.length = 96 by obtain ⟨_, _, e, _⟩ := hx.form; injection e with _ e2 _; exact e2.symm)
 have HAp := hid hap
 have HH := hid h
 have HN := hid hn
 clear h hx hap hn hb1 hb2
 go_enter Tryz.func46, Tryz.ntmps46
 go_wp2_with fail
 refine (HA.out).mono ?_
 rintro e w_ ⟨rfl, rfl⟩
 go_wp2_with fail
 refine HF.out.mono ?_
 rintro e w_ ⟨rfl, rfl⟩
 go_wp2_with fail
 refine HFa.out.mono ?_
 rintro e w1 ⟨rfl, h1, hk1⟩
 have hba := (Below.refl w1.heap.size w1).alloc (Nat.le_refl _) (.cells #[.int .i64 0, .int .i64 0, .slice none 0 0] 159)
 have H1 := hid (h1.on hba)
 have HK1 := hid ((hk1.mono (T' := S) fun q hq => hq ▸ HH.out.hS C (.inl rfl)).on hba)
 have HX1 := hid (HX.out.kq HK1.out HAp.out)
 clear h1 hk1 hba
 go_wp2_with fail
 refine (clone_calls a 96 c bs _ (HX1.out.arr (by rw [HLen.out]; omega))).mono ?_
 rintro e w3 ⟨⟨v, rfl, hv⟩, hb3⟩
 have HK3 := hid (HK1.out.on hb3)
 have hhi := HH.out.hi
 have hsz := HK1.out.size
 have HC3 := hid ((H1.out.on hb3).up (w0 := w) HH.out.base)
 have hlen := HLen.out
 obtain ⟨a3, c3, rfl, hc3⟩ := hv.formN hlen
 have HV := hid ((H1.out.on hb3).pgNew (w0 := w) hlen (hv.mono hsz) hhi)
 clear hb3 hv hc3 hlen hhi hsz
 go_wp2_with fail
 refine (chPut_calls HC3.out hk hi HN.out a3 96 c3 bs HV.out).mono ?_
 rintro e w4 ⟨rfl, h4, hk4⟩
 have HK4 := hid (HK3.out.then_ hk4 fun q hq => .inl (by rcases hq with rfl | rfl; exact HH.out.hS _ (.inr (.inl rfl)); exact HH.out.hS _ (.inr (.inr ⟨k, hk, rfl⟩))))
 have H4 := hid (h4.upup HH.out.base hk4.size)
 clear h4 hk4
 go_wp2_with fail
 go_ret
 exact ⟨rfl, H4.out, HK4.out⟩
end
end
section
open Go.RowKit

section
variable {NB B C BL : Nat} {S : Nat → Prop} {w : World} {ps : Nat → Nat} {bl : Nat → Pb}
theorem ChM.erased {r : Nat} (h : ChM NB B S w C BL ps bl) {k P' : Nat} (hk : k < NB) (ho : Own vId 40 w 0 (.slice (some ⟨P', 0, none⟩) 8 8) nil8) (hP : ¬ S P') (hB : B ≤ P') :
  ChM NB B (fun q => S q ∨ q = P') (((((w.setCell ⟨BL, k * 5, none⟩ (.slice (some ⟨P', 0, none⟩) 8 8)).setCell ⟨BL, k * 5 + 1, none⟩ (.int .i64 0)).setCell ⟨BL, k * 5 + 2, none⟩ (.bool false)).setCell ⟨BL, k * 5 + 3, none⟩ (.bool false)).setCell ⟨BL, k * 5 + 4, none⟩ (.int .i64 (r : Int))) C BL (upd ps k P') (upd bl k (fresh r)) := by
 have h1 := h.setN hk ho hP hB { bl k with pgs := fun _ => none } ⟨rfl, rfl, rfl, rfl⟩ rfl
 have h2 := h1.setB (k := k) (j := 1) hk (by omega) (.int .i64 ((0 : Nat) : Int)) { bl k with pgs := fun _ => none, nx := 0 } (by simp only [upd_same]; rfl) (by rw [upd_same])
 rw [upd_upd] at h2
 have h3 := h2.setB (k := k) (j := 2) hk (by omega) (.bool false) { bl k with pgs := fun _ => none, nx := 0, broken := false } (by simp only [upd_same]; rfl) (by rw [upd_same])
 rw [upd_upd] at h3
 have h4 := h3.setB (k := k) (j := 3) hk (by omega) (.bool false) ⟨fun _ => none, 0, false, false, (bl k).wear⟩ (by simp only [upd_same]; rfl) (by rw [upd_same])
 rw [upd_upd] at h4
 have h5 := h4.setB (k := k) (j := 4) hk (by omega) (.int .i64 (r : Int)) (fresh r) (by simp only [upd_same]; rfl) (by rw [upd_same]; rfl)
 rw [upd_upd] at h5
 exact h5
theorem kq_erased {r : Nat} {T : Nat → Prop} {a b : World} (h : Kq T a b) {k P' : Nat} (hT : T BL) :
  Kq T a (((((b.setCell ⟨BL, k * 5, none⟩ (.slice (some ⟨P', 0, none⟩) 8 8)).setCell ⟨BL, k * 5 + 1, none⟩ (.int .i64 0)).setCell ⟨BL, k * 5 + 2, none⟩ (.bool false)).setCell ⟨BL, k * 5 + 3, none⟩ (.bool false)).setCell ⟨BL, k * 5 + 4, none⟩ (.int .i64 (r : Int))) :=
 ((((h.setCell (.inl hT) _).setCell (.inl hT) _).setCell (.inl hT) _).setCell (.inl hT) _).setCell (.inl hT) _
theorem chErase_calls (h : ChM NB B S w C BL ps bl) {k : Nat} (hk : k < NB) (hb1 : (bl k).bad = false) (hw : (bl k).wear ≤ 1099511627776) :
  Calls Tryz.prog 66 #[.pointer (some ⟨C, 0, none⟩), .int .i64 (k : Int)] w fun e w' => e = .returned (.int .i64 0) ∧ (∃ ps', ChM NB B (Up S w w') w' C BL ps' (upd bl k (fresh ((bl k).wear + 1)))) ∧ Kq S w w' := by
 have HA := hid (chAsked_calls h hk (i := 0) (by omega))
 have HFa := hid (chFault_calls h)
 have c3 := h.c3
 have b3 := (h.b3 hk).1
 rw [hb1] at b3
 have g1 : (0 : Int) ≤ (k : Int) := by omega
 have g2 : (k : Int) < (NB : Int) := by omega
 have HH := hid h
 have HW := hid hw
 clear h hb1 hw
 go_enter Tryz.func66, Tryz.ntmps66
 go_wp2_with fail
 refine HA.out.mono ?_
 rintro e w_ ⟨rfl, rfl⟩
 go_wp2_with fail
 refine HFa.out.mono ?_
 rintro e w1 ⟨rfl, h1, hk1⟩
 have hba := (Below.refl w1.heap.size w1).alloc (Nat.le_refl _) (.cells #[.int .i64 0, .int .i64 0, .slice none 0 0] 159)
 have H1 := hid (h1.on hba)
 have HK1 := hid ((hk1.mono (T' := S) fun q hq => hq ▸ HH.out.hS C (.inl rfl)).on hba)
 clear h1 hk1 hba c3 b3
 go_upto_region 19 with fail
 generalize w1.alloc (.cells #[.int .i64 0, .int .i64 0, .slice none 0 0] 159) = w2 at *
 have hmk := makePgs w2.drew
 have HD := hid (H1.out.on (below_drew w2))
 have c1 := HD.out.c1
 have b4 := (HD.out.b4 hk).1
 have hww := HW.out
 have i1 := IntWalk.i64_in (((bl k).wear : Int) + 1) ⟨by omega, by omega⟩
 generalize hr : (bl k).wear = r at *
 refine wp_region_noPanic ?_
 refine wp_region_held_drew (S := (fun W' => W'.cell? ⟨C, 1, none⟩ = some (.int .i64 8))) (by kernel_rfl) c1 (fun hS0 => ?_)
 refine tk 0 ((.pointer (some ⟨BL, k * 5, none⟩))) rfl (fun _ _ => rfl) ?_
 try simp only [layR]
 refine tk 1 ((.pointer (some ⟨C, 0, none⟩))) rfl (fun _ _ => rfl) ?_
 try simp only [layR]
 refine tk 2 ((.pointer (some ⟨C, 0, none⟩))) rfl (fun W hSw => ?_) ?_
 ·skip
  go_simp
 try simp only [layR]
 refine tk 3 ((.pointer (some ⟨C, 0, none⟩))) rfl (fun W hSw => ?_) ?_
 ·skip
  go_simp
 try simp only [layR]
 refine tk 4 ((.pointer (some ⟨C, 1, none⟩))) rfl (fun W hSw => ?_) ?_
 ·skip
  go_simp
 try simp only [layR]
 refine tk 5 ((.int .i64 8)) rfl (fun W hSw => ?_) ?_
 ·skip
  go_simp
 try simp only [layR]
 refine tk 7 ((.pointer (some ⟨BL, k * 5, none⟩))) rfl (fun _ _ => rfl) ?_
 try simp only [layR]
 refine tk 8 ((.pointer (some ⟨BL, k * 5, none⟩))) rfl (fun W hSw => ?_) ?_
 ·skip
  go_simp
 try simp only [layR]
 refine tk 9 ((.pointer (some ⟨BL, k * 5 + 4, none⟩))) rfl (fun W hSw => ?_) ?_
 ·skip
  go_simp
 try simp only [layR]
 have hba := ((Below.refl w2.heap.size w2).alloc (Nat.le_refl _) (.cells (nil8.map vId).toArray 40)).drew
 have HC3 := hid (H1.out.on hba)
 have HK3 := hid (HK1.out.on hba)
 have HS3 := hid (show w.heap.size ≤ w2.heap.size from HK1.out.size)
 have HO3 := hid (ownPgs w2 0 (Nat.zero_le _)).drew
 have HR := hid hr
 clear hba
 refine wpAnyH_ready (rs := [6, 10]) (by kernel_rfl) (by simp) ?_
 refine AllReadyH.cons rfl (fun K' hK => ?_) (AllReadyH.cons rfl (fun K' hK => ?_) AllReadyH.nil)
 ·go_simp
  have d1 := HC3.out.c1
  have d4 := (HC3.out.b4 hk).1
  rw [HR.out] at d4
  clear hmk c1 b4
  generalize (w2.alloc (.cells (nil8.map vId).toArray 40)).drew = w3 at *
  generalize hP : w2.heap.size = P' at *
  refine hK.out _ _ d1 (fun hS1 => ?_)
  try simp only [layR]
  refine rd 10 rfl (fun K' hK => ?_)
  go_simp
  clear d4
  refine hK.out _ _ d1 (fun hS9 => ?_)
  try simp only [layR]
  clear hS9
  refine tk 11 ((.int .i64 ((r : Int) + 1))) rfl (fun W hSw => ?_) ?_
  ·skip
   go_simp
  try simp only [layR]
  refine tk 12 ((.agg #[.slice (some ⟨P', 0, none⟩) 8 8, .int .i64 0, .bool false, .bool false, .int .i64 ((r : Int) + 1)])) rfl (fun W hSw => ?_) ?_
  ·skip
   go_simp
  try simp only [layR]
  refine tk 13 ((.pointer (some ⟨BL, k * 5, none⟩))) rfl (fun W hSw => ?_) ?_
  ·skip
   go_simp
  try simp only [layR]
  obtain ⟨x0, y0⟩ := HC3.out.b0 hk
  obtain ⟨x1, y1⟩ := HC3.out.b1 hk
  obtain ⟨x2, y2⟩ := HC3.out.b2 hk
  obtain ⟨x3, y3⟩ := HC3.out.b3 hk
  obtain ⟨x4, y4⟩ := HC3.out.b4 hk
  have hE := (HC3.out.erased (r := r + 1) hk HO3.out (fun hs => by have := HH.out.hi P' hs; have := HS3.out; omega) (Nat.le_trans HH.out.base HS3.out))
  have hKE := (kq_erased (BL := BL) (r := r + 1) (P' := P') (k := k) HK3.out (HH.out.hS BL (.inr (.inl rfl))))
  rw [show ((r + 1 : Nat) : Int) = (r : Int) + 1 by omega] at hE hKE
  have HE := hid hE
  have HKE := hid hKE
  have HP3 := hid (show P' < w3.heap.size from (HO3.out.blockLt P' rfl).2)
  have d9 := hE.c1
  clear hE hKE
  refine rd 14 rfl (fun K' hK => ?_)
  go_simp
  refine hK.out _ _ d9 (fun hS2 => ?_)
  try simp only [layR]
  refine wpAnyH_done (by kernel_rfl) ?_ _
  refine NoPanic.normal ?_
  clear hS0 hS1 hS2 x0 x1 x2 x3 x4 y0 y1 y2 y3 y4 d1 d9
  go_wp2_with fail
  go_ret
  refine ⟨rfl, ⟨upd ps k P', ?_⟩, HKE.out⟩
  rw [HR.out]
  refine HE.out.wide (fun q hq => ?_) (fun q hq => ?_) (fun q hq => ?_)
  ·rcases hq with h1 | h1
   ·exact .inl h1
   ·exact .inr ⟨h1 ▸ HS3.out, h1 ▸ (HE.out.hi P' (.inr rfl))⟩
  ·rcases hq with h1 | h1
   ·exact HH.out.lo q h1
   ·have := HH.out.base; omega
  ·rcases hq with h1 | h1
   ·exact HE.out.hi q (.inl h1)
   ·exact h1.2
 ·go_simp
  refine hK.out _ _ c1 (fun hS1 => ?_)
  try simp only [layR]
  clear b4
  refine tk 11 ((.int .i64 ((r : Int) + 1))) rfl (fun W hSw => ?_) ?_
  ·skip
   go_simp
  try simp only [layR]
  refine rd 6 rfl (fun K' hK => ?_)
  go_simp
  have d1 := HC3.out.c1
  clear hmk c1 hS1
  generalize (w2.alloc (.cells (nil8.map vId).toArray 40)).drew = w3 at *
  generalize hP : w2.heap.size = P' at *
  refine hK.out _ _ d1 (fun hS1 => ?_)
  try simp only [layR]
  refine tk 12 ((.agg #[.slice (some ⟨P', 0, none⟩) 8 8, .int .i64 0, .bool false, .bool false, .int .i64 ((r : Int) + 1)])) rfl (fun W hSw => ?_) ?_
  ·skip
   go_simp
  try simp only [layR]
  refine tk 13 ((.pointer (some ⟨BL, k * 5, none⟩))) rfl (fun W hSw => ?_) ?_
  ·skip
   go_simp
  try simp only [layR]
  obtain ⟨x0, y0⟩ := HC3.out.b0 hk
  obtain ⟨x1, y1⟩ := HC3.out.b1 hk
  obtain ⟨x2, y2⟩ := HC3.out.b2 hk
  obtain ⟨x3, y3⟩ := HC3.out.b3 hk
  obtain ⟨x4, y4⟩ := HC3.out.b4 hk
  have hE := (HC3.out.erased (r := r + 1) hk HO3.out (fun hs => by have := HH.out.hi P' hs; have := HS3.out; omega) (Nat.le_trans HH.out.base HS3.out))
  have hKE := (kq_erased (BL := BL) (r := r + 1) (P' := P') (k := k) HK3.out (HH.out.hS BL (.inr (.inl rfl))))
  rw [show ((r + 1 : Nat) : Int) = (r : Int) + 1 by omega] at hE hKE
  have HE := hid hE
  have HKE := hid hKE
  have HP3 := hid (show P' < w3.heap.size from (HO3.out.blockLt P' rfl).2)
  have d9 := hE.c1
  clear hE hKE
  refine rd 14 rfl (fun K' hK => ?_)
  go_simp
  refine hK.out _ _ d9 (fun hS2 => ?_)
  try simp only [layR]
  refine wpAnyH_done (by kernel_rfl) ?_ _
  refine NoPanic.normal ?_
  clear hS0 hS1 hS2 x0 x1 x2 x3 x4 y0 y1 y2 y3 y4 d1 d9
  go_wp2_with fail
  go_ret
  refine ⟨rfl, ⟨upd ps k P', ?_⟩, HKE.out⟩
  rw [HR.out]
  refine HE.out.wide (fun q hq => ?_) (fun q hq => ?_) (fun q hq => ?_)
  ·rcases hq with h1 | h1
   ·exact .inl h1
   ·exact .inr ⟨h1 ▸ HS3.out, h1 ▸ (HE.out.hi P' (.inr rfl))⟩
  ·rcases hq with h1 | h1
   ·exact HH.out.lo q h1
   ·have := HH.out.base; omega
  ·rcases hq with h1 | h1
   ·exact HE.out.hi q (.inl h1)
   ·exact h1.2
end
end
section
open Go.RowKit

structure Mg where
 M : Nat
 ML : Nat
 C : Nat
 BL : Nat
 cap : Nat
 ps : Nat → Nat
 bl : Nat → Pb
 l : List Bk
 opn : Int
 res : Int
 bad : Int
 even : Bool
 gh : List UInt8 → Prop
def mgA (NB : Nat) (g : Mg) : Array Value := #[.pointer (some ⟨g.C, 0, none⟩), .slice (some ⟨g.ML, 0, none⟩) NB g.cap, .int .i64 g.opn, .int .i64 g.res, .int .i64 g.bad, .bool g.even]
def Sm (g : Mg) (S : Nat → Prop) (q : Nat) : Prop := q = g.M ∨ q = g.ML ∨ S q
structure MgM (NB B : Nat) (S : Nat → Prop) (w : World) (g : Mg) : Prop where
 hM : Blk w g.M 178 (mgA NB g)
 hL : OwnM 4 bkL 180 w 0 (.slice (some ⟨g.ML, 0, none⟩) NB g.cap) g.l
 hc : ChM NB B S w g.C g.BL g.ps g.bl
 ne : g.M ≠ g.ML
 sM : ¬ S g.M
 sL : ¬ S g.ML
 bM : B ≤ g.M
 bL : B ≤ g.ML
 nb : NB ≤ 1000
section
variable {NB B : Nat} {S T : Nat → Prop} {w w' : World} {g : Mg}
theorem MgM.ghost (h : MgM NB B S w g) (P : List UInt8 → Prop) : MgM NB B S w { g with gh := P } := ⟨h.hM, h.hL, h.hc, h.ne, h.sM, h.sL, h.bM, h.bL, h.nb⟩
theorem MgM.len (h : MgM NB B S w g) : g.l.length = NB := by
 obtain ⟨_, _, e, _⟩ := h.hL.form
 injection e with _ e2 _
 exact e2.symm
theorem MgM.ltM (h : MgM NB B S w g) : g.M < w.heap.size := h.hM.lt
theorem MgM.ltL (h : MgM NB B S w g) : g.ML < w.heap.size := (h.hL.blockLt _ rfl).2
theorem MgM.base (h : MgM NB B S w g) : B ≤ w.heap.size := by have := h.bM; have := h.ltM; omega
theorem MgM.hi (h : MgM NB B S w g) : ∀ q, Sm g S q → q < w.heap.size := by
 rintro q (rfl | rfl | hq)
 ·exact h.ltM
 ·exact h.ltL
 ·exact h.hc.hi q hq
theorem MgM.kq (h : MgM NB B S w g) (hk : Kq T w w') (hT : ∀ q, Sm g S q → ¬ T q) : MgM NB B S w' g :=
 ⟨h.hM.kq hk (hT _ (.inl rfl)), h.hL.kq hk fun q hq => by obtain rfl := own_of _ _ _ _ hq; exact hT _ (.inr (.inl rfl)), h.hc.kq hk fun q hq => hT q (.inr (.inr hq)), h.ne, h.sM, h.sL, h.bM, h.bL, h.nb⟩
theorem MgM.on (h : MgM NB B S w g) (hb : Below w.heap.size w w') : MgM NB B S w' g := h.kq (T := fun _ => False) (Kq.of hb) fun _ _ h => h
theorem MgM.chip {S' : Nat → Prop} {ps' : Nat → Nat} {bl' : Nat → Pb} (h : MgM NB B S w g) (hc : ChM NB B S' w' g.C g.BL ps' bl') (hk : Kq S w w') (hS : ∀ q, S' q → Up S w w' q) : MgM NB B S' w' { g with ps := ps', bl := bl' } :=
 ⟨h.hM.kq hk h.sM, h.hL.kq hk fun q hq => by obtain rfl := own_of _ _ _ _ hq; exact h.sL, hc, h.ne, fun hs => h.sM (up_of (hS _ hs) h.ltM), fun hs => h.sL (up_of (hS _ hs) h.ltL), h.bM, h.bL, h.nb⟩
theorem Sm.up {S S' : Nat → Prop} (h : ∀ q, S' q → Up S w w' q) {q : Nat} (hq : Sm g S' q) : Up (Sm g S) w w' q := by
 rcases hq with h1 | h1 | h1
 ·exact .inl (.inl h1)
 ·exact .inl (.inr (.inl h1))
 ·rcases h q h1 with h2 | h2
  ·exact .inl (.inr (.inr h2))
  ·exact .inr h2
theorem MgM.up {w0 : World} (h : MgM NB B S w g) (h0 : B ≤ w0.heap.size) (hM : g.M < w0.heap.size) (hL : g.ML < w0.heap.size) : MgM NB B (Up S w0 w) w g :=
 ⟨h.hM, h.hL, h.hc.up h0, h.ne, fun hs => h.sM (up_of hs hM), fun hs => h.sL (up_of hs hL), h.bM, h.bL, h.nb⟩
theorem MgM.setL (h : MgM NB B S w g) {k j : Nat} (hk : k < NB) (hj : j < 4) (u : Value) (y : Bk) (hy : bkL y = (bkL (Gc.at_ g.l k)).set j u) : MgM NB B S (w.setCell ⟨g.ML, k * 4 + j, none⟩ u) { g with l := g.l.set k y } := by
 have hl := h.len
 have e : Gc.at_ g.l k = g.l[k]'(by omega) := by rw [Gc.at_, List.getD_eq_getElem?_getD, List.getElem?_eq_getElem (by omega)]; rfl
 have hq : Kq (fun q => q = g.ML) w (w.setCell ⟨g.ML, k * 4 + j, none⟩ u) := Kq.one ⟨_, _, none⟩ _
 exact ⟨h.hM.kq hq h.ne, h.hL.set (i := k) (j := j) (by omega) hj (by rw [hy, e]), h.hc.kq hq fun q hq e => h.sL (e ▸ hq), h.ne, h.sM, h.sL, h.bM, h.bL, h.nb⟩
theorem MgM.setO (h : MgM NB B S w g) (x : Int) : MgM NB B S (w.setCell ⟨g.M, 2, none⟩ (.int .i64 x)) { g with opn := x } := by
 have hq : Kq (fun q => q = g.M) w (w.setCell ⟨g.M, 2, none⟩ (.int .i64 x)) := Kq.one ⟨_, _, none⟩ _
 refine ⟨?_, h.hL.kq hq fun q hq => by obtain rfl := own_of _ _ _ _ hq; exact Ne.symm h.ne, h.hc.kq hq fun q hq e => h.sM (e ▸ hq), h.ne, h.sM, h.sL, h.bM, h.bL, h.nb⟩
 exact h.hM.set 2 (.int .i64 x)
theorem MgM.setE (h : MgM NB B S w g) (x : Bool) : MgM NB B S (w.setCell ⟨g.M, 5, none⟩ (.bool x)) { g with even := x } := by
 have hq : Kq (fun q => q = g.M) w (w.setCell ⟨g.M, 5, none⟩ (.bool x)) := Kq.one ⟨_, _, none⟩ _
 refine ⟨?_, h.hL.kq hq fun q hq => by obtain rfl := own_of _ _ _ _ hq; exact Ne.symm h.ne, h.hc.kq hq fun q hq e => h.sM (e ▸ hq), h.ne, h.sM, h.sL, h.bM, h.bL, h.nb⟩
 exact h.hM.set 5 (.bool x)
theorem MgM.m0 (h : MgM NB B S w g) : w.cell? ⟨g.M, 0, none⟩ = some (.pointer (some ⟨g.C, 0, none⟩)) := h.hM.cellv rfl
theorem MgM.m1 (h : MgM NB B S w g) : w.cell? ⟨g.M, 1, none⟩ = some (.slice (some ⟨g.ML, 0, none⟩) NB g.cap) := h.hM.cellv rfl
theorem MgM.m2 (h : MgM NB B S w g) : w.cell? ⟨g.M, 2, none⟩ = some (.int .i64 g.opn) := h.hM.cellv rfl
theorem MgM.m3 (h : MgM NB B S w g) : w.cell? ⟨g.M, 3, none⟩ = some (.int .i64 g.res) := h.hM.cellv rfl
theorem MgM.m4 (h : MgM NB B S w g) : w.cell? ⟨g.M, 4, none⟩ = some (.int .i64 g.bad) := h.hM.cellv rfl
theorem MgM.m5 (h : MgM NB B S w g) : w.cell? ⟨g.M, 5, none⟩ = some (.bool g.even) := h.hM.cellv rfl
theorem MgM.frzM (h : MgM NB B S w g) (i : Nat) : w.frozen? ⟨g.M, i, none⟩ = false := h.hM.frozen i
theorem MgM.row (h : MgM NB B S w g) {k j : Nat} (hk : k < NB) (hj : j < 4) : w.cell? ⟨g.ML, k * 4 + j, none⟩ = (bkL (Gc.at_ g.l k))[j]? ∧ w.frozen? ⟨g.ML, k * 4 + j, none⟩ = false := by
 have hl := h.len
 have e : Gc.at_ g.l k = g.l[k]'(by omega) := by rw [Gc.at_, List.getD_eq_getElem?_getD, List.getElem?_eq_getElem (by omega)]; rfl
 rw [e]
 exact h.hL.cellg (by omega) hj
theorem MgM.r0 (h : MgM NB B S w g) {k : Nat} (hk : k < NB) : w.cell? ⟨g.ML, k * 4, none⟩ = some (.int .i64 ((Gc.at_ g.l k).st : Int)) ∧ w.frozen? ⟨g.ML, k * 4, none⟩ = false := h.row hk (j := 0) (by omega)
theorem MgM.r1 (h : MgM NB B S w g) {k : Nat} (hk : k < NB) : w.cell? ⟨g.ML, k * 4 + 1, none⟩ = some (.int .i64 ((Gc.at_ g.l k).live : Int)) ∧ w.frozen? ⟨g.ML, k * 4 + 1, none⟩ = false := h.row hk (j := 1) (by omega)
theorem MgM.r2 (h : MgM NB B S w g) {k : Nat} (hk : k < NB) : w.cell? ⟨g.ML, k * 4 + 2, none⟩ = some (.int .i64 ((Gc.at_ g.l k).wear : Int)) ∧ w.frozen? ⟨g.ML, k * 4 + 2, none⟩ = false := h.row hk (j := 2) (by omega)
theorem MgM.r3 (h : MgM NB B S w g) {k : Nat} (hk : k < NB) : w.cell? ⟨g.ML, k * 4 + 3, none⟩ = some (.int .i64 ((Gc.at_ g.l k).nx : Int)) ∧ w.frozen? ⟨g.ML, k * 4 + 3, none⟩ = false := h.row hk (j := 3) (by omega)
theorem MgM.arr (h : MgM NB B S w g) : ArrM 4 bkL w w.heap.size (some ⟨g.ML, 0, none⟩) NB g.l := h.hL.arr (by rw [h.len]; have := h.nb; omega)
theorem at_set (l : List Bk) {k : Nat} (y : Bk) (hk : k < l.length) : Gc.at_ (l.set k y) k = y := by
 rw [Gc.at_, List.getD_eq_getElem?_getD, List.getElem?_set_self hk]; rfl
theorem at_set_other (l : List Bk) {k j : Nat} (y : Bk) (hj : j ≠ k) : Gc.at_ (l.set k y) j = Gc.at_ l j := by
 rw [Gc.at_, List.getD_eq_getElem?_getD, List.getElem?_set_ne (Ne.symm hj)]; rfl
end
end
section
open Go.RowKit

theorem geoF0 (a b c : Value) : ∀ u : World, (Instr.field 66 (.agg #[a, b, c]) 0).run Tryz.prog u = .ok a u := fun u => by kernel_rfl
theorem geoF1 (a b c : Value) : ∀ u : World, (Instr.field 66 (.agg #[a, b, c]) 1).run Tryz.prog u = .ok b u := fun u => by kernel_rfl
theorem geoF2 (a b c : Value) : ∀ u : World, (Instr.field 66 (.agg #[a, b, c]) 2).run Tryz.prog u = .ok c u := fun u => by kernel_rfl
section
variable {NB B : Nat} {S : Nat → Prop} {w : World} {g : Mg}
theorem bready_calls (h : MgM NB B S w g) :
  Calls Tryz.prog 195 #[.pointer (some ⟨g.M, 0, none⟩)] w fun e w' => e = .returned (.int .i64 0) ∧ w = w' := by
 have m0 := h.m0
 have HU := hid (chUp_calls h.hc)
 clear h
 go_enter Tryz.func195, Tryz.ntmps195
 go_wp2_with fail
 refine (HU.out).mono ?_
 rintro e w_ ⟨rfl, rfl⟩
 go_wp2
 go_ret
 exact ⟨rfl, rfl⟩
theorem bpages_calls (h : MgM NB B S w g) :
  Calls Tryz.prog 194 #[.pointer (some ⟨g.M, 0, none⟩)] w fun e w' => e = .returned (.int .i64 8) ∧ Below w.heap.size w w' := by
 have m0 := h.m0
 have HU := hid (chGeo_calls h.hc)
 clear h
 go_enter Tryz.func194, Tryz.ntmps194
 go_wp2_with fail
 refine HU.out.mono ?_
 rintro e w1 ⟨rfl, hb⟩
 have HB := hid hb
 clear hb m0
 have hf := geoF1 (.int .i64 (NB : Int)) (.int .i64 8) (.int .i64 64)
 unfold geoV
 go_wp2
 go_ret
 exact ⟨rfl, HB.out⟩
theorem bthere_calls (h : MgM NB B S w g) {k : Nat} (hk : k < NB) :
  Calls Tryz.prog 157 #[.pointer (some ⟨g.M, 0, none⟩), .int .i64 (k : Int)] w fun e w' => e = .returned (.bool (Gc.good (Gc.at_ g.l k))) ∧ w = w' := by
 have m1 := h.m1
 have r0 := (h.r0 hk).1
 have g1 : (0 : Int) ≤ (k : Int) := by omega
 have g2 : (k : Int) < (NB : Int) := by omega
 clear h hk
 go_enter Tryz.func157, Tryz.ntmps157
 go_wp2
 go_ret
 exact ⟨rfl, rfl⟩
def dropB (x : Bk) : Bk := ⟨if x.st = 2 ∧ x.live - 1 = 0 then 3 else x.st, x.live - 1, x.wear, x.nx⟩
theorem bDrop_calls (h : MgM NB B S w g) {k : Nat} (hk : k < NB) (hg : Gc.good (Gc.at_ g.l k) = true) (hv : 0 < (Gc.at_ g.l k).live) (hv2 : (Gc.at_ g.l k).live ≤ 1000) :
  Calls Tryz.prog 117 #[.pointer (some ⟨g.M, 0, none⟩), .int .i64 (k : Int)] w fun e w' => e = .returned (.int .i64 0) ∧ MgM NB B S w' { g with l := g.l.set k (dropB (Gc.at_ g.l k)) } ∧ Kq (fun q => q = g.ML) w w' := by
 have HT := hid (bthere_calls h hk)
 rw [hg] at HT
 have hlen := h.len
 have m1 := h.m1
 have r1 := (h.r1 hk).1
 have f1 := (h.r1 hk).2
 obtain ⟨x, hx⟩ : ∃ x, x = Gc.at_ g.l k := ⟨_, rfl⟩
 rw [← hx] at r1 hv hv2 ⊢
 have h1 := h.setL hk (j := 1) (by omega) (.int .i64 ((x.live - 1 : Nat) : Int)) { x with live := x.live - 1 } (by rw [← hx]; rfl)
 have m1' := h1.m1
 have s0 := h1.r0 hk
 have s1 := (h1.r1 hk).1
 rw [at_set _ _ (by omega)] at s0 s1
 obtain ⟨s0, t0⟩ := s0
 have k1 : Kq (fun q => q = g.ML) w (w.setCell ⟨g.ML, k * 4 + 1, none⟩ (.int .i64 ((x.live - 1 : Nat) : Int))) := Kq.one ⟨_, _, none⟩ _
 have h2 := h1.setL hk (j := 0) (by omega) (.int .i64 3) ⟨3, x.live - 1, x.wear, x.nx⟩ (by rw [at_set _ _ (by omega)]; rfl)
 have k2 := k1.setCell (p := ⟨g.ML, k * 4 + 0, none⟩) (.inl rfl) (.int .i64 3)
 have e2 : (g.l.set k { x with live := x.live - 1 }).set k ⟨3, x.live - 1, x.wear, x.nx⟩ = g.l.set k ⟨3, x.live - 1, x.wear, x.nx⟩ := List.set_set ..
 simp only [e2, Nat.add_zero] at h2 k2
 have H1 := hid h1
 have H2 := hid h2
 have HK1 := hid k1
 have HK2 := hid k2
 have hd : decide ((x.live : Int) = 0) = false := decide_eq_false (by omega)
 have hd2 : ((x.live : Int) == 0) = false := by rw [beq_eq_false_iff_ne]; omega
 have e1 : ((x.live - 1 : Nat) : Int) = (x.live : Int) - 1 := by omega
 rw [e1] at H1 H2 HK1 HK2 m1' s0 s1 t0
 have g1 : (0 : Int) ≤ (k : Int) := by omega
 have g2 : (k : Int) < (NB : Int) := by omega
 have i1 := IntWalk.i64_in ((x.live : Int) - 1) ⟨by omega, by omega⟩
 have HX := hid hx
 have HE1 := hid e1
 clear h hg h1 h2 k1 k2 hx e2 e1
 simp only at m1' s0 s1
 go_enter Tryz.func117, Tryz.ntmps117
 go_wp2_with fail
 refine (HT.out).mono ?_
 rintro e w_ ⟨rfl, rfl⟩
 go_upto_region 6 with fail
 generalize w.setCell ⟨g.ML, k * 4 + 1, none⟩ (.int .i64 ((x.live : Int) - 1)) = w1 at *
 clear m1 r1 f1
 by_cases hs : x.st = 2
 ·by_cases hz : x.live = 1
  ·have e3 : dropB x = ⟨3, x.live - 1, x.wear, x.nx⟩ := by unfold dropB; rw [if_pos ⟨hs, by omega⟩]
   have E3 := hid e3
   rw [hs] at s0
   rw [hz] at s1
   clear hs hz e3
   go_wp2_with fail
   go_ret
   exact ⟨rfl, by rw [E3.out]; exact H2.out, HK2.out⟩
  ·have e3 : dropB x = { x with live := x.live - 1 } := by unfold dropB; rw [if_neg (fun h => by have := h.2; omega)]
   have hz2 : ((x.live : Int) - 1 == 0) = false := by rw [beq_eq_false_iff_ne]; omega
   have E3 := hid e3
   rw [hs] at s0
   clear hs hz e3
   go_wp2_with fail
   go_ret
   exact ⟨rfl, by rw [E3.out]; exact H1.out, HK1.out⟩
 ·have e3 : dropB x = { x with live := x.live - 1 } := by unfold dropB; rw [if_neg (fun h => hs h.1)]
  have hs2 : ((x.st : Int) == 2) = false := by rw [beq_eq_false_iff_ne]; omega
  have E3 := hid e3
  clear hs e3
  go_wp2_with fail
  go_ret
  exact ⟨rfl, by rw [E3.out]; exact H1.out, HK1.out⟩
end
end
end Go.Proofs.YtcppkaphlcflgaaGreat
