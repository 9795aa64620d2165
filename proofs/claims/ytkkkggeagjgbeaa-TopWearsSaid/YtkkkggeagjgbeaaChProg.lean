/-
  A stroke without faults.
-/
/-
  A page is programmed, a page is read.
-/
import Derived.Test.YtkkkggeagjgbeaaChAsk
import Derived.Test.YtkkkggeagjgbeaaSlClone
namespace Go.Proofs.Ytkkkggeagjgbeaa
open Go.RowKit

section
variable {NB B C BL : Nat} {S : Nat → Prop} {w : World} {ps : Nat → Nat} {bl : Nat → Pb}
theorem ChM.set5 (h : ChM NB B S w C BL ps bl) (x : Int) : ChM NB B S (w.setCell ⟨C, 5, none⟩ (.int .i64 x)) C BL ps bl := h.setC 5 _ fun _ sk rd => ⟨x, sk, rd, rfl⟩
theorem ChM.set7 (h : ChM NB B S w C BL ps bl) (x : Int) : ChM NB B S (w.setCell ⟨C, 7, none⟩ (.int .i64 x)) C BL ps bl := h.setC 7 _ fun si _ rd => ⟨si, x, rd, rfl⟩
theorem ChM.set8 (h : ChM NB B S w C BL ps bl) (x : Int) : ChM NB B S (w.setCell ⟨C, 8, none⟩ (.int .i64 x)) C BL ps bl := h.setC 8 _ fun si sk _ => ⟨si, sk, x, rfl⟩
set_option maxHeartbeats 4000000 in
theorem chFault_calls (h : ChM NB B S w C BL ps bl) :
    Calls Try.prog 59 #[.pointer (some ⟨C, 0, none⟩)] w fun e w' => e = .returned (.agg #[.int .i64 0, .int .i64 0, .slice none 0 0]) ∧ ChM NB B S w' C BL ps bl ∧ Kq (fun q => q = C) w w' := by
  obtain ⟨si, sk, rd, hC⟩ := h.hC
  have c5 : w.cell? ⟨C, 5, none⟩ = some (.int .i64 si) := hC.cellv rfl
  have c7 : w.cell? ⟨C, 7, none⟩ = some (.int .i64 sk) := hC.cellv rfl
  have c4 := h.c4
  have f5 := h.frzC 5
  have f7 := h.frzC 7
  have hA := (h.set5 (wrap64 (si + 1))).set7 (wrap64 (sk + 1))
  have hK := (Kq.one (w := w) ⟨C, 5, none⟩ (.int .i64 (wrap64 (si + 1)))).setCell (p := ⟨C, 7, none⟩) (.inl rfl) (.int .i64 (wrap64 (sk + 1)))
  have HA := Lib.hid hA
  have HG := Lib.hid (show ((w.setCell ⟨C, 5, none⟩ (.int .i64 (wrap64 (si + 1)))).setCell ⟨C, 7, none⟩ (.int .i64 (wrap64 (sk + 1)))).heap.size = w.heap.size by simp)
  have HK := Lib.hid hK
  have hlt := h.ltC
  clear h hC hA hK
  go_enter Try.func59, Try.ntmps59
  go_wp2
  go_step3
  go_wp2_with fail
  clear c5 c7 c4 f5 f7
  generalize (w.setCell ⟨C, 5, none⟩ (.int .i64 (wrap64 (si + 1)))).setCell ⟨C, 7, none⟩ (.int .i64 (wrap64 (sk + 1))) = wA at *
  generalize w.heap.size = g at *
  have hbb := ((Below.refl wA.heap.size wA).alloc (Nat.le_refl _) (.cells #[.int .i64 0, .int .i64 0, .slice none 0 0] 92)).alloc (by simp) (.cells #[.int .i64 0, .int .i64 0, .slice none 0 0] 92)
  have ra := (Blk.new wA 92 #[.int .i64 0, .int .i64 0, .slice none 0 0]).alloc (.cells #[.int .i64 0, .int .i64 0, .slice none 0 0] 92)
  have rb := Blk.new (wA.alloc (.cells #[.int .i64 0, .int .i64 0, .slice none 0 0] 92)) 92 #[.int .i64 0, .int .i64 0, .slice none 0 0]
  rw [World.size_alloc] at rb
  rw [HG.out] at ra rb
  have HBb := Lib.hid hbb
  have H2 := HA.out.on hbb
  have c4 := H2.c4
  generalize (wA.alloc (.cells #[.int .i64 0, .int .i64 0, .slice none 0 0] 92)).alloc (.cells #[.int .i64 0, .int .i64 0, .slice none 0 0] 92) = w2 at *
  have e0 := rb.cellv (i := 0) rfl
  have e1 := rb.cellv (i := 1) rfl
  have e2 := rb.cellv (i := 2) rfl
  have i0 := ra.cellv (i := 0) rfl
  have i1 := ra.cellv (i := 1) rfl
  have i2 := ra.cellv (i := 2) rfl
  have j0 := ra.frozen 0
  have j1 := ra.frozen 1
  have j2 := ra.frozen 2
  have HR := Lib.hid ra
  clear hbb H2 ra rb
  go_step3
  go_wp2
  go_loopw [6, 31] (fun _ i wr => i = .int .i64 0 ∧ wr = w2) (fun _ _ _ => 0)
  case atStart => exact ⟨rfl, rfl⟩
  case round =>
    obtain ⟨rfl, rfl⟩ := hrel
    have hgA : wA.heap.size ≤ g := by have := HG.out; omega
    have HB2 := Lib.hid (((HBb.out.setCell (p := ⟨g, 0, none⟩) hgA (.int .i64 0)).setCell (p := ⟨g, 1, none⟩) hgA (.int .i64 0)).setCell (p := ⟨g, 2, none⟩) hgA (.slice none 0 0))
    have hs := ((HR.out.set 0 (.int .i64 0)).set 1 (.int .i64 0)).set 2 (.slice none 0 0)
    have q0 := hs.cellv (i := 0) (v := .int .i64 0) rfl
    have q1 := hs.cellv (i := 1) (v := .int .i64 0) rfl
    have q2 := hs.cellv (i := 2) (v := .slice none 0 0) rfl
    clear hs hgA
    go_wp2
    rw [Exit.noGoto_ret]
    refine bodyPost_ret (v := .agg #[.int .i64 0, .int .i64 0, .slice none 0 0]) (by simp [results, Try.results59, go_sem, q0, q1, q2]) rfl ⟨rfl, HA.out.on HB2.out, HK.out.on HB2.out⟩
end
end Go.Proofs.Ytkkkggeagjgbeaa
namespace Go.Proofs.Ytkkkggeagjgbeaa
open Go.RowKit

section
variable {NB B C BL : Nat} {S : Nat → Prop} {w : World} {ps : Nat → Nat} {bl : Nat → Pb}
/-- Behind a page that went well. -/
def pbNext (x : Pb) (i : Nat) (L : List UInt8) : Pb := { x with pgs := upd x.pgs i (some L), nx := i + 1 }
def pbPage (x : Pb) (i : Nat) (L : List UInt8) : Pb := { x with pgs := upd x.pgs i (some L) }
theorem upd_upd {α : Type} (f : Nat → α) (k : Nat) (u v : α) : upd (upd f k u) k v = upd f k v := by
  funext j
  unfold upd
  split <;> rfl
set_option maxHeartbeats 2000000 in
theorem chPut_calls (h : ChM NB B S w C BL ps bl) {k i : Nat} (hk : k < NB) (hi : i < 8) (hn : (bl k).nx = i) (a : Option Addr) (n c : Nat) (L : List UInt8) (hv : PgS S (Mu NB C BL ps) w (.slice a n c) (some L)) :
    Calls Try.prog 63 #[.pointer (some ⟨BL, k * 5, none⟩), .slice a n c] w fun e w' => e = .returned (.tuple #[]) ∧ ChM NB B S w' C BL ps (upd bl k (pbNext (bl k) i L)) ∧ Kq (fun q => q = BL ∨ q = ps k) w w' := by
  have hd := h.on (below_drew w)
  have b0 := (hd.b0 hk).1
  have b1 : w.drew.cell? ⟨BL, k * 5 + 1, none⟩ = some (.int .i64 (i : Int)) := by rw [← hn]; exact (hd.b1 hk).1
  obtain ⟨v, p0, p1, _⟩ := hd.page hk hi
  have H1 := Lib.hid ((h.setP (i := i) hk (.slice a n c) (some L) hv (pbPage (bl k) i L) rfl rfl).on (below_drew _))
  have HB1 := Lib.hid (((Kq.refl (fun q => q = BL ∨ q = ps k) w).setCell (p := ⟨ps k, i, none⟩) (.inl (.inr rfl)) (.slice a n c)).on (below_drew _))
  have dBP : ps k ≠ BL := h.dis.pb k hk
  have g1 : (0 : Int) ≤ (i : Int) := by omega
  have g2 : (i : Int) < 8 := by omega
  have HN := Lib.hid hn
  clear h hv hd hn
  generalize hP : ps k = P at *
  have HPe := Lib.hid hP
  clear hP
  go_enter Try.func63, Try.ntmps63
  go_wp2_with fail
  refine wp_region_noPanic ?_
  refine wp_region_held_drew (S := (fun W' => W'.cell? ⟨BL, k * 5, none⟩ = some (.slice (some ⟨P, 0, none⟩) 8 8) ∧ W'.cell? ⟨BL, k * 5 + 1, none⟩ = some (.int .i64 (i : Int)))) (by kernel_rfl) ⟨b0, b1⟩ (fun hS0 => ?_)
  refine takeV 0 (v := (.pointer (some ⟨BL, k * 5, none⟩))) rfl (by kernel_rfl) (by kernel_rfl) (by kernel_rfl) (fun _ _ _ h => h) (by rfl) (fun _ _ => rfl) (by assumption) ?_
  try simp only [layR]
  refine takeV 1 (v := (.pointer (some ⟨BL, k * 5, none⟩))) rfl (by kernel_rfl) (by kernel_rfl) (by kernel_rfl) (fun _ _ _ h => h) (by rfl) (fun W hSw => ?_) (by assumption) ?_
  · skip
    go_simp
  try simp only [layR]
  refine takeV 2 (v := (.pointer (some ⟨BL, k * 5, none⟩))) rfl (by kernel_rfl) (by kernel_rfl) (by kernel_rfl) (fun _ _ _ h => h) (by rfl) (fun W hSw => ?_) (by assumption) ?_
  · skip
    go_simp
  try simp only [layR]
  refine takeV 3 (v := (.slice (some ⟨P, 0, none⟩) 8 8)) rfl (by kernel_rfl) (by kernel_rfl) (by kernel_rfl) (fun _ _ _ h => h) (by rfl) (fun W hSw => ?_) (by assumption) ?_
  · have c9 := hSw.1
    go_simp
  try simp only [layR]
  refine takeV 4 (v := (.pointer (some ⟨BL, k * 5, none⟩))) rfl (by kernel_rfl) (by kernel_rfl) (by kernel_rfl) (fun _ _ _ h => h) (by rfl) (fun _ _ => rfl) (by assumption) ?_
  try simp only [layR]
  refine takeV 5 (v := (.pointer (some ⟨BL, k * 5, none⟩))) rfl (by kernel_rfl) (by kernel_rfl) (by kernel_rfl) (fun _ _ _ h => h) (by rfl) (fun W hSw => ?_) (by assumption) ?_
  · skip
    go_simp
  try simp only [layR]
  refine takeV 6 (v := (.pointer (some ⟨BL, k * 5 + 1, none⟩))) rfl (by kernel_rfl) (by kernel_rfl) (by kernel_rfl) (fun _ _ _ h => h) (by rfl) (fun W hSw => ?_) (by assumption) ?_
  · skip
    go_simp
  try simp only [layR]
  refine takeV 7 (v := (.int .i64 (i : Int))) rfl (by kernel_rfl) (by kernel_rfl) (by kernel_rfl) (fun _ _ _ h => h) (by rfl) (fun W hSw => ?_) (by assumption) ?_
  · have c9 := hSw.2
    go_simp
  try simp only [layR]
  refine takeV 8 (v := (.slice a n c)) rfl (by kernel_rfl) (by kernel_rfl) (by kernel_rfl) (fun _ _ _ h => h) (by rfl) (fun _ _ => rfl) (by assumption) ?_
  try simp only [layR]
  refine takeV 9 (v := (.pointer (some ⟨P, i, none⟩))) rfl (by kernel_rfl) (by kernel_rfl) (by kernel_rfl) (fun _ _ _ h => h) (by rfl) (fun W hSw => ?_) (by assumption) ?_
  · skip
    go_simp
  try simp only [layR]
  refine wpAnyH_ready (rs := [10]) (by kernel_rfl) (by simp) ?_
  refine AllReadyH.cons rfl (fun K' hK => ?_) AllReadyH.nil
  go_simp
  refine hK.out _ _ ⟨(World.cell?_setCell_far _ _ _ _ (by simpa using dBP)).trans hS0.1, (World.cell?_setCell_far _ _ _ _ (by simpa using dBP)).trans hS0.2⟩ (fun hS1 => ?_)
  try simp only [layR]
  refine wpAnyH_done (by kernel_rfl) ?_ _
  refine NoPanic.normal ?_
  clear hS0 hS1 b0 b1 p0 p1
  obtain ⟨w2, hw2⟩ : ∃ w2, w2 = (w.setCell ⟨P, i, none⟩ (.slice a n c)).drew := ⟨_, rfl⟩
  rw [← hw2] at H1 HB1
  have c1 := (H1.out.b1 hk).1
  have f1 := (H1.out.b1 hk).2
  rw [upd_same] at c1
  have c1' : w2.cell? ⟨BL, k * 5 + 1, none⟩ = some (.int .i64 (i : Int)) := by rw [← HN.out]; exact c1
  have H2 := Lib.hid (H1.out.setB (k := k) (j := 1) hk (by omega) (.int .i64 ((i + 1 : Nat) : Int)) (pbNext (bl k) i L) (by rw [upd_same]; rfl) (by rw [upd_same]; rfl))
  rw [upd_upd] at H2
  have HB2 := Lib.hid (HB1.out.setCell (p := ⟨BL, k * 5 + 1, none⟩) (.inl (.inl rfl)) (.int .i64 ((i + 1 : Nat) : Int)))
  have e1 : ((i + 1 : Nat) : Int) = (i : Int) + 1 := by omega
  rw [e1] at H2 HB2
  rw [← hw2]
  clear hw2 e1 c1
  go_wp2
  go_end0
  exact ⟨rfl, H2.out, HB2.out⟩
theorem ChM.base (h : ChM NB B S w C BL ps bl) : B ≤ w.heap.size := by
  have h1 := h.lo C (h.hS C (.inl rfl))
  have h2 := h.ltC
  omega
theorem ChM.up {w0 : World} (h : ChM NB B S w C BL ps bl) (h0 : B ≤ w0.heap.size) : ChM NB B (Up S w0 w) w C BL ps bl :=
  h.wide (fun _ hs => .inl hs) (fun k hk => by rcases hk with h1 | h1; exact h.lo k h1; omega) (fun k hk => by rcases hk with h1 | h1; exact h.hi k h1; exact h1.2)
theorem ChM.upup {w0 w1 : World} (h : ChM NB B (Up S w0 w1) w C BL ps bl) (h0 : B ≤ w0.heap.size) (hs : w1.heap.size ≤ w.heap.size) : ChM NB B (Up S w0 w) w C BL ps bl :=
  h.wide (fun k hk => by rcases hk with h1 | h1; exact .inl h1; exact .inr (by omega)) (fun k hk => by rcases hk with h1 | h1; exact h.lo k (.inl h1); omega) (fun k hk => by rcases hk with h1 | h1; exact h.hi k (.inl h1); exact h1.2)
theorem ChM.re {w0 wa wb : World} (h : ChM NB B (Up S wa wb) w C BL ps bl) (h0 : B ≤ w0.heap.size) (h1 : w0.heap.size ≤ wa.heap.size) (hs : wb.heap.size ≤ w.heap.size) : ChM NB B (Up S w0 w) w C BL ps bl :=
  h.wide (fun k hk => by rcases hk with h2 | h2; exact .inl h2; exact .inr (by omega)) (fun k hk => by rcases hk with h2 | h2; exact h.lo k (.inl h2); omega) (fun k hk => by rcases hk with h2 | h2; exact h.hi k (.inl h2); exact h2.2)
theorem up_trans {S : Nat → Prop} {a b c : World} (h1 : a.heap.size ≤ b.heap.size) (h2 : b.heap.size ≤ c.heap.size) {k : Nat} (h : Up (Up S a b) b c k) : Up S a c k := by
  rcases h with (h | h) | h
  · exact .inl h
  · exact .inr (by omega)
  · exact .inr (by omega)
theorem ChM.pgNew {w0 : World} (h : ChM NB B S w C BL ps bl) {v : Value} {L : List UInt8} (hl : L.length = 96) (ho : Own byteV 5 w w0.heap.size v L) (hs : ∀ k, S k → k < w0.heap.size) : PgS (Up S w0 w) (Mu NB C BL ps) w v (some L) :=
  ⟨hl, ho.mono (Nat.zero_le _), fun g hg => ⟨.inr (ho.blockLt g hg), fun hm => by have := hs g (h.hS g hm); have := (ho.blockLt g hg).1; omega⟩⟩
set_option maxRecDepth 100000 in
set_option maxHeartbeats 4000000 in
theorem chProgram_calls (h : ChM NB B S w C BL ps bl) {k i : Nat} (hk : k < NB) (hi : i < 8) (hn : (bl k).nx = i) (hb1 : (bl k).bad = false) (hb2 : (bl k).broken = false) (a : Option Addr) (c : Nat) (bs : List UInt8) (hx : Own byteV 5 w 0 (.slice a 96 c) bs) (hap : ∀ g, Value.ownBlock (.slice a 96 c) = some g → ¬ S g) :
    Calls Try.prog 35 #[.pointer (some ⟨C, 0, none⟩), .int .i64 (k : Int), .int .i64 (i : Int), .slice a 96 c] w fun e w' => e = .returned (.int .i64 0) ∧ ChM NB B (Up S w w') w' C BL ps (upd bl k (pbNext (bl k) i bs)) ∧ Kq S w w' := by
  have HA := Lib.hid (chAsked_calls h hk hi)
  have HF := Lib.hid (chFull_calls h)
  have HFa := Lib.hid (chFault_calls h)
  have c3 := h.c3
  have b1 := (h.b1 hk).1
  have b2 := (h.b2 hk).1
  have b3 := (h.b3 hk).1
  rw [hn] at b1
  rw [hb2] at b2
  rw [hb1] at b3
  have g1 : (0 : Int) ≤ (k : Int) := by omega
  have g2 : (k : Int) < (NB : Int) := by omega
  have HX := Lib.hid hx
  have HLen := Lib.hid (show bs.length = 96 by obtain ⟨_, _, e, _⟩ := hx.form; injection e with _ e2 _; exact e2.symm)
  have HAp := Lib.hid hap
  have HH := Lib.hid h
  have HN := Lib.hid hn
  clear h hx hap hn hb1 hb2
  go_enter Try.func35, Try.ntmps35
  go_wp2_with fail
  refine (HA.out).mono ?_
  rintro e w_ ⟨rfl, rfl⟩
  go_wp2_with fail
  refine HF.out.mono ?_
  rintro e w_ ⟨rfl, rfl⟩
  go_wp2_with fail
  refine HFa.out.mono ?_
  rintro e w1 ⟨rfl, h1, hk1⟩
  have hba := (Below.refl w1.heap.size w1).alloc (Nat.le_refl _) (.cells #[.int .i64 0, .int .i64 0, .slice none 0 0] 92)
  have H1 := Lib.hid (h1.on hba)
  have HK1 := Lib.hid ((hk1.mono (T' := S) fun q hq => hq ▸ HH.out.hS C (.inl rfl)).on hba)
  have HX1 := Lib.hid (HX.out.kq HK1.out HAp.out)
  clear h1 hk1 hba
  go_wp2_with fail
  refine (clone_calls a 96 c bs _ (HX1.out.arr (by rw [HLen.out]; omega))).mono ?_
  rintro e w3 ⟨⟨v, rfl, hv⟩, hb3⟩
  have HK3 := Lib.hid (HK1.out.on hb3)
  have hhi := HH.out.hi
  have hsz := HK1.out.size
  have HC3 := Lib.hid ((H1.out.on hb3).up (w0 := w) HH.out.base)
  have hlen := HLen.out
  obtain ⟨a3, c3, rfl, hc3⟩ := hv.formN hlen
  have HV := Lib.hid ((H1.out.on hb3).pgNew (w0 := w) hlen (hv.mono hsz) hhi)
  clear hb3 hv hc3 hlen hhi hsz
  go_wp2_with fail
  refine (chPut_calls HC3.out hk hi HN.out a3 96 c3 bs HV.out).mono ?_
  rintro e w4 ⟨rfl, h4, hk4⟩
  have HK4 := Lib.hid (HK3.out.then_ hk4 fun q hq => .inl (by rcases hq with rfl | rfl; exact HH.out.hS _ (.inr (.inl rfl)); exact HH.out.hS _ (.inr (.inr ⟨k, hk, rfl⟩))))
  have H4 := Lib.hid (h4.upup HH.out.base hk4.size)
  clear h4 hk4
  go_wp2_with fail
  go_ret
  exact ⟨rfl, H4.out, HK4.out⟩
end
end Go.Proofs.Ytkkkggeagjgbeaa
