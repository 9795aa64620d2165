/-
  A block's next page is laid: put.
-/
/-
  A page is programmed.
-/
import Derived.Test.YtkkkggeagjgbeaaNandOnes
import Derived.Test.YtkkkggeagjgbeaaNandFault
import Derived.Test.YtkkkggeagjgbeaaSlClone
namespace Go.Proofs.Ytkkkggeagjgbeaa
open Go.RowKit

set_option maxRecDepth 100000 in
set_option maxHeartbeats 4000000 in
theorem bput_calls (base N0 C BL P K nx : Nat) (x : Cn) (ls : Nat → Option (List UInt8)) (fs : List Fl) (a : Option Addr) (n c : Nat) (L : List UInt8) (w : World) (h : Chp base N0 w C BL P K x nx ls fs) (hn : nx < 8) (hv : PgAt w N0 (.slice a n c) (some L)) :
    Calls Try.prog 63 #[.pointer (some ⟨BL, K * 5, none⟩), .slice a n c] w fun e w' => e = .returned (.tuple #[]) ∧ Chp base N0 w' C BL P K x (nx + 1) (fun i => if i = nx then some L else ls i) fs ∧ Kp C BL P w w' := by
  have hbd : Below w.heap.size w w.drew := ⟨rfl, rfl, rfl, Nat.le_refl _, fun _ _ => rfl⟩
  have hd := (h.on hbd)
  have b0 := hd.b0.1
  have b1 := hd.b1.1
  obtain ⟨vp, p0, p1, _⟩ := hd.page hn
  have H1 := Lib.hid (h.setP nx hv).drew
  have HB1 := Lib.hid (((Kp.refl C BL P w).setCell (p := ⟨P, nx, none⟩) (.inr (.inr rfl)) (.slice a n c)).on (below_drew _))
  have dBP : P ≠ BL := Ne.symm h.dis.2.2.1
  have g1 : (0 : Int) ≤ (nx : Int) := by omega
  have g2 : (nx : Int) < 8 := by omega
  clear h hv hd hbd
  go_enter Try.func63, Try.ntmps63
  go_wp2_with fail
  refine wp_region_noPanic ?_
  refine wp_region_held_drew (S := (fun W' => W'.cell? ⟨BL, K * 5, none⟩ = some (.slice (some ⟨P, 0, none⟩) 8 8) ∧ W'.cell? ⟨BL, K * 5 + 1, none⟩ = some (.int .i64 (nx : Int)))) (by kernel_rfl) ⟨b0, b1⟩ (fun hS0 => ?_)
  refine takeV 0 (v := (.pointer (some ⟨BL, K * 5, none⟩))) rfl (by kernel_rfl) (by kernel_rfl) (by kernel_rfl) (fun _ _ _ h => h) (by rfl) (fun _ _ => rfl) (by assumption) ?_
  try simp only [layR]
  refine takeV 1 (v := (.pointer (some ⟨BL, K * 5, none⟩))) rfl (by kernel_rfl) (by kernel_rfl) (by kernel_rfl) (fun _ _ _ h => h) (by rfl) (fun W hSw => ?_) (by assumption) ?_
  · skip
    go_simp
  try simp only [layR]
  refine takeV 2 (v := (.pointer (some ⟨BL, K * 5, none⟩))) rfl (by kernel_rfl) (by kernel_rfl) (by kernel_rfl) (fun _ _ _ h => h) (by rfl) (fun W hSw => ?_) (by assumption) ?_
  · skip
    go_simp
  try simp only [layR]
  refine takeV 3 (v := (.slice (some ⟨P, 0, none⟩) 8 8)) rfl (by kernel_rfl) (by kernel_rfl) (by kernel_rfl) (fun _ _ _ h => h) (by rfl) (fun W hSw => ?_) (by assumption) ?_
  · have c9 := hSw.1
    go_simp
  try simp only [layR]
  refine takeV 4 (v := (.pointer (some ⟨BL, K * 5, none⟩))) rfl (by kernel_rfl) (by kernel_rfl) (by kernel_rfl) (fun _ _ _ h => h) (by rfl) (fun _ _ => rfl) (by assumption) ?_
  try simp only [layR]
  refine takeV 5 (v := (.pointer (some ⟨BL, K * 5, none⟩))) rfl (by kernel_rfl) (by kernel_rfl) (by kernel_rfl) (fun _ _ _ h => h) (by rfl) (fun W hSw => ?_) (by assumption) ?_
  · skip
    go_simp
  try simp only [layR]
  refine takeV 6 (v := (.pointer (some ⟨BL, K * 5 + 1, none⟩))) rfl (by kernel_rfl) (by kernel_rfl) (by kernel_rfl) (fun _ _ _ h => h) (by rfl) (fun W hSw => ?_) (by assumption) ?_
  · skip
    go_simp
  try simp only [layR]
  refine takeV 7 (v := (.int .i64 (nx : Int))) rfl (by kernel_rfl) (by kernel_rfl) (by kernel_rfl) (fun _ _ _ h => h) (by rfl) (fun W hSw => ?_) (by assumption) ?_
  · have c9 := hSw.2
    go_simp
  try simp only [layR]
  refine takeV 8 (v := (.slice a n c)) rfl (by kernel_rfl) (by kernel_rfl) (by kernel_rfl) (fun _ _ _ h => h) (by rfl) (fun _ _ => rfl) (by assumption) ?_
  try simp only [layR]
  refine takeV 9 (v := (.pointer (some ⟨P, nx, none⟩))) rfl (by kernel_rfl) (by kernel_rfl) (by kernel_rfl) (fun _ _ _ h => h) (by rfl) (fun W hSw => ?_) (by assumption) ?_
  · skip
    go_simp
  try simp only [layR]
  refine wpAnyH_ready (rs := [10]) (by kernel_rfl) (by simp) ?_
  refine AllReadyH.cons rfl (fun K' hK => ?_) AllReadyH.nil
  go_simp
  refine hK.out _ _ ⟨(World.cell?_setCell_far _ _ _ _ (by simpa using dBP)).trans hS0.1, (World.cell?_setCell_far _ _ _ _ (by simpa using dBP)).trans hS0.2⟩ (fun hS1 => ?_)
  try simp only [layR]
  refine wpAnyH_done (by kernel_rfl) ?_ _
  refine NoPanic.normal ?_
  clear hS0 hS1 b0 b1 p0 p1
  obtain ⟨w2, hw2⟩ : ∃ w2, w2 = (w.setCell ⟨P, nx, none⟩ (.slice a n c)).drew := ⟨_, rfl⟩
  rw [← hw2] at H1 HB1
  have c1 := H1.out.b1.1
  have f1 := H1.out.b1.2
  have H2 := Lib.hid (H1.out.setN (nx + 1))
  have HB2 := Lib.hid (HB1.out.setCell (p := ⟨BL, K * 5 + 1, none⟩) (.inr (.inl rfl)) (.int .i64 ((nx + 1 : Nat) : Int)))
  have e1 : ((nx + 1 : Nat) : Int) = (nx : Int) + 1 := by omega
  rw [e1] at H2 HB2
  rw [← hw2]
  clear hw2 e1
  go_wp2
  go_end0
  exact ⟨rfl, H2.out, HB2.out⟩
end Go.Proofs.Ytkkkggeagjgbeaa
namespace Go.Proofs.Ytkkkggeagjgbeaa
open Go.RowKit

set_option maxRecDepth 100000 in
set_option maxHeartbeats 4000000 in
theorem program_ok (base N0 C BL P K i : Nat) (x : Cn) (ls : Nat → Option (List UInt8)) (fs : List Fl) (a : Option Addr) (c : Nat) (bs : List UInt8) (w : World) (h : Chp base N0 w C BL P K x i ls fs) (hd : x.dn = false) (hi : i < 8) (hx : Own byteV 5 w N0 (.slice a 96 c) bs) (hk : (fnd fs x.si).kind = 0) (hsi : x.si ≤ 1000000) (hsk : x.sk ≤ 1000000) (hfl : fs.length ≤ 1000) :
    Calls Try.prog 35 #[.pointer (some ⟨C, 0, none⟩), .int .i64 (K : Int), .int .i64 (i : Int), .slice a 96 c] w fun e w' => e = .returned (.int .i64 0) ∧ Chp base N0 w' C BL P K { x with si := x.si + 1, sk := x.sk + 1 } (i + 1) (fun j => if j = i then some bs else ls j) fs ∧ Kp C BL P w w' := by
  have HA := Lib.hid (asked_calls base N0 C BL P K i i x ls fs w h hd hi)
  have HF := Lib.hid (full_calls base N0 C BL P K i x ls fs w h)
  have HFa := Lib.hid (fault_calls base N0 C BL P K i x ls fs w h hsi hsk hfl)
  rw [hk] at HFa
  have c3 := h.c3
  have b1 := h.b1.1
  have b2 := h.b2.1
  have b3 := h.b3.1
  have g1 : (0 : Int) ≤ (K : Int) := by omega
  have g2 : (K : Int) < 16 := by have := h.hK; omega
  have HX := Lib.hid hx
  have HLen := Lib.hid (show bs.length = 96 by obtain ⟨_, _, e, _⟩ := hx.form; injection e with _ e2 _; exact e2.symm)
  have hd4 := h.dis.2.2.2.1
  have hd5 := h.dis.2.2.2.2.1
  have hd6 := h.dis.2.2.2.2.2.1
  clear h hx hd hk
  go_enter Try.func35, Try.ntmps35
  go_wp2_with fail
  refine (HA.out).mono ?_
  rintro e w_ ⟨rfl, rfl⟩
  go_wp2_with fail
  refine HF.out.mono ?_
  rintro e w_ ⟨rfl, rfl⟩
  go_wp2_with fail
  refine HFa.out.mono ?_
  rintro e w1 ⟨⟨no, dv, rfl, hdv⟩, h1, hk1⟩
  obtain ⟨ad, nd, rfl, hnd⟩ := hdv.form
  have H1 := Lib.hid (h1.on ((Below.refl w1.heap.size w1).alloc (Nat.le_refl _) (.cells #[.int .i64 no, .int .i64 0, .slice ad (fnd fs x.si).data.length nd] 92)))
  have HK1 := Lib.hid (hk1.on ((Below.refl w1.heap.size w1).alloc (Nat.le_refl _) (.cells #[.int .i64 no, .int .i64 0, .slice ad (fnd fs x.si).data.length nd] 92)))
  have HO1 := Lib.hid (Own.kp HX.out HK1.out hd4 hd5 hd6)
  clear h1 hk1 hdv hnd
  generalize (fnd fs x.si).data.length = m at *
  go_wp2_with fail
  refine (clone_calls a 96 c bs _ (HO1.out.arr (by rw [HLen.out]; omega))).mono ?_
  rintro e w3 ⟨⟨v, rfl, hv⟩, hb3⟩
  have H3 := Lib.hid (H1.out.on hb3)
  have HK3 := Lib.hid (HK1.out.on hb3)
  have hlen := HLen.out
  obtain ⟨a3, c3, rfl, hc3⟩ := hv.formN hlen
  have HV := Lib.hid (show PgAt w3 N0 (.slice a3 96 c3) (some bs) from ⟨by rw [hlen]; omega, hv.mono H1.out.hN⟩)
  clear hb3 hv hc3 hlen
  go_wp2_with fail
  refine (bput_calls base N0 C BL P K i _ ls fs a3 96 c3 bs w3 H3.out hi HV.out).mono ?_
  rintro e w4 ⟨rfl, h4, hk4⟩
  have H4 := Lib.hid h4
  have HK4 := Lib.hid (HK3.out.trans hk4)
  clear h4 hk4
  go_wp2_with fail
  go_ret
  exact ⟨rfl, H4.out, HK4.out⟩
set_option maxRecDepth 100000 in
set_option maxHeartbeats 4000000 in
theorem program_torn (base N0 C BL P K i : Nat) (x : Cn) (ls : Nat → Option (List UInt8)) (fs : List Fl) (a : Option Addr) (c : Nat) (bs : List UInt8) (w : World) (h : Chp base N0 w C BL P K x i ls fs) (hd : x.dn = false) (hi : i < 8) (hx : Own byteV 5 w N0 (.slice a 96 c) bs) (hk : (fnd fs x.si).kind = 2) (hdl : (fnd fs x.si).data.length ≤ 96) (hsi : x.si ≤ 1000000) (hsk : x.sk ≤ 1000000) (hfl : fs.length ≤ 1000) :
    Calls Try.prog 35 #[.pointer (some ⟨C, 0, none⟩), .int .i64 (K : Int), .int .i64 (i : Int), .slice a 96 c] w fun e w' => e = .returned (.int .i64 4) ∧ Chp base N0 w' C BL P K { x with si := x.si + 1, sk := x.sk + 1, dn := true } (i + 1) (fun j => if j = i then some (tornL (fnd fs x.si).data) else ls j) fs ∧ Kp C BL P w w' := by
  have HA := Lib.hid (asked_calls base N0 C BL P K i i x ls fs w h hd hi)
  have HF := Lib.hid (full_calls base N0 C BL P K i x ls fs w h)
  have HFa := Lib.hid (fault_calls base N0 C BL P K i x ls fs w h hsi hsk hfl)
  rw [hk] at HFa
  have c3 := h.c3
  have b1 := h.b1.1
  have b2 := h.b2.1
  have b3 := h.b3.1
  have g1 : (0 : Int) ≤ (K : Int) := by omega
  have g2 : (K : Int) < 16 := by have := h.hK; omega
  have HX := Lib.hid hx
  have HLen := Lib.hid (show bs.length = 96 by obtain ⟨_, _, e, _⟩ := hx.form; injection e with _ e2 _; exact e2.symm)
  have hd4 := h.dis.2.2.2.1
  have hd5 := h.dis.2.2.2.2.1
  have hd6 := h.dis.2.2.2.2.2.1
  clear h hx hd hk
  go_enter Try.func35, Try.ntmps35
  go_wp2_with fail
  refine (HA.out).mono ?_
  rintro e w_ ⟨rfl, rfl⟩
  go_wp2_with fail
  refine HF.out.mono ?_
  rintro e w_ ⟨rfl, rfl⟩
  go_wp2_with fail
  refine HFa.out.mono ?_
  rintro e w1 ⟨⟨no, dv, rfl, hdv⟩, h1, hk1⟩
  obtain ⟨ad, nd, rfl, hnd⟩ := hdv.form
  have H1 := Lib.hid (h1.on ((Below.refl w1.heap.size w1).alloc (Nat.le_refl _) (.cells #[.int .i64 no, .int .i64 2, .slice ad (fnd fs x.si).data.length nd] 92)))
  have HK1 := Lib.hid (hk1.on ((Below.refl w1.heap.size w1).alloc (Nat.le_refl _) (.cells #[.int .i64 no, .int .i64 2, .slice ad (fnd fs x.si).data.length nd] 92)))
  have HD := Lib.hid (hdv.on ((Below.refl w1.heap.size w1).alloc (Nat.le_refl _) (.cells #[.int .i64 no, .int .i64 2, .slice ad (fnd fs x.si).data.length nd] 92)))
  have HDl := Lib.hid hdl
  clear h1 hk1 hdv hnd hdl
  generalize hdat : (fnd fs x.si).data = data at *
  have HDat := Lib.hid hdat
  clear hdat
  obtain ⟨m, hm⟩ : ∃ m, m = data.length := ⟨_, rfl⟩
  rw [← hm] at HD HK1 H1 ⊢
  have hm96 : m ≤ 96 := by rw [hm]; exact HDl.out
  have HMl := Lib.hid hm
  clear hm
  go_wp2_with fail
  refine (ctorn_calls base N0 C BL P K i _ ls fs ad m nd data _ H1.out (HD.out.arr (by have := HDl.out; omega)) hm96).mono ?_
  rintro e w3 ⟨⟨v, rfl, hv⟩, hb3⟩
  have H3 := Lib.hid (H1.out.on hb3)
  have HK3 := Lib.hid (HK1.out.on hb3)
  have hlen := tornL_len HDl.out
  obtain ⟨a3, c3, rfl, hc3⟩ := hv.formN hlen
  have HV := Lib.hid (show PgAt w3 N0 (.slice a3 96 c3) (some (tornL data)) from ⟨by rw [hlen]; omega, hv.mono H1.out.hN⟩)
  clear hb3 hv hc3 hlen
  go_wp2_with fail
  refine (bput_calls base N0 C BL P K i _ ls fs a3 96 c3 (tornL data) w3 H3.out hi HV.out).mono ?_
  rintro e w4 ⟨rfl, h4, hk4⟩
  have c6 := h4.c6
  have f6 := h4.frzC 6
  have H4 := Lib.hid (h4.setC (x' := { x with si := x.si + 1, sk := x.sk + 1, dn := true }) 6 (.bool true) rfl rfl)
  have HK4 := Lib.hid ((HK3.out.trans hk4).setCell (p := ⟨C, 6, none⟩) (.inl rfl) (.bool true))
  clear h4 hk4
  go_wp2_with fail
  go_ret
  refine ⟨rfl, ?_, HK4.out⟩
  rw [HDat.out]
  exact H4.out
end Go.Proofs.Ytkkkggeagjgbeaa
