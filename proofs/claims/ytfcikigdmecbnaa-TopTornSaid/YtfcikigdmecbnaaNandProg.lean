/-
  A page is programmed.
-/
import Derived.Test.YtfcikigdmecbnaaNandFault
import Derived.Test.YtfcikigdmecbnaaNandPut
import Derived.Test.YtfcikigdmecbnaaSlClone
namespace Go.Proofs.Ytfcikigdmecbnaa
open Go.RowKit

set_option maxRecDepth 100000 in
set_option maxHeartbeats 4000000 in
theorem program_ok (base N0 C BL P K i : Nat) (x : Cn) (ls : Nat → Option (List UInt8)) (fs : List Fl) (a : Option Addr) (c : Nat) (bs : List UInt8) (w : World) (h : Chp base N0 w C BL P K x i ls fs) (hd : x.dn = false) (hi : i < 8) (hx : Own byteV 5 w N0 (.slice a 96 c) bs) (hk : (fnd fs x.si).kind = 0) (hsi : x.si ≤ 1000000) (hsk : x.sk ≤ 1000000) (hfl : fs.length ≤ 1000) :
    Calls Try.prog 9 #[.pointer (some ⟨C, 0, none⟩), .int .i64 (K : Int), .int .i64 (i : Int), .slice a 96 c] w fun e w' => e = .returned (.int .i64 0) ∧ Chp base N0 w' C BL P K { x with si := x.si + 1, sk := x.sk + 1 } (i + 1) (fun j => if j = i then some bs else ls j) fs ∧ Kp C BL P w w' := by
  have HA := Lib.hid (asked_calls base N0 C BL P K i i x ls fs w h hd hi)
  have HF := Lib.hid (full_calls base N0 C BL P K i x ls fs w h)
  have HFa := Lib.hid (fault_calls base N0 C BL P K i x ls fs w h hsi hsk hfl)
  rw [hk] at HFa
  have c3 := h.c3
  have b1 := h.b1.1
  have b2 := h.b2.1
  have b3 := h.b3.1
  have g1 : (0 : Int) ≤ (K : Int) := by omega
  have g2 : (K : Int) < 16 := by have := h.hK; omega
  have HX := Lib.hid hx
  have HLen := Lib.hid (show bs.length = 96 by obtain ⟨_, _, e, _⟩ := hx.form; injection e with _ e2 _; exact e2.symm)
  have hd4 := h.dis.2.2.2.1
  have hd5 := h.dis.2.2.2.2.1
  have hd6 := h.dis.2.2.2.2.2.1
  clear h hx hd hk
  go_enter Try.func9, Try.ntmps9
  go_wp2_with fail
  refine (HA.out).mono ?_
  rintro e w_ ⟨rfl, rfl⟩
  go_wp2_with fail
  refine HF.out.mono ?_
  rintro e w_ ⟨rfl, rfl⟩
  go_wp2_with fail
  refine HFa.out.mono ?_
  rintro e w1 ⟨⟨no, dv, rfl, hdv⟩, h1, hk1⟩
  obtain ⟨ad, nd, rfl, hnd⟩ := hdv.form
  have H1 := Lib.hid (h1.on ((Below.refl w1.heap.size w1).alloc (Nat.le_refl _) (.cells #[.int .i64 no, .int .i64 0, .slice ad (fnd fs x.si).data.length nd] 33)))
  have HK1 := Lib.hid (hk1.on ((Below.refl w1.heap.size w1).alloc (Nat.le_refl _) (.cells #[.int .i64 no, .int .i64 0, .slice ad (fnd fs x.si).data.length nd] 33)))
  have HO1 := Lib.hid (Own.kp HX.out HK1.out hd4 hd5 hd6)
  clear h1 hk1 hdv hnd
  generalize (fnd fs x.si).data.length = m at *
  go_wp2_with fail
  refine (clone_calls a 96 c bs _ (HO1.out.arr (by rw [HLen.out]; omega))).mono ?_
  rintro e w3 ⟨⟨v, rfl, hv⟩, hb3⟩
  have H3 := Lib.hid (H1.out.on hb3)
  have HK3 := Lib.hid (HK1.out.on hb3)
  have hlen := HLen.out
  obtain ⟨a3, c3, rfl, hc3⟩ := hv.formN hlen
  have HV := Lib.hid (show PgAt w3 N0 (.slice a3 96 c3) (some bs) from ⟨by rw [hlen]; omega, hv.mono H1.out.hN⟩)
  clear hb3 hv hc3 hlen
  go_wp2_with fail
  refine (bput_calls base N0 C BL P K i _ ls fs a3 96 c3 bs w3 H3.out hi HV.out).mono ?_
  rintro e w4 ⟨rfl, h4, hk4⟩
  have H4 := Lib.hid h4
  have HK4 := Lib.hid (HK3.out.trans hk4)
  clear h4 hk4
  go_wp2_with fail
  go_ret
  exact ⟨rfl, H4.out, HK4.out⟩
set_option maxRecDepth 100000 in
set_option maxHeartbeats 4000000 in
theorem program_torn (base N0 C BL P K i : Nat) (x : Cn) (ls : Nat → Option (List UInt8)) (fs : List Fl) (a : Option Addr) (c : Nat) (bs : List UInt8) (w : World) (h : Chp base N0 w C BL P K x i ls fs) (hd : x.dn = false) (hi : i < 8) (hx : Own byteV 5 w N0 (.slice a 96 c) bs) (hk : (fnd fs x.si).kind = 2) (hdl : (fnd fs x.si).data.length ≤ 96) (hsi : x.si ≤ 1000000) (hsk : x.sk ≤ 1000000) (hfl : fs.length ≤ 1000) :
    Calls Try.prog 9 #[.pointer (some ⟨C, 0, none⟩), .int .i64 (K : Int), .int .i64 (i : Int), .slice a 96 c] w fun e w' => e = .returned (.int .i64 4) ∧ Chp base N0 w' C BL P K { x with si := x.si + 1, sk := x.sk + 1, dn := true } (i + 1) (fun j => if j = i then some (tornL (fnd fs x.si).data) else ls j) fs ∧ Kp C BL P w w' := by
  have HA := Lib.hid (asked_calls base N0 C BL P K i i x ls fs w h hd hi)
  have HF := Lib.hid (full_calls base N0 C BL P K i x ls fs w h)
  have HFa := Lib.hid (fault_calls base N0 C BL P K i x ls fs w h hsi hsk hfl)
  rw [hk] at HFa
  have c3 := h.c3
  have b1 := h.b1.1
  have b2 := h.b2.1
  have b3 := h.b3.1
  have g1 : (0 : Int) ≤ (K : Int) := by omega
  have g2 : (K : Int) < 16 := by have := h.hK; omega
  have HX := Lib.hid hx
  have HLen := Lib.hid (show bs.length = 96 by obtain ⟨_, _, e, _⟩ := hx.form; injection e with _ e2 _; exact e2.symm)
  have hd4 := h.dis.2.2.2.1
  have hd5 := h.dis.2.2.2.2.1
  have hd6 := h.dis.2.2.2.2.2.1
  clear h hx hd hk
  go_enter Try.func9, Try.ntmps9
  go_wp2_with fail
  refine (HA.out).mono ?_
  rintro e w_ ⟨rfl, rfl⟩
  go_wp2_with fail
  refine HF.out.mono ?_
  rintro e w_ ⟨rfl, rfl⟩
  go_wp2_with fail
  refine HFa.out.mono ?_
  rintro e w1 ⟨⟨no, dv, rfl, hdv⟩, h1, hk1⟩
  obtain ⟨ad, nd, rfl, hnd⟩ := hdv.form
  have H1 := Lib.hid (h1.on ((Below.refl w1.heap.size w1).alloc (Nat.le_refl _) (.cells #[.int .i64 no, .int .i64 2, .slice ad (fnd fs x.si).data.length nd] 33)))
  have HK1 := Lib.hid (hk1.on ((Below.refl w1.heap.size w1).alloc (Nat.le_refl _) (.cells #[.int .i64 no, .int .i64 2, .slice ad (fnd fs x.si).data.length nd] 33)))
  have HD := Lib.hid (hdv.on ((Below.refl w1.heap.size w1).alloc (Nat.le_refl _) (.cells #[.int .i64 no, .int .i64 2, .slice ad (fnd fs x.si).data.length nd] 33)))
  have HDl := Lib.hid hdl
  clear h1 hk1 hdv hnd hdl
  generalize hdat : (fnd fs x.si).data = data at *
  have HDat := Lib.hid hdat
  clear hdat
  obtain ⟨m, hm⟩ : ∃ m, m = data.length := ⟨_, rfl⟩
  rw [← hm] at HD HK1 H1 ⊢
  have hm96 : m ≤ 96 := by rw [hm]; exact HDl.out
  have HMl := Lib.hid hm
  clear hm
  go_wp2_with fail
  refine (ctorn_calls base N0 C BL P K i _ ls fs ad m nd data _ H1.out (HD.out.arr (by have := HDl.out; omega)) hm96).mono ?_
  rintro e w3 ⟨⟨v, rfl, hv⟩, hb3⟩
  have H3 := Lib.hid (H1.out.on hb3)
  have HK3 := Lib.hid (HK1.out.on hb3)
  have hlen := tornL_len HDl.out
  obtain ⟨a3, c3, rfl, hc3⟩ := hv.formN hlen
  have HV := Lib.hid (show PgAt w3 N0 (.slice a3 96 c3) (some (tornL data)) from ⟨by rw [hlen]; omega, hv.mono H1.out.hN⟩)
  clear hb3 hv hc3 hlen
  go_wp2_with fail
  refine (bput_calls base N0 C BL P K i _ ls fs a3 96 c3 (tornL data) w3 H3.out hi HV.out).mono ?_
  rintro e w4 ⟨rfl, h4, hk4⟩
  have c6 := h4.c6
  have f6 := h4.frzC 6
  have H4 := Lib.hid (h4.setC (x' := { x with si := x.si + 1, sk := x.sk + 1, dn := true }) 6 (.bool true) rfl rfl)
  have HK4 := Lib.hid ((HK3.out.trans hk4).setCell (p := ⟨C, 6, none⟩) (.inl rfl) (.bool true))
  clear h4 hk4
  go_wp2_with fail
  go_ret
  refine ⟨rfl, ?_, HK4.out⟩
  rw [HDat.out]
  exact H4.out
end Go.Proofs.Ytfcikigdmecbnaa
