/-
  A page is read.
-/
import Derived.Test.YtfcikigdmecbnaaNandOnes
import Derived.Test.YtfcikigdmecbnaaSlClone
import Derived.Deep.DeepCutAuto
import Derived.Lib.SliceRun
namespace Go.Proofs.Ytfcikigdmecbnaa
open Go.RowKit

/-- What a page reads as. -/
def pgL : Option (List UInt8) → List UInt8
  | none => List.replicate 96 255
  | some L => L
set_option maxRecDepth 100000 in
set_option maxHeartbeats 4000000 in
theorem read_calls (base N0 C BL P K nx i : Nat) (x : Cn) (ls : Nat → Option (List UInt8)) (fs : List Fl) (w : World) (h : Chp base N0 w C BL P K x nx ls fs) (hd : x.dn = false) (hi : i < 8) (hrd : x.rd ≤ 1000000) (hL : ∀ L, ls i = some L → L.length = 96) :
    Calls Try.prog 11 #[.pointer (some ⟨C, 0, none⟩), .int .i64 (K : Int), .int .i64 (i : Int)] w fun e w' => (∃ a c, e = .returned (.tuple #[.slice a 96 c, .int .i64 0]) ∧ 96 ≤ c ∧ Own byteV 5 w' N0 (.slice a 96 c) (pgL (ls i))) ∧ Chp base N0 w' C BL P K { x with rd := x.rd + 1 } nx ls fs ∧ Kp C BL P w w' := by
  have HA := Lib.hid (asked_calls base N0 C BL P K nx i x ls fs w h hd hi)
  have c8 := h.c8
  have f8 := h.frzC 8
  have h1 := h.setC (x' := { x with rd := x.rd + 1 }) 8 (.int .i64 ((x.rd : Int) + 1)) rfl rfl
  have hk1 := (Kp.refl C BL P w).setCell (p := ⟨C, 8, none⟩) (.inl rfl) (.int .i64 ((x.rd : Int) + 1))
  obtain ⟨w1, hw1⟩ : ∃ w1, w1 = w.setCell ⟨C, 8, none⟩ (.int .i64 ((x.rd : Int) + 1)) := ⟨_, rfl⟩
  rw [← hw1] at h1 hk1
  have c3 := h1.c3
  have b0 := h1.b0.1
  obtain ⟨v, p0, _, hv⟩ := h1.page hi
  have g1 : (0 : Int) ≤ (K : Int) := by omega
  have g2 : (K : Int) < 16 := by have := h.hK; omega
  have g3 : (0 : Int) ≤ (i : Int) := by omega
  have g4 : (i : Int) < 8 := by omega
  have HF := Lib.hid (full_calls base N0 C BL P K nx _ ls fs w1 h1)
  have H1 := Lib.hid h1
  have HK1 := Lib.hid hk1
  have HW1 := Lib.hid hw1
  have HLn := Lib.hid hL
  cases hls : ls i with
  | none =>
    rw [hls] at hv
    have hv' : v = .slice none 0 0 := hv
    subst hv'
    have hnil := fun w => Lib.run_eql_slice_nil (P := Try.prog) w 23 5 none 0 0 0 0 Try.underlying23
    simp only [Option.isNone_none] at hnil
    clear h h1 hk1 hw1 hd hv hls hL
    go_enter Try.func11, Try.ntmps11
    go_wp2_with fail
    refine (HA.out).mono ?_
    rintro e w_ ⟨rfl, rfl⟩
    go_upto_region 5 with fail
    rw [← HW1.out]
    clear c8 f8
    go_wp2_with fail
    refine HF.out.mono ?_
    rintro e w_ ⟨rfl, rfl⟩
    go_wp2_with fail
    refine (ones_calls 96 w1 (by omega)).mono ?_
    rintro e w2 ⟨⟨v2, rfl, ho⟩, hb2⟩
    obtain ⟨a, c, rfl, hc⟩ := ho.formN (List.length_replicate ..)
    have HO := Lib.hid (ho.mono H1.out.hN)
    have HC := Lib.hid hc
    have H2 := Lib.hid (H1.out.on hb2)
    have HK2 := Lib.hid (HK1.out.on hb2)
    clear ho hb2 hc
    go_wp2_with fail
    go_ret2
    exact ⟨⟨a, c, rfl, HC.out, HO.out⟩, H2.out, HK2.out⟩
  | some L =>
    rw [hls] at hv
    obtain ⟨hpos, hown⟩ := hv
    have hlen := HLn.out L hls
    obtain ⟨ga, ca, rfl, hca, _, _⟩ := hown.form_some hpos
    rw [hlen] at p0 hca hown
    have HO1 := Lib.hid hown
    have HLl := Lib.hid hlen
    have hnil := fun w => Lib.run_eql_slice_nil (P := Try.prog) w 23 5 (some ⟨ga, 0, none⟩) 96 ca 0 0 Try.underlying23
    simp only [Option.isNone_some] at hnil
    clear h h1 hk1 hw1 hd hls hL hown hpos hlen
    go_enter Try.func11, Try.ntmps11
    go_wp2_with fail
    refine (HA.out).mono ?_
    rintro e w_ ⟨rfl, rfl⟩
    go_upto_region 5 with fail
    rw [← HW1.out]
    clear c8 f8
    go_wp2_with fail
    refine (clone_calls (some ⟨ga, 0, none⟩) 96 ca L w1 (HO1.out.arr (by rw [HLl.out]; omega))).mono ?_
    rintro e w2 ⟨⟨v2, rfl, ho⟩, hb2⟩
    obtain ⟨a, c, rfl, hc⟩ := ho.formN HLl.out
    have HO := Lib.hid (ho.mono H1.out.hN)
    have HC := Lib.hid hc
    have H2 := Lib.hid (H1.out.on hb2)
    have HK2 := Lib.hid (HK1.out.on hb2)
    clear ho hb2 hc
    go_wp2_with fail
    go_ret2
    exact ⟨⟨a, c, rfl, HC.out, HO.out⟩, H2.out, HK2.out⟩
end Go.Proofs.Ytfcikigdmecbnaa
