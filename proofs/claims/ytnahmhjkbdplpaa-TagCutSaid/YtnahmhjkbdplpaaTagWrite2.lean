/-
  The reference's Write; both Writes in one form.
-/
import Derived.Test.YtnahmhjkbdplpaaTagBeside
import Derived.Test.YtnahmhjkbdplpaaTagWrite
namespace Go.Proofs.Ytnahmhjkbdplpaa
open Go.RowKit

theorem refTWrite_bad (t : Tg) (hp : t.p < 4294967296) (hs : t.s < 18446744073709551616) (he : t.e < 18446744073709551616) (a : Option Addr) (n c : Nat) (w : World) (h : ¬ (Tg.Right t ∧ Tg.Fits n)) :
    Calls Try.prog 12 #[tagV t, .slice a n c] w fun e w' => e = .returned (.tuple #[.slice none 0 0, .int .i64 1]) ∧ Below w.heap.size w w' := by
  have hbl := Lib.hid ((Below.refl w.heap.size w).alloc (Nat.le_refl _) (tagO t))
  by_cases hr : Tg.Right t
  · have hf : ¬ Tg.Fits n := fun hf => h ⟨hr, hf⟩
    have hrb := Tg.rightB_yes hr
    have hf2 : ¬ ((n : Int) = 64 ∨ (n : Int) = 128 ∨ (n : Int) = 256 ∨ (n : Int) = 512) := fun g => hf (by unfold Tg.Fits; omega)
    have HF := Lib.hid hf2
    have HP := Lib.hid hp
    have HS := Lib.hid hs
    have HE := Lib.hid he
    clear h hf hf2 hp hs he
    go_enter Try.func12, Try.ntmps12
    go_wp2_with fail
    refine (refTagRight_calls t HP.out HS.out HE.out _).mono ?_
    rw [hrb]
    rintro e w1 ⟨rfl, h_⟩
    have HB := Lib.hid h_
    clear h_ hrb
    go_wp2_with fail
    refine (refFits_no _ HF.out _).mono ?_
    rintro e w2 ⟨rfl, rfl⟩
    go_wp2
    go_ret2
    exact ⟨rfl, Below.then_ hbl.out HB.out⟩
  · have hrb := Tg.rightB_no hr
    have HP := Lib.hid hp
    have HS := Lib.hid hs
    have HE := Lib.hid he
    clear h hr hp hs he
    go_enter Try.func12, Try.ntmps12
    go_wp2_with fail
    refine (refTagRight_calls t HP.out HS.out HE.out _).mono ?_
    rw [hrb]
    rintro e w1 ⟨rfl, h_⟩
    have HB := Lib.hid h_
    clear h_ hrb
    go_wp2
    go_ret2
    exact ⟨rfl, Below.then_ hbl.out HB.out⟩
set_option maxHeartbeats 4000000 in
theorem refTWrite_good (t : Tg) (a : Option Addr) (n c : Nat) (pay : List UInt8) (w : World) (ht : Tg.Right t) (hf : Tg.Fits n) (hx : Bytes w w.heap.size a n pay) :
    Calls Try.prog 12 #[tagV t, .slice a n c] w fun e w' => (∃ v, e = .returned (.tuple #[v, .int .i64 0]) ∧ Own byteV 5 w' w.heap.size v (Tg.page t pay)) ∧ Below w.heap.size w w' := by
  have hbl := Lib.hid ((Below.refl w.heap.size w).alloc (Nat.le_refl _) (tagO t))
  have hrb := Tg.rightB_yes ht
  have HP := Lib.hid hx.len
  have hb0 : 64 ≤ n ∧ n ≤ 512 := by unfold Tg.Fits at hf; omega
  obtain ⟨hb1, hb2⟩ := hb0
  have HF := Lib.hid hf
  have HX := Lib.hid hx
  have HR := Lib.hid ht
  obtain ⟨k, p, s, e⟩ := t
  obtain ⟨hk, hp, hs0, hs, he0, he⟩ := ht
  simp only at hk hp hs0 hs he0 he
  have HHS := Lib.hid (show s < 18446744073709551616 by omega)
  have HHE := Lib.hid (show e < 18446744073709551616 by omega)
  clear hk hf hx hs0 he0 hs he
  have bk0 := Lib.hid (Blk.new w 25 #[.int .i64 k, .int .u32 (p : Int), .int .u64 (s : Int), .int .u64 (e : Int)])
  go_enter Try.func12, Try.ntmps12
  go_wp2_with fail
  refine (refTagRight_calls ⟨k, p, s, e⟩ (show p < 4294967296 by omega) HHS.out HHE.out _).mono ?_
  rw [hrb]
  rintro e1 w1 ⟨rfl, hb⟩
  have bk1 := Lib.hid (bk0.out.belowHere hb)
  have HB1 := Lib.hid (Below.then_ hbl.out hb)
  have hlt := bk1.out.lt
  have hx1 := Lib.hid (HX.out.below HB1.out)
  clear hb bk0 hbl hrb
  have hcs : Try.prog.cellsOf 25 = 4 := by kernel_rfl
  go_wp2_with fail
  refine (refFits_yes n HF.out _).mono ?_
  rintro e2 w2 ⟨rfl, rfl⟩
  go_wp2_with (at_builtin; refine wpList_ontoB rfl _ _ rfl w1.heap.size _ [] rfl (Own.nil _ _) _ _ _ _ pay rfl hx1.out (by simp; omega) (Nat.le_refl _) ?_; intro v3 w3 HO3 hb3; have bk3 := Lib.hid (bk1.out.below hb3.out hlt); have hs3 := hb3.out.size; have q0 := bk3.out.cellv (i := 0) rfl; have q1 := bk3.out.cellv (i := 1) rfl; have q2 := bk3.out.cellv (i := 2) rfl; have q3 := bk3.out.cellv (i := 3) rfl)
  clear q0 q1 q2 q3
  have HB3 := Lib.hid (HB1.out.trans (hb3.out.mono (Nat.le_of_lt hlt)))
  have hx3 := Lib.hid ((hx1.out.below (hb3.out.mono (Nat.le_of_lt hlt))).mono (show w.heap.size ≤ w3.heap.size by omega))
  refine (refBeside_calls ⟨k, p, s, e⟩ a n c pay _ HR.out hx3.out).mono ?_
  rintro _ w4 ⟨v4, rfl, hy, hb⟩
  obtain ⟨a4, c4, rfl, _⟩ := hy.formN (n := 32) (Tg.beside_len _ _)
  have hy4 := Lib.hid (hy.arr (by rw [Tg.beside_len]; omega))
  have HO4 := Lib.hid (HO3.out.on hb)
  have HB4 := Lib.hid (HB3.out.trans (hb.mono (by omega)))
  have hs4 := hb.size
  clear hy hb HO3 hb3 bk3 bk1
  go_wp2_with (at_builtin; refine wpList_ontoB rfl _ _ rfl w1.heap.size _ ([] ++ pay) rfl HO4.out _ _ 32 _ (Tg.beside ⟨k, p, s, e⟩ pay) rfl hy4.out (by rw [List.nil_append, HP.out]; omega) (by omega) ?_; intro v5 w5 HO5 hb5; have HB5 := Lib.hid (HB4.out.trans (hb5.out.mono (Nat.le_of_lt hlt))))
  go_ret2
  exact ⟨⟨_, rfl, HO5.out.mono (Nat.le_of_lt hlt)⟩, HB5.out⟩

/-- What writing leaves. -/
def Wrote (t : Tg) (pay : List UInt8) (w : World) (e : Ending) (w' : World) : Prop := ∃ v, e = .returned (.tuple #[v, .int .i64 (Tg.writeE t pay)]) ∧ Own byteV 5 w' w.heap.size v (Tg.writeL t pay) ∧ Below w.heap.size w w'
theorem twrite_calls (t : Tg) (a : Option Addr) (n c : Nat) (pay : List UInt8) (w : World) (ht : Tg.Ok t) (hx : Bytes w w.heap.size a n pay) :
    Calls Try.prog 11 #[tagV t, .slice a n c] w (Wrote t pay w) := by
  by_cases h : Tg.Right t ∧ Tg.Fits n
  · refine (twrite_good t a n c pay w h.1 h.2 hx).mono fun e w' ⟨⟨v, he, ho⟩, hb⟩ => ?_
    unfold Wrote Tg.writeE Tg.writeL
    rw [hx.len, if_pos h, if_pos h]
    exact ⟨v, he, ho, hb⟩
  · refine (twrite_bad t ht.1 ht.2.1 ht.2.2 a n c w h).mono fun e w' ⟨he, hb⟩ => ?_
    unfold Wrote Tg.writeE Tg.writeL
    rw [hx.len, if_neg h, if_neg h]
    exact ⟨_, he, Own.nil _ _, hb⟩
theorem refTWrite_calls (t : Tg) (a : Option Addr) (n c : Nat) (pay : List UInt8) (w : World) (ht : Tg.Ok t) (hx : Bytes w w.heap.size a n pay) :
    Calls Try.prog 12 #[tagV t, .slice a n c] w (Wrote t pay w) := by
  by_cases h : Tg.Right t ∧ Tg.Fits n
  · refine (refTWrite_good t a n c pay w h.1 h.2 hx).mono fun e w' ⟨⟨v, he, ho⟩, hb⟩ => ?_
    unfold Wrote Tg.writeE Tg.writeL
    rw [hx.len, if_pos h, if_pos h]
    exact ⟨v, he, ho, hb⟩
  · refine (refTWrite_bad t ht.1 ht.2.1 ht.2.2 a n c w h).mono fun e w' ⟨he, hb⟩ => ?_
    unfold Wrote Tg.writeE Tg.writeL
    rw [hx.len, if_neg h, if_neg h]
    exact ⟨_, he, Own.nil _ _, hb⟩
end Go.Proofs.Ytnahmhjkbdplpaa
