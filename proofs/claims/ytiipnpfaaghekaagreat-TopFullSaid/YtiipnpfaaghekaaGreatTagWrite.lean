/-
  tag.Write.
-/
import Derived.Test.YtiipnpfaaghekaaGreatTagRight
namespace Go.Proofs.YtiipnpfaaghekaaGreat
open Go.RowKit

theorem twrite_bad (t : Tg) (hp : t.p < 4294967296) (hs : t.s < 18446744073709551616) (he : t.e < 18446744073709551616) (a : Option Addr) (n c : Nat) (w : World) (h : ¬ (Tg.Right t ∧ Tg.Fits n)) :
    Calls Tryz.prog 36 #[tagV t, .slice a n c] w fun e w' => e = .returned (.tuple #[.slice none 0 0, .int .i64 1]) ∧ Below w.heap.size w w' := by
  have hbl := Lib.hid ((Below.refl w.heap.size w).alloc (Nat.le_refl _) (tagO t))
  by_cases hr : Tg.Right t
  · have hf : ¬ Tg.Fits n := fun hf => h ⟨hr, hf⟩
    have hrb := Tg.rightB_yes hr
    have hf2 : ¬ ((n : Int) = 64 ∨ (n : Int) = 128 ∨ (n : Int) = 256 ∨ (n : Int) = 512) := fun g => hf (by unfold Tg.Fits; omega)
    have HF := Lib.hid hf2
    have HP := Lib.hid hp
    have HS := Lib.hid hs
    have HE := Lib.hid he
    clear h hf hf2 hp hs he
    go_enter Tryz.func36, Tryz.ntmps36
    go_wp2_with fail
    refine (tagRight_calls t HP.out HS.out HE.out _).mono ?_
    rw [hrb]
    rintro e w1 ⟨rfl, h_⟩
    have HB := Lib.hid h_
    clear h_ hrb
    go_wp2_with fail
    refine (fits_no _ HF.out _).mono ?_
    rintro e w2 ⟨rfl, rfl⟩
    go_wp2
    go_ret2
    exact ⟨rfl, Below.then_ hbl.out HB.out⟩
  · have hrb := Tg.rightB_no hr
    have HP := Lib.hid hp
    have HS := Lib.hid hs
    have HE := Lib.hid he
    clear h hr hp hs he
    go_enter Tryz.func36, Tryz.ntmps36
    go_wp2_with fail
    refine (tagRight_calls t HP.out HS.out HE.out _).mono ?_
    rw [hrb]
    rintro e w1 ⟨rfl, h_⟩
    have HB := Lib.hid h_
    clear h_ hrb
    go_wp2
    go_ret2
    exact ⟨rfl, Below.then_ hbl.out HB.out⟩
set_option maxHeartbeats 4000000 in
theorem twrite_good (t : Tg) (a : Option Addr) (n c : Nat) (pay : List UInt8) (w : World) (ht : Tg.Right t) (hf : Tg.Fits n) (hx : Bytes w w.heap.size a n pay) :
    Calls Tryz.prog 36 #[tagV t, .slice a n c] w fun e w' => (∃ v, e = .returned (.tuple #[v, .int .i64 0]) ∧ Own byteV 5 w' w.heap.size v (Tg.page t pay)) ∧ Below w.heap.size w w' := by
  have hbl := Lib.hid ((Below.refl w.heap.size w).alloc (Nat.le_refl _) (tagO t))
  have hrb := Tg.rightB_yes ht
  have HP := Lib.hid hx.len
  have hb0 : 64 ≤ n ∧ n ≤ 512 := by unfold Tg.Fits at hf; omega
  obtain ⟨hb1, hb2⟩ := hb0
  have HF := Lib.hid hf
  have HX := Lib.hid hx
  obtain ⟨k, p, s, e⟩ := t
  obtain ⟨hk, hp, hs0, hs, he0, he⟩ := id ht
  simp only at hk hp hs0 hs he0 he
  have HR := Lib.hid ht
  have HHP := Lib.hid (show p < 8192 from hp)
  have HHS := Lib.hid (show s < 18446744073709551616 by omega)
  have HHE := Lib.hid (show e < 18446744073709551616 by omega)
  have hk1 : 1 ≤ k ∧ k ≤ 2 := by omega
  obtain ⟨hk1, hk2⟩ := hk1
  clear hk ht hf hx hs0 he0 hs he
  have bk0 := Lib.hid (Blk.new w 63 #[.int .i64 k, .int .u32 (p : Int), .int .u64 (s : Int), .int .u64 (e : Int)])
  have hmk := makeC (n + 32) (by omega)
  rw [show ((n + 32 : Nat) : Int) = (n : Int) + 32 by omega] at hmk
  go_enter Tryz.func36, Tryz.ntmps36
  go_wp2_with fail
  refine (tagRight_calls ⟨k, p, s, e⟩ (show p < 4294967296 by omega) HHS.out HHE.out _).mono ?_
  rw [hrb]
  rintro e1 w1 ⟨rfl, hb⟩
  have bk1 := Lib.hid (bk0.out.belowHere hb)
  have HB1 := Lib.hid (Below.then_ hbl.out hb)
  have hlt := bk1.out.lt
  clear hb bk0 hbl hrb
  go_wp2_with fail
  refine (fits_yes n HF.out _).mono ?_
  rintro e2 w2 ⟨rfl, rfl⟩
  have ho2 := Lib.hid (ownMadeC w1 w1.heap.size (n + 32) (Nat.le_refl _) (by omega))
  have hb2 := HB1.out.alloc HB1.out.size (.cells (Array.replicate (n + 32) (.int .u8 0)) 5)
  have HB2 := Lib.hid hb2
  have bk2 := Lib.hid (bk1.out.alloc (.cells (Array.replicate (n + 32) (.int .u8 0)) 5))
  have hx2 := Lib.hid (HX.out.below hb2)
  clear hb2
  have hlit := Lib.hid (show #[Value.int .u8 67, Value.int .u8 85, Value.int .u8 k, Value.int .u8 0] = ([67, 85, UInt8.ofNat k.toNat, 0].map byteV).toArray by
    simp only [List.map_cons, List.map_nil, byteV, UInt8.toNat_ofNat']
    rw [show ((k.toNat % 2 ^ 8 : Nat) : Int) = k by omega]
    rfl)
  go_wp2_with (first
    | (at_builtin; refine wpList_ontoB rfl _ _ rfl w1.heap.size _ [] rfl ho2.out _ _ _ _ pay rfl hx2.out (by simp; omega) (by simp) ?_; intro v3 w3 HO3 hb3; have bk3 := Lib.hid (bk2.out.below hb3.out hlt); have hs3 : w1.heap.size < w3.heap.size := (by have := hb3.out.size; simp at this; omega); have q0 := bk3.out.cellv (i := 0) rfl)
    | (at_builtin; refine wpList_litB rfl _ _ rfl w1.heap.size _ ([] ++ pay) rfl HO3.out 4 [67, 85, UInt8.ofNat k.toNat, 0] rfl rfl hlit.out (by rw [List.nil_append, HP.out]; omega) (by omega) ?_; intro v4 w4 HO4 hb4; have bk4 := Lib.hid (bk3.out.below hb4.out hlt); have hs4 := hb4.out.size; have q1 := bk4.out.cellv (i := 1) rfl))
  clear q0 q1 hmk
  have hb4 := Lib.hid (hb3.out.trans hb4.out)
  generalize hL4 : [] ++ pay ++ [67, 85, UInt8.ofNat k.toNat, 0] = L4 at HO4
  have l4 : L4.length = n + 4 := by rw [← hL4]; simp [HP.out]
  have HL4 := Lib.hid hL4
  clear hL4
  refine (tput_calls _ L4 p 4 w1.heap.size _ (by omega) (by omega) (by omega) HO4.out (by omega)).mono ?_
  rintro _ w5 ⟨⟨v5, rfl, ho⟩, hb⟩
  have hs5 := hb.size
  have bk5 := Lib.hid (bk4.out.below hb hlt)
  have hb5 := Lib.hid (hb4.out.trans hb)
  generalize hL5 : L4 ++ bigL p 4 = L5 at ho
  have l5 : L5.length = n + 8 := by rw [← hL5]; simp [bigL_len]; omega
  have HO5 := Lib.hid ho
  have HL5 := Lib.hid hL5
  clear ho hb hL5 bk4 hb4 HO4
  have q2 := bk5.out.cellv (i := 2) rfl
  go_wp2_with fail
  clear q2
  refine (tput_calls _ L5 s 8 w1.heap.size _ HHS.out (by omega) (by omega) HO5.out (by omega)).mono ?_
  rintro _ w6 ⟨⟨v6, rfl, ho⟩, hb⟩
  have hs6 := hb.size
  have bk6 := Lib.hid (bk5.out.below hb hlt)
  have hb6 := Lib.hid (hb5.out.trans hb)
  generalize hL6 : L5 ++ bigL s 8 = L6 at ho
  have l6 : L6.length = n + 16 := by rw [← hL6]; simp [bigL_len]; omega
  have HO6 := Lib.hid ho
  have HL6 := Lib.hid hL6
  clear ho hb hL6 bk5 hb5 HO5
  have q3 := bk6.out.cellv (i := 3) rfl
  go_wp2_with fail
  clear q3
  refine (tput_calls _ L6 e 8 w1.heap.size _ HHE.out (by omega) (by omega) HO6.out (by omega)).mono ?_
  rintro _ w7 ⟨⟨v7, rfl, ho⟩, hb⟩
  have hs7 := hb.size
  have bk7 := Lib.hid (bk6.out.below hb hlt)
  have hb7 := Lib.hid (hb6.out.trans hb)
  generalize hL7 : L6 ++ bigL e 8 = L7 at ho
  have l7 : L7.length = n + 24 := by rw [← hL7]; simp [bigL_len]; omega
  have HO7 := Lib.hid ho
  have HL7 := Lib.hid hL7
  clear ho hb hL7 bk6 hb6 HO6
  have hL7 : L7 = pay ++ Tg.head ⟨k, p, s, e⟩ := by rw [← HL7.out, ← HL6.out, ← HL5.out, ← HL4.out]; simp [Tg.head]
  have HL := Lib.hid hL7
  clear hL7
  obtain ⟨a7, c7, rfl, _⟩ := HO7.out.formN l7
  have hb7' := Lib.hid (HO7.out.arr (by omega))
  go_wp2_with fail
  refine (sum_calls _ _ _ L7 _ hb7'.out).mono ?_
  rintro _ w8 ⟨rfl, rfl⟩
  have hsum := (Crc.sum L7).isLt
  have HSM := Lib.hid (show (Crc.sum L7).toNat = Tg.sumOf ⟨k, p, s, e⟩ pay by rw [HL.out]; rfl)
  generalize (Crc.sum L7).toNat = S at *
  go_wp2_with fail
  refine (tput_calls _ L7 S 4 w1.heap.size _ (by omega) (by omega) (by omega) HO7.out (by omega)).mono ?_
  rintro _ w9 ⟨⟨v9, rfl, ho⟩, hb⟩
  have hs9 := hb.size
  have bk9 := Lib.hid (bk7.out.below hb hlt)
  have hb9 := Lib.hid (hb7.out.trans hb)
  generalize hL9 : L7 ++ bigL S 4 = L9 at ho
  have l9 : L9.length = n + 28 := by rw [← hL9]; simp [bigL_len]; omega
  have HO9 := Lib.hid ho
  have HL9 := Lib.hid hL9
  clear ho hb hL9 bk7 hb7 HO7
  go_wp2_with fail
  refine (tput_calls _ L9 0 4 w1.heap.size _ (by omega) (by omega) (by omega) HO9.out (by omega)).mono ?_
  rintro _ w10 ⟨⟨v10, rfl, ho⟩, hb⟩
  have hs10 := hb.size
  have bk10 := Lib.hid (bk9.out.below hb hlt)
  have hb10 := Lib.hid (hb9.out.trans hb)
  generalize hL10 : L9 ++ bigL 0 4 = L10 at ho
  have l10 : L10.length = n + 32 := by rw [← hL10]; simp [bigL_len]; omega
  have HO10 := Lib.hid ho
  have HL10 := Lib.hid hL10
  clear ho hb hL10 bk9 hb9 HO9
  have hfin : L10 = Tg.page ⟨k, p, s, e⟩ pay := by rw [← HL10.out, ← HL9.out, HL.out, HSM.out, Tg.page_eq]; rfl
  have HB := Lib.hid (HB2.out.trans (hb10.out.mono (Nat.le_of_lt hlt)))
  have HO := Lib.hid (hfin ▸ HO10.out.mono (Nat.le_of_lt hlt))
  clear hfin
  go_wp2
  go_ret2
  exact ⟨⟨_, rfl, HO.out⟩, HB.out⟩
end Go.Proofs.YtiipnpfaaghekaaGreat
