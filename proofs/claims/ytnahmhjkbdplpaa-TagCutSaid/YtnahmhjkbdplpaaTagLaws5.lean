/-
  The walk of the law TagCut.
-/
import Derived.Test.YtnahmhjkbdplpaaTagTop
import Derived.Test.YtnahmhjkbdplpaaTagLaws3
import Derived.Test.YtnahmhjkbdplpaaNumAmong
namespace Go.Proofs.Ytnahmhjkbdplpaa
open Go.RowKit

namespace Tg
def cutAt (l : List UInt8) (k i : Nat) : List UInt8 := l.take k ++ List.replicate (i - k) 255 ++ l.drop i
theorem cutAt_start (l : List UInt8) (k : Nat) : cutAt l k k = l := by simp [cutAt]
theorem cutAt_end (l : List UInt8) (k : Nat) : cutAt l k l.length = cutOff l k := by simp [cutAt, cutOff]
theorem cutAt_len (l : List UInt8) (k i : Nat) (h1 : k ≤ i) (h2 : i ≤ l.length) : (cutAt l k i).length = l.length := by
  simp only [cutAt, List.length_append, List.length_take, List.length_replicate, List.length_drop]; omega
theorem cutAt_set (l : List UInt8) (k i : Nat) (h1 : k ≤ i) (h2 : i < l.length) : (cutAt l k i).set i 255 = cutAt l k (i + 1) := by
  have hl : (l.take k ++ List.replicate (i - k) (255 : UInt8)).length = i := by
    simp only [List.length_append, List.length_take, List.length_replicate]; omega
  unfold cutAt
  rw [List.set_append_right _ _ (by omega), hl, Nat.sub_self, List.drop_eq_getElem_cons h2, List.set_cons_zero, show i + 1 - k = (i - k) + 1 by omega, List.replicate_succ']
  simp only [List.append_assoc, List.singleton_append]
end Tg
set_option maxHeartbeats 1000000 in
theorem ref255_calls (a : Option Addr) (n c : Nat) (xs : List UInt8) (w : World) (hx : Bytes w w.heap.size a n xs) :
    Calls Try.prog 19 #[.slice a n c] w fun e w' => e = .returned (.bool (Tg.full xs)) ∧ w = w' := by
  have hroom := hx.room
  have HL := Lib.hid hx.len
  go_enter Try.func19, Try.ntmps19
  go_wp2
  go_loop [3] (fun i => ∃ k : Nat, k ≤ n ∧ i = .int .i64 k ∧ Tg.full (xs.take k) = true) (fun i => n - (intOf i).toNat)
  case atStart => exact ⟨0, by omega, rfl, rfl⟩
  case round =>
    obtain ⟨k, hk, rfl, hf⟩ := hrel
    have HF := Lib.hid hf
    clear hf
    by_cases hlt : k < n
    · obtain ⟨b, o, hk', rfl, hb, hc⟩ := hx.at_ hlt
      by_cases h2 : xs[k] = 255
      · rw [h2] at hc
        have h3 := full_take_succ xs k hk'
        rw [h2, HF.out] at h3
        have H3 := Lib.hid h3
        clear h3 h2
        go_wp2
        go_round
        case rel => exact ⟨k + 1, by omega, by go_num, H3.out⟩
        case measure => simp [intOf]; omega
      · have h3 : (((xs[k]).toNat : Int) != 255) = true := by rw [bne_iff_ne]; intro h; exact h2 ((b255 _).1 h)
        have h4 := Lib.hid (full_no hk' h2)
        clear h2
        go_wp2
        go_ret
        exact ⟨by rw [h4.out]; rfl, rfl⟩
    · obtain rfl : k = n := by omega
      go_wp2
      go_ret
      rw [List.take_of_length_le (by rw [HL.out]; omega)] at HF
      exact ⟨by rw [HF.out]; rfl, rfl⟩
set_option maxHeartbeats 8000000 in
theorem tagCut_walk (t : Tg) (a : Option Addr) (n c : Nat) (xs : List UInt8) (at_ : Int) (w : World)
    (ht : Tg.Ok t) (hx : Bytes w w.heap.size a n xs) (hnc : n ≤ c) (_ : c ≤ 140737488351232) (h1 : -9223372036854775808 ≤ at_) (h2 : at_ ≤ 9223372036854775807) :
    Calls Try.prog 7 #[tagV t, .slice a n c, .int .i64 at_] w fun e w' => e = .returned (.bool true) ∧ Below w.heap.size w w' := by
  have hbl := Lib.hid ((Below.refl w.heap.size w).alloc (Nat.le_refl _) (tagO t))
  by_cases hl : 2000 < n
  · have hd : decide (2000 < n) = true := decide_eq_true hl
    go_enter Try.func7, Try.ntmps7
    go_wp2_with fail
    refine (tlong_calls _ _ _ _).mono ?_
    rintro e w_ ⟨rfl, rfl⟩
    rw [hd]
    go_wp2_with fail
    refine (tknown_calls _).mono ?_
    rintro e wk ⟨rfl, hbk⟩
    go_wp2
    go_ret
    exact ⟨rfl, Below.then_ hbl.out hbk⟩
  have hd : decide (2000 < n) = false := decide_eq_false hl
  have HX := Lib.hid hx
  have HT := Lib.hid ht
  have hlen := Lib.hid hx.len
  have HX1 := Lib.hid (HX.out.alloc (tagO t))
  clear hx hl ht
  by_cases hg : Tg.Right t ∧ Tg.Fits xs.length
  case neg =>
    have hE := Lib.hid (Tg.write_bad hg).1
    clear hg
    go_enter Try.func7, Try.ntmps7
    go_wp2_with fail
    refine (tlong_calls _ _ _ _).mono ?_
    rintro e w_ ⟨rfl, rfl⟩
    rw [hd]
    clear hd
    go_wp2_with fail
    refine (twrite_calls t a n c xs _ HT.out HX1.out).mono ?_
    rintro e w1 ⟨v1, rfl, ho, hb⟩
    rw [hE.out]
    have HB1 := Lib.hid (Below.then_ hbl.out hb)
    clear hb ho
    go_wp2_with fail
    refine (tknown_calls _).mono ?_
    rintro e wk ⟨rfl, hbk⟩
    have HBk := Lib.hid hbk
    clear hbk
    go_wp2
    go_ret
    exact ⟨rfl, Below.then_ HB1.out HBk.out⟩
  have hE := Lib.hid (Tg.write_good hg).1
  have hL := Lib.hid (Tg.write_good hg).2
  have hf := hg.2
  unfold Tg.Fits at hf
  rw [hlen.out] at hf
  have hpl := Tg.page_len t xs
  rw [hlen.out] at hpl
  have HPL := Lib.hid hpl
  have hN : 96 ≤ n + 32 ∧ n + 32 ≤ 544 := by omega
  obtain ⟨hN1, hN2⟩ := hN
  have HG := Lib.hid hg
  clear hg hf hpl
  obtain ⟨k, hk, hkn⟩ := among_nat at_ (n + 32 - 3) (by omega)
  have hK := Lib.hid hk
  clear hk
  go_enter Try.func7, Try.ntmps7
  go_wp2_with fail
  refine (tlong_calls _ _ _ _).mono ?_
  rintro e w_ ⟨rfl, rfl⟩
  rw [hd]
  clear hd
  go_wp2_with fail
  refine (twrite_calls t a n c xs _ HT.out HX1.out).mono ?_
  rintro e w1 ⟨v1, rfl, ho, hb⟩
  rw [hE.out]
  rw [hL.out] at ho
  obtain ⟨a1, c1, rfl, hc1⟩ := ho.formN (n := n + 32) HPL.out
  have HO1 := Lib.hid (ho.mono (base' := w.heap.size) (by simp))
  have HB1 := Lib.hid (Below.then_ hbl.out hb)
  clear ho hb hbl hL
  have hdl : decide ((n : Int) + 32 < 96) = false := decide_eq_false (by omega)
  go_wp2_with fail
  refine (among_calls at_ ((n : Int) + 32 - 3) _ h1 h2 (by omega)).mono ?_
  rintro e w_ ⟨rfl, rfl⟩
  rw [show ((n : Int) + 32 - 3) = ((n + 32 - 3 : Nat) : Int) from by omega, hK.out]
  clear hK hdl
  generalize hpg : Tg.page t xs = PG at HO1 HPL
  have HPG := Lib.hid hpg
  clear hpg
  have hcs := Tg.cutAt_start PG k
  have HCS := Lib.hid hcs
  clear hcs
  go_wp2_with fail
  go_loopw [10] (fun i wr => ∃ j : Nat, k ≤ j ∧ j ≤ n + 32 ∧ i = .int .i64 j ∧ Own byteV 5 wr w.heap.size (.slice a1 (n + 32 : Nat) c1) (Tg.cutAt PG k j) ∧ Below w.heap.size w wr) (fun i _ => n + 32 - (intOf i).toNat)
  case atStart =>
    exact ⟨k, by omega, by omega, rfl, by rw [HCS.out]; exact HO1.out, HB1.out⟩
  case round =>
    clear HO1 HB1 HCS
    obtain ⟨j, hkj, hj, rfl, ho, hb⟩ := hrel
    have HO := Lib.hid ho
    have HB := Lib.hid hb
    have hsz := hb.size
    clear ho hb
    have hlj := Tg.cutAt_len PG k j hkj (by rw [HPL.out]; omega)
    rw [HPL.out] at hlj
    have HLJ := Lib.hid hlj
    clear hlj
    by_cases hlt : j < n + 32
    · obtain ⟨g, rfl, hgb, _⟩ := HO.out.addr (by rw [HLJ.out]; omega)
      obtain ⟨hcell, hfr⟩ := HO.out.cellg (k := j) (by rw [HLJ.out]; omega)
      have Hset := Lib.hid (Tg.cutAt_set PG k j hkj (by rw [HPL.out]; omega))
      go_wp2_with fail
      go_roundw
      case rel =>
        refine ⟨j + 1, by omega, by omega, by go_num, ?_, HB.out.setCell hgb _⟩
        rw [← Hset.out]
        exact HO.out.set j 255
      case measure => simp [intOf]; omega
    · obtain rfl : j = n + 32 := by omega
      have hce := Tg.cutAt_end PG k
      rw [HPL.out] at hce
      rw [hce] at HO
      have hrb := Tg.read_cut (t := t) (pay := xs) HG.out.2 (k := k) (by rw [HPG.out, HPL.out]; omega)
      rw [HPG.out] at hrb
      have HRB := Lib.hid hrb
      have HaD := Lib.hid (Own.arr HO.out (by rw [← hce, HLJ.out]; omega))
      clear hrb HO hce
      go_wp2_with fail
      refine (tread_calls a1 (n + 32) c1 (Tg.cutOff PG k) _ HaD.out hc1).mono ?_
      rintro _ w3 ⟨a3, n3, c3, rfl, _, _, hb⟩
      rw [HRB.out]
      have HB3 := Lib.hid (HB.out.trans (hb.mono hsz))
      have HX3 := Lib.hid (HaD.out.on hb)
      have hs3 := hb.size
      clear hb HRB
      generalize Tg.readT (Tg.cutOff PG k) = u at *
      have HBu := Lib.hid (HB3.out.alloc HB3.out.size (tagO u))
      have HXu := Lib.hid (HX3.out.alloc (tagO u))
      by_cases hk0 : k = 0
      · subst hk0
        rw [if_pos (Tg.full_cut0 PG)]
        go_wp2_with fail
        refine (tknown_calls _).mono ?_
        rintro e wk ⟨rfl, hbk⟩
        have HBk := Lib.hid hbk
        clear hbk
        go_wp2
        go_ret
        exact ⟨rfl, Below.then_ HBu.out HBk.out⟩
      · have hkb : ((k : Int) == 0) = false := by rw [beq_eq_false_iff_ne]; omega
        have hr := Lib.hid (ref255_calls a1 (n + 32) c1 (Tg.cutOff PG k) _ HXu.out)
        cases hz : Tg.full (Tg.cutOff PG k)
        all_goals
          rw [hz] at hr
          simp only [if_true, Bool.false_eq_true, if_false]
          clear hz
          go_wp2_with fail
          refine hr.out.mono ?_
          rintro _ w_ ⟨rfl, rfl⟩
          go_wp2_with fail
          refine (tknown_calls _).mono ?_
          rintro e wk ⟨rfl, hbk⟩
          have HBk := Lib.hid hbk
          clear hbk
          go_wp2
          go_ret
          exact ⟨rfl, Below.then_ HBu.out HBk.out⟩
end Go.Proofs.Ytnahmhjkbdplpaa
