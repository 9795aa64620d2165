/-
  The reference's Bytes, over a row of entries.
-/
import Derived.Test.YtlnomkkamopieaaDirRRem
import Derived.Test.YtlnomkkamopieaaDirZapp
import Derived.Test.YtlnomkkamopieaaDirRefW
namespace Go.Proofs.Ytlnomkkamopieaa
open Go.RowKit

namespace Dir
theorem byteE_len (e : Ent) : (byteE e).length ≤ 16 := by
  unfold byteE
  split
  · simp [zeros]
  · unfold writeL
    split
    · rename_i h
      rw [slotL_len e (nameE_len ((writeE_iff e).1 h).2).2]
      exact Nat.le_refl _
    · simp
theorem flatE_len (l : List Ent) : (l.flatMap byteE).length ≤ 16 * l.length := by
  induction l with
  | nil => simp
  | cons x t ih => rw [List.flatMap_cons, List.length_append, List.length_cons]; have := byteE_len x; omega
theorem flatE_next {l : List Ent} {k : Nat} (h : k < l.length) : (l.take (k + 1)).flatMap byteE = (l.take k).flatMap byteE ++ byteE l[k] := by
  rw [List.take_succ_eq_append_getElem h, List.flatMap_append, List.flatMap_singleton]
end Dir
set_option maxHeartbeats 4000000 in
theorem refBytes_calls (a : Option Addr) (n c : Nat) (l : List Ent) (w : World) (hx : EntsA w w.heap.size a n l) (hnc : n ≤ c) (hn : n ≤ 100000) (hnm : ∀ k (h : k < l.length), l[k].nm.length ≤ 140737488351232) :
    Calls Try.prog 22 #[.slice a n c] w fun e w' => (∃ v t, e = .returned v ∧ Dir.TrimE l t ∧ Own byteV 5 w' w.heap.size v ((l.take t).flatMap Dir.byteE)) ∧ Below w.heap.size w w' := by
  have HX := Lib.hid hx
  have HL := Lib.hid hx.len
  have HN := Lib.hid hnm
  clear hx hnm
  go_enter Try.func22, Try.ntmps22
  go_wp2
  go_loop [0] (fun o => ∃ m : Nat, m ≤ n ∧ o = .slice a m c ∧ ∀ j (h : j < l.length), m ≤ j → l[j].i = 0) (fun o => lenV o)
  case atStart => exact ⟨n, Nat.le_refl _, rfl, fun j h hj => by have := HL.out; omega⟩
  case round =>
    obtain ⟨m, hm, rfl, hz⟩ := hrel
    have HZ := Lib.hid hz
    clear hz
    cases m with
    | zero =>
      go_wp2
      go_loop [3, 4] (fun o i => o = .slice none 0 0 ∧ i = .int .i64 0) (fun _ _ => 0)
      case atStart => exact ⟨rfl, rfl⟩
      case round =>
        obtain ⟨rfl, rfl⟩ := hrel
        go_wp2
        go_ret
        first
          | exact ⟨⟨_, rfl, 0, ⟨by omega, HZ.out, .inl rfl⟩, Own.nil _ _⟩, Below.refl _ _⟩
          | exact ⟨⟨_, 0, rfl, ⟨by omega, HZ.out, .inl rfl⟩, Own.nil _ _⟩, Below.refl _ _⟩
    | succ q =>
      have hql : q < l.length := by rw [HL.out]; omega
      obtain ⟨b1, o1, hk1, rfl, _, k1, k2⟩ := HX.out.cells (k := q) (by omega)
      have g2 : decide ((0 : Int) < ((q + 1 : Nat) : Int)) = true := decide_eq_true (by omega)
      by_cases hx : l[q].i = 0
      · have HZ2 := Lib.hid (fun (j : Nat) (h : j < l.length) (hj : q ≤ j) => (show l[j].i = 0 by
          by_cases e : j = q
          · subst e; exact hx
          · exact HZ.out j h (by omega)))
        rw [hx] at k1
        have hcut := cutE_to (some ⟨b1, o1, none⟩) (q + 1) c q (by omega)
        clear k2 hx hk1 hql
        go_wp2
        exact ⟨⟨q, by omega, rfl, HZ2.out⟩, by simp [lenV]⟩
      · have HT := Lib.hid (show Dir.TrimE l (q + 1) from ⟨by omega, HZ.out, .inr ⟨hql, hx⟩⟩)
        have g3 : (l[q].i == 0) = false := by simpa using hx
        generalize l[q].i = x at k1 g3
        clear k2 hx hk1 hql
        go_wp2
        clear k1 g3
        obtain ⟨t, ht⟩ : ∃ t, t = q + 1 := ⟨_, rfl⟩
        rw [← ht] at HT hm ⊢
        clear ht
        go_loopw [3, 4, 5, 6] (fun o i _ _ wr => ∃ k : Nat, k ≤ t ∧ i = .int .i64 (k : Int) ∧ Own byteV 5 wr w.heap.size o ((l.take k).flatMap Dir.byteE) ∧ Below w.heap.size w wr) (fun _ i _ _ _ => t - (intOf i).toNat)
        case atStart => exact ⟨0, by omega, rfl, Own.nil _ _, Below.refl _ _⟩
        case round =>
          obtain ⟨k, hk, rfl, ho, hb⟩ := hrel
          have HO := Lib.hid ho
          have HB := Lib.hid hb
          have hsz := hb.size
          by_cases hlt : k < t
          · have hkl : k < l.length := by rw [HL.out]; omega
            have hfl := Dir.flatE_len (l.take k)
            rw [List.length_take] at hfl
            have hnx := Lib.hid (Dir.flatE_next hkl)
            have hnk := HN.out k hkl
            obtain ⟨b2, o2, hk2, ha2, _, k1, k2⟩ := EntsA.cells (HX.out.on hb) (k := k) (by omega)
            injection ha2 with ha2
            injection ha2 with ha2 ha3
            subst ha2 ha3
            have hbe := Lib.hid (show Dir.byteE l[k] = if l[k].i = 0 then Dir.zeros else Dir.writeL l[k] from rfl)
            have hf2 := Lib.hid (show ((l.take k).flatMap Dir.byteE).length ≤ 1600000 by omega)
            generalize l[k] = e at *
            obtain ⟨ei, en⟩ := e
            dsimp only at k1 k2 hnk
            clear ho hb hkl hk2 hfl
            by_cases he : ei = 0
            · subst he
              have hbz := Lib.hid (show Dir.byteE ⟨0, en⟩ = List.replicate 16 0 from rfl)
              go_wp2_with (at_builtin; refine wpList_zappB rfl _ _ rfl w.heap.size _ _ rfl HO.out 16 rfl (by decide) (by have := hf2.out; omega) hsz ?_; intro v2 w2 HO2 hb2)
              go_roundw
              case rel => exact ⟨k + 1, by omega, by go_num, by rw [hnx.out, hbz.out]; exact HO2.out, HB.out.trans hb2.out⟩
              case measure => simp [intOf]; omega
            · have g3 : (ei == 0) = false := by simpa using he
              have hbz := Lib.hid (show Dir.byteE ⟨ei, en⟩ = Dir.writeL ⟨ei, en⟩ from if_neg he)
              have HW := Lib.hid (refWrite_calls ⟨ei, en⟩ wr hnk)
              unfold WriteR at HW
              have hwl : (Dir.writeL ⟨ei, en⟩).length ≤ 16 := by have := Dir.byteE_len ⟨ei, en⟩; rw [hbz.out] at this; exact this
              have HWL := Lib.hid hwl
              generalize Dir.writeE ⟨ei, en⟩ = E at *
              generalize Dir.writeL ⟨ei, en⟩ = WL at *
              clear he hwl
              go_wp2_with fail
              refine HW.out.mono ?_
              rintro e w2 ⟨⟨v2, rfl, ho2⟩, hb2⟩
              obtain ⟨a2, c2, rfl, _⟩ := ho2.form
              have HO2 := Lib.hid (ho2.arr (by have := HWL.out; omega))
              have HOw := Lib.hid (HO.out.on hb2)
              have HB2 := Lib.hid (HB.out.then_ hb2)
              have hsz2 := hb2.size
              clear ho2 hb2 k1 k2
              go_wp2_with (at_builtin; refine wpList_ontoB rfl _ _ rfl w.heap.size _ _ rfl HOw.out _ a2 WL.length c2 WL rfl HO2.out (by have := hf2.out; have := HWL.out; omega) (by omega) ?_; intro v3 w3 HO3 hb3)
              go_roundw
              case measure => simp [intOf]; omega
              case rel =>
                have h3 := HO3.out
                rw [← hbz.out, ← hnx.out] at h3
                refine ⟨k + 1, ?_, ?_, ?_, ?_⟩
                · omega
                · go_num
                · exact h3
                · exact HB2.out.trans hb3.out
          · obtain rfl : k = t := by omega
            clear ho hb
            go_wp2
            go_ret
            first
              | exact ⟨⟨_, rfl, k, HT.out, HO.out⟩, HB.out⟩
              | exact ⟨⟨_, k, rfl, HT.out, HO.out⟩, HB.out⟩
end Go.Proofs.Ytlnomkkamopieaa
