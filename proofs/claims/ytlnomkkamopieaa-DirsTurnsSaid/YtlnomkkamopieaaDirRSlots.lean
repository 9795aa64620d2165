/-
  The reference's Slots: bytes as a row of entries, and whether they are right.
-/
import Derived.Test.YtlnomkkamopieaaDirEnts
import Derived.Test.YtlnomkkamopieaaDirRefR
namespace Go.Proofs.Ytlnomkkamopieaa
open Go.RowKit

namespace Dir
def allTo (l : List Ent) (nm : List UInt8) (j : Nat) : Bool := (l.take j).all fun e => e.nm != nm
theorem allTo_next {l : List Ent} {nm : List UInt8} {j : Nat} (h : j < l.length) : allTo l nm (j + 1) = (allTo l nm j && (l[j].nm != nm)) := by
  unfold allTo
  rw [List.take_succ_eq_append_getElem h, List.all_append]
  simp
theorem goodTo_next {b : List UInt8} {k : Nat} {i : Int} {nm : List UInt8} {u : Bool} {er : Int} (h : rd b k = (⟨i, nm⟩, u, er)) :
    goodTo b (k + 1) = ((goodTo b k && (er == 0)) && (!u || allTo (slotsTo b k) nm k)) := by
  have e0 : goodTo b (k + 1) = (goodTo b k && decide ((rd b k).2.2 = 0) && (decide (¬ (rd b k).2.1 = true) || (slotsTo b k).all fun e => decide (e.nm ≠ (rd b k).1.nm))) := rfl
  have e1 : (er == 0) = decide (er = 0) := by cases hh : decide (er = 0) <;> simp_all
  have e2 : (fun e : Ent => decide (e.nm ≠ nm)) = fun e => e.nm != nm := by
    funext e
    cases hh : decide (e.nm = nm) <;> simp_all [bne]
  unfold allTo
  rw [e0, h, List.take_of_length_le (by rw [slotsTo_len]; exact Nat.le_refl _), e1]
  dsimp only
  rw [e2]
  cases u <;> simp
end Dir
set_option maxHeartbeats 8000000 in
theorem refSlots_calls (a : Option Addr) (n c : Nat) (b : List UInt8) (w : World) (hx : Bytes w w.heap.size a n b) (hnc : n ≤ c) (hn : n ≤ 100000) :
    Calls Try.prog 17 #[.slice a n c] w fun e w' => (∃ v, e = .returned (.tuple #[v, .bool (Dir.goodB b)]) ∧ EntsO w' w.heap.size v (Dir.slotsL b)) ∧ Below w.heap.size w w' := by
  have hl := hx.len
  have HX := Lib.hid hx
  have HL := Lib.hid hl
  have h0 := Lib.hid (show ((n : Int) % 16 == 0) = Dir.goodTo b 0 by
    show _ = decide (b.length % 16 = 0)
    rw [hl]
    by_cases h : n % 16 = 0
    · rw [decide_eq_true h, beq_iff_eq]; omega
    · rw [decide_eq_false h, beq_eq_false_iff_ne]; omega)
  have hmod : (n : Int).tmod 16 = (n : Int) % 16 := Int.tmod_eq_emod_of_nonneg (by omega)
  have HGB := Lib.hid (Dir.goodB_ref b)
  have HCN := Lib.hid (show Dir.cnt b = n / 16 by unfold Dir.cnt; rw [hl])
  clear hx hl
  go_enter Try.func17, Try.ntmps17
  go_wp2
  go_loopw [0, 4, 5, 6, 7, 8, 9] (fun s0 lst g _ _ _ _ wr => ∃ (k : Nat) (ak : Option Addr) (N ck : Nat), N + 16 * k = n ∧ k ≤ n ∧ s0 = .slice ak N ck ∧ N ≤ ck ∧ Bytes w w.heap.size ak (n - 16 * k) (b.drop (16 * k)) ∧ g = .bool (Dir.goodTo b k) ∧ EntsO wr w.heap.size lst (Dir.slotsTo b k) ∧ Below w.heap.size w wr) (fun s0 _ _ _ _ _ _ _ => lenV s0)
  case atStart => exact ⟨0, a, n, c, by omega, by omega, rfl, hnc, HX.out, by rw [← h0.out], OwnM.nil encE_len _ _, Below.refl _ _⟩
  case round =>
    obtain ⟨k, ak, N, ck, hN, hkn, rfl, hNc, hy, hg, ho, hb⟩ := hrel
    subst hg
    rw [show n - 16 * k = N by omega] at hy
    have HNN := Lib.hid hN
    have hNle : N ≤ n := by omega
    have HSL := Lib.hid (show (Dir.slotsTo b k).length = k ∧ k ≤ 100000 from ⟨Dir.slotsTo_len _ _, by omega⟩)
    have HO := Lib.hid ho
    have HB := Lib.hid hb
    clear hmod h0
    by_cases hlt : 16 ≤ N
    · have g1 : decide ((16 : Int) ≤ (N : Int)) = true := decide_eq_true (by omega)
      have hcut := cutB_to ak N ck 16 (by omega)
      have hcut2 := cutB_from ak N ck 16 (by omega)
      rw [show ((16 : Nat) : Int) = 16 from rfl] at hcut hcut2
      have HYN := Lib.hid (show Bytes w w.heap.size (cutA ak ck 16) (n - 16 * (k + 1)) (b.drop (16 * (k + 1))) by
        have h := hy.drop (l := 16) (by omega) (by omega : N ≤ ck)
        rw [List.drop_drop, show N - 16 = n - 16 * (k + 1) by omega, show 16 * k + 16 = 16 * (k + 1) by omega] at h
        exact h)
      have hy16 := (hy.take (k := 16) (by omega)).on hb
      have hrd := Lib.hid (refRead_calls ak 16 ck ((b.drop (16 * k)).take 16) wr hy16 (by omega))
      unfold ReadR at hrd
      clear hN
      rw [show Dir.readR ((b.drop (16 * k)).take 16) = Dir.rd b k from rfl] at hrd
      have HNXF := Lib.hid (fun i nm u er => Dir.goodTo_next (b := b) (k := k) (i := i) (nm := nm) (u := u) (er := er))
      have HSNF := Lib.hid (Dir.slotsTo_succ b k)
      generalize Dir.rd b k = R at *
      obtain ⟨⟨i, nm⟩, u, er⟩ := R
      have HNX := Lib.hid (HNXF.out i nm u er rfl)
      have HSN := Lib.hid (show Dir.slotsTo b (k + 1) = Dir.slotsTo b k ++ [⟨i, nm⟩] from HSNF.out)
      clear HNXF HSNF
      generalize Dir.slotsTo b k = L at *
      generalize Dir.goodTo b k = G at *
      generalize cutA ak ck 16 = ak1 at *
      obtain ⟨E, hE⟩ : ∃ E, E = (er == 0) := ⟨_, rfl⟩
      rw [← hE] at HNX
      obtain ⟨X0, hX0⟩ : ∃ X0, X0 = (G && E) := ⟨_, rfl⟩
      rw [← hX0] at HNX
      have HX0 := Lib.hid hX0
      have hE1 := hE.symm
      clear hE hX0 hy hy16 ho hb
      cases G
      all_goals
        go_wp2_with fail
        refine hrd.out.mono ?_
        rintro e w2 ⟨rfl, hb2⟩
        have HD := Lib.hid (Blk.new w2 23 #[.int .i64 i, .string (strL nm)])
        have HO3 := Lib.hid ((HO.out.on hb2).alloc (.cells #[.int .i64 i, .string (strL nm)] 23))
        have HB3 := Lib.hid ((HB.out.then_ hb2).then_ ((Below.refl w2.heap.size w2).alloc (Nat.le_refl _) (.cells #[.int .i64 i, .string (strL nm)] 23)))
        have hsz2 : w.heap.size ≤ w2.heap.size := Nat.le_trans HB.out.size hb2.size
        clear hb2
        cases u
        · have HX1 := Lib.hid (show X0 = (X0 && (!false || Dir.allTo L nm k)) by simp)
          have z0 := HD.out.cellv (i := 0) rfl
          have z1 := HD.out.cellv (i := 1) rfl
          go_wp2
          go_loop [5, 9] (fun g i => g = .bool X0 ∧ i = .int .i64 0) (fun _ _ => 0)
          case atStart => exact ⟨by rw [HX0.out]; rfl, rfl⟩
          case round =>
            obtain ⟨rfl, rfl⟩ := hrel
            obtain ⟨a2, c2, hv, hc2⟩ := HO3.out.formN (n := k) HSL.out.1
            subst hv
            by_cases h0k : 0 < k
            · go_wp2_with (at_builtin; refine wpList_litE rfl _ _ rfl w.heap.size _ _ rfl HO3.out ⟨i, nm⟩ _ rfl (by simp) rfl (by have := HSL.out; omega) HB3.out.size ?_; intro v3 w3 HO9 hb3)
              go_roundw
              case measure => simp [lenV]; omega
              case rel =>
                have hyn := HYN.out
                exact ⟨k + 1, _, N - 16, _, by have := HNN.out; omega, by have := HNN.out; omega, rfl, by omega, hyn, by rw [HNX.out, ← HX1.out], by rw [HSN.out]; exact HO9.out, HB3.out.trans hb3.out⟩
            · obtain rfl : k = 0 := by omega
              go_wp2_with (at_builtin; refine wpList_litE rfl _ _ rfl w.heap.size _ _ rfl HO3.out ⟨i, nm⟩ _ rfl (by simp) rfl (by have := HSL.out; omega) HB3.out.size ?_; intro v3 w3 HO9 hb3)
              go_roundw
              case measure => simp [lenV]; omega
              case rel =>
                have hyn := HYN.out
                exact ⟨0 + 1, _, N - 16, _, by have := HNN.out; omega, by have := HNN.out; omega, rfl, by omega, hyn, by rw [HNX.out, ← HX1.out], by rw [HSN.out]; exact HO9.out, HB3.out.trans hb3.out⟩
        · obtain ⟨a2, c2, hv, hc2⟩ := HO3.out.formN (n := k) HSL.out.1
          subst hv
          go_wp2
          go_loopw [5, 9] (fun g iv wi => ∃ (j : Nat) (X : Bool), j ≤ k ∧ iv = .int .i64 (j : Int) ∧ g = .bool X ∧ X = (X0 && Dir.allTo L nm j) ∧ EntsO wi w.heap.size (.slice a2 k c2) L ∧ Blk wi w2.heap.size 23 #[.int .i64 i, .string (strL nm)] ∧ Below w.heap.size w wi) (fun _ iv _ => k - (intOf iv).toNat)
          case atStart => exact ⟨0, X0, by omega, rfl, by rw [HX0.out]; rfl, by simp [Dir.allTo], HO3.out, HD.out, HB3.out⟩
          case round =>
            obtain ⟨j, X, hj, rfl, rfl, hX, ho5, hd5, hb5⟩ := hrel
            have HXj := Lib.hid hX
            have HO5 := Lib.hid ho5
            have HD5 := Lib.hid hd5
            have HB5 := Lib.hid hb5
            have z0 := hd5.cellv (i := 0) rfl
            have z1 := hd5.cellv (i := 1) rfl
            have hlt5 := hd5.lt
            clear hX ho5 hd5 hb5
            by_cases hjk : j < k
            · have hjl : j < L.length := by rw [HSL.out.1]; exact hjk
              have HNX5 := Lib.hid (Dir.allTo_next (nm := nm) hjl)
              obtain ⟨b5, o5, hk5, ha5, _, k1, k2⟩ := EntsA.cells (HO5.out.arr (by rw [HSL.out.1]; omega)) (k := j) (by omega)
              have g5 : (0 : Int) ≤ (j : Int) := by omega
              have g6 : (j : Int) < (k : Int) := by omega
              subst ha5
              generalize L[j] = e5 at *
              obtain ⟨ei, en⟩ := e5
              dsimp only at k1 k2
              clear hjl hk5 k1
              cases X
              · have HF5 := Lib.hid (show false = (X0 && Dir.allTo L nm (j + 1)) by rw [HNX5.out, ← Bool.and_assoc, ← HXj.out]; rfl)
                go_wp2_with fail
                go_quiet (fail)
                go_wp2
                go_roundw
                case measure => simp [intOf]; omega
                case rel => exact ⟨j + 1, false, by omega, by go_num, rfl, HF5.out, HO5.out.on (below_drewN _ _), HD5.out.below (below_drewN _ _) hlt5, HB5.out.trans (below_drewN _ _)⟩
              · have HF5 := Lib.hid (show (en != nm) = (X0 && Dir.allTo L nm (j + 1)) by rw [HNX5.out, ← Bool.and_assoc, ← HXj.out]; rfl)
                clear HNX5
                by_cases he : en = nm
                · have HF6 := Lib.hid (show false = (X0 && Dir.allTo L nm (j + 1)) by rw [← HF5.out, he]; simp)
                  have g7 : (en == nm) = true := by rw [he]; simp
                  have g8 : (en != nm) = false := by rw [he]; simp
                  clear he
                  go_wp2_with fail
                  go_quiet (fail)
                  go_wp2
                  go_roundw
                  case measure => simp [intOf]; omega
                  case rel => exact ⟨j + 1, false, by omega, by go_num, rfl, HF6.out, HO5.out.on (below_drewN _ _), HD5.out.below (below_drewN _ _) hlt5, HB5.out.trans (below_drewN _ _)⟩
                · have HF6 := Lib.hid (show true = (X0 && Dir.allTo L nm (j + 1)) by rw [← HF5.out]; simp [bne, he])
                  have g7 : (en == nm) = false := by simpa using he
                  have g8 : (en != nm) = true := by simp [bne, he]
                  clear he
                  go_wp2_with fail
                  go_quiet (fail)
                  go_wp2
                  go_roundw
                  case measure => simp [intOf]; omega
                  case rel => exact ⟨j + 1, true, by omega, by go_num, rfl, HF6.out, HO5.out.on (below_drewN _ _), HD5.out.below (below_drewN _ _) hlt5, HB5.out.trans (below_drewN _ _)⟩
            · obtain rfl : j = k := by omega
              have HX6 := Lib.hid (show X = (X0 && (!true || Dir.allTo L nm j)) from HXj.out)
              go_wp2_with (at_builtin; refine wpList_litE rfl _ _ rfl w.heap.size _ _ rfl HO5.out ⟨i, nm⟩ _ rfl (by simp) rfl (by have := HSL.out; omega) HB5.out.size ?_; intro v3 w3 HO9 hb3)
              go_roundw
              case measure => simp [lenV]; omega
              case rel =>
                have hyn := HYN.out
                exact ⟨j + 1, _, N - 16, _, by have := HNN.out; omega, by have := HNN.out; omega, rfl, by omega, hyn, by rw [HNX.out, ← HX6.out], by rw [HSN.out]; exact HO9.out, HB5.out.trans hb3.out⟩
    · have g1 : decide ((16 : Int) ≤ (N : Int)) = false := decide_eq_false (by omega)
      have hk : Dir.cnt b = k := by have := HCN.out; omega
      have HGB2 := HGB.out
      rw [hk] at HGB2
      have HFIN := Lib.hid HGB2
      have HSLL := Lib.hid (show Dir.slotsL b = Dir.slotsTo b k by unfold Dir.slotsL; rw [hk])
      have HAT := Lib.hid (fun q (h : q < k) => Dir.slotsTo_at (b := b) h)
      obtain ⟨a2, c2, hv, hc2⟩ := ho.formN (n := k) HSL.out.1
      subst hv
      have HOA := Lib.hid (ho.arr (by rw [HSL.out.1]; omega))
      have hk5 := HSL.out.2
      clear hN hk HGB2 hb hy
      cases hG : Dir.goodTo b k
      · have hfin := Lib.hid (show false = Dir.goodB b by rw [HFIN.out, hG]; rfl)
        clear hG ho
        go_wp2_with fail
        go_quiet (fail)
        go_wp2
        go_ret2
        exact ⟨⟨_, by rw [← hfin.out]; rfl, by rw [HSLL.out]; exact HO.out.on (below_drewN _ _)⟩, HB.out.trans (below_drewN _ _)⟩
      · cases k with
        | zero =>
          have hfin := Lib.hid (show true = Dir.goodB b by rw [HFIN.out, hG]; rfl)
          clear hG ho
          go_wp2_with fail
          go_quiet (fail)
          go_wp2
          go_ret2
          exact ⟨⟨_, by rw [← hfin.out]; rfl, by rw [HSLL.out]; exact HO.out.on (below_drewN _ _)⟩, HB.out.trans (below_drewN _ _)⟩
        | succ q =>
          have hat := HAT.out q (by omega)
          have hfin := Lib.hid (show decide (0 < (Dir.rd b q).1.i) = Dir.goodB b by rw [HFIN.out, hG]; simp)
          obtain ⟨b5, o5, hk6, ha5, _, k1, k2⟩ := EntsA.cells HOA.out (k := q) (by omega)
          subst ha5
          rw [hat] at k1
          generalize (Dir.rd b q).1.i = x at *
          have g5 : (0 : Int) ≤ (q : Int) := by omega
          have g6 : (q : Int) < ((q + 1 : Nat) : Int) := by omega
          have g7 : (((q : Int) + 1) == 0) = false := by rw [beq_eq_false_iff_ne]; omega
          have q1 : IntKind.i64.wrap (q : Int) = (q : Int) := IntWalk.i64_in _ ⟨by omega, by omega⟩
          have q2 : IntKind.i64.wrap ((q : Int) + 1 - 1) = (q : Int) := by rw [show (q : Int) + 1 - 1 = q by omega]; exact q1
          clear hG ho k2 hat
          go_wp2_with fail
          go_quiet (fail)
          go_wp2
          go_ret2
          exact ⟨⟨_, by rw [← hfin.out]; rfl, by rw [HSLL.out]; exact HO.out.on (below_drewN _ _)⟩, HB.out.trans (below_drewN _ _)⟩
end Go.Proofs.Ytlnomkkamopieaa
