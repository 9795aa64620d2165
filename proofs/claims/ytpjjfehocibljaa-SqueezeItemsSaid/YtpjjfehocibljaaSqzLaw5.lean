/-
  The law SqueezeItems.
-/
import Derived.Test.YtpjjfehocibljaaSqzIter
import Derived.Test.YtpjjfehocibljaaSqzBegin
import Derived.Shelf.Abstract
namespace Go.Proofs.Ytpjjfehocibljaa
open Go.RowKit Go.Shelf

attribute [local go_sem] Oper.semAt_some

namespace Sqz
theorem item_match {b : List UInt8} {pre : List It3} {x : It3} (h : pre ++ [x] <+: items b) : ∃ hj : pre.length < (itemsAt b 0).length, ((itemsAt b 0)[pre.length]'hj).1 = x.1 ∧ ((itemsAt b 0)[pre.length]'hj).2.1 = x.2.1 := by
  have hl := h.length_le
  rw [List.length_append, List.length_singleton, ← itemsAt_len] at hl
  have hj : pre.length < (itemsAt b 0).length := by omega
  refine ⟨hj, ?_⟩
  have hm := (itemsAt_is b 0).1
  rw [List.drop_zero] at hm
  have h1 := congrArg (fun l => l[pre.length]?) hm
  simp only [List.getElem?_map] at h1
  have hx : (items b)[pre.length]? = some x := by
    obtain ⟨t, ht⟩ := h
    rw [← ht, List.append_assoc, List.getElem?_append_right (Nat.le_refl _), Nat.sub_self]
    rfl
  rw [hx, List.getElem?_eq_getElem hj] at h1
  simpa using h1
end Sqz
theorem func_nil (f g : Nat) (W : World) : (binOp .eql 37 (.func (.func f) #[] #[.pointer (some ⟨g, 0, none⟩)]) .nilFunc).run Try.prog W = .ok (.bool false) W := by kernel_rfl
/-- Between two rounds; and where a round has left the loop. -/
def ItI (G : Nat) (w2 : World) (v : Value) (K : Nat) (pre : List (Nat × Nat × Nat)) (W : World) : Prop :=
  Blk W G 31 #[v] ∧ Blk W (G + 1) 3 #[.int .i64 (K : Int)] ∧ Blk W (G + 2) 3 #[.int .i64 (pre.length : Int)] ∧ Below G w2 W ∧ G + 4 ≤ W.heap.size ∧ pre.length ≤ K
def ItX (G : Nat) (w2 : World) (v : Value) (K : Nat) (k : Code) (W : World) : Prop :=
  Blk W G 31 #[v] ∧ Blk W (G + 1) 3 #[.int .i64 (K : Int)] ∧ Blk W (G + 2) 3 #[.int .i64 (K : Int)] ∧ Below G w2 W ∧ G + 4 ≤ W.heap.size ∧ k = .exit 0
theorem itI_keeps (G : Nat) (w2 : World) (hw : G ≤ w2.heap.size) (v : Value) (K : Nat) (pre : List (Nat × Nat × Nat)) (B : Nat) (hB : G ≤ B) : KeepsG2 [G + 3] B (ItI G w2 v K pre) :=
  (Blk.keepsG (by simp)).and ((Blk.keepsG (by simp)).and ((Blk.keepsG (by simp)).and ((below_keepsG (by simp) hB hw).and (size_keepsG.and (KeepsG2.pure _)))))
theorem itX_keeps (G : Nat) (w2 : World) (hw : G ≤ w2.heap.size) (v : Value) (K : Nat) (k : Code) (B : Nat) (hB : G ≤ B) : KeepsG2 [G + 3] B (ItX G w2 v K k) :=
  (Blk.keepsG (by simp)).and ((Blk.keepsG (by simp)).and ((Blk.keepsG (by simp)).and ((below_keepsG (by simp) hB hw).and (size_keepsG.and (KeepsG2.pure _)))))
set_option maxRecDepth 100000 in
set_option maxHeartbeats 4000000 in
theorem squeezeItems_walk (a : Option Addr) (n c : Nat) (b : List UInt8) (most : Int) (w : World) (hx : Bytes w w.heap.size a n b) (hnc : n ≤ c) (_ : c ≤ 140737488351232) (lo : -9223372036854775808 ≤ most) (hi : most ≤ 9223372036854775807) :
    Calls Try.prog 7 #[.slice a n c, .int .i64 most] w fun x w' => x = .returned (.bool true) ∧ Below w.heap.size w w' := by
  have hb0 := (Below.refl w.heap.size w).alloc (Nat.le_refl _) (.cells #[.bool false] 4)
  have HB0 := Lib.hid hb0
  have HR0 := Lib.hid (Blk.new w 4 #[.bool false])
  cases hlg : Sqz.longB n
  case true =>
    clear hx hb0
    have r0 := HR0.out.cellv (i := 0) rfl
    have f0 := HR0.out.frozen 0
    go_enter Try.func7, Try.ntmps7
    go_wp2_with fail
    refine (long_calls _ _ _ _).mono ?_
    rintro e w_ ⟨rfl, rfl⟩
    rw [hlg]
    go_wp2_with fail
    refine (known_calls _).mono ?_
    rintro e wk ⟨rfl, hk⟩
    have rk := (HR0.out.belowHere hk).cellv (i := 0) rfl
    have fk := (HR0.out.belowHere hk).frozen 0
    have HBk := Lib.hid (HB0.out.trans (hk.mono (by simp)))
    have HRk := Lib.hid (HR0.out.belowHere hk)
    clear hk
    go_wp2
    refine bodyPost_ret (v := .bool true) (by simp [results, Try.results7, go_sem, rk]) rfl ⟨rfl, HBk.out.setCell (p := ⟨w.heap.size, 0, none⟩) (Nat.le_refl _) _⟩
  have hn7 := Sqz.longB_no hlg
  have HX0 := Lib.hid (hx.on hb0)
  have HL := Lib.hid hx.len
  have C2 := Lib.hid (refItems_calls a n c b _ (hx.on hb0) (by omega))
  unfold ItemsR at C2
  have hcount := Sqz.itemsAt_count b 0
  rw [HL.out] at hcount
  have HLen := Lib.hid (Sqz.itemsAt_len b)
  have HMap := Lib.hid (Sqz.itemsAt_is b 0).1
  rw [List.drop_zero] at HMap
  obtain ⟨K, hK, hK60⟩ := among_nat most 60 (by omega)
  have CA := Lib.hid (fun W => among_calls most 60 W lo hi (by omega))
  rw [show (60 : Int) = ((60 : Nat) : Int) from rfl, hK] at CA
  obtain ⟨q, hq⟩ : ∃ q, q = (Sqz.itemsAt b 0).length := ⟨_, rfl⟩
  rw [← hq] at hcount
  have HQ := Lib.hid hq
  clear hx hb0 hq hK
  refine callsIn_wide (n := 9) |>.1 ?_
  refine callsIn_of_wp_marks Try.func7 rfl trivial ?_ rfl
  refine wpIn_wide.2 ?_
  simp only [Try.ntmps7, List.size_toArray, List.length_cons, List.length_nil, Nat.reduceAdd, Nat.reduceSub, Array.replicate_succ, Array.replicate_zero, List.push_toArray, List.append_toArray, List.nil_append, List.cons_append]
  go_wp2_with fail
  refine (long_calls _ _ _ _).mono ?_
  rintro e w_ ⟨rfl, rfl⟩
  rw [hlg]
  clear hlg
  go_wp2_with fail
  refine C2.out.mono ?_
  rintro e w2 ⟨⟨v2, rfl, ho⟩, hb⟩
  obtain ⟨a2, c2, rfl, _⟩ := ho.formN HQ.out.symm
  have HLI := Lib.hid (ho.arr (by rw [← HQ.out]; omega))
  have HB2 := Lib.hid (HB0.out.trans (hb.mono (by simp)))
  have HR2 := Lib.hid (HR0.out.belowHere hb)
  have HX2 := Lib.hid (HX0.out.on hb)
  have hs2 := hb.size
  simp only [World.size_alloc] at hs2
  clear ho hb
  go_wp2_with fail
  refine (CA.out _).mono ?_
  rintro e w_ ⟨rfl, rfl⟩
  have hfn := func_nil 24 (w2.heap.size + 3)
  go_wp2_with fail
  refine (itemsFn _ _ _ _).mono ?_
  rintro e w' ⟨rfl, rfl⟩
  go_wp2
  have hb5 : Below w2.heap.size w2 ((((w2.alloc (.cells #[.slice a2 q c2] 31)).alloc (.cells #[.int .i64 (K : Int)] 3)).alloc (.cells #[.int .i64 0] 3)).alloc (.cells #[.slice a n c] 22)) := ((((Below.refl _ w2).alloc (Nat.le_refl _) _).alloc (by simp) _).alloc (by simp; omega) _).alloc (by simp; omega) _
  have b5 := (((Blk.new w2 31 #[.slice a2 q c2]).alloc (.cells #[.int .i64 (K : Int)] 3)).alloc (.cells #[.int .i64 0] 3)).alloc (.cells #[.slice a n c] 22)
  have b6 := ((Blk.new (w2.alloc (.cells #[.slice a2 q c2] 31)) 3 #[.int .i64 (K : Int)]).alloc (.cells #[.int .i64 0] 3)).alloc (.cells #[.slice a n c] 22)
  have b7 := (Blk.new ((w2.alloc (.cells #[.slice a2 q c2] 31)).alloc (.cells #[.int .i64 (K : Int)] 3)) 3 #[.int .i64 0]).alloc (.cells #[.slice a n c] 22)
  have b8 := Blk.new (((w2.alloc (.cells #[.slice a2 q c2] 31)).alloc (.cells #[.int .i64 (K : Int)] 3)).alloc (.cells #[.int .i64 0] 3)) 22 #[.slice a n c]
  have hsz : ((((w2.alloc (.cells #[.slice a2 q c2] 31)).alloc (.cells #[.int .i64 (K : Int)] 3)).alloc (.cells #[.int .i64 0] 3)).alloc (.cells #[.slice a n c] 22)).heap.size = w2.heap.size + 4 := by simp
  simp only [World.size_alloc] at b6 b7 b8
  rw [show w2.heap.size + 1 + 1 = w2.heap.size + 2 from rfl] at b7
  rw [show w2.heap.size + 1 + 1 + 1 = w2.heap.size + 3 from rfl] at b8
  try rw [show w2.heap.size + 1 + 1 + 1 = w2.heap.size + 3 from rfl, show w2.heap.size + 1 + 1 = w2.heap.size + 2 from rfl]
  generalize (((w2.alloc (.cells #[.slice a2 q c2] 31)).alloc (.cells #[.int .i64 (K : Int)] 3)).alloc (.cells #[.int .i64 0] 3)).alloc (.cells #[.slice a n c] 22) = W0 at *
  have hit := items_iter a n c (w2.heap.size + 3) w2.heap.size b W0 (HX2.out.below hb5) hnc b8 (by omega) (by omega)
  refine wpIn_wide.1 (range_lawG (gf := 24) (lb := #[.pointer (some ⟨w2.heap.size + 3, 0, none⟩)]) (encs := itemEnc) (xs := Sqz.items b) (cw := [w2.heap.size + 3]) (own := [w2.heap.size + 3]) (n0 := w2.heap.size) (w0 := W0) rfl (enters_of Try.func24 (by kernel_rfl) rfl) hit (Below.refl _ _) (by omega) (by simp; omega) (by simp) (fun _ => rfl)
    (ItI w2.heap.size w2 (.slice a2 q c2) K) (fun kc _ => ItX w2.heap.size w2 (.slice a2 q c2) K kc) (fun pre => itI_keeps _ _ (Nat.le_refl _) _ _ _ _ (by omega)) (fun kc _ => itX_keeps _ _ (Nat.le_refl _) _ _ _ _ (by omega))
    ⟨b5, b6, b7, hb5, by omega, by simp⟩
    (fun pre x a1 W => a1 = { tmps := #[.slice a n c, .int .i64 most, undef, undef, .pointer (some ⟨w.heap.size, 0, none⟩), .pointer (some ⟨w2.heap.size, 0, none⟩), .pointer (some ⟨w2.heap.size + 1, 0, none⟩), .pointer (some ⟨w2.heap.size + 2, 0, none⟩), .func (.func 24) #[] #[.pointer (some ⟨w2.heap.size + 3, 0, none⟩)], .int .i64 (x.1 : Int), .int .i64 (x.2.1 : Int), .slice a n c, .bool false, undef, .slice a n c, .slice a2 q c2, .int .i64 most, .int .i64 (K : Int), .slice a n c, .func (.func 24) #[] #[.pointer (some ⟨w2.heap.size + 3, 0, none⟩)], .func (.func 24) #[] #[.pointer (some ⟨w2.heap.size + 3, 0, none⟩)], .bool false, .func (.func 24) #[] #[.pointer (some ⟨w2.heap.size + 3, 0, none⟩)], .int .i64 (x.1 : Int), .int .i64 (x.2.1 : Int), undef, undef, undef, undef, undef, undef, undef, undef, undef, undef, undef, undef, undef, undef, undef, undef, undef, undef, undef, undef, undef, undef, undef, undef, undef, undef, undef, undef, undef, undef, undef, undef, undef, undef, undef, undef, undef, undef, undef], defers := [] } ∧ ItI w2.heap.size w2 (.slice a2 q c2) K pre W) ?keeps ?assign ?body ?done ?stop)
  case keeps =>
    intro pre x a1
    exact (KeepsG2.pure _).and (itI_keeps _ _ (Nat.le_refl _) _ _ _ _ (by omega))
  case assign =>
    intro lp pre x W K hi hpre hK
    unfold itemEnc
    gi_wp2
    exact hK _ _ (KeepsOthers.refl _) (Below.refl _ _) (fun _ _ => rfl) (Nat.le_refl _) ⟨rfl, hi⟩
  case body =>
    rintro lp pre x a1 W ⟨rfl, d5, d6, d7, hbel, hsW, hle⟩ hpre
    obtain ⟨hj, m1, m2⟩ := Sqz.item_match hpre
    obtain ⟨gb, go_, hml, rfl, hgl, hcl⟩ := HLI.out.atv (k := pre.length) (by rw [HQ.out]; exact hj)
    have k1 : W.cell? ⟨gb, go_ + pre.length * 3, none⟩ = some (.int .i64 (x.1 : Int)) := by rw [← m1]; exact (hbel.cell (p := ⟨gb, go_ + pre.length * 3 + 0, none⟩) hgl).trans (hcl 0 _ rfl)
    have k2 : W.cell? ⟨gb, go_ + pre.length * 3 + 1, none⟩ = some (.int .i64 (x.2.1 : Int)) := by rw [← m2]; exact (hbel.cell (p := ⟨gb, go_ + pre.length * 3 + 1, none⟩) hgl).trans (hcl 1 _ rfl)
    have HPL := Lib.hid (show (pre ++ [x]).length = pre.length + 1 by simp)
    have hjq : pre.length < q := by rw [HQ.out]; exact hj
    obtain ⟨j, hjj⟩ : ∃ j, j = pre.length := ⟨_, rfl⟩
    rw [← hjj] at d7 k1 k2 hjq hle HPL
    have c5 := d5.cellv (i := 0) rfl
    have c6 := d6.cellv (i := 0) rfl
    have c7 := d7.cellv (i := 0) rfl
    have f7 := d7.frozen 0
    have D5 := Lib.hid d5
    have D6 := Lib.hid d6
    have D7 := Lib.hid d7
    have HBe := Lib.hid hbel
    obtain ⟨x1, x2, x3⟩ := x
    dsimp only at *
    clear d5 d6 d7 hbel m1 m2 hcl hpre hjj hml hj
    by_cases hK : j = K
    · have g1 : ((j : Int) == (K : Int)) = true := by rw [beq_iff_eq]; omega
      have D7' := Lib.hid (by have h := D7.out; rw [hK] at h; exact h : Blk W (w2.heap.size + 2) 3 #[.int .i64 (K : Int)])
      clear hK
      gi_wp2
      exact ⟨KeepsOthers.refl _, D5.out, D6.out, D7'.out, HBe.out, hsW, rfl⟩
    · have g1 : ((j : Int) == (K : Int)) = false := by rw [beq_eq_false_iff_ne]; omega
      have g2 : decide ((q : Int) ≤ (j : Int)) = false := decide_eq_false (by omega)
      have g3 : ((x1 : Int) != (x1 : Int)) = false := by simp
      have g4 : ((x2 : Int) != (x2 : Int)) = false := by simp
      have hjK : j + 1 ≤ K := by omega
      clear hK
      gi_wp2
      refine ⟨others_setCell _ _ _ _, (Below.refl _ W).setCell (p := ⟨w2.heap.size + 2, 0, none⟩) (by simp) _, ?_, ?_⟩
      · intro z hz
        obtain rfl := List.mem_singleton.1 hz
        exact heap_setCell_other _ _ _ _ (by simp)
      · unfold ItI
        rw [HPL.out]
        exact ⟨D5.out.far (by simp) _, D6.out.far (by simp) _, D7.out.set 0 _, HBe.out.setCell (p := ⟨w2.heap.size + 2, 0, none⟩) (by simp) _, by simpa using hsW, hjK⟩
  case done =>
    rintro D W hD ⟨d5, d6, d7, hbel, hsW, hle⟩ hK
    have hjq : (Sqz.items b).length = q := by rw [← HLen.out, ← HQ.out]
    rw [hjq] at d7
    have c5 := d5.cellv (i := 0) rfl
    have c6 := d6.cellv (i := 0) rfl
    have c7 := d7.cellv (i := 0) rfl
    have HW := Lib.hid (HB2.out.trans (hbel.mono (by omega)))
    have HRW := Lib.hid (HR2.out.belowHere hbel)
    have g2 : ((q : Int) == (q : Int)) = true := by simp
    clear d5 d6 d7 hbel hle hjq
    by_cases hKq : q = K
    · have g1 : ((q : Int) == (K : Int)) = true := by rw [beq_iff_eq]; omega
      clear hKq
      go_wp2_with fail
      refine (known_calls _).mono ?_
      rintro e wk ⟨rfl, hk⟩
      have rk := (HRW.out.belowHere hk).cellv (i := 0) rfl
      have fk := (HRW.out.belowHere hk).frozen 0
      have hKD : (wk.setCell ⟨w.heap.size, 0, none⟩ (.bool true)).heap[D]? = some (.deferred (some [])) := by rw [heap_setCell_other _ _ _ _ (by simp; omega), hk.block D (heap_lt hK), hK]
      have HBk := Lib.hid (HW.out.trans (hk.mono (by omega)))
      have HRk := Lib.hid (HRW.out.belowHere hk)
      clear hk
      go_wp2
      refine ⟨by simp, .inl ⟨_, _, rfl, run_takeDeferred hKD, ?_⟩⟩
      have z0 := ((Blk.keepsG (cw := []) (B := 0) (by simp)) _ _ (some D) (HRk.out.set 0 (.bool true)) (grownBy_putObj' _ D (.deferred none)) (.inr (.inr ⟨D, rfl, by omega, _, hKD, rfl⟩)) : Blk _ _ _ _).cellv (i := 0) rfl
      exact ⟨_, by simp [results, Try.results7, go_sem, z0], rfl, (HBk.out.setCell (p := ⟨w.heap.size, 0, none⟩) (Nat.le_refl _) _).trans (below_turn (l := D) (.deferred none) (by omega))⟩
    · have g1 : ((q : Int) == (K : Int)) = false := by rw [beq_eq_false_iff_ne]; omega
      clear hKq
      go_wp2_with fail
      refine (known_calls _).mono ?_
      rintro e wk ⟨rfl, hk⟩
      have rk := (HRW.out.belowHere hk).cellv (i := 0) rfl
      have fk := (HRW.out.belowHere hk).frozen 0
      have hKD : (wk.setCell ⟨w.heap.size, 0, none⟩ (.bool true)).heap[D]? = some (.deferred (some [])) := by rw [heap_setCell_other _ _ _ _ (by simp; omega), hk.block D (heap_lt hK), hK]
      have HBk := Lib.hid (HW.out.trans (hk.mono (by omega)))
      have HRk := Lib.hid (HRW.out.belowHere hk)
      clear hk
      go_wp2
      refine ⟨by simp, .inl ⟨_, _, rfl, run_takeDeferred hKD, ?_⟩⟩
      have z0 := ((Blk.keepsG (cw := []) (B := 0) (by simp)) _ _ (some D) (HRk.out.set 0 (.bool true)) (grownBy_putObj' _ D (.deferred none)) (.inr (.inr ⟨D, rfl, by omega, _, hKD, rfl⟩)) : Blk _ _ _ _).cellv (i := 0) rfl
      exact ⟨_, by simp [results, Try.results7, go_sem, z0], rfl, (HBk.out.setCell (p := ⟨w.heap.size, 0, none⟩) (Nat.le_refl _) _).trans (below_turn (l := D) (.deferred none) (by omega))⟩
  case stop =>
    rintro D kc pre W hD hpre ⟨d5, d6, d7, hbel, hsW, rfl⟩ hK
    have c5 := d5.cellv (i := 0) rfl
    have c6 := d6.cellv (i := 0) rfl
    have c7 := d7.cellv (i := 0) rfl
    have HW := Lib.hid (HB2.out.trans (hbel.mono (by omega)))
    have HRW := Lib.hid (HR2.out.belowHere hbel)
    have g1 : ((K : Int) == (K : Int)) = true := by simp
    clear d5 d6 d7 hbel
    refine wpIn_wide.2 ?_
    go_wp2_with fail
    refine (known_calls _).mono ?_
    rintro e wk ⟨rfl, hk⟩
    have rk := (HRW.out.belowHere hk).cellv (i := 0) rfl
    have fk := (HRW.out.belowHere hk).frozen 0
    have hKD : (wk.setCell ⟨w.heap.size, 0, none⟩ (.bool true)).heap[D]? = some (.deferred (some [])) := by rw [heap_setCell_other _ _ _ _ (by simp; omega), hk.block D (heap_lt hK), hK]
    have HBk := Lib.hid (HW.out.trans (hk.mono (by omega)))
    have HRk := Lib.hid (HRW.out.belowHere hk)
    clear hk
    go_wp2
    refine ⟨by simp, .inl ⟨_, _, rfl, run_takeDeferred hKD, ?_⟩⟩
    have z0 := ((Blk.keepsG (cw := []) (B := 0) (by simp)) _ _ (some D) (HRk.out.set 0 (.bool true)) (grownBy_putObj' _ D (.deferred none)) (.inr (.inr ⟨D, rfl, by omega, _, hKD, rfl⟩)) : Blk _ _ _ _).cellv (i := 0) rfl
    exact ⟨_, by simp [results, Try.results7, go_sem, z0], rfl, (HBk.out.setCell (p := ⟨w.heap.size, 0, none⟩) (Nat.le_refl _) _).trans (below_turn (l := D) (.deferred none) (by omega))⟩
end Go.Proofs.Ytpjjfehocibljaa
