/-
  The law's blocks: a manager's blocks as a row of the law's own.
-/
import Derived.Test.YtkkkggeagjgbeaaBlkAll
import Derived.Test.YtkkkggeagjgbeaaBlkAct
namespace Go.Proofs.Ytkkkggeagjgbeaa
open Go.RowKit Go.Shelf

attribute [local go_sem] Oper.semAt_some

theorem bfunc_nil (f g : Nat) (W : World) : (binOp .eql 72 (.func (.func f) #[] #[.pointer (some ⟨g, 0, none⟩)]) .nilFunc).run Try.prog W = .ok (.bool false) W := by kernel_rfl
/-- Between two rounds: the row lies in block H. -/
def BksI (M H : Nat) (w : World) (pre : List (Nat × Bk)) (W : World) : Prop :=
  ∃ v, Blk W H 44 #[v] ∧ Blk W (H + 1) 31 #[.pointer (some ⟨M, 0, none⟩)] ∧ OwnM 4 bkL 47 W w.heap.size v (pre.map (·.2)) ∧ Below w.heap.size w W ∧ H + 2 ≤ W.heap.size
theorem bksI_keeps (M H : Nat) (w : World) (pre : List (Nat × Bk)) (B : Nat) (hB : w.heap.size ≤ B) : KeepsG2 [] B (BksI M H w pre) :=
  KeepsG2.ex fun v => (Blk.keepsG (by simp)).and ((Blk.keepsG (by simp)).and ((OwnM.keepsG (by simp)).and ((below_keepsG (by simp) hB (Nat.le_refl _)).and size_keepsG)))
def bksAct (M H gq : Nat) (x : Nat × Bk) : Act :=
  { tmps := #[.pointer (some ⟨M, 0, none⟩), undef, .slice none 0 0, .pointer (some ⟨H, 0, none⟩), .func (.func 66) #[] #[.pointer (some ⟨H + 1, 0, none⟩)], undef, .pointer (some ⟨gq, 0, none⟩), .pointer (some ⟨M, 0, none⟩), .func (.func 66) #[] #[.pointer (some ⟨H + 1, 0, none⟩)], .func (.func 66) #[] #[.pointer (some ⟨H + 1, 0, none⟩)], .bool false, .func (.func 66) #[] #[.pointer (some ⟨H + 1, 0, none⟩)], .int .i64 (x.1 : Int), bkV x.2, undef, undef, undef, undef, undef], defers := [] }
theorem wpListIn_litBk {F : Fence} {fuel : Nat} {w : World} {ops : Array Oper} {rest : List Oper} {o : Oper} {ac : Act} {Q : Exit → Act → World → Prop} {cs : Array Value} (hgd : o.guard = none) (s x : Operand) (ho : o.op = .call { callee := .builtin .append, args := #[s, x], argTypes := #[44, 44] }) (base : Nat)
    (v : Value) (xs : List Bk) (hs : ac.eval s = v) (hown : OwnM 4 bkL 47 w base v xs) (y : Bk) (hx : ac.eval x = .slice (some ⟨w.heap.size, 0, none⟩) 1 1) (hcs : cs = (bkL y).toArray)
    (hbytes : xs.length ≤ 1000000) (hbase : base ≤ w.heap.size)
    (h : ∀ v' w', Hid (OwnM 4 bkL 47 w' base v' (xs ++ [y])) → Hid ((w.alloc (.cells cs 47)).grownBy w' v.ownBlock) → wpListIn F fuel Try.prog ops Q rest (ac.put o.dst v') w') :
    wpListIn F fuel Try.prog ops Q (o :: rest) ac (w.alloc (.cells cs 47)) := by
  obtain ⟨i0, hi, hz0, hz1, hz2⟩ := info_parts infoBk
  exact wpListIn_append_OwnM hgd s x 44 ho base 47 i0 _ 32 Try.underlying44 hi hz0 hz1 hz2 rfl (by decide) bk_one v xs hs (hown.alloc _) _ _ 1 1 [y] hx (ArrM.lit1 w 47 y hcs) (by omega) (by simp only [maxLen]; omega) (by simp; omega) fun v' w' h1 h2 _ => h v' w' (Lib.hid h1) (Lib.hid h2)
section
variable {NB B : Nat} {S : Nat → Prop} {w : World} {g : Mg}
set_option maxRecDepth 100000 in
set_option maxHeartbeats 4000000 in
theorem blocks_calls (h : MgM NB B S w g) :
    Calls Try.prog 15 #[.pointer (some ⟨g.M, 0, none⟩)] w fun e w' => (∃ v, e = .returned v ∧ OwnM 4 bkL 47 w' w.heap.size v g.l) ∧ Below w.heap.size w w' := by
  refine callsIn_wide (n := 9) |>.1 ?_
  refine callsIn_of_wp_marks Try.func15 rfl trivial ?_ rfl
  refine wpIn_wide.2 ?_
  simp only [Try.ntmps15, List.size_toArray, List.length_cons, List.length_nil, Nat.reduceAdd, Nat.reduceSub, Array.replicate_succ, Array.replicate_zero, List.push_toArray, List.append_toArray, List.nil_append, List.cons_append]
  have HH := Lib.hid h
  have hfn := bfunc_nil 66
  have hnb := h.nb
  clear h
  go_wp2_with fail
  refine (allFn g.M _).mono ?_
  rintro e w' ⟨rfl, rfl⟩
  go_wp2_with fail
  have hb0 : Below w.heap.size w ((w.alloc (.cells #[.slice none 0 0] 44)).alloc (.cells #[.pointer (some ⟨g.M, 0, none⟩)] 31)) := ((Below.refl _ w).alloc (Nat.le_refl _) _).alloc (by simp) _
  have b2 := (Blk.new w 44 #[.slice none 0 0]).alloc (.cells #[.pointer (some ⟨g.M, 0, none⟩)] 31)
  have b3 := Blk.new (w.alloc (.cells #[.slice none 0 0] 44)) 31 #[.pointer (some ⟨g.M, 0, none⟩)]
  have hsz : ((w.alloc (.cells #[.slice none 0 0] 44)).alloc (.cells #[.pointer (some ⟨g.M, 0, none⟩)] 31)).heap.size = w.heap.size + 2 := by simp
  simp only [World.size_alloc] at b3
  generalize ((w.alloc (.cells #[.slice none 0 0] 44)).alloc (.cells #[.pointer (some ⟨g.M, 0, none⟩)] 31)) = W0 at *
  have hit := all_iter g NB (w.heap.size + 1) w.heap.size W0 (HH.out.hM.belowHere hb0) (HH.out.arr.below hb0) b3 (by omega) hnb
  have hlen := HH.out.len
  refine wpIn_wide.1 (range_lawG (gf := 66) (lb := #[.pointer (some ⟨w.heap.size + 1, 0, none⟩)]) (encs := allEnc) (xs := allTo g.l NB) (cw := []) (own := [w.heap.size + 1]) (n0 := w.heap.size) (w0 := W0) rfl (enters_of Try.func66 (by kernel_rfl) rfl) hit (Below.refl _ _) (by omega) (by simp; omega) (by simp) (fun _ => rfl)
    (BksI g.M w.heap.size w) (fun _ _ _ => False) (fun pre => bksI_keeps _ _ _ _ _ (by omega)) (fun _ _ => KeepsG2.pure _)
    ⟨.slice none 0 0, b2, b3, OwnM.nil bk_len _ _, hb0, by omega⟩
    (fun pre x a1 W => ∃ gq, a1 = bksAct g.M w.heap.size gq x ∧ w.heap.size + 2 ≤ gq ∧ Blk W gq 47 (bkA x.2) ∧ BksI g.M w.heap.size w pre W) ?keeps ?assign ?body ?done ?stop)
  case keeps =>
    intro pre x a1
    exact KeepsG2.ex fun gq => (KeepsG2.pure _).and ((KeepsG2.pure _).and ((Blk.keepsG (by simp)).and (bksI_keeps _ _ _ _ _ (by omega))))
  case assign =>
    intro lp pre x W K hi hpre hK
    obtain ⟨v, i1, i2, i3, i4, i5⟩ := hi
    have hba := (Below.refl W.heap.size W).alloc (Nat.le_refl _) (.cells (bkA x.2) 47)
    have hk := hK (bksAct g.M w.heap.size W.heap.size x) _ (KeepsOthers.alloc W (.cells (bkA x.2) 47)) (hba.mono (by omega)) (fun q hq => by
      simp only [List.mem_cons, List.not_mem_nil, or_false] at hq
      subst hq
      exact hba.block _ (by omega)) hba.size ⟨W.heap.size, rfl, i5, Blk.new W _ _, v, i1.alloc _, i2.alloc _, i3.alloc _, i4.alloc (by omega) _, by rw [World.size_alloc]; omega⟩
    clear hK
    have HK := Lib.hid hk
    clear hk
    unfold allEnc
    gi_wp2
    exact HK.out
  case body =>
    rintro lp pre x a1 W ⟨gq, rfl, hgq, hk, v, bv, bv1, ho, hbel, hsW⟩ hpre
    unfold bksAct
    have hpl : pre.length ≤ 1000 := by
      have := hpre.length_le
      simp only [allTo, List.length_append, List.length_singleton, List.length_map, List.length_range] at this
      omega
    have cc := bv.cellv (i := 0) rfl
    have ff := bv.frozen 0
    obtain ⟨k, y⟩ := x
    have k0 := hk.cellv (i := 0) (v := .int .i64 (y.st : Int)) rfl
    have k1 := hk.cellv (i := 1) (v := .int .i64 (y.live : Int)) rfl
    have k2 := hk.cellv (i := 2) (v := .int .i64 (y.wear : Int)) rfl
    have k3 := hk.cellv (i := 3) (v := .int .i64 (y.nx : Int)) rfl
    have hcs := bkCells
    have HO1 := Lib.hid ho
    have HB1 := Lib.hid hbel
    have BV := Lib.hid bv
    have BV1 := Lib.hid bv1
    clear hpre hk bv bv1 ho hbel
    gi_wp2_with (gi_at_builtin; refine wpListIn_litBk rfl (.tmp 14) (.tmp 16) rfl w.heap.size v _ rfl HO1.out y rfl rfl (by rw [List.length_map]; omega) (by omega) ?_; intro v3 w3 HO3 HG3; obtain ⟨a3, c3, rfl, _⟩ := HO3.out.formN (n := pre.length + 1) (by simp); have BV3 := Lib.hid ((BV.out.alloc _).grown HG3.out (fun e => HO1.out.notBlk BV.out (by decide) e.symm)); have c32 := BV3.out.cellv (i := 0) rfl; have f32 := BV3.out.frozen 0)
    have f1 := BV1.out
    have i1 := ((f1.alloc (.cells (bkL y).toArray 47)).grown HG3.out (fun e => HO1.out.notBlk f1 (by decide) e.symm)).far (p := ⟨w.heap.size, 0, none⟩) (by simp) (.slice a3 (pre.length + 1) c3)
    have kb : Below w.heap.size W (w3.setCell ⟨w.heap.size, 0, none⟩ (.slice a3 (pre.length + 1) c3)) := (((Below.refl w.heap.size W).alloc (by omega) (.cells (bkL y).toArray 47)).grown HG3.out (by simp; omega) (fun k hk => (HO1.out.blockLt k hk).1)).setCell (p := ⟨w.heap.size, 0, none⟩) (Nat.le_refl _) _
    have hs3 := HG3.out.size
    rw [World.size_alloc] at hs3
    refine ⟨((KeepsOthers.alloc W (.cells (bkL y).toArray 47)).trans (KeepsOthers.of_grownBy HG3.out (HO1.out.alloc _).cellsRowM)).trans (others_setCell _ _ _ _), kb, ?_, _, BV3.out.set 0 _, i1, ?_, HB1.out.trans kb, by simp; omega⟩
    · intro z hz
      simp only [List.mem_cons, List.not_mem_nil, or_false] at hz
      subst hz
      exact (show _ = _ from i1).trans (show _ = _ from BV1.out).symm
    · rw [List.map_append]
      exact HO3.out.far (p := ⟨w.heap.size, 0, none⟩) (HO3.out.notBlk BV3.out (by decide)) _
  case done =>
    rintro D W hD ⟨v, bv, _, ho, hbel, hsW⟩ hK
    have e : (allTo g.l NB).map (·.2) = g.l := by
      apply List.ext_getElem
      · simp [allTo, hlen]
      · intro i h1 h2
        simp only [allTo, List.map_map, List.getElem_map, List.getElem_range, Function.comp]
        rw [Gc.at_, List.getD_eq_getElem?_getD, List.getElem?_eq_getElem h2]
        rfl
    rw [e] at ho
    have HO1 := Lib.hid ho
    have HB := Lib.hid hbel
    have c2 := bv.cellv (i := 0) rfl
    obtain ⟨a1, c1, rfl, _⟩ := ho.formN hlen
    clear ho hbel bv
    go_wp2
    refine ⟨by simp, .inl ⟨_, _, rfl, run_takeDeferred hK, ?_⟩⟩
    refine ⟨.slice a1 NB c1, by simp [results, Try.results15, go_sem], ⟨_, rfl, ?_⟩, HB.out.trans (below_turn (l := D) (.deferred none) (by omega))⟩
    exact (OwnM.keepsG (cw := []) (B := D) (by simp)) W _ (some D) HO1.out (grownBy_putObj' _ _ _) (.inr (.inr ⟨D, rfl, Nat.le_refl _, _, hK, rfl⟩))
  case stop =>
    rintro D k pre W hD _ h hK
    exact h.elim
end
end Go.Proofs.Ytkkkggeagjgbeaa
