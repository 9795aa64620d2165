/-
  The walk of the law InodePoints.
-/
import Derived.Test.YtjnjemhnceejeaaInoPts
import Derived.Test.YtjnjemhnceejeaaInoPoint2
import Derived.Test.YtjnjemhnceejeaaInoBytes
import Derived.Test.YtjnjemhnceejeaaNumAmong
import Derived.Test.YtjnjemhnceejeaaNumSame
import Derived.Shelf.Abstract
import Derived.Stop.RegionWithIn
namespace Go.Proofs.Ytjnjemhnceejeaa
open Go.RowKit Go.Shelf

attribute [local go_sem] Oper.semAt_some

theorem func_nil (f g : Nat) (W : World) : (binOp .eql 53 (.func (.func f) #[] #[.pointer (some ⟨g, 0, none⟩)]) .nilFunc).run Try.prog W = .ok (.bool false) W := by kernel_rfl
theorem infoI : (Try.prog.info? 3).map (fun i => (i.zero, i.size, i.bytes)) = some (some (.int .i64 0), 1, 8) := by kernel_rfl
theorem Blk.notOwn {α : Type} {f : α → Value} {e : TypeId} {w : World} {base g : Nat} {v : Value} {xs : List α} {t : TypeId} {cs : Array Value} (h : Own f e w base v xs) (hb : Blk w g t cs) (ht : e ≠ t) : v.ownBlock ≠ some g := by
  rcases h.2 with ⟨rfl, _⟩ | ⟨g', cap, cur, rfl, _, hh, _⟩
  · intro e; cases e
  · intro he
    have : g' = g := by simpa [Value.ownBlock] using he
    subst this
    unfold Blk at hb
    rw [hh] at hb
    injection hb with hb
    injection hb with _ hb
    exact ht hb
theorem wpListIn_litI {F : Fence} {fuel : Nat} {w : World} {ops : Array Oper} {rest : List Oper} {o : Oper} {ac : Act} {Q : Exit → Act → World → Prop} {cs : Array Value} (hgd : o.guard = none) (s x : Operand) (ho : o.op = .call { callee := .builtin .append, args := #[s, x], argTypes := #[51, 51] }) (base : Nat)
    (v : Value) (xs : List Int) (hs : ac.eval s = v) (hown : Own intV 3 w base v xs) (y : Int) (g : Nat) (hg : g = w.heap.size) (hx : ac.eval x = .slice (some ⟨g, 0, none⟩) 1 1) (hcs : cs = #[.int .i64 y])
    (hbytes : xs.length ≤ 1000000) (hbase : base ≤ w.heap.size)
    (h : ∀ v' w', Hid (Own intV 3 w' base v' (xs ++ [y])) → Hid ((w.alloc (.cells cs 3)).grownBy w' v.ownBlock) → Hid (v'.ownBlock = v.ownBlock ∨ v'.ownBlock = some (w.heap.size + 1)) → wpListIn F fuel Try.prog ops Q rest (ac.put o.dst v') w') :
    wpListIn F fuel Try.prog ops Q (o :: rest) ac (w.alloc (.cells cs 3)) := by
  subst hg
  obtain ⟨i0, hi, hz0, hz1, hz2⟩ := info_parts infoI
  exact wpListIn_append_Own hgd s x 51 ho base 3 i0 _ 8 Try.underlying51 hi hz0 hz1 hz2 rfl intV_one v xs hs (hown.alloc _) _ _ 1 1 [y] hx (Arr.lit w 3 [y] 1 rfl (by omega) hcs) (by omega) (by simp only [maxLen]; omega) (by simp; omega)
    fun v' w' h1 h2 h3 => h v' w' (Lib.hid h1) (Lib.hid h2) (Lib.hid (by simpa using h3))
def Apart (v1 v2 : Value) : Prop := ∀ g, v1.ownBlock = some g → v2.ownBlock ≠ some g
theorem Apart.ne {v1 v2 : Value} (h : Apart v1 v2) : v2.ownBlock = none ∨ v2.ownBlock ≠ v1.ownBlock := by
  cases e : v2.ownBlock with
  | none => exact .inl rfl
  | some g => exact .inr fun e2 => h g e2.symm e
theorem Apart.ne' {v1 v2 : Value} (h : Apart v1 v2) : v1.ownBlock = none ∨ v1.ownBlock ≠ v2.ownBlock := by
  cases e : v1.ownBlock with
  | none => exact .inl rfl
  | some g => exact .inr fun e2 => h g e e2.symm
theorem Apart.fst {v1 v2 v3 : Value} {n k : Nat} (h : Apart v1 v2) (h3 : v3.ownBlock = v1.ownBlock ∨ v3.ownBlock = some k) (hk : n ≤ k) (h2 : ∀ g, v2.ownBlock = some g → g < n) : Apart v3 v2 := fun g hg e => by
  rcases h3 with h3 | h3
  · exact h g (h3 ▸ hg) e
  · rw [h3] at hg
    injection hg with hg
    have := h2 g e
    omega
theorem Apart.snd {v1 v2 v4 : Value} {n k : Nat} (h : Apart v1 v2) (h3 : v4.ownBlock = v2.ownBlock ∨ v4.ownBlock = some k) (hk : n ≤ k) (h2 : ∀ g, v1.ownBlock = some g → g < n) : Apart v1 v4 := fun g hg e => by
  rcases h3 with h3 | h3
  · exact h g hg (h3 ▸ e)
  · rw [h3] at e
    injection e with e
    have := h2 g hg
    omega
/-- Between two rounds: the numbers and the pointers lie in rows of the law's own, in blocks A and A + 1. -/
def PtI (a : Option Addr) (n c : Nat) (most : Int) (H A : Nat) (w : World) (l : List (Nat × Nat)) (W : World) : Prop :=
  ∃ v1 v2, Blk W A 51 #[v1] ∧ Blk W (A + 1) 51 #[v2] ∧ Blk W (A + 2) 37 #[.slice a n c] ∧ Blk W H 3 #[.int .i64 most] ∧ Own intV 3 W A v1 (l.map fun x => (x.1 : Int)) ∧ Own intV 3 W A v2 (l.map fun x => (x.2 : Int)) ∧ Apart v1 v2 ∧ Below w.heap.size w W ∧ A + 3 ≤ W.heap.size
theorem ptI_keeps (a : Option Addr) (n c : Nat) (most : Int) (H A : Nat) (w : World) (l : List (Nat × Nat)) (B : Nat) (hA : w.heap.size ≤ A) (hB : A ≤ B) : KeepsG2 [] B (PtI a n c most H A w l) :=
  KeepsG2.ex fun v1 => KeepsG2.ex fun v2 => (Blk.keepsG (by simp)).and ((Blk.keepsG (by simp)).and ((Blk.keepsG (by simp)).and ((Blk.keepsG (by simp)).and ((Own.keepsG (by simp)).and ((Own.keepsG (by simp)).and ((KeepsG2.pure _).and ((below_keepsG (by simp) (by omega) (Nat.le_refl _)).and size_keepsG)))))))
theorem pointersFn (a : Option Addr) (n c : Nat) (w : World) :
    Calls Try.prog 29 #[.slice a n c] w fun e w' => e = .returned (.func (.func 48) #[] #[.pointer (some ⟨w.heap.size, 0, none⟩)]) ∧ w.alloc (.cells #[.slice a n c] 37) = w' := by
  go_enter Try.func29, Try.ntmps29
  go_wp2
  go_ret
  exact ⟨rfl, rfl⟩
/-- The frame under a name. -/
theorem wp_named {P : Program} {c : Code} {Q : Exit → Act → World → Prop} {T0 : Array Value} {ds : List Deferred} {w : World} (h : ∀ T, T = T0 → Code.wp P c Q ⟨T, ds⟩ w) : Code.wp P c Q ⟨T0, ds⟩ w := h T0 rfl
theorem wp_tail {P : Program} {c : Code} {Q : Exit → Act → World → Prop} {T : Array Value} {w : World} (R : Nat → World → Prop) (tail : ∀ D W, R D W → Q .normal ⟨T, [{ target := .collected D, args := #[] }]⟩ W)
    (h : (∀ D W, R D W → Q .normal ⟨T, [{ target := .collected D, args := #[] }]⟩ W) → Code.wp P c Q ⟨T, []⟩ w) : Code.wp P c Q ⟨T, []⟩ w := h tail
def ptAct (T : Array Value) (x : Nat × Nat) : Act := ⟨(((T.setIfInBounds 78 (.int .i64 (x.1 : Int))).setIfInBounds 79 (.int .i64 (x.2 : Int))).setIfInBounds 20 (.int .i64 (x.1 : Int))).setIfInBounds 21 (.int .i64 (x.2 : Int)), []⟩
set_option maxRecDepth 100000 in
set_option maxHeartbeats 4000000 in
theorem inodePoints_walk (a : Option Addr) (n c : Nat) (xs : List UInt8) (k tt most : Int) (w : World) (hx : Bytes w w.heap.size a n xs) (hnc : n ≤ c) (_ : c ≤ 140737488351232) (_ : -9223372036854775808 ≤ k) (_ : k ≤ 9223372036854775807) (_ : -9223372036854775808 ≤ tt) (_ : tt ≤ 9223372036854775807) (lo : -9223372036854775808 ≤ most) (hi : most ≤ 9223372036854775807) :
    Calls Try.prog 7 #[.slice a n c, .int .i64 k, .int .i64 tt, .int .i64 most] w fun e w' => e = .returned (.bool true) ∧ Below w.heap.size w w' := by
  refine callsIn_wide (n := 9) |>.1 ?_
  refine callsIn_of_wp_marks Try.func7 rfl trivial ?_ rfl
  refine wpIn_wide.2 ?_
  simp only [Try.ntmps7, List.size_toArray, List.length_cons, List.length_nil, Nat.reduceAdd, Nat.reduceSub, Array.replicate_succ, Array.replicate_zero, List.push_toArray, List.append_toArray, List.nil_append, List.cons_append]
  by_cases hl : 1500 < n
  · have hd : decide (1500 < n) = true := decide_eq_true hl
    have hb0 := Lib.hid ((Below.refl w.heap.size w).alloc (Nat.le_refl _) (.cells #[.int .i64 most] 3))
    clear hx hl
    go_wp2_with fail
    refine (ilong_calls _ _ _ _).mono ?_
    rintro e w_ ⟨rfl, rfl⟩
    rw [hd]
    go_wp2_with fail
    refine (known_calls _).mono ?_
    rintro e wk ⟨rfl, hbk⟩
    have HB := Lib.hid (hb0.out.then_ hbk)
    clear hbk
    go_wp2
    refine ⟨_, by simp [results, Try.results7, go_sem], rfl, HB.out⟩
  have hd : decide (1500 < n) = false := decide_eq_false hl
  have hn : n ≤ 1500 := by omega
  have HX := Lib.hid hx
  have HLX := Lib.hid hx.len
  obtain ⟨M, hM, hM3⟩ := among_nat most 300 (by omega)
  have HAm := Lib.hid (fun W => among_calls most 300 W lo hi (by omega))
  rw [show ((300 : Nat) : Int) = 300 from rfl] at hM
  rw [hM] at HAm
  have HB0 := Lib.hid ((Below.refl w.heap.size w).alloc (Nat.le_refl _) (.cells #[.int .i64 most] 3))
  have HM0 := Lib.hid (Blk.new w 3 #[.int .i64 most])
  have HX0 := Lib.hid (HX.out.alloc (.cells #[.int .i64 most] 3))
  clear hx hl hM
  go_wp2_with fail
  refine (ilong_calls _ _ _ _).mono ?_
  rintro e w_ ⟨rfl, rfl⟩
  rw [hd]
  clear hd
  go_wp2_with fail
  refine (pointer_calls a n c xs k _ HX0.out).mono ?_
  rintro e w1 ⟨rfl, hb⟩
  have HB1 := Lib.hid (HB0.out.then_ hb)
  have HM1 := Lib.hid (HM0.out.belowHere hb)
  have HX1 := Lib.hid (HX0.out.on hb)
  clear hb HB0 HM0 HX0
  go_wp2_with fail
  refine (refPointer_calls a n c xs k _ HX1.out hnc).mono ?_
  rintro e w2 ⟨rfl, hb⟩
  have HB2 := Lib.hid (HB1.out.then_ hb)
  have HM2 := Lib.hid (HM1.out.belowHere hb)
  have HX2 := Lib.hid (HX1.out.on hb)
  clear hb HB1 HM1 HX1
  generalize Pt.ptrV xs k = pv at *
  generalize Pt.ptrE xs k = pe at *
  go_wp2_with fail
  refine (point_calls a n c xs k tt _ HX2.out).mono ?_
  rintro e w3 ⟨v3, rfl, ho, hb⟩
  have hlen3 : (Pt.pointL xs k tt).length ≤ 1500 := by
    unfold Pt.pointL
    split
    · rename_i h; rw [Pt.put_len (by have := Pt.has_bound h.1; rw [HLX.out] at this ⊢; omega), HLX.out]; exact hn
    · exact Nat.zero_le _
  obtain ⟨m3, hm3⟩ : ∃ m, (Pt.pointL xs k tt).length = m := ⟨_, rfl⟩
  obtain ⟨a3, c3, rfl, _⟩ := ho.formN hm3
  have HB3 := Lib.hid (HB2.out.then_ hb)
  have HM3 := Lib.hid (HM2.out.belowHere hb)
  have HX3 := Lib.hid (HX2.out.on hb)
  have HP3 := Lib.hid (ho.arr (by omega))
  clear hb HB2 HM2 HX2 ho
  go_wp2_with fail
  refine (refPoint_calls a n c xs k tt _ HX3.out hnc).mono ?_
  rintro e w4 ⟨v4, rfl, ho, hb⟩
  obtain ⟨a4, c4, rfl, _⟩ := ho.formN hm3
  have HB4 := Lib.hid (HB3.out.then_ hb)
  have HM4 := Lib.hid (HM3.out.belowHere hb)
  have HX4 := Lib.hid (HX3.out.on hb)
  have HP4 := Lib.hid (HP3.out.on hb)
  have HQ4 := Lib.hid (ho.arr (by omega))
  clear hb HB3 HM3 HX3 ho HP3 hm3 hlen3
  generalize Pt.pointL xs k tt = pl at *
  generalize Pt.pointE xs k tt = pr at *
  go_wp2_with fail
  refine (same_yes _ _ _ _ _ _ _ _ HP4.out HQ4.out).mono ?_
  rintro e w_ ⟨rfl, rfl⟩
  clear HP4 HQ4
  have hb5 := ((Below.refl w4.heap.size w4).alloc (Nat.le_refl _) (.cells #[.slice none 0 0] 51)).alloc (by simp) (.cells #[.slice none 0 0] 51)
  have A5 := (Blk.new w4 51 #[.slice none 0 0]).alloc (.cells #[.slice none 0 0] 51)
  have B5 := Blk.new (w4.alloc (.cells #[.slice none 0 0] 51)) 51 #[.slice none 0 0]
  simp only [World.size_alloc] at B5
  have hs5 : ((w4.alloc (.cells #[.slice none 0 0] 51)).alloc (.cells #[.slice none 0 0] 51)).heap.size = w4.heap.size + 2 := by simp
  have HB5 := Lib.hid (HB4.out.then_ hb5)
  have HM5 := Lib.hid (HM4.out.belowHere hb5)
  have HX5 := Lib.hid (HX4.out.on hb5)
  have HA5 := Lib.hid A5
  have HBB5 := Lib.hid B5
  have hs4 := HM4.out.lt
  clear hb5 A5 B5 HB4 HM4
  go_wp2_with fail
  generalize (w4.alloc (.cells #[.slice none 0 0] 51)).alloc (.cells #[.slice none 0 0] 51) = w5 at *
  refine (pointersFn a n c _).mono ?_
  rintro e w' ⟨rfl, rfl⟩
  have C6 := Blk.new w5 37 #[.slice a n c]
  have hb6 := (Below.refl w5.heap.size w5).alloc (Nat.le_refl _) (.cells #[.slice a n c] 37)
  have hs6 : (w5.alloc (.cells #[.slice a n c] 37)).heap.size = w4.heap.size + 3 := by simp [hs5]
  have HB6 := Lib.hid (HB5.out.then_ hb6)
  have HM6 := Lib.hid (HM5.out.belowHere hb6)
  have HA6 := Lib.hid (HA5.out.belowHere hb6)
  have HBB6 := Lib.hid (HBB5.out.belowHere hb6)
  have HX6 := Lib.hid (HX.out.below (B := w.heap.size) HB6.out)
  rw [hs5] at C6
  have HC6 := Lib.hid C6
  have hfn := func_nil 48 (w4.heap.size + 2)
  rw [hs5]
  clear hb6 C6 HB5 HM5 HA5 HBB5 HX5
  generalize w5.alloc (.cells #[.slice a n c] 37) = w6 at *
  generalize w4.heap.size = A at *
  clear hs5 hfn
  have hfn := func_nil 48 (A + 2)
  go_wp2_with fail
  refine wp_named fun T hT => ?_
  refine wp_tail (R := fun D W => w6.heap.size ≤ D ∧ PtI a n c most w.heap.size A w ((Pt.pts xs).take M) W ∧ W.heap[D]? = some (.deferred (some []))) ?tail (fun tail => ?_)
  rotate_left
  have HTail := Lib.hid tail
  clear tail
  have hit := pts_iter a n c xs (A + 2) w.heap.size w6 HX6.out HC6.out (by omega)
  refine wpIn_wide.1 (range_lawG (gf := 48) (lb := #[.pointer (some ⟨A + 2, 0, none⟩)]) (encs := ptEnc) (xs := Pt.pts xs) (cw := []) (own := [A + 2]) (n0 := w.heap.size) (w0 := w6) (by rw [hT]; rfl) (enters_of Try.func48 (by kernel_rfl) rfl) hit (Below.refl _ _) (by omega) (by simp; omega) (by simp) (fun _ => rfl)
    (fun pre W => PtI a n c most w.heap.size A w pre W ∧ pre.length ≤ M) (fun kc _ W => PtI a n c most w.heap.size A w ((Pt.pts xs).take M) W ∧ kc = .exit 0)
    (fun pre => (ptI_keeps _ _ _ _ _ _ _ _ _ (by omega) (by omega)).and (KeepsG2.pure _)) (fun _ _ => (ptI_keeps _ _ _ _ _ _ _ _ _ (by omega) (by omega)).and (KeepsG2.pure _))
    ⟨⟨_, _, HA6.out, HBB6.out, HC6.out, HM6.out, Own.nil _ _, Own.nil _ _, (fun g h => by cases h), HB6.out, by omega⟩, Nat.zero_le _⟩
    (fun pre x a1 W => a1 = ptAct T x ∧ PtI a n c most w.heap.size A w pre W ∧ pre.length ≤ M) ?keeps ?assign ?body ?done ?stop)
  case keeps =>
    intro pre x a1
    exact (KeepsG2.pure _).and ((ptI_keeps _ _ _ _ _ _ _ _ _ (by omega) (by omega)).and (KeepsG2.pure _))
  case assign =>
    intro lp pre x W K hi hpre hK
    unfold ptEnc
    have HK := Lib.hid (fun a1 h => hK a1 W (KeepsOthers.refl _) (Below.refl _ _) (fun _ _ => rfl) (Nat.le_refl _) ⟨h, hi⟩)
    clear hK hi hit
    subst hT
    gi_wp2
    exact HK.out _ rfl
  case body =>
    rintro lp pre ⟨i, v⟩ a1 W ⟨rfl, hpt, hpl⟩ hpre
    obtain ⟨v1, v2, ba, bb, bc, bm, o1, o2, hap, hbel, hsW⟩ := hpt
    unfold ptAct
    have HAL := Lib.hid (fun W => CallsIn.inRound lp (callsIn_wide (n := 6) |>.2 (HAm.out W)))
    have HP := Lib.hid (show PtI a n c most w.heap.size A w pre W from ⟨v1, v2, ba, bb, bc, bm, o1, o2, hap, hbel, hsW⟩)
    have HKp := Lib.hid (fun l W W' (h : PtI a n c most w.heap.size A w l W) (hg : Below W.heap.size W W') => ptI_keeps a n c most w.heap.size A w l A (by omega) (Nat.le_refl _) W W' none h (grownNone_of_below hg) (.inl rfl))
    obtain ⟨q, hq⟩ : ∃ q, q = pre.length := ⟨_, rfl⟩
    obtain ⟨a1, c1, rfl, _⟩ := o1.formN (n := q) (by rw [List.length_map, hq])
    obtain ⟨a2, c2, rfl, _⟩ := o2.formN (n := q) (by rw [List.length_map, hq])
    have ca := ba.cellv (i := 0) rfl
    have cm := bm.cellv (i := 0) rfl
    rw [← hq] at hpl
    have HTk := Lib.hid (fun h : q = M => (show (Pt.pts xs).take M = pre by
      obtain ⟨t, ht⟩ := hpre
      rw [← ht, ← h, hq, List.append_assoc, List.take_left']; rfl))
    have HQ := Lib.hid hq
    have HPre := Lib.hid hpre
    have BA := Lib.hid ba.drew
    have BB := Lib.hid bb.drew
    have BC := Lib.hid bc.drew
    have BM := Lib.hid bm.drew
    have O1 := Lib.hid o1.drew
    have O2 := Lib.hid o2.drew
    have HAp := Lib.hid hap
    have HBel := Lib.hid hbel.drew
    have hsW2 : A + 3 ≤ W.drew.heap.size := hsW
    clear hit hpre hq ba bb bc bm o1 o2 hap hbel
    subst hT
    simp only [List.setIfInBounds_toArray, List.set_cons_succ, List.set_cons_zero]
    by_cases hqM : q = M
    · subst hqM
      gi_wp2_with fail
      gi_region_with (refine ⟨trivial, ?_⟩; gi_at_call 30; refine (HAL.out _).mono ?_; rintro e w' ⟨rfl, rfl⟩)
      all_goals
        gi_wp2
        exact ⟨KeepsOthers.of_grownBy (grownNone_of_below (Below.refl _ _).drew) (fun j o e _ => by cases e), by rw [HTk.out (by trivial)]; exact HKp.out _ _ _ HP.out (Below.refl _ _).drew, rfl⟩
    · have z1 : ((q : Int) == (M : Int)) = false := by rw [beq_eq_false_iff_ne]; omega
      gi_wp2_with fail
      gi_region_with (refine ⟨trivial, ?_⟩; gi_at_call 30; refine (HAL.out _).mono ?_; rintro e w' ⟨rfl, rfl⟩)
      all_goals
        have HKO := Lib.hid (show KeepsOthers W W.drew from KeepsOthers.of_grownBy (grownNone_of_below (Below.refl _ _).drew) (fun j o e _ => by cases e))
        have HBW := Lib.hid (show Below w.heap.size W W.drew from (Below.refl _ _).drew)
        have HCW := Lib.hid (show W.drew.heap[A + 2]? = W.heap[A + 2]? from rfl)
        have ca2 := BA.out.cellv (i := 0) rfl
        have fa2 := BA.out.frozen 0
        clear ca cm z1
        generalize W.drew = W2 at *
        gi_wp2_with (first
          | (gi_at_builtin; refine wpListIn_litI rfl (.tmp 85) (.tmp 87) rfl A (.slice a1 q c1) _ rfl O1.out (i : Int) _ rfl rfl rfl (by rw [List.length_map, ← HQ.out]; omega) (by omega) ?_; intro v3 w3 HO3 HG3 HL3; obtain ⟨a5, c5, rfl, _⟩ := HO3.out.formN (n := q + 1) (by rw [List.length_append, List.length_map, ← HQ.out]; rfl); have BA3 := Lib.hid ((BA.out.alloc _).grown HG3.out (fun e => Blk.notOwn O1.out BA.out (by decide) e.symm)); have ca3 := BA3.out.cellv (i := 0) rfl; have fa3 := BA3.out.frozen 0; have BB3 := Lib.hid (((BB.out.alloc _).grown HG3.out (fun e => Blk.notOwn O1.out BB.out (by decide) e.symm)).far (p := ⟨A, 0, none⟩) (by simp) (.slice a5 (q + 1) c5)); have cb3 := BB3.out.cellv (i := 0) rfl; have fb3 := BB3.out.frozen 0; have O23 := Lib.hid (((O2.out.alloc _).grown HG3.out HAp.out.ne).far (p := ⟨A, 0, none⟩) (Blk.notOwn ((O2.out.alloc _).grown HG3.out HAp.out.ne) BA3.out (by decide)) (.slice a5 (q + 1) c5)); have hs3 := HG3.out.size; simp only [World.size_alloc] at hs3)
          | (gi_at_builtin; refine wpListIn_litI rfl (.tmp 89) (.tmp 91) rfl A (.slice a2 q c2) _ rfl O23.out (v : Int) w3.heap.size (by simp) rfl rfl (by rw [List.length_map, ← HQ.out]; omega) (by simp; omega) ?_; intro v6 w7 HO7 HG7 HL7; obtain ⟨a7, c7, rfl, _⟩ := HO7.out.formN (n := q + 1) (by rw [List.length_append, List.length_map, ← HQ.out]; rfl); have BB7 := Lib.hid ((BB3.out.alloc _).grown HG7.out (fun e => Blk.notOwn O23.out BB3.out (by decide) e.symm)); have cb7 := BB7.out.cellv (i := 0) rfl; have fb7 := BB7.out.frozen 0))
        have o31 := HO3.out.far (p := ⟨A, 0, none⟩) (Blk.notOwn HO3.out BA3.out (by decide)) (.slice a5 (q + 1) c5)
        have hap5 : Apart (.slice a5 (q + 1) c5) (.slice a2 q c2) := HAp.out.fst HL3.out (n := W2.heap.size) (by omega) (fun g hg => (O2.out.blockLt g hg).2)
        have hap7 : Apart (.slice a5 (q + 1) c5) (.slice a7 (q + 1) c7) := hap5.snd HL7.out (n := (w3.setCell ⟨A, 0, none⟩ (.slice a5 (q + 1) c5)).heap.size) (by omega) (fun g hg => (o31.blockLt g hg).2)
        have o37 := ((o31.alloc _).grown HG7.out hap5.ne').far (p := ⟨A + 1, 0, none⟩) (Blk.notOwn ((o31.alloc _).grown HG7.out hap5.ne') BB7.out (by decide)) (.slice a7 (q + 1) c7)
        have o27 := HO7.out.far (p := ⟨A + 1, 0, none⟩) (Blk.notOwn HO7.out BB7.out (by decide)) (.slice a7 (q + 1) c7)
        have ba4 := BA3.out.set 0 (.slice a5 (q + 1) c5)
        have ba7 := ((ba4.alloc _).grown HG7.out (fun e => Blk.notOwn O23.out ba4 (by decide) e.symm)).far (p := ⟨A + 1, 0, none⟩) (by simp) (.slice a7 (q + 1) c7)
        have bb7 := BB7.out.set 0 (.slice a7 (q + 1) c7)
        have bc4 := ((BC.out.alloc _).grown HG3.out (fun e => Blk.notOwn O1.out BC.out (by decide) e.symm)).far (p := ⟨A, 0, none⟩) (by simp) (.slice a5 (q + 1) c5)
        have bc7 := ((bc4.alloc _).grown HG7.out (fun e => Blk.notOwn O23.out bc4 (by decide) e.symm)).far (p := ⟨A + 1, 0, none⟩) (by simp) (.slice a7 (q + 1) c7)
        have bm4 := ((BM.out.alloc _).grown HG3.out (fun e => by have := (O1.out.blockLt _ e.symm).1; omega)).far (p := ⟨A, 0, none⟩) (by simp; omega) (.slice a5 (q + 1) c5)
        have bm7 := ((bm4.alloc _).grown HG7.out (fun e => by have := (O23.out.blockLt _ e.symm).1; omega)).far (p := ⟨A + 1, 0, none⟩) (by simp; omega) (.slice a7 (q + 1) c7)
        have kb : Below w.heap.size W2 (w7.setCell ⟨A + 1, 0, none⟩ (.slice a7 (q + 1) c7)) := ((((((Below.refl w.heap.size W2).alloc (by omega) _).grown HG3.out (by simp; omega) (fun k hk => by have := (O1.out.blockLt k hk).1; omega)).setCell (p := ⟨A, 0, none⟩) (by simp; omega) _).alloc (by simp; omega) _).grown HG7.out (by simp; omega) (fun k hk => by have := (O23.out.blockLt k hk).1; omega)).setCell (p := ⟨A + 1, 0, none⟩) (by simp; omega) _
        have hs7 := HG7.out.size
        simp only [World.size_alloc, World.size_setCell] at hs7
        have ko := (((((HKO.out.trans (KeepsOthers.alloc _ _)).trans (KeepsOthers.of_grownBy HG3.out (O1.out.alloc _).cellsRow)).trans (others_setCell _ A 0 (.slice a5 (q + 1) c5))).trans (KeepsOthers.alloc _ _)).trans (KeepsOthers.of_grownBy HG7.out (O23.out.alloc _).cellsRow)).trans (others_setCell _ (A + 1) 0 (.slice a7 (q + 1) c7))
        refine ⟨ko, HBW.out.trans kb, ?_, ⟨_, _, ba7, bb7, bc7, bm7, ?_, ?_, hap7, HBel.out.trans kb, by simp; omega⟩, by rw [List.length_append, ← HQ.out, List.length_singleton]; omega⟩
        · intro z hz
          obtain rfl := List.mem_singleton.1 hz
          exact ((show _ = _ from bc7).trans (show _ = _ from BC.out).symm).trans HCW.out
        · rw [List.map_append]; exact o37
        · rw [List.map_append]; exact o27
  case done =>
    rintro D W hD ⟨hp, hlen⟩ hK
    exact HTail.out D W ⟨hD, by rw [List.take_of_length_le hlen]; exact hp, hK⟩
  case stop =>
    rintro D kc pre W hD _ ⟨hp, rfl⟩ hK
    have h := HTail.out D W ⟨hD, hp, hK⟩
    exact wpIn_exit h
  rintro D W ⟨hD, ⟨v1, v2, ba, bb, bc, bm, o1, o2, _, hbel, hsW⟩, hK⟩
  obtain ⟨l, hl⟩ : ∃ l, l = (Pt.pts xs).take M := ⟨_, rfl⟩
  rw [← hl] at o1 o2
  obtain ⟨L, hL⟩ : ∃ L, L = l.length := ⟨_, rfl⟩
  obtain ⟨a1, c1, rfl, _⟩ := o1.formN (n := L) (by rw [List.length_map, hL])
  obtain ⟨a2, c2, rfl, _⟩ := o2.formN (n := L) (by rw [List.length_map, hL])
  have hLM : L ≤ M := by rw [hL, hl, List.length_take]; omega
  have ca := ba.cellv (i := 0) rfl
  have cb := bb.cellv (i := 0) rfl
  have cm := bm.cellv (i := 0) rfl
  have HO1 := Lib.hid o1
  have HO2 := Lib.hid o2
  have HBel := Lib.hid hbel
  have HXW := Lib.hid (HX.out.below (B := w.heap.size) hbel)
  have HK := Lib.hid hK
  have HL := Lib.hid hl
  have HLL := Lib.hid hL
  subst hT
  clear hl hL o1 o2 hbel hK ba bb bc bm HX6 HC6 HM6 HA6 HBB6 HB6
  have HSz := Lib.hid (fun W => refSized_calls n W)
  by_cases hz : Ino.Sized n
  case neg =>
    have hl0 : l = [] := by rw [HL.out]; unfold Pt.pts; rw [HLX.out, if_neg hz]; exact List.take_nil
    obtain rfl : L = 0 := by rw [HLL.out, hl0]; rfl
    have hd : decide (Ino.Sized n) = false := decide_eq_false hz
    rw [hd] at HSz
    clear hz hl0 hd
    go_wp2_with fail
    go_loop [22, 23, 24] (fun nn i _ => nn = .int .i64 0 ∧ i = .int .i64 0) (fun _ _ _ => 0)
    case atStart => exact ⟨rfl, rfl⟩
    case round =>
      obtain ⟨rfl, rfl⟩ := hrel
      by_cases h0 : (0 : Int) < (n : Int) / 2
      · have g1 : decide ((0 : Int) < (n : Int) / 2) = true := decide_eq_true h0
        go_wp2_with (go_at_call 31; refine (HSz.out _).mono ?_; rintro e w_ ⟨rfl, rfl⟩)
        go_wp2_with fail
        refine (known_calls _).mono ?_
        rintro e wk ⟨rfl, hbk⟩
        have HB := Lib.hid hbk
        clear hbk
        have hKk : wk.heap[D]? = some (.deferred (some [])) := (HB.out.block D (heap_lt HK.out)).trans HK.out
        go_wp2
        refine ⟨by simp, .inl ⟨_, _, rfl, run_takeDeferred hKk, ?_⟩⟩
        refine ⟨_, by simp [results, Try.results7, go_sem], rfl, ?_⟩
        exact (HBel.out.then_ HB.out).trans (below_turn (l := D) (.deferred none) (by omega))
      · have g1 : decide ((0 : Int) < (n : Int) / 2) = false := decide_eq_false h0
        go_wp2_with fail
        refine (known_calls _).mono ?_
        rintro e wk ⟨rfl, hbk⟩
        have HB := Lib.hid hbk
        clear hbk
        have hKk : wk.heap[D]? = some (.deferred (some [])) := (HB.out.block D (heap_lt HK.out)).trans HK.out
        go_wp2
        refine ⟨by simp, .inl ⟨_, _, rfl, run_takeDeferred hKk, ?_⟩⟩
        refine ⟨_, by simp [results, Try.results7, go_sem], rfl, ?_⟩
        exact (HBel.out.then_ HB.out).trans (below_turn (l := D) (.deferred none) (by omega))
  have HPts := Lib.hid (show Pt.pts xs = Pt.ptsTo xs (n / 2) by unfold Pt.pts; rw [HLX.out, if_pos hz])
  have hd : decide (Ino.Sized n) = true := decide_eq_true hz
  rw [hd] at HSz
  clear hz hd
  go_wp2_with fail
  go_loop [22, 23, 24] (fun nn i _ => ∃ j q : Nat, j ≤ n / 2 ∧ q = (Pt.ptsTo xs j).length ∧ q ≤ M ∧ nn = .int .i64 q ∧ i = .int .i64 j) (fun _ i _ => n / 2 - (intOf i).toNat)
  case atStart => exact ⟨0, 0, by omega, rfl, by omega, rfl, rfl⟩
  case round =>
    obtain ⟨j, q, hj, hq, hqM, rfl, rfl⟩ := hrel
    have HQ := Lib.hid hq
    clear hq
    by_cases hjn : j < n / 2
    · have g1 : decide ((j : Int) < (n : Int) / 2) = true := decide_eq_true (by omega)
      by_cases hlt : q < M
      · have g2 : decide ((q : Int) < (M : Int)) = true := decide_eq_true (by omega)
        obtain ⟨b, o, _, rfl, _, _⟩ := HX.out.atv (k := 0) (by omega)
        have hcut := cutB_mid (some ⟨b, o, none⟩) n c (2 * j) (2 * j + 2) (by omega) (by omega)
        rw [cutA, if_neg (by omega), Option.map_some, Addr.add_mid, Nat.add_sub_cancel_left, Int.natCast_add, Int.natCast_mul, show ((2 : Nat) : Int) = 2 from rfl] at hcut
        have hy2 := (HXW.out.drop (l := 2 * j) (by omega) hnc).take (k := 2) (by omega)
        rw [cutA, if_neg (by omega), Option.map_some, Addr.add_mid] at hy2
        have HNum := Lib.hid (fun c' => refNum_calls _ 2 c' _ W (hy2.mono (by omega : w.heap.size ≤ W.heap.size)) (by omega))
        rw [show numL ((xs.drop (2 * j)).take 2) = Pt.two xs j from rfl] at HNum
        obtain ⟨c', hc'⟩ : ∃ c', c' = c - 2 * j := ⟨_, rfl⟩
        rw [← hc'] at hcut
        have hent := Lib.hid (show Pt.ptsTo xs (j + 1) = if Pt.two xs j = 0 then Pt.ptsTo xs j else Pt.ptsTo xs j ++ [(j, Pt.two xs j)] from rfl)
        have h2 := Pt.two_eq (xs := xs) (j := j) (by rw [HLX.out]; omega)
        have hv2 : Pt.two xs j < 65536 := by
          have := (xs[2 * j]'(by rw [HLX.out]; omega)).toNat_lt
          have := (xs[2 * j + 1]'(by rw [HLX.out]; omega)).toNat_lt
          omega
        have hpre := Lib.hid (Pt.ptsTo_pre (xs := xs) (k := j + 1) (m := n / 2) (by omega))
        clear h2 hc'
        generalize Pt.two xs j = v at *
        by_cases hv0 : v = 0
        · have hent2 := Lib.hid (hent.out.trans (if_pos hv0))
          have z1 : ((v : Int) == 0) = true := by rw [beq_iff_eq]; omega
          clear hv0
          go_wp2_with (first
            | (go_at_call 31; refine (HSz.out _).mono ?_; rintro e w_ ⟨rfl, rfl⟩)
            | (go_at_call 30; refine (HAm.out _).mono ?_; rintro e w_ ⟨rfl, rfl⟩)
            | (go_at_call 32; refine (HNum.out _).mono ?_; rintro e w_ ⟨rfl, rfl⟩))
          go_round
          case rel => exact ⟨j + 1, q, by omega, by rw [hent2.out]; exact HQ.out, hqM, rfl, by go_num⟩
          case measure => simp [intOf]; omega
        · have hent2 := Lib.hid (hent.out.trans (if_neg hv0))
          have z1 : ((v : Int) == 0) = false := by rw [beq_eq_false_iff_ne]; omega
          obtain ⟨t, ht⟩ := hpre.out
          rw [hent2.out, ← HPts.out] at ht
          have hlq : l[q]? = some (j, v) := by
            rw [HL.out, List.getElem?_take, if_pos hlt, ← ht, List.append_assoc, List.getElem?_append_right (by rw [← HQ.out]; omega), ← HQ.out, Nat.sub_self]
            rfl
          obtain ⟨hql, hle⟩ := List.getElem?_eq_some_iff.1 hlq
          have hqL : q < L := by rw [HLL.out]; exact hql
          obtain ⟨g1', rfl, _, _⟩ := HO1.out.addr (by rw [List.length_map]; omega)
          obtain ⟨g2', rfl, _, _⟩ := HO2.out.addr (by rw [List.length_map]; omega)
          obtain ⟨y1, _⟩ := HO1.out.cellg (k := q) (by rw [List.length_map]; omega)
          obtain ⟨y2, _⟩ := HO2.out.cellg (k := q) (by rw [List.length_map]; omega)
          rw [List.getElem_map, hle] at y1 y2
          have x1 : W.cell? ⟨g1', q, none⟩ = some (.int .i64 (j : Int)) := y1
          have x2 : W.cell? ⟨g2', q, none⟩ = some (.int .i64 (v : Int)) := y2
          have g3 : decide ((L : Int) ≤ (q : Int)) = false := decide_eq_false (by omega)
          have g4 : decide (L ≤ q) = false := decide_eq_false (by omega)
          clear hv0 ht hlq hql hle y1 y2
          go_wp2_with (first
            | (go_at_call 31; refine (HSz.out _).mono ?_; rintro e w_ ⟨rfl, rfl⟩)
            | (go_at_call 30; refine (HAm.out _).mono ?_; rintro e w_ ⟨rfl, rfl⟩)
            | (go_at_call 32; refine (HNum.out _).mono ?_; rintro e w_ ⟨rfl, rfl⟩))
          go_round
          case rel => exact ⟨j + 1, q + 1, by omega, by rw [hent2.out, List.length_append, ← HQ.out]; rfl, by omega, by go_num, by go_num⟩
          case measure => simp [intOf]; omega
      · obtain rfl : q = M := by omega
        have hLq : L = q := by
          have h := (Pt.ptsTo_pre (xs := xs) (k := j) (m := n / 2) (by omega)).length_le
          rw [HLL.out, HL.out, List.length_take, HPts.out]
          rw [← HQ.out] at h
          omega
        clear hlt
        subst hLq
        go_wp2_with (first
          | (go_at_call 31; refine (HSz.out _).mono ?_; rintro e w_ ⟨rfl, rfl⟩)
          | (go_at_call 30; refine (HAm.out _).mono ?_; rintro e w_ ⟨rfl, rfl⟩))
        go_wp2_with fail
        refine (known_calls _).mono ?_
        rintro e wk ⟨rfl, hbk⟩
        have HB := Lib.hid hbk
        clear hbk
        have hKk : wk.heap[D]? = some (.deferred (some [])) := (HB.out.block D (heap_lt HK.out)).trans HK.out
        go_wp2
        refine ⟨by simp, .inl ⟨_, _, rfl, run_takeDeferred hKk, ?_⟩⟩
        refine ⟨_, by simp [results, Try.results7, go_sem], rfl, ?_⟩
        exact (HBel.out.then_ HB.out).trans (below_turn (l := D) (.deferred none) (by omega))
    · obtain rfl : j = n / 2 := by omega
      have hLq : L = q := by
        rw [HLL.out, HL.out, List.length_take, HPts.out, ← HQ.out]
        omega
      have g1 : decide (((n / 2 : Nat) : Int) < (n : Int) / 2) = false := decide_eq_false (by omega)
      subst hLq
      go_wp2_with fail
      refine (known_calls _).mono ?_
      rintro e wk ⟨rfl, hbk⟩
      have HB := Lib.hid hbk
      clear hbk
      have hKk : wk.heap[D]? = some (.deferred (some [])) := (HB.out.block D (heap_lt HK.out)).trans HK.out
      go_wp2
      refine ⟨by simp, .inl ⟨_, _, rfl, run_takeDeferred hKk, ?_⟩⟩
      refine ⟨_, by simp [results, Try.results7, go_sem], rfl, ?_⟩
      exact (HBel.out.then_ HB.out).trans (below_turn (l := D) (.deferred none) (by omega))
end Go.Proofs.Ytjnjemhnceejeaa
