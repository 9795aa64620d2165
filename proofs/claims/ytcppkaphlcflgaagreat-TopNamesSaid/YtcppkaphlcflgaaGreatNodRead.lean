import Derived.Test.YtcppkaphlcflgaaGreatNodPtrs
import Derived.Test.YtcppkaphlcflgaaGreatRoomInts
namespace Go.Proofs.YtcppkaphlcflgaaGreat
open Lib (hid)
set_option maxRecDepth 100000
set_option maxHeartbeats 16000000
section
open Go.RowKit Pol Nod
variable {NB B P : Nat} {Q : Nat → Prop} {w w' : World} {f : Fm} {s : Ps}

theorem idxSix (d : Nat → Nat) {k : Nat} (hk : k < 6) (w : World) : (Instr.index 33 (.agg #[.int .i64 (d 0 : Int), .int .i64 (d 1 : Int), .int .i64 (d 2 : Int), .int .i64 (d 3 : Int), .int .i64 (d 4 : Int), .int .i64 (d 5 : Int)]) (.int .i64 (k : Int))).run Tryz.prog w = .ok (.int .i64 (d k : Int)) w := by
 obtain h | h | h | h | h | h : k = 0 ∨ k = 1 ∨ k = 2 ∨ k = 3 ∨ k = 4 ∨ k = 5 := by omega
 all_goals subst h
 ·exact idxSix0 (d 0) (d 1) (d 2) (d 3) (d 4) (d 5) w
 ·exact idxSix1 (d 0) (d 1) (d 2) (d 3) (d 4) (d 5) w
 ·exact idxSix2 (d 0) (d 1) (d 2) (d 3) (d 4) (d 5) w
 ·exact idxSix3 (d 0) (d 1) (d 2) (d 3) (d 4) (d 5) w
 ·exact idxSix4 (d 0) (d 1) (d 2) (d 3) (d 4) (d 5) w
 ·exact idxSix5 (d 0) (d 1) (d 2) (d 3) (d 4) (d 5) w
def AllPost (NB B : Nat) (Q : Nat → Prop) (P : Nat) (f : Fm) (s : Ps) (J : List (Nat × Nat × Nat) → (Nat → Prop) → World → Prop) (l : List (Nat × Nat × Nat)) (X : Nat → Prop) (w : World) (e : Ending) (w' : World) : Prop :=
 (∃ v, e = .returned v) ∧ (∃ X', J l X' w' ∧ Grew X w X') ∧ PlM NB B Q w' P f s ∧ Kq (fun q => Q q ∨ X q) w w'
def dirs (g : Nat → List UInt8) (io : Spr.Io) (k : Nat) : List (Nat × Nat × Nat) := (List.range k).flatMap fun k => ptrs g 0 (io.d.getD k 0) k
theorem dirs_succ (g : Nat → List UInt8) (io : Spr.Io) (k : Nat) : dirs g io (k + 1) = dirs g io k ++ ptrs g 0 (io.d.getD k 0) k := by
 unfold dirs
 rw [List.range_succ, List.flatMap_append]
 simp
theorem dirs_pre (g : Nat → List UInt8) (io : Spr.Io) {k : Nat} (hk : k ≤ 6) : dirs g io k <+: yl g io := by
 obtain ⟨m, hm⟩ : ∃ m, 6 = k + m := ⟨6 - k, by omega⟩
 have e : dirs g io 6 = dirs g io k ++ (((List.range m).map fun i => k + i).flatMap fun k => ptrs g 0 (io.d.getD k 0) k) := by
  unfold dirs
  rw [hm, List.range_add, List.flatMap_append]
 refine ⟨(((List.range m).map fun i => k + i).flatMap fun k => ptrs g 0 (io.d.getD k 0) k) ++ ptrs g 1 io.s 6 ++ ptrs g 2 io.b 38, ?_⟩
 show _ = dirs g io 6 ++ _ ++ _
 rw [e]
 simp
structure Nal (NB B : Nat) (Q : Nat → Prop) (F P : Nat) (f : Fm) (s : Ps) (fi : Nf) (J : List (Nat × Nat × Nat) → (Nat → Prop) → World → Prop) (X : Nat → Prop) (w : World) (l : List (Nat × Nat × Nat)) (X1 : Nat → Prop) (wr : World) : Prop where
 j : J l X1 wr
 g : Grew X w X1
 p : PlM NB B Q wr P f s
 k : Kq (fun q => Q q ∨ X q) w wr
 n : NfM wr F P fi
 d : ∀ q, X1 q → ¬ Q q ∧ q ≠ F
theorem Nal.next {F : Nat} {fi : Nf} {J : List (Nat × Nat × Nat) → (Nat → Prop) → World → Prop} {X X1 : Nat → Prop} {l l' : List (Nat × Nat × Nat)} {wr w2 : World} {e : Ending} (h : Nal NB B Q F P f s fi J X w l X1 wr) (hFl : F < w.heap.size) (hF : ¬ Q F) (hX : ∀ q, X q → ¬ Q q ∧ q ≠ F) (hQ : ∀ q, Q q → q < w.heap.size) (hc : PtrsPost NB B Q P f s J l' X1 wr e w2) : ∃ X2, Nal NB B Q F P f s fi J X w l' X2 w2 := by
 obtain ⟨_, ⟨X2, h1, h2⟩, h3, h4⟩ := hc
 have hs := h.k.size
 have hg : Grew X w X2 := h.g.trans h2 hs
 have hk : Kq (fun q => Q q ∨ X q) w w2 := h.k.then_ h4 fun q hq => by
  rcases hq with h5 | h5
  ·exact .inl (.inl h5)
  ·rcases h.g q h5 with h6 | h6
   ·exact .inl (.inr h6)
   ·exact .inr h6
 refine ⟨X2, h1, hg, h3, hk, h.n.kq h4 fun h5 => ?_, fun q hq => ?_⟩
 ·rcases h5 with h5 | h5
  ·exact hF h5
  ·exact (h.d F h5).2 rfl
 ·rcases hg q hq with h5 | h5
  ·exact hX q h5
  ·exact ⟨fun h6 => by have := hQ q h6; omega, fun e => by omega⟩
theorem nodAll_calls {F gy n : Nat} {lb : Array Value} {fi : Nf} {X : Nat → Prop} {J : List (Nat × Nat × Nat) → (Nat → Prop) → World → Prop} (h : PlM NB B Q w P f s) (hN : NfM w F P fi) (hF : ¬ Q F) (hw : Wf s fi.io) (hy : YieldOk gy lb (yl s.g fi.io) Q n J) (hn : n ≤ w.heap.size) (hX : ∀ q, X q → ¬ Q q ∧ q ≠ F) (hj : J [] X w) :
  Calls Tryz.prog 73 #[.pointer (some ⟨F, 0, none⟩), .func (.func gy) #[] lb] w (AllPost NB B Q P f s J (yl s.g fi.io) X w) := by
 have HH := hid h
 have HN := hid hN
 have HNF := hid hF
 have HW := hid hw
 have HY := hid hy
 have HX := hid hX
 have HJ := hid hj
 have hFl := hN.lt
 have HXb := hid (hy.jx.bd _ _ _ hj)
 obtain ⟨d, hd⟩ : ∃ d : Nat → Nat, d = fun k => fi.io.d.getD k 0 := ⟨_, rfl⟩
 have hc : ∀ k, k < 6 → w.cell? ⟨F, 4 + k, none⟩ = some (.int .i64 (d k : Int)) := fun k hk => by rw [hd]; exact hN.d hk
 have d0 := hc 0 (by omega)
 have d1 := hc 1 (by omega)
 have d2 := hc 2 (by omega)
 have d3 := hc 3 (by omega)
 have d4 := hc 4 (by omega)
 have d5 := hc 5 (by omega)
 have HD := hid hd
 clear h hN hF hw hy hX hj hc hd
 go_enter Tryz.func73, Tryz.ntmps73
 go_upto_region 1 with fail
 have H0 := hid (show Nal NB B Q F P f s fi J X w [] X w from ⟨HJ.out, Grew.refl _ _, HH.out, Kq.refl _ _, HN.out, HX.out⟩)
 have HQb := hid (fun q (h : Q q) => (HH.out.bnd q h).2)
 go_loopw [4, 5, 12] (fun _ _ i wr => ∃ (k : Nat) (X1 : Nat → Prop), k ≤ 6 ∧ i = .int .i64 (k : Int) ∧ Nal NB B Q F P f s fi J X w (dirs s.g fi.io k) X1 wr) (fun _ _ i _ => 7 - (intOf i).toNat)
 case atStart => exact ⟨0, X, by omega, rfl, H0.out⟩
 case round =>
  obtain ⟨k, X1, hk, rfl, hr⟩ := hrel
  have HR := hid hr
  have HSz := hid hr.k.size
  clear hr
  by_cases hlt : k < 6
  ·have g1 : (k : Int) < 6 := by omega
   have hix := idxSix d hlt
   have iv := IntWalk.i64_in ((k : Int) + 1) ⟨by omega, by omega⟩
   have hcall := nodPtrs0 HY.out wr (d k) k (dirs s.g fi.io k) X1 HR.out.p HR.out.n.p HR.out.n.lt HNF.out (by have := HSz.out; omega) HR.out.d HR.out.j (by
    rw [HD.out, ← dirs_succ]
    exact dirs_pre _ _ (by omega)) (by rw [HD.out]; exact HW.out.wd k hlt) (by omega)
   rw [HD.out, ← dirs_succ, ← HD.out] at hcall
   have HCall := hid (show Calls Tryz.prog 118 #[.pointer (some ⟨F, 0, none⟩), .int .i64 (d k : Int), .int .i64 (k : Int), .int .i64 0, .func (.func gy) #[] lb] wr (PtrsPost NB B Q P f s J (dirs s.g fi.io (k + 1)) X1 wr) from hcall)
   clear hcall
   go_wp2_with fail
   refine HCall.out.mono ?_
   rintro e w2 hc
   obtain rfl := hc.1
   obtain ⟨X2, hr2⟩ := HR.out.next hFl HNF.out HX.out HQb.out hc
   have HR2 := hid hr2
   clear hc hr2 hix
   go_wp2_with fail
   go_roundw
   case rel => exact ⟨k + 1, X2, by omega, by go_num, HR2.out⟩
   case measure => simp [intOf]; omega
  ·obtain rfl : k = 6 := by omega
   have y0 := HR.out.n.p
   have y1 := HR.out.n.s
   have c1 := nodPtrsS (lv := 0) HY.out (.inl rfl) (nodPtrs0 (NB := NB) (B := B) (F := F) (P := P) (f := f) (s := s) HY.out)
   have HC1 := hid c1
   have HC2 := hid (nodPtrsS (lv := 1) HY.out (.inr rfl) c1)
   have hcall := c1 wr fi.io.s 6 (dirs s.g fi.io 6) X1 HR.out.p HR.out.n.p HR.out.n.lt HNF.out (by have := HSz.out; omega) HR.out.d HR.out.j (by
    exact ⟨ptrs s.g 2 fi.io.b 38, rfl⟩) HW.out.gs (by omega)
   have HCall := hid (show Calls Tryz.prog 118 #[.pointer (some ⟨F, 0, none⟩), .int .i64 (fi.io.s : Int), .int .i64 6, .int .i64 1, .func (.func gy) #[] lb] wr (PtrsPost NB B Q P f s J (dirs s.g fi.io 6 ++ ptrs s.g 1 fi.io.s 6) X1 wr) from hcall)
   have g38 : IntKind.i64.wrap (6 + 32) = 38 := IntWalk.i64_in (6 + 32) ⟨by omega, by omega⟩
   have HPsz := hid (polSize_calls HR.out.p)
   clear hcall c1
   go_wp2_with fail
   refine HPsz.out.mono ?_
   rintro e w_ ⟨rfl, rfl⟩
   go_wp2_with fail
   refine HCall.out.mono ?_
   rintro e w2 hc
   obtain rfl := hc.1
   obtain ⟨X2, hr2⟩ := HR.out.next hFl HNF.out HX.out HQb.out hc
   have HR2 := hid hr2
   clear hc hr2 y0 y1
   have y2 := HR2.out.n.b
   have hcall := HC2.out w2 fi.io.b 38 _ X2 HR2.out.p HR2.out.n.p HR2.out.n.lt HNF.out (by have := HR2.out.k.size; omega) HR2.out.d HR2.out.j (by
    exact ⟨[], by rw [List.append_nil]; rfl⟩) HW.out.gb (by omega)
   have HCall2 := hid (show Calls Tryz.prog 118 #[.pointer (some ⟨F, 0, none⟩), .int .i64 (fi.io.b : Int), .int .i64 38, .int .i64 2, .func (.func gy) #[] lb] w2 (PtrsPost NB B Q P f s J (yl s.g fi.io) X2 w2) from hcall)
   clear hcall
   go_wp2_with fail
   refine HCall2.out.mono ?_
   rintro e w3 hc
   obtain rfl := hc.1
   obtain ⟨X3, hr3⟩ := HR2.out.next hFl HNF.out HX.out HQb.out hc
   have HR3 := hid hr3
   clear hc hr3 y2
   go_wp2
   go_end0
   exact ⟨⟨_, rfl⟩, ⟨X3, HR3.out.j, HR3.out.g⟩, HR3.out.p, HR3.out.k⟩
end
section
open Go.RowKit Pol Nod
variable {NB B P : Nat} {Q : Nat → Prop} {w w' : World} {f : Fm} {s : Ps}

def nd (fi : Nf) (k : Nat) : Int := (fi.io.d.getD k 0 : Nat)
def nfC (fi : Nf) : Array Value := #[.int .i64 fi.k, .int .i64 fi.l, .int .i64 fi.s, .int .i64 (nd fi 0), .int .i64 (nd fi 1), .int .i64 (nd fi 2), .int .i64 (nd fi 3), .int .i64 (nd fi 4), .int .i64 (nd fi 5), .int .i64 (fi.io.s : Int), .int .i64 (fi.io.b : Int)]
def nfV (fi : Nf) : Value := .agg (nfC fi)
def nfA (P : Nat) (fi : Nf) : Array Value := #[.pointer (some ⟨P, 0, none⟩), .int .i64 fi.k, .int .i64 fi.l, .int .i64 fi.s, .int .i64 (nd fi 0), .int .i64 (nd fi 1), .int .i64 (nd fi 2), .int .i64 (nd fi 3), .int .i64 (nd fi 4), .int .i64 (nd fi 5), .int .i64 (fi.io.s : Int), .int .i64 (fi.io.b : Int)]
theorem nfA_eq {fi : Nf} (h : fi.io.d.length = 6) (P : Nat) : nfA P fi = (nfL P fi).toArray := by
 obtain ⟨k, l, s, d, a, b⟩ := fi
 match d, h with
 | [d0, d1, d2, d3, d4, d5], _ => rfl
theorem NfM.made (w : World) {fi : Nf} (h : fi.io.d.length = 6) (P : Nat) : NfM (w.alloc (.cells (nfA P fi) 82)) w.heap.size P fi := ⟨by rw [← nfA_eq h]; exact Blk.new w _ _, h⟩
def numsI (l : List (Nat × Nat × Nat)) : List Int := (l.filter fun x => x.2.2 == 0).map fun x => (x.1 : Int)
theorem numsI_app (l l' : List (Nat × Nat × Nat)) : numsI (l ++ l') = numsI l ++ numsI l' := by unfold numsI; rw [List.filter_append, List.map_append]
theorem numsI_len (l : List (Nat × Nat × Nat)) : (numsI l).length ≤ l.length := by unfold numsI; rw [List.length_map]; exact List.length_filter_le _ _
theorem flat_le {α β : Type} (l : List α) (g : α → List β) (m : Nat) (h : ∀ x ∈ l, (g x).length ≤ m) : (l.flatMap g).length ≤ l.length * m := by
 induction l with
 | nil => simp
 | cons x t ih =>
  rw [List.flatMap_cons, List.length_append, List.length_cons, Nat.add_mul, Nat.one_mul]
  have := h x (by simp)
  have := ih fun y hy => h y (by simp [hy])
  omega
theorem pts_len (x : List UInt8) (hx : x.length = 64 ∨ x = []) : (Pt.pts x).length ≤ 32 := by
 have hto : ∀ k, (Pt.ptsTo x k).length ≤ k := fun k => by
  induction k with
  | zero => exact Nat.zero_le _
  | succ k ih =>
   rw [Pt.ptsTo]
   split
   ·omega
   ·rw [List.length_append, List.length_singleton]; omega
 unfold Pt.pts
 split
 ·rename_i hs
  rcases hx with hx | hx
  ·rw [hx]; exact hto _
  ·subst hx
   exact Nat.le_trans (hto _) (by decide)
 ·exact Nat.zero_le _
theorem yl_len {s : Ps} (ho : s.Ok) (io : Spr.Io) : (yl s.g io).length ≤ 2000 := by
 have hx : ∀ p, (s.g p).length = 64 ∨ s.g p = [] := fun p => by
  by_cases h : s.There p
  ·exact .inl (ho.sz p h)
  ·exact .inr (ho.no p h)
 have h0 : ∀ p fr, (ptrs s.g 0 p fr).length ≤ 1 := fun p fr => by unfold ptrs; split <;> simp
 have h1 : ∀ p fr, (ptrs s.g 1 p fr).length ≤ 33 := fun p fr => by
  rw [ptrs]
  split
  ·simp
  ·rw [List.length_cons]
   have := flat_le (Pt.pts (s.g p)) (fun x => ptrs s.g 0 x.2 (fr + x.1 * (if 0 = 1 then 32 else 1))) 1 fun x _ => h0 _ _
   have := pts_len (s.g p) (hx p)
   omega
 have h2 : ∀ p fr, (ptrs s.g 2 p fr).length ≤ 1057 := fun p fr => by
  rw [ptrs]
  split
  ·simp
  ·rw [List.length_cons]
   have a := flat_le (Pt.pts (s.g p)) (fun x => ptrs s.g 1 x.2 (fr + x.1 * (if 1 = 1 then 32 else 1))) 33 fun x _ => h1 _ _
   have b := pts_len (s.g p) (hx p)
   have c : (Pt.pts (s.g p)).length * 33 ≤ 32 * 33 := Nat.mul_le_mul b (Nat.le_refl _)
   omega
 unfold yl
 rw [List.length_append, List.length_append]
 have a := flat_le (List.range 6) (fun k => ptrs s.g 0 (io.d.getD k 0) k) 1 fun x _ => h0 _ _
 rw [List.length_range] at a
 have b := h1 io.s 6
 have c := h2 io.b 38
 omega
def PgJ (Zo n0 : Nat) (pre : List (Nat × Nat × Nat)) (X : Nat → Prop) (W : World) : Prop := ∃ v, Blk W Zo 36 #[v] ∧ Own intV 3 W n0 v (numsI pre) ∧ Zo < n0 ∧ n0 ≤ W.heap.size ∧ ∀ q, X q ↔ q = Zo ∨ v.ownBlock = some q
theorem pgJ_jx (Zo n0 : Nat) (T : Nat → Prop) (n : Nat) : JX T n (PgJ Zo n0) := by
 refine ⟨?_, ?_⟩
 ·rintro pre X W ⟨v, h1, h2, h3, h4, h5⟩ q hq
  rcases (h5 q).1 hq with h | h
  ·have := h1.lt; omega
  ·exact (h2.blockLt q h).2
 ·rintro pre X W W' T' ⟨v, h1, h2, h3, h4, h5⟩ hk hT
  exact ⟨v, h1.kq hk fun h => (hT _ h).2 ((h5 _).2 (.inl rfl)), h2.kq hk fun g hg h => (hT _ h).2 ((h5 _).2 (.inr hg)), h3, Nat.le_trans h4 hk.size, h5⟩
theorem wpList_litIK {ops : Array Oper} {rest : List Oper} {o : Oper} {ac : Act} {Q : Exit → Act → World → Prop} {cs : Array Value} (hgd : o.guard = none) (s x : Operand)
  (ho : o.op = .call { callee := .builtin .append, args := #[s, x], argTypes := #[36, 36] }) (base : Nat)
  (v : Value) (xs : List Int) (hs : ac.eval s = v) (hown : Own intV 3 w base v xs) (y : Int) (hx : ac.eval x = .slice (some ⟨w.heap.size, 0, none⟩) 1 1) (hcs : cs = #[.int .i64 y])
  (hbytes : xs.length ≤ 1000000) (hbase : base ≤ w.heap.size)
  (h : ∀ v' w', Hid (Own intV 3 w' base v' (xs ++ [y])) → Hid (Kq (fun q => v.ownBlock = some q) w w') → Hid (∀ q, v'.ownBlock = some q → v.ownBlock = some q ∨ w.heap.size ≤ q) → wpList Tryz.prog ops Q rest (ac.put o.dst v') w') : wpList Tryz.prog ops Q (o :: rest) ac (w.alloc (.cells cs 3)) :=
 wpList_plain hgd fun _ hK => wp_appI s x ho base v xs hs (hown.alloc _) _ _ 1 1 [y] hx (Arr.lit w 3 [y] 1 rfl (by omega) hcs) (by simp; omega) (by simp; omega) fun v' w' h1 h2 h3 => hK _ _ (h v' w' (hid h1)
  (hid ((Kq.of ((Below.refl _ w).alloc (Nat.le_refl _) _)).trans (Kq.grown h2))) (hid fun q hq => by
   rcases h3 with h4 | h4
   ·exact .inl (h4 ▸ hq)
   ·rw [h4, World.size_alloc] at hq
    exact .inr (by injection hq with hq; omega)))
theorem pages1_ok (Zo n0 : Nat) (total : List (Nat × Nat × Nat)) (ht : total.length ≤ 100000) (n : Nat) : YieldOk 74 #[.pointer (some ⟨Zo, 0, none⟩)] total Q n (PgJ Zo n0) := by
 refine ⟨pgJ_jx Zo n0 Q n, enters_of Tryz.func74 (by kernel_rfl) rfl, ?_⟩
 rintro pre ⟨a, p, lv⟩ X W ⟨v, h1, h2, h3, h4, h5⟩ hpre
 have hl : (numsI pre).length ≤ 100000 := by
  have := numsI_len pre
  have := hpre.length_le
  rw [List.length_append] at this
  omega
 obtain ⟨m, hm⟩ : ∃ m, m = (numsI pre).length := ⟨_, rfl⟩
 obtain ⟨ad, c, rfl, _⟩ := h2.formN hm.symm
 have H1 := hid h1
 have H2 := hid h2
 have H5 := hid h5
 have HM := hid hm
 have c0 := h1.cellv (i := 0) rfl
 have hlt := h1.lt
 by_cases h0 : lv = 0
 ·have HE := hid (show numsI (pre ++ [(a, p, lv)]) = numsI pre ++ [(a : Int)] by rw [numsI_app]; subst h0; rfl)
  have g0 : ((lv : Int) == 0) = true := by rw [beq_iff_eq]; omega
  unfold ylV
  clear h1 h2 h5 hm h0
  go_enter Tryz.func74, Tryz.ntmps74
  go_wp2_with (at_builtin; refine wpList_litIK rfl _ _ rfl n0 _ (numsI pre) rfl H2.out (a : Int) rfl rfl (by omega) h4 ?_; intro v3 w3 HO3 HK3 HV3; obtain ⟨a3, c3, rfl, _⟩ := HO3.out.formN (n := m + 1) (by rw [List.length_append, ← HM.out]; rfl); have HB3 := hid (H1.out.kq HK3.out (fun h => by have := (H2.out.blockLt _ h).1; omega)); have c42 := HB3.out.cellv (i := 0) rfl; have f42 := HB3.out.frozen 0)
  go_ret
  have hst : Kq (fun q => q = Zo) w3 (w3.setCell ⟨Zo, 0, none⟩ (.slice a3 (m + 1) c3)) := Kq.one ⟨Zo, 0, none⟩ _
  have hs3 := HK3.out.size
  have hne : ∀ q, (Value.slice a3 (m + 1) c3).ownBlock = some q → q ≠ Zo := fun q hq e => by have := (HO3.out.blockLt q hq).1; omega
  refine ⟨rfl, ⟨fun q => q = Zo ∨ (Value.slice a3 (m + 1) c3).ownBlock = some q, ⟨_, HB3.out.set 0 _, ?_, h3, Nat.le_trans h4 (Nat.le_trans hs3 hst.size), fun q => Iff.rfl⟩, fun q hq => ?_⟩, (HK3.out.mono fun q h => (H5.out q).2 (.inr h)).trans (hst.mono fun q h => (H5.out q).2 (.inl h))⟩
  ·rw [HE.out]
   exact HO3.out.kq hst hne
  ·rcases hq with h | h
   ·exact .inl ((H5.out q).2 (.inl h))
   ·rcases HV3.out q h with h6 | h6
    ·exact .inl ((H5.out q).2 (.inr h6))
    ·exact .inr h6
 ·have HE := hid (show numsI (pre ++ [(a, p, lv)]) = numsI pre by rw [numsI_app]; unfold numsI; simp [h0])
  have g0 : ((lv : Int) == 0) = false := by rw [beq_eq_false_iff_ne]; omega
  unfold ylV
  have HPg := hid (show PgJ Zo n0 (pre ++ [(a, p, lv)]) X W from ⟨_, h1, by rw [HE.out]; exact h2, h3, h4, h5⟩)
  clear h1 h2 h5 hm h0
  go_enter Tryz.func74, Tryz.ntmps74
  go_wp2
  go_ret
  exact ⟨rfl, ⟨X, HPg.out, Grew.refl _ _⟩, Kq.refl _ _⟩
def PagesPost (NB B : Nat) (Q : Nat → Prop) (P : Nat) (f : Fm) (s : Ps) (l : List Int) (w : World) (e : Ending) (w' : World) : Prop :=
 (∃ v, e = .returned v ∧ Own intV 3 w' w.heap.size v l) ∧ PlM NB B Q w' P f s ∧ Kq Q w w'
theorem nodPages_calls {fi : Nf} (h : PlM NB B Q w P f s) (hw : Wf s fi.io) :
  Calls Tryz.prog 32 #[.pointer (some ⟨P, 0, none⟩), nfV fi] w (PagesPost NB B Q P f s (numsI (yl s.g fi.io)) w) := by
 have HH := hid h
 have HW := hid hw
 have hdl := hw.dl
 obtain ⟨l, hl⟩ : ∃ l, l = yl s.g fi.io := ⟨_, rfl⟩
 have HLl := hid (show l.length ≤ 2000 from by rw [hl]; exact yl_len h.ok fi.io)
 have HL := hid hl
 rw [← hl]
 have HDl := hid hdl
 unfold nfV nfC
 clear h hw hl hdl
 go_enter Tryz.func32, Tryz.ntmps32
 have hm := NfM.made ((w.alloc (.cells #[.int .i64 fi.k, .int .i64 fi.l, .int .i64 fi.s, .int .i64 (nd fi 0), .int .i64 (nd fi 1), .int .i64 (nd fi 2), .int .i64 (nd fi 3), .int .i64 (nd fi 4), .int .i64 (nd fi 5), .int .i64 (fi.io.s : Int), .int .i64 (fi.io.b : Int)] 35)).alloc (.cells #[.slice none 0 0] 36)) HDl.out P
 have hz := (Blk.new (w.alloc (.cells #[.int .i64 fi.k, .int .i64 fi.l, .int .i64 fi.s, .int .i64 (nd fi 0), .int .i64 (nd fi 1), .int .i64 (nd fi 2), .int .i64 (nd fi 3), .int .i64 (nd fi 4), .int .i64 (nd fi 5), .int .i64 (fi.io.s : Int), .int .i64 (fi.io.b : Int)] 35)) 36 #[.slice none 0 0]).alloc (.cells (nfA P fi) 82)
 have hb : Below w.heap.size w (((w.alloc (.cells #[.int .i64 fi.k, .int .i64 fi.l, .int .i64 fi.s, .int .i64 (nd fi 0), .int .i64 (nd fi 1), .int .i64 (nd fi 2), .int .i64 (nd fi 3), .int .i64 (nd fi 4), .int .i64 (nd fi 5), .int .i64 (fi.io.s : Int), .int .i64 (fi.io.b : Int)] 35)).alloc (.cells #[.slice none 0 0] 36)).alloc (.cells (nfA P fi) 82)) := (((Below.refl _ w).alloc (Nat.le_refl _) _).alloc (by simp) _).alloc (by simp; omega) _
 have hsz : (((w.alloc (.cells #[.int .i64 fi.k, .int .i64 fi.l, .int .i64 fi.s, .int .i64 (nd fi 0), .int .i64 (nd fi 1), .int .i64 (nd fi 2), .int .i64 (nd fi 3), .int .i64 (nd fi 4), .int .i64 (nd fi 5), .int .i64 (fi.io.s : Int), .int .i64 (fi.io.b : Int)] 35)).alloc (.cells #[.slice none 0 0] 36)).alloc (.cells (nfA P fi) 82)).heap.size = w.heap.size + 3 := by simp
 simp only [World.size_alloc] at hm hz
 have HM := hid hm
 have HZ := hid hz
 have HB := hid hb
 have HSz := hid hsz
 clear hm hz hb hsz
 go_wp2_with fail
 obtain ⟨w3, hw3⟩ : ∃ w3, w3 = ((w.alloc (.cells #[.int .i64 fi.k, .int .i64 fi.l, .int .i64 fi.s, .int .i64 (nd fi 0), .int .i64 (nd fi 1), .int .i64 (nd fi 2), .int .i64 (nd fi 3), .int .i64 (nd fi 4), .int .i64 (nd fi 5), .int .i64 (fi.io.s : Int), .int .i64 (fi.io.b : Int)] 35)).alloc (.cells #[.slice none 0 0] 36)).alloc (.cells (nfA P fi) 82) := ⟨_, rfl⟩
 rw [← hw3] at HM HZ HB HSz
 have HP3 := hid (HH.out.on HB.out)
 have HJ3 := hid (show PgJ (w.heap.size + 1) (w.heap.size + 2) [] (fun q => q = w.heap.size + 1) w3 from ⟨_, HZ.out, Own.nil _ _, by omega, by have := HSz.out; omega, fun q => ⟨.inl, fun h => by rcases h with h | h; exact h; cases h⟩⟩)
 have hcall := nodAll_calls (n := w3.heap.size) HP3.out HM.out (HH.out.not_new (by omega)) HW.out (by rw [← HL.out]; exact pages1_ok (Q := Q) (w.heap.size + 1) (w.heap.size + 2) l (by have := HLl.out; omega) w3.heap.size) (Nat.le_refl _) (fun q e => ⟨fun h => by have := (HH.out.bnd q h).2; omega, by omega⟩) HJ3.out
 rw [← HL.out, hw3] at hcall
 refine hcall.mono ?_
 rintro e w4 ⟨⟨v, rfl⟩, ⟨X', ⟨ov, h1, h2, h3, h4, h5⟩, hg⟩, hp4, hk4⟩
 have c5 := h1.cellv (i := 0) rfl
 have HFin := hid (show Own intV 3 w4 w.heap.size ov (numsI l) ∧ PlM NB B Q w4 P f s ∧ Kq Q w w4 from ⟨h2.mono (by omega), hp4, ((Kq.of (T := Q) HB.out).then_ (by rw [← hw3] at hk4; exact hk4) fun q h => by rcases h with h | h; exact .inl h; exact .inr (by omega))⟩)
 clear hcall hw3 h1 h2 h5 hg hp4 hk4
 go_wp2
 go_ret
 exact ⟨⟨_, rfl, HFin.out.1⟩, HFin.out.2⟩
end
section
open Go.RowKit Pol Nod
variable {NB B P : Nat} {Q : Nat → Prop} {w w' : World} {f : Fm} {s : Ps}

namespace Nod
def rdPg (s : Ps) (io : Spr.Io) (n : Nat) : List UInt8 := if atP s.g io n = 0 then zeros else s.g (atP s.g io n)
def rdH (off e : Nat) : Nat := min 64 (off % 64 + (e - off))
def rdB (s : Ps) (io : Spr.Io) (off e : Nat) : List UInt8 := ((rdPg s io (off / 64)).take (rdH off e)).drop (off % 64)
def rdS : Nat → Ps → Spr.Io → Nat → Nat → List UInt8
 | 0, _, _, _, _ => []
 | m + 1, s, io, off, e => if off < e then rdB s io off e ++ rdS m s io (off + (rdH off e - off % 64)) e else []
theorem rdH_pos {off e : Nat} (h : off < e) : off % 64 < rdH off e ∧ rdH off e ≤ 64 ∧ off + (rdH off e - off % 64) ≤ e := by
 unfold rdH
 omega
theorem rdPg_len {s : Ps} (ho : s.Ok) {io : Spr.Io} (hw : Wf s io) {n : Nat} (hn : n < 1062) : (rdPg s io n).length = 64 := by
 unfold rdPg
 split
 ·exact zeros_len
 ·rename_i h
  exact ho.sz _ ((hw.at_ hn).there h)
theorem rdB_len {s : Ps} (ho : s.Ok) {io : Spr.Io} (hw : Wf s io) {off e : Nat} (hn : off / 64 < 1062) : (rdB s io off e).length = rdH off e - off % 64 := by
 unfold rdB
 rw [List.length_drop, List.length_take, rdPg_len ho hw hn]
 unfold rdH
 omega
end Nod
theorem kqv_from {B : Nat} {W W' : World} (h : Below B W W') : Kq (fun k => B ≤ k) W W' := ⟨h.os, h.tape, h.output, h.size, fun k _ h1 => h.block k (by omega)⟩
def NodGot (NB B : Nat) (Q : Nat → Prop) (P : Nat) (f : Fm) (s : Ps) (x : List UInt8) (w : World) (e : Ending) (w' : World) : Prop :=
 (∃ v, e = .returned (.tuple #[v, .int .i64 0]) ∧ Own byteV 5 w' w.heap.size v x) ∧ PlM NB B Q w' P f s ∧ Kq Q w w'
theorem nodRead0_calls {fi : Nf} {off n z e : Nat} {R : List UInt8} (h : PlM NB B Q w P f s) (hw : Wf s fi.io) (hn : n ≤ 1024) (hz : fi.s = (z : Int)) (hz2 : z ≤ 67968) (hoff : off ≤ 67968) (he : e = off + min n (z - off)) (hR : R = rdS 20 s fi.io off e) :
  Calls Tryz.prog 12 #[.pointer (some ⟨P, 0, none⟩), nfV fi, .int .i64 (off : Int), .int .i64 (n : Int)] w (NodGot NB B Q P f s R w) := by
 have HH := hid h
 have HW := hid hw
 have HDl := hid hw.dl
 have HZz := hid hz
 have HR := hid hR
 have HE0 := hid he
 clear hR he
 unfold nfV nfC
 have g0 : ¬ (off : Int) < 0 := by omega
 have g1 : ¬ (n : Int) < 0 := by omega
 have g2 : ¬ (1024 : Int) < (n : Int) := by omega
 clear h hw
 go_enter Tryz.func12, Tryz.ntmps12
 rw [hz]
 obtain ⟨w2, hw2⟩ : ∃ W, W = w.alloc (.cells #[.int .i64 fi.k, .int .i64 fi.l, .int .i64 (z : Int), .int .i64 (nd fi 0), .int .i64 (nd fi 1), .int .i64 (nd fi 2), .int .i64 (nd fi 3), .int .i64 (nd fi 4), .int .i64 (nd fi 5), .int .i64 (fi.io.s : Int), .int .i64 (fi.io.b : Int)] 35) := ⟨_, rfl⟩
 have hb2 : Below w.heap.size w w2 := by rw [hw2]; exact (Below.refl _ w).alloc (Nat.le_refl _) _
 have hz0 : Blk w2 w.heap.size 35 #[.int .i64 fi.k, .int .i64 fi.l, .int .i64 (z : Int), .int .i64 (nd fi 0), .int .i64 (nd fi 1), .int .i64 (nd fi 2), .int .i64 (nd fi 3), .int .i64 (nd fi 4), .int .i64 (nd fi 5), .int .i64 (fi.io.s : Int), .int .i64 (fi.io.b : Int)] := by rw [hw2]; exact Blk.new w _ _
 have hs2 : w2.heap.size = w.heap.size + 1 := by rw [hw2]; simp
 have HB2 := hid hb2
 have HZ0 := hid hz0
 have HS2 := hid hs2
 have HP2 := hid (HH.out.on hb2)
 have HW2 := hid hw2
 clear hb2 hz0 hs2 hz hw2
 by_cases hlt : off < z
 ·have gz : ¬ (z : Int) ≤ (off : Int) := by omega
  go_upto_region 8 with fail
  rw [← HW2.out]
  obtain ⟨w1, hw1⟩ : ∃ W, W = w2.alloc (.cells #[.pointer (some ⟨P, 0, none⟩), .int .i64 fi.k, .int .i64 fi.l, .int .i64 (z : Int), .int .i64 (nd fi 0), .int .i64 (nd fi 1), .int .i64 (nd fi 2), .int .i64 (nd fi 3), .int .i64 (nd fi 4), .int .i64 (nd fi 5), .int .i64 (fi.io.s : Int), .int .i64 (fi.io.b : Int)] 82) := ⟨_, rfl⟩
  rw [← hw1]
  have hb1 : Below w2.heap.size w2 w1 := by rw [hw1]; exact (Below.refl _ w2).alloc (Nat.le_refl _) _
  have hn1 : NfM w1 (w.heap.size + 1) P fi := by
   rw [hw1, ← HS2.out, ← HZz.out]
   exact NfM.made w2 HDl.out P
  have hs1 : w1.heap.size = w.heap.size + 2 := by rw [hw1]; simp [HS2.out]
  have y2 := (HZ0.out.belowHere hb1).cellv (i := 2) rfl
  have HP1 := hid (HP2.out.on hb1)
  have HK1 := hid ((Kq.of (T := Q) HB2.out).on hb1)
  have HN1 := hid hn1
  have he := HE0.out
  have h1 := IntWalk.i64_in ((z : Int) - (off : Int)) ⟨by omega, by omega⟩
  have h2 : min (n : Int) ((z : Int) - (off : Int)) = (e : Int) - (off : Int) := by omega
  have h3 := IntWalk.i64_in ((off : Int) + ((e : Int) - (off : Int))) ⟨by omega, by omega⟩
  have h4 : (off : Int) + ((e : Int) - (off : Int)) = (e : Int) := by omega
  have HE := hid (show off ≤ e ∧ e ≤ off + 1024 ∧ e ≤ z by omega)
  clear hw1 hb1 hn1 he
  go_wp2_with fail
  refine (polSize_calls HP1.out).mono ?_
  rintro e9 w_ ⟨rfl, rfl⟩
  clear y2 h1 h2 h3 h4
  go_wp2_with fail
  have HF := hid (show ¬ Q (w.heap.size + 1) from HH.out.not_new (by omega))
  have HS1 := hid hs1
  have hmk := mkP64
  have hl0 := HE.out
  go_loopw [2, 12, 14, 15, 16, 17, 18] (fun v2 v12 _ _ _ _ _ wr => ∃ (off' fu : Nat) (acc : List UInt8), v2 = .int .i64 (off' : Int) ∧ Own byteV 5 wr w1.heap.size v12 acc ∧ off' ≤ e ∧ (off' < e → (e + 63) / 64 - off' / 64 ≤ fu) ∧ acc.length + (e - off') ≤ 1024 ∧ acc ++ rdS fu s fi.io off' e = R ∧ PlM NB B Q wr P f s ∧ NfM wr (w.heap.size + 1) P fi ∧ Kq Q w1 wr) (fun v2 _ _ _ _ _ _ _ => 100000 - (intOf v2).toNat)
  case atStart => exact ⟨off, 20, [], rfl, Own.nil _ _, by omega, fun _ => by omega, by simp; omega, by rw [HR.out]; rfl, HP1.out, HN1.out, Kq.refl _ _⟩
  case round =>
   obtain ⟨off', fu, acc, rfl, ho', hle, hfu, hac, hR', hp', hn', hk'⟩ := hrel
   have HO' := hid ho'
   have HP' := hid hp'
   have HN' := hid hn'
   have HK' := hid hk'
   have HR' := hid hR'
   clear ho' hp' hn' hk' hR'
   by_cases hlt2 : off' < e
   ·have h1 := hfu hlt2
    obtain ⟨fu, rfl⟩ : ∃ k, fu = k + 1 := ⟨fu - 1, by omega⟩
    have HFu := hid (show (e + 63) / 64 - off' / 64 ≤ fu + 1 from h1)
    obtain ⟨k, hk⟩ : ∃ k, k = off' / 64 := ⟨_, rfl⟩
    have HRn := hid (show (acc ++ rdB s fi.io off' e) ++ rdS fu s fi.io (off' + (rdH off' e - off' % 64)) e = R from by
     rw [← HR'.out, List.append_assoc]
     exact congrArg _ (if_pos hlt2).symm)
    have HBl := hid (rdB_len HH.out.ok HW.out (off := off') (e := e) (by omega))
    have HPl := hid (rdPg_len HH.out.ok HW.out (n := k) (by omega))
    have HRb := hid (show rdB s fi.io off' e = ((rdPg s fi.io k).take (rdH off' e)).drop (off' % 64) by rw [hk]; rfl)
    have HH1 := hid (rdH_pos hlt2)
    have HHe := hid (show rdH off' e = min 64 (off' % 64 + (e - off')) from rfl)
    obtain ⟨L, hL⟩ : ∃ L, L = rdH off' e := ⟨_, rfl⟩
    rw [← hL] at HRn HBl HRb HH1 HHe
    obtain ⟨X, hX⟩ : ∃ X, X = rdB s fi.io off' e := ⟨_, rfl⟩
    rw [← hX] at HRn HBl HRb
    obtain ⟨At, hAt⟩ : ∃ At, At = atP s.g fi.io k := ⟨_, rfl⟩
    have HAt := hid hAt
    obtain ⟨pg, hpg⟩ : ∃ pg, pg = rdPg s fi.io k := ⟨_, rfl⟩
    have HPg := hid (show pg = if At = 0 then zeros else s.g At from by rw [hpg, hAt]; rfl)
    rw [← hpg] at HRb HPl
    have HAc := hid (fun W (hp : PlM NB B Q W P f s) (hn : NfM W (w.heap.size + 1) P fi) => (show Calls Tryz.prog 33 #[.pointer (some ⟨w.heap.size + 1, 0, none⟩), .int .i64 ((off' : Int) / 64)] W (PolAsked NB B Q P f s (.int .i64 (At : Int)) W) from by
     rw [hAt, show (off' : Int) / 64 = (k : Int) from by omega]
     exact nodAt_calls hp hn HF.out HW.out (by omega)))
    have q0 : IntKind.i64.wrap (Int.tdiv (off' : Int) 64) = (k : Int) := by
     rw [Int.tdiv_eq_ediv_of_nonneg (by omega)]
     rw [show (off' : Int) / 64 = (k : Int) from by omega]
     exact IntWalk.i64_in (k : Int) ⟨by omega, by omega⟩
    have HTh := hid (show At ≠ 0 → s.There At from fun h0 => by rw [hAt] at h0 ⊢; exact (HW.out.at_ (by omega)).there h0)
    clear h1 hfu hL hX hAt hpg hk
    go_upto_region 13 with fail
    have hba : Below wr.heap.size wr (wr.alloc (.cells (Array.replicate 64 (.int .u8 0)) 5)) := (Below.refl _ wr).alloc (Nat.le_refl _) _
    have HZr := hid ((ownMadeZ wr wr.heap.size 64 (Nat.le_refl _) (by omega)).mono (show w1.heap.size ≤ wr.heap.size from HK'.out.size))
    have HPa := hid (HP'.out.on hba)
    have HNa := hid (HN'.out.on hba)
    have HKa := hid (HK'.out.on hba)
    have HOa := hid (HO'.out.kq (Kq.of (T := Q) hba) fun q hq h => by have := (HO'.out.blockLt q hq).1; have := (HH.out.bnd q h).2; omega)
    have HZb := hid (show ∀ q, u12.ownBlock = some q → q ≠ wr.heap.size from fun q hq => by have := (HO'.out.blockLt q hq).2; omega)
    clear hba hmk
    generalize wr.alloc (.cells (Array.replicate 64 (.int .u8 0)) 5) = W at *
    generalize wr.heap.size = g at *
    go_wp2_with fail
    refine (HAc.out W HPa.out HNa.out).mono ?_
    rintro e9 W2 ⟨rfl, hp2, hk2⟩
    have HP2b := hid hp2
    have HK2b := hid hk2
    clear hp2 hk2
    go_upto_if 63 with fail
    go_cut [14] from 52 to 94 (fun v14 wx => ∃ g c, v14 = .slice (some ⟨g, 0, none⟩) 64 c ∧ Hid (64 ≤ c) ∧ Hid (Bytes wx wx.heap.size (some ⟨g, 0, none⟩) 64 pg) ∧ Hid (PlM NB B Q wx P f s) ∧ Hid (Kq Q W wx))
    case first =>
     by_cases h0 : At = 0
     ·have gz : ((At : Int) == 0) = true := by rw [beq_iff_eq]; omega
      have HPz := hid (show pg = zeros from HPg.out.trans (if_pos h0))
      clear h0
      go_wp2_with fail
      go_meet
      case rel =>
       refine ⟨g, 64, rfl, hid (Nat.le_refl _), hid ?_, HP2b, HK2b⟩
       rw [HPz.out]
       have hz : Own byteV 5 W2 w1.heap.size (.slice (some ⟨g, 0, none⟩) 64 64) zeros := HZr.out.kq HK2b.out fun q hq h => by
        have := (HZr.out.blockLt q hq).1; have := (HH.out.bnd q h).2; omega
       exact hz.arr (by decide)
     ·have gz : ((At : Int) == 0) = false := by rw [beq_eq_false_iff_ne]; omega
      have HPz := hid (show pg = s.g At from HPg.out.trans (if_neg h0))
      have HT2 := hid (HTh.out h0)
      clear h0
      go_wp2_with fail
      refine (polGet_calls HP2b.out HT2.out).mono ?_
      rintro e9 W3 ⟨⟨v, rfl, ho⟩, hp3, hk3⟩
      have hx3 := hp3.ok.sz At HT2.out
      obtain ⟨a3, c3, rfl, hc3⟩ := ho.formN hx3
      obtain ⟨g3, rfl, _, _⟩ := ho.addr (by rw [hx3]; omega)
      have HX3 := hid (show Bytes W3 W3.heap.size (some ⟨g3, 0, none⟩) 64 pg from by rw [HPz.out]; exact ho.arr (by rw [hx3]; decide))
      have HC3 := hid hc3
      have HP3 := hid hp3
      have HK3 := hid (HK2b.out.trans hk3)
      clear ho hp3 hk3 hx3 hc3
      go_wp2_with fail
      go_meet
      case rel => exact ⟨g3, c3, rfl, HC3, HX3, HP3, HK3⟩
    case rest =>
     obtain ⟨g4, c4, rfl, HC4, HX4, HP4, HK4⟩ := hcut
     generalize wc = W4 at *
     clear q0
     have hh1 := HH1.out
     have hhe := HHe.out
     have hcut4 : ∀ u, (Instr.slice 40 (.slice (some ⟨g4, 0, none⟩) 64 c4) (some (.int .i64 ((off' : Int) % 64))) (some (.int .i64 (L : Int))) none).run Tryz.prog u = .ok (.slice (some ⟨g4, off' % 64, none⟩) (L - off' % 64 : Nat) (c4 - off' % 64 : Nat)) u := fun u => by
      have h := cutB_mid (some ⟨g4, 0, none⟩) 64 c4 (off' % 64) L (by omega) (by have := HC4.out; omega) u
      rw [cutA, if_neg (by have := HC4.out; omega)] at h
      rw [show (off' : Int) % 64 = ((off' % 64 : Nat) : Int) from by omega, h]
      show Result.ok (Value.slice (some ((⟨g4, 0, none⟩ : Addr).add (off' % 64))) _ _) u = _
      rw [Addr.add_mid, Nat.zero_add]
     have HCut := hid hcut4
     have HS5 := hid (show w1.heap.size ≤ W4.drew.heap.size from Nat.le_trans HKa.out.size (Nat.le_trans HK4.out.size (below_drew W4).size))
     have HP5 := hid (HP4.out.on (below_drew W4))
     have HK5 := hid ((HKa.out.trans HK4.out).on (below_drew W4))
     have HN5 := hid ((HNa.out.kq HK4.out HF.out).on (below_drew W4))
     have HO5 := hid ((HOa.out.kq HK4.out fun q hq h => by have := (HOa.out.blockLt q hq).1; have := (HH.out.bnd q h).2; omega).kq (Kq.of (T := fun _ => False) (below_drew W4)) fun q hq h => h)
     have HX5 := hid (show Bytes W4.drew W4.drew.heap.size (some ⟨g4, off' % 64, none⟩) (L - off' % 64) X from by
      have h1 := ((HX4.out.on (below_drew W4)).take (show L ≤ 64 by omega)).drop (l := off' % 64) (c := c4) (by omega) (by have := HC4.out; omega)
      rw [cutA, if_neg (by have := HC4.out; omega), ← HRb.out] at h1
      have e : (⟨g4, 0, none⟩ : Addr).add (off' % 64) = ⟨g4, off' % 64, none⟩ := by rw [Addr.add_mid, Nat.zero_add]
      rw [← e]
      exact h1)
     clear hcut4
     have q2 := IntWalk.i64_in ((off' : Int) % 64) ⟨by omega, by omega⟩
     have q3 : Int.tmod (off' : Int) 64 = (off' : Int) % 64 := Int.tmod_eq_emod_of_nonneg (by omega)
     have q4 := IntWalk.i64_in ((off' : Int) % 64 + (e : Int)) ⟨by omega, by omega⟩
     have q5 := IntWalk.i64_in ((off' : Int) % 64 + (e : Int) - (off' : Int)) ⟨by omega, by omega⟩
     have q6 : min (64 : Int) ((off' : Int) % 64 + (e : Int) - (off' : Int)) = (L : Int) := by omega
     have q7 : L ≤ c4 := by have := HC4.out; omega
     clear hh1 hhe
     go_upto_region 19 with fail
     refine wp_region_noPanic ?_
     refine wp_region_held_drew (S := (fun _ => True)) (by kernel_rfl) trivial (fun hS0 => ?_)
     refine tk 0 ((.slice (some ⟨g4, 0, none⟩) 64 c4)) rfl (fun _ _ => rfl) ?_
     try simp only [layR]
     refine tk 1 ((.int .i64 (off' : Int))) rfl (fun _ _ => rfl) ?_
     try simp only [layR]
     refine tk 2 ((.int .i64 64)) rfl (fun _ _ => rfl) ?_
     try simp only [layR]
     refine tk 3 ((.int .i64 ((off' : Int) % 64))) rfl (fun W hSw => ?_) ?_
     ·skip
      go_simp
     try simp only [layR]
     refine tk 4 ((.int .i64 64)) rfl (fun _ _ => rfl) ?_
     try simp only [layR]
     refine tk 5 ((.int .i64 (off' : Int))) rfl (fun _ _ => rfl) ?_
     try simp only [layR]
     refine tk 6 ((.int .i64 64)) rfl (fun _ _ => rfl) ?_
     try simp only [layR]
     refine tk 7 ((.int .i64 ((off' : Int) % 64))) rfl (fun W hSw => ?_) ?_
     ·skip
      go_simp
     try simp only [layR]
     refine tk 8 ((.int .i64 (e : Int))) rfl (fun _ _ => rfl) ?_
     try simp only [layR]
     refine tk 9 ((.int .i64 ((off' : Int) % 64 + (e : Int)))) rfl (fun W hSw => ?_) ?_
     ·skip
      go_simp
     try simp only [layR]
     refine tk 10 ((.int .i64 (off' : Int))) rfl (fun _ _ => rfl) ?_
     try simp only [layR]
     refine tk 11 ((.int .i64 ((off' : Int) % 64 + (e : Int) - (off' : Int)))) rfl (fun W hSw => ?_) ?_
     ·skip
      go_simp
     try simp only [layR]
     refine tk 12 ((.int .i64 (L : Int))) rfl (fun W hSw => ?_) ?_
     ·skip
      go_simp
     try simp only [layR]
     refine tk 13 ((.slice (some ⟨g4, off' % 64, none⟩) (L - off' % 64 : Nat) (c4 - off' % 64 : Nat))) rfl (fun W hSw => ?_) ?_
     ·have y9 := HCut.out
      go_simp
     try simp only [layR]
     refine tk 14 ((.slice (some ⟨g4, off' % 64, none⟩) (L - off' % 64 : Nat) (c4 - off' % 64 : Nat))) rfl (fun _ _ => rfl) ?_
     try simp only [layR]
     refine wpAnyH_done (by kernel_rfl) ?_ _
     refine NoPanic.normal ?_
     clear hS0 q2 q3 q4 q5 q6
     generalize W4.drew = W5 at *
     obtain ⟨pl, hpl⟩ : ∃ p, p = L - off' % 64 := ⟨_, rfl⟩
     rw [← hpl]
     rw [← hpl] at HX5 HRn HBl
     have hh1 := HH1.out
     rw [← hpl] at hh1
     have HPl1 := hid (show 1 ≤ pl ∧ off' + pl ≤ e ∧ pl ≤ 64 by omega)
     have HPl2 := hid (show off' + pl < e → (off' + pl) % 64 = 0 by have := HHe.out; omega)
     have HGk := hid (IntWalk.i64_in ((off' : Int) + (pl : Int)) ⟨by omega, by omega⟩)
     have gk := HGk.out
     have hpl3 : acc.length + pl ≤ 1024 := by have := HPl1.out; omega
     clear hh1 hpl
     go_wp2_with (at_builtin; refine wpList_ontoB rfl _ _ rfl w1.heap.size u12 acc rfl HO5.out _ (some ⟨g4, off' % 64, none⟩) pl (c4 - off' % 64) X rfl HX5.out (by omega) HS5.out ?_; intro v6 W6 HO6 HB6)
     have HK6 := hid (kqv_from HB6.out)
     have hs6 := HS1.out
     go_roundw
     case rel =>
      have h1 := HPl1.out
      refine ⟨off' + pl, fu, acc ++ X, by go_num, HO6.out, by omega, fun h => ?_, ?_, HRn.out, HP5.out.kq HK6.out fun q hq h => ?_, HN5.out.kq HK6.out (by omega), HK5.out.then_ HK6.out fun q h => .inr h⟩
      ·have := HPl2.out h
       have := HFu.out
       omega
      ·rw [List.length_append, HBl.out]
       omega
      ·have := (HH.out.bnd q hq).2
       omega
     case measure =>
      have h1 := HPl1.out
      have h2 := HGk.out
      simp only [intOf]
      omega
   ·have ge : ¬ (off' : Int) < (e : Int) := by omega
    have HRe := hid (show R = acc from by
     rw [← HR'.out]
     cases fu with
     | zero => exact List.append_nil _
     | succ k => rw [show rdS (k + 1) s fi.io off' e = [] from if_neg hlt2, List.append_nil])
    go_wp2_with fail
    go_ret2
    exact ⟨⟨_, rfl, by rw [HRe.out]; exact HO'.out.mono (by have := HS1.out; omega)⟩, HP'.out, HK1.out.trans HK'.out⟩
 ·have gz : (z : Int) ≤ (off : Int) := by omega
  have HR2 := hid (show R = [] from HR.out.trans (if_neg (by have := HE0.out; omega)))
  go_wp2_with fail
  rw [← HW2.out]
  go_ret2
  exact ⟨⟨_, rfl, by rw [HR2.out]; exact Own.nil _ _⟩, HP2.out, Kq.of HB2.out⟩
theorem nodRead_calls {fi : Nf} {off n z : Nat} (h : PlM NB B Q w P f s) (hw : Wf s fi.io) (hn : n ≤ 1024) (hz : fi.s = (z : Int)) (hz2 : z ≤ 67968) (hoff : off ≤ 67968) :
  Calls Tryz.prog 12 #[.pointer (some ⟨P, 0, none⟩), nfV fi, .int .i64 (off : Int), .int .i64 (n : Int)] w (NodGot NB B Q P f s (rdS 20 s fi.io off (off + min n (z - off))) w) :=
 nodRead0_calls h hw hn hz hz2 hoff rfl rfl
end
end Go.Proofs.YtcppkaphlcflgaaGreat
