import Derived.Test.YtcppkaphlcflgaaGreatNodPoint
namespace Go.Proofs.YtcppkaphlcflgaaGreat
open Lib (hid)
set_option maxRecDepth 100000
set_option maxHeartbeats 16000000
open Go.RowKit Pol Nod
variable {NB B P : Nat} {Q : Nat → Prop} {w w' : World} {f : Fm} {s : Ps}

attribute [local go_sem] Oper.semAt_some

def ylV (x : Nat × Nat × Nat) : Array Value := #[.int .i64 (x.1 : Int), .int .i64 (x.2.1 : Int), .int .i64 (x.2.2 : Int)]
structure YieldOk (gy : Nat) (lb : Array Value) (total : List (Nat × Nat × Nat)) (Q : Nat → Prop) (n : Nat) (J : List (Nat × Nat × Nat) → (Nat → Prop) → World → Prop) : Prop where
 jx : JX Q n J
 enters : ∀ args w, (callFunc gy args).run Tryz.prog w = .ok (.enter gy args) w
 y : ∀ pre x X W, J pre X W → (pre ++ [x]) <+: total → Calls Tryz.prog gy (ylV x ++ lb) W fun e W' => e = .returned (.bool true) ∧ (∃ X', J (pre ++ [x]) X' W' ∧ Grew X W X') ∧ Kq X W W'
def PtrsPost (NB B : Nat) (Q : Nat → Prop) (P : Nat) (f : Fm) (s : Ps) (J : List (Nat × Nat × Nat) → (Nat → Prop) → World → Prop) (pre : List (Nat × Nat × Nat)) (X : Nat → Prop) (w : World) (e : Ending) (w' : World) : Prop :=
 e = .returned (.bool true) ∧ (∃ X', J pre X' w' ∧ Grew X w X') ∧ PlM NB B Q w' P f s ∧ Kq (fun q => Q q ∨ X q) w w'
def PtrsOk (NB B : Nat) (Q : Nat → Prop) (F P : Nat) (f : Fm) (s : Ps) (gy : Nat) (lb : Array Value) (total : List (Nat × Nat × Nat)) (n : Nat) (J : List (Nat × Nat × Nat) → (Nat → Prop) → World → Prop) (lv : Nat) : Prop :=
 ∀ (w : World) (p fr : Nat) (pre : List (Nat × Nat × Nat)) (X : Nat → Prop), PlM NB B Q w P f s → w.cell? ⟨F, 0, none⟩ = some (.pointer (some ⟨P, 0, none⟩)) → F < w.heap.size → ¬ Q F → n ≤ w.heap.size → (∀ q, X q → ¬ Q q ∧ q ≠ F) → J pre X w → (pre ++ ptrs s.g lv p fr) <+: total → GdL s lv p → fr + 1000 * lv ≤ 100000 →
  Calls Tryz.prog 118 #[.pointer (some ⟨F, 0, none⟩), .int .i64 (p : Int), .int .i64 (fr : Int), .int .i64 (lv : Int), .func (.func gy) #[] lb] w (PtrsPost NB B Q P f s J (pre ++ ptrs s.g lv p fr) X w)
structure Nbx (Z F fr : Nat) (lv : Int) (yv : Value) (w : World) : Prop where
 b0 : Blk w Z 80 #[.pointer (some ⟨F, 0, none⟩)]
 b1 : Blk w (Z + 1) 3 #[.int .i64 (fr : Int)]
 b2 : Blk w (Z + 2) 3 #[.int .i64 lv]
 b3 : Blk w (Z + 3) 144 #[yv]
 b4 : Blk w (Z + 4) 4 #[.bool false]
theorem Nbx.kq {Z F fr : Nat} {lv : Int} {yv : Value} {T : Nat → Prop} (h : Nbx Z F fr lv yv w) (hk : Kq T w w') (hT : ∀ q, Z ≤ q → q < Z + 5 → ¬ T q) : Nbx Z F fr lv yv w' :=
 ⟨h.b0.kq hk (hT _ (by omega) (by omega)), h.b1.kq hk (hT _ (by omega) (by omega)), h.b2.kq hk (hT _ (by omega) (by omega)), h.b3.kq hk (hT _ (by omega) (by omega)), h.b4.kq hk (hT _ (by omega) (by omega))⟩
theorem Nbx.new (w : World) (F fr : Nat) (lv : Int) (yv : Value) : Nbx w.heap.size F fr lv yv (((((w.alloc (.cells #[.pointer (some ⟨F, 0, none⟩)] 80)).alloc (.cells #[.int .i64 (fr : Int)] 3)).alloc (.cells #[.int .i64 lv] 3)).alloc (.cells #[yv] 144)).alloc (.cells #[.bool false] 4)) := by
 have a1 := Blk.new (w.alloc (.cells #[.pointer (some ⟨F, 0, none⟩)] 80)) 3 #[.int .i64 (fr : Int)]
 have a2 := Blk.new ((w.alloc (.cells #[.pointer (some ⟨F, 0, none⟩)] 80)).alloc (.cells #[.int .i64 (fr : Int)] 3)) 3 #[.int .i64 lv]
 have a3 := Blk.new (((w.alloc (.cells #[.pointer (some ⟨F, 0, none⟩)] 80)).alloc (.cells #[.int .i64 (fr : Int)] 3)).alloc (.cells #[.int .i64 lv] 3)) 144 #[yv]
 have a4 := Blk.new ((((w.alloc (.cells #[.pointer (some ⟨F, 0, none⟩)] 80)).alloc (.cells #[.int .i64 (fr : Int)] 3)).alloc (.cells #[.int .i64 lv] 3)).alloc (.cells #[yv] 144)) 4 #[.bool false]
 simp only [World.size_alloc] at a1 a2 a3 a4
 exact ⟨((((Blk.new w _ _).alloc _).alloc _).alloc _).alloc _, ((a1.alloc _).alloc _).alloc _, (a2.alloc _).alloc _, a3.alloc _, a4⟩
theorem below_five (w : World) (o0 o1 o2 o3 o4 : Obj) : Below w.heap.size w (((((w.alloc o0).alloc o1).alloc o2).alloc o3).alloc o4) :=
 ((((Below.refl _ w).alloc (Nat.le_refl _) _).alloc (by simp) _).alloc (by simp; omega) _ |>.alloc (by simp; omega) _).alloc (by simp; omega) _
theorem nodPtrs_end {J : List (Nat × Nat × Nat) → (Nat → Prop) → World → Prop} {n m : Nat} {pre : List (Nat × Nat × Nat)} {X T : Nat → Prop} {w w1 w2 w3 : World} (h : PlM NB B Q w P f s) (hj : JX Q n J) (hXb : ∀ q, X q → q < w.heap.size) (hb : Below w.heap.size w w1) (hn : n ≤ w.heap.size)
  (h2 : PlM NB B Q w2 P f s) (hk : Kq (fun q => Q q ∨ X q) w1 w2) (hx : ∃ X', J pre X' w2 ∧ Grew X w1 X') (hs : Kq T w2 w3) (hT : ∀ q, T q → w.heap.size ≤ q ∧ q < w.heap.size + m) (hm : w1.heap.size = w.heap.size + m) :
  PtrsPost NB B Q P f s J pre X w (.returned (.bool true)) w3 := by
 obtain ⟨X', hx1, hx2⟩ := hx
 have hs1 := hb.size
 refine ⟨rfl, ⟨X', hj.kq _ _ _ _ T hx1 hs fun q hq => ?_, fun q hq => ?_⟩, h2.kq hs fun q hq ht => ?_, ((Kq.of hb).trans hk).then_ hs fun q hq => .inr (hT q hq).1⟩
 ·have := hT q hq
  refine ⟨.inr (by omega), fun h3 => ?_⟩
  rcases hx2 q h3 with h4 | h4
  ·have := hXb q h4; omega
  ·omega
 ·rcases hx2 q hq with h4 | h4
  ·exact .inl h4
  ·exact .inr (by omega)
 ·have := (h.bnd q hq).2
  have := hT q ht
  omega
theorem nodPtrs0 {F gy n : Nat} {lb : Array Value} {total : List (Nat × Nat × Nat)} {J : List (Nat × Nat × Nat) → (Nat → Prop) → World → Prop} (hy : YieldOk gy lb total Q n J) : PtrsOk NB B Q F P f s gy lb total n J 0 := by
 intro w p fr pre X h hF hFl _ hn hX hj hpre hg hfr
 have HH := hid h
 have HJ := hid hj
 have HY := hid hy
 have hb := below_five w (.cells #[.pointer (some ⟨F, 0, none⟩)] 80) (.cells #[.int .i64 (fr : Int)] 3) (.cells #[.int .i64 0] 3) (.cells #[.func (.func gy) #[] lb] 144) (.cells #[.bool false] 4)
 have HB := hid hb
 have HBx := hid (show Nbx w.heap.size F fr 0 (.func (.func gy) #[] lb) _ from Nbx.new w F fr 0 (.func (.func gy) #[] lb))
 have HXb := hid (hy.jx.bd _ _ _ hj)
 have heg := hy.enters
 have HXQ := hid hX
 clear h hj hy hb hF hX hg hfr
 refine callsIn_wide (n := 9) |>.1 ?_
 refine callsIn_of_wp_marks Tryz.func118 rfl trivial ?_ rfl
 refine wpIn_wide.2 ?_
 simp only [Tryz.ntmps118, List.size_toArray, List.length_cons, List.length_nil, Nat.reduceAdd, Nat.reduceSub, Array.replicate_succ, Array.replicate_zero, List.push_toArray, List.append_toArray, List.nil_append, List.cons_append]
 go_upto_region 1 with fail
 have HS1 := hid (show ((((((w.alloc (.cells #[.pointer (some ⟨F, 0, none⟩)] 80)).alloc (.cells #[.int .i64 (fr : Int)] 3)).alloc (.cells #[.int .i64 0] 3)).alloc (.cells #[.func (.func gy) #[] lb] 144)).alloc (.cells #[.bool false] 4)).heap.size) = w.heap.size + 5 by simp)
 generalize (((((w.alloc (.cells #[.pointer (some ⟨F, 0, none⟩)] 80)).alloc (.cells #[.int .i64 (fr : Int)] 3)).alloc (.cells #[.int .i64 0] 3)).alloc (.cells #[.func (.func gy) #[] lb] 144)).alloc (.cells #[.bool false] 4)) = w1 at *
 have HP1 := hid (HH.out.on HB.out)
 have HJ1 := hid (HY.out.jx.on HJ.out HB.out)
 by_cases h0 : p = 0
 ·have HE := hid (show ptrs s.g 0 p fr = [] from if_pos h0)
  subst h0
  have z4 := HBx.out.b4.frozen 0
  have z5 := HBx.out.b4.cellv (i := 0) rfl
  have hst : Kq (fun q => q = w.heap.size + 4) w1 (w1.setCell ⟨w.heap.size + 4, 0, none⟩ (.bool true)) := Kq.one ⟨w.heap.size + 4, 0, none⟩ _
  have HFin := hid (nodPtrs_end (m := 5) HH.out HY.out.jx HXb.out HB.out hn HP1.out (Kq.refl (fun q => Q q ∨ X q) w1) ⟨X, HJ1.out, Grew.refl _ _⟩ hst (fun q e => by omega) HS1.out)
  have hz := ((HBx.out.b4.set 0 (.bool true)).cellv (i := 0) rfl)
  have hz' : (w1.setCell ⟨w.heap.size + 1 + 1 + 1 + 1, 0, none⟩ (.bool true)).cell? ⟨w.heap.size + 1 + 1 + 1 + 1, 0, none⟩ = some (.bool true) := hz
  clear hst hz
  go_wp2
  refine ⟨.bool true, by simp [results, Tryz.results118, go_sem, hz'], ?_⟩
  rw [HE.out, List.append_nil]
  exact HFin.out
 ·have HE := hid (show ptrs s.g 0 p fr = [(fr, p, 0)] from if_neg h0)
  have HPre := hid (show (pre ++ [(fr, p, 0)]) <+: total by rw [← HE.out]; exact hpre)
  have g0 : ((p : Int) == 0) = false := by rw [beq_eq_false_iff_ne]; omega
  have x1 := HBx.out.b1.cellv (i := 0) rfl
  have x2 := HBx.out.b2.cellv (i := 0) rfl
  have x3 := HBx.out.b3.cellv (i := 0) rfl
  clear hpre h0
  go_wp2_with fail
  refine (HY.out.y pre (fr, p, 0) X w1 HJ1.out HPre.out).mono ?_
  rintro e w2 ⟨rfl, hx2, hk2⟩
  have hb2 := HBx.out.kq hk2 (fun q h1 h2 h3 => by have := HXb.out q h3; omega)
  have y2 := hb2.b2.cellv (i := 0) rfl
  have z4 := hb2.b4.frozen 0
  have z5 := hb2.b4.cellv (i := 0) rfl
  have hst : Kq (fun q => q = w.heap.size + 4) w2 (w2.setCell ⟨w.heap.size + 4, 0, none⟩ (.bool true)) := Kq.one ⟨w.heap.size + 4, 0, none⟩ _
  have HFin := hid (nodPtrs_end (m := 5) HH.out HY.out.jx HXb.out HB.out hn (HP1.out.kq hk2 fun q h1 h2 => (HXQ.out q h2).1 h1) (hk2.mono fun q h => .inr h) hx2 hst (fun q e => by omega) HS1.out)
  have hz := ((hb2.b4.set 0 (.bool true)).cellv (i := 0) rfl)
  have hz' : (w2.setCell ⟨w.heap.size + 1 + 1 + 1 + 1, 0, none⟩ (.bool true)).cell? ⟨w.heap.size + 1 + 1 + 1 + 1, 0, none⟩ = some (.bool true) := hz
  clear hst hz hb2 hk2 hx2 x1 x2 x3
  go_wp2
  refine ⟨.bool true, by simp [results, Tryz.results118, go_sem, hz'], ?_⟩
  rw [HE.out]
  exact HFin.out
theorem nodPtrs_end2 {J : List (Nat × Nat × Nat) → (Nat → Prop) → World → Prop} {n : Nat} {pre : List (Nat × Nat × Nat)} {X X' T : Nat → Prop} {w w1 w2 w3 : World} (h : PlM NB B Q w P f s) (hj : JX Q n J) (hb : Below w.heap.size w w1) (hn : n ≤ w.heap.size)
  (h2 : PlM NB B Q w2 P f s) (hk : Kq (fun q => Q q ∨ X q ∨ w.heap.size ≤ q) w1 w2) (hx1 : J pre X' w2) (hx2 : ∀ q, X' q → X q ∨ w.heap.size ≤ q) (hs : Kq T w2 w3) (hT : ∀ q, T q → w.heap.size ≤ q ∧ ¬ X' q) :
  PtrsPost NB B Q P f s J pre X w (.returned (.bool true)) w3 := by
 refine ⟨rfl, ⟨X', hj.kq _ _ _ _ T hx1 hs fun q hq => ⟨.inr (by have := hT q hq; omega), (hT q hq).2⟩, fun q hq => hx2 q hq⟩, h2.kq hs fun q hq ht => ?_, ((Kq.of (T := fun q => Q q ∨ X q) hb).then_ hk fun q hq => ?_).then_ hs fun q hq => .inr (hT q hq).1⟩
 ·have := (h.bnd q hq).2
  have := hT q ht
  omega
 ·rcases hq with h1 | h1 | h1
  ·exact .inl (.inl h1)
  ·exact .inl (.inr h1)
  ·exact .inr h1
theorem nodPtrsS {F gy n lv : Nat} {lb : Array Value} {total : List (Nat × Nat × Nat)} {J : List (Nat × Nat × Nat) → (Nat → Prop) → World → Prop} (hy : YieldOk gy lb total Q n J) (hlv : lv = 0 ∨ lv = 1) (ih : PtrsOk NB B Q F P f s gy lb total n J lv) : PtrsOk NB B Q F P f s gy lb total n J (lv + 1) := by
 intro w p fr pre X h hF hFl hnF hn hX hj hpre hg hfr
 have HNF := hid hnF
 clear hnF
 obtain ⟨L, hL⟩ : ∃ L, L = lv + 1 := ⟨_, rfl⟩
 obtain ⟨st, hst⟩ : ∃ st : Nat, st = if lv = 1 then 32 else 1 := ⟨_, rfl⟩
 have hst32 : st ≤ 32 := by rw [hst]; split <;> omega
 have hg0 := hg.gd
 have HG := hid hg
 have HIh := hid ih
 have HST := hid hst
 have HH := hid h
 have HJ := hid hj
 have HY := hid hy
 have HLe := hid hL
 have HPre := hid hpre
 have HLv := hid hlv
 have hfr2 : fr + 1000 * lv + 1000 ≤ 100000 := by omega
 have hb := below_five w (.cells #[.pointer (some ⟨F, 0, none⟩)] 80) (.cells #[.int .i64 (fr : Int)] 3) (.cells #[.int .i64 (L : Int)] 3) (.cells #[.func (.func gy) #[] lb] 144) (.cells #[.bool false] 4)
 have HB := hid hb
 have HBx := hid (Nbx.new w F fr (L : Int) (.func (.func gy) #[] lb))
 have HXb := hid (hy.jx.bd _ _ _ hj)
 have heg := hy.enters
 have HXQ := hid hX
 have HC0 := hid hF
 have gL1 : ((L : Int) == 0) = false := by rw [beq_eq_false_iff_ne]; omega
 have hLb : 1 ≤ L ∧ L ≤ 2 := by omega
 rw [← hL]
 clear h hj hy hb hF hX hg hfr ih hL hst hpre hlv
 refine callsIn_wide (n := 9) |>.1 ?_
 refine callsIn_of_wp_marks Tryz.func118 rfl trivial ?_ rfl
 refine wpIn_wide.2 ?_
 simp only [Tryz.ntmps118, List.size_toArray, List.length_cons, List.length_nil, Nat.reduceAdd, Nat.reduceSub, Array.replicate_succ, Array.replicate_zero, List.push_toArray, List.append_toArray, List.nil_append, List.cons_append]
 go_upto_region 1 with fail
 have HS1 := hid (show ((((((w.alloc (.cells #[.pointer (some ⟨F, 0, none⟩)] 80)).alloc (.cells #[.int .i64 (fr : Int)] 3)).alloc (.cells #[.int .i64 (L : Int)] 3)).alloc (.cells #[.func (.func gy) #[] lb] 144)).alloc (.cells #[.bool false] 4)).heap.size) = w.heap.size + 5 by simp)
 generalize (((((w.alloc (.cells #[.pointer (some ⟨F, 0, none⟩)] 80)).alloc (.cells #[.int .i64 (fr : Int)] 3)).alloc (.cells #[.int .i64 (L : Int)] 3)).alloc (.cells #[.func (.func gy) #[] lb] 144)).alloc (.cells #[.bool false] 4)) = w1 at *
 have HP1 := hid (HH.out.on HB.out)
 have HJ1 := hid (HY.out.jx.on HJ.out HB.out)
 by_cases h0 : p = 0
 ·have HE := hid (show ptrs s.g L p fr = [] from by rw [HLe.out]; exact if_pos h0)
  subst h0
  have z4 := HBx.out.b4.frozen 0
  have z5 := HBx.out.b4.cellv (i := 0) rfl
  have hst : Kq (fun q => q = w.heap.size + 4) w1 (w1.setCell ⟨w.heap.size + 4, 0, none⟩ (.bool true)) := Kq.one ⟨w.heap.size + 4, 0, none⟩ _
  have HFin := hid (nodPtrs_end (m := 5) HH.out HY.out.jx HXb.out HB.out hn HP1.out (Kq.refl (fun q => Q q ∨ X q) w1) ⟨X, HJ1.out, Grew.refl _ _⟩ hst (fun q e => by omega) HS1.out)
  have hz := ((HBx.out.b4.set 0 (.bool true)).cellv (i := 0) rfl)
  have hz' : (w1.setCell ⟨w.heap.size + 1 + 1 + 1 + 1, 0, none⟩ (.bool true)).cell? ⟨w.heap.size + 1 + 1 + 1 + 1, 0, none⟩ = some (.bool true) := hz
  clear hst hz
  go_wp2
  refine ⟨.bool true, by simp [results, Tryz.results118, go_sem, hz'], ?_⟩
  rw [HE.out, List.append_nil]
  exact HFin.out
 ·obtain ⟨fl, hfl⟩ : ∃ fl : List (Nat × Nat) → List (Nat × Nat × Nat), fl = fun l => l.flatMap fun x => ptrs s.g lv x.2 (fr + x.1 * st) := ⟨_, rfl⟩
  have HFl := hid hfl
  have HE := hid (show ptrs s.g L p fr = (fr, p, L) :: fl (Pt.pts (s.g p)) from by rw [HLe.out, hfl, HST.out]; exact if_neg h0)
  have HTh := hid (hg0.there h0)
  have HPr1 := hid (show (pre ++ [(fr, p, L)]) <+: total from by
   refine List.IsPrefix.trans ?_ HPre.out
   rw [← HLe.out, HE.out]
   exact ⟨fl (Pt.pts (s.g p)), by simp⟩)
  have HP0 := hid h0
  have g0 : ((p : Int) == 0) = false := by rw [beq_eq_false_iff_ne]; omega
  have x1 := HBx.out.b1.cellv (i := 0) rfl
  have x2 := HBx.out.b2.cellv (i := 0) rfl
  have x3 := HBx.out.b3.cellv (i := 0) rfl
  clear h0 hfl hg0
  go_wp2_with fail
  refine (HY.out.y pre (fr, p, L) X w1 HJ1.out HPr1.out).mono ?_
  rintro e w2 ⟨rfl, ⟨X2, hx2, hg2⟩, hk2⟩
  have HBx2 := hid (HBx.out.kq hk2 (fun q h1 h2 h3 => by have := HXb.out q h3; omega))
  have HP2 := hid (HP1.out.kq hk2 fun q h1 h2 => (HXQ.out q h2).1 h1)
  have HJ2 := hid hx2
  have HG2 := hid hg2
  have HK2 := hid hk2
  have HC2 := hid (kq_cell hk2 (kq_cell (Kq.of (T := X) HB.out) HC0.out hFl (fun h => (HXQ.out F h).2 rfl)) (by have := HS1.out; show F < _; omega) (fun h => (HXQ.out F h).2 rfl))
  have y2 := HBx2.out.b2.cellv (i := 0) rfl
  clear hx2 hg2 hk2 x1 x2 x3
  go_upto_region 8 with fail
  have hb3 : Below w2.heap.size w2 (w2.alloc (.cells #[.int .i64 1] 3)) := (Below.refl _ _).alloc (Nat.le_refl _) _
  have HB3 := hid hb3
  have HZ5 := hid (Blk.new w2 3 #[.int .i64 1])
  have HBx3 := hid (HBx2.out.kq (T := fun _ => False) (Kq.of hb3) fun _ _ _ h => h)
  have HP3 := hid (HP2.out.on hb3)
  have HC3 := hid ((hb3.cell (p := ⟨F, 0, none⟩) (by have := HK2.out.size; have := HS1.out; show F < _; omega)).trans HC2.out)
  clear hb3 y2
  have z5s : (w2.alloc (.cells #[.int .i64 1] 3)).heap.size = w2.heap.size + 1 := by simp
  generalize w2.alloc (.cells #[.int .i64 1] 3) = w3 at *
  have y2 := HBx3.out.b2.cellv (i := 0) rfl
  go_upto_if 27 with fail
  go_cut [] from 26 to 58 (fun wx => Hid (Kq (fun q => q = w2.heap.size) w3 wx ∧ Blk wx w2.heap.size 3 #[.int .i64 (st : Int)]))
  case first =>
   by_cases h1 : lv = 1
   ·have HS := hid (show st = 32 from HST.out.trans (if_pos h1))
    have g2 : ((L : Int) == 2) = true := by rw [beq_iff_eq]; have := HLe.out; omega
    have y0 := HBx3.out.b0.cellv (i := 0) rfl
    have y1 := HC3.out
    have q1 := HZ5.out.cellv (i := 0) rfl
    have q2 := HZ5.out.frozen 0
    clear h1
    go_wp2_with fail
    refine (polSize_calls HP3.out).mono ?_
    rintro e w_ ⟨rfl, rfl⟩
    go_wp2_with fail
    go_meet
    case rel =>
     refine hid ⟨Kq.one ⟨w2.heap.size, 0, none⟩ _, ?_⟩
     rw [HS.out]
     exact HZ5.out.set 0 (.int .i64 32)
   ·have HS := hid (show st = 1 from HST.out.trans (if_neg h1))
    have g2 : ((L : Int) == 2) = false := by rw [beq_eq_false_iff_ne]; have := HLe.out; have := HLv.out; omega
    clear h1
    go_wp2_with fail
    go_meet
    case rel =>
     refine hid ⟨Kq.refl _ _, ?_⟩
     rw [HS.out]
     exact HZ5.out
  case rest =>
   have HCut := hcut
   clear hcut y2
   generalize wc = w4 at *
   have hzl : w.heap.size + 5 ≤ w2.heap.size := by have := HK2.out.size; have := HS1.out; omega
   have HZl := hid hzl
   have HBx4 := hid (HBx3.out.kq HCut.out.1 fun q h1 h2 h3 => by omega)
   have HP4 := hid (HP3.out.kq HCut.out.1 fun q h1 h2 => by have := (HH.out.bnd q h1).2; omega)
   have HC4 := hid (kq_cell HCut.out.1 HC3.out (by show F < _; omega) (fun e => by have e2 : F = w2.heap.size := e; omega))
   have HK4 := hid ((Kq.of (T := fun q => q = w2.heap.size) HB3.out).trans HCut.out.1)
   have y0 := HBx4.out.b0.cellv (i := 0) rfl
   have y1 := HC4.out
   clear z5s
   go_wp2_with fail
   refine (polGet_calls HP4.out HTh.out).mono ?_
   rintro e w5 ⟨⟨v, rfl, ho⟩, hp5, hk5⟩
   have HX := hid (HH.out.ok.sz p HTh.out)
   obtain ⟨a, c, rfl, hc⟩ := ho.formN HX.out
   have HO5 := hid ho
   have HP5 := hid hp5
   have HK5 := hid hk5
   clear ho hp5 hk5 y0 y1
   go_wp2_with fail
   refine (ptsFn a 64 c w5).mono ?_
   rintro e w' ⟨rfl, rfl⟩
   have hb6 : Below w5.heap.size w5 (w5.alloc (.cells #[.slice a 64 c] 40)) := (Below.refl _ _).alloc (Nat.le_refl _) _
   have HC6 := hid (Blk.new w5 40 #[.slice a 64 c])
   have HO6 := hid (HO5.out.on hb6)
   have HP6 := hid (HP5.out.on hb6)
   have HK46 := hid (HK5.out.on hb6)
   have HS6 := hid (show (w5.alloc (.cells #[.slice a 64 c] 40)).heap.size = w5.heap.size + 1 by simp)
   have HK45 := hid (show w4.heap.size ≤ w5.heap.size from HK5.out.size)
   clear hb6 HO5 HP5 HK5
   generalize w5.alloc (.cells #[.slice a 64 c] 40) = w6 at *
   generalize w5.heap.size = C at *
   -- all that was done since w2
   have HK26 := hid (show Kq (fun q => Q q ∨ q = w2.heap.size) w2 w6 from (HK4.out.mono fun q h => .inr h).trans (HK46.out.mono fun q h => .inl h))
   have HJ6 := hid (show J (pre ++ [(fr, p, L)]) X2 w6 from HY.out.jx.kq _ _ _ _ _ HJ2.out HK26.out fun q hq => by
    have hb2 := HY.out.jx.bd _ _ _ HJ2.out
    rcases hq with h | h
    ·refine ⟨.inl h, fun h2 => ?_⟩
     rcases HG2.out q h2 with h3 | h3
     ·exact (HXQ.out q h3).1 h
     ·have := (HH.out.bnd q h).2; have := HS1.out; omega
    ·exact ⟨.inr (by omega), fun h2 => by have := hb2 q h2; omega⟩)
   have HZ6 := hid (show Blk w6 w2.heap.size 3 #[.int .i64 (st : Int)] from HCut.out.2.kq HK46.out fun h => by have := (HH.out.bnd _ h).2; omega)
   have HBx6 := hid (HBx4.out.kq HK46.out fun q h1 h2 h3 => by have := (HH.out.bnd q h3).2; omega)
   have HC6F := hid (kq_cell HK46.out HC4.out (by have := HK4.out.size; show F < _; omega) HNF.out)
   have HR6 := hid (fun q (h : X2 q) => (show X q ∨ w1.heap.size ≤ q from HG2.out q h))
   have HX2b := hid (HY.out.jx.bd _ _ _ HJ2.out)
   go_wp2_with fail
   refine wpNamed fun T hT => ?_
   have hit := pts_iterX a 64 c (s.g p) C w6 (HO6.out.arr (by rw [HX.out]; omega)) HC6.out
   have hI : JX (fun _ => False) w6.heap.size (fun (pre2 : List (Nat × Nat)) (XL : Nat → Prop) (W : World) => ∃ X' : Nat → Prop, J (pre ++ [(fr, p, L)] ++ fl pre2) X' W ∧ (∀ q, X' q → X2 q ∨ w6.heap.size ≤ q) ∧ (∀ q, XL q ↔ Q q ∨ X' q) ∧ PlM NB B Q W P f s ∧ Kq (fun q => Q q ∨ X2 q) w6 W) := by
    refine ⟨?_, ?_⟩
    ·rintro pre2 XL W ⟨X', h1, _, h3, h4, _⟩ q hq
     rcases (h3 q).1 hq with h | h
     ·exact (h4.bnd q h).2
     ·exact HY.out.jx.bd _ _ _ h1 q h
    ·rintro pre2 XL W W' T' ⟨X', h1, h2, h3, h4, h5⟩ hk hT'
     have hs6 : w2.heap.size ≤ w6.heap.size := HK26.out.size
     refine ⟨X', HY.out.jx.kq _ _ _ _ T' h1 hk fun q hq => ⟨.inr ?_, fun h => (hT' q hq).2 ((h3 q).2 (.inr h))⟩, h2, h3, h4.kq hk fun q h h' => (hT' q h').2 ((h3 q).2 (.inl h)), h5.then_ hk fun q hq => .inr ((hT' q hq).1.resolve_left id)⟩
     have := (hT' q hq).1.resolve_left id
     omega
   have hIx : ∀ kc : Code, JX (fun _ => False) w6.heap.size (fun (_ : List (Nat × Nat)) (_ : Nat → Prop) (_ : World) => False) := fun _ => ⟨fun _ _ _ h => h.elim, fun _ _ _ _ _ h => h.elim⟩
   refine wpIn_wide.1 (range_lawX (gf := 160) (lb := #[.pointer (some ⟨C, 0, none⟩)]) (encs := ptEnc) (xs := Pt.pts (s.g p)) (T := fun _ => False) (own := ptOwn a C) (w0 := w6) (by rw [hT]; rfl) (enters_of Tryz.func160 (by kernel_rfl) rfl) hit (fun _ _ _ _ _ _ => trivial) (Kq.refl _ _) ?own (fun q h => h.elim) (fun _ => rfl)
    _ hI _ hIx (.inl trivial) (fun q => Q q ∨ X2 q) ⟨X2, ?start, fun q h => .inl h, fun q => Iff.rfl, HP6.out, Kq.refl _ _⟩ ?dis (fun x => ⟨(((T.setIfInBounds 45 (.int .i64 (x.1 : Int))).setIfInBounds 46 (.int .i64 (x.2 : Int))).setIfInBounds 14 (.int .i64 (x.1 : Int))).setIfInBounds 15 (.int .i64 (x.2 : Int)), []⟩) ?assign ?body ?done ?stop)
   case own =>
    rintro q (rfl | ⟨b, o, e, rfl⟩)
    ·exact HC6.out.lt
    ·exact (HO6.out.blockLt q (by rw [e]; rfl)).2
   case start =>
    rw [HFl.out]
    show J (pre ++ [(fr, p, L)] ++ []) X2 w6
    rw [List.append_nil]
    exact HJ6.out
   case dis =>
    have hs4 := HK4.out.size
    have hs5 := HK45.out
    rintro q (h | h)
    ·refine ⟨id, ?_⟩
     have h1 := (HH.out.bnd q h).2
     rintro (h2 | ⟨b, o, e, h2⟩)
     ·omega
     ·have h3 := (HO6.out.blockLt b (by rw [e]; rfl)).1
      omega
    ·refine ⟨id, ?_⟩
     have h1 := HX2b.out q h
     rintro (h2 | ⟨b, o, e, h2⟩)
     ·omega
     ·have h3 := (HO6.out.blockLt b (by rw [e]; rfl)).1
      omega
   case assign =>
    intro lp y W K hK
    unfold ptEnc
    have h9 := zip2 45 46 T (.int .i64 (y.1 : Int)) (.int .i64 (y.2 : Int))
    rw [h9]
    have HKa := hid hK
    clear hK hit hI hIx h9
    subst hT
    simp only [List.setIfInBounds_toArray, List.set_cons_succ, List.set_cons_zero]
    gi_wp2
    have h8 := HKa.out
    simp only [List.setIfInBounds_toArray, List.set_cons_succ, List.set_cons_zero] at h8
    exact h8
   case body =>
    rintro lp pre2 ⟨k, v⟩ XL W ⟨X', hj', hx', hxl, hp', hk'⟩ hgw hs hpre2
    have hmem : (k, v) ∈ Pt.pts (s.g p) := hpre2.subset (by simp)
    obtain ⟨hk32, hv1, hv0⟩ := pts_mem HX.out hmem
    have hs1 := HS1.out
    have hsW : w2.heap.size ≤ W.heap.size := Nat.le_trans HK26.out.size hs
    have hX2n : ∀ q, w.heap.size ≤ q → q < w.heap.size + 5 → ¬ X2 q := fun q h1 h2 h3 => by
     rcases HR6.out q h3 with h4 | h4
     ·have := HXb.out q h4; omega
     ·omega
    have hX2F : ¬ X2 F := fun h3 => by
     rcases HR6.out F h3 with h4 | h4
     ·exact (HXQ.out F h4).2 rfl
     ·omega
    have hX'd : ∀ q, X' q → ¬ Q q ∧ q ≠ F := fun q hq => by
     have hw26 := HK26.out.size
     have hl : X q ∨ w1.heap.size ≤ q := by
      rcases hx' q hq with h4 | h4
      ·exact HR6.out q h4
      ·exact .inr (by omega)
     rcases hl with h4 | h4
     ·exact HXQ.out q h4
     ·exact ⟨fun h5 => by have := (HH.out.bnd q h5).2; omega, fun e => by omega⟩
    have hbx := HBx6.out.kq hk' fun q h1 h2 h3 => by
     rcases h3 with h3 | h3
     ·have := (HH.out.bnd q h3).2; omega
     ·exact hX2n q h1 h2 h3
    have hz5 := HZ6.out.kq hk' fun h3 => by
     rcases h3 with h3 | h3
     ·have := (HH.out.bnd _ h3).2; omega
     ·have := HX2b.out _ h3; omega
    have hcF : W.cell? ⟨F, 0, none⟩ = some (.pointer (some ⟨P, 0, none⟩)) := kq_cell hk' HC6F.out (by have := HK26.out.size; show F < _; omega) (fun h3 => h3.elim HNF.out hX2F)
    have hflp : fl (pre2 ++ [(k, v)]) = fl pre2 ++ ptrs s.g lv v (fr + k * st) := by rw [HFl.out]; simp
    have hpx : (pre ++ [(fr, p, L)] ++ fl pre2 ++ ptrs s.g lv v (fr + k * st)) <+: total := by
     refine List.IsPrefix.trans ?_ HPre.out
     rw [← HLe.out, HE.out]
     obtain ⟨r, hr⟩ := hpre2
     refine ⟨fl r, ?_⟩
     rw [← hr, show fl (pre2 ++ [(k, v)] ++ r) = fl (pre2 ++ [(k, v)]) ++ fl r by rw [HFl.out]; simp, hflp]
     simp
    have hgd : GdL s lv v := by
     have := HG.out.2 k hk32
     rw [show ptP s.g p k = v from by unfold ptP; rw [if_neg HP0.out, hv1]] at this
     exact this
    have hks : k * st ≤ 31 * 32 := Nat.mul_le_mul (by omega) hst32
    have hcall := HIh.out W v (fr + k * st) (pre ++ [(fr, p, L)] ++ fl pre2) X' hp' hcF (by omega) HNF.out (by omega) hX'd hj' hpx hgd (by omega)
    obtain ⟨m, hm⟩ : ∃ m, m = k * st := ⟨_, rfl⟩
    rw [← hm] at hcall hflp hks
    have gm : IntKind.i64.wrap ((k : Int) * (st : Int)) = (m : Int) := by
     rw [show (k : Int) * (st : Int) = (m : Int) by rw [hm]; exact (Int.natCast_mul k st).symm]
     exact IntWalk.i64_in _ ⟨by omega, by omega⟩
    have ga : IntKind.i64.wrap ((fr : Int) + (m : Int)) = ((fr + m : Nat) : Int) := by
     rw [IntWalk.i64_in ((fr : Int) + (m : Int)) ⟨by omega, by omega⟩]
     exact (Int.natCast_add fr m).symm
    have gl : IntKind.i64.wrap ((L : Int) - 1) = (lv : Int) := by
     rw [IntWalk.i64_in ((L : Int) - 1) ⟨by omega, by omega⟩]
     have := HLe.out
     omega
    obtain ⟨frm, hfrm⟩ : ∃ q, q = fr + m := ⟨_, rfl⟩
    rw [← hfrm] at ga hcall hflp
    have HCall := hid (CallsIn.inRound lp (callsIn_wide (n := 6) |>.2 hcall))
    have HFlp := hid hflp
    have HXL := hid hxl
    have HXd := hid hX'd
    have HX' := hid hx'
    have HKW := hid hk'
    have HHs := hid hs
    have c0 := hbx.b0.cellv (i := 0) rfl
    have c1 := hbx.b1.cellv (i := 0) rfl
    have c2 := hbx.b2.cellv (i := 0) rfl
    have c3 := hbx.b3.cellv (i := 0) rfl
    have c5 := hz5.cellv (i := 0) rfl
    clear hit hI hIx hj' hx' hxl hp' hk' hgw hs hpre2 hmem hX2n hX2F hX'd hbx hz5 hcF hflp hpx hgd hcall hm hfrm hks hv1 hv0
    subst hT
    simp only [List.setIfInBounds_toArray, List.set_cons_succ, List.set_cons_zero]
    gi_wp2_with fail
    refine ⟨trivial, ?_⟩
    refine HCall.out.mono ?_
    rintro e w7 ⟨rfl, ⟨X3, hj3, hg3⟩, hp3, hk3⟩
    have HFin := hid (show LeftX (fun (pre2 : List (Nat × Nat)) (XL : Nat → Prop) (W : World) => ∃ X' : Nat → Prop, J (pre ++ [(fr, p, L)] ++ fl pre2) X' W ∧ (∀ q, X' q → X2 q ∨ w6.heap.size ≤ q) ∧ (∀ q, XL q ↔ Q q ∨ X' q) ∧ PlM NB B Q W P f s ∧ Kq (fun q => Q q ∨ X2 q) w6 W) (fun (_ : Code) (_ : List (Nat × Nat)) (_ : Nat → Prop) (_ : World) => False) (pre2 ++ [(k, v)]) XL W .normal ⟨#[], []⟩ w7 from by
     have hsW2 := HHs.out
     refine ⟨⟨fun q => Q q ∨ X3 q, ⟨X3, ?_, fun q hq => ?_, fun q => Iff.rfl, hp3, HKW.out.then_ hk3 fun q hq => ?_⟩, fun q hq => ?_⟩, hk3.mono fun q hq => (HXL.out q).2 hq⟩
     ·rw [HFlp.out, ← List.append_assoc]
      exact hj3
     ·rcases hg3 q hq with h | h
      ·exact HX'.out q h
      ·exact .inr (by omega)
     ·rcases hq with h | h
      ·exact .inl (.inl h)
      ·rcases HX'.out q h with h4 | h4
       ·exact .inl (.inr h4)
       ·exact .inr h4
     ·rcases hq with h | h
      ·exact .inl ((HXL.out q).2 (.inl h))
      ·rcases hg3 q h with h4 | h4
       ·exact .inl ((HXL.out q).2 (.inr h4))
       ·exact .inr h4)
    clear hj3 hg3 hp3 hk3
    gi_wp2
    exact HFin.out
   case done =>
    rintro D XL W hD ⟨X', hj', hx', hxl, hp', hk'⟩ hgw hk hnD _ hK
    have hl : D < W.heap.size := (Array.getElem?_eq_some_iff.1 hK).1
    have hs1 := HS1.out
    have hw26 := HK26.out.size
    have hwW := hk'.size
    have hX'l : ∀ q, X' q → X q ∨ w1.heap.size ≤ q := fun q hq => by
     rcases hx' q hq with h4 | h4
     ·exact HR6.out q h4
     ·exact .inr (by omega)
    have hb4 := HBx6.out.b4.kq hk' fun h3 => by
     rcases h3 with h3 | h3
     ·have := (HH.out.bnd _ h3).2; omega
     ·rcases HR6.out _ h3 with h4 | h4
      ·have := HXb.out _ h4; omega
      ·omega
    have z4 := hb4.frozen 0
    have z5 := hb4.cellv (i := 0) rfl
    have hst : Kq (fun q => q = w.heap.size + 4) W (W.setCell ⟨w.heap.size + 4, 0, none⟩ (.bool true)) := Kq.one ⟨w.heap.size + 4, 0, none⟩ _
    have HD5 := hid (show (W.setCell ⟨w.heap.size + 4, 0, none⟩ (.bool true)).heap[D]? = some (.deferred (some [])) from (hst.block D hl (fun e => by omega)).trans hK)
    have hr5 := (hb4.set 0 (.bool true)).cellv (i := 0) rfl
    have HR5 := hid (fun o : Obj => (show ((W.setCell ⟨w.heap.size + 1 + 1 + 1 + 1, 0, none⟩ (.bool true)).putObj D o).cell? ⟨w.heap.size + 1 + 1 + 1 + 1, 0, none⟩ = some (.bool true) from kq_cell (kq_putObj (W.setCell ⟨w.heap.size + 4, 0, none⟩ (.bool true)) D o) hr5 (by have := hst.size; show w.heap.size + 4 < _; omega) (fun e => by have e2 : w.heap.size + 4 = D := e; omega)))
    have HFin := hid (fun o : Obj => (show PtrsPost NB B Q P f s J (pre ++ ptrs s.g L p fr) X w (.returned (.bool true)) ((W.setCell ⟨w.heap.size + 1 + 1 + 1 + 1, 0, none⟩ (.bool true)).putObj D o) from by
     have hkD := (hst.mono (T' := fun q => q = w.heap.size + 4 ∨ q = D) fun q e => .inl e).trans ((kq_putObj (W.setCell ⟨w.heap.size + 4, 0, none⟩ (.bool true)) D o).mono fun q e => .inr e)
     refine nodPtrs_end2 HH.out HY.out.jx HB.out hn hp' (X' := X') ?_ (by rw [HE.out]; rw [List.append_assoc] at hj'; exact hj') (fun q hq => ?_) hkD fun q hq => ?_
     ·refine ((HK2.out.mono fun q h => .inr (.inl h)).trans (HK26.out.mono fun q h => ?_)).trans (hk'.mono fun q h => ?_)
      ·rcases h with h | h
       ·exact .inl h
       ·exact .inr (.inr (by omega))
      ·rcases h with h | h
       ·exact .inl h
       ·rcases HR6.out q h with h4 | h4
        ·exact .inr (.inl h4)
        ·exact .inr (.inr (by omega))
     ·rcases hX'l q hq with h4 | h4
      ·exact .inl h4
      ·exact .inr (by omega)
     ·rcases hq with h | h
      ·subst h
       refine ⟨by omega, fun h => ?_⟩
       rcases hX'l _ h with h4 | h4
       ·have := HXb.out _ h4; omega
       ·omega
      ·subst h
       exact ⟨by omega, fun h => hnD q ((hxl q).2 (.inr h)) rfl⟩))
    clear hst hr5 hb4 hj' hx' hxl hp' hk' hgw hk hnD hK hit hI hIx hX'l
    subst hT
    go_wp2
    refine ⟨by simp, .inl ⟨_, _, rfl, run_takeDeferred HD5.out, ?_⟩⟩
    have hr9 := HR5.out (.deferred none)
    exact ⟨.bool true, by simp [results, Tryz.results118, go_sem, hr9], HFin.out _⟩
   case stop =>
    rintro D kc pre2 X1 W _ _ h
    exact h.elim
end Go.Proofs.YtcppkaphlcflgaaGreat
