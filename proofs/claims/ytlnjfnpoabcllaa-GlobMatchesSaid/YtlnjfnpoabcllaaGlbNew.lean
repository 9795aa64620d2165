/-
  New: a pattern out of a text.
-/
import Derived.Test.YtlnjfnpoabcllaaGlbMk
import Derived.Test.YtlnjfnpoabcllaaGlbPatC
import Derived.Test.YtlnjfnpoabcllaaIterReg
import Derived.Test.YtlnjfnpoabcllaaGlbMay
import Derived.Test.YtlnjfnpoabcllaaIterOwn
import Derived.Test.YtlnjfnpoabcllaaPathParts
import Derived.WalkMore
import Derived.Shelf.Abstract
namespace Go.Proofs.Ytlnjfnpoabcllaa
open Go.RowKit Go.Shelf

attribute [local go_sem] Oper.semAt_some
namespace Glb
def prt1 (t : List UInt8) : Option Prt := if t = [42, 42] then some ⟨true, []⟩ else (marksOf t).map (⟨false, ·⟩)
def prts : List (List UInt8) → Option (List Prt)
  | [] => some []
  | t :: ts => match prt1 t, prts ts with
    | some p, some ps => some (p :: ps)
    | _, _ => none
theorem prts_snoc {pre : List (List UInt8)} {ps : List Prt} {t : List UInt8} {p : Prt} (h : prts pre = some ps) (ht : prt1 t = some p) : prts (pre ++ [t]) = some (ps ++ [p]) := by
  induction pre generalizing ps with
  | nil =>
    injection h with h
    subst h
    show (match prt1 t, prts [] with | some p, some ps => some (p :: ps) | _, _ => none) = _
    rw [ht]; rfl
  | cons x pre ih =>
    rw [List.cons_append]
    unfold prts at h ⊢
    cases hx : prt1 x with
    | none => rw [hx] at h; cases h
    | some q =>
      rw [hx] at h
      cases hp : prts pre with
      | none => rw [hp] at h; cases h
      | some qs =>
        rw [hp] at h
        injection h with h
        subst h
        rw [ih hp]
        rfl
theorem prts_bad {pre rest : List (List UInt8)} {t : List UInt8} (ht : prt1 t = none) : prts (pre ++ [t] ++ rest) = none := by
  induction pre with
  | nil => show (match prt1 t, prts rest with | some p, some ps => some (p :: ps) | _, _ => none) = _; rw [ht]
  | cons x pre ih =>
    rw [List.cons_append, List.cons_append]
    unfold prts
    rw [ih]
    cases prt1 x <;> rfl
/-- New: the parts, and the error. -/
def new (s : List UInt8) : Option (List Prt) × Int :=
  if s = [] ∨ 255 < s.length ∨ s.head? ≠ some 47 then (none, 30) else if 16 < (Pth.parts s).length then (none, 30) else match prts (Pth.parts s) with
    | none => (none, 31)
    | some ps => (some ps, 0)
end Glb
theorem partsFn (l : List UInt8) (w : World) :
    Calls Try.prog 25 #[.string (strL l)] w fun e w' => e = .returned (.func (.func 37) #[] #[.pointer (some ⟨w.heap.size, 0, none⟩)]) ∧ w.alloc (.cells #[.string (strL l)] 9) = w' := by
  go_enter Try.func25, Try.ntmps25
  go_wp2
  go_ret
  exact ⟨rfl, rfl⟩
/-- What New leaves. -/
def NewR (r : Option (List Glb.Prt) × Int) (w : World) (e : Ending) (w' : World) : Prop :=
  Below w.heap.size w w' ∧ match r.1 with
    | none => e = .returned (.tuple #[.pointer none, .int .i64 r.2])
    | some ps => ∃ pb a n c, e = .returned (.tuple #[.pointer (some ⟨pb, 0, none⟩), .int .i64 r.2]) ∧ PatP w'.heap.size w' pb a n c ps
theorem wp_named {P : Program} {c : Code} {Q : Exit → Act → World → Prop} {T0 : Array Value} {ds : List Deferred} {w : World} (h : ∀ T, T = T0 → Code.wp P c Q ⟨T, ds⟩ w) : Code.wp P c Q ⟨T0, ds⟩ w := h T0 rfl
theorem new_bad (s : List UInt8) (w : World) (hs : s.length ≤ 1000) (h : s = [] ∨ 255 < s.length ∨ s.head? ≠ some 47) :
    Calls Try.prog 11 #[.string (strL s)] w (NewR (none, 30) w) := by
  by_cases h0 : s = []
  · subst h0
    go_enter Try.func11, Try.ntmps11
    go_wp2
    refine bodyPost_ret (v := .tuple #[.pointer none, .int .i64 30]) (by simp [results, Try.results11, go_sem]) rfl ⟨?_, rfl⟩
    exact ((Below.refl _ _).alloc (Nat.le_refl _) _).alloc (by simp) _
  have g0 : s.isEmpty = false := by simpa using h0
  have g1 : (s == []) = false := by simpa using h0
  have g3 : (0 : Nat) < s.length := List.length_pos_iff.2 h0
  by_cases h1 : 255 < s.length
  · have g2 : decide (255 < (s.length : Int)) = true := decide_eq_true (by omega)
    clear h h0
    go_enter Try.func11, Try.ntmps11
    go_wp2
    refine bodyPost_ret (v := .tuple #[.pointer none, .int .i64 30]) (by simp [results, Try.results11, go_sem]) rfl ⟨?_, rfl⟩
    exact ((Below.refl _ _).alloc (Nat.le_refl _) _).alloc (by simp) _
  have g2 : decide (255 < (s.length : Int)) = false := decide_eq_false (by omega)
  have g4 : ((s[0].toNat : Int) != 47) = true := by
    cases s with
    | nil => exact absurd rfl h0
    | cons c r =>
      rcases h with h | h | h
      · exact absurd h h0
      · exact absurd h h1
      · have hc : c ≠ 47 := fun e => h (by rw [e]; rfl)
        rw [bne, show (((c :: r)[0].toNat : Int) == 47) = false from u8_ne (by decide) hc]; rfl
  clear h h0
  go_enter Try.func11, Try.ntmps11
  go_wp2
  refine bodyPost_ret (v := .tuple #[.pointer none, .int .i64 30]) (by simp [results, Try.results11, go_sem]) rfl ⟨?_, rfl⟩
  exact ((Below.refl _ _).alloc (Nat.le_refl _) _).alloc (by simp) _
theorem Blk.putOther {W : World} {g : Nat} {t : TypeId} {cs : Array Value} {D : Nat} (h : Blk W g t cs) (hne : g ≠ D) (o : Obj) : Blk (W.putObj D o) g t cs := (World.putObj_heap_other (by omega)).trans h
namespace Glb
theorem new_if {s : List UInt8} (h0 : s ≠ []) (h1 : s.length ≤ 255) (h2 : s.head? = some 47) : ¬ (s = [] ∨ 255 < s.length ∨ s.head? ≠ some 47) := by
  rintro (a | a | a)
  · exact h0 a
  · omega
  · exact a h2
theorem new_big {s : List UInt8} (h0 : s ≠ []) (h1 : s.length ≤ 255) (h2 : s.head? = some 47) (h : 16 < (Pth.parts s).length) : new s = (none, 30) := by
  unfold new
  rw [if_neg (new_if h0 h1 h2), if_pos h]
theorem new_none {s : List UInt8} (h0 : s ≠ []) (h1 : s.length ≤ 255) (h2 : s.head? = some 47) (h : ¬ 16 < (Pth.parts s).length) (hp : prts (Pth.parts s) = none) : new s = (none, 31) := by
  unfold new
  rw [if_neg (new_if h0 h1 h2), if_neg h, hp]
theorem new_some {s : List UInt8} {ps : List Prt} (h0 : s ≠ []) (h1 : s.length ≤ 255) (h2 : s.head? = some 47) (h : ¬ 16 < (Pth.parts s).length) (hp : prts (Pth.parts s) = some ps) : new s = (some ps, 0) := by
  unfold new
  rw [if_neg (new_if h0 h1 h2), if_neg h, hp]
end Glb
namespace Pth
theorem opt_mem' {x l : List UInt8} (h : x ∈ opt l) : x = l := by
  unfold opt at h
  split at h
  · simp at h
  · simpa using h
theorem parts_mem' {x l : List UInt8} (h : x ∈ parts l) : x.length ≤ l.length := by
  have H : ∀ n (l : List UInt8), l.length ≤ n → x ∈ parts l → x.length ≤ l.length := by
    intro n
    induction n with
    | zero =>
      intro l hl h
      have : l = [] := List.eq_nil_of_length_eq_zero (by omega)
      subst this; simp [parts_nil] at h
    | succ n ih =>
      intro l hl h
      by_cases h0 : l = []
      · subst h0; simp [parts_nil] at h
      · have h1 := behind_lt l h0
        rw [parts_step, List.mem_append] at h
        rcases h with h | h
        · rw [opt_mem' h]; exact ahead_le l
        · have := ih (behind l) (by omega) h; omega
  exact H l.length l (Nat.le_refl _) h
end Pth
/-- Between two rounds of the count. -/
def CntI (H : Nat) (w : World) (pre : List (List UInt8)) (W : World) : Prop :=
  Blk W (H + 1 + 1) 3 #[.int .i64 (pre.length : Int)] ∧ Blk W H 25 #[.pointer none] ∧ Blk W (H + 1) 26 #[.int .i64 0] ∧ Below H w W ∧ H + 1 + 1 + 1 + 1 ≤ W.heap.size
theorem cntI_keeps (H : Nat) (w : World) (hw : H ≤ w.heap.size) (pre : List (List UInt8)) : Keeps2 (H + 1 + 1 + 1) (H + 1 + 1 + 1 + 1) (CntI H w pre) :=
  (Blk.keeps2 (by omega)).and ((Blk.keeps2 (by omega)).and ((Blk.keeps2 (by omega)).and ((below_keeps2 (by omega) (by omega) hw).and size_keeps2)))
def cntAct2 (T : Array Value) (x : List UInt8) : Act := ⟨(T.setIfInBounds 32 (.string (strL x))).setIfInBounds 6 (.string (strL x)), []⟩
def cntAct (T : Array Value) (x : List UInt8) : Act := ⟨T.setIfInBounds 23 (.string (strL x)), []⟩
/-- Between two rounds of the parts; and where a round has returned. -/
def NewI (H D1 A : Nat) (w : World) (pre : List (List UInt8)) (W : World) : Prop :=
  (∃ v xs ps, Glb.prts pre = some ps ∧ ps.length = pre.length ∧ Blk W A 45 #[v] ∧ PatC (A + 1 + 1 + 1) v W xs ps) ∧ Blk W (A + 1) 25 #[.pointer (some ⟨A, 0, none⟩)] ∧ Blk W H 25 #[.pointer none] ∧ Blk W (H + 1) 26 #[.int .i64 0] ∧
    Below H w W ∧ A + 1 + 1 + 1 ≤ W.heap.size ∧ W.heap[D1]? = some (.deferred (some [])) ∧ pre.length ≤ 16
def NewX (H D1 : Nat) (w : World) (bad : Prop) (k : Code) (W : World) : Prop :=
  Blk W H 25 #[.pointer none] ∧ Blk W (H + 1) 26 #[.int .i64 31] ∧ Below H w W ∧ W.heap[D1]? = some (.deferred (some [])) ∧ (k = .ret ∧ bad)
theorem deferred_keeps {D c B : Nat} (hc : D ≠ c) (hB : D < B) : Keeps2 c B (fun W => W.heap[D]? = some (.deferred (some []))) := fun W W' r h hg hr => by
  refine (hg.block D (heap_lt h) (fun e => ?_)).trans h
  have e2 : D = r := Option.some.inj e
  subst e2
  rcases hr with h1 | ⟨h1, _⟩
  · exact hc h1
  · omega
theorem patC_keeps {base c B : Nat} {v : Value} {xs : List Pv} {ps : List Glb.Prt} (hc : c < base) : Keeps2 c B (fun W => PatC base v W xs ps) := fun W W' r h hg hr =>
  h.keep hg (by rcases hr with rfl | ⟨_, ho⟩; exact .inl hc; exact .inr ho)
theorem newI_keeps (H D1 A : Nat) (w : World) (hw : H ≤ w.heap.size) (hD : D1 < A) (hH : H + 1 < D1) (pre : List (List UInt8)) : Keeps2 (A + 1 + 1) (A + 1 + 1 + 1) (NewI H D1 A w pre) :=
  (Keeps2.ex fun v => Keeps2.ex fun xs => Keeps2.ex fun ps => (Keeps2.pure _).and ((Keeps2.pure _).and ((Blk.keeps2 (by omega)).and (patC_keeps (by omega))))).and ((Blk.keeps2 (by omega)).and ((Blk.keeps2 (by omega)).and ((Blk.keeps2 (by omega)).and ((below_keeps2 (by omega) (by omega) hw).and (size_keeps2.and ((deferred_keeps (by omega) (by omega)).and (Keeps2.pure _)))))))
theorem newX_keeps (H D1 A : Nat) (w : World) (hw : H ≤ w.heap.size) (hD : D1 < A) (hH : H + 1 < D1) (bad : Prop) (k : Code) : Keeps2 (A + 1 + 1) (A + 1 + 1 + 1) (NewX H D1 w bad k) :=
  (Blk.keeps2 (by omega)).and ((Blk.keeps2 (by omega)).and ((below_keeps2 (by omega) (by omega) hw).and ((deferred_keeps (by omega) (by omega)).and (Keeps2.pure _))))
theorem NewI.push {H D1 A : Nat} {w W1 w4 : World} {pre : List (List UInt8)} {t : List UInt8} {v v4 : Value} {xs : List Pv} {ps : List Glb.Prt} {x : Pv} {p : Glb.Prt} (hH : H + 1 < D1) (hD : D1 < A)
    (hps : Glb.prts pre = some ps) (hpl : ps.length = pre.length) (ha : Blk W1 A 45 #[v]) (hc : PatC (A + 1 + 1 + 1) v W1 xs ps) (hb : Blk W1 (A + 1) 25 #[.pointer (some ⟨A, 0, none⟩)]) (h0 : Blk W1 H 25 #[.pointer none]) (h1 : Blk W1 (H + 1) 26 #[.int .i64 0])
    (hbel : Below H w W1) (hsz : A + 1 + 1 + 1 ≤ W1.heap.size) (hd : W1.heap[D1]? = some (.deferred (some []))) (hp16 : pre.length < 16) (ht : Glb.prt1 t = some p) (hp : PtS (Sc (A + 1 + 1 + 1) v W1) W1 x p)
    (ho4 : OwnM 2 pvC 48 w4 (A + 1 + 1 + 1) v4 (xs ++ [x])) (hg : W1.grownBy w4 v.ownBlock) (hv : v4.ownBlock = v.ownBlock ∨ ∃ k, v4.ownBlock = some k ∧ W1.heap.size ≤ k) :
    KeepsOthers W1 (w4.setCell ⟨A, 0, none⟩ v4) ∧ Below H W1 (w4.setCell ⟨A, 0, none⟩ v4) ∧ (w4.setCell ⟨A, 0, none⟩ v4).heap[A + 1 + 1]? = W1.heap[A + 1 + 1]? ∧ NewI H D1 A w (pre ++ [t]) (w4.setCell ⟨A, 0, none⟩ v4) := by
  have hne : ∀ k, k < A + 1 + 1 + 1 → some k ≠ v.ownBlock := fun k hk e => (hc.1.notRow (r := k) (.inl hk)) e.symm
  have hb4 : Below H W1 w4 := ⟨hg.os, hg.tape, hg.output, hg.size, fun k hk => hg.block k (by omega) (hne k (by omega))⟩
  have hb5 : Below H W1 (w4.setCell ⟨A, 0, none⟩ v4) := hb4.setCell (p := ⟨A, 0, none⟩) (by show H ≤ A; omega) _
  refine ⟨(KeepsOthers.of_grownBy hg hc.1.cellsRow).trans (others_setCell _ _ _ _), hb5, ?_, ⟨v4, xs ++ [x], ps ++ [p], Glb.prts_snoc hps ht, by rw [List.length_append, List.length_append, hpl]; rfl, (ha.grown hg (hne A (by omega))).set 0 v4, (hc.push hp ho4 hg hv).keep (grown_setCell w4 A 0 v4) (.inl (by omega))⟩,
    (hb.grown hg (hne (A + 1) (by omega))).far (by simp) _, (h0.grown hg (hne H (by omega))).far (by simp; omega) _, (h1.grown hg (hne (H + 1) (by omega))).far (by simp; omega) _, hbel.trans hb5, ?_, ?_, by rw [List.length_append, List.length_singleton]; omega⟩
  · rw [heap_setCell_other _ _ _ _ (by simp; omega)]
    exact hg.block _ (by omega) (hne _ (by omega))
  · have := hg.size
    simp
    omega
  · rw [heap_setCell_other _ _ _ _ (by simp; omega)]
    exact (hg.block D1 (by omega) (hne D1 (by omega))).trans hd
set_option maxRecDepth 100000 in
set_option maxHeartbeats 16000000 in
theorem new_good (s : List UInt8) (w : World) (h0 : s ≠ []) (h1 : s.length ≤ 255) (h2 : s.head? = some 47) :
    Calls Try.prog 11 #[.string (strL s)] w (NewR (Glb.new s) w) := by
  have g0 : s.isEmpty = false := by simpa using h0
  have g1 : (s == []) = false := by simpa using h0
  have g2 : decide (255 < (s.length : Int)) = false := decide_eq_false (by omega)
  have g3 : (0 : Nat) < s.length := List.length_pos_iff.2 h0
  have g4 : ((s[0].toNat : Int) == 47) = true := by
    cases s with
    | nil => exact absurd rfl h0
    | cons c r => simp at h2; subst h2; rfl
  have g4' : ((s[0].toNat : Int) != 47) = false := by rw [bne, g4]; rfl
  have HBig := Lib.hid (Glb.new_big h0 h1 h2)
  have HBad := Lib.hid (Glb.new_none h0 h1 h2)
  have HGood := Lib.hid (fun ps => Glb.new_some (ps := ps) h0 h1 h2)
  obtain ⟨R, hR⟩ : ∃ R, R = Glb.new s := ⟨_, rfl⟩
  rw [← hR] at HBig HBad HGood ⊢
  clear hR h0 h2
  refine callsIn_wide (n := 9) |>.1 ?_
  refine callsIn_of_wp_marks Try.func11 rfl trivial ?_ rfl
  refine wpIn_wide.2 ?_
  simp only [Try.ntmps11, List.size_toArray, List.length_cons, List.length_nil, Nat.reduceAdd, Nat.reduceSub, Array.replicate_succ, Array.replicate_zero, List.push_toArray, List.append_toArray, List.nil_append, List.cons_append]
  go_wp2_with fail
  refine (partsFn s _).mono ?_
  rintro e w' ⟨rfl, rfl⟩
  go_wp2_with fail
  clear g0 g1 g2 g4 g4'
  have b0 := (((Blk.new w 25 #[.pointer none]).alloc (.cells #[.int .i64 0] 26)).alloc (.cells #[.int .i64 0] 3)).alloc (.cells #[.string (strL s)] 9)
  have b1 := ((Blk.new (w.alloc (.cells #[.pointer none] 25)) 26 #[.int .i64 0]).alloc (.cells #[.int .i64 0] 3)).alloc (.cells #[.string (strL s)] 9)
  have b2 := (Blk.new ((w.alloc (.cells #[.pointer none] 25)).alloc (.cells #[.int .i64 0] 26)) 3 #[.int .i64 0]).alloc (.cells #[.string (strL s)] 9)
  have b3 := Blk.new (((w.alloc (.cells #[.pointer none] 25)).alloc (.cells #[.int .i64 0] 26)).alloc (.cells #[.int .i64 0] 3)) 9 #[.string (strL s)]
  have hb0 : Below w.heap.size w ((((w.alloc (.cells #[.pointer none] 25)).alloc (.cells #[.int .i64 0] 26)).alloc (.cells #[.int .i64 0] 3)).alloc (.cells #[.string (strL s)] 9)) := ((((Below.refl _ w).alloc (Nat.le_refl _) _).alloc (by simp) _).alloc (by simp; omega) _).alloc (by simp; omega) _
  have hsz : ((((w.alloc (.cells #[.pointer none] 25)).alloc (.cells #[.int .i64 0] 26)).alloc (.cells #[.int .i64 0] 3)).alloc (.cells #[.string (strL s)] 9)).heap.size = w.heap.size + 1 + 1 + 1 + 1 := by simp
  simp only [World.size_alloc] at b1 b2 b3
  generalize (((w.alloc (.cells #[.pointer none] 25)).alloc (.cells #[.int .i64 0] 26)).alloc (.cells #[.int .i64 0] 3)).alloc (.cells #[.string (strL s)] 9) = W0 at *
  have hit := parts_iter s (w.heap.size + 1 + 1 + 1) w.heap.size W0 (by omega) (b3.cellv (i := 0) rfl) (b3.frozen 0)
  refine wp_named fun T hT => ?_
  refine wpIn_wide.1 (range_law (gf := 37) (lb := #[.pointer (some ⟨w.heap.size + 1 + 1 + 1, 0, none⟩)]) (encs := partEnc) (xs := Pth.parts s) (c := w.heap.size + 1 + 1 + 1) (n0 := w.heap.size) (w0 := W0) (by rw [hT]; rfl) (enters_of Try.func37 (by kernel_rfl) rfl) hit (Below.refl _ _) (by omega) (by omega) (fun _ => rfl)
    (CntI w.heap.size w) (fun _ _ _ => False) (fun pre => by rw [hsz]; exact cntI_keeps _ w (Nat.le_refl _) pre) (fun k pre => Keeps2.pure False)
    ⟨b2, b0, b1, hb0, by omega⟩ (cntAct T) ?assign ?body ?done ?stop)
  case assign =>
    intro lp x W K hK
    refine wpIn_skip ?_
    simp [partEnc, Exit.then]
    exact hK
  case body =>
    rintro lp pre x W ⟨c2, c0, c1, hbel, hsW⟩ hpre
    unfold cntAct
    subst hT
    simp only [List.setIfInBounds_toArray, List.set_cons_succ, List.set_cons_zero]
    have C2 := Lib.hid c2
    have C0 := Lib.hid c0
    have C1 := Lib.hid c1
    have HBel := Lib.hid hbel
    have k2 := c2.cellv (i := 0) rfl
    have f2 := c2.frozen 0
    have hpl : pre.length ≤ 255 := by
      have h3 := hpre.length_le
      have h4 := Pth.parts_len s
      rw [List.length_append] at h3
      omega
    clear c2 c0 c1 hbel hit hpre b0 b1 b2 b3 hb0
    gi_wp2
    refine ⟨others_setCell _ _ _ _, (Below.refl w.heap.size W).setCell (p := ⟨w.heap.size + 1 + 1, 0, none⟩) (by simp; omega) _, heap_setCell_other _ _ _ _ (by simp), ?_, C0.out.far (by simp; omega) _, C1.out.far (by simp) _, HBel.out.setCell (p := ⟨w.heap.size + 1 + 1, 0, none⟩) (by simp; omega) _, by simpa using hsW⟩
    have h := C2.out.set 0 (.int .i64 ((pre.length : Int) + 1))
    have e : (((pre ++ [x]).length : Nat) : Int) = (pre.length : Int) + 1 := by simp
    rw [e]
    exact h
  case done =>
    rintro D1 W hD ⟨c2, c0, c1, hbel, hsW⟩ hK
    have C0 := Lib.hid c0
    have C1 := Lib.hid c1
    have HBel := Lib.hid hbel
    have k2 := c2.cellv (i := 0) rfl
    have k0 := c0.cellv (i := 0) rfl
    have k1 := c1.cellv (i := 0) rfl
    have f0 := c0.frozen 0
    have f1 := c1.frozen 0
    have HK := Lib.hid hK
    have hDW := heap_lt hK
    rw [hsz] at hD
    clear hit b0 b1 b2 b3 hb0 hsz c2 c0 c1 hbel hK W0
    subst hT
    by_cases h16 : 16 < (Pth.parts s).length
    · have HR := Lib.hid (HBig.out h16)
      have g16 : decide (16 < ((Pth.parts s).length : Int)) = true := decide_eq_true (by omega)
      generalize (Pth.parts s).length = np at *
      go_wp2_with fail
      have hK2 : (((W.setCell ⟨w.heap.size, 0, none⟩ (.pointer none)).setCell ⟨w.heap.size + 1, 0, none⟩ (.int .i64 30))).heap[D1]? = some (.deferred (some [])) := by
        rw [heap_setCell_other _ _ _ _ (by simp; omega), heap_setCell_other _ _ _ _ (by simp; omega)]; exact HK.out
      refine ⟨by simp, .inl ⟨_, _, rfl, run_takeDeferred hK2, ?_⟩⟩
      have B0 := (((C0.out.set 0 (.pointer none)).far (p := ⟨w.heap.size + 1, 0, none⟩) (by simp) (.int .i64 30)).putOther (D := D1) (by omega) (.deferred none)).cellv (i := 0) rfl
      have B1 := (((C1.out.far (p := ⟨w.heap.size, 0, none⟩) (by simp) (.pointer none)).set 0 (.int .i64 30)).putOther (D := D1) (by omega) (.deferred none)).cellv (i := 0) rfl
      refine ⟨_, by simp [results, Try.results11, go_sem, B0, B1]; rfl, ?_⟩
      rw [HR.out]
      exact ⟨((HBel.out.setCell (p := ⟨w.heap.size, 0, none⟩) (Nat.le_refl _) _).setCell (p := ⟨w.heap.size + 1, 0, none⟩) (by simp) _).trans (below_turn _ (by omega)), rfl⟩
    · have g16 : decide (16 < ((Pth.parts s).length : Int)) = false := decide_eq_false (by omega)
      have HBad2 := Lib.hid (HBad.out h16)
      have HGood2 := Lib.hid (fun ps => HGood.out ps h16)
      have HPl := Lib.hid (show (Pth.parts s).length ≤ 16 by omega)
      obtain ⟨np, hnp⟩ : ∃ np, np = (Pth.parts s).length := ⟨_, rfl⟩
      rw [← hnp] at k2 g16
      clear hnp h16
      go_wp2_with fail
      refine (partsFn s _).mono ?_
      rintro e w' ⟨rfl, rfl⟩
      go_wp2_with fail
      have ba0 := ((Blk.new W 45 #[.slice none 0 0]).alloc (.cells #[.pointer (some ⟨W.heap.size, 0, none⟩)] 25)).alloc (.cells #[.string (strL s)] 9)
      have bp0 := (Blk.new (W.alloc (.cells #[.slice none 0 0] 45)) 25 #[.pointer (some ⟨W.heap.size, 0, none⟩)]).alloc (.cells #[.string (strL s)] 9)
      have bc0 := Blk.new ((W.alloc (.cells #[.slice none 0 0] 45)).alloc (.cells #[.pointer (some ⟨W.heap.size, 0, none⟩)] 25)) 9 #[.string (strL s)]
      have hbW : Below W.heap.size W (((W.alloc (.cells #[.slice none 0 0] 45)).alloc (.cells #[.pointer (some ⟨W.heap.size, 0, none⟩)] 25)).alloc (.cells #[.string (strL s)] 9)) := (((Below.refl _ W).alloc (Nat.le_refl _) _).alloc (by simp) _).alloc (by simp; omega) _
      have hszW : (((W.alloc (.cells #[.slice none 0 0] 45)).alloc (.cells #[.pointer (some ⟨W.heap.size, 0, none⟩)] 25)).alloc (.cells #[.string (strL s)] 9)).heap.size = W.heap.size + 1 + 1 + 1 := by simp
      simp only [World.size_alloc] at bp0 bc0
      have h00 := C0.out.belowHere hbW
      have h01 := C1.out.belowHere hbW
      have hbel0 := HBel.out.trans (hbW.mono (by omega))
      have hd0 := (hbW.block D1 hDW).trans HK.out
      clear hbW k0 k1 k2 f0 f1 C0 C1 HBel HK
      generalize ((W.alloc (.cells #[.slice none 0 0] 45)).alloc (.cells #[.pointer (some ⟨W.heap.size, 0, none⟩)] 25)).alloc (.cells #[.string (strL s)] 9) = W0 at *
      obtain ⟨A, hA⟩ : ∃ A, A = W.heap.size := ⟨_, rfl⟩
      rw [← hA] at ba0 bp0 bc0 hszW hDW ⊢
      have hHD : w.heap.size + 1 < D1 := by omega
      have hDA : D1 < A := by omega
      clear hA hDW
      have hit := parts_iter s (A + 1 + 1) w.heap.size W0 (by omega) (bc0.cellv (i := 0) rfl) (bc0.frozen 0)
      refine wp_named fun T hT => ?_
      refine wpIn_wide.1 (range_law (gf := 37) (lb := #[.pointer (some ⟨A + 1 + 1, 0, none⟩)]) (encs := partEnc) (xs := Pth.parts s) (c := A + 1 + 1) (n0 := w.heap.size) (w0 := W0) (by rw [hT]; rfl) (enters_of Try.func37 (by kernel_rfl) rfl) hit (Below.refl _ _) (by omega) (by omega) (fun _ => rfl)
        (NewI w.heap.size D1 A w) (fun k _ => NewX w.heap.size D1 w (Glb.prts (Pth.parts s) = none) k) (fun pre => by rw [hszW]; exact newI_keeps _ _ _ w (Nat.le_refl _) hDA hHD pre) (fun k pre => by rw [hszW]; exact newX_keeps _ _ _ w (Nat.le_refl _) hDA hHD _ k)
        ⟨⟨.slice none 0 0, [], [], rfl, rfl, ba0, PatC.start _ _⟩, bp0, h00, h01, hbel0, by omega, hd0, by simp⟩ (cntAct2 T) ?assign2 ?body2 ?done2 ?stop2)
      case assign2 =>
        intro lp x W K hK
        have HKk := Lib.hid hK
        clear hK hit
        unfold cntAct2 at HKk
        subst hT
        simp only [List.setIfInBounds_toArray, List.set_cons_succ, List.set_cons_zero] at HKk
        unfold partEnc
        gi_wp2
        exact HKk.out
      case body2 =>
        rintro lp pre x W ⟨⟨v, xs, ps, hps, hpl, ba, hpc⟩, bp, b0, b1, hbel, hsW, hd1, hp16⟩ hpre
        unfold cntAct2
        subst hT
        simp only [List.setIfInBounds_toArray, List.set_cons_succ, List.set_cons_zero]
        obtain ⟨a, c, rfl, _⟩ := hpc.1.form
        have hp15 : pre.length < 16 := by
          have h3 := hpre.length_le
          rw [List.length_append, List.length_singleton] at h3
          have := HPl.out
          omega
        have hxl := hpc.2.1
        have hxm : x.length ≤ 255 := by
          have := Pth.parts_mem' (hpre.subset (by simp : x ∈ pre ++ [x]))
          omega
        have HPs := Lib.hid hps
        have HPSl := Lib.hid hpl
        have BA := Lib.hid ba
        have BP := Lib.hid bp
        have B0 := Lib.hid b0
        have B1 := Lib.hid b1
        have HC := Lib.hid hpc
        have HB := Lib.hid hbel
        have HD := Lib.hid hd1
        have HPre := Lib.hid hpre
        have hxx : xs.length ≤ 1000 := by omega
        clear hps hpl ba bp b0 b1 hpc hbel hd1 hpre hit hp16 hxl
        by_cases hx2 : x = [42, 42]
        · subst hx2
          have HP1 := Lib.hid (show Glb.prt1 [42, 42] = some ⟨true, []⟩ from rfl)
          have hbd : Below W.heap.size W W.drew := ⟨rfl, rfl, rfl, Nat.le_refl _, fun _ _ => rfl⟩
          have BAd := Lib.hid (BA.out.belowHere hbd)
          have BPd := Lib.hid (BP.out.belowHere hbd)
          have B0d := Lib.hid (B0.out.belowHere hbd)
          have B1d := Lib.hid (B1.out.belowHere hbd)
          have HCd := Lib.hid (HC.out.on hbd (by omega))
          have HBd := Lib.hid (HB.out.trans (hbd.mono (show w.heap.size ≤ W.heap.size from HB.out.size)))
          have hszd : A + 1 + 1 + 1 ≤ W.drew.heap.size := hsW
          have HDd := Lib.hid (show W.drew.heap[D1]? = some (.deferred (some [])) from HD.out)
          have HNe := Lib.hid (fun k (hk : k < A + 1 + 1 + 1) => (fun e => (HCd.out.1.notRow (r := k) (.inl hk)) e.symm : some k ≠ (Value.slice a xs.length c).ownBlock))
          have hbase : A + 1 + 1 + 1 ≤ W.drew.heap.size := hsW
          have HPt := Lib.hid (show PtS (Sc (A + 1 + 1 + 1) (.slice a xs.length c) W.drew) W.drew ⟨true, none, 0, 0⟩ ⟨true, []⟩ from ⟨rfl, MarksS.none_ _ _, by show 0 ≤ 1000; omega⟩)
          clear hbd
          gi_wp2_with fail
          refine region_round (S := (fun W' => Blk W' (A + 1) 25 #[.pointer (some ⟨A, 0, none⟩)])) (by kernel_rfl) (by kernel_rfl) BPd.out (fun hS0 => ?_)
          refine takeV 0 (v := (.pointer (some ⟨A, 0, none⟩))) rfl (by kernel_rfl) (by kernel_rfl) (by kernel_rfl) (fun _ _ _ h => h) (by rfl) (fun W hSw => ?_) (by assumption) ?_
          · have c9 := hSw.cellv (i := 0) rfl
            go_simp
          try simp only [layR]
          refine takeV 1 (v := (.pointer (some ⟨A, 0, none⟩))) rfl (by kernel_rfl) (by kernel_rfl) (by kernel_rfl) (fun _ _ _ h => h) (by rfl) (fun W hSw => ?_) (by assumption) ?_
          · have c9 := hSw.cellv (i := 0) rfl
            go_simp
          try simp only [layR]
          refine takeV 2 (v := (.pointer (some ⟨A, 0, none⟩))) rfl (by kernel_rfl) (by kernel_rfl) (by kernel_rfl) (fun _ _ _ h => h) (by rfl) (fun W hSw => ?_) (by assumption) ?_
          · skip
            go_simp
          try simp only [layR]
          refine takeV 3 (v := (.pointer (some ⟨A, 0, none⟩))) rfl (by kernel_rfl) (by kernel_rfl) (by kernel_rfl) (fun _ _ _ h => h) (by rfl) (fun W hSw => ?_) (by assumption) ?_
          · skip
            go_simp
          try simp only [layR]
          refine takeV 5 (v := (.agg #[.bool true, .slice none 0 0])) rfl (by kernel_rfl) (by kernel_rfl) (by kernel_rfl) (fun _ _ _ h => h) (by rfl) (fun W hSw => ?_) (by assumption) ?_
          · skip
            go_simp
          try simp only [layR]
          have hld : ∀ u : World, u.cell? ⟨A, 0, none⟩ = some (.slice a xs.length c) → (Instr.loadAt 43 (.pointer (some ⟨A, 0, none⟩))).run Try.prog u = .ok (.slice a xs.length c) u := fun u hu => by go_simp
          refine wpAnyH_ready (rs := [4, 6]) (by kernel_rfl) (by simp) ?_
          refine AllReadyH.cons rfl (fun K' hK => ?_) (AllReadyH.cons rfl (fun K' hK => ?_) AllReadyH.nil)
          · refine step_exec rfl (exec_load _ _ rfl (hld _ (BAd.out.cellv (i := 0) rfl))) ?_
            refine hK.out _ _ hS0 (fun hS1 => ?_)
            try simp only [layR]
            refine wpAnyH_ready (rs := [6]) (by kernel_rfl) (by simp) ?_
            refine AllReadyH.cons rfl (fun K' hK => ?_) AllReadyH.nil
            go_simp
            refine hK.out _ _ (hS1.alloc _) (fun hS2 => ?_)
            try simp only [layR]
            refine wpAnyH_ready (rs := [7]) (by kernel_rfl) (by simp) ?_
            refine AllReadyH.cons rfl (fun K' hK => ?_) AllReadyH.nil
            refine step_litPart rfl _ _ rfl (A + 1 + 1 + 1) _ xs rfl HCd.out.1 ⟨true, none, 0, 0⟩ _ rfl rfl rfl (by omega) hbase ?_
            intro v4 w4 HO4 HG4 HV4
            obtain ⟨a4, c4, rfl, _⟩ := HO4.out.formN (n := xs.length + 1) (by simp)
            have hfin := NewI.push (t := [42, 42]) (p := ⟨true, []⟩) hHD hDA HPs.out HPSl.out BAd.out HCd.out BPd.out B0d.out B1d.out HBd.out hszd HDd.out (by omega) HP1.out HPt.out HO4.out HG4.out HV4.out
            have ha4 := BAd.out.grown HG4.out (HNe.out A (by omega))
            have q0 := ha4.cellv (i := 0) rfl
            have q1 := ha4.frozen 0
            have HF := Lib.hid hfin
            clear hfin ha4
            refine hK.out _ _ (BPd.out.grown HG4.out (HNe.out (A + 1) (by omega))) (fun hS3 => ?_)
            try simp only [layR]
            refine takeV 8 (v := (.pointer (some ⟨A, 0, none⟩))) rfl (by kernel_rfl) (by kernel_rfl) (by kernel_rfl) (fun _ _ _ h => h) (by rfl) (fun W hSw => ?_) (by assumption) ?_
            · skip
              go_simp
            try simp only
            refine takeV 9 (v := (.pointer (some ⟨A, 0, none⟩))) rfl (by kernel_rfl) (by kernel_rfl) (by kernel_rfl) (fun _ _ _ h => h) (by rfl) (fun W hSw => ?_) (by assumption) ?_
            · skip
              go_simp
            try simp only
            refine wpAnyH_ready (rs := [10]) (by kernel_rfl) (by simp) ?_
            refine AllReadyH.cons rfl (fun K' hK => ?_) AllReadyH.nil
            go_simp
            refine hK.out _ _ (hS3.far (p := ⟨A, 0, none⟩) (by simp) _) (fun hS4 => ?_)
            try simp only [layR]
            refine wpAnyH_done (by kernel_rfl) ?_ _
            refine Calm.normal ?_
            clear hS0 hS1 hS2 hS3 hS4 hld
            gi_wp2
            exact ⟨(show KeepsOthers W W.drew from KeepsOthers.of_grownBy (row := none) ⟨rfl, rfl, rfl, Nat.le_refl _, fun _ _ _ => rfl⟩ (fun j o e _ => by cases e)).trans HF.out.1, (show Below w.heap.size W W.drew from ⟨rfl, rfl, rfl, Nat.le_refl _, fun _ _ => rfl⟩).trans HF.out.2.1, HF.out.2.2.1, HF.out.2.2.2⟩
          · go_simp
            refine hK.out _ _ (hS0.alloc _) (fun hS1 => ?_)
            try simp only [layR]
            refine wpAnyH_ready (rs := [4]) (by kernel_rfl) (by simp) ?_
            refine AllReadyH.cons rfl (fun K' hK => ?_) AllReadyH.nil
            refine step_exec rfl (exec_load _ _ rfl (hld _ ((BAd.out.alloc _).cellv (i := 0) rfl))) ?_
            refine hK.out _ _ hS1 (fun hS2 => ?_)
            try simp only [layR]
            refine wpAnyH_ready (rs := [7]) (by kernel_rfl) (by simp) ?_
            refine AllReadyH.cons rfl (fun K' hK => ?_) AllReadyH.nil
            refine step_litPart rfl _ _ rfl (A + 1 + 1 + 1) _ xs rfl HCd.out.1 ⟨true, none, 0, 0⟩ _ rfl rfl rfl (by omega) hbase ?_
            intro v4 w4 HO4 HG4 HV4
            obtain ⟨a4, c4, rfl, _⟩ := HO4.out.formN (n := xs.length + 1) (by simp)
            have hfin := NewI.push (t := [42, 42]) (p := ⟨true, []⟩) hHD hDA HPs.out HPSl.out BAd.out HCd.out BPd.out B0d.out B1d.out HBd.out hszd HDd.out (by omega) HP1.out HPt.out HO4.out HG4.out HV4.out
            have ha4 := BAd.out.grown HG4.out (HNe.out A (by omega))
            have q0 := ha4.cellv (i := 0) rfl
            have q1 := ha4.frozen 0
            have HF := Lib.hid hfin
            clear hfin ha4
            refine hK.out _ _ (BPd.out.grown HG4.out (HNe.out (A + 1) (by omega))) (fun hS3 => ?_)
            try simp only [layR]
            refine takeV 8 (v := (.pointer (some ⟨A, 0, none⟩))) rfl (by kernel_rfl) (by kernel_rfl) (by kernel_rfl) (fun _ _ _ h => h) (by rfl) (fun W hSw => ?_) (by assumption) ?_
            · skip
              go_simp
            try simp only
            refine takeV 9 (v := (.pointer (some ⟨A, 0, none⟩))) rfl (by kernel_rfl) (by kernel_rfl) (by kernel_rfl) (fun _ _ _ h => h) (by rfl) (fun W hSw => ?_) (by assumption) ?_
            · skip
              go_simp
            try simp only
            refine wpAnyH_ready (rs := [10]) (by kernel_rfl) (by simp) ?_
            refine AllReadyH.cons rfl (fun K' hK => ?_) AllReadyH.nil
            go_simp
            refine hK.out _ _ (hS3.far (p := ⟨A, 0, none⟩) (by simp) _) (fun hS4 => ?_)
            try simp only [layR]
            refine wpAnyH_done (by kernel_rfl) ?_ _
            refine Calm.normal ?_
            clear hS0 hS1 hS2 hS3 hS4 hld
            gi_wp2
            exact ⟨(show KeepsOthers W W.drew from KeepsOthers.of_grownBy (row := none) ⟨rfl, rfl, rfl, Nat.le_refl _, fun _ _ _ => rfl⟩ (fun j o e _ => by cases e)).trans HF.out.1, (show Below w.heap.size W W.drew from ⟨rfl, rfl, rfl, Nat.le_refl _, fun _ _ => rfl⟩).trans HF.out.2.1, HF.out.2.2.1, HF.out.2.2.2⟩
        · have gx : (x == [42, 42]) = false := by simpa using hx2
          have hmc := Lib.hid (CallsIn.inRound lp (callsIn_wide (n := 6) |>.2 (marks_calls x W (by omega))))
          have hp1 : Glb.prt1 x = (Glb.marksOf x).map (⟨false, ·⟩) := if_neg hx2
          cases hm : Glb.marksOf x with
          | none =>
            rw [hm] at hp1 hmc
            have HNo := Lib.hid (show Glb.prts (Pth.parts s) = none by
              obtain ⟨rest, hr⟩ := HPre.out
              rw [← hr]
              exact Glb.prts_bad hp1)
            clear hp1 hm hx2
            gi_wp2_with (refine ⟨trivial, ?_⟩; gi_at_call 26; refine hmc.out.mono ?_; rintro e w2 ⟨a7, n7, c7, rfl, _, hb7⟩; have r0 := (B0.out.belowHere hb7).frozen 0; have r1 := (B1.out.belowHere hb7).frozen 0; have q0 := (B0.out.belowHere hb7).cellv (i := 0) rfl; have q1 := (B1.out.belowHere hb7).cellv (i := 0) rfl; have HB7 := Lib.hid hb7; clear hb7)
            have hko : KeepsOthers W w2 := KeepsOthers.of_grownBy (row := none) ⟨HB7.out.os, HB7.out.tape, HB7.out.output, HB7.out.size, fun k hk _ => HB7.out.block k hk⟩ (fun j o e _ => by cases e)
            have hHH := HB.out.size
            refine ⟨(hko.trans (others_setCell _ _ _ _)).trans (others_setCell _ _ _ _), ((B0.out.belowHere HB7.out).set 0 _).far (by simp) _, ((B1.out.belowHere HB7.out).far (by simp) _).set 0 _, ((HB.out.trans (HB7.out.mono hHH)).setCell (p := ⟨w.heap.size, 0, none⟩) (Nat.le_refl _) _).setCell (p := ⟨w.heap.size + 1, 0, none⟩) (by simp) _, ?_, rfl, HNo.out⟩
            rw [heap_setCell_other _ _ _ _ (by simp; omega), heap_setCell_other _ _ _ _ (by simp; omega)]
            exact (HB7.out.block D1 (by omega)).trans HD.out
          | some gs =>
            rw [hm] at hp1 hmc
            have HP1 := Lib.hid (show Glb.prt1 x = some ⟨false, gs⟩ from hp1)
            have hgl : gs.length ≤ 255 := by
              have h7 : gs.length ≤ x.length := by
                unfold Glb.marksOf at hm
                split at hm
                · cases hm
                · exact Glb.mks_len x gs hm
              omega
            clear hp1 hm hx2
            gi_wp2_with (refine ⟨trivial, ?_⟩; gi_at_call 26; refine hmc.out.mono ?_; rintro e w2 ⟨a7, n7, c7, rfl, hms7, hb7⟩; have HMs7 := Lib.hid hms7; have HB7 := Lib.hid hb7; clear hb7 hms7)
            have hko : KeepsOthers W w2 := KeepsOthers.of_grownBy (row := none) ⟨HB7.out.os, HB7.out.tape, HB7.out.output, HB7.out.size, fun k hk _ => HB7.out.block k hk⟩ (fun j o e _ => by cases e)
            have HKo := Lib.hid hko
            have hs7 := HB7.out.size
            have hHH := HB.out.size
            have HBw := Lib.hid (HB.out.trans (HB7.out.mono hHH))
            have HBx := Lib.hid (HB7.out.mono hHH)
            have HCx := Lib.hid (HB7.out.block (A + 1 + 1) (by omega))
            have HOw := Lib.hid (fun k e => (HC.out.1.blockLt k e).2)
            have BA := Lib.hid (BA.out.belowHere HB7.out)
            have BP := Lib.hid (BP.out.belowHere HB7.out)
            have B0 := Lib.hid (B0.out.belowHere HB7.out)
            have B1 := Lib.hid (B1.out.belowHere HB7.out)
            have HC := Lib.hid (HC.out.on HB7.out (by omega))
            have HD := Lib.hid ((HB7.out.block D1 (by omega)).trans HD.out)
            have HB := Lib.hid HBw.out
            have hsW0 := hsW
            have hsW : A + 1 + 1 + 1 ≤ w2.heap.size := by omega
            have hn7 : n7 = gs.length := HMs7.out.len.symm
            have hbd : Below w2.heap.size w2 w2.drew := ⟨rfl, rfl, rfl, Nat.le_refl _, fun _ _ => rfl⟩
            have BAd := Lib.hid (BA.out.belowHere hbd)
            have BPd := Lib.hid (BP.out.belowHere hbd)
            have B0d := Lib.hid (B0.out.belowHere hbd)
            have B1d := Lib.hid (B1.out.belowHere hbd)
            have HCd := Lib.hid (HC.out.on hbd (by omega))
            have HBd := Lib.hid (HB.out.trans (hbd.mono (show w.heap.size ≤ w2.heap.size from HB.out.size)))
            have hszd : A + 1 + 1 + 1 ≤ w2.drew.heap.size := hsW
            have HDd := Lib.hid (show w2.drew.heap[D1]? = some (.deferred (some [])) from HD.out)
            have HNe := Lib.hid (fun k (hk : k < A + 1 + 1 + 1) => (fun e => (HCd.out.1.notRow (r := k) (.inl hk)) e.symm : some k ≠ (Value.slice a xs.length c).ownBlock))
            have hbase : A + 1 + 1 + 1 ≤ w2.drew.heap.size := hsW
            have HPt := Lib.hid (show PtS (Sc (A + 1 + 1 + 1) (.slice a xs.length c) w2.drew) w2.drew ⟨false, a7, n7, c7⟩ ⟨false, gs⟩ from
              ⟨rfl, ((HMs7.out.cells).keep (w' := w2.drew) (fun _ _ _ => rfl)).mono fun b hS => ⟨by have := hS.1.1; omega, fun e => by have := HOw.out b e; have := hS.1.1; omega, hS.2⟩, by show n7 ≤ 1000; omega⟩)
            clear hbd hn7 hko
            gi_wp2_with fail
            refine region_round (S := (fun W' => Blk W' (A + 1) 25 #[.pointer (some ⟨A, 0, none⟩)])) (by kernel_rfl) (by kernel_rfl) BPd.out (fun hS0 => ?_)
            refine takeV 0 (v := (.pointer (some ⟨A, 0, none⟩))) rfl (by kernel_rfl) (by kernel_rfl) (by kernel_rfl) (fun _ _ _ h => h) (by rfl) (fun W hSw => ?_) (by assumption) ?_
            · have c9 := hSw.cellv (i := 0) rfl
              go_simp
            try simp only [layR]
            refine takeV 1 (v := (.pointer (some ⟨A, 0, none⟩))) rfl (by kernel_rfl) (by kernel_rfl) (by kernel_rfl) (fun _ _ _ h => h) (by rfl) (fun W hSw => ?_) (by assumption) ?_
            · have c9 := hSw.cellv (i := 0) rfl
              go_simp
            try simp only [layR]
            refine takeV 2 (v := (.pointer (some ⟨A, 0, none⟩))) rfl (by kernel_rfl) (by kernel_rfl) (by kernel_rfl) (fun _ _ _ h => h) (by rfl) (fun W hSw => ?_) (by assumption) ?_
            · skip
              go_simp
            try simp only [layR]
            refine takeV 3 (v := (.pointer (some ⟨A, 0, none⟩))) rfl (by kernel_rfl) (by kernel_rfl) (by kernel_rfl) (fun _ _ _ h => h) (by rfl) (fun W hSw => ?_) (by assumption) ?_
            · skip
              go_simp
            try simp only [layR]
            refine takeV 5 (v := (.slice a7 n7 c7)) rfl (by kernel_rfl) (by kernel_rfl) (by kernel_rfl) (fun _ _ _ h => h) (by rfl) (fun _ _ => rfl) (by assumption) ?_
            try simp only [layR]
            refine takeV 6 (v := (.agg #[.bool false, .slice a7 n7 c7])) rfl (by kernel_rfl) (by kernel_rfl) (by kernel_rfl) (fun _ _ _ h => h) (by rfl) (fun W hSw => ?_) (by assumption) ?_
            · skip
              go_simp
            try simp only [layR]
            have hld : ∀ u : World, u.cell? ⟨A, 0, none⟩ = some (.slice a xs.length c) → (Instr.loadAt 43 (.pointer (some ⟨A, 0, none⟩))).run Try.prog u = .ok (.slice a xs.length c) u := fun u hu => by go_simp
            refine wpAnyH_ready (rs := [4, 7]) (by kernel_rfl) (by simp) ?_
            refine AllReadyH.cons rfl (fun K' hK => ?_) (AllReadyH.cons rfl (fun K' hK => ?_) AllReadyH.nil)
            · refine step_exec rfl (exec_load _ _ rfl (hld _ (BAd.out.cellv (i := 0) rfl))) ?_
              refine hK.out _ _ hS0 (fun hS1 => ?_)
              try simp only [layR]
              refine wpAnyH_ready (rs := [7]) (by kernel_rfl) (by simp) ?_
              refine AllReadyH.cons rfl (fun K' hK => ?_) AllReadyH.nil
              go_simp
              refine hK.out _ _ (hS1.alloc _) (fun hS2 => ?_)
              try simp only [layR]
              refine wpAnyH_ready (rs := [8]) (by kernel_rfl) (by simp) ?_
              refine AllReadyH.cons rfl (fun K' hK => ?_) AllReadyH.nil
              refine step_litPart rfl _ _ rfl (A + 1 + 1 + 1) _ xs rfl HCd.out.1 ⟨false, a7, n7, c7⟩ _ rfl rfl rfl (by omega) hbase ?_
              intro v4 w4 HO4 HG4 HV4
              obtain ⟨a4, c4, rfl, _⟩ := HO4.out.formN (n := xs.length + 1) (by simp)
              have hfin := NewI.push (t := x) (p := ⟨false, gs⟩) hHD hDA HPs.out HPSl.out BAd.out HCd.out BPd.out B0d.out B1d.out HBd.out hszd HDd.out (by omega) HP1.out HPt.out HO4.out HG4.out HV4.out
              have ha4 := BAd.out.grown HG4.out (HNe.out A (by omega))
              have q0 := ha4.cellv (i := 0) rfl
              have q1 := ha4.frozen 0
              have HF := Lib.hid hfin
              clear hfin ha4
              refine hK.out _ _ (BPd.out.grown HG4.out (HNe.out (A + 1) (by omega))) (fun hS3 => ?_)
              try simp only [layR]
              refine takeV 9 (v := (.pointer (some ⟨A, 0, none⟩))) rfl (by kernel_rfl) (by kernel_rfl) (by kernel_rfl) (fun _ _ _ h => h) (by rfl) (fun W hSw => ?_) (by assumption) ?_
              · skip
                go_simp
              try simp only
              refine takeV 10 (v := (.pointer (some ⟨A, 0, none⟩))) rfl (by kernel_rfl) (by kernel_rfl) (by kernel_rfl) (fun _ _ _ h => h) (by rfl) (fun W hSw => ?_) (by assumption) ?_
              · skip
                go_simp
              try simp only
              refine wpAnyH_ready (rs := [11]) (by kernel_rfl) (by simp) ?_
              refine AllReadyH.cons rfl (fun K' hK => ?_) AllReadyH.nil
              go_simp
              refine hK.out _ _ (hS3.far (p := ⟨A, 0, none⟩) (by simp) _) (fun hS4 => ?_)
              try simp only [layR]
              refine wpAnyH_done (by kernel_rfl) ?_ _
              refine Calm.normal ?_
              clear hS0 hS1 hS2 hS3 hS4 hld
              gi_wp2
              exact ⟨(HKo.out.trans (show KeepsOthers w2 w2.drew from KeepsOthers.of_grownBy (row := none) ⟨rfl, rfl, rfl, Nat.le_refl _, fun _ _ _ => rfl⟩ (fun j o e _ => by cases e))).trans HF.out.1, (HBx.out.trans (show Below w.heap.size w2 w2.drew from ⟨rfl, rfl, rfl, Nat.le_refl _, fun _ _ => rfl⟩)).trans HF.out.2.1, HF.out.2.2.1.trans HCx.out, HF.out.2.2.2⟩
            · go_simp
              refine hK.out _ _ (hS0.alloc _) (fun hS1 => ?_)
              try simp only [layR]
              refine wpAnyH_ready (rs := [4]) (by kernel_rfl) (by simp) ?_
              refine AllReadyH.cons rfl (fun K' hK => ?_) AllReadyH.nil
              refine step_exec rfl (exec_load _ _ rfl (hld _ ((BAd.out.alloc _).cellv (i := 0) rfl))) ?_
              refine hK.out _ _ hS1 (fun hS2 => ?_)
              try simp only [layR]
              refine wpAnyH_ready (rs := [8]) (by kernel_rfl) (by simp) ?_
              refine AllReadyH.cons rfl (fun K' hK => ?_) AllReadyH.nil
              refine step_litPart rfl _ _ rfl (A + 1 + 1 + 1) _ xs rfl HCd.out.1 ⟨false, a7, n7, c7⟩ _ rfl rfl rfl (by omega) hbase ?_
              intro v4 w4 HO4 HG4 HV4
              obtain ⟨a4, c4, rfl, _⟩ := HO4.out.formN (n := xs.length + 1) (by simp)
              have hfin := NewI.push (t := x) (p := ⟨false, gs⟩) hHD hDA HPs.out HPSl.out BAd.out HCd.out BPd.out B0d.out B1d.out HBd.out hszd HDd.out (by omega) HP1.out HPt.out HO4.out HG4.out HV4.out
              have ha4 := BAd.out.grown HG4.out (HNe.out A (by omega))
              have q0 := ha4.cellv (i := 0) rfl
              have q1 := ha4.frozen 0
              have HF := Lib.hid hfin
              clear hfin ha4
              refine hK.out _ _ (BPd.out.grown HG4.out (HNe.out (A + 1) (by omega))) (fun hS3 => ?_)
              try simp only [layR]
              refine takeV 9 (v := (.pointer (some ⟨A, 0, none⟩))) rfl (by kernel_rfl) (by kernel_rfl) (by kernel_rfl) (fun _ _ _ h => h) (by rfl) (fun W hSw => ?_) (by assumption) ?_
              · skip
                go_simp
              try simp only
              refine takeV 10 (v := (.pointer (some ⟨A, 0, none⟩))) rfl (by kernel_rfl) (by kernel_rfl) (by kernel_rfl) (fun _ _ _ h => h) (by rfl) (fun W hSw => ?_) (by assumption) ?_
              · skip
                go_simp
              try simp only
              refine wpAnyH_ready (rs := [11]) (by kernel_rfl) (by simp) ?_
              refine AllReadyH.cons rfl (fun K' hK => ?_) AllReadyH.nil
              go_simp
              refine hK.out _ _ (hS3.far (p := ⟨A, 0, none⟩) (by simp) _) (fun hS4 => ?_)
              try simp only [layR]
              refine wpAnyH_done (by kernel_rfl) ?_ _
              refine Calm.normal ?_
              clear hS0 hS1 hS2 hS3 hS4 hld
              gi_wp2
              exact ⟨(HKo.out.trans (show KeepsOthers w2 w2.drew from KeepsOthers.of_grownBy (row := none) ⟨rfl, rfl, rfl, Nat.le_refl _, fun _ _ _ => rfl⟩ (fun j o e _ => by cases e))).trans HF.out.1, (HBx.out.trans (show Below w.heap.size w2 w2.drew from ⟨rfl, rfl, rfl, Nat.le_refl _, fun _ _ => rfl⟩)).trans HF.out.2.1, HF.out.2.2.1.trans HCx.out, HF.out.2.2.2⟩
      case done2 =>
        rintro D2 W2 hD2 ⟨⟨v, xs, ps, hps, hpl, ba, hpc⟩, bp, b0, b1, hbel, hsW2, hd1, _⟩ hK2
        rw [hszW] at hD2
        have HR := Lib.hid (HGood2.out ps hps)
        obtain ⟨a, c, rfl, _⟩ := hpc.1.form
        have BA := Lib.hid ba
        have BP := Lib.hid bp
        have B0 := Lib.hid b0
        have B1 := Lib.hid b1
        have HC := Lib.hid hpc
        have HB := Lib.hid hbel
        have HD := Lib.hid hd1
        have HK := Lib.hid hK2
        have c1 := bp.cellv (i := 0) rfl
        have f0 := b0.frozen 0
        have f1 := b1.frozen 0
        have k0 := b0.cellv (i := 0) rfl
        have k1 := b1.cellv (i := 0) rfl
        have HPS := Lib.hid hpl
        clear ba bp b0 b1 hpc hbel hd1 hK2 hps hpl hit
        subst hT
        go_wp2_with fail
        have hK3 : ((W2.setCell ⟨w.heap.size, 0, none⟩ (.pointer (some ⟨A, 0, none⟩))).setCell ⟨w.heap.size + 1, 0, none⟩ (.int .i64 0)).heap[D2]? = some (.deferred (some [])) := by
          rw [heap_setCell_other _ _ _ _ (by simp; omega), heap_setCell_other _ _ _ _ (by simp; omega)]; exact HK.out
        have hK4 : ((W2.setCell ⟨w.heap.size, 0, none⟩ (.pointer (some ⟨A, 0, none⟩))).setCell ⟨w.heap.size + 1, 0, none⟩ (.int .i64 0)).heap[D1]? = some (.deferred (some [])) := by
          rw [heap_setCell_other _ _ _ _ (by simp; omega), heap_setCell_other _ _ _ _ (by simp; omega)]; exact HD.out
        have b5 := (B0.out.set 0 (.pointer (some ⟨A, 0, none⟩))).far (p := ⟨w.heap.size + 1, 0, none⟩) (by simp) (.int .i64 0)
        have b6 := (B1.out.far (p := ⟨w.heap.size, 0, none⟩) (by simp) (.pointer (some ⟨A, 0, none⟩))).set 0 (.int .i64 0)
        have b7 := (BA.out.far (p := ⟨w.heap.size, 0, none⟩) (by simp; omega) (.pointer (some ⟨A, 0, none⟩))).far (p := ⟨w.heap.size + 1, 0, none⟩) (by simp; omega) (.int .i64 0)
        have hc5 := (HC.out.keep (grown_setCell W2 w.heap.size 0 (.pointer (some ⟨A, 0, none⟩))) (.inl (by omega))).keep (grown_setCell _ (w.heap.size + 1) 0 (.int .i64 0)) (.inl (by omega))
        have hb5 := (HB.out.setCell (p := ⟨w.heap.size, 0, none⟩) (Nat.le_refl _) (.pointer (some ⟨A, 0, none⟩))).setCell (p := ⟨w.heap.size + 1, 0, none⟩) (by simp) (.int .i64 0)
        generalize (W2.setCell ⟨w.heap.size, 0, none⟩ (.pointer (some ⟨A, 0, none⟩))).setCell ⟨w.heap.size + 1, 0, none⟩ (.int .i64 0) = W3 at *
        have hK5 : (W3.putObj D2 (.deferred none)).heap[D1]? = some (.deferred (some [])) := (World.putObj_heap_other (by omega)).trans hK4
        refine ⟨by simp, .inl ⟨_, _, rfl, run_takeDeferred hK3, ⟨by simp, .inl ⟨_, _, rfl, run_takeDeferred hK5, ?_⟩⟩⟩⟩
        have z0 := ((b5.putOther (D := D2) (by omega) (.deferred none)).putOther (D := D1) (by omega) (.deferred none)).cellv (i := 0) rfl
        have z1 := ((b6.putOther (D := D2) (by omega) (.deferred none)).putOther (D := D1) (by omega) (.deferred none)).cellv (i := 0) rfl
        refine ⟨_, by simp [results, Try.results11, go_sem, z0, z1]; rfl, ?_⟩
        rw [HR.out]
        have hc6 := (hc5.keep (grownBy_putObj' W3 D2 (.deferred none)) (.inr ⟨_, hK3, rfl⟩)).keep (grownBy_putObj' _ D1 (.deferred none)) (.inl (by omega))
        exact ⟨(hb5.trans (below_turn _ (by omega))).trans (below_turn _ (by omega)), A, a, xs.length, c, rfl, hc6.pat ((b7.putOther (D := D2) (by omega) (.deferred none)).putOther (D := D1) (by omega) (.deferred none)) (by rw [HPS.out]; have := HPl.out; omega)⟩
      case stop2 =>
        rintro D2 k pre W2 hD2 _ ⟨b0, b1, hbel, hd1, rfl, hno⟩ hK2
        rw [hszW] at hD2
        have HR := Lib.hid (HBad2.out hno)
        have B0 := Lib.hid b0
        have B1 := Lib.hid b1
        have HB := Lib.hid hbel
        have hK5 : (W2.putObj D2 (.deferred none)).heap[D1]? = some (.deferred (some [])) := (World.putObj_heap_other (by omega)).trans hd1
        have HK := Lib.hid hK2
        have HK5 := Lib.hid hK5
        clear b0 b1 hbel hd1 hK2 hno hit hK5
        subst hT
        refine wpIn_wide.2 ?_
        go_wp2_with fail
        refine ⟨by simp, .inl ⟨_, _, rfl, run_takeDeferred HK.out, ⟨by simp, .inl ⟨_, _, rfl, run_takeDeferred HK5.out, ?_⟩⟩⟩⟩
        have z0 := ((B0.out.putOther (D := D2) (by omega) (.deferred none)).putOther (D := D1) (by omega) (.deferred none)).cellv (i := 0) rfl
        have z1 := ((B1.out.putOther (D := D2) (by omega) (.deferred none)).putOther (D := D1) (by omega) (.deferred none)).cellv (i := 0) rfl
        refine ⟨_, by simp [results, Try.results11, go_sem, z0, z1]; rfl, ?_⟩
        rw [HR.out]
        exact ⟨(HB.out.trans (below_turn _ (by omega))).trans (below_turn _ (by omega)), rfl⟩
  case stop =>
    rintro D k pre W hD _ h hK
    exact h.elim
end Go.Proofs.Ytlnjfnpoabcllaa
