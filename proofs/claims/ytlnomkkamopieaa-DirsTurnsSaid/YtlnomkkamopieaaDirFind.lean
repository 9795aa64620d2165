/-
  dirs.Find.
-/
import Derived.Test.YtlnomkkamopieaaDirAll
import Derived.Test.YtlnomkkamopieaaIter2
import Derived.WalkMore
import Derived.BigRegionIn
import Derived.Shelf.Abstract
namespace Go.Proofs.Ytlnomkkamopieaa
open Go.RowKit Go.Shelf

attribute [local go_sem] Oper.semAt_some

namespace Dir
def findIn (nm : List UInt8) : List (Nat × Ent) → Int × Int
  | [] => (-1, 0)
  | x :: t => if x.2.nm = nm then ((x.1 : Int), x.2.i) else findIn nm t
def findR (b nm : List UInt8) : Int × Int := findIn nm (ents b)
theorem findIn_none {nm : List UInt8} {l : List (Nat × Ent)} (h : ∀ y ∈ l, y.2.nm ≠ nm) : findIn nm l = (-1, 0) := by
  induction l with
  | nil => rfl
  | cons x t ih =>
    rw [findIn, if_neg (h x (by simp)), ih (fun y hy => h y (by simp [hy]))]
theorem findIn_some {nm : List UInt8} {pre l : List (Nat × Ent)} {x : Nat × Ent} (hp : (pre ++ [x]) <+: l) (h : ∀ y ∈ pre, y.2.nm ≠ nm) (hx : x.2.nm = nm) : findIn nm l = ((x.1 : Int), x.2.i) := by
  obtain ⟨t, rfl⟩ := hp
  induction pre with
  | nil => simp [findIn, hx]
  | cons y r ih =>
    rw [List.cons_append, List.cons_append, findIn, if_neg (h y (by simp))]
    exact ih (fun z hz => h z (by simp [hz]))
end Dir
def FindI (H : Nat) (w : World) (nm : List UInt8) (pre : List (Nat × Ent)) (W : World) : Prop :=
  Blk W H 9 #[.string (strL nm)] ∧ Blk W (H + 1) 3 #[.int .i64 0] ∧ Blk W (H + 2) 3 #[.int .i64 0] ∧ Below H w W ∧ H + 4 ≤ W.heap.size ∧ (∀ y ∈ pre, y.2.nm ≠ nm)
def FindX (H : Nat) (w : World) (r : Int × Int) (k : Code) (W : World) : Prop :=
  Blk W (H + 1) 3 #[.int .i64 r.1] ∧ Blk W (H + 2) 3 #[.int .i64 r.2] ∧ Below H w W ∧ k = .ret
theorem findI_keeps (H : Nat) (w : World) (hw : H ≤ w.heap.size) (nm : List UInt8) (pre : List (Nat × Ent)) : Keeps2 (H + 3) (H + 4) (FindI H w nm pre) :=
  (Blk.keeps2 (by omega)).and ((Blk.keeps2 (by omega)).and ((Blk.keeps2 (by omega)).and ((below_keeps2 (by omega) (by omega) hw).and (size_keeps2.and (Keeps2.pure _)))))
theorem findX_keeps (H : Nat) (w : World) (hw : H ≤ w.heap.size) (r : Int × Int) (k : Code) : Keeps2 (H + 3) (H + 4) (FindX H w r k) :=
  (Blk.keeps2 (by omega)).and ((Blk.keeps2 (by omega)).and ((below_keeps2 (by omega) (by omega) hw).and (Keeps2.pure _)))
theorem allFn (a : Option Addr) (n c : Nat) (w : World) :
    Calls Try.prog 37 #[.slice a n c] w fun e w' => e = .returned (.func (.func 40) #[] #[.pointer (some ⟨w.heap.size, 0, none⟩)]) ∧ w.alloc (.cells #[.slice a n c] 24) = w' := by
  go_enter Try.func37, Try.ntmps37
  go_wp2
  go_ret
  exact ⟨rfl, rfl⟩
def findAct (a : Option Addr) (n c H : Nat) (nm : List UInt8) (x : Nat × Ent) (g : Nat) : Act :=
  { tmps := #[.slice a n c, .string (strL nm), undef, .pointer (some ⟨H, 0, none⟩), .pointer (some ⟨H + 1, 0, none⟩), .pointer (some ⟨H + 2, 0, none⟩), .int .i64 (x.1 : Int), .pointer (some ⟨g, 0, none⟩), .slice a n c, .func (.func 40) #[] #[.pointer (some ⟨H + 3, 0, none⟩)], .int .i64 (x.1 : Int), .agg #[.int .i64 x.2.i, .string (strL x.2.nm)], undef, undef, undef, undef, undef, undef, undef], defers := [] }
set_option maxRecDepth 100000 in
set_option maxHeartbeats 4000000 in
theorem find_calls (a : Option Addr) (n c : Nat) (b nm : List UInt8) (w : World) (hx : Bytes w w.heap.size a n b) (hnc : n ≤ c) :
    Calls Try.prog 23 #[.slice a n c, .string (strL nm)] w fun e w' => e = .returned (.tuple #[.int .i64 (Dir.findR b nm).1, .int .i64 (Dir.findR b nm).2]) ∧ Below w.heap.size w w' := by
  refine callsIn_wide (n := 9) |>.1 ?_
  refine callsIn_of_wp_marks Try.func23 rfl trivial ?_ rfl
  refine wpIn_wide.2 ?_
  simp only [Try.ntmps23, List.size_toArray, List.length_cons, List.length_nil, Nat.reduceAdd, Nat.reduceSub, Array.replicate_succ, Array.replicate_zero, List.push_toArray, List.append_toArray, List.nil_append, List.cons_append]
  go_wp2_with fail
  refine (allFn a n c _).mono ?_
  rintro e w' ⟨rfl, rfl⟩
  go_wp2
  rw [show w.heap.size + 1 + 1 + 1 = w.heap.size + 3 from rfl, show w.heap.size + 1 + 1 = w.heap.size + 2 from rfl]
  have b3 := (((Blk.new w 9 #[.string (strL nm)]).alloc (.cells #[.int .i64 0] 3)).alloc (.cells #[.int .i64 0] 3)).alloc (.cells #[.slice a n c] 24)
  have b4 := ((Blk.new (w.alloc (.cells #[.string (strL nm)] 9)) 3 #[.int .i64 0]).alloc (.cells #[.int .i64 0] 3)).alloc (.cells #[.slice a n c] 24)
  have b5 := (Blk.new ((w.alloc (.cells #[.string (strL nm)] 9)).alloc (.cells #[.int .i64 0] 3)) 3 #[.int .i64 0]).alloc (.cells #[.slice a n c] 24)
  have b6 := Blk.new (((w.alloc (.cells #[.string (strL nm)] 9)).alloc (.cells #[.int .i64 0] 3)).alloc (.cells #[.int .i64 0] 3)) 24 #[.slice a n c]
  have hb0 : Below w.heap.size w ((((w.alloc (.cells #[.string (strL nm)] 9)).alloc (.cells #[.int .i64 0] 3)).alloc (.cells #[.int .i64 0] 3)).alloc (.cells #[.slice a n c] 24)) := ((((Below.refl _ w).alloc (Nat.le_refl _) _).alloc (by simp) _).alloc (by simp; omega) _).alloc (by simp; omega) _
  have hsz : ((((w.alloc (.cells #[.string (strL nm)] 9)).alloc (.cells #[.int .i64 0] 3)).alloc (.cells #[.int .i64 0] 3)).alloc (.cells #[.slice a n c] 24)).heap.size = w.heap.size + 4 := by simp
  simp only [World.size_alloc] at b4 b5 b6
  rw [show w.heap.size + 1 + 1 = w.heap.size + 2 from rfl] at b5
  rw [show w.heap.size + 1 + 1 + 1 = w.heap.size + 3 from rfl] at b6
  generalize (((w.alloc (.cells #[.string (strL nm)] 9)).alloc (.cells #[.int .i64 0] 3)).alloc (.cells #[.int .i64 0] 3)).alloc (.cells #[.slice a n c] 24) = W0 at *
  have hit := all_iter a n c b (w.heap.size + 3) w.heap.size W0 hnc (hx.below hb0) b6 (by omega)
  have HNE := Lib.hid (fun pre x (h : (pre ++ [x]) <+: Dir.ents b) (h1 : ∀ y ∈ pre, y.2.nm ≠ nm) (h2 : x.2.nm = nm) => (show Dir.findR b nm = _ from Dir.findIn_some h h1 h2))
  have HNO := Lib.hid (fun (h1 : ∀ y ∈ Dir.ents b, y.2.nm ≠ nm) => (show Dir.findR b nm = _ from Dir.findIn_none h1))
  refine wpIn_wide.1 (range_law2 (gf := 40) (lb := #[.pointer (some ⟨w.heap.size + 3, 0, none⟩)]) (encs := entEnc) (xs := Dir.ents b) (c := w.heap.size + 3) (n0 := w.heap.size) (w0 := W0) rfl (enters_of Try.func40 (by kernel_rfl) rfl) hit (Below.refl _ _) (by omega) (by omega) (fun _ => rfl)
    (FindI w.heap.size w nm) (fun k _ => FindX w.heap.size w (Dir.findR b nm) k) (fun pre => by rw [hsz]; exact findI_keeps _ w (Nat.le_refl _) nm pre) (fun k pre => by rw [hsz]; exact findX_keeps _ w (Nat.le_refl _) _ k)
    ⟨b3, b4, b5, hb0, by omega, by simp⟩
    (fun pre x a1 W => ∃ g, a1 = findAct a n c w.heap.size nm x g ∧ w.heap.size + 4 ≤ g ∧ Blk W g 23 #[.int .i64 x.2.i, .string (strL x.2.nm)] ∧ FindI w.heap.size w nm pre W) ?keeps ?assign ?body ?done ?stop)
  case keeps =>
    intro pre x a1
    rw [hsz]
    refine Keeps2.ex fun g => ?_
    by_cases hg : w.heap.size + 4 ≤ g
    · exact (Keeps2.pure _).and ((Keeps2.pure _).and ((Blk.keeps2 (by omega)).and (findI_keeps _ w (Nat.le_refl _) nm pre)))
    · intro W W' r h; exact absurd h.2.1 hg
  case assign =>
    intro lp pre x W K hi hpre hK
    unfold entEnc
    obtain ⟨i3, i4, i5, i6, i7, i8⟩ := id hi
    gi_wp2
    refine hK _ _ (KeepsOthers.alloc _ _) ((Below.refl w.heap.size W).alloc (by omega) _) (Below.heap_alloc _ _ _ (by omega)) (by simp) ⟨W.heap.size, rfl, i7, Blk.new _ _ _, i3.alloc _, i4.alloc _, i5.alloc _, i6.alloc (by omega) _, by simp; omega, i8⟩
  case body =>
    rintro lp pre x a1 W ⟨g, rfl, hg, bg, b3, b4, b5, hbel, hsW, hn⟩ hpre
    unfold findAct
    obtain ⟨k, i, xm⟩ := x
    have e0 := bg.cellv (i := 0) rfl
    have e1 := bg.cellv (i := 1) rfl
    have c3 := b3.cellv (i := 0) rfl
    have c4 := b4.cellv (i := 0) rfl
    have c5 := b5.cellv (i := 0) rfl
    have f4 := b4.frozen 0
    have f5 := b5.frozen 0
    have HB := Lib.hid hbel
    have HN := Lib.hid hn
    have B3 := Lib.hid b3
    have B4 := Lib.hid b4
    have B5 := Lib.hid b5
    by_cases he : xm = nm
    · have hfr := Lib.hid (HNE.out pre _ hpre hn he)
      subst he
      have g1 : (xm == xm) = true := by simp
      clear hn hbel b3 b4 b5 bg
      gi_wp2
      gi_region
      all_goals
        gi_wp2
        have ko := (others_setCell W (w.heap.size + 1) 0 (.int .i64 (k : Int))).trans (others_setCell _ (w.heap.size + 2) 0 (.int .i64 i))
        refine ⟨⟨ko.size, ko.same⟩, ?_, ?_, ((HB.out.setCell (p := ⟨w.heap.size + 1, 0, none⟩) (by simp) _).setCell (p := ⟨w.heap.size + 2, 0, none⟩) (by simp) _).drew, rfl⟩
        · rw [hfr.out]; exact ((B4.out.set 0 _).far (by simp) _).drew
        · rw [hfr.out]; exact ((B5.out.far (by simp) _).set 0 _).drew
    · have g1 : (xm == nm) = false := by simpa using he
      have hn2 := Lib.hid (show ∀ y ∈ pre ++ [(k, (⟨i, xm⟩ : Ent))], y.2.nm ≠ nm from by
        intro y hy
        rw [List.mem_append] at hy
        rcases hy with h | h
        · exact hn y h
        · rw [List.mem_singleton.1 h]; exact he)
      clear hn hbel b3 b4 b5 bg he
      gi_wp2
      exact ⟨KeepsOthers.refl _, Below.refl _ _, rfl, B3.out, B4.out, B5.out, HB.out, hsW, hn2.out⟩
  case done =>
    rintro D W hD ⟨b3, b4, b5, hbel, hsW, hn⟩ hK
    have hfr := Lib.hid (HNO.out hn)
    have HB := Lib.hid hbel
    have B4 := Lib.hid b4
    have B5 := Lib.hid b5
    have c4 := b4.cellv (i := 0) rfl
    have c5 := b5.cellv (i := 0) rfl
    have f4 := b4.frozen 0
    have f5 := b5.frozen 0
    have hK2 : ∀ u v, ((W.setCell ⟨w.heap.size + 1, 0, none⟩ u).setCell ⟨w.heap.size + 2, 0, none⟩ v).heap[D]? = some (.deferred (some [])) := fun u v => by
      rw [heap_setCell_other _ _ _ _ (by simp; omega), heap_setCell_other _ _ _ _ (by simp; omega)]; exact hK
    clear hn hbel b3 b4 b5
    go_wp2
    refine ⟨by simp, .inl ⟨_, _, rfl, run_takeDeferred (hK2 _ _), ?_⟩⟩
    have z4 := ((Blk.keeps2 (c := w.heap.size) (B := 0) (by omega)) _ _ D ((B4.out.set 0 (.int .i64 (-1))).far (p := ⟨w.heap.size + 2, 0, none⟩) (by simp) (.int .i64 0)) (grownBy_putObj' _ D (.deferred none)) (.inr ⟨by omega, _, hK2 _ _, rfl⟩) : Blk _ _ _ _).cellv (i := 0) rfl
    have z5 := ((Blk.keeps2 (c := w.heap.size) (B := 0) (by omega)) _ _ D ((B5.out.far (p := ⟨w.heap.size + 1, 0, none⟩) (by simp) (.int .i64 (-1))).set 0 (.int .i64 0)) (grownBy_putObj' _ D (.deferred none)) (.inr ⟨by omega, _, hK2 _ _, rfl⟩) : Blk _ _ _ _).cellv (i := 0) rfl
    have hb9 := ((HB.out.setCell (p := ⟨w.heap.size + 1, 0, none⟩) (by simp) (.int .i64 (-1))).setCell (p := ⟨w.heap.size + 2, 0, none⟩) (by simp) (.int .i64 0)).trans (below_turn (l := D) (.deferred none) (by omega))
    refine ⟨_, by simp [results, Try.results23, go_sem, z4, z5]; rfl, by rw [hfr.out], hb9⟩
  case stop =>
    rintro D k pre W hD _ ⟨b4, b5, hbel, rfl⟩ hK
    have HB := Lib.hid hbel
    have c4 := b4.cellv (i := 0) rfl
    have c5 := b5.cellv (i := 0) rfl
    have B4 := Lib.hid b4
    have B5 := Lib.hid b5
    clear hbel b4 b5
    refine wpIn_wide.2 ?_
    go_wp2
    refine ⟨by simp, .inl ⟨_, _, rfl, run_takeDeferred hK, ?_⟩⟩
    have z4 := ((Blk.keeps2 (c := w.heap.size) (B := 0) (by omega)) _ _ D B4.out (grownBy_putObj' _ D (.deferred none)) (.inr ⟨by omega, _, hK, rfl⟩) : Blk _ _ _ _).cellv (i := 0) rfl
    have z5 := ((Blk.keeps2 (c := w.heap.size) (B := 0) (by omega)) _ _ D B5.out (grownBy_putObj' _ D (.deferred none)) (.inr ⟨by omega, _, hK, rfl⟩) : Blk _ _ _ _).cellv (i := 0) rfl
    refine ⟨_, by simp [results, Try.results23, go_sem, z4, z5], rfl, HB.out.trans (below_turn _ (by omega))⟩
end Go.Proofs.Ytlnomkkamopieaa
