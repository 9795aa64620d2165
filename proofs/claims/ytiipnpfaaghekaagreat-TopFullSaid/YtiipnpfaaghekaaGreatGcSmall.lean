/-
  gc's small functions.
-/
import Derived.Test.YtiipnpfaaghekaaGreatGcMath
import Derived.Test.YtiipnpfaaghekaaGreatBytes

namespace Go.Proofs.YtiipnpfaaghekaaGreat
open Go.RowKit

theorem cell_on {w w' : World} {p : Addr} {v : Value} (h : w.cell? p = some v) (hb : Below w.heap.size w w') : w'.cell? p = some v := (hb.cell (block_lt_isSome (by rw [h]; rfl))).trans h
/-- A block boxed: its cells behind. -/
theorem boxed (x : Bk) (w : World) : Below w.heap.size w (w.alloc (.cells (bkA x) 99)) ∧
    (w.alloc (.cells (bkA x) 99)).cell? ⟨w.heap.size, 0, none⟩ = some (.int .i64 (x.st : Int)) ∧ (w.alloc (.cells (bkA x) 99)).cell? ⟨w.heap.size, 1, none⟩ = some (.int .i64 (x.live : Int)) ∧
    (w.alloc (.cells (bkA x) 99)).cell? ⟨w.heap.size, 2, none⟩ = some (.int .i64 (x.wear : Int)) ∧ (w.alloc (.cells (bkA x) 99)).cell? ⟨w.heap.size, 3, none⟩ = some (.int .i64 (x.nx : Int)) :=
  ⟨(Below.refl _ w).alloc (Nat.le_refl _) _, (Blk.new w _ (bkA x)).cellv rfl, (Blk.new w _ (bkA x)).cellv rfl, (Blk.new w _ (bkA x)).cellv rfl, (Blk.new w _ (bkA x)).cellv rfl⟩
/-- Block k of a row, cell by cell. -/
theorem bk_at {w : World} {B : Nat} {a : Option Addr} {n k : Nat} {l : List Bk} (h : ArrM 4 bkL w B a n l) (hk : k < n) :
    ∃ b o, a = some ⟨b, o, none⟩ ∧ b < B ∧ w.cell? ⟨b, o + k * 4, none⟩ = some (.int .i64 ((Gc.at_ l k).st : Int)) ∧ w.cell? ⟨b, o + k * 4 + 1, none⟩ = some (.int .i64 ((Gc.at_ l k).live : Int)) ∧
      w.cell? ⟨b, o + k * 4 + 2, none⟩ = some (.int .i64 ((Gc.at_ l k).wear : Int)) ∧ w.cell? ⟨b, o + k * 4 + 3, none⟩ = some (.int .i64 ((Gc.at_ l k).nx : Int)) := by
  obtain ⟨b, o, hk', ha, hb, hc⟩ := h.atv hk
  have e : Gc.at_ l k = l[k] := by rw [Gc.at_, List.getD_eq_getElem?_getD, List.getElem?_eq_getElem hk']; rfl
  rw [e]
  exact ⟨b, o, ha, hb, hc 0 _ rfl, hc 1 _ rfl, hc 2 _ rfl, hc 3 _ rfl⟩
theorem getD_mem {l : List Bk} {k : Nat} (hk : k < l.length) : Gc.at_ l k ∈ l := by
  rw [Gc.at_, List.getD_eq_getElem?_getD, List.getElem?_eq_getElem hk]
  exact List.getElem_mem hk
theorem ggood_calls (x : Bk) (w : World) : Calls Tryz.prog 89 #[bkV x] w fun e w' => e = .returned (.bool (Gc.good x)) ∧ Below w.heap.size w w' := by
  obtain ⟨hb, c0, c1, c2, c3⟩ := boxed x w
  have HB := Lib.hid hb
  unfold bkA at c0 HB
  clear hb c1 c2 c3
  go_enter Tryz.func89, Tryz.ntmps89
  go_wp2
  go_ret
  exact ⟨rfl, HB.out⟩
theorem gstale_calls (x : Bk) (w : World) : Calls Tryz.prog 112 #[bkV x] w fun e w' => e = .returned (.bool (Gc.stale x)) ∧ Below w.heap.size w w' := by
  obtain ⟨hb, c0, c1, c2, c3⟩ := boxed x w
  have HB := Lib.hid hb
  unfold bkA at c0 HB
  clear hb c1 c2 c3
  go_enter Tryz.func112, Tryz.ntmps112
  go_wp2
  go_ret
  exact ⟨rfl, HB.out⟩
theorem boxed2 (x y : Bk) (w : World) : Below w.heap.size w ((w.alloc (.cells (bkA x) 99)).alloc (.cells (bkA y) 99)) ∧
    Blk ((w.alloc (.cells (bkA x) 99)).alloc (.cells (bkA y) 99)) w.heap.size 99 (bkA x) ∧
    Blk ((w.alloc (.cells (bkA x) 99)).alloc (.cells (bkA y) 99)) (w.heap.size + 1) 99 (bkA y) :=
  ⟨((Below.refl _ w).alloc (Nat.le_refl _) _).alloc (by simp) _, (Blk.new w _ (bkA x)).alloc _, by have := Blk.new (w.alloc (.cells (bkA x) 99)) 99 (bkA y); rwa [World.size_alloc] at this⟩
theorem gworn_calls (x y : Bk) (w : World) : Calls Tryz.prog 116 #[bkV x, bkV y] w fun e w' => e = .returned (.bool (Gc.worn x y)) ∧ Below w.heap.size w w' := by
  obtain ⟨hb, h1, h2⟩ := boxed2 x y w
  have HB := Lib.hid hb
  have c0 := h1.cellv (i := 2) rfl
  have c1 := h2.cellv (i := 2) rfl
  unfold bkA at c0 c1 HB
  clear hb h1 h2
  go_enter Tryz.func116, Tryz.ntmps116
  go_wp2
  go_ret
  exact ⟨rfl, HB.out⟩
theorem gleastF_calls (x y : Bk) (w : World) : Calls Tryz.prog 91 #[bkV x, bkV y] w fun e w' => e = .returned (.bool (Gc.worn x y)) ∧ Below w.heap.size w w' := by
  obtain ⟨hb, h1, h2⟩ := boxed2 x y w
  have HB := Lib.hid hb
  have c0 := h1.cellv (i := 2) rfl
  have c1 := h2.cellv (i := 2) rfl
  unfold bkA at c0 c1 HB
  clear hb h1 h2
  go_enter Tryz.func91, Tryz.ntmps91
  go_wp2
  go_ret
  exact ⟨rfl, HB.out⟩
theorem gmostF_calls (x y : Bk) (w : World) : Calls Tryz.prog 90 #[bkV x, bkV y] w fun e w' => e = .returned (.bool (Gc.more x y)) ∧ Below w.heap.size w w' := by
  obtain ⟨hb, h1, h2⟩ := boxed2 x y w
  have HB := Lib.hid hb
  have c0 := h1.cellv (i := 2) rfl
  have c1 := h2.cellv (i := 2) rfl
  unfold bkA at c0 c1 HB
  clear hb h1 h2
  go_enter Tryz.func90, Tryz.ntmps90
  go_wp2
  go_ret
  exact ⟨rfl, HB.out⟩
theorem bkCells : Tryz.prog.cellsOf 99 = 4 := by kernel_rfl
theorem gemptier_calls (x y : Bk) (w : World) : Calls Tryz.prog 118 #[bkV x, bkV y] w fun e w' => e = .returned (.bool (Gc.emptier x y)) ∧ Below w.heap.size w w' := by
  by_cases e3 : x.live = y.live
  · have e2 : Gc.emptier x y = Gc.worn x y := by unfold Gc.emptier; rw [decide_eq_false (by omega), Bool.false_or, decide_eq_true e3, Bool.true_and]
    rw [e2]
    obtain ⟨xs, xl, xw, xn⟩ := x
    obtain ⟨ys, yl, yw, yn⟩ := y
    obtain rfl : xl = yl := e3
    clear e2
    obtain ⟨hb, h1, h2⟩ := boxed2 ⟨xs, xl, xw, xn⟩ ⟨ys, xl, yw, yn⟩ w
    have HB := Lib.hid hb
    have c0 := h1.cellv (i := 0) rfl
    have c1 := h1.cellv (i := 1) rfl
    have c2 := h1.cellv (i := 2) rfl
    have c3 := h1.cellv (i := 3) rfl
    have d0 := h2.cellv (i := 0) rfl
    have d1 := h2.cellv (i := 1) rfl
    have d2 := h2.cellv (i := 2) rfl
    have d3 := h2.cellv (i := 3) rfl
    have hcs := bkCells
    unfold bkA at c0 c1 c2 c3 d0 d1 d2 d3 HB
    clear hb h1 h2
    go_enter Tryz.func118, Tryz.ntmps118
    go_wp2_with fail
    refine (gworn_calls ⟨xs, xl, xw, xn⟩ ⟨ys, xl, yw, yn⟩ _).mono ?_
    rintro e w1 ⟨rfl, hb⟩
    have HB1 := Lib.hid (HB.out.then_ hb)
    clear hb c0 c1 c2 c3 d0 d1 d2 d3
    go_wp2
    go_ret
    exact ⟨rfl, HB1.out⟩
  · obtain ⟨hb, h1, h2⟩ := boxed2 x y w
    have HB := Lib.hid hb
    have c1 := h1.cellv (i := 1) rfl
    have d1 := h2.cellv (i := 1) rfl
    unfold bkA at c1 d1 HB
    clear hb h1 h2
    by_cases e1 : x.live < y.live
    · have e2 : Gc.emptier x y = true := by unfold Gc.emptier; rw [decide_eq_true e1, Bool.true_or]
      rw [e2]
      clear e2
      go_enter Tryz.func118, Tryz.ntmps118
      go_wp2
      go_ret
      exact ⟨rfl, HB.out⟩
    · have e2 : Gc.emptier x y = false := by unfold Gc.emptier; rw [decide_eq_false e1, Bool.false_or, decide_eq_false e3, Bool.false_and]
      rw [e2]
      clear e2
      go_enter Tryz.func118, Tryz.ntmps118
      go_wp2
      go_ret
      exact ⟨rfl, HB.out⟩
theorem gmay_calls (x : Bk) (l : Nat) (w : World) (hl : l ≤ 2199023255552) (hx : x.wear ≤ 2199023255552) : Calls Tryz.prog 115 #[bkV x, .int .i64 (l : Int)] w fun e w' => e = .returned (.bool (Gc.may l x)) ∧ Below w.heap.size w w' := by
  obtain ⟨hb, c0, c1, c2, c3⟩ := boxed x w
  have hk := Blk.new w 99 (bkA x)
  have HB := Lib.hid hb
  have HK := Lib.hid hk
  have hcs := bkCells
  have hw := IntWalk.i64_in ((x.wear : Int) - l) ⟨by omega, by omega⟩
  unfold bkA at c0 c1 c2 c3 HB HK
  clear hb hk
  cases hg : Gc.good x
  · have e2 : Gc.may l x = false := by unfold Gc.may; rw [hg, Bool.false_and]
    rw [e2]
    clear e2
    go_enter Tryz.func115, Tryz.ntmps115
    go_wp2_with fail
    refine (ggood_calls x _).mono ?_
    rintro e w1 ⟨rfl, hb⟩
    have HB1 := Lib.hid (HB.out.then_ hb)
    clear hb c0 c1 c2 c3
    rw [hg]
    go_wp2
    go_ret
    exact ⟨rfl, HB1.out⟩
  · have e2 : Gc.may l x = decide ((x.wear : Int) - l < 4) := by unfold Gc.may; rw [hg, Bool.true_and]
    rw [e2]
    clear e2
    go_enter Tryz.func115, Tryz.ntmps115
    go_wp2_with fail
    refine (ggood_calls x _).mono ?_
    rintro e w1 ⟨rfl, hb⟩
    have HB1 := Lib.hid (HB.out.then_ hb)
    have d2 := (HK.out.belowHere hb).cellv (i := 2) rfl
    clear hb c0 c1 c2 c3
    rw [hg]
    go_wp2
    go_ret
    exact ⟨rfl, HB1.out⟩
end Go.Proofs.YtiipnpfaaghekaaGreat
