/-
  slices.Equal at bytes.
-/
/-
  Bytes are programmed somewhere, and read again.
-/
import Derived.Test.YtiipnpfaaghekaaGreatBytes
import Derived.Test.YtiipnpfaaghekaaGreatIterOwn
import Derived.Deep.QuietTactic
import Derived.BigQuiet
import Derived.Test.YtiipnpfaaghekaaGreatFtlOps
namespace Go.Proofs.YtiipnpfaaghekaaGreat
open Go.RowKit

set_option maxHeartbeats 1000000 in
theorem equal_bytes (a b : Option Addr) (n m c d : Nat) (xs ys : List UInt8) (w : World) (hx : Bytes w w.heap.size a n xs) (hy : Bytes w w.heap.size b m ys) :
    Calls Tryz.prog 138 #[.slice a n c, .slice b m d] w fun e w' => e = .returned (.bool (decide (xs = ys))) ∧ Below w.heap.size w w' := by
  have HX := Lib.hid hx
  have HY := Lib.hid hy
  have hn := hx.room
  have lx := hx.len
  have ly := hy.len
  by_cases hl : n = m
  · subst hl
    have HD := Lib.hid (fun (h : ¬ xs = ys) => (decide_eq_false h : decide (xs = ys) = false))
    have HE := Lib.hid (fun (h : xs = ys) => (decide_eq_true h : decide (xs = ys) = true))
    have LX := Lib.hid lx
    have LY := Lib.hid ly
    generalize decide (xs = ys) = D at *
    clear hx hy lx ly
    go_enter Tryz.func138, Tryz.ntmps138
    go_wp2
    go_loopw [5, 13] (fun _ i wr => ∃ k : Nat, k ≤ n ∧ i = .int .i64 k ∧ xs.take k = ys.take k ∧ Below w.heap.size w wr) (fun _ i _ => n - (intOf i).toNat)
    case atStart => exact ⟨0, by omega, rfl, rfl, Below.refl _ _⟩
    case round =>
      obtain ⟨k, hk, rfl, ht, hb⟩ := hrel
      have HT := Lib.hid ht
      have HB := Lib.hid hb
      clear ht hb
      by_cases hlt : k < n
      · obtain ⟨b1, o1, hk1, rfl, hbl1, hc1⟩ := (HX.out.below HB.out).at_ hlt
        obtain ⟨b2, o2, hk2, rfl, hbl2, hc2⟩ := (HY.out.below HB.out).at_ hlt
        have t1 := Lib.hid (List.take_succ_eq_append_getElem hk1)
        have t2 := Lib.hid (List.take_succ_eq_append_getElem hk2)
        have HG := Lib.hid (fun (h : xs = ys) => (by subst h; rfl : xs[k] = ys[k]))
        have g1 : (0 : Int) ≤ (k : Int) := by omega
        have g2 : (k : Int) < (n : Int) := by omega
        generalize xs[k] = x at *
        generalize ys[k] = y at *
        by_cases he : x = y
        · subst he
          have g3 : ((x.toNat : Int) != (x.toNat : Int)) = false := by simp
          go_wp2_with fail
          go_quiet (fail)
          go_wp2
          go_roundw
          case rel => exact ⟨k + 1, by omega, by go_num, by rw [t1.out, t2.out, HT.out], HB.out.trans (below_drewN _ _)⟩
          case measure => simp [intOf]; omega
        · have g3 : ((x.toNat : Int) != (y.toNat : Int)) = true := by
            rw [bne_iff_ne]
            intro h
            exact he (UInt8.toNat_inj.1 (by omega))
          have hd := Lib.hid (HD.out (fun h => he (HG.out h)))
          clear he
          go_wp2_with fail
          go_quiet (fail)
          go_wp2
          go_ret
          exact ⟨by rw [hd.out]; rfl, HB.out.trans (below_drewN _ _)⟩
      · obtain rfl : k = n := by omega
        have hd := Lib.hid (HE.out (by
          have h := HT.out
          rw [List.take_of_length_le (by rw [LX.out]; omega), List.take_of_length_le (by rw [LY.out]; omega)] at h
          exact h))
        go_wp2
        go_ret
        exact ⟨by rw [hd.out]; rfl, HB.out⟩
  · have g1 : ((n : Int) == (m : Int)) = false := by rw [beq_eq_false_iff_ne]; omega
    have g2 : ((n : Int) != (m : Int)) = true := by rw [bne_iff_ne]; omega
    rw [decide_eq_false (show ¬ xs = ys from fun e => hl (by rw [← lx, ← ly, e]))]
    clear hx hy lx ly hl
    go_enter Tryz.func138, Tryz.ntmps138
    go_wp2
    go_ret
    exact ⟨rfl, Below.refl _ _⟩
end Go.Proofs.YtiipnpfaaghekaaGreat
namespace Go.Proofs.YtiipnpfaaghekaaGreat
open Go.RowKit Ftl

theorem placeInfo : (Tryz.prog.info? 52).map (·.size) = some 2 := by kernel_rfl
theorem placeCells : Tryz.prog.cellsOf 52 = 2 := by kernel_rfl
section
variable {NB B n : Nat} {R : Nat → Prop} {w : World} {f : Fm} {x : List Nat} {E : List En}
/-- What a copy leaves. -/
def Cpd (NB B : Nat) (R : Nat → Prop) (n : Nat) (x : List Nat) (E : List En) (f : Fm) (bs : List UInt8) (w : World) (e : Ending) (w' : World) : Prop :=
  ∃ (k i : Nat) (g' : Mg), e = .returned (.tuple #[.agg #[.int .i64 (k : Int), .int .i64 (i : Int)], .int .i64 0]) ∧ FtR NB B R w w' { f with g := g' } ∧ Pgd NB f.g g' k i bs ∧ Fi NB (n + 1) (k :: x) g' E
set_option maxRecDepth 100000 in
set_option maxHeartbeats 4000000 in
theorem copied_calls (h : FtM NB B R w f) (hi : Fi NB n x f.g E) (hr : f.g.opn ≠ -1 ∨ 0 < Gc.count 0 f.g.l) (a : Option Addr) (c : Nat) (bs : List UInt8) (hgh : f.g.gh bs) (hbs : Own byteV 5 w 0 (.slice a 96 c) bs) (hap : ∀ q, Value.ownBlock (.slice a 96 c) = some q → ¬ R q) :
    Calls Tryz.prog 109 #[.pointer (some ⟨f.F, 0, none⟩), .slice a 96 c] w (Cpd NB B R n x E f bs w) := by
  have HB0 := h.base
  have hb0 := (Below.refl w.heap.size w).alloc (Nat.le_refl _) (.cells #[.int .i64 0, .int .i64 0] 52)
  have h1 := h.on hb0
  have HK := Lib.hid (Blk.new w 52 #[.int .i64 0, .int .i64 0])
  have HO := Lib.hid (hbs.on hb0)
  have HLen := Lib.hid (show bs.length = 96 by obtain ⟨a', c', hv, _⟩ := hbs.form; injection hv with _ h2 _; exact h2.symm)
  have HZ := Lib.hid (h.not_new (Nat.le_refl w.heap.size))
  have HAp := Lib.hid hap
  have HBl := Lib.hid hb0
  have HP := Lib.hid (fProg_calls h1 hi hr a c bs hgh HO.out hap)
  have c1 := h1.c1
  clear h h1 hi hr hgh hbs hap hb0
  go_enter Tryz.func109, Tryz.ntmps109
  go_wp2_with fail
  refine wp_loop_rounds 1 ?_
  rw [rounds_succ]
  generalize w.alloc (.cells #[.int .i64 0, .int .i64 0] 52) = w1 at *
  go_wp2_with fail
  refine HP.out.mono ?_
  rintro e w2 ⟨k, i, g', rfl, h2, hpg, hfi⟩
  have hpgs : chL ((g'.bl k).pgs i) = bs := by
    rw [hpg.bl, upd_same]
    show chL (upd (f.g.bl k).pgs i (some bs) i) = bs
    rw [upd_same]
    rfl
  have hR := fRead_calls h2.1 hpg.hk hpg.i8
  unfold Rdd at hR
  rw [show ({ f with g := g' } : Fm).g = g' from rfl, hpgs] at hR
  have HR := Lib.hid hR
  have hap2 := fun q hq => h2.far (HAp.out q hq) (HO.out.blockLt q hq).2
  have HAp2 := Lib.hid hap2
  have HO2 := Lib.hid (h2.own HO.out HAp.out)
  have HK2 := Lib.hid (h2.blk HK.out HZ.out)
  have HZ2 := Lib.hid (h2.far HZ.out (Blk.lt HK.out))
  have c0 := h2.1.c0
  have H2 := Lib.hid h2
  have HPg := Lib.hid hpg
  have HFi := Lib.hid hfi
  have hM : ({ f with g := g' } : Fm).g.M = f.g.M := hpg.M
  clear h2 hpg hfi hR hpgs hap2 c1
  simp only at c0
  go_wp2_with fail
  refine HR.out.mono ?_
  rintro e w3 ⟨⟨a3, c3, rfl, hc3, ho3⟩, h3a, h3b⟩
  have h3 := H2.out.1.toR h3a h3b
  have HO3 := Lib.hid (h3.own HO2.out HAp2.out)
  have HK3 := Lib.hid (h3.blk HK2.out HZ2.out)
  have H3 := Lib.hid (H2.out.then_ h3)
  have HO4 := Lib.hid ho3
  clear h3 ho3 c0 h3a h3b
  go_wp2_with fail
  refine (equal_bytes a a3 96 96 c c3 bs bs w3 (HO3.out.arr (by rw [HLen.out]; omega)) (HO4.out.arr (by rw [HLen.out]; omega))).mono ?_
  rw [decide_eq_true (rfl : bs = bs)]
  rintro e w4 ⟨rfl, hb4⟩
  have HK4 := Lib.hid (Blk.belowHere HK3.out hb4)
  have hs1 := HBl.out.size
  have H4 := Lib.hid (H3.out.on hb4 (Nat.le_trans HB0 hs1))
  have HF := Lib.hid (H4.out.tail HBl.out HB0 (((Kq.refl (fun q => q = w.heap.size) w4).setCell (p := ⟨w.heap.size, 0, none⟩) (.inl rfl) (.int .i64 (k : Int))).setCell (p := ⟨w.heap.size, 1, none⟩) (.inl rfl) (.int .i64 (i : Int))) fun q hq => by subst hq; exact ⟨Nat.le_refl _, Blk.lt HK.out, HZ.out⟩)
  clear hb4 hs1
  have k0 := Blk.cellv (i := 0) HK4.out rfl
  have k1 := Blk.cellv (i := 1) HK4.out rfl
  have f0 := Blk.frozen HK4.out 0
  have f1 := Blk.frozen HK4.out 1
  have hs := (Blk.set HK4.out 0 (.int .i64 (k : Int))).set 1 (.int .i64 (i : Int))
  have q0 := hs.cellv (i := 0) (v := .int .i64 (k : Int)) rfl
  have q1 := hs.cellv (i := 1) (v := .int .i64 (i : Int)) rfl
  clear hs
  have hcs := placeCells
  go_wp2_with fail
  refine bodyPost_ret (v := .tuple #[.agg #[.int .i64 (k : Int), .int .i64 (i : Int)], .int .i64 0]) (by simp [results, Tryz.results109, go_sem, q0, q1]) rfl ⟨k, i, g', rfl, HF.out, HPg.out, HFi.out⟩
end
end Go.Proofs.YtiipnpfaaghekaaGreat
