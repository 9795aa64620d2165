/-
  Where a page is now.
-/
import Derived.Test.YtiipnpfaaghekaaGreatFtlAsk
import Derived.Test.YtiipnpfaaghekaaGreatFtlCopy
namespace Go.Proofs.YtiipnpfaaghekaaGreat
open Go.RowKit Ftl

section
variable {NB B n : Nat} {R : Nat → Prop} {w : World} {f : Fm}
/-- A place that is laid, and then written. -/
structure PlZ (w : World) (Z : Nat) (b i : Nat) : Prop where
  k0 : w.cell? ⟨Z, 0, none⟩ = some (.int .i64 0)
  k1 : w.cell? ⟨Z, 1, none⟩ = some (.int .i64 0)
  f0 : w.frozen? ⟨Z, 0, none⟩ = false
  f1 : w.frozen? ⟨Z, 1, none⟩ = false
  q0 : ((w.setCell ⟨Z, 0, none⟩ (.int .i64 (b : Int))).setCell ⟨Z, 1, none⟩ (.int .i64 (i : Int))).cell? ⟨Z, 0, none⟩ = some (.int .i64 (b : Int))
  q1 : ((w.setCell ⟨Z, 0, none⟩ (.int .i64 (b : Int))).setCell ⟨Z, 1, none⟩ (.int .i64 (i : Int))).cell? ⟨Z, 1, none⟩ = some (.int .i64 (i : Int))
theorem plZ {Z : Nat} (h : Blk w Z 52 #[.int .i64 0, .int .i64 0]) (b i : Nat) : PlZ w Z b i := by
  have hs := (h.set 0 (.int .i64 (b : Int))).set 1 (.int .i64 (i : Int))
  exact ⟨h.cellv rfl, h.cellv rfl, h.frozen 0, h.frozen 1, hs.cellv (i := 0) rfl, hs.cellv (i := 1) rfl⟩
theorem MapE.lookT {b : Nat} {l : List En} (h : MapE w b l) {p : Nat} (hp : p < 4294967296) {o : Option En} (e1 : getE l p = o) {x y : Nat} (e2 : plO o = .agg #[.int .i64 (x : Int), .int .i64 (y : Int)]) {t : Bool} (e3 : o.isSome = t) :
    (Instr.lookup 55 (.map (some b)) (.int .u32 (p : Int)) true).run Tryz.prog w = .ok (.tuple #[.agg #[.int .i64 (x : Int), .int .i64 (y : Int)], .bool t]) w := by
  have := h.look hp true
  rw [e1, e2, e3] at this
  exact this
set_option maxRecDepth 100000 in
set_option maxHeartbeats 4000000 in
theorem fat_calls (h : FtM NB B R w f) (p : Nat) (hp : p < 4294967296) :
    Calls Tryz.prog 32 #[.pointer (some ⟨f.F, 0, none⟩), .int .u32 (p : Int)] w fun e w' => e = .returned (.tuple #[plO (curE f p), .bool (curE f p).isSome]) ∧ Below w.heap.size w w' := by
  have hcs := placeCells
  have hb0 := (Below.refl w.heap.size w).alloc (Nat.le_refl _) (.cells #[.int .i64 0, .int .i64 0] 52)
  have H1 := Lib.hid (h.on hb0)
  have HZ := Lib.hid (Blk.new w 52 #[.int .i64 0, .int .i64 0])
  have HB0 := Lib.hid hb0
  clear h hb0
  have HC := Lib.hid (show curE f p = match getE f.no p with
    | some e => some e
    | none => if (getE f.go p).isSome then none else getE f.se p from rfl)
  go_enter Tryz.func32, Tryz.ntmps32
  go_upto_region 1 with fail
  generalize w.alloc (.cells #[.int .i64 0, .int .i64 0] 52) = w1 at *
  obtain ⟨Z, hZ⟩ : ∃ Z, Z = w.heap.size := ⟨_, rfl⟩
  rw [← hZ] at HZ ⊢
  have HZe := Lib.hid hZ
  clear hZ
  have c6 := H1.out.c6
  obtain ⟨b1, i1, e1⟩ := plO_form (getE f.no p)
  have hb1 := (Below.refl w1.heap.size w1).alloc (Nat.le_refl _) (.cells #[.int .i64 (b1 : Int), .int .i64 (i1 : Int)] 52)
  have HK1 := Lib.hid (Blk.new w1 52 #[.int .i64 (b1 : Int), .int .i64 (i1 : Int)])
  have H2 := Lib.hid (H1.out.on hb1)
  have HZ2 := Lib.hid (HZ.out.belowHere hb1)
  have HB1 := Lib.hid (HB0.out.then_ hb1)
  clear hb1
  cases hno : getE f.no p with
  | some e =>
    have hl1 := H1.out.hN.lookT hp hno (by rw [← hno]; exact e1) rfl
    rw [hno] at HC e1
    have HE := Lib.hid e1
    clear hno e1
    have hl1 : (Instr.lookup 55 (.map (some f.NO)) (.int .u32 (p : Int)) true).run Tryz.prog w1 = .ok (.tuple #[.agg #[.int .i64 (b1 : Int), .int .i64 (i1 : Int)], .bool true]) w1 := hl1
    go_upto_region 2 with fail
    generalize w1.alloc (.cells #[.int .i64 (b1 : Int), .int .i64 (i1 : Int)] 52) = w2 at *
    obtain ⟨k0, k1, f0, f1, q0, q1⟩ := plZ HZ2.out b1 i1
    have y0 := Blk.cellv (i := 0) HK1.out rfl
    have y1 := Blk.cellv (i := 1) HK1.out rfl
    have HF := Lib.hid ((HB1.out.setCell (p := ⟨Z, 0, none⟩) (by rw [HZe.out]; exact Nat.le_refl _) (.int .i64 (b1 : Int))).setCell (p := ⟨Z, 1, none⟩) (by rw [HZe.out]; exact Nat.le_refl _) (.int .i64 (i1 : Int)))
    go_wp2_with fail
    refine bodyPost_ret (v := .tuple #[.agg #[.int .i64 (b1 : Int), .int .i64 (i1 : Int)], .bool true]) (by simp [results, Tryz.results32, go_sem, q0, q1]) rfl ⟨?_, HF.out⟩
    rw [HC.out]
    show _ = Ending.returned (.tuple #[plO (some e), .bool true])
    rw [HE.out]
  | none =>
    have hl1 := H1.out.hN.lookT hp hno (by rw [← hno]; exact e1) rfl
    rw [hno] at HC
    clear hno e1
    have hl1 : (Instr.lookup 55 (.map (some f.NO)) (.int .u32 (p : Int)) true).run Tryz.prog w1 = .ok (.tuple #[.agg #[.int .i64 (b1 : Int), .int .i64 (i1 : Int)], .bool false]) w1 := hl1
    go_upto_region 2 with fail
    generalize w1.alloc (.cells #[.int .i64 (b1 : Int), .int .i64 (i1 : Int)] 52) = w2 at *
    clear hl1 c6
    have c7 := H2.out.c7
    obtain ⟨b2, i2, e2⟩ := plO_form (getE f.go p)
    have hb2 := (Below.refl w2.heap.size w2).alloc (Nat.le_refl _) (.cells #[.int .i64 (b2 : Int), .int .i64 (i2 : Int)] 52)
    have H3 := Lib.hid (H2.out.on hb2)
    have HZ3 := Lib.hid (HZ2.out.belowHere hb2)
    have HB2 := Lib.hid (HB1.out.then_ hb2)
    clear hb2
    cases hgo : getE f.go p with
    | some e =>
      have hl2 := H2.out.hG.lookT hp hgo (by rw [← hgo]; exact e2) rfl
      rw [hgo] at HC
      clear hgo e2
      have hl2 : (Instr.lookup 55 (.map (some f.GO)) (.int .u32 (p : Int)) true).run Tryz.prog w2 = .ok (.tuple #[.agg #[.int .i64 (b2 : Int), .int .i64 (i2 : Int)], .bool true]) w2 := hl2
      go_upto_region 5 with fail
      generalize w2.alloc (.cells #[.int .i64 (b2 : Int), .int .i64 (i2 : Int)] 52) = w3 at *
      clear hl2 c7
      obtain ⟨k0, k1, f0, f1, q0, q1⟩ := plZ HZ3.out 0 0
      have q0 : ((w3.setCell ⟨Z, 0, none⟩ (.int .i64 0)).setCell ⟨Z, 1, none⟩ (.int .i64 0)).cell? ⟨Z, 0, none⟩ = some (.int .i64 0) := q0
      have q1 : ((w3.setCell ⟨Z, 0, none⟩ (.int .i64 0)).setCell ⟨Z, 1, none⟩ (.int .i64 0)).cell? ⟨Z, 1, none⟩ = some (.int .i64 0) := q1
      have HF := Lib.hid ((HB2.out.setCell (p := ⟨Z, 0, none⟩) (by rw [HZe.out]; exact Nat.le_refl _) (.int .i64 0)).setCell (p := ⟨Z, 1, none⟩) (by rw [HZe.out]; exact Nat.le_refl _) (.int .i64 0))
      go_wp2_with fail
      refine bodyPost_ret (v := .tuple #[.agg #[.int .i64 0, .int .i64 0], .bool false]) (by simp [results, Tryz.results32, go_sem, q0, q1]) rfl ⟨?_, HF.out⟩
      rw [HC.out]
      rfl
    | none =>
      have hl2 := H2.out.hG.lookT hp hgo (by rw [← hgo]; exact e2) rfl
      rw [hgo] at HC
      clear hgo e2
      have hl2 : (Instr.lookup 55 (.map (some f.GO)) (.int .u32 (p : Int)) true).run Tryz.prog w2 = .ok (.tuple #[.agg #[.int .i64 (b2 : Int), .int .i64 (i2 : Int)], .bool false]) w2 := hl2
      go_upto_region 5 with fail
      generalize w2.alloc (.cells #[.int .i64 (b2 : Int), .int .i64 (i2 : Int)] 52) = w3 at *
      clear hl2 c7
      have c5 := H3.out.c5
      obtain ⟨b3, i3, e3⟩ := plO_form (getE f.se p)
      obtain ⟨sf, hsf⟩ : ∃ sf, (getE f.se p).isSome = sf := ⟨_, rfl⟩
      have hl3 := H3.out.hS.lookT hp rfl e3 hsf
      have hb3 := (Below.refl w3.heap.size w3).alloc (Nat.le_refl _) (.cells #[.int .i64 (b3 : Int), .int .i64 (i3 : Int)] 52)
      have HK3 := Lib.hid (Blk.new w3 52 #[.int .i64 (b3 : Int), .int .i64 (i3 : Int)])
      have HZ4 := Lib.hid (HZ3.out.belowHere hb3)
      have HB3 := Lib.hid (HB2.out.then_ hb3)
      have HE := Lib.hid e3
      have HSf := Lib.hid hsf
      clear hb3 e3 hsf
      go_upto_region 8 with fail
      generalize w3.alloc (.cells #[.int .i64 (b3 : Int), .int .i64 (i3 : Int)] 52) = w4 at *
      clear hl3 c5
      obtain ⟨k0, k1, f0, f1, q0, q1⟩ := plZ HZ4.out b3 i3
      have y0 := Blk.cellv (i := 0) HK3.out rfl
      have y1 := Blk.cellv (i := 1) HK3.out rfl
      have HF := Lib.hid ((HB3.out.setCell (p := ⟨Z, 0, none⟩) (by rw [HZe.out]; exact Nat.le_refl _) (.int .i64 (b3 : Int))).setCell (p := ⟨Z, 1, none⟩) (by rw [HZe.out]; exact Nat.le_refl _) (.int .i64 (i3 : Int)))
      go_wp2_with fail
      refine bodyPost_ret (v := .tuple #[.agg #[.int .i64 (b3 : Int), .int .i64 (i3 : Int)], .bool sf]) (by simp [results, Tryz.results32, go_sem, q0, q1]) rfl ⟨?_, HF.out⟩
      rw [HC.out]
      show _ = Ending.returned (.tuple #[plO (getE f.se p), .bool (getE f.se p).isSome])
      rw [HE.out, HSf.out]
end
end Go.Proofs.YtiipnpfaaghekaaGreat
