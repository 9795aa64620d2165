/-
  A block is closed; the free block that is worn least is opened.
-/
/-
  Blocks wear alike: erased, programmed; what comes next.
-/
import Derived.Test.YtiipnpfaaghekaaGreatBlkSmall
import Derived.Test.YtiipnpfaaghekaaGreatGcLeast
import Derived.Test.YtiipnpfaaghekaaGreatBlkAct
import Derived.Test.YtiipnpfaaghekaaGreatTopGap
/-
  Blocks wear alike: what holds between two steps, in plain mathematics.
-/
/-
  The manager programs a page: one block is opened.
-/
/-
  The manager programs a page.
-/
/-
  The manager erases a block.
-/
namespace Go.Proofs.YtiipnpfaaghekaaGreat
open Go.RowKit

section
variable {NB B : Nat} {S : Nat → Prop} {w : World} {g : Mg}
/-- A block's row is written anew. -/
def rowSt (w : World) (ML k : Nat) (y : Bk) : World := (((w.setCell ⟨ML, k * 4, none⟩ (.int .i64 (y.st : Int))).setCell ⟨ML, k * 4 + 1, none⟩ (.int .i64 (y.live : Int))).setCell ⟨ML, k * 4 + 2, none⟩ (.int .i64 (y.wear : Int))).setCell ⟨ML, k * 4 + 3, none⟩ (.int .i64 (y.nx : Int))
theorem MgM.setRow (h : MgM NB B S w g) {k : Nat} (hk : k < NB) (y : Bk) : MgM NB B S (rowSt w g.ML k y) { g with l := g.l.set k y } := by
  have hl := h.len
  have h0 := h.setL hk (j := 0) (by omega) (.int .i64 (y.st : Int)) { Gc.at_ g.l k with st := y.st } rfl
  have h1 := h0.setL hk (j := 1) (by omega) (.int .i64 (y.live : Int)) { Gc.at_ g.l k with st := y.st, live := y.live } (by rw [at_set _ _ (by omega)]; rfl)
  simp only [List.set_set] at h1
  have h2 := h1.setL hk (j := 2) (by omega) (.int .i64 (y.wear : Int)) { y with nx := (Gc.at_ g.l k).nx } (by rw [at_set _ _ (by omega)]; rfl)
  simp only [List.set_set] at h2
  have h3 := h2.setL hk (j := 3) (by omega) (.int .i64 (y.nx : Int)) y (by rw [at_set _ _ (by omega)]; rfl)
  simp only [List.set_set] at h3
  exact h3
theorem kq_row {T : Nat → Prop} {a b : World} (h : Kq T a b) {ML k : Nat} (hT : T ML) (y : Bk) : Kq T a (rowSt b ML k y) :=
  (((h.setCell (p := ⟨ML, k * 4, none⟩) (.inl hT) _).setCell (p := ⟨ML, k * 4 + 1, none⟩) (.inl hT) _).setCell (p := ⟨ML, k * 4 + 2, none⟩) (.inl hT) _).setCell (p := ⟨ML, k * 4 + 3, none⟩) (.inl hT) _
set_option maxRecDepth 100000 in
set_option maxHeartbeats 2000000 in
theorem bClose_calls (h : MgM NB B S w g) {k : Nat} (hk : k < NB) (hv : 0 < (Gc.at_ g.l k).live) (ho : g.opn = (k : Int)) :
    Calls Tryz.prog 103 #[.pointer (some ⟨g.M, 0, none⟩), .int .i64 (k : Int)] w fun e w' => e = .returned (.tuple #[]) ∧ MgM NB B S w' { g with l := g.l.set k { Gc.at_ g.l k with st := 2 }, opn := -1 } ∧ Kq (fun q => q = g.M ∨ q = g.ML) w w' := by
  have hlen := h.len
  have m1 := h.m1
  have r0 := (h.r0 hk).1
  have f0 := (h.r0 hk).2
  have h1 := h.setL hk (j := 0) (by omega) (.int .i64 2) { Gc.at_ g.l k with st := 2 } rfl
  have k1 : Kq (fun q => q = g.M ∨ q = g.ML) w (w.setCell ⟨g.ML, k * 4 + 0, none⟩ (.int .i64 2)) := (Kq.refl _ w).setCell (p := ⟨g.ML, k * 4 + 0, none⟩) (.inl (.inr rfl)) _
  have n1 := h1.m1
  have n2 := h1.m2
  have f2 := h1.frzM 2
  have s1 := (h1.r1 hk).1
  rw [at_set _ _ (by omega)] at s1
  have h2 := h1.setO (-1)
  have k2 := k1.setCell (p := ⟨g.M, 2, none⟩) (.inl (.inl rfl)) (.int .i64 (-1))
  simp only [Nat.add_zero] at h1 h2 k2 n1 n2 f2 s1
  rw [ho] at n2
  have hz : (((Gc.at_ g.l k).live : Int) == 0) = false := by rw [beq_eq_false_iff_ne]; omega
  generalize hx : Gc.at_ g.l k = x at *
  have g1 : (0 : Int) ≤ (k : Int) := by omega
  have g2 : (k : Int) < (NB : Int) := by omega
  have H2 := Lib.hid h2
  have HK2 := Lib.hid k2
  clear h h1 h2 k1 k2 hx ho
  go_enter Tryz.func103, Tryz.ntmps103
  go_upto_region 1 with fail
  generalize w.setCell ⟨g.ML, k * 4, none⟩ (.int .i64 2) = w1 at *
  clear m1 r0 f0
  go_wp2
  go_end0
  exact ⟨rfl, H2.out, HK2.out⟩
def isFree (x : Bk) : Bool := (x.st : Int) == 0
/-- What begin leaves. -/
def Began (NB B : Nat) (S : Nat → Prop) (g : Mg) (w : World) (o : Option Nat) (e : Ending) (w' : World) : Prop := match o with
  | none => e = .returned (.bool false) ∧ Below w.heap.size w w'
  | some a => e = .returned (.bool true) ∧ MgM NB B S w' { g with l := g.l.set a ⟨1, 0, (Gc.at_ g.l a).wear, 0⟩, opn := (a : Int) } ∧ Kq (fun q => q = g.M ∨ q = g.ML) w w'
set_option maxRecDepth 100000 in
set_option maxHeartbeats 8000000 in
theorem bBegin_calls (h : MgM NB B S w g) :
    Calls Tryz.prog 102 #[.pointer (some ⟨g.M, 0, none⟩)] w (Began NB B S g w (Gc.best isFree Gc.worn g.l NB)) := by
  have HH := Lib.hid h
  have hlen := h.len
  have hnb := h.nb
  have hcs := bkCells
  have m1 := h.m1
  clear h
  go_enter Tryz.func102, Tryz.ntmps102
  go_wp2
  go_loopw [3, 4, 5, 11] (fun v _ _ i wr => ∃ k : Nat, k ≤ NB ∧ i = .int .i64 (k : Int) ∧ v = .int .i64 (Gc.oI (Gc.best isFree Gc.worn g.l k)) ∧ Below w.heap.size w wr) (fun _ _ _ i _ => NB - (intOf i).toNat)
  case atStart => exact ⟨0, by omega, rfl, rfl, Below.refl _ _⟩
  case round =>
    obtain ⟨k, hk, rfl, rfl, hb⟩ := hrel
    have HBr := Lib.hid hb
    clear hb m1
    by_cases hlt : k < NB
    · have hr := HH.out.on HBr.out
      have c0 := (hr.r0 hlt).1
      have c1 := (hr.r1 hlt).1
      have c2 := (hr.r2 hlt).1
      have c3 := (hr.r3 hlt).1
      have hk0 : (0 : Int) ≤ (k : Int) := by omega
      have hk1 : (k : Int) < (NB : Int) := by omega
      clear hr
      have hE : Gc.best isFree Gc.worn g.l (k + 1) = match Gc.best isFree Gc.worn g.l k with
        | none => if isFree (Gc.at_ g.l k) then some k else none
        | some a => if isFree (Gc.at_ g.l k) && Gc.worn (Gc.at_ g.l k) (Gc.at_ g.l a) then some k else some a := rfl
      generalize Gc.at_ g.l k = x at *
      go_upto_region 5 with fail
      have HBx := Lib.hid (Blk.new wr 99 #[.int .i64 (x.st : Int), .int .i64 (x.live : Int), .int .i64 (x.wear : Int), .int .i64 (x.nx : Int)])
      have HB1 := Lib.hid (HBr.out.alloc HBr.out.size (.cells #[.int .i64 (x.st : Int), .int .i64 (x.live : Int), .int .i64 (x.wear : Int), .int .i64 (x.nx : Int)] 99))
      generalize wr.heap.size = gx at *
      generalize wr.alloc _ = w1 at *
      have HS0 := Lib.hid (show Below w.heap.size w w1.drew ∧ Blk w1.drew gx 99 #[.int .i64 (x.st : Int), .int .i64 (x.live : Int), .int .i64 (x.wear : Int), .int .i64 (x.nx : Int)] from ⟨HB1.out.drew, HBx.out⟩)
      clear c0 c1 c2 c3
      cases hp : isFree x
      · have HE := Lib.hid (show Gc.best isFree Gc.worn g.l (k + 1) = Gc.best isFree Gc.worn g.l k by rw [hE, hp]; cases Gc.best isFree Gc.worn g.l k <;> rfl)
        have hpe : ((x.st : Int) == 0) = false := hp
        clear hE hp
        refine wp_region_noPanic ?_
        refine wp_region_held_drew (S := (fun W' => Below w.heap.size w W' ∧ Blk W' gx 99 #[.int .i64 (x.st : Int), .int .i64 (x.live : Int), .int .i64 (x.wear : Int), .int .i64 (x.nx : Int)])) (by kernel_rfl) HS0.out (fun hS0 => ?_)
        refine takeV 0 (v := (.pointer (some ⟨gx, 0, none⟩))) rfl (by kernel_rfl) (by kernel_rfl) (by kernel_rfl) (fun _ _ _ h => h) (by rfl) (fun W hSw => ?_) (by assumption) ?_
        · skip
          go_simp
        try simp only [layR]
        refine takeV 1 (v := (.int .i64 (x.st : Int))) rfl (by kernel_rfl) (by kernel_rfl) (by kernel_rfl) (fun _ _ _ h => h) (by rfl) (fun W hSw => ?_) (by assumption) ?_
        · have y0 := hSw.2.cellv (i := 0) rfl
          go_simp
        try simp only [layR]
        refine takeV 2 (v := (.bool false)) rfl (by kernel_rfl) (by kernel_rfl) (by kernel_rfl) (fun _ _ _ h => h) (by rfl) (fun W hSw => ?_) (by assumption) ?_
        · skip
          go_simp
        try simp only [layR]
        refine takeV 3 (v := (.bool false)) rfl (by kernel_rfl) (by kernel_rfl) (by kernel_rfl) (fun _ _ _ h => h) (by rfl) (fun W hSw => ?_) (by assumption) ?_
        · skip
          go_simp
        try simp only [layR]
        refine takeNo 4 rfl (by kernel_rfl) (by kernel_rfl) (by kernel_rfl) (fun _ _ _ h => h) (by rfl) (by assumption) ?_
        try simp only [layR]
        refine takeNo 5 rfl (by kernel_rfl) (by kernel_rfl) (by kernel_rfl) (fun _ _ _ h => h) (by rfl) (by assumption) ?_
        try simp only [layR]
        refine takeNo 6 rfl (by kernel_rfl) (by kernel_rfl) (by kernel_rfl) (fun _ _ _ h => h) (by rfl) (by assumption) ?_
        try simp only [layR]
        refine takeNo 7 rfl (by kernel_rfl) (by kernel_rfl) (by kernel_rfl) (fun _ _ _ h => h) (by rfl) (by assumption) ?_
        try simp only [layR]
        refine takeNo 8 rfl (by kernel_rfl) (by kernel_rfl) (by kernel_rfl) (fun _ _ _ h => h) (by rfl) (by assumption) ?_
        try simp only [layR]
        refine takeNo 9 rfl (by kernel_rfl) (by kernel_rfl) (by kernel_rfl) (fun _ _ _ h => h) (by rfl) (by assumption) ?_
        try simp only [layR]
        refine takeNo 10 rfl (by kernel_rfl) (by kernel_rfl) (by kernel_rfl) (fun _ _ _ h => h) (by rfl) (by assumption) ?_
        try simp only [layR]
        refine takeNo 11 rfl (by kernel_rfl) (by kernel_rfl) (by kernel_rfl) (fun _ _ _ h => h) (by rfl) (by assumption) ?_
        try simp only [layR]
        refine takeNo 12 rfl (by kernel_rfl) (by kernel_rfl) (by kernel_rfl) (fun _ _ _ h => h) (by rfl) (by assumption) ?_
        try simp only [layR]
        refine takeNo 13 rfl (by kernel_rfl) (by kernel_rfl) (by kernel_rfl) (fun _ _ _ h => h) (by rfl) (by assumption) ?_
        try simp only [layR]
        refine takeNo 14 rfl (by kernel_rfl) (by kernel_rfl) (by kernel_rfl) (fun _ _ _ h => h) (by rfl) (by assumption) ?_
        try simp only [layR]
        refine takeNo 15 rfl (by kernel_rfl) (by kernel_rfl) (by kernel_rfl) (fun _ _ _ h => h) (by rfl) (by assumption) ?_
        try simp only [layR]
        refine takeNo 16 rfl (by kernel_rfl) (by kernel_rfl) (by kernel_rfl) (fun _ _ _ h => h) (by rfl) (by assumption) ?_
        try simp only [layR]
        refine takeNo 17 rfl (by kernel_rfl) (by kernel_rfl) (by kernel_rfl) (fun _ _ _ h => h) (by rfl) (by assumption) ?_
        try simp only [layR]
        refine takeNo 18 rfl (by kernel_rfl) (by kernel_rfl) (by kernel_rfl) (fun _ _ _ h => h) (by rfl) (by assumption) ?_
        try simp only [layR]
        refine takeV 19 (v := (.bool false)) rfl (by kernel_rfl) (by kernel_rfl) (by kernel_rfl) (fun _ _ _ h => h) (by rfl) (fun W hSw => ?_) (by assumption) ?_
        · skip
          go_simp
        try simp only [layR]
        refine wpAnyH_done (by kernel_rfl) ?_ _
        refine NoPanic.normal ?_
        have HBf := Lib.hid hS0.1
        clear hS0
        go_wp2_with fail
        go_roundw
        case rel => exact ⟨k + 1, by omega, by go_num, (congrArg (fun o => Value.int .i64 (Gc.oI o)) HE.out).symm, HBf.out⟩
        case measure => simp [intOf]; omega
      · have hpe : ((x.st : Int) == 0) = true := hp
        cases ho : Gc.best isFree Gc.worn g.l k with
        | none =>
          have HE := Lib.hid (show Gc.best isFree Gc.worn g.l (k + 1) = some k by rw [hE, hp, ho]; rfl)
          clear hE
          have hneg : Gc.oI none = -1 := rfl
          rw [hneg]
          refine wp_region_noPanic ?_
          refine wp_region_held_drew (S := (fun W' => Below w.heap.size w W' ∧ Blk W' gx 99 #[.int .i64 (x.st : Int), .int .i64 (x.live : Int), .int .i64 (x.wear : Int), .int .i64 (x.nx : Int)])) (by kernel_rfl) HS0.out (fun hS0 => ?_)
          refine takeV 0 (v := (.pointer (some ⟨gx, 0, none⟩))) rfl (by kernel_rfl) (by kernel_rfl) (by kernel_rfl) (fun _ _ _ h => h) (by rfl) (fun W hSw => ?_) (by assumption) ?_
          · skip
            go_simp
          try simp only [layR]
          refine takeV 1 (v := (.int .i64 (x.st : Int))) rfl (by kernel_rfl) (by kernel_rfl) (by kernel_rfl) (fun _ _ _ h => h) (by rfl) (fun W hSw => ?_) (by assumption) ?_
          · have y0 := hSw.2.cellv (i := 0) rfl
            go_simp
          try simp only [layR]
          refine takeV 2 (v := (.bool true)) rfl (by kernel_rfl) (by kernel_rfl) (by kernel_rfl) (fun _ _ _ h => h) (by rfl) (fun W hSw => ?_) (by assumption) ?_
          · skip
            go_simp
          try simp only [layR]
          refine takeV 3 (v := (.bool true)) rfl (by kernel_rfl) (by kernel_rfl) (by kernel_rfl) (fun _ _ _ h => h) (by rfl) (fun W hSw => ?_) (by assumption) ?_
          · skip
            go_simp
          try simp only [layR]
          refine takeV 4 (v := (.int .i64 (-1))) rfl (by kernel_rfl) (by kernel_rfl) (by kernel_rfl) (fun _ _ _ h => h) (by rfl) (fun W hSw => ?_) (by assumption) ?_
          · skip
            go_simp
          try simp only [layR]
          refine takeV 5 (v := (.bool true)) rfl (by kernel_rfl) (by kernel_rfl) (by kernel_rfl) (fun _ _ _ h => h) (by rfl) (fun W hSw => ?_) (by assumption) ?_
          · skip
            go_simp
          try simp only [layR]
          refine takeV 6 (v := (.bool true)) rfl (by kernel_rfl) (by kernel_rfl) (by kernel_rfl) (fun _ _ _ h => h) (by rfl) (fun W hSw => ?_) (by assumption) ?_
          · skip
            go_simp
          try simp only [layR]
          refine takeNo 7 rfl (by kernel_rfl) (by kernel_rfl) (by kernel_rfl) (fun _ _ _ h => h) (by rfl) (by assumption) ?_
          try simp only [layR]
          refine takeNo 8 rfl (by kernel_rfl) (by kernel_rfl) (by kernel_rfl) (fun _ _ _ h => h) (by rfl) (by assumption) ?_
          try simp only [layR]
          refine takeNo 9 rfl (by kernel_rfl) (by kernel_rfl) (by kernel_rfl) (fun _ _ _ h => h) (by rfl) (by assumption) ?_
          try simp only [layR]
          refine takeNo 10 rfl (by kernel_rfl) (by kernel_rfl) (by kernel_rfl) (fun _ _ _ h => h) (by rfl) (by assumption) ?_
          try simp only [layR]
          refine takeNo 11 rfl (by kernel_rfl) (by kernel_rfl) (by kernel_rfl) (fun _ _ _ h => h) (by rfl) (by assumption) ?_
          try simp only [layR]
          refine takeNo 12 rfl (by kernel_rfl) (by kernel_rfl) (by kernel_rfl) (fun _ _ _ h => h) (by rfl) (by assumption) ?_
          try simp only [layR]
          refine takeNo 13 rfl (by kernel_rfl) (by kernel_rfl) (by kernel_rfl) (fun _ _ _ h => h) (by rfl) (by assumption) ?_
          try simp only [layR]
          refine takeNo 14 rfl (by kernel_rfl) (by kernel_rfl) (by kernel_rfl) (fun _ _ _ h => h) (by rfl) (by assumption) ?_
          try simp only [layR]
          refine takeNo 15 rfl (by kernel_rfl) (by kernel_rfl) (by kernel_rfl) (fun _ _ _ h => h) (by rfl) (by assumption) ?_
          try simp only [layR]
          refine takeNo 16 rfl (by kernel_rfl) (by kernel_rfl) (by kernel_rfl) (fun _ _ _ h => h) (by rfl) (by assumption) ?_
          try simp only [layR]
          refine takeNo 17 rfl (by kernel_rfl) (by kernel_rfl) (by kernel_rfl) (fun _ _ _ h => h) (by rfl) (by assumption) ?_
          try simp only [layR]
          refine takeV 18 (v := (.bool true)) rfl (by kernel_rfl) (by kernel_rfl) (by kernel_rfl) (fun _ _ _ h => h) (by rfl) (fun W hSw => ?_) (by assumption) ?_
          · skip
            go_simp
          try simp only [layR]
          refine takeV 19 (v := (.bool true)) rfl (by kernel_rfl) (by kernel_rfl) (by kernel_rfl) (fun _ _ _ h => h) (by rfl) (fun W hSw => ?_) (by assumption) ?_
          · skip
            go_simp
          try simp only [layR]
          refine wpAnyH_done (by kernel_rfl) ?_ _
          refine NoPanic.normal ?_
          have HBf := Lib.hid hS0.1
          clear hS0
          go_wp2_with fail
          go_roundw
          case rel => exact ⟨k + 1, by omega, by go_num, (congrArg (fun o => Value.int .i64 (Gc.oI o)) HE.out).symm, HBf.out⟩
          case measure => simp [intOf]; omega
        | some q =>
          have hq : q < k := (Gc.best_some ho).1
          have hpos : Gc.oI (some q) = (q : Int) := rfl
          have hnn : ((q : Int) == -1) = false := by rw [beq_eq_false_iff_ne]; omega
          have hq0 : (0 : Int) ≤ (q : Int) := by omega
          have hq1 : (q : Int) < (NB : Int) := by omega
          have HY := Lib.hid (fun (W' : World) (hW : Below w.heap.size w W') => ((HH.out.on hW).r2 (k := q) (by omega)).1)
          rw [hpos]
          have hE2 : Gc.best isFree Gc.worn g.l (k + 1) = if Gc.worn x (Gc.at_ g.l q) then some k else some q := by rw [hE, hp, ho]; show (if (true && Gc.worn x (Gc.at_ g.l q)) = true then some k else some q) = _; rw [Bool.true_and]
          generalize Gc.at_ g.l q = y at *
          have HE := Lib.hid hE2
          clear hE hE2
          refine wp_region_noPanic ?_
          refine wp_region_held_drew (S := (fun W' => Below w.heap.size w W' ∧ Blk W' gx 99 #[.int .i64 (x.st : Int), .int .i64 (x.live : Int), .int .i64 (x.wear : Int), .int .i64 (x.nx : Int)])) (by kernel_rfl) HS0.out (fun hS0 => ?_)
          refine takeV 0 (v := (.pointer (some ⟨gx, 0, none⟩))) rfl (by kernel_rfl) (by kernel_rfl) (by kernel_rfl) (fun _ _ _ h => h) (by rfl) (fun W hSw => ?_) (by assumption) ?_
          · skip
            go_simp
          try simp only [layR]
          refine takeV 1 (v := (.int .i64 (x.st : Int))) rfl (by kernel_rfl) (by kernel_rfl) (by kernel_rfl) (fun _ _ _ h => h) (by rfl) (fun W hSw => ?_) (by assumption) ?_
          · have y0 := hSw.2.cellv (i := 0) rfl
            go_simp
          try simp only [layR]
          refine takeV 2 (v := (.bool true)) rfl (by kernel_rfl) (by kernel_rfl) (by kernel_rfl) (fun _ _ _ h => h) (by rfl) (fun W hSw => ?_) (by assumption) ?_
          · skip
            go_simp
          try simp only [layR]
          refine takeV 3 (v := (.bool true)) rfl (by kernel_rfl) (by kernel_rfl) (by kernel_rfl) (fun _ _ _ h => h) (by rfl) (fun W hSw => ?_) (by assumption) ?_
          · skip
            go_simp
          try simp only [layR]
          refine takeV 4 (v := (.int .i64 (q : Int))) rfl (by kernel_rfl) (by kernel_rfl) (by kernel_rfl) (fun _ _ _ h => h) (by rfl) (fun W hSw => ?_) (by assumption) ?_
          · skip
            go_simp
          try simp only [layR]
          refine takeV 5 (v := (.bool false)) rfl (by kernel_rfl) (by kernel_rfl) (by kernel_rfl) (fun _ _ _ h => h) (by rfl) (fun W hSw => ?_) (by assumption) ?_
          · skip
            go_simp
          try simp only [layR]
          refine takeV 6 (v := (.bool false)) rfl (by kernel_rfl) (by kernel_rfl) (by kernel_rfl) (fun _ _ _ h => h) (by rfl) (fun W hSw => ?_) (by assumption) ?_
          · skip
            go_simp
          try simp only [layR]
          refine takeV 7 (v := (.pointer (some ⟨gx, 2, none⟩))) rfl (by kernel_rfl) (by kernel_rfl) (by kernel_rfl) (fun _ _ _ h => h) (by rfl) (fun W hSw => ?_) (by assumption) ?_
          · skip
            go_simp
          try simp only [layR]
          refine takeV 8 (v := (.int .i64 (x.wear : Int))) rfl (by kernel_rfl) (by kernel_rfl) (by kernel_rfl) (fun _ _ _ h => h) (by rfl) (fun W hSw => ?_) (by assumption) ?_
          · have y0 := hSw.2.cellv (i := 2) rfl
            go_simp
          try simp only [layR]
          refine takeV 9 (v := (.pointer (some ⟨g.M, 0, none⟩))) rfl (by kernel_rfl) (by kernel_rfl) (by kernel_rfl) (fun _ _ _ h => h) (by rfl) (fun _ _ => rfl) (by assumption) ?_
          try simp only [layR]
          refine takeV 10 (v := (.pointer (some ⟨g.M, 0, none⟩))) rfl (by kernel_rfl) (by kernel_rfl) (by kernel_rfl) (fun _ _ _ h => h) (by rfl) (fun W hSw => ?_) (by assumption) ?_
          · skip
            go_simp
          try simp only [layR]
          refine takeV 11 (v := (.pointer (some ⟨g.M, 1, none⟩))) rfl (by kernel_rfl) (by kernel_rfl) (by kernel_rfl) (fun _ _ _ h => h) (by rfl) (fun W hSw => ?_) (by assumption) ?_
          · skip
            go_simp
          try simp only [layR]
          refine takeV 12 (v := (.slice (some ⟨g.ML, 0, none⟩) NB g.cap)) rfl (by kernel_rfl) (by kernel_rfl) (by kernel_rfl) (fun _ _ _ h => h) (by rfl) (fun W hSw => ?_) (by assumption) ?_
          · have y0 := (HH.out.on hSw.1).m1
            go_simp
          try simp only [layR]
          refine takeV 13 (v := (.int .i64 (q : Int))) rfl (by kernel_rfl) (by kernel_rfl) (by kernel_rfl) (fun _ _ _ h => h) (by rfl) (fun _ _ => rfl) (by assumption) ?_
          try simp only [layR]
          refine takeV 14 (v := (.pointer (some ⟨g.ML, q * 4, none⟩))) rfl (by kernel_rfl) (by kernel_rfl) (by kernel_rfl) (fun _ _ _ h => h) (by rfl) (fun W hSw => ?_) (by assumption) ?_
          · skip
            go_simp
          try simp only [layR]
          refine takeV 15 (v := (.pointer (some ⟨g.ML, q * 4 + 2, none⟩))) rfl (by kernel_rfl) (by kernel_rfl) (by kernel_rfl) (fun _ _ _ h => h) (by rfl) (fun W hSw => ?_) (by assumption) ?_
          · skip
            go_simp
          try simp only [layR]
          refine takeV 16 (v := (.int .i64 (y.wear : Int))) rfl (by kernel_rfl) (by kernel_rfl) (by kernel_rfl) (fun _ _ _ h => h) (by rfl) (fun W hSw => ?_) (by assumption) ?_
          · have y0 := HY.out _ hSw.1
            go_simp
          try simp only [layR]
          refine takeV 17 (v := (.bool (decide (x.wear < y.wear)))) rfl (by kernel_rfl) (by kernel_rfl) (by kernel_rfl) (fun _ _ _ h => h) (by rfl) (fun W hSw => ?_) (by assumption) ?_
          · skip
            go_simp
          try simp only [layR]
          refine takeV 18 (v := (.bool (decide (x.wear < y.wear)))) rfl (by kernel_rfl) (by kernel_rfl) (by kernel_rfl) (fun _ _ _ h => h) (by rfl) (fun W hSw => ?_) (by assumption) ?_
          · skip
            go_simp
          try simp only [layR]
          refine takeV 19 (v := (.bool (decide (x.wear < y.wear)))) rfl (by kernel_rfl) (by kernel_rfl) (by kernel_rfl) (fun _ _ _ h => h) (by rfl) (fun W hSw => ?_) (by assumption) ?_
          · skip
            go_simp
          try simp only [layR]
          refine wpAnyH_done (by kernel_rfl) ?_ _
          refine NoPanic.normal ?_
          have HBf := Lib.hid hS0.1
          clear hS0
          have HW := Lib.hid (show Gc.worn x y = decide (x.wear < y.wear) from rfl)
          cases hl : decide (x.wear < y.wear)
          · rw [HW.out, hl, if_neg (by simp)] at HE
            clear HW
            go_wp2_with fail
            go_roundw
            case rel => exact ⟨k + 1, by omega, by go_num, (congrArg (fun o => Value.int .i64 (Gc.oI o)) HE.out).symm, HBf.out⟩
            case measure => simp [intOf]; omega
          · rw [HW.out, hl, if_pos rfl] at HE
            clear HW
            go_wp2_with fail
            go_roundw
            case rel => exact ⟨k + 1, by omega, by go_num, (congrArg (fun o => Value.int .i64 (Gc.oI o)) HE.out).symm, HBf.out⟩
            case measure => simp [intOf]; omega
    · obtain rfl : k = NB := by omega
      have hr := HH.out.on HBr.out
      have HR := Lib.hid hr
      clear hr
      cases ho : Gc.best isFree Gc.worn g.l k with
      | none =>
        have hneg : Gc.oI none = -1 := rfl
        rw [hneg]
        have HO := Lib.hid ho
        clear ho
        go_wp2_with fail
        go_ret
        unfold Began
        rw [HO.out]
        exact ⟨rfl, HBr.out⟩
      | some a =>
        have hq : a < k := (Gc.best_some ho).1
        have hpos : Gc.oI (some a) = (a : Int) := rfl
        have hnn : ((a : Int) == -1) = false := by rw [beq_eq_false_iff_ne]; omega
        have hq0 : (0 : Int) ≤ (a : Int) := by omega
        have hq1 : (a : Int) < (k : Int) := by omega
        rw [hpos]
        have HO := Lib.hid ho
        clear ho
        go_upto_region 10 with fail
        have hd := HR.out.on (below_drew wr)
        have m1 := hd.m1
        have r2 := (hd.r2 hq).1
        have hx : ∃ x, x = Gc.at_ g.l a := ⟨_, rfl⟩
        obtain ⟨x, hx⟩ := hx
        rw [← hx] at r2
        have HX := Lib.hid hx
        have HD := Lib.hid hd
        have HK0 := Lib.hid (((Kq.of HBr.out).mono (T := fun q => q = g.M ∨ q = g.ML) (T' := fun q => q = g.M ∨ q = g.ML) fun _ h => h).on (below_drew wr))
        clear hd hx
        refine wp_region_noPanic ?_
        refine wp_region_held_drew (S := (fun W' => W'.cell? ⟨g.M, 1, none⟩ = some (.slice (some ⟨g.ML, 0, none⟩) k g.cap) ∧ W'.cell? ⟨g.ML, a * 4 + 2, none⟩ = some (.int .i64 (x.wear : Int)))) (by kernel_rfl) ⟨m1, r2⟩ (fun hS0 => ?_)
        generalize wr.drew = w2 at *
        have HS := Lib.hid (show MgM k B S ((((w2.setCell ⟨g.ML, a * 4, none⟩ (.int .i64 1)).setCell ⟨g.ML, a * 4 + 1, none⟩ (.int .i64 0)).setCell ⟨g.ML, a * 4 + 2, none⟩ (.int .i64 (x.wear : Int))).setCell ⟨g.ML, a * 4 + 3, none⟩ (.int .i64 0)) { g with l := g.l.set a ⟨1, 0, x.wear, 0⟩ } from HD.out.setRow hq ⟨1, 0, x.wear, 0⟩)
        have HK := Lib.hid (show Kq (fun q => q = g.M ∨ q = g.ML) w ((((w2.setCell ⟨g.ML, a * 4, none⟩ (.int .i64 1)).setCell ⟨g.ML, a * 4 + 1, none⟩ (.int .i64 0)).setCell ⟨g.ML, a * 4 + 2, none⟩ (.int .i64 (x.wear : Int))).setCell ⟨g.ML, a * 4 + 3, none⟩ (.int .i64 0)) from kq_row HK0.out (.inr rfl) ⟨1, 0, x.wear, 0⟩)
        have n1 := HS.out.m1
        have n2 := (HS.out.r2 hq).1
        rw [at_set _ _ (by omega)] at n2
        have n3 := HS.out.m2
        have n4 := HS.out.frzM 2
        obtain ⟨x0, y0⟩ := HD.out.r0 hq
        obtain ⟨x1, y1⟩ := HD.out.r1 hq
        obtain ⟨x2, y2⟩ := HD.out.r2 hq
        obtain ⟨x3, y3⟩ := HD.out.r3 hq
        rw [← HX.out] at x0 x1 x2 x3
        refine takeV 0 (v := (.pointer (some ⟨g.M, 0, none⟩))) rfl (by kernel_rfl) (by kernel_rfl) (by kernel_rfl) (fun _ _ _ h => h) (by rfl) (fun _ _ => rfl) (by assumption) ?_
        try simp only [layR]
        refine takeV 1 (v := (.pointer (some ⟨g.M, 0, none⟩))) rfl (by kernel_rfl) (by kernel_rfl) (by kernel_rfl) (fun _ _ _ h => h) (by rfl) (fun W hSw => ?_) (by assumption) ?_
        · skip
          go_simp
        try simp only [layR]
        refine takeV 2 (v := (.pointer (some ⟨g.M, 1, none⟩))) rfl (by kernel_rfl) (by kernel_rfl) (by kernel_rfl) (fun _ _ _ h => h) (by rfl) (fun W hSw => ?_) (by assumption) ?_
        · skip
          go_simp
        try simp only [layR]
        refine takeV 3 (v := (.slice (some ⟨g.ML, 0, none⟩) k g.cap)) rfl (by kernel_rfl) (by kernel_rfl) (by kernel_rfl) (fun _ _ _ h => h) (by rfl) (fun W hSw => ?_) (by assumption) ?_
        · have y9 := hSw.1
          go_simp
        try simp only [layR]
        refine takeV 4 (v := (.int .i64 (a : Int))) rfl (by kernel_rfl) (by kernel_rfl) (by kernel_rfl) (fun _ _ _ h => h) (by rfl) (fun _ _ => rfl) (by assumption) ?_
        try simp only [layR]
        refine takeV 5 (v := (.pointer (some ⟨g.M, 0, none⟩))) rfl (by kernel_rfl) (by kernel_rfl) (by kernel_rfl) (fun _ _ _ h => h) (by rfl) (fun _ _ => rfl) (by assumption) ?_
        try simp only [layR]
        refine takeV 6 (v := (.pointer (some ⟨g.M, 0, none⟩))) rfl (by kernel_rfl) (by kernel_rfl) (by kernel_rfl) (fun _ _ _ h => h) (by rfl) (fun W hSw => ?_) (by assumption) ?_
        · skip
          go_simp
        try simp only [layR]
        refine takeV 7 (v := (.pointer (some ⟨g.M, 1, none⟩))) rfl (by kernel_rfl) (by kernel_rfl) (by kernel_rfl) (fun _ _ _ h => h) (by rfl) (fun W hSw => ?_) (by assumption) ?_
        · skip
          go_simp
        try simp only [layR]
        refine takeV 8 (v := (.slice (some ⟨g.ML, 0, none⟩) k g.cap)) rfl (by kernel_rfl) (by kernel_rfl) (by kernel_rfl) (fun _ _ _ h => h) (by rfl) (fun W hSw => ?_) (by assumption) ?_
        · have y9 := hSw.1
          go_simp
        try simp only [layR]
        refine takeV 9 (v := (.int .i64 (a : Int))) rfl (by kernel_rfl) (by kernel_rfl) (by kernel_rfl) (fun _ _ _ h => h) (by rfl) (fun _ _ => rfl) (by assumption) ?_
        try simp only [layR]
        refine takeV 10 (v := (.pointer (some ⟨g.ML, a * 4, none⟩))) rfl (by kernel_rfl) (by kernel_rfl) (by kernel_rfl) (fun _ _ _ h => h) (by rfl) (fun W hSw => ?_) (by assumption) ?_
        · skip
          go_simp
        try simp only [layR]
        refine takeV 11 (v := (.pointer (some ⟨g.ML, a * 4 + 2, none⟩))) rfl (by kernel_rfl) (by kernel_rfl) (by kernel_rfl) (fun _ _ _ h => h) (by rfl) (fun W hSw => ?_) (by assumption) ?_
        · skip
          go_simp
        try simp only [layR]
        refine takeV 12 (v := (.int .i64 (x.wear : Int))) rfl (by kernel_rfl) (by kernel_rfl) (by kernel_rfl) (fun _ _ _ h => h) (by rfl) (fun W hSw => ?_) (by assumption) ?_
        · have y9 := hSw.2
          go_simp
        try simp only [layR]
        refine takeV 13 (v := (.agg #[.int .i64 1, .int .i64 0, .int .i64 (x.wear : Int), .int .i64 0])) rfl (by kernel_rfl) (by kernel_rfl) (by kernel_rfl) (fun _ _ _ h => h) (by rfl) (fun W hSw => ?_) (by assumption) ?_
        · skip
          go_simp
        try simp only [layR]
        refine takeV 14 (v := (.pointer (some ⟨g.ML, a * 4, none⟩))) rfl (by kernel_rfl) (by kernel_rfl) (by kernel_rfl) (fun _ _ _ h => h) (by rfl) (fun W hSw => ?_) (by assumption) ?_
        · skip
          go_simp
        try simp only [layR]
        refine wpAnyH_ready (rs := [15]) (by kernel_rfl) (by simp) ?_
        refine AllReadyH.cons rfl (fun K' hK => ?_) AllReadyH.nil
        go_simp
        refine hK.out _ _ ⟨n1, n2⟩ (fun hS1 => ?_)
        try simp only [layR]
        refine wpAnyH_done (by kernel_rfl) ?_ _
        refine NoPanic.normal ?_
        clear hS0 hS1 m1 r2 x0 x1 x2 x3 y0 y1 y2 y3 n1 n2
        generalize (((w2.setCell ⟨g.ML, a * 4, none⟩ (.int .i64 1)).setCell ⟨g.ML, a * 4 + 1, none⟩ (.int .i64 0)).setCell ⟨g.ML, a * 4 + 2, none⟩ (.int .i64 (x.wear : Int))).setCell ⟨g.ML, a * 4 + 3, none⟩ (.int .i64 0) = w3 at *
        have HS2 := Lib.hid (HS.out.setO (a : Int))
        have HK2 := Lib.hid (HK.out.setCell (p := ⟨g.M, 2, none⟩) (.inl (.inl rfl)) (.int .i64 (a : Int)))
        go_wp2
        go_ret
        unfold Began
        rw [HO.out]
        have hs := HS2.out
        rw [HX.out] at hs
        exact ⟨rfl, hs, HK2.out⟩
end
end Go.Proofs.YtiipnpfaaghekaaGreat
namespace Go.Proofs.YtiipnpfaaghekaaGreat
open Go.RowKit

section
variable {NB B : Nat} {S : Nat → Prop} {w : World} {g : Mg}
theorem MgM.upup {w0 w1 : World} (h : MgM NB B (Up S w0 w1) w g) (h0 : B ≤ w0.heap.size) (hM : g.M < w0.heap.size) (hL : g.ML < w0.heap.size) (hs : w1.heap.size ≤ w.heap.size) : MgM NB B (Up S w0 w) w g :=
  ⟨h.hM, h.hL, h.hc.upup h0 hs, h.ne, fun h1 => h.sM (.inl (up_of h1 hM)), fun h1 => h.sL (.inl (up_of h1 hL)), h.bM, h.bL, h.nb⟩
theorem MgM.re {w0 wa wb : World} (h : MgM NB B (Up S wa wb) w g) (h0 : B ≤ w0.heap.size) (hM : g.M < w0.heap.size) (hL : g.ML < w0.heap.size) (h1 : w0.heap.size ≤ wa.heap.size) (hs : wb.heap.size ≤ w.heap.size) : MgM NB B (Up S w0 w) w g :=
  ⟨h.hM, h.hL, h.hc.re h0 h1 hs, h.ne, fun h2 => h.sM (.inl (up_of h2 hM)), fun h2 => h.sL (.inl (up_of h2 hL)), h.bM, h.bL, h.nb⟩
/-- The manager behind an erasing. -/
def erG (g : Mg) (k : Nat) (ps' : Nat → Nat) : Mg := { g with ps := ps', bl := upd g.bl k (fresh ((g.bl k).wear + 1)), l := g.l.set k ⟨0, 0, (g.bl k).wear + 1, 0⟩, opn := if g.opn = (k : Int) then -1 else g.opn }
set_option maxRecDepth 100000 in
set_option maxHeartbeats 8000000 in
theorem bErase_calls (h : MgM NB B S w g) {k : Nat} (hk : k < NB) (hg : Gc.good (Gc.at_ g.l k) = true) (hv : (Gc.at_ g.l k).live = 0) (hn : ¬ ((Gc.at_ g.l k).st = 1 ∧ 0 < (Gc.at_ g.l k).nx)) (hb : (g.bl k).bad = false) (hw : (g.bl k).wear ≤ 1099511627776) :
    Calls Tryz.prog 110 #[.pointer (some ⟨g.M, 0, none⟩), .int .i64 (k : Int)] w fun e w' => e = .returned (.int .i64 0) ∧ (∃ ps', MgM NB B (Up S w w') w' (erG g k ps')) ∧ Kq (Sm g S) w w' := by
  have HI := Lib.hid (bidle_calls h hk hg hv)
  have HE := Lib.hid (chErase_calls h.hc hk hb hw)
  have m0 := h.m0
  have m1 := h.m1
  have r0 := (h.r0 hk).1
  have r3 := (h.r3 hk).1
  have g1 : (0 : Int) ≤ (k : Int) := by omega
  have g2 : (k : Int) < (NB : Int) := by omega
  have HH := Lib.hid h
  have hlen := h.len
  generalize hx : Gc.at_ g.l k = x at *
  have HX := Lib.hid hx
  have HN := Lib.hid hn
  clear h hg hv hb hw hx hn
  go_enter Tryz.func110, Tryz.ntmps110
  go_wp2_with fail
  refine (HI.out).mono ?_
  rintro e w_ ⟨rfl, rfl⟩
  go_upto_region 4 with fail
  go_cut [32] (fun v wx => v = .bool false ∧ w = wx)
  case first =>
    cases hs : ((x.st : Int) == 1)
    · go_wp2_with fail
      go_meet
      exact ⟨rfl, rfl⟩
    · have hz : x.nx = 0 := by
        have := HN.out
        rw [beq_iff_eq] at hs
        omega
      rw [hz] at r3
      go_wp2_with fail
      go_meet
      exact ⟨rfl, rfl⟩
  case rest =>
    obtain ⟨rfl, hw⟩ := hcut
    subst hw
    clear r0 r3
    go_wp2_with fail
    refine HE.out.mono ?_
    rintro e w1 ⟨rfl, ⟨ps', h1⟩, hk1⟩
    have hg1 := HH.out.chip (ps' := ps') h1 hk1 (fun q hq => hq)
    have HS1 := Lib.hid hk1.size
    have HK1 := Lib.hid ((hk1.mono (T' := Sm g S) fun q hq => .inr (.inr hq)).on (below_drew w1))
    have HG1 := Lib.hid (hg1.on (below_drew w1))
    have n0 := HG1.out.m0
    have n1 := HG1.out.m1
    have HBn := Lib.hid HH.out.base
    have HM := Lib.hid HH.out.ltM
    have HL := Lib.hid HH.out.ltL
    have hne := HH.out.ne
    clear h1 hk1 hg1 m0 m1 HE HI
    simp only at n0 n1
    generalize hr : (g.bl k).wear = r at *
    have HR := Lib.hid hr
    clear hr
    go_upto_region 7 with fail
    refine wp_region_noPanic ?_
    refine wp_region_held_drew (S := (fun W' => W'.cell? ⟨g.M, 0, none⟩ = some (.pointer (some ⟨g.C, 0, none⟩)) ∧ W'.cell? ⟨g.M, 1, none⟩ = some (.slice (some ⟨g.ML, 0, none⟩) NB g.cap))) (by kernel_rfl) ⟨n0, n1⟩ (fun hS0 => ?_)
    generalize hw2 : w1.drew = w2 at *
    have HS2 := Lib.hid (show w.heap.size ≤ w2.heap.size from hw2 ▸ HS1.out)
    have HUp := Lib.hid (show w1.heap.size = w2.heap.size from hw2 ▸ rfl)
    clear hw2
    have HW := Lib.hid (show Calls Tryz.prog 31 #[.pointer (some ⟨g.C, 0, none⟩), .int .i64 (k : Int)] w2 fun e w' => e = .returned (.int .i64 ((r + 1 : Nat) : Int)) ∧ w2 = w' by
      have t := chWear_calls HG1.out.hc hk
      have e : (upd g.bl k (fresh (r + 1)) k).wear = r + 1 := by rw [upd_same]; rfl
      rw [← e]
      exact t)
    refine takeV 0 (v := (.pointer (some ⟨g.M, 0, none⟩))) rfl (by kernel_rfl) (by kernel_rfl) (by kernel_rfl) (fun _ _ _ h => h) (by rfl) (fun _ _ => rfl) (by assumption) ?_
    try simp only [layR]
    refine takeV 1 (v := (.pointer (some ⟨g.M, 0, none⟩))) rfl (by kernel_rfl) (by kernel_rfl) (by kernel_rfl) (fun _ _ _ h => h) (by rfl) (fun W hSw => ?_) (by assumption) ?_
    · skip
      go_simp
    try simp only [layR]
    refine takeV 2 (v := (.pointer (some ⟨g.M, 1, none⟩))) rfl (by kernel_rfl) (by kernel_rfl) (by kernel_rfl) (fun _ _ _ h => h) (by rfl) (fun W hSw => ?_) (by assumption) ?_
    · skip
      go_simp
    try simp only [layR]
    refine takeV 3 (v := (.slice (some ⟨g.ML, 0, none⟩) NB g.cap)) rfl (by kernel_rfl) (by kernel_rfl) (by kernel_rfl) (fun _ _ _ h => h) (by rfl) (fun W hSw => ?_) (by assumption) ?_
    · have y9 := hSw.2
      go_simp
    try simp only [layR]
    refine takeV 4 (v := (.int .i64 (k : Int))) rfl (by kernel_rfl) (by kernel_rfl) (by kernel_rfl) (fun _ _ _ h => h) (by rfl) (fun _ _ => rfl) (by assumption) ?_
    try simp only [layR]
    refine takeV 5 (v := (.pointer (some ⟨g.M, 0, none⟩))) rfl (by kernel_rfl) (by kernel_rfl) (by kernel_rfl) (fun _ _ _ h => h) (by rfl) (fun _ _ => rfl) (by assumption) ?_
    try simp only [layR]
    refine takeV 6 (v := (.pointer (some ⟨g.M, 0, none⟩))) rfl (by kernel_rfl) (by kernel_rfl) (by kernel_rfl) (fun _ _ _ h => h) (by rfl) (fun W hSw => ?_) (by assumption) ?_
    · skip
      go_simp
    try simp only [layR]
    refine takeV 7 (v := (.pointer (some ⟨g.M, 0, none⟩))) rfl (by kernel_rfl) (by kernel_rfl) (by kernel_rfl) (fun _ _ _ h => h) (by rfl) (fun W hSw => ?_) (by assumption) ?_
    · skip
      go_simp
    try simp only [layR]
    refine takeV 8 (v := (.pointer (some ⟨g.C, 0, none⟩))) rfl (by kernel_rfl) (by kernel_rfl) (by kernel_rfl) (fun _ _ _ h => h) (by rfl) (fun W hSw => ?_) (by assumption) ?_
    · have y9 := hSw.1
      go_simp
    try simp only [layR]
    refine takeV 9 (v := (.int .i64 (k : Int))) rfl (by kernel_rfl) (by kernel_rfl) (by kernel_rfl) (fun _ _ _ h => h) (by rfl) (fun _ _ => rfl) (by assumption) ?_
    try simp only [layR]
    refine wpAnyH_ready (rs := [10]) (by kernel_rfl) (by simp) ?_
    refine AllReadyH.cons rfl (fun K' hK => ?_) AllReadyH.nil
    go_simp
    refine HW.out.mono ?_
    rintro e w_ ⟨rfl, rfl⟩
    refine hK.out _ _ hS0 (fun hS1 => ?_)
    try simp only [layR]
    refine takeV 11 (v := (.pointer (some ⟨g.ML, k * 4, none⟩))) rfl (by kernel_rfl) (by kernel_rfl) (by kernel_rfl) (fun _ _ _ h => h) (by rfl) (fun W hSw => ?_) (by assumption) ?_
    · skip
      go_simp
    try simp only [layR]
    refine takeV 12 (v := (.pointer (some ⟨g.ML, k * 4 + 2, none⟩))) rfl (by kernel_rfl) (by kernel_rfl) (by kernel_rfl) (fun _ _ _ h => h) (by rfl) (fun W hSw => ?_) (by assumption) ?_
    · skip
      go_simp
    try simp only [layR]
    obtain ⟨x2, y2⟩ := HG1.out.r2 hk
    have hs2 := HG1.out.setL hk (j := 2) (by omega) (.int .i64 ((r + 1 : Nat) : Int)) { Gc.at_ g.l k with wear := r + 1 } rfl
    have hk2 := HK1.out.setCell (p := ⟨g.ML, k * 4 + 2, none⟩) (.inl (.inr (.inl rfl))) (.int .i64 ((r + 1 : Nat) : Int))
    have e1 : ((r + 1 : Nat) : Int) = (r : Int) + 1 := by omega
    rw [e1] at hs2 hk2
    have HG2 := Lib.hid hs2
    have HK2 := Lib.hid hk2
    have p0 := hs2.m0
    have p1 := hs2.m1
    simp only at p0 p1
    clear hs2 hk2 e1
    refine wpAnyH_ready (rs := [13]) (by kernel_rfl) (by simp) ?_
    refine AllReadyH.cons rfl (fun K' hK => ?_) AllReadyH.nil
    go_simp
    refine hK.out _ _ ⟨p0, p1⟩ (fun hS2 => ?_)
    try simp only [layR]
    refine wpAnyH_done (by kernel_rfl) ?_ _
    refine NoPanic.normal ?_
    clear hS0 hS1 hS2 n0 n1 p0 p1 x2 y2
    have HUp2 := Lib.hid (show w1.heap.size = (w2.setCell ⟨g.ML, k * 4 + 2, none⟩ (.int .i64 ((r : Int) + 1))).heap.size by rw [World.size_setCell]; exact HUp.out)
    generalize w2.setCell ⟨g.ML, k * 4 + 2, none⟩ (.int .i64 ((r : Int) + 1)) = w3 at *
    go_upto_region 11 with fail
    have HG3 := Lib.hid (HG2.out.on (below_drew w3))
    have HK3 := Lib.hid (HK2.out.on (below_drew w3))
    have n0 := HG3.out.m0
    have n1 := HG3.out.m1
    simp only at n0 n1
    refine wp_region_noPanic ?_
    refine wp_region_held_drew (S := (fun W' => W'.cell? ⟨g.M, 0, none⟩ = some (.pointer (some ⟨g.C, 0, none⟩)) ∧ W'.cell? ⟨g.M, 1, none⟩ = some (.slice (some ⟨g.ML, 0, none⟩) NB g.cap))) (by kernel_rfl) ⟨n0, n1⟩ (fun hS0 => ?_)
    have HUp3 := Lib.hid (show w1.heap.size = w3.drew.heap.size from HUp2.out)
    generalize w3.drew = w4 at *
    have HW2 := Lib.hid (show Calls Tryz.prog 31 #[.pointer (some ⟨g.C, 0, none⟩), .int .i64 (k : Int)] w4 fun e w' => e = .returned (.int .i64 ((r + 1 : Nat) : Int)) ∧ w4 = w' by
      have t := chWear_calls HG3.out.hc hk
      have e : (upd g.bl k (fresh (r + 1)) k).wear = r + 1 := by rw [upd_same]; rfl
      rw [← e]
      exact t)
    refine takeV 0 (v := (.pointer (some ⟨g.M, 0, none⟩))) rfl (by kernel_rfl) (by kernel_rfl) (by kernel_rfl) (fun _ _ _ h => h) (by rfl) (fun _ _ => rfl) (by assumption) ?_
    try simp only [layR]
    refine takeV 1 (v := (.pointer (some ⟨g.M, 0, none⟩))) rfl (by kernel_rfl) (by kernel_rfl) (by kernel_rfl) (fun _ _ _ h => h) (by rfl) (fun W hSw => ?_) (by assumption) ?_
    · skip
      go_simp
    try simp only [layR]
    refine takeV 2 (v := (.pointer (some ⟨g.M, 1, none⟩))) rfl (by kernel_rfl) (by kernel_rfl) (by kernel_rfl) (fun _ _ _ h => h) (by rfl) (fun W hSw => ?_) (by assumption) ?_
    · skip
      go_simp
    try simp only [layR]
    refine takeV 3 (v := (.slice (some ⟨g.ML, 0, none⟩) NB g.cap)) rfl (by kernel_rfl) (by kernel_rfl) (by kernel_rfl) (fun _ _ _ h => h) (by rfl) (fun W hSw => ?_) (by assumption) ?_
    · have y9 := hSw.2
      go_simp
    try simp only [layR]
    refine takeV 4 (v := (.int .i64 (k : Int))) rfl (by kernel_rfl) (by kernel_rfl) (by kernel_rfl) (fun _ _ _ h => h) (by rfl) (fun _ _ => rfl) (by assumption) ?_
    try simp only [layR]
    refine takeV 5 (v := (.pointer (some ⟨g.M, 0, none⟩))) rfl (by kernel_rfl) (by kernel_rfl) (by kernel_rfl) (fun _ _ _ h => h) (by rfl) (fun _ _ => rfl) (by assumption) ?_
    try simp only [layR]
    refine takeV 6 (v := (.pointer (some ⟨g.M, 0, none⟩))) rfl (by kernel_rfl) (by kernel_rfl) (by kernel_rfl) (fun _ _ _ h => h) (by rfl) (fun W hSw => ?_) (by assumption) ?_
    · skip
      go_simp
    try simp only [layR]
    refine takeV 7 (v := (.pointer (some ⟨g.M, 0, none⟩))) rfl (by kernel_rfl) (by kernel_rfl) (by kernel_rfl) (fun _ _ _ h => h) (by rfl) (fun W hSw => ?_) (by assumption) ?_
    · skip
      go_simp
    try simp only [layR]
    refine takeV 8 (v := (.pointer (some ⟨g.C, 0, none⟩))) rfl (by kernel_rfl) (by kernel_rfl) (by kernel_rfl) (fun _ _ _ h => h) (by rfl) (fun W hSw => ?_) (by assumption) ?_
    · have y9 := hSw.1
      go_simp
    try simp only [layR]
    refine takeV 9 (v := (.int .i64 (k : Int))) rfl (by kernel_rfl) (by kernel_rfl) (by kernel_rfl) (fun _ _ _ h => h) (by rfl) (fun _ _ => rfl) (by assumption) ?_
    try simp only [layR]
    refine wpAnyH_ready (rs := [10]) (by kernel_rfl) (by simp) ?_
    refine AllReadyH.cons rfl (fun K' hK => ?_) AllReadyH.nil
    go_simp
    refine HW2.out.mono ?_
    rintro e w_ ⟨rfl, rfl⟩
    refine hK.out _ _ hS0 (fun hS1 => ?_)
    try simp only [layR]
    refine takeV 11 (v := (.agg #[.int .i64 0, .int .i64 0, .int .i64 ((r : Int) + 1), .int .i64 0])) rfl (by kernel_rfl) (by kernel_rfl) (by kernel_rfl) (fun _ _ _ h => h) (by rfl) (fun W hSw => ?_) (by assumption) ?_
    · skip
      go_simp
    try simp only [layR]
    refine takeV 12 (v := (.pointer (some ⟨g.ML, k * 4, none⟩))) rfl (by kernel_rfl) (by kernel_rfl) (by kernel_rfl) (fun _ _ _ h => h) (by rfl) (fun W hSw => ?_) (by assumption) ?_
    · skip
      go_simp
    try simp only [layR]
    have hs5 := HG3.out.setRow hk ⟨0, 0, r + 1, 0⟩
    simp only [List.set_set] at hs5
    have HG5 := Lib.hid (show MgM NB B _ ((((w4.setCell ⟨g.ML, k * 4, none⟩ (.int .i64 0)).setCell ⟨g.ML, k * 4 + 1, none⟩ (.int .i64 0)).setCell ⟨g.ML, k * 4 + 2, none⟩ (.int .i64 ((r : Int) + 1))).setCell ⟨g.ML, k * 4 + 3, none⟩ (.int .i64 0)) { g with ps := ps', bl := upd g.bl k (fresh (r + 1)), l := g.l.set k ⟨0, 0, r + 1, 0⟩ } from hs5)
    have HK5 := Lib.hid (show Kq (Sm g S) w ((((w4.setCell ⟨g.ML, k * 4, none⟩ (.int .i64 0)).setCell ⟨g.ML, k * 4 + 1, none⟩ (.int .i64 0)).setCell ⟨g.ML, k * 4 + 2, none⟩ (.int .i64 ((r : Int) + 1))).setCell ⟨g.ML, k * 4 + 3, none⟩ (.int .i64 0)) from kq_row HK3.out (.inr (.inl rfl)) ⟨0, 0, r + 1, 0⟩)
    obtain ⟨x0, y0⟩ := HG3.out.r0 hk
    obtain ⟨x1, y1⟩ := HG3.out.r1 hk
    obtain ⟨x2, y2⟩ := HG3.out.r2 hk
    obtain ⟨x3, y3⟩ := HG3.out.r3 hk
    have p0 := HG5.out.m0
    have p1 := HG5.out.m1
    have p2 := HG5.out.m2
    have p3 := HG5.out.frzM 2
    simp only at p0 p1 p2 p3 x0 x1 x2 x3 y0 y1 y2 y3
    clear hs5
    refine wpAnyH_ready (rs := [13]) (by kernel_rfl) (by simp) ?_
    refine AllReadyH.cons rfl (fun K' hK => ?_) AllReadyH.nil
    go_simp
    refine hK.out _ _ ⟨p0, p1⟩ (fun hS2 => ?_)
    try simp only [layR]
    refine wpAnyH_done (by kernel_rfl) ?_ _
    refine NoPanic.normal ?_
    clear hS0 hS1 hS2 n0 n1 p0 p1 x0 x1 x2 x3 y0 y1 y2 y3
    have HUp5 := Lib.hid (show w1.heap.size = ((((w4.setCell ⟨g.ML, k * 4, none⟩ (.int .i64 0)).setCell ⟨g.ML, k * 4 + 1, none⟩ (.int .i64 0)).setCell ⟨g.ML, k * 4 + 2, none⟩ (.int .i64 ((r : Int) + 1))).setCell ⟨g.ML, k * 4 + 3, none⟩ (.int .i64 0)).heap.size by simp only [World.size_setCell]; exact HUp3.out)
    generalize ((((w4.setCell ⟨g.ML, k * 4, none⟩ (.int .i64 0)).setCell ⟨g.ML, k * 4 + 1, none⟩ (.int .i64 0)).setCell ⟨g.ML, k * 4 + 2, none⟩ (.int .i64 ((r : Int) + 1))).setCell ⟨g.ML, k * 4 + 3, none⟩ (.int .i64 0)) = w5 at *
    by_cases ho : g.opn = (k : Int)
    · have HG6 := Lib.hid (HG5.out.setO (-1))
      have HK6 := Lib.hid (HK5.out.setCell (p := ⟨g.M, 2, none⟩) (.inl (.inl rfl)) (.int .i64 (-1)))
      have HO := Lib.hid ho
      have ho2 : ((k : Int) == g.opn) = true := by rw [beq_iff_eq, ho]
      clear ho
      go_wp2_with fail
      go_ret
      refine ⟨rfl, ⟨ps', ?_⟩, HK6.out⟩
      unfold erG
      rw [if_pos HO.out, HR.out]
      exact HG6.out.upup HBn.out HM.out HL.out (by rw [World.size_setCell]; exact Nat.le_of_eq HUp5.out)
    · have HO := Lib.hid ho
      have ho2 : ((k : Int) == g.opn) = false := by rw [beq_eq_false_iff_ne]; exact Ne.symm ho
      clear ho
      go_wp2_with fail
      go_ret
      refine ⟨rfl, ⟨ps', ?_⟩, HK5.out⟩
      unfold erG
      rw [if_neg HO.out, HR.out]
      exact HG5.out.upup HBn.out HM.out HL.out (Nat.le_of_eq HUp5.out)
end
end Go.Proofs.YtiipnpfaaghekaaGreat
namespace Go.Proofs.YtiipnpfaaghekaaGreat
open Go.RowKit

section
variable {NB B : Nat} {S : Nat → Prop} {w : World} {g : Mg}
/-- The manager behind a page that was programmed in the open block k. -/
def prG (g : Mg) (k i : Nat) (bs : List UInt8) : Mg := { g with bl := upd g.bl k (pbNext (g.bl k) i bs), l := g.l.set k ⟨if i + 1 = 8 then 2 else (Gc.at_ g.l k).st, (Gc.at_ g.l k).live + 1, (Gc.at_ g.l k).wear, i + 1⟩, opn := if i + 1 = 8 then -1 else g.opn }
/-- What was programmed. -/
def Put (NB B : Nat) (S : Nat → Prop) (g : Mg) (w : World) (k i : Nat) (bs : List UInt8) (e : Ending) (w' : World) : Prop :=
  e = .returned (.tuple #[.int .i64 (k : Int), .int .i64 (i : Int), .int .i64 0]) ∧ MgM NB B (Up S w w') w' (prG g k i bs) ∧ Kq (Sm g S) w w'
set_option maxRecDepth 100000 in
set_option maxHeartbeats 16000000 in
/-- A block is open. -/
theorem bProgram_open (h : MgM NB B S w g) {k i : Nat} (hk : k < NB) (ho : g.opn = (k : Int)) (hi : i < 8) (hx : (Gc.at_ g.l k).nx = i) (hx2 : (Gc.at_ g.l k).live ≤ 1000) (hn : (g.bl k).nx = i) (hb1 : (g.bl k).bad = false) (hb2 : (g.bl k).broken = false)
    (a : Option Addr) (c : Nat) (bs : List UInt8) (hbs : Own byteV 5 w 0 (.slice a 96 c) bs) (hap : ∀ q, Value.ownBlock (.slice a 96 c) = some q → ¬ S q) :
    Calls Tryz.prog 81 #[.pointer (some ⟨g.M, 0, none⟩), .slice a 96 c] w (Put NB B S g w k i bs) := by
  have HR := Lib.hid (bready_calls h)
  have HG := Lib.hid (chGeo_calls h.hc)
  have HH := Lib.hid h
  have HX := Lib.hid hbs
  have HAp := Lib.hid hap
  have HN := Lib.hid hn
  have HB1 := Lib.hid hb1
  have HB2 := Lib.hid hb2
  have HXn := Lib.hid hx
  have HXl := Lib.hid hx2
  have HO := Lib.hid ho
  have m0 := h.m0
  have g1 : (0 : Int) ≤ (k : Int) := by omega
  have g2 : (k : Int) < (NB : Int) := by omega
  clear h hbs hap hn hb1 hb2 hx hx2 ho
  go_enter Tryz.func81, Tryz.ntmps81
  go_wp2
  go_step3
  go_wp2_with fail
  refine (HR.out).mono ?_
  rintro e w_ ⟨rfl, rfl⟩
  go_wp2_with fail
  refine HG.out.mono ?_
  rintro e w1 ⟨rfl, hb⟩
  have hf := geoF2 (.int .i64 (NB : Int)) (.int .i64 8) (.int .i64 64)
  have HH1 := Lib.hid (HH.out.on hb)
  have HK1 := Lib.hid hb
  have n2 := HH1.out.m2
  rw [HO.out] at n2
  have hno : ((k : Int) != -1) = true := by rw [bne_iff_ne]; omega
  have r3 := (HH1.out.r3 hk).1
  rw [HXn.out] at r3
  have n0 := HH1.out.m0
  have n1 := HH1.out.m1
  clear hb m0
  unfold geoV
  go_wp2_with fail
  go_step3
  go_wp2_with fail
  go_loopw [8, 9, 10, 11] (fun v8 v9 v10 _ wr => v8 = .int .i64 0 ∧ v9 = .int .i64 0 ∧ v10 = .int .i64 40 ∧ wr = w1) (fun _ _ _ _ _ => 0)
  case atStart => exact ⟨rfl, rfl, rfl, rfl⟩
  case round =>
    obtain ⟨rfl, rfl, rfl, hw⟩ := hrel
    subst hw
    have HX1 := Lib.hid (HX.out.on HK1.out)
    go_wp2_with fail
    refine (chProgram_calls HH1.out.hc hk hi HN.out HB1.out HB2.out a c bs HX1.out HAp.out).mono ?_
    rintro e w2 ⟨rfl, h2, hk2⟩
    have HG2 := Lib.hid (HH1.out.chip (ps' := g.ps) h2 hk2 (fun q hq => hq))
    have HK2 := Lib.hid ((Kq.of HK1.out).trans (hk2.mono (T' := Sm g S) fun q hq => .inr (.inr hq)))
    clear h2 hk2 n2 r3 n0 n1 hno
    have r1 := HG2.out.r1 hk
    have r3 := HG2.out.r3 hk
    simp only at r1 r3
    rw [HXn.out] at r3
    obtain ⟨r1, f1⟩ := r1
    obtain ⟨r3, f3⟩ := r3
    have hxl := HXl.out
    generalize hx : Gc.at_ g.l k = x at *
    have i1 := IntWalk.i64_in ((i : Int) + 1) ⟨by omega, by omega⟩
    have i2 := IntWalk.i64_in ((x.live : Int) + 1) ⟨by omega, by omega⟩
    go_upto_region 19 with fail
    have HXe := Lib.hid hx
    have hl2 := HG2.out.len
    simp only at hl2
    have q3 := HG2.out.setL hk (j := 3) (by omega) (.int .i64 ((i + 1 : Nat) : Int)) { x with nx := i + 1 } (by simp only [hx]; rfl)
    have q4 := q3.setL hk (j := 1) (by omega) (.int .i64 ((x.live + 1 : Nat) : Int)) ⟨x.st, x.live + 1, x.wear, i + 1⟩ (by rw [at_set _ _ (show k < g.l.length by omega)]; rfl)
    simp only [List.set_set] at q4
    have e1 : ((i + 1 : Nat) : Int) = (i : Int) + 1 := by omega
    have e2 : ((x.live + 1 : Nat) : Int) = (x.live : Int) + 1 := by omega
    rw [e1, e2] at q4
    have HG4 := Lib.hid q4
    have HK4 := Lib.hid ((HK2.out.setCell (p := ⟨g.ML, k * 4 + 3, none⟩) (.inl (.inr (.inl rfl))) (.int .i64 ((i : Int) + 1))).setCell (p := ⟨g.ML, k * 4 + 1, none⟩) (.inl (.inr (.inl rfl))) (.int .i64 ((x.live : Int) + 1)))
    clear q3 q4 e1 e2 r1 f1 r3 f3 hx
    have HSz := Lib.hid (show w2.heap.size = ((w2.setCell ⟨g.ML, k * 4 + 3, none⟩ (.int .i64 ((i : Int) + 1))).setCell ⟨g.ML, k * 4 + 1, none⟩ (.int .i64 ((x.live : Int) + 1))).heap.size by simp only [World.size_setCell])
    generalize ((w2.setCell ⟨g.ML, k * 4 + 3, none⟩ (.int .i64 ((i : Int) + 1))).setCell ⟨g.ML, k * 4 + 1, none⟩ (.int .i64 ((x.live : Int) + 1))) = w4 at *
    have HG5 := Lib.hid (HG4.out.on (below_drew w4))
    have HK5 := Lib.hid (HK4.out.on (below_drew w4))
    have n3 := (HG5.out.r3 hk).1
    rw [at_set _ _ (show k < g.l.length by omega)] at n3
    have n3 : w4.drew.cell? ⟨g.ML, k * 4 + 3, none⟩ = some (.int .i64 ((i : Int) + 1)) := n3
    refine wp_region_noPanic ?_
    refine wp_region_held_drew (S := (fun W' => W'.cell? ⟨g.ML, k * 4 + 3, none⟩ = some (.int .i64 ((i : Int) + 1)))) (by kernel_rfl) n3 (fun hS0 => ?_)
    have HSz5 := Lib.hid (show w2.heap.size = w4.drew.heap.size from HSz.out)
    generalize w4.drew = w5 at *
    refine takeV 0 (v := (.pointer (some ⟨g.ML, k * 4, none⟩))) rfl (by kernel_rfl) (by kernel_rfl) (by kernel_rfl) (fun _ _ _ h => h) (by rfl) (fun _ _ => rfl) (by assumption) ?_
    try simp only [layR]
    refine takeV 1 (v := (.pointer (some ⟨g.ML, k * 4, none⟩))) rfl (by kernel_rfl) (by kernel_rfl) (by kernel_rfl) (fun _ _ _ h => h) (by rfl) (fun W hSw => ?_) (by assumption) ?_
    · skip
      go_simp
    try simp only [layR]
    refine takeV 2 (v := (.pointer (some ⟨g.ML, k * 4 + 3, none⟩))) rfl (by kernel_rfl) (by kernel_rfl) (by kernel_rfl) (fun _ _ _ h => h) (by rfl) (fun W hSw => ?_) (by assumption) ?_
    · skip
      go_simp
    try simp only [layR]
    refine takeV 3 (v := (.int .i64 ((i : Int) + 1))) rfl (by kernel_rfl) (by kernel_rfl) (by kernel_rfl) (fun _ _ _ h => h) (by rfl) (fun W hSw => ?_) (by assumption) ?_
    · skip
      go_simp
    try simp only [layR]
    refine takeV 4 (v := (.pointer (some ⟨g.M, 0, none⟩))) rfl (by kernel_rfl) (by kernel_rfl) (by kernel_rfl) (fun _ _ _ h => h) (by rfl) (fun _ _ => rfl) (by assumption) ?_
    try simp only [layR]
    refine wpAnyH_ready (rs := [5]) (by kernel_rfl) (by simp) ?_
    refine AllReadyH.cons rfl (fun K' hK => ?_) AllReadyH.nil
    go_simp
    refine (bpages_calls HG5.out).mono ?_
    rintro e w6 ⟨rfl, hb⟩
    have HG6 := Lib.hid (HG5.out.on hb)
    have HK6 := Lib.hid (HK5.out.on hb)
    have HSz6 := Lib.hid (Nat.le_trans (Nat.le_of_eq HSz5.out) hb.size)
    have n6 := cell_on n3 hb
    clear hb
    refine hK.out _ _ n6 (fun hS1 => ?_)
    try simp only [layR]
    refine takeV 6 (v := (.bool ((i : Int) + 1 == 8))) rfl (by kernel_rfl) (by kernel_rfl) (by kernel_rfl) (fun _ _ _ h => h) (by rfl) (fun W hSw => ?_) (by assumption) ?_
    · skip
      go_simp
    try simp only [layR]
    refine wpAnyH_done (by kernel_rfl) ?_ _
    refine NoPanic.normal ?_
    clear hS0 hS1 n3 n6
    cases he : ((i : Int) + 1 == 8)
    · have hne : ¬ (i + 1 = 8) := by rw [beq_eq_false_iff_ne] at he; omega
      have HNe := Lib.hid hne
      clear hne
      go_wp2_with fail
      refine bodyPost_ret (v := .tuple #[.int .i64 (k : Int), .int .i64 (i : Int), .int .i64 0]) (by simp [results, Tryz.results81, go_sem]) rfl ⟨rfl, ?_, HK6.out⟩
      have hp := HG6.out.re HH.out.base HH.out.ltM HH.out.ltL HK1.out.size HSz6.out
      unfold prG
      rw [if_neg HNe.out, if_neg HNe.out, HXe.out]
      exact hp
    · have hne : i + 1 = 8 := by rw [beq_iff_eq] at he; omega
      have HNe := Lib.hid hne
      clear hne
      go_wp2_with fail
      refine (bClose_calls HG6.out hk (by rw [at_set _ _ (show k < g.l.length by omega)]; show 0 < x.live + 1; omega) HO.out).mono ?_
      rintro e w7 ⟨rfl, h7, hk7⟩
      have HG7 := Lib.hid h7
      have HK7 := Lib.hid (HK6.out.trans (hk7.mono (T' := Sm g S) fun q hq => by rcases hq with h | h; exact .inl h; exact .inr (.inl h)))
      have HSz7 := Lib.hid (Nat.le_trans HSz6.out hk7.size)
      clear h7 hk7
      go_wp2_with fail
      refine bodyPost_ret (v := .tuple #[.int .i64 (k : Int), .int .i64 (i : Int), .int .i64 0]) (by simp [results, Tryz.results81, go_sem]) rfl ⟨rfl, ?_, HK7.out⟩
      have hp := HG7.out.re HH.out.base HH.out.ltM HH.out.ltL HK1.out.size HSz7.out
      rw [at_set _ _ (show k < g.l.length by omega)] at hp
      simp only [List.set_set] at hp
      unfold prG
      rw [if_pos HNe.out, if_pos HNe.out, HXe.out]
      exact hp
end
end Go.Proofs.YtiipnpfaaghekaaGreat
namespace Go.Proofs.YtiipnpfaaghekaaGreat
open Go.RowKit

section
variable {NB B : Nat} {S : Nat → Prop} {w : World} {g : Mg}
def beG (g : Mg) (a : Nat) : Mg := { g with l := g.l.set a ⟨1, 0, (Gc.at_ g.l a).wear, 0⟩, opn := (a : Int) }
set_option maxRecDepth 100000 in
set_option maxHeartbeats 16000000 in
/-- None is open: one is opened. -/
theorem bProgram_begin (h : MgM NB B S w g) {k : Nat} (hbs2 : Gc.best isFree Gc.worn g.l NB = some k) (ho : g.opn = -1) (hn : (g.bl k).nx = 0) (hb1 : (g.bl k).bad = false) (hb2 : (g.bl k).broken = false)
    (a : Option Addr) (c : Nat) (bs : List UInt8) (hbs : Own byteV 5 w 0 (.slice a 96 c) bs) (hap : ∀ q, Value.ownBlock (.slice a 96 c) = some q → ¬ Sm g S q) :
    Calls Tryz.prog 81 #[.pointer (some ⟨g.M, 0, none⟩), .slice a 96 c] w (Put NB B S (beG g k) w k 0 bs) := by
  have hk := (Gc.best_some hbs2).1
  have HR := Lib.hid (bready_calls h)
  have HG := Lib.hid (chGeo_calls h.hc)
  have HH := Lib.hid h
  have HX := Lib.hid hbs
  have HAp := Lib.hid hap
  have HN := Lib.hid hn
  have HB1 := Lib.hid hb1
  have HB2 := Lib.hid hb2
  have HBs := Lib.hid hbs2
  have HBg := Lib.hid (show beG g k = { g with l := g.l.set k ⟨1, 0, (Gc.at_ g.l k).wear, 0⟩, opn := (k : Int) } from rfl)
  have HO := Lib.hid ho
  have m0 := h.m0
  have g1 : (0 : Int) ≤ (k : Int) := by omega
  have g2 : (k : Int) < (NB : Int) := by omega
  clear h hbs hap hn hb1 hb2 hbs2 ho
  go_enter Tryz.func81, Tryz.ntmps81
  go_wp2
  go_step3
  go_wp2_with fail
  refine (HR.out).mono ?_
  rintro e w_ ⟨rfl, rfl⟩
  go_wp2_with fail
  refine HG.out.mono ?_
  rintro e w1 ⟨rfl, hb⟩
  have hf := geoF2 (.int .i64 (NB : Int)) (.int .i64 8) (.int .i64 64)
  have HH1 := Lib.hid (HH.out.on hb)
  have HK1 := Lib.hid hb
  have n2 := HH1.out.m2
  rw [HO.out] at n2
  have n0 := HH1.out.m0
  have n1 := HH1.out.m1
  clear hb m0
  unfold geoV
  go_wp2_with fail
  go_step3
  go_wp2_with fail
  go_loopw [8, 9, 10, 11] (fun v8 v9 v10 _ wr => v8 = .int .i64 0 ∧ v9 = .int .i64 0 ∧ v10 = .int .i64 40 ∧ wr = w1) (fun _ _ _ _ _ => 0)
  case atStart => exact ⟨rfl, rfl, rfl, rfl⟩
  case round =>
    obtain ⟨rfl, rfl, rfl, hw⟩ := hrel
    subst hw
    have HX1 := Lib.hid (HX.out.on HK1.out)
    go_wp2_with fail
    refine (bBegin_calls HH1.out).mono ?_
    unfold Began
    rw [HBs.out]
    rintro e w1 ⟨rfl, h1, hk1⟩
    have HGb := Lib.hid (show MgM NB B S w1 (beG g k) from h1)
    have HKb := Lib.hid ((Kq.of HK1.out).trans (hk1.mono (T' := Sm g S) fun q hq => by rcases hq with h | h; exact .inl h; exact .inr (.inl h)))
    have HX2 := Lib.hid (HX1.out.kq hk1 fun q hq hm => HAp.out q hq (by rcases hm with h | h; exact .inl h; exact .inr (.inl h)))
    clear h1 hk1 n2 n0 n1
    have n0 := HGb.out.m0
    have n1 := HGb.out.m1
    have n2 := HGb.out.m2
    have r3 := (HGb.out.r3 hk).1
    unfold beG at n0 n1 n2 r3
    simp only at n0 n1 n2 r3
    rw [at_set _ _ (by rw [HH.out.len]; exact hk)] at r3
    have r3 : w1.cell? ⟨g.ML, k * 4 + 3, none⟩ = some (.int .i64 0) := r3
    go_wp2_with fail
    refine (chProgram_calls HGb.out.hc hk (i := 0) (by omega) HN.out HB1.out HB2.out a c bs HX2.out (fun q hq hs => HAp.out q hq (.inr (.inr hs)))).mono ?_
    rintro e w2 ⟨rfl, h2, hk2⟩
    have HG2 := Lib.hid (HGb.out.chip (ps' := g.ps) h2 hk2 (fun q hq => hq))
    have HK2 := Lib.hid (HKb.out.trans (hk2.mono (T' := Sm g S) fun q hq => .inr (.inr hq)))
    have hl2 := HH.out.len
    have hat : Gc.at_ (g.l.set k ⟨1, 0, (Gc.at_ g.l k).wear, 0⟩) k = ⟨1, 0, (Gc.at_ g.l k).wear, 0⟩ := at_set _ _ (by omega)
    have HAt := Lib.hid hat
    have r3 := HG2.out.r3 hk
    have r1 := HG2.out.r1 hk
    unfold beG at r1 r3
    simp only at r1 r3
    rw [hat] at r1 r3
    obtain ⟨r1, f1⟩ := r1
    obtain ⟨r3, f3⟩ := r3
    have r1 : w2.cell? ⟨g.ML, k * 4 + 1, none⟩ = some (.int .i64 0) := r1
    have r3 : w2.cell? ⟨g.ML, k * 4 + 3, none⟩ = some (.int .i64 0) := r3
    generalize hwr : (Gc.at_ g.l k).wear = wv at *
    have HWv := Lib.hid hwr
    have q3 := HG2.out.setL hk (j := 3) (by omega) (.int .i64 1) ⟨1, 0, wv, 1⟩ (by unfold beG; simp only [hwr]; rw [hat]; rfl)
    have q4 := q3.setL hk (j := 1) (by omega) (.int .i64 1) ⟨1, 1, wv, 1⟩ (by rw [at_set _ _ (by unfold beG; simp only [List.length_set]; omega)]; rfl)
    have HSz := Lib.hid (show w2.heap.size = ((w2.setCell ⟨g.ML, k * 4 + 3, none⟩ (.int .i64 1)).setCell ⟨g.ML, k * 4 + 1, none⟩ (.int .i64 1)).heap.size by simp only [World.size_setCell])
    have HK4 := Lib.hid ((HK2.out.setCell (p := ⟨g.ML, k * 4 + 3, none⟩) (.inl (.inr (.inl rfl))) (.int .i64 1)).setCell (p := ⟨g.ML, k * 4 + 1, none⟩) (.inl (.inr (.inl rfl))) (.int .i64 1))
    have HG4 := Lib.hid (show MgM NB B (Up S w1 w2) ((w2.setCell ⟨g.ML, k * 4 + 3, none⟩ (.int .i64 1)).setCell ⟨g.ML, k * 4 + 1, none⟩ (.int .i64 1)) { g with bl := upd g.bl k (pbNext (g.bl k) 0 bs), l := g.l.set k ⟨1, 1, wv, 1⟩, opn := (k : Int) } by unfold beG at q4; simp only [List.set_set] at q4; exact q4)
    clear q3 q4 h2 hk2 hat hwr n0 n1 n2
    go_upto_region 19 with fail
    clear r1 f1 r3 f3
    generalize ((w2.setCell ⟨g.ML, k * 4 + 3, none⟩ (.int .i64 1)).setCell ⟨g.ML, k * 4 + 1, none⟩ (.int .i64 1)) = w4 at *
    have HG5 := Lib.hid (HG4.out.on (below_drew w4))
    have HK5 := Lib.hid (HK4.out.on (below_drew w4))
    have n3 := (HG5.out.r3 hk).1
    rw [at_set _ _ (show k < g.l.length by omega)] at n3
    have n3 : w4.drew.cell? ⟨g.ML, k * 4 + 3, none⟩ = some (.int .i64 1) := n3
    refine wp_region_noPanic ?_
    refine wp_region_held_drew (S := (fun W' => W'.cell? ⟨g.ML, k * 4 + 3, none⟩ = some (.int .i64 1))) (by kernel_rfl) n3 (fun hS0 => ?_)
    have HSz5 := Lib.hid (show w2.heap.size = w4.drew.heap.size from HSz.out)
    generalize w4.drew = w5 at *
    refine takeV 0 (v := (.pointer (some ⟨g.ML, k * 4, none⟩))) rfl (by kernel_rfl) (by kernel_rfl) (by kernel_rfl) (fun _ _ _ h => h) (by rfl) (fun _ _ => rfl) (by assumption) ?_
    try simp only [layR]
    refine takeV 1 (v := (.pointer (some ⟨g.ML, k * 4, none⟩))) rfl (by kernel_rfl) (by kernel_rfl) (by kernel_rfl) (fun _ _ _ h => h) (by rfl) (fun W hSw => ?_) (by assumption) ?_
    · skip
      go_simp
    try simp only [layR]
    refine takeV 2 (v := (.pointer (some ⟨g.ML, k * 4 + 3, none⟩))) rfl (by kernel_rfl) (by kernel_rfl) (by kernel_rfl) (fun _ _ _ h => h) (by rfl) (fun W hSw => ?_) (by assumption) ?_
    · skip
      go_simp
    try simp only [layR]
    refine takeV 3 (v := (.int .i64 1)) rfl (by kernel_rfl) (by kernel_rfl) (by kernel_rfl) (fun _ _ _ h => h) (by rfl) (fun W hSw => ?_) (by assumption) ?_
    · skip
      go_simp
    try simp only [layR]
    refine takeV 4 (v := (.pointer (some ⟨g.M, 0, none⟩))) rfl (by kernel_rfl) (by kernel_rfl) (by kernel_rfl) (fun _ _ _ h => h) (by rfl) (fun _ _ => rfl) (by assumption) ?_
    try simp only [layR]
    refine wpAnyH_ready (rs := [5]) (by kernel_rfl) (by simp) ?_
    refine AllReadyH.cons rfl (fun K' hK => ?_) AllReadyH.nil
    go_simp
    refine (bpages_calls HG5.out).mono ?_
    rintro e w6 ⟨rfl, hb⟩
    have HG6 := Lib.hid (HG5.out.on hb)
    have HK6 := Lib.hid (HK5.out.on hb)
    have HSz6 := Lib.hid (Nat.le_trans (Nat.le_of_eq HSz5.out) hb.size)
    have n6 := cell_on n3 hb
    clear hb
    refine hK.out _ _ n6 (fun hS1 => ?_)
    try simp only [layR]
    refine takeV 6 (v := (.bool false)) rfl (by kernel_rfl) (by kernel_rfl) (by kernel_rfl) (fun _ _ _ h => h) (by rfl) (fun W hSw => ?_) (by assumption) ?_
    · skip
      go_simp
    try simp only [layR]
    refine wpAnyH_done (by kernel_rfl) ?_ _
    refine NoPanic.normal ?_
    clear hS0 hS1 n3 n6
    go_wp2_with fail
    refine bodyPost_ret (v := .tuple #[.int .i64 (k : Int), .int .i64 0, .int .i64 0]) (by simp [results, Tryz.results81, go_sem]) rfl ⟨rfl, ?_, HK6.out⟩
    have hs1 := HKb.out.size
    have hp := HG6.out.re HH.out.base HH.out.ltM HH.out.ltL hs1 HSz6.out
    unfold prG beG
    simp only [HWv.out, HAt.out, List.set_set]
    exact hp
set_option maxRecDepth 100000 in
set_option maxHeartbeats 16000000 in
/-- None is open, none is free. -/
theorem bProgram_full (h : MgM NB B S w g) (hbs2 : Gc.best isFree Gc.worn g.l NB = none) (ho : g.opn = -1) (a : Option Addr) (c : Nat) :
    Calls Tryz.prog 81 #[.pointer (some ⟨g.M, 0, none⟩), .slice a 96 c] w fun e w' => e = .returned (.tuple #[.int .i64 0, .int .i64 0, .int .i64 40]) ∧ Below w.heap.size w w' := by
  have HR := Lib.hid (bready_calls h)
  have HG := Lib.hid (chGeo_calls h.hc)
  have HH := Lib.hid h
  have HO := Lib.hid ho
  have HBs := Lib.hid hbs2
  have m0 := h.m0
  clear h ho hbs2
  go_enter Tryz.func81, Tryz.ntmps81
  go_wp2
  go_step3
  go_wp2_with fail
  refine (HR.out).mono ?_
  rintro e w_ ⟨rfl, rfl⟩
  go_wp2_with fail
  refine HG.out.mono ?_
  rintro e w1 ⟨rfl, hb⟩
  have hf := geoF2 (.int .i64 (NB : Int)) (.int .i64 8) (.int .i64 64)
  have HH1 := Lib.hid (HH.out.on hb)
  have HK1 := Lib.hid hb
  have n2 := HH1.out.m2
  rw [HO.out] at n2
  clear hb m0
  unfold geoV
  go_wp2_with fail
  go_step3
  go_wp2_with fail
  go_loopw [8, 9, 10, 11] (fun v8 v9 v10 _ wr => v8 = .int .i64 0 ∧ v9 = .int .i64 0 ∧ v10 = .int .i64 40 ∧ wr = w1) (fun _ _ _ _ _ => 0)
  case atStart => exact ⟨rfl, rfl, rfl, rfl⟩
  case round =>
    obtain ⟨rfl, rfl, rfl, hw⟩ := hrel
    subst hw
    go_wp2_with fail
    refine (bBegin_calls HH1.out).mono ?_
    unfold Began
    rw [HBs.out]
    rintro e w1 ⟨rfl, hb⟩
    have HK2 := Lib.hid (HK1.out.then_ hb)
    clear hb n2
    go_wp2_with fail
    rw [Exit.noGoto_ret]
    refine bodyPost_ret (v := .tuple #[.int .i64 0, .int .i64 0, .int .i64 40]) (by simp [results, Tryz.results81, go_sem]) rfl ⟨rfl, HK2.out⟩
end
end Go.Proofs.YtiipnpfaaghekaaGreat
namespace Go.Proofs.YtiipnpfaaghekaaGreat
open Go.RowKit

namespace Wears
/-- A block, its place on the chip, and how many pages of it are held. -/
structure BkI (opn : Int) (k : Nat) (x : Bk) (p : Pb) (c n : Nat) : Prop where
  st : x.st ≤ 3
  lv : x.live = c
  nx : x.nx ≤ 8
  l8 : x.live ≤ 8
  op : x.st = 1 → opn = (k : Int) ∧ 1 ≤ x.nx ∧ x.nx < 8 ∧ p.nx = x.nx ∧ x.live ≤ x.nx
  fr : x.st = 0 → x.live = 0 ∧ p.nx = 0
  fu : x.st = 2 → 0 < x.live
  sl : x.st = 3 → x.live = 0
  we : p.wear = x.wear
  wn : x.wear ≤ n
  bad : p.bad = false
  brk : p.broken = false
/-- Between two steps. -/
structure Inv (NB : Nat) (g : Mg) (held : List Nat) (n : Nat) : Prop where
  len : g.l.length = NB
  bk : ∀ k, k < NB → BkI g.opn k (Gc.at_ g.l k) (g.bl k) (held.count k) n
  gap : ∀ i j, i < NB → j < NB → (Gc.at_ g.l i).wear ≤ (Gc.at_ g.l j).wear + 4
  opn : g.opn = -1 ∨ ∃ k : Nat, k < NB ∧ g.opn = (k : Int) ∧ (Gc.at_ g.l k).st = 1
  even : g.even = false
  hm : ∀ h ∈ held, h < NB
  hl : held.length ≤ n
theorem count_set {l : List Nat} {i v q : Nat} (hi : i < l.length) : (l.set i v).count q + (if l[i] = q then 1 else 0) = l.count q + (if v = q then 1 else 0) := by
  induction l generalizing i with
  | nil => simp at hi
  | cons a l ih =>
    cases i with
    | zero => simp only [List.set_cons_zero, List.count_cons, List.getElem_cons_zero, beq_iff_eq]; omega
    | succ i =>
      have := ih (i := i) (by simpa using hi)
      simp only [List.set_cons_succ, List.count_cons, List.getElem_cons_succ, beq_iff_eq] at *
      omega
/-- One is taken out: the last one takes its place. -/
def takeOut (l : List Nat) (i : Nat) : List Nat := (l.set i (l.getD (l.length - 1) 0)).take (l.length - 1)
theorem count_takeOut {l : List Nat} {i q : Nat} (hi : i < l.length) : (takeOut l i).count q + (if l[i] = q then 1 else 0) = l.count q := by
  obtain ⟨v, hv⟩ : ∃ v, v = l.getD (l.length - 1) 0 := ⟨_, rfl⟩
  have hv2 : l[l.length - 1]'(by omega) = v := by rw [hv, List.getD_eq_getElem?_getD, List.getElem?_eq_getElem (by omega)]; rfl
  have hlen : (l.set i v).length = l.length := List.length_set ..
  have h1 := count_set (l := l) (i := i) (v := v) (q := q) hi
  have hlast : (l.set i v)[l.length - 1]'(by omega) = v := by
    rw [List.getElem_set]
    split
    · rfl
    · exact hv2
  have h2 : l.set i v = takeOut l i ++ [v] := by
    unfold takeOut
    rw [← hv]
    conv => lhs; rw [← List.take_append_drop (l.length - 1) (l.set i v)]
    congr 1
    rw [List.drop_eq_getElem_cons (by omega), hlast, List.drop_eq_nil_of_le (by omega)]
  rw [h2, List.count_append] at h1
  simp only [List.count_cons, List.count_nil, beq_iff_eq] at h1
  omega
theorem takeOut_len {l : List Nat} {i : Nat} : (takeOut l i).length = l.length - 1 := by
  unfold takeOut; rw [List.length_take, List.length_set]; omega
theorem takeOut_mem {l : List Nat} {i : Nat} (hi : i < l.length) {h : Nat} (hh : h ∈ takeOut l i) : h ∈ l := by
  have h1 := List.count_pos_iff.2 hh
  have h2 := count_takeOut (q := h) hi
  exact List.count_pos_iff.1 (by omega)
theorem Inv.more {NB : Nat} {g : Mg} {held : List Nat} {n : Nat} (h : Inv NB g held n) : Inv NB g held (n + 1) :=
  ⟨h.len, fun k hk => let b := h.bk k hk; ⟨b.st, b.lv, b.nx, b.l8, b.op, b.fr, b.fu, b.sl, b.we, by have := b.wn; omega, b.bad, b.brk⟩, h.gap, h.opn, h.even, h.hm, by have := h.hl; omega⟩
/-- A page is dropped. -/
theorem Inv.drop {NB : Nat} {g : Mg} {held : List Nat} {n i : Nat} (h : Inv NB g held n) (hi : i < held.length) : Inv NB { g with l := g.l.set held[i] (dropB (Gc.at_ g.l held[i])) } (takeOut held i) (n + 1) := by
  have hk := h.hm _ (List.getElem_mem hi)
  have hct := fun q => count_takeOut (q := q) hi
  generalize hke : held[i] = k at *
  have hl := h.len
  have hb := h.bk k hk
  have hc := hct k
  rw [if_pos rfl] at hc
  have hpos : 0 < (Gc.at_ g.l k).live := by rw [hb.lv]; omega
  refine ⟨by simpa using hl, fun q hq => ?_, fun a b ha hb2 => ?_, ?_, h.even, fun x hx => h.hm x (takeOut_mem hi hx), by rw [takeOut_len]; have := h.hl; omega⟩
  · by_cases e : q = k
    · subst e
      show BkI g.opn q (Gc.at_ (g.l.set q _) q) (g.bl q) _ _
      rw [at_set _ _ (by omega)]
      have hz : (dropB (Gc.at_ g.l q)).live = (Gc.at_ g.l q).live - 1 := rfl
      have hw : (dropB (Gc.at_ g.l q)).wear = (Gc.at_ g.l q).wear := rfl
      have hx : (dropB (Gc.at_ g.l q)).nx = (Gc.at_ g.l q).nx := rfl
      have hs : (dropB (Gc.at_ g.l q)).st = if (Gc.at_ g.l q).st = 2 ∧ (Gc.at_ g.l q).live - 1 = 0 then 3 else (Gc.at_ g.l q).st := rfl
      obtain ⟨b1, b2, b3, b4, b5, b6, b7, b8, b9, b10, b11, b12⟩ := hb
      by_cases hd : (Gc.at_ g.l q).st = 2 ∧ (Gc.at_ g.l q).live - 1 = 0
      · rw [if_pos hd] at hs
        exact ⟨by omega, by omega, by omega, by omega, fun e => by omega, fun e => by omega, fun e => by omega, fun e => by omega, by rw [hw]; exact b9, by omega, b11, b12⟩
      · rw [if_neg hd] at hs
        refine ⟨by omega, by omega, by omega, by omega, fun e => ?_, fun e => ?_, fun e => ?_, fun e => ?_, by rw [hw]; exact b9, by omega, b11, b12⟩
        · rw [hs] at e
          obtain ⟨c1, c2, c3, c4, c5⟩ := b5 e
          rw [hz, hx]
          exact ⟨c1, c2, c3, c4, by omega⟩
        · rw [hs] at e; have := b6 e; omega
        · rw [hs] at e; omega
        · rw [hs] at e; have := b8 e; omega
    · show BkI g.opn q (Gc.at_ (g.l.set k _) q) (g.bl q) _ _
      rw [at_set_other _ _ e]
      have hq2 := h.bk q hq
      have := hct q
      rw [if_neg (Ne.symm e)] at this
      obtain ⟨b1, b2, b3, b4, b5, b6, b7, b8, b9, b10, b11, b12⟩ := hq2
      exact ⟨b1, by omega, b3, b4, b5, b6, b7, b8, b9, by omega, b11, b12⟩
  · have hw : ∀ q, (Gc.at_ (g.l.set k (dropB (Gc.at_ g.l k))) q).wear = (Gc.at_ g.l q).wear := fun q => by
      by_cases e : q = k
      · subst e; rw [at_set _ _ (by omega)]; rfl
      · rw [at_set_other _ _ e]
    show (Gc.at_ (g.l.set k _) a).wear ≤ (Gc.at_ (g.l.set k _) b).wear + 4
    rw [hw, hw]
    exact h.gap a b ha hb2
  · rcases h.opn with ho | ⟨q, q1, q2, q3⟩
    · exact .inl ho
    · refine .inr ⟨q, q1, q2, ?_⟩
      show (Gc.at_ (g.l.set k _) q).st = 1
      by_cases e : q = k
      · subst e
        rw [at_set _ _ (by omega)]
        show (if (Gc.at_ g.l q).st = 2 ∧ (Gc.at_ g.l q).live - 1 = 0 then 3 else (Gc.at_ g.l q).st) = 1
        rw [if_neg (by omega)]
        exact q3
      · rw [at_set_other _ _ e]; exact q3
end Wears
end Go.Proofs.YtiipnpfaaghekaaGreat
namespace Go.Proofs.YtiipnpfaaghekaaGreat
open Go.RowKit

namespace Wears
theorem next_erase {l : List Bk} {room : Bool} {bn : Int} (h : Gc.next l 8 room = (1, bn)) : ∃ k, k < l.length ∧ bn = (k : Int) ∧ (Gc.at_ l k).st = 3 ∧ (Gc.at_ l k).wear < Gc.least l + 4 := by
  unfold Gc.next at h
  cases h1 : Gc.best (Gc.p3 (Gc.least l)) Gc.worn l l.length with
  | some k =>
    rw [h1] at h
    injection h with _ h
    obtain ⟨a, b⟩ := Gc.best_some h1
    unfold Gc.p3 at b
    rw [Bool.and_eq_true, Gc.stale_iff, Gc.may_iff] at b
    exact ⟨k, a, h.symm, b.1, b.2.2⟩
  | none =>
    rw [h1] at h
    simp only at h
    split at h
    · injection h with h _; omega
    · split at h
      · injection h with h _; omega
      · split at h
        · injection h with h _; omega
        · unfold Gc.forced at h
          split at h
          · injection h with h _; omega
          · split at h
            · injection h with h _; omega
            · injection h with h _; omega
theorem next_burn {l : List Bk} {room : Bool} {bn : Int} (h : Gc.next l 8 room = (3, bn)) : ∃ k, k < l.length ∧ bn = (k : Int) ∧ (Gc.at_ l k).wear = Gc.least l ∧ ((Gc.at_ l k).st = 0 ∨ (Gc.at_ l k).st = 1 ∧ (Gc.at_ l k).nx = 0) := by
  unfold Gc.next at h
  split at h
  · injection h with h _; omega
  · split at h
    · injection h with h _; omega
    · cases h1 : Gc.best (Gc.p5 (Gc.least l)) Gc.ff l l.length with
      | some k =>
        rw [h1] at h
        injection h with _ h
        obtain ⟨a, b⟩ := Gc.best_some h1
        unfold Gc.p5 at b
        simp only [Bool.and_eq_true, Bool.or_eq_true, beq_iff_eq] at b
        exact ⟨k, a, h.symm, by omega, by rcases b.2 with c | c; exact .inl (by omega); exact .inr ⟨by omega, by omega⟩⟩
      | none =>
        rw [h1] at h
        simp only at h
        split at h
        · injection h with h _; omega
        · unfold Gc.forced at h
          split at h
          · injection h with h _; omega
          · split at h
            · injection h with h _; omega
            · injection h with h _; omega
theorem Inv.least {NB : Nat} {g : Mg} {held : List Nat} {n j : Nat} (h : Inv NB g held n) (hj : j < NB) : Gc.least g.l ≤ (Gc.at_ g.l j).wear :=
  Gc.least_le (by rw [h.len]; exact hj) (Gc.good_iff.2 (by have := (h.bk j hj).st; omega))
/-- One block is changed. -/
theorem Inv.put {NB : Nat} {g g' : Mg} {held held' : List Nat} {n k : Nat} {y : Bk} {p : Pb} (h : Inv NB g held n) (hk : k < NB) (hl : g'.l = g.l.set k y) (hb : g'.bl = upd g.bl k p) (he : g'.even = g.even) (hB : BkI g'.opn k y p (held'.count k) (n + 1))
    (hc : ∀ q, q ≠ k → held'.count q = held.count q) (ho : ∀ q, q < NB → q ≠ k → (Gc.at_ g.l q).st = 1 → g'.opn = (q : Int)) (hg : ∀ j, j < NB → y.wear ≤ (Gc.at_ g.l j).wear + 4 ∧ (Gc.at_ g.l j).wear ≤ y.wear + 4)
    (hop : g'.opn = -1 ∨ ∃ q : Nat, q < NB ∧ g'.opn = (q : Int) ∧ (Gc.at_ (g.l.set k y) q).st = 1) (hm : ∀ x ∈ held', x < NB) (hh : held'.length ≤ n + 1) : Inv NB g' held' (n + 1) := by
  have hlen := h.len
  refine ⟨by rw [hl, List.length_set]; exact hlen, fun q hq => ?_, fun a b ha hb2 => ?_, by rw [hl]; exact hop, by rw [he]; exact h.even, hm, hh⟩
  · rw [hl, hb]
    by_cases e : q = k
    · subst e
      rw [at_set _ _ (by omega), upd_same]
      exact hB
    · rw [at_set_other _ _ e, upd_other _ _ e, hc q e]
      obtain ⟨b1, b2, b3, b4, b5, b6, b7, b8, b9, b10, b11, b12⟩ := h.bk q hq
      exact ⟨b1, b2, b3, b4, fun e1 => ⟨ho q hq e e1, (b5 e1).2⟩, b6, b7, b8, b9, by omega, b11, b12⟩
  · rw [hl]
    by_cases ea : a = k
    · subst ea
      rw [at_set _ _ (by omega)]
      by_cases eb : b = a
      · subst eb; rw [at_set _ _ (by omega)]; omega
      · rw [at_set_other _ _ eb]; exact (hg b hb2).1
    · rw [at_set_other _ _ ea]
      by_cases eb : b = k
      · subst eb; rw [at_set _ _ (by omega)]; exact (hg a ha).2
      · rw [at_set_other _ _ eb]; exact h.gap a b ha hb2
/-- A block is erased. -/
theorem Inv.erase {NB : Nat} {g : Mg} {held : List Nat} {n k : Nat} {ps' : Nat → Nat} (h : Inv NB g held n) (hk : k < NB) (hs : (Gc.at_ g.l k).st = 0 ∨ (Gc.at_ g.l k).st = 3) (hw : ∀ j, j < NB → (Gc.at_ g.l k).wear ≤ (Gc.at_ g.l j).wear + 3) : Inv NB (erG g k ps') held (n + 1) := by
  have hlen := h.len
  have hb := h.bk k hk
  have hlv : (Gc.at_ g.l k).live = 0 := by
    rcases hs with e | e
    · exact (hb.fr e).1
    · exact hb.sl e
  have hne : ∀ q : Nat, q < NB → g.opn = (q : Int) → (Gc.at_ g.l q).st = 1 → q ≠ k := fun q _ _ h3 e => by subst e; omega
  have hopn : (erG g k ps').opn = g.opn := by
    show (if g.opn = (k : Int) then (-1 : Int) else g.opn) = g.opn
    rcases h.opn with e | ⟨q, q1, q2, q3⟩
    · rw [if_neg (by omega)]
    · have := hne q q1 q2 q3
      rw [if_neg (by omega)]
  have hwe := hb.we
  refine h.put (g' := erG g k ps') (y := ⟨0, 0, (g.bl k).wear + 1, 0⟩) (p := fresh ((g.bl k).wear + 1)) hk rfl rfl rfl ⟨(by show 0 ≤ 3; omega), by rw [← hb.lv, hlv], (by show 0 ≤ 8; omega), (by show 0 ≤ 8; omega), fun e => (by cases e), fun _ => ⟨rfl, rfl⟩, fun e => (by cases e), fun _ => rfl, rfl, by have := hb.wn; show (g.bl k).wear + 1 ≤ n + 1; omega, rfl, rfl⟩ (fun _ _ => rfl)
    (fun q hq hqk h1 => by rw [hopn]; exact ((h.bk q hq).op h1).1) (fun j hj => ⟨by have := hw j hj; show (g.bl k).wear + 1 ≤ _; omega, by have := h.gap j k hj hk; show _ ≤ (g.bl k).wear + 1 + 4; omega⟩) ?_ h.hm (by have := h.hl; omega)
  rw [hopn]
  rcases h.opn with e | ⟨q, q1, q2, q3⟩
  · exact .inl e
  · exact .inr ⟨q, q1, q2, by rw [at_set_other _ _ (hne q q1 q2 q3)]; exact q3⟩
theorem count_snoc_same (held : List Nat) (k : Nat) : (held ++ [k]).count k = held.count k + 1 := by simp
theorem count_snoc_other (held : List Nat) {k q : Nat} (h : q ≠ k) : (held ++ [k]).count q = held.count q := by
  simp only [List.count_append, List.count_cons, List.count_nil, beq_iff_eq]
  rw [if_neg (Ne.symm h)]
  omega
/-- A page is programmed in the open block. -/
theorem Inv.prog {NB : Nat} {g : Mg} {held : List Nat} {n k : Nat} {bs : List UInt8} (h : Inv NB g held n) (hk : k < NB) (ho : g.opn = (k : Int)) (hs : (Gc.at_ g.l k).st = 1) : Inv NB (prG g k (Gc.at_ g.l k).nx bs) (held ++ [k]) (n + 1) := by
  have hlen := h.len
  have hb := h.bk k hk
  obtain ⟨o1, o2, o3, o4, o5⟩ := hb.op hs
  have hw := hb.we
  have hwn := hb.wn
  have hlv := hb.lv
  by_cases e8 : (Gc.at_ g.l k).nx + 1 = 8
  · have e1 : (prG g k (Gc.at_ g.l k).nx bs).opn = -1 := if_pos e8
    have e2 : (prG g k (Gc.at_ g.l k).nx bs).l = g.l.set k ⟨2, (Gc.at_ g.l k).live + 1, (Gc.at_ g.l k).wear, (Gc.at_ g.l k).nx + 1⟩ := by unfold prG; simp only [if_pos e8]
    refine h.put hk e2 rfl rfl ⟨by show 2 ≤ 3; omega, by rw [count_snoc_same, ← hlv], by show (Gc.at_ g.l k).nx + 1 ≤ 8; omega, by show (Gc.at_ g.l k).live + 1 ≤ 8; omega, fun e => (by cases e), fun e => (by cases e), fun _ => Nat.succ_pos _, fun e => (by cases e), hw, by show (Gc.at_ g.l k).wear ≤ n + 1; omega, hb.bad, hb.brk⟩ (fun q hq => count_snoc_other held hq)
      (fun q hq hqk h1 => by have := ((h.bk q hq).op h1).1; omega) (fun j hj => ⟨h.gap k j hk hj, h.gap j k hj hk⟩) (.inl e1) (fun x hx => by rcases List.mem_append.1 hx with h1 | h1; exact h.hm x h1; simp at h1; omega) (by rw [List.length_append]; have := h.hl; simp; omega)
  · have e1 : (prG g k (Gc.at_ g.l k).nx bs).opn = g.opn := if_neg e8
    have e2 : (prG g k (Gc.at_ g.l k).nx bs).l = g.l.set k ⟨(Gc.at_ g.l k).st, (Gc.at_ g.l k).live + 1, (Gc.at_ g.l k).wear, (Gc.at_ g.l k).nx + 1⟩ := by unfold prG; simp only [if_neg e8]
    refine h.put hk e2 rfl rfl ⟨hb.st, by rw [count_snoc_same, ← hlv], by show (Gc.at_ g.l k).nx + 1 ≤ 8; omega, by show (Gc.at_ g.l k).live + 1 ≤ 8; omega, fun _ => ⟨by rw [e1]; exact ho, by show 1 ≤ (Gc.at_ g.l k).nx + 1; omega, by show (Gc.at_ g.l k).nx + 1 < 8; omega, rfl, by show (Gc.at_ g.l k).live + 1 ≤ (Gc.at_ g.l k).nx + 1; omega⟩, fun e => (by have : (Gc.at_ g.l k).st = 0 := e; omega), fun _ => Nat.succ_pos _, fun e => (by have : (Gc.at_ g.l k).st = 3 := e; omega), hw, by show (Gc.at_ g.l k).wear ≤ n + 1; omega, hb.bad, hb.brk⟩ (fun q hq => count_snoc_other held hq)
      (fun q hq hqk h1 => by have := ((h.bk q hq).op h1).1; omega) (fun j hj => ⟨h.gap k j hk hj, h.gap j k hj hk⟩) (.inr ⟨k, hk, by rw [e1]; exact ho, by rw [at_set _ _ (by omega)]; exact hs⟩) (fun x hx => by rcases List.mem_append.1 hx with h1 | h1; exact h.hm x h1; simp at h1; omega) (by rw [List.length_append]; have := h.hl; simp; omega)
/-- One is opened, and a page is programmed. -/
theorem Inv.open_ {NB : Nat} {g : Mg} {held : List Nat} {n k : Nat} {bs : List UInt8} (h : Inv NB g held n) (ho : g.opn = -1) (hbest : Gc.best isFree Gc.worn g.l NB = some k) : Inv NB (prG (beG g k) k 0 bs) (held ++ [k]) (n + 1) := by
  have hlen := h.len
  obtain ⟨hk, hf⟩ := Gc.best_some hbest
  have hs : (Gc.at_ g.l k).st = 0 := by unfold isFree at hf; rw [beq_iff_eq] at hf; omega
  have hb := h.bk k hk
  obtain ⟨o1, o2⟩ := hb.fr hs
  have hw := hb.we
  have hwn := hb.wn
  have hlv := hb.lv
  have hat : Gc.at_ (beG g k).l k = ⟨1, 0, (Gc.at_ g.l k).wear, 0⟩ := at_set _ _ (by omega)
  have e1 : (prG (beG g k) k 0 bs).opn = (k : Int) := rfl
  have e2 : (prG (beG g k) k 0 bs).l = g.l.set k ⟨1, 1, (Gc.at_ g.l k).wear, 1⟩ := by
    unfold prG
    simp only [hat]
    show (g.l.set k _).set k _ = _
    rw [List.set_set]
    rfl
  refine h.put hk e2 rfl rfl ⟨by show 1 ≤ 3; omega, by rw [count_snoc_same, ← hlv, o1], by show 1 ≤ 8; omega, by show 1 ≤ 8; omega, fun _ => ⟨e1, by show 1 ≤ 1; omega, by show 1 < 8; omega, rfl, by show 1 ≤ 1; omega⟩, fun e => (by cases e), fun e => (by cases e), fun e => (by cases e), hw, by show (Gc.at_ g.l k).wear ≤ n + 1; omega, hb.bad, hb.brk⟩ (fun q hq => count_snoc_other held hq)
    (fun q hq hqk h1 => by have := ((h.bk q hq).op h1).1; omega) (fun j hj => ⟨h.gap k j hk hj, h.gap j k hj hk⟩) (.inr ⟨k, hk, e1, by rw [at_set _ _ (by omega)]⟩) (fun x hx => by rcases List.mem_append.1 hx with h1 | h1; exact h.hm x h1; simp at h1; omega) (by rw [List.length_append]; have := h.hl; simp; omega)
/-- All Live together are what is held. -/
def sumC (c : Nat → Nat) : Nat → Nat
  | 0 => 0
  | k + 1 => sumC c k + c k
theorem sumC_cons (a : Nat) (l : List Nat) (k : Nat) : sumC (fun i => (a :: l).count i) k = sumC (fun i => l.count i) k + if a < k then 1 else 0 := by
  induction k with
  | zero => rfl
  | succ k ih =>
    show sumC (fun i => (a :: l).count i) k + (a :: l).count k = _ + _ + _
    rw [ih, List.count_cons]
    simp only [beq_iff_eq]
    by_cases e : a = k
    · subst e; rw [if_pos rfl, if_neg (Nat.lt_irrefl _), if_pos (Nat.lt_succ_self _)]; omega
    · rw [if_neg e]
      by_cases h : a < k
      · rw [if_pos h, if_pos (by omega)]; omega
      · rw [if_neg h, if_neg (by omega)]; omega
theorem sumC_held {k : Nat} : ∀ {held : List Nat}, (∀ h ∈ held, h < k) → sumC (fun i => held.count i) k = held.length := by
  intro held
  induction held with
  | nil =>
    intro _
    induction k with
    | zero => rfl
    | succ k ih => show sumC _ k + _ = _; rw [ih (fun x hx => absurd hx (by simp))]; rfl
  | cons a l ih =>
    intro h
    rw [sumC_cons, ih fun x hx => h x (by simp [hx]), if_pos (h a (by simp))]
    rfl
theorem sumC_congr {c d : Nat → Nat} {k : Nat} (h : ∀ i, i < k → c i = d i) : sumC c k = sumC d k := by
  induction k with
  | zero => rfl
  | succ k ih => show sumC c k + c k = sumC d k + d k; rw [ih fun i hi => h i (by omega), h k (by omega)]
theorem Inv.sum {NB : Nat} {g : Mg} {held : List Nat} {n : Nat} (h : Inv NB g held n) : sumC (fun i => (Gc.at_ g.l i).live) NB = held.length := by
  rw [← sumC_held h.hm]
  exact sumC_congr fun i hi => (h.bk i hi).lv
theorem sumC_le {c : Nat → Nat} {k b : Nat} (h : ∀ i, i < k → c i ≤ b) : sumC c k ≤ k * b := by
  induction k with
  | zero => simp [sumC]
  | succ k ih =>
    have := ih fun i hi => h i (by omega)
    have := h k (by omega)
    show sumC c k + c k ≤ (k + 1) * b
    rw [Nat.succ_mul]
    omega
/-- What a right manager owes gc. -/
theorem Inv.ok {NB : Nat} {g : Mg} {held : List Nat} {n : Nat} (h : Inv NB g held n) (hn : n ≤ 1099511627776) : ∀ k, k < NB → Gc.Ok 8 (Gc.at_ g.l k) := fun k hk =>
  let b := h.bk k hk
  ⟨by have := b.st; omega, b.l8, b.nx, by have := b.wn; omega, fun e => by rcases e with e | e | e; exact (b.fr e).1; exact b.sl e; have := b.st; omega⟩
theorem Inv.opn2 {NB : Nat} {g : Mg} {held : List Nat} {n : Nat} (h : Inv NB g held n) (hN : 0 < NB) : (g.opn = -1 ∨ (0 ≤ g.opn ∧ g.opn < (NB : Nat))) ∧ (Gc.at_ g.l g.opn.toNat).nx ≤ 8 := by
  rcases h.opn with e | ⟨k, k1, k2, _⟩
  · refine ⟨.inl e, ?_⟩
    rw [e]
    exact (h.bk 0 (by omega)).nx
  · refine ⟨.inr ⟨by omega, by omega⟩, ?_⟩
    rw [k2, Int.toNat_natCast]
    exact (h.bk k k1).nx
/-- None is free, none is open: there is no room. -/
theorem Inv.full {NB : Nat} {g : Mg} {held : List Nat} {n : Nat} (h : Inv NB g held n) (ho : g.opn = -1) (hb : Gc.best isFree Gc.worn g.l NB = none) : roomOf g = 0 := by
  unfold roomOf
  rw [if_pos ho]
  have : Gc.count 0 g.l = 0 := by
    unfold Gc.count
    rw [List.length_eq_zero_iff, List.filter_eq_nil_iff]
    intro x hx
    obtain ⟨i, hi, rfl⟩ := List.getElem_of_mem hx
    have h1 := Gc.best_none hb i (by rw [← h.len]; exact hi)
    have e : Gc.at_ g.l i = g.l[i] := by rw [Gc.at_, List.getD_eq_getElem?_getD, List.getElem?_eq_getElem hi]; rfl
    rw [e] at h1
    unfold isFree at h1
    rw [beq_eq_false_iff_ne] at h1
    simp only [decide_eq_true_eq]
    omega
  rw [this]
  rfl
end Wears
end Go.Proofs.YtiipnpfaaghekaaGreat
