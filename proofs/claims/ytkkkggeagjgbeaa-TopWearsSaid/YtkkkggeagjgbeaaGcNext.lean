/-
  gc.Next: its closures; what is to be done next.
-/
import Derived.Test.YtkkkggeagjgbeaaGcLeast
import Derived.Laws.EntriesVeiled
namespace Go.Proofs.Ytkkkggeagjgbeaa
open Go.RowKit

namespace Gc
/-- What the closures of Next ask. -/
def p2 (room : Bool) (x : Bk) : Bool := room && ((x.st : Int) == 2)
def p3 (l : Nat) (x : Bk) : Bool := stale x && may l x
def p4 (room : Bool) (l pages : Nat) (x : Bk) : Bool := p2 room x && may l x && decide (x.live < pages)
def p5 (l : Nat) (x : Bk) : Bool := ((x.wear : Int) == l) && (((x.st : Int) == 0) || ((x.st : Int) == 1) && ((x.nx : Int) == 0))
def p6 (room : Bool) (l : Nat) (x : Bk) : Bool := p2 room x && ((x.wear : Int) == l)
def p7 (room : Bool) (pages : Nat) (x : Bk) : Bool := p2 room x && decide (x.live < pages)
end Gc
theorem boxK (x : Bk) (w : World) : Blk (w.alloc (.cells (bkA x) 47)) w.heap.size 47 (bkA x) := Blk.new w _ _
theorem next2_calls (x : Bk) (RB : Nat) (room : Bool) (w : World) (hr : w.cell? ⟨RB, 0, none⟩ = some (.bool room)) :
    Calls Try.prog 47 #[bkV x, .pointer (some ⟨RB, 0, none⟩)] w fun e w' => e = .returned (.bool (Gc.p2 room x)) ∧ Below w.heap.size w w' := by
  obtain ⟨hb, c0, c1, c2, c3⟩ := boxed x w
  have r0 := cell_on hr hb
  have HB := Lib.hid hb
  unfold bkA at c0 c1 c2 c3 HB r0
  clear hb hr
  cases room
  · go_enter Try.func47, Try.ntmps47
    go_wp2
    go_ret
    exact ⟨rfl, HB.out⟩
  · go_enter Try.func47, Try.ntmps47
    go_wp2
    go_ret
    exact ⟨rfl, HB.out⟩
theorem next3_calls (x : Bk) (SB LB : Nat) (l : Nat) (hl : l ≤ 2199023255552) (hx : x.wear ≤ 2199023255552) (w : World) (hs : w.cell? ⟨SB, 0, none⟩ = some (.func (.func 46) #[] #[])) (h2 : w.cell? ⟨LB, 0, none⟩ = some (.int .i64 (l : Int))) :
    Calls Try.prog 48 #[bkV x, .pointer (some ⟨SB, 0, none⟩), .pointer (some ⟨LB, 0, none⟩)] w fun e w' => e = .returned (.bool (Gc.p3 l x)) ∧ Below w.heap.size w w' := by
  obtain ⟨hb, c0, c1, c2, c3⟩ := boxed x w
  have s0 := cell_on hs hb
  have l0 := cell_on h2 hb
  have hk := boxK x w
  have HB := Lib.hid hb
  have HK := Lib.hid hk
  have hcs := bkCells
  unfold bkA at c0 c1 c2 c3 HB HK s0 l0
  have HL := Lib.hid l0
  clear hb hs h2 hk l0
  go_enter Try.func48, Try.ntmps48
  go_wp2_with fail
  refine (gstale_calls x _).mono ?_
  rintro e w1 ⟨rfl, hb⟩
  have l0 := cell_on HL.out hb
  have HB1 := Lib.hid (HB.out.then_ hb)
  have HK1 := HK.out.belowHere hb
  clear hb c0 c1 c2 c3 s0
  have c0 := HK1.cellv (i := 0) rfl
  have c1 := HK1.cellv (i := 1) rfl
  have c2 := HK1.cellv (i := 2) rfl
  have c3 := HK1.cellv (i := 3) rfl
  clear HK1
  have HE := Lib.hid (show Gc.p3 l x = (Gc.stale x && Gc.may l x) from rfl)
  cases hst : Gc.stale x
  · rw [hst] at HE
    go_wp2_with fail
    go_ret
    exact ⟨by rw [HE.out]; rfl, HB1.out⟩
  · rw [hst] at HE
    go_wp2_with fail
    refine (gmay_calls x l _ hl hx).mono ?_
    rintro e w2 ⟨rfl, hb⟩
    have HB2 := Lib.hid (HB1.out.then_ hb)
    clear hb
    go_wp2_with fail
    go_ret
    exact ⟨by rw [HE.out]; rfl, HB2.out⟩
theorem next4_calls (x : Bk) (FB RB LB PB : Nat) (room : Bool) (l pages : Nat) (hl : l ≤ 2199023255552) (hx : x.wear ≤ 2199023255552) (w : World) (hf : w.cell? ⟨FB, 0, none⟩ = some (.func (.func 47) #[] #[.pointer (some ⟨RB, 0, none⟩)])) (hr : w.cell? ⟨RB, 0, none⟩ = some (.bool room)) (h2 : w.cell? ⟨LB, 0, none⟩ = some (.int .i64 (l : Int))) (hp : w.cell? ⟨PB, 0, none⟩ = some (.int .i64 (pages : Int))) :
    Calls Try.prog 51 #[bkV x, .pointer (some ⟨FB, 0, none⟩), .pointer (some ⟨LB, 0, none⟩), .pointer (some ⟨PB, 0, none⟩)] w fun e w' => e = .returned (.bool (Gc.p4 room l pages x)) ∧ Below w.heap.size w w' := by
  obtain ⟨hb, c0, c1, c2, c3⟩ := boxed x w
  have f0 := cell_on hf hb
  have l0 := cell_on h2 hb
  have r0 := cell_on hr hb
  have p0 := cell_on hp hb
  have hk := boxK x w
  have HB := Lib.hid hb
  have HK := Lib.hid hk
  have hcs := bkCells
  unfold bkA at c0 c1 c2 c3 HB HK f0 l0 r0 p0
  have HL := Lib.hid l0
  have HP := Lib.hid p0
  have HR := Lib.hid r0
  clear hb hf h2 hk l0 p0 r0 hr hp
  go_enter Try.func51, Try.ntmps51
  go_wp2_with fail
  refine (next2_calls x RB room _ HR.out).mono ?_
  rintro e w1 ⟨rfl, hb⟩
  have l0 := cell_on HL.out hb
  have HP1 := Lib.hid (cell_on HP.out hb)
  have HB1 := Lib.hid (HB.out.then_ hb)
  have HK1 := Lib.hid (HK.out.belowHere hb)
  clear hb c0 c1 c2 c3 f0
  have c0 := HK1.out.cellv (i := 0) rfl
  have c1 := HK1.out.cellv (i := 1) rfl
  have c2 := HK1.out.cellv (i := 2) rfl
  have c3 := HK1.out.cellv (i := 3) rfl
  have HE := Lib.hid (show Gc.p4 room l pages x = (Gc.p2 room x && Gc.may l x && decide (x.live < pages)) from rfl)
  cases hst : Gc.p2 room x
  · rw [hst] at HE
    go_wp2_with fail
    go_ret
    exact ⟨by rw [HE.out]; rfl, HB1.out⟩
  · rw [hst] at HE
    go_wp2_with fail
    refine (gmay_calls x l _ hl hx).mono ?_
    rintro e w2 ⟨rfl, hb⟩
    have HB2 := Lib.hid (HB1.out.then_ hb)
    have p0 := cell_on HP1.out hb
    have d1 := (HK1.out.belowHere hb).cellv (i := 1) rfl
    clear hb c0 c1 c2 c3 l0
    cases hm : Gc.may l x
    · rw [hm] at HE
      go_wp2_with fail
      go_ret
      exact ⟨by rw [HE.out]; rfl, HB2.out⟩
    · rw [hm] at HE
      go_wp2_with fail
      go_ret
      exact ⟨by rw [HE.out]; simp, HB2.out⟩
theorem next5_calls (x : Bk) (LB : Nat) (l : Nat) (w : World) (h2 : w.cell? ⟨LB, 0, none⟩ = some (.int .i64 (l : Int))) :
    Calls Try.prog 54 #[bkV x, .pointer (some ⟨LB, 0, none⟩)] w fun e w' => e = .returned (.bool (Gc.p5 l x)) ∧ Below w.heap.size w w' := by
  obtain ⟨hb, c0, c1, c2, c3⟩ := boxed x w
  have l0 := cell_on h2 hb
  have HB := Lib.hid hb
  unfold bkA at c0 c1 c2 c3 HB l0
  clear hb h2
  have HE := Lib.hid (show Gc.p5 l x = (((x.wear : Int) == l) && (((x.st : Int) == 0) || ((x.st : Int) == 1) && ((x.nx : Int) == 0))) from rfl)
  cases e1 : ((x.wear : Int) == (l : Int))
  · rw [e1] at HE
    go_enter Try.func54, Try.ntmps54
    go_wp2
    go_ret
    exact ⟨by rw [HE.out]; rfl, HB.out⟩
  · cases e2 : ((x.st : Int) == 0)
    · cases e3 : ((x.st : Int) == 1)
      · rw [e1, e2, e3] at HE
        go_enter Try.func54, Try.ntmps54
        go_wp2
        go_ret
        exact ⟨by rw [HE.out]; rfl, HB.out⟩
      · rw [e1, e2, e3] at HE
        go_enter Try.func54, Try.ntmps54
        go_wp2
        go_ret
        exact ⟨by rw [HE.out]; simp, HB.out⟩
    · rw [e1, e2] at HE
      go_enter Try.func54, Try.ntmps54
      go_wp2
      go_ret
      exact ⟨by rw [HE.out]; simp, HB.out⟩
theorem next6_calls (x : Bk) (FB RB LB : Nat) (room : Bool) (l : Nat) (w : World) (hf : w.cell? ⟨FB, 0, none⟩ = some (.func (.func 47) #[] #[.pointer (some ⟨RB, 0, none⟩)])) (hr : w.cell? ⟨RB, 0, none⟩ = some (.bool room)) (h2 : w.cell? ⟨LB, 0, none⟩ = some (.int .i64 (l : Int))) :
    Calls Try.prog 55 #[bkV x, .pointer (some ⟨FB, 0, none⟩), .pointer (some ⟨LB, 0, none⟩)] w fun e w' => e = .returned (.bool (Gc.p6 room l x)) ∧ Below w.heap.size w w' := by
  obtain ⟨hb, c0, c1, c2, c3⟩ := boxed x w
  have f0 := cell_on hf hb
  have l0 := cell_on h2 hb
  have r0 := cell_on hr hb
  have hk := boxK x w
  have HB := Lib.hid hb
  have HK := Lib.hid hk
  have hcs := bkCells
  unfold bkA at c0 c1 c2 c3 HB HK f0 l0 r0
  have HL := Lib.hid l0
  have HR := Lib.hid r0
  clear hb hf h2 hk l0 r0 hr
  go_enter Try.func55, Try.ntmps55
  go_wp2_with fail
  refine (next2_calls x RB room _ HR.out).mono ?_
  rintro e w1 ⟨rfl, hb⟩
  have l0 := cell_on HL.out hb
  have HB1 := Lib.hid (HB.out.then_ hb)
  have d2 := (HK.out.belowHere hb).cellv (i := 2) rfl
  clear hb c0 c1 c2 c3 f0
  have HE := Lib.hid (show Gc.p6 room l x = (Gc.p2 room x && ((x.wear : Int) == l)) from rfl)
  cases hst : Gc.p2 room x
  · rw [hst] at HE
    go_wp2_with fail
    go_ret
    exact ⟨by rw [HE.out]; rfl, HB1.out⟩
  · rw [hst] at HE
    go_wp2_with fail
    go_ret
    exact ⟨by rw [HE.out]; simp, HB1.out⟩
theorem next7_calls (x : Bk) (FB RB PB : Nat) (room : Bool) (pages : Nat) (w : World) (hf : w.cell? ⟨FB, 0, none⟩ = some (.func (.func 47) #[] #[.pointer (some ⟨RB, 0, none⟩)])) (hr : w.cell? ⟨RB, 0, none⟩ = some (.bool room)) (h2 : w.cell? ⟨PB, 0, none⟩ = some (.int .i64 (pages : Int))) :
    Calls Try.prog 57 #[bkV x, .pointer (some ⟨FB, 0, none⟩), .pointer (some ⟨PB, 0, none⟩)] w fun e w' => e = .returned (.bool (Gc.p7 room pages x)) ∧ Below w.heap.size w w' := by
  obtain ⟨hb, c0, c1, c2, c3⟩ := boxed x w
  have f0 := cell_on hf hb
  have l0 := cell_on h2 hb
  have r0 := cell_on hr hb
  have hk := boxK x w
  have HB := Lib.hid hb
  have HK := Lib.hid hk
  have hcs := bkCells
  unfold bkA at c0 c1 c2 c3 HB HK f0 l0 r0
  have HL := Lib.hid l0
  have HR := Lib.hid r0
  clear hb hf h2 hk l0 r0 hr
  go_enter Try.func57, Try.ntmps57
  go_wp2_with fail
  refine (next2_calls x RB room _ HR.out).mono ?_
  rintro e w1 ⟨rfl, hb⟩
  have l0 := cell_on HL.out hb
  have HB1 := Lib.hid (HB.out.then_ hb)
  have d2 := (HK.out.belowHere hb).cellv (i := 1) rfl
  clear hb c0 c1 c2 c3 f0
  have HE := Lib.hid (show Gc.p7 room pages x = (Gc.p2 room x && decide (x.live < pages)) from rfl)
  cases hst : Gc.p2 room x
  · rw [hst] at HE
    go_wp2_with fail
    go_ret
    exact ⟨by rw [HE.out]; rfl, HB1.out⟩
  · rw [hst] at HE
    go_wp2_with fail
    go_ret
    exact ⟨by rw [HE.out]; simp, HB1.out⟩
namespace Gc
def ff (_ _ : Bk) : Bool := false
theorem ff_stay {p : Bk → Bool} {l : List Bk} {k a : Nat} (h : best p ff l k = some a) : ∀ m, k ≤ m → best p ff l m = some a := by
  intro m hm
  induction m with
  | zero => obtain rfl : k = 0 := by omega
            exact h
  | succ m ih =>
    by_cases e : k = m + 1
    · subst e; exact h
    · unfold best
      rw [ih (by omega)]
      simp [ff]
end Gc
set_option maxHeartbeats 2000000 in
theorem gindex_calls (p : Bk → Bool) (F : Value) (fm : Nat) (cm : Array Value) (hF : F = .func (.func fm) #[] cm) (a : Option Addr) (n c : Nat) (l : List Bk) (w : World) (hx : ArrM 4 bkL w w.heap.size a n l) (hn : n ≤ 1000)
    (i1 : ∀ args w, (callFunc fm args).run Try.prog w = .ok (.enter fm args) w)
    (hm : ∀ w' x, Below w.heap.size w w' → x ∈ l → Calls Try.prog fm (#[bkV x] ++ cm) w' fun e w'' => e = .returned (.bool (p x)) ∧ Below w'.heap.size w' w'') :
    Calls Try.prog 53 #[.slice a n c, F] w fun e w' => e = .returned (.int .i64 (Gc.oI (Gc.best p Gc.ff l n))) ∧ Below w.heap.size w w' := by
  have HM := Lib.hid hm
  have HX := Lib.hid hx
  have hlen := hx.len
  subst hF
  clear hm hx
  have hcs := bkCells
  go_enter Try.func53, Try.ntmps53
  go_wp2
  go_loopw [5, 8] (fun _ i wr => ∃ k : Nat, k ≤ n ∧ i = .int .i64 (k : Int) ∧ Gc.best p Gc.ff l k = none ∧ Below w.heap.size w wr) (fun _ i _ => n - (intOf i).toNat)
  case atStart => exact ⟨0, by omega, rfl, rfl, Below.refl _ _⟩
  case round =>
    obtain ⟨k, hk, rfl, hno, hb⟩ := hrel
    have HBr := Lib.hid hb
    have HNo := Lib.hid hno
    clear hb hno
    by_cases hlt : k < n
    · obtain ⟨b, o, rfl, hbl, c0, c1, c2, c3⟩ := bk_at (HX.out.below HBr.out) (k := k) hlt
      have hk0 : (0 : Int) ≤ (k : Int) := by omega
      have hk1 : (k : Int) < (n : Int) := by omega
      have hmem := getD_mem (l := l) (k := k) (by omega)
      have HE := Lib.hid (show Gc.best p Gc.ff l (k + 1) = if p (Gc.at_ l k) then some k else none by unfold Gc.best; rw [HNo.out])
      generalize Gc.at_ l k = x at *
      go_wp2_with fail
      refine (HM.out wr x HBr.out hmem).mono ?_
      rintro e w1 ⟨rfl, hb⟩
      have HB1 := Lib.hid (HBr.out.then_ hb)
      clear hb c0 c1 c2 c3
      cases hp : p x
      · rw [hp, if_neg (by simp)] at HE
        go_wp2_with fail
        go_roundw
        case rel => exact ⟨k + 1, by omega, by go_num, HE.out, HB1.out⟩
        case measure => simp [intOf]; omega
      · rw [hp, if_pos rfl] at HE
        go_wp2_with fail
        go_ret
        exact ⟨by rw [Gc.ff_stay HE.out n (by omega)]; rfl, HB1.out⟩
    · obtain rfl : k = n := by omega
      go_wp2_with fail
      go_ret
      exact ⟨by rw [HNo.out]; rfl, HBr.out⟩
end Go.Proofs.Ytkkkggeagjgbeaa
