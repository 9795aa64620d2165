/-
  The reference's Items: a row of items with where each ends.
-/
import Derived.Test.YtpjjfehocibljaaSqzRefO
import Derived.Test.YtpjjfehocibljaaMany
namespace Go.Proofs.Ytpjjfehocibljaa
open Go.RowKit

/-- An item: how many bytes come of it, its distance, where it ends. -/
abbrev It3 := Nat × Nat × Nat
def encI (x : It3) : List Value := [.int .i64 (x.1 : Int), .int .i64 (x.2.1 : Int), .int .i64 (x.2.2 : Int)]
theorem encI_len (x : It3) : (encI x).length = 3 := rfl
namespace Sqz
def itemsAt (b : List UInt8) (i : Nat) : List It3 :=
  if _h : i < b.length then
    if (item (b.drop i)).2.2 = 0 then [] else ((item (b.drop i)).1, (item (b.drop i)).2.1, i + (item (b.drop i)).2.2) :: itemsAt b (i + (item (b.drop i)).2.2)
  else []
termination_by b.length - i
decreasing_by
  rename_i h2
  have := (item_size h2).2
  omega
theorem itemsAt_end {b : List UInt8} {i : Nat} (h : ¬ i < b.length) : itemsAt b i = [] := by rw [itemsAt, dif_neg h]
theorem itemsAt_stop {b : List UInt8} {i : Nat} (h : (item (b.drop i)).2.2 = 0) : itemsAt b i = [] := by
  rw [itemsAt]
  by_cases h2 : i < b.length
  · rw [dif_pos h2, if_pos h]
  · rw [dif_neg h2]
theorem itemsAt_step {b : List UInt8} {i : Nat} (h : i < b.length) (h2 : (item (b.drop i)).2.2 ≠ 0) : itemsAt b i = ((item (b.drop i)).1, (item (b.drop i)).2.1, i + (item (b.drop i)).2.2) :: itemsAt b (i + (item (b.drop i)).2.2) := by
  conv => lhs; rw [itemsAt]
  rw [dif_pos h, if_neg h2]
theorem itemsAt_is (b : List UInt8) (i : Nat) : (itemsAt b i).map (fun x => (x.1, x.2.1)) = (items (b.drop i)).map (fun x => (x.1, x.2.1)) ∧ ∀ j (h : j < (itemsAt b i).length), (itemsAt b i)[j].2.2 = i + ends (b.drop i) (j + 1) := by
  induction hn : b.length - i using Nat.strongRecOn generalizing i with
  | ind n ih =>
    subst hn
    by_cases h : i < b.length
    · have hne : b.drop i ≠ [] := by intro e; have := congrArg List.length e; rw [List.length_drop] at this; simp at this; omega
      by_cases h2 : (item (b.drop i)).2.2 = 0
      · rw [itemsAt_stop h2, items_end h2]
        exact ⟨rfl, fun j hj => by simp at hj⟩
      · have hs := item_size h2
        obtain ⟨q1, q2⟩ := ih (b.length - (i + (item (b.drop i)).2.2)) (by omega) (i + (item (b.drop i)).2.2) rfl
        rw [itemsAt_step h h2, items_step hne h2]
        refine ⟨?_, fun j hj => ?_⟩
        · rw [List.map_cons, List.map_cons, q1, List.drop_drop]
        · cases j with
          | zero => rw [ends_step hne h2, ends_zero]; simp
          | succ j =>
            rw [ends_step hne h2, List.drop_drop, List.getElem_cons_succ]
            rw [q2 j (by simpa using hj)]
            omega
    · rw [itemsAt_end h, List.drop_of_length_le (by omega), items_nil]
      exact ⟨rfl, fun j hj => by simp at hj⟩
end Sqz
theorem infoIt : (Try.prog.info? 34).map (fun i => (i.zero, i.size, i.bytes)) = some (some (.agg #[.int .i64 0, .int .i64 0, .int .i64 0]), 3, 24) := by kernel_rfl
/-- append of one item. -/
theorem wpList_litI {w : World} {cs : Array Value} {ops : Array Oper} {rest : List Oper} {o : Oper} {ac : Act} {Q : Exit → Act → World → Prop} (hgd : o.guard = none) (s x : Operand)
    (ho : o.op = .call { callee := .builtin .append, args := #[s, x], argTypes := #[31, 31] }) (base : Nat)
    (v : Value) (xs : List It3) (hs : ac.eval s = v) (hown : OwnM 3 encI 34 w base v xs) (y : It3) (g : Nat) (hx : ac.eval x = .slice (some ⟨g, 0, none⟩) 1 1) (hg : g = w.heap.size) (hcs : cs = (encI y).toArray)
    (hbytes : xs.length ≤ 1000000000) (hbase : base ≤ w.heap.size)
    (h : ∀ v' w', Hid (OwnM 3 encI 34 w' base v' (xs ++ [y])) → Hid (Below base w w') → Hid (∀ g t cs', Blk w g t cs' → v.ownBlock ≠ some g → Blk w' g t cs') → wpList Try.prog ops Q rest (ac.put o.dst v') w') : wpList Try.prog ops Q (o :: rest) ac (w.alloc (.cells cs 34)) := by
  subst hg
  obtain ⟨i0, hi, hz0, hz1, hz2⟩ := info_parts infoIt
  exact wpList_append_OwnM hgd s x 31 ho base 34 i0 _ 24 Try.underlying31 hi hz0 hz1 hz2 rfl (by decide) (fun x u hu => by
    simp only [encI, List.mem_cons, List.not_mem_nil, or_false] at hu
    rcases hu with rfl | rfl | rfl <;> rfl) v xs hs (hown.alloc _) _ _ 1 1 [y] hx (ArrM.lit1 w 34 y hcs) (by omega) (by simp only [maxLen]; omega) (by simp; omega) fun v' w' h1 h2 _ =>
    h v' w' (Lib.hid h1) (Lib.hid (((Below.refl base w).alloc hbase _).trans (below_ownM (Below.refl base _) (hown.alloc _) h2 (by simp; omega)))) (Lib.hid (fun g t cs' hb hne => (hb.alloc _).grown h2 (fun e => hne e.symm)))
theorem cell_set3 (w : World) (H b q : Nat) (u v z : Value) (h : b ≠ H) : (((w.setCell ⟨H, 0, none⟩ u).setCell ⟨H, 1, none⟩ v).setCell ⟨H, 2, none⟩ z).cell? ⟨b, q, none⟩ = w.cell? ⟨b, q, none⟩ := by
  rw [World.cell?_setCell_far _ _ _ _ (by simpa using Ne.symm h), World.cell?_setCell_far _ _ _ _ (by simpa using Ne.symm h), World.cell?_setCell_far _ _ _ _ (by simpa using Ne.symm h)]
def ItemsR (l : List It3) (w : World) (e : Ending) (w' : World) : Prop := (∃ v, e = .returned v ∧ OwnM 3 encI 34 w' w.heap.size v l) ∧ Below w.heap.size w w'
set_option maxRecDepth 100000 in
set_option maxHeartbeats 4000000 in
theorem refItems_calls (a : Option Addr) (n c : Nat) (b : List UInt8) (w : World) (hx : Bytes w w.heap.size a n b) (hn : n ≤ 1000000) :
    Calls Try.prog 15 #[.slice a n c] w (ItemsR (Sqz.itemsAt b 0) w) := by
  have HX := Lib.hid hx
  have HL := Lib.hid hx.len
  unfold ItemsR
  generalize hR : Sqz.itemsAt b 0 = R at *
  have HR := Lib.hid hR
  clear hx hR
  go_enter Try.func15, Try.ntmps15
  go_wp2
  go_loopw [3, 4] (fun s3 s4 wr => ∃ (i : Nat) (out : List It3), i ≤ n ∧ s4 = .int .i64 (i : Int) ∧ OwnM 3 encI 34 wr w.heap.size s3 out ∧ R = out ++ Sqz.itemsAt b i ∧ out.length ≤ i ∧ Below w.heap.size w wr) (fun _ s _ => n - (intOf s).toNat)
  case atStart => exact ⟨0, [], by omega, rfl, OwnM.nil encI_len _ _, by rw [← HR.out]; rfl, by simp, Below.refl _ _⟩
  case round =>
    obtain ⟨i, out, hin, rfl, hown, hR, hol, hb⟩ := hrel
    obtain ⟨q, hq⟩ : ∃ q, q = out.length := ⟨_, rfl⟩
    obtain ⟨ao, co, rfl, hco⟩ := hown.formN hq.symm
    rw [← hq] at hol
    have HQ := Lib.hid hq
    have HRR := Lib.hid hR
    have HO := Lib.hid hown
    have HB := Lib.hid hb
    have hsw := hb.size
    by_cases hlt : i < n
    case neg =>
      obtain rfl : i = n := by omega
      have hr := Lib.hid (show R = out by rw [HRR.out, Sqz.itemsAt_end (by rw [HL.out]; omega), List.append_nil])
      clear hR hown hb hq
      go_wp2
      go_ret
      exact ⟨⟨_, rfl, by rw [hr.out]; exact HO.out⟩, HB.out⟩
    obtain ⟨b1, o1, hk1, rfl, hbl1, hc1⟩ := (HX.out.below HB.out).at_ (k := i) hlt
    obtain ⟨c0, hc0⟩ : ∃ c0, c0 = b[i].toNat := ⟨_, rfl⟩
    have hcl := b[i].toNat_lt
    rw [← hc0] at hc1 hcl
    have hcd : c0 = (b[i]?.getD 0).toNat := by rw [List.getElem?_eq_getElem hk1, Option.getD_some, hc0]
    have hI := Sqz.item_drop HL.out hlt hcd
    have HStop := Lib.hid (fun h => (show R = out by rw [HRR.out, Sqz.itemsAt_stop (b := b) (i := i) h, List.append_nil]))
    have HStep := Lib.hid (fun h => (show R = out ++ [((Sqz.item (b.drop i)).1, (Sqz.item (b.drop i)).2.1, i + (Sqz.item (b.drop i)).2.2)] ++ Sqz.itemsAt b (i + (Sqz.item (b.drop i)).2.2) by rw [HRR.out, Sqz.itemsAt_step (b := b) (i := i) (by rw [HL.out]; exact hlt) h]; simp))
    rw [hI] at HStop HStep
    clear hI hcd hc0 hR hown hb hq
    by_cases hc : c0 < 128
    · rw [if_pos hc] at HStop HStep
      have q1 : decide ((127 : Int) < (c0 : Int)) = false := decide_eq_false (by omega)
      by_cases hz : n < i + c0 + 2
      · rw [if_pos hz] at HStop
        have hr := Lib.hid (HStop.out rfl)
        have q2 : decide ((n : Int) < (i : Int) + (c0 : Int) + 2) = true := decide_eq_true (by omega)
        clear HStop HStep
        go_wp2
        go_ret
        exact ⟨⟨_, rfl, by rw [hr.out]; exact HO.out.on ((Below.refl _ _).alloc (Nat.le_refl _) _)⟩, HB.out.alloc hsw _⟩
      have q2 : decide ((n : Int) < (i : Int) + (c0 : Int) + 2) = false := decide_eq_false (by omega)
      rw [if_neg hz] at HStep
      dsimp only at HStep
      have hr := Lib.hid (HStep.out (by omega))
      clear HStop HStep
      have hx0 := Blk.new wr 34 #[.int .i64 ((c0 : Int) + 1), .int .i64 0, .int .i64 ((i : Int) + (c0 : Int) + 2)]
      have hO1 := HO.out.alloc (.cells #[.int .i64 ((c0 : Int) + 1), .int .i64 0, .int .i64 ((i : Int) + (c0 : Int) + 2)] 34)
      have hne : (Value.slice ao q co).ownBlock ≠ some wr.heap.size := fun e => by have := (HO.out.blockLt _ e).2; omega
      have hb1 := HB.out.alloc hsw (.cells #[.int .i64 ((c0 : Int) + 1), .int .i64 0, .int .i64 ((i : Int) + (c0 : Int) + 2)] 34)
      have HO1 := Lib.hid hO1
      have HX0 := Lib.hid hx0
      have HB1 := Lib.hid hb1
      have HNE := Lib.hid hne
      clear hx0 hO1 hb1 hne
      go_wp2_with (at_builtin; refine wpList_litI rfl (.tmp 68) (.tmp 70) rfl w.heap.size (.slice ao q co) out rfl HO1.out (c0 + 1, 0, i + (c0 + 2)) (wr.heap.size + 1) rfl (by simp) (by unfold encI; dsimp only; rw [show ((c0 + 1 : Nat) : Int) = (c0 : Int) + 1 by omega, show ((i + (c0 + 2) : Nat) : Int) = (i : Int) + (c0 : Int) + 2 by omega]; rfl) (by rw [← HQ.out]; omega) (by simp; omega) ?_; intro v3 w3 HO3 HB3 HK3; have x3 := (HK3.out _ _ _ HX0.out HNE.out).cellv (i := 2) rfl)
      go_roundw
      case rel => exact ⟨i + (c0 + 2), _, by omega, by go_num, HO3.out, hr.out, by rw [List.length_append, ← HQ.out]; simp; omega, HB1.out.trans HB3.out⟩
      case measure => simp [intOf]; omega
    · rw [if_neg hc] at HStop HStep
      have q1 : decide ((127 : Int) < (c0 : Int)) = true := decide_eq_true (by omega)
      by_cases hz : n < i + 3
      · rw [if_pos hz] at HStop
        have hr := Lib.hid (HStop.out rfl)
        have q2 : decide ((i : Int) + 3 ≤ (n : Int)) = false := decide_eq_false (by omega)
        have q3 : decide ((n : Int) < (i : Int) + 3) = true := decide_eq_true (by omega)
        have q4 : decide ((n : Int) < (i : Int) + (c0 : Int) + 2) = true := decide_eq_true (by omega)
        clear HStop HStep
        go_wp2
        go_ret
        exact ⟨⟨_, rfl, by rw [hr.out]; exact HO.out.on ((Below.refl _ _).alloc (Nat.le_refl _) _)⟩, HB.out.alloc hsw _⟩
      rw [if_neg hz] at HStep
      dsimp only at HStep
      obtain ⟨b2, o2, hk2, he2, _, hc2⟩ := (HX.out.below HB.out).at_ (k := i + 1) (by omega)
      obtain ⟨b3, o3, hk3, he3, _, hc3⟩ := (HX.out.below HB.out).at_ (k := i + 2) (by omega)
      simp only [Option.some.injEq, Addr.mk.injEq, and_true] at he2 he3
      obtain ⟨rfl, rfl⟩ := he2
      obtain ⟨rfl, rfl⟩ := he3
      rw [List.getElem?_eq_getElem hk2, List.getElem?_eq_getElem hk3, Option.getD_some, Option.getD_some] at HStep
      have l2 := b[i + 1].toNat_lt
      have l3 := b[i + 2].toNat_lt
      generalize b[i + 1].toNat = x at *
      generalize b[i + 2].toNat = y at *
      obtain ⟨far, hfar⟩ : ∃ far, far = x + 256 * y := ⟨_, rfl⟩
      rw [← hfar] at HStep
      have HFar := Lib.hid (show (x : Int) + 256 * (y : Int) = (far : Int) by omega)
      have hr := Lib.hid (HStep.out (by omega))
      have q2 : decide ((i : Int) + 3 ≤ (n : Int)) = true := decide_eq_true (by omega)
      have q3 : decide ((n : Int) < (i : Int) + 3) = false := decide_eq_false (by omega)
      have hx0 := Blk.new wr 34 #[.int .i64 ((c0 : Int) + 1), .int .i64 0, .int .i64 ((i : Int) + (c0 : Int) + 2)]
      have hO1 := HO.out.alloc (.cells #[.int .i64 ((c0 : Int) + 1), .int .i64 0, .int .i64 ((i : Int) + (c0 : Int) + 2)] 34)
      have hne : (Value.slice ao q co).ownBlock ≠ some wr.heap.size := fun e => by have := (HO.out.blockLt _ e).2; omega
      have hb1 := HB.out.alloc hsw (.cells #[.int .i64 ((c0 : Int) + 1), .int .i64 0, .int .i64 ((i : Int) + (c0 : Int) + 2)] 34)
      have d2 := (((Below.refl wr.heap.size wr).alloc (Nat.le_refl _) (.cells #[.int .i64 ((c0 : Int) + 1), .int .i64 0, .int .i64 ((i : Int) + (c0 : Int) + 2)] 34)).cell (p := ⟨b1, o1 + (i + 1), none⟩) (by show b1 < _; omega)).trans hc2
      have d3 := (((Below.refl wr.heap.size wr).alloc (Nat.le_refl _) (.cells #[.int .i64 ((c0 : Int) + 1), .int .i64 0, .int .i64 ((i : Int) + (c0 : Int) + 2)] 34)).cell (p := ⟨b1, o1 + (i + 2), none⟩) (by show b1 < _; omega)).trans hc3
      clear HStop HStep hfar
      go_wp2_with fail
      generalize wr.alloc (.cells #[.int .i64 ((c0 : Int) + 1), .int .i64 0, .int .i64 ((i : Int) + (c0 : Int) + 2)] 34) = w1 at *
      have hs1 := hb1.size
      have k0 := hx0.cellv (i := 0) rfl
      have k1 := hx0.cellv (i := 1) rfl
      have k2 := hx0.cellv (i := 2) rfl
      have f0 := hx0.frozen 0
      have f1 := hx0.frozen 1
      have f2 := hx0.frozen 2
      have HX0 := Lib.hid hx0
      have HO1 := Lib.hid hO1
      have HB1 := Lib.hid hb1
      have HNE := Lib.hid hne
      have hlt1 : b1 ≠ wr.heap.size := by omega
      clear hx0 hO1 hb1 hne
      refine wp_region_noPanic ?_
      refine wp_region_held_drew (S := (fun W' => W'.cell? ⟨b1, o1 + (i + 1), none⟩ = some (.int .u8 (x : Int)) ∧ W'.cell? ⟨b1, o1 + (i + 2), none⟩ = some (.int .u8 (y : Int)))) (by kernel_rfl) ⟨d2, d3⟩ (fun hS0 => ?_)
      refine takeV 0 (v := (.int .i64 (c0 : Int))) rfl (by kernel_rfl) (by kernel_rfl) (by kernel_rfl) (fun _ _ _ h => h) (by rfl) (fun W hSw => ?_) (by assumption) ?_
      · skip
        go_simp
      try simp only [layR]
      refine takeV 1 (v := (.int .i64 ((c0 : Int) - 125))) rfl (by kernel_rfl) (by kernel_rfl) (by kernel_rfl) (fun _ _ _ h => h) (by rfl) (fun W hSw => ?_) (by assumption) ?_
      · have g := IntWalk.i64_in ((c0 : Int) - 125) ⟨by omega, by omega⟩
        go_simp
      try simp only [layR]
      refine takeV 2 (v := (.slice (some ⟨b1, o1, none⟩) n c)) rfl (by kernel_rfl) (by kernel_rfl) (by kernel_rfl) (fun _ _ _ h => h) (by rfl) (fun W hSw => ?_) (by assumption) ?_
      · skip
        go_simp
      try simp only [layR]
      refine takeV 3 (v := (.int .i64 (i : Int))) rfl (by kernel_rfl) (by kernel_rfl) (by kernel_rfl) (fun _ _ _ h => h) (by rfl) (fun W hSw => ?_) (by assumption) ?_
      · skip
        go_simp
      try simp only [layR]
      refine takeV 4 (v := (.int .i64 ((i : Int) + 1))) rfl (by kernel_rfl) (by kernel_rfl) (by kernel_rfl) (fun _ _ _ h => h) (by rfl) (fun W hSw => ?_) (by assumption) ?_
      · have g := IntWalk.i64_in ((i : Int) + 1) ⟨by omega, by omega⟩
        go_simp
      try simp only [layR]
      refine takeV 5 (v := (.pointer (some ⟨b1, o1 + (i + 1), none⟩))) rfl (by kernel_rfl) (by kernel_rfl) (by kernel_rfl) (fun _ _ _ h => h) (by rfl) (fun W hSw => ?_) (by assumption) ?_
      · have g1 : (0 : Int) ≤ (i : Int) + 1 := (by omega); have g2 : (i : Int) + 1 < (n : Int) := (by omega); have g3 : ((i : Int) + 1).toNat = i + 1 := (by omega)
        go_simp
      try simp only [layR]
      refine takeV 6 (v := (.int .u8 (x : Int))) rfl (by kernel_rfl) (by kernel_rfl) (by kernel_rfl) (fun _ _ _ h => h) (by rfl) (fun W hSw => ?_) (by assumption) ?_
      · have g := hSw.1
        go_simp
      try simp only [layR]
      refine takeV 7 (v := (.int .i64 (x : Int))) rfl (by kernel_rfl) (by kernel_rfl) (by kernel_rfl) (fun _ _ _ h => h) (by rfl) (fun W hSw => ?_) (by assumption) ?_
      · have g := IntWalk.i64_in (x : Int) ⟨by omega, by omega⟩
        go_simp
      try simp only [layR]
      refine takeV 8 (v := (.slice (some ⟨b1, o1, none⟩) n c)) rfl (by kernel_rfl) (by kernel_rfl) (by kernel_rfl) (fun _ _ _ h => h) (by rfl) (fun W hSw => ?_) (by assumption) ?_
      · skip
        go_simp
      try simp only [layR]
      refine takeV 9 (v := (.int .i64 (i : Int))) rfl (by kernel_rfl) (by kernel_rfl) (by kernel_rfl) (fun _ _ _ h => h) (by rfl) (fun W hSw => ?_) (by assumption) ?_
      · skip
        go_simp
      try simp only [layR]
      refine takeV 10 (v := (.int .i64 ((i : Int) + 2))) rfl (by kernel_rfl) (by kernel_rfl) (by kernel_rfl) (fun _ _ _ h => h) (by rfl) (fun W hSw => ?_) (by assumption) ?_
      · have g := IntWalk.i64_in ((i : Int) + 2) ⟨by omega, by omega⟩
        go_simp
      try simp only [layR]
      refine takeV 11 (v := (.pointer (some ⟨b1, o1 + (i + 2), none⟩))) rfl (by kernel_rfl) (by kernel_rfl) (by kernel_rfl) (fun _ _ _ h => h) (by rfl) (fun W hSw => ?_) (by assumption) ?_
      · have g1 : (0 : Int) ≤ (i : Int) + 2 := (by omega); have g2 : (i : Int) + 2 < (n : Int) := (by omega); have g3 : ((i : Int) + 2).toNat = i + 2 := (by omega)
        go_simp
      try simp only [layR]
      refine takeV 12 (v := (.int .u8 (y : Int))) rfl (by kernel_rfl) (by kernel_rfl) (by kernel_rfl) (fun _ _ _ h => h) (by rfl) (fun W hSw => ?_) (by assumption) ?_
      · have g := hSw.2
        go_simp
      try simp only [layR]
      refine takeV 13 (v := (.int .i64 (y : Int))) rfl (by kernel_rfl) (by kernel_rfl) (by kernel_rfl) (fun _ _ _ h => h) (by rfl) (fun W hSw => ?_) (by assumption) ?_
      · have g := IntWalk.i64_in (y : Int) ⟨by omega, by omega⟩
        go_simp
      try simp only [layR]
      refine takeV 14 (v := (.int .i64 (256 * (y : Int)))) rfl (by kernel_rfl) (by kernel_rfl) (by kernel_rfl) (fun _ _ _ h => h) (by rfl) (fun W hSw => ?_) (by assumption) ?_
      · have g := IntWalk.i64_in (256 * (y : Int)) ⟨by omega, by omega⟩
        go_simp
      try simp only [layR]
      refine takeV 15 (v := (.int .i64 (far : Int))) rfl (by kernel_rfl) (by kernel_rfl) (by kernel_rfl) (fun _ _ _ h => h) (by rfl) (fun W hSw => ?_) (by assumption) ?_
      · have g : IntKind.i64.wrap ((x : Int) + 256 * (y : Int)) = (far : Int) := (by rw [IntWalk.i64_in _ ⟨by omega, by omega⟩]; exact HFar.out)
        go_simp
      try simp only [layR]
      refine takeV 16 (v := (.int .i64 (i : Int))) rfl (by kernel_rfl) (by kernel_rfl) (by kernel_rfl) (fun _ _ _ h => h) (by rfl) (fun W hSw => ?_) (by assumption) ?_
      · skip
        go_simp
      try simp only [layR]
      refine takeV 17 (v := (.int .i64 ((i : Int) + 3))) rfl (by kernel_rfl) (by kernel_rfl) (by kernel_rfl) (fun _ _ _ h => h) (by rfl) (fun W hSw => ?_) (by assumption) ?_
      · have g := IntWalk.i64_in ((i : Int) + 3) ⟨by omega, by omega⟩
        go_simp
      try simp only [layR]
      refine takeV 18 (v := (.agg #[.int .i64 ((c0 : Int) - 125), .int .i64 (far : Int), .int .i64 ((i : Int) + 3)])) rfl (by kernel_rfl) (by kernel_rfl) (by kernel_rfl) (fun _ _ _ h => h) (by rfl) (fun W hSw => ?_) (by assumption) ?_
      · skip
        go_simp
      try simp only [layR]
      refine wpAnyH_ready (rs := [19]) (by kernel_rfl) (by simp) ?_
      refine AllReadyH.cons rfl (fun K' hK => ?_) AllReadyH.nil
      go_simp
      have hx9 := ((HX0.out.set 0 (.int .i64 ((c0 : Int) - 125))).set 1 (.int .i64 (far : Int))).set 2 (.int .i64 ((i : Int) + 3))
      have hO9 := ((HO1.out.far (p := ⟨wr.heap.size, 0, none⟩) HNE.out (.int .i64 ((c0 : Int) - 125))).far (p := ⟨wr.heap.size, 1, none⟩) HNE.out (.int .i64 (far : Int))).far (p := ⟨wr.heap.size, 2, none⟩) HNE.out (.int .i64 ((i : Int) + 3))
      have hb9 := ((HB1.out.setCell (p := ⟨wr.heap.size, 0, none⟩) hsw (.int .i64 ((c0 : Int) - 125))).setCell (p := ⟨wr.heap.size, 1, none⟩) hsw (.int .i64 (far : Int))).setCell (p := ⟨wr.heap.size, 2, none⟩) hsw (.int .i64 ((i : Int) + 3))
      refine hK.out _ _ ⟨(cell_set3 _ _ _ _ _ _ _ hlt1).trans d2, (cell_set3 _ _ _ _ _ _ _ hlt1).trans d3⟩ (fun hS1 => ?_)
      try simp only [layR]
      refine wpAnyH_done (by kernel_rfl) ?_ _
      refine NoPanic.normal ?_
      have HX9 := Lib.hid hx9.drew
      have HO9 := Lib.hid hO9.drew
      have HB9 := Lib.hid hb9.drew
      have hsz9 : ((((w1.setCell ⟨wr.heap.size, 0, none⟩ (.int .i64 ((c0 : Int) - 125))).setCell ⟨wr.heap.size, 1, none⟩ (.int .i64 (far : Int))).setCell ⟨wr.heap.size, 2, none⟩ (.int .i64 ((i : Int) + 3))).drew).heap.size = w1.heap.size := by simp
      clear hS0 hS1 hx9 hO9 hb9 k0 k1 k2 f0 f1 f2 d2 d3 hc1 hc2 hc3
      generalize (((w1.setCell ⟨wr.heap.size, 0, none⟩ (.int .i64 ((c0 : Int) - 125))).setCell ⟨wr.heap.size, 1, none⟩ (.int .i64 (far : Int))).setCell ⟨wr.heap.size, 2, none⟩ (.int .i64 ((i : Int) + 3))).drew = w2 at *
      have x0 := HX9.out.cellv (i := 0) rfl
      have x1 := HX9.out.cellv (i := 1) rfl
      have x2 := HX9.out.cellv (i := 2) rfl
      have hs9 := HB9.out.size
      have HSZ := Lib.hid hsz9
      clear hsz9
      go_wp2_with (at_builtin; refine wpList_litI rfl (.tmp 68) (.tmp 70) rfl w.heap.size (.slice ao q co) out rfl HO9.out (c0 - 125, far, i + 3) w2.heap.size rfl rfl (by unfold encI; dsimp only; rw [show ((c0 - 125 : Nat) : Int) = (c0 : Int) - 125 by omega, show ((i + 3 : Nat) : Int) = (i : Int) + 3 by omega]) (by rw [← HQ.out]; omega) hs9 ?_; intro v3 w3 HO3 HB3 HK3; have x3 := (HK3.out _ _ _ HX9.out HNE.out).cellv (i := 2) rfl)
      go_roundw
      case rel => exact ⟨i + 3, _, by omega, by go_num, HO3.out, hr.out, by rw [List.length_append, ← HQ.out]; simp; omega, HB9.out.trans HB3.out⟩
      case measure => simp [intOf]; omega
end Go.Proofs.Ytpjjfehocibljaa
