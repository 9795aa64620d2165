/-
  Blocks wear alike: the state between two rounds, in memory, and the manager's steps.
-/
import Derived.Test.YtkkkggeagjgbeaaWearsM2
import Derived.Test.YtkkkggeagjgbeaaBlkOpen
import Derived.Test.YtkkkggeagjgbeaaTopBlocks
import Derived.Test.YtkkkggeagjgbeaaInts
namespace Go.Proofs.Ytkkkggeagjgbeaa
open Go.RowKit

theorem Own.cut {α : Type} {f : α → Value} {e : TypeId} {w : World} {base : Nat} {a : Option Addr} {n c : Nat} {xs : List α} (h : Own f e w base (.slice a n c) xs) {k : Nat} (hk : k ≤ n) : Own f e w base (.slice a k c) (xs.take k) := by
  refine ⟨by simp, ?_⟩
  rcases h.2 with ⟨hv, hn⟩ | ⟨g, cap, cur, hv, hgb, hg, hc, hm, hs, ht⟩
  · injection hv with h1 h2 h3
    subst h1 h2 h3
    obtain rfl : k = 0 := by omega
    exact .inl ⟨rfl, by simp⟩
  · injection hv with h1 h2 h3
    subst h1 h2 h3
    have hl : (xs.take k).length = k := by rw [List.length_take]; omega
    refine .inr ⟨g, c, cur, by rw [hl], hgb, hg, by rw [hl]; omega, hm, hs, ?_⟩
    rw [hl, List.map_take, ← ht, List.take_take]
    congr 1
    omega
theorem naV_one (x : Nat) : (naV x).oneCell' = true := rfl
/-- One number, appended. -/
theorem wpList_litN {w : World} {cs : Array Value} {ops : Array Oper} {rest : List Oper} {o : Oper} {ac : Act} {Q : Exit → Act → World → Prop} (hgd : o.guard = none) (s x : Operand)
    (ho : o.op = .call { callee := .builtin .append, args := #[s, x], argTypes := #[34, 34] }) (base : Nat)
    (v : Value) (xs : List Nat) (hs : ac.eval s = v) (hown : Own naV 3 w base v xs) (y : Nat) (hx : ac.eval x = .slice (some ⟨w.heap.size, 0, none⟩) 1 1) (hcs : cs = #[.int .i64 (y : Int)])
    (hbytes : xs.length ≤ 1000000) (hbase : base ≤ w.heap.size)
    (h : ∀ v' w', Hid (Own naV 3 w' base v' (xs ++ [y])) → Hid (Kq (fun q => v.ownBlock = some q) w w') → Hid (∀ q, v'.ownBlock = some q → v.ownBlock = some q ∨ w.heap.size ≤ q) → wpList Try.prog ops Q rest (ac.put o.dst v') w') : wpList Try.prog ops Q (o :: rest) ac (w.alloc (.cells cs 3)) := by
  obtain ⟨i0, hi, hz0, hz1, hz2⟩ := info_parts infoI
  exact wpList_append_Own hgd s x 34 ho base 3 i0 _ 8 Try.underlying34 hi hz0 hz1 hz2 rfl naV_one v xs hs (hown.alloc _) _ _ 1 1 [y] hx (Arr.lit w 3 [y] 1 rfl (by omega) hcs) (by omega) (by simp only [maxLen]; omega) (by simp; omega) fun v' w' h1 h2 h3 =>
    h v' w' (Lib.hid h1) (Lib.hid ((Kq.of ((Below.refl w.heap.size w).alloc (Nat.le_refl _) _)).trans (Kq.grown h2))) (Lib.hid fun q hq => by
      rcases h3 with h4 | h4
      · rw [h4] at hq; exact .inl hq
      · rw [h4] at hq
        have := Option.some.inj hq
        rw [World.size_alloc] at this
        exact .inr (by omega))
theorem mkBools (u : World) : (Instr.makeSlice 30 (.int .i64 16) (.int .i64 16)).run Try.prog u = .ok (.slice (some ⟨u.heap.size, 0, none⟩) 16 16) (u.alloc (.cells ((List.replicate 16 false).map bolV).toArray 4)) := by
  kernel_rfl
theorem mkInts (u : World) : (Instr.makeSlice 34 (.int .i64 16) (.int .i64 16)).run Try.prog u = .ok (.slice (some ⟨u.heap.size, 0, none⟩) 16 16) (u.alloc (.cells ((List.replicate 16 0).map naV).toArray 3)) := by
  kernel_rfl
theorem cutN_to (a : Option Addr) (n c h : Nat) (hl : h ≤ c) (w : World) : (Instr.slice 34 (.slice a n c) none (some (.int .i64 (h : Int))) none).run Try.prog w = .ok (.slice a h c) w := by
  obtain ⟨i0, hi, hz0, hz1, hz2⟩ := info_parts infoI
  exact run_cut_to Try.underlying34 hi a n c h hl w
namespace Wears
/-- Between two rounds, in memory. -/
structure St (w : World) (B M C : Nat) (g : Mg) (S : Nat → Prop) (held : List Nat) (k : Nat) (v : Value) (wr : World) : Prop where
  M_ : g.M = M
  C_ : g.C = C
  mg : MgM 16 B S wr g
  inv : Inv g held k
  own : Own naV 3 wr w.heap.size v held
  far : ∀ q, v.ownBlock = some q → ¬ Sm g S q
  bel : Below w.heap.size w wr
  lo : w.heap.size ≤ B
section
variable {w wr w' : World} {B M C k : Nat} {g g2 : Mg} {S : Nat → Prop} {held held' : List Nat} {v v' : Value}
theorem St.on (h : St w B M C g S held k v wr) (hb : Below wr.heap.size wr w') : St w B M C g S held k v w' := ⟨h.M_, h.C_, h.mg.on hb, h.inv, h.own.on hb, h.far, h.bel.then_ hb, h.lo⟩
theorem St.more (h : St w B M C g S held k v wr) : St w B M C g S held (k + 1) v wr := ⟨h.M_, h.C_, h.mg, h.inv.more, h.own, h.far, h.bel, h.lo⟩
/-- The manager has done something. -/
theorem St.step (h : St w B M C g S held k v wr) (hm : MgM 16 B (Up S wr w') w' g2) (hk : Kq (Sm g S) wr w') (h1 : g2.M = g.M) (h2 : g2.ML = g.ML) (h3 : g2.C = g.C) {k' : Nat} (hi : Inv g2 held k') : St w B M C g2 (Up S wr w') held k' v w' :=
  ⟨h1.trans h.M_, h3.trans h.C_, hm, hi, h.own.kq hk h.far, fun q hq hs => by
    have hlt := (h.own.blockLt q hq).2
    rcases hs with e | e | e
    · exact h.far q hq (.inl (e.trans h1))
    · exact h.far q hq (.inr (.inl (e.trans h2)))
    · exact h.far q hq (.inr (.inr (up_of e hlt))), h.bel.trans (hk.below (fun q hq => by have := h.mg.lo q hq; have := h.lo; omega) h.bel.size), h.lo⟩
/-- A block's number is appended. -/
theorem St.app (hM : g2.M = M) (hC : g2.C = C) (hm : MgM 16 B S wr g2) (hl : w.heap.size ≤ B) (hb : Below w.heap.size w wr) (ho : Own naV 3 wr w.heap.size v held) (hf : ∀ q, v.ownBlock = some q → ¬ Sm g2 S q) (hi : Inv g2 held' k)
    (h1 : Own naV 3 w' w.heap.size v' held') (h2 : Kq (fun q => v.ownBlock = some q) wr w') (h3 : ∀ q, v'.ownBlock = some q → v.ownBlock = some q ∨ wr.heap.size ≤ q) : St w B M C g2 S held' k v' w' :=
  ⟨hM, hC, hm.kq h2 fun q hq e => hf q e hq, hi, h1, fun q hq hs => by
    rcases h3 q hq with e | e
    · exact hf q e hs
    · have := hm.hi q hs; omega, hb.trans (h2.below (fun q hq => (ho.blockLt q hq).1) hb.size), hl⟩
/-- A page is dropped: the last one takes its place. -/
theorem St.drop {hb n c i : Nat} (h : St w B M C g S held k (.slice (some ⟨hb, 0, none⟩) n c) wr) (hi : i < held.length) (hm : MgM 16 B S w' { g with l := g.l.set held[i] (dropB (Gc.at_ g.l held[i])) }) (hk : Kq (fun q => q = g.ML) wr w') {x : Nat} (hx : x = held.getD (held.length - 1) 0) (hn : n = held.length) :
    St w B M C { g with l := g.l.set held[i] (dropB (Gc.at_ g.l held[i])) } S (takeOut held i) (k + 1) (.slice (some ⟨hb, 0, none⟩) (n - 1) c) (w'.setCell ⟨hb, i, none⟩ (naV x)) := by
  have hq : Value.ownBlock (.slice (some ⟨hb, 0, none⟩) n c) = some hb := rfl
  have hf := h.far hb hq
  have hq2 : Kq (fun q => q = hb) w' (w'.setCell ⟨hb, i, none⟩ (naV x)) := Kq.one ⟨_, _, none⟩ _
  have ho := h.own.kq hk fun q hq e => h.far q hq (.inr (.inl e))
  have hB := (h.own.blockLt hb hq).1
  subst hx hn
  refine ⟨h.M_, h.C_, hm.kq hq2 fun q hs e => hf (e ▸ hs), h.inv.drop hi, (ho.set i _).cut (Nat.sub_le _ _), fun q hq => h.far q hq, ?_, h.lo⟩
  exact (h.bel.trans (hk.below (fun q hq => by have := h.mg.bL; have := h.lo; omega) h.bel.size)).trans ((Below.refl _ _).setCell (p := ⟨hb, i, none⟩) hB _)
/-- What Erase leaves. -/
def Erd (w : World) (B M C : Nat) (held : List Nat) (k : Nat) (v : Value) (e : Ending) (w' : World) : Prop := e = .returned (.int .i64 0) ∧ ∃ g2 S2, St w B M C g2 S2 held (k + 1) v w'
theorem erase_st (h : St w B M C g S held k v wr) (hn : k ≤ 1000) {j : Nat} (hj : j < 16) (hs : (Gc.at_ g.l j).st = 0 ∨ (Gc.at_ g.l j).st = 3) (hw : ∀ q, q < 16 → (Gc.at_ g.l j).wear ≤ (Gc.at_ g.l q).wear + 3) :
    Calls Try.prog 10 #[.pointer (some ⟨M, 0, none⟩), .int .i64 (j : Int)] wr (Erd w B M C held k v) := by
  have hb := h.inv.bk j hj
  have hlv : (Gc.at_ g.l j).live = 0 := by
    rcases hs with e | e
    · exact (hb.fr e).1
    · exact hb.sl e
  have hM := h.M_
  subst hM
  refine (bErase_calls h.mg hj (Gc.good_iff.2 (by omega)) hlv (by omega) hb.bad (by have := hb.we; have := hb.wn; omega)).mono ?_
  rintro e w' ⟨rfl, ⟨ps', hm⟩, hk⟩
  exact ⟨rfl, _, _, h.step hm hk rfl rfl rfl (h.inv.erase hj hs hw)⟩
/-- What gc bids to erase may be erased. -/
theorem erase_next (h : St w B M C g S held k v wr) (hn : k ≤ 1000) {room : Bool} {ak bn : Int} (hx : Gc.next g.l 8 room = (ak, bn)) (ha : ak = 1 ∨ ak = 3) :
    Calls Try.prog 10 #[.pointer (some ⟨M, 0, none⟩), .int .i64 bn] wr (Erd w B M C held k v) := by
  have hlen := h.inv.len
  rcases ha with rfl | rfl
  · obtain ⟨j, h1, rfl, h3, h4⟩ := next_erase hx
    rw [hlen] at h1
    exact erase_st h hn h1 (.inr h3) fun q hq => by have := h.inv.least hq; omega
  · obtain ⟨j, h1, rfl, h3, h4⟩ := next_burn hx
    rw [hlen] at h1
    refine erase_st h hn h1 (.inl ?_) fun q hq => by have := h.inv.least hq; omega
    rcases h4 with h4 | ⟨h4, h5⟩
    · exact h4
    · have := (h.inv.bk j h1).op h4; omega
theorem next_st (h : St w B M C g S held k v wr) (hn : k ≤ 1000) {ak bn : Int} (hx : Gc.next g.l 8 (decide (8 ≤ roomOf g)) = (ak, bn)) :
    Calls Try.prog 7 #[.pointer (some ⟨M, 0, none⟩)] wr fun e w' => e = .returned (.agg #[.int .i64 ak, .int .i64 bn]) ∧ Below wr.heap.size wr w' := by
  have hM := h.M_
  subst hM
  have := bNext_calls h.mg h.inv.even (h.inv.ok hn) h.inv.opn2.1 h.inv.opn2.2 (by omega)
  rw [hx] at this
  exact this
theorem free_st (h : St w B M C g S held k v wr) :
    Calls Try.prog 9 #[.pointer (some ⟨M, 0, none⟩)] wr fun e w' => e = .returned (.int .i64 (Gc.count 0 g.l : Int)) ∧ Below wr.heap.size wr w' := by
  have hM := h.M_
  subst hM
  exact bFree_calls h.mg
theorem room_st (h : St w B M C g S held k v wr) :
    Calls Try.prog 14 #[.pointer (some ⟨M, 0, none⟩)] wr fun e w' => e = .returned (.int .i64 (roomOf g)) ∧ Below wr.heap.size wr w' := by
  have hM := h.M_
  subst hM
  exact bRoom_calls h.mg h.inv.opn2.1 h.inv.opn2.2
theorem blocks_st (h : St w B M C g S held k v wr) :
    Calls Try.prog 15 #[.pointer (some ⟨M, 0, none⟩)] wr fun e w' => (∃ v, e = .returned v ∧ OwnM 4 bkL 47 w' wr.heap.size v g.l) ∧ Below wr.heap.size wr w' := by
  have hM := h.M_
  subst hM
  exact blocks_calls h.mg
theorem gap_st (h : St w B M C g S held k v wr) (hn : k ≤ 1000) :
    Calls Try.prog 11 #[.pointer (some ⟨C, 0, none⟩)] wr fun e w' => (∃ x : Int, e = .returned (.int .i64 x) ∧ x ≤ 4) ∧ Below wr.heap.size wr w' := by
  have hC := h.C_
  subst hC
  refine (gap_calls h.mg.hc (by omega) (by omega) (fun q hq => (h.inv.bk q hq).bad) (fun q hq => by have := (h.inv.bk q hq).we; have := (h.inv.bk q hq).wn; omega)).mono ?_
  rintro e w' ⟨rfl, hb⟩
  refine ⟨⟨_, rfl, Gap.small (by omega) fun i j hi hj => ?_⟩, hb⟩
  have h1 := h.inv.gap i j hi hj
  rw [(h.inv.bk i hi).we, (h.inv.bk j hj).we]
  exact h1
/-- What Drop leaves, before the last one has been moved. -/
def Drd (w : World) (B M C : Nat) (held : List Nat) (k i hb n c : Nat) (e : Ending) (w' : World) : Prop :=
  e = .returned (.int .i64 0) ∧ Own naV 3 w' w.heap.size (.slice (some ⟨hb, 0, none⟩) n c) held ∧ ∃ g2 S2, St w B M C g2 S2 (takeOut held i) (k + 1) (.slice (some ⟨hb, 0, none⟩) (n - 1) c) (w'.setCell ⟨hb, i, none⟩ (naV (held.getD (held.length - 1) 0)))
theorem drop_st {hb n c i : Nat} (h : St w B M C g S held k (.slice (some ⟨hb, 0, none⟩) n c) wr) (hi : i < held.length) (hn : n = held.length) {x : Nat} (hx : x = held[i]) :
    Calls Try.prog 8 #[.pointer (some ⟨M, 0, none⟩), .int .i64 (x : Int)] wr (Drd w B M C held k i hb n c) := by
  have hM := h.M_
  subst hM hx
  have hj := h.inv.hm _ (List.getElem_mem hi)
  have hb2 := h.inv.bk _ hj
  have hpos : 0 < held.count held[i] := List.count_pos_iff.2 (List.getElem_mem hi)
  refine (bDrop_calls h.mg hj (Gc.good_iff.2 (by have := hb2.st; omega)) (by rw [hb2.lv]; exact hpos) (by have := hb2.l8; omega)).mono ?_
  rintro e w' ⟨rfl, hm, hk⟩
  exact ⟨rfl, h.own.kq hk fun q hq e => h.far q hq (.inr (.inl e)), _, _, h.drop hi hm hk rfl hn⟩
/-- What Program leaves. -/
def Prd (w : World) (B M C : Nat) (held : List Nat) (k : Nat) (v : Value) (g : Mg) (wr : World) (e : Ending) (w' : World) : Prop :=
  (∃ j i : Nat, j < 16 ∧ e = .returned (.tuple #[.int .i64 (j : Int), .int .i64 (i : Int), .int .i64 0]) ∧ ∃ g2 S2, g2.M = M ∧ g2.C = C ∧ MgM 16 B S2 w' g2 ∧ Own naV 3 w' w.heap.size v held ∧ (∀ q, v.ownBlock = some q → ¬ Sm g2 S2 q) ∧ Below w.heap.size w w' ∧ Inv g2 (held ++ [j]) (k + 1)) ∨
  (e = .returned (.tuple #[.int .i64 0, .int .i64 0, .int .i64 40]) ∧ Below wr.heap.size wr w' ∧ roomOf g = 0)
theorem prog_st (h : St w B M C g S held k v wr) (a : Option Addr) (c : Nat) (bs : List UInt8) (hbs : Own byteV 5 wr 0 (.slice a 96 c) bs) (hap : ∀ q, Value.ownBlock (.slice a 96 c) = some q → ¬ Sm g S q) :
    Calls Try.prog 12 #[.pointer (some ⟨M, 0, none⟩), .slice a 96 c] wr (Prd w B M C held k v g wr) := by
  have hM := h.M_
  subst hM
  have hfin : ∀ {g2 : Mg} {w' : World} {held' : List Nat} {k' : Nat}, MgM 16 B (Up S wr w') w' g2 → Kq (Sm g S) wr w' → g2.M = g.M → g2.ML = g.ML → g2.C = g.C → Inv g2 held' k' → g2.M = g.M ∧ g2.C = C ∧ MgM 16 B (Up S wr w') w' g2 ∧ Own naV 3 w' w.heap.size v held ∧ (∀ q, v.ownBlock = some q → ¬ Sm g2 (Up S wr w') q) ∧ Below w.heap.size w w' ∧ Inv g2 held' k' := fun {g2 w' _ _} hm hk h1 h2 h3 hi =>
    ⟨h1, h3.trans h.C_, hm, h.own.kq hk h.far, fun q hq hs => by
      have hlt := (h.own.blockLt q hq).2
      rcases hs with e | e | e
      · exact h.far q hq (.inl (e.trans h1))
      · exact h.far q hq (.inr (.inl (e.trans h2)))
      · exact h.far q hq (.inr (.inr (up_of e hlt))), h.bel.trans (hk.below (fun q hq => by have := h.mg.lo q hq; have := h.lo; omega) h.bel.size), hi⟩
  rcases h.inv.opn with ho | ⟨j, j1, j2, j3⟩
  · cases hb : Gc.best isFree Gc.worn g.l 16 with
    | none =>
      refine (bProgram_full h.mg hb ho a c).mono ?_
      rintro e w' ⟨rfl, hw⟩
      exact .inr ⟨rfl, hw, h.inv.full ho hb⟩
    | some j =>
      have hlen := h.inv.len
      obtain ⟨hj, hf⟩ := Gc.best_some hb
      have hs : (Gc.at_ g.l j).st = 0 := by unfold isFree at hf; rw [beq_iff_eq] at hf; omega
      have hbk := h.inv.bk j hj
      refine (bProgram_begin h.mg hb ho (hbk.fr hs).2 hbk.bad hbk.brk a c bs hbs hap).mono ?_
      rintro e w' ⟨rfl, hm, hk⟩
      exact .inl ⟨j, 0, hj, rfl, _, _, hfin hm hk rfl rfl rfl (h.inv.open_ ho hb)⟩
  · have hbk := h.inv.bk j j1
    obtain ⟨o1, o2, o3, o4, o5⟩ := hbk.op j3
    refine (bProgram_open h.mg j1 j2 o3 rfl (by have := hbk.l8; omega) o4 hbk.bad hbk.brk a c bs hbs fun q hq hs => hap q hq (.inr (.inr hs))).mono ?_
    rintro e w' ⟨rfl, hm, hk⟩
    exact .inl ⟨j, _, j1, rfl, _, _, hfin hm hk rfl rfl rfl (h.inv.prog j1 j2 j3)⟩
end
theorem openL_fresh {n : Nat} (h : n ≤ 16) : openL (fun _ => fresh 0) (List.replicate 16 true) (List.replicate 16 0) n = List.replicate n ⟨0, 0, 0, 0⟩ := by
  apply List.ext_getElem
  · simp [openL]
  · intro i h1 h2
    rw [List.getElem_replicate]
    simp only [openL, List.getElem_map, List.getElem_range]
    have hi : i < 16 := by rw [List.length_replicate] at h2; omega
    rw [List.getD_eq_getElem?_getD, List.getElem?_replicate, if_pos hi]
    rfl
theorem st0 {w wr : World} {B M ML C BL cap : Nat} {S : Nat → Prop} {ps : Nat → Nat} {bl : Nat → Pb} {fr : List Bool} {lv : List Nat} {ev : Bool} {o : Int} {x y : Nat} (hbl : bl = fun _ => fresh 0) (hfr : fr = List.replicate 16 true) (hlv : lv = List.replicate 16 0) (ho : o = -1) (he : ev = decide (4 < (Gc.greatest (openL bl fr lv 16) : Int) - Gc.least (openL bl fr lv 16)))
    (h : MgM 16 B S wr ⟨M, ML, C, BL, cap, ps, bl, openL bl fr lv 16, o, x, y, ev⟩) (hb : Below w.heap.size w wr) (hB : w.heap.size ≤ B) : St w B M C ⟨M, ML, C, BL, cap, ps, bl, openL bl fr lv 16, o, x, y, ev⟩ S [] 0 (.slice none 0 0) wr := by
  subst hbl hfr hlv ho
  have e0 := openL_fresh (Nat.le_refl 16)
  have hat : ∀ k, k < 16 → Gc.at_ (openL (fun _ => fresh 0) (List.replicate 16 true) (List.replicate 16 0) 16) k = ⟨0, 0, 0, 0⟩ := fun k hk => by
    rw [e0, Gc.at_, List.getD_eq_getElem?_getD, List.getElem?_replicate, if_pos hk]
    rfl
  refine ⟨rfl, rfl, h, ⟨h.len, fun k hk => ?_, fun i j hi hj => ?_, .inl rfl, ?_, by simp, by simp⟩, Own.nil _ _, fun q hq => (by cases hq), hb, hB⟩
  · dsimp only
    rw [hat k hk]
    exact ⟨by decide, rfl, by decide, by decide, fun e => (by cases e), fun _ => ⟨rfl, rfl⟩, fun e => (by cases e), fun e => (by cases e), rfl, Nat.le_refl _, rfl, rfl⟩
  · dsimp only
    rw [hat i hi, hat j hj]
    exact Nat.zero_le _
  · show ev = false
    rw [he, e0]
    decide
end Wears
end Go.Proofs.Ytkkkggeagjgbeaa
