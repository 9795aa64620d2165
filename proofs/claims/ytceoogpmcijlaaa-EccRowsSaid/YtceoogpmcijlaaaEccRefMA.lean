/-
  The reference's MendAll.
-/
import Derived.Test.YtceoogpmcijlaaaEccRowsB
import Derived.Test.YtceoogpmcijlaaaEccMendAll
import Derived.Test.YtceoogpmcijlaaaNumNum
namespace Go.Proofs.Ytceoogpmcijlaaa
open Go.RowKit

theorem Own.keepB {α : Type} {f : α → Value} {e : TypeId} {w w' : World} {base : Nat} {v : Value} {xs : List α} (h : Own f e w base v xs) (hk : ∀ g, base ≤ g → g < w.heap.size → w'.heap[g]? = w.heap[g]?) : Own f e w' base v xs := by
  refine ⟨h.1, ?_⟩
  rcases h.2 with h2 | ⟨g, cap, cur, hv, hgb, hg, r⟩
  · exact Or.inl h2
  · refine Or.inr ⟨g, cap, cur, hv, hgb, (hk g hgb ?_).trans hg, r⟩
    rcases Nat.lt_or_ge g w.heap.size with hlt | hge
    · exact hlt
    · rw [Array.getElem?_eq_none hge] at hg; cases hg
/-- The blocks from F on up to N are as they were. -/
def KeepsB (F N : Nat) (w w' : World) : Prop := ∀ g, F < g → g < N → w'.heap[g]? = w.heap[g]?
theorem KeepsB.below {F N : Nat} {w w1 w2 : World} (h : KeepsB F N w w1) {B : Nat} (hb : Below B w1 w2) (hN : N ≤ B) : KeepsB F N w w2 := fun g h1 h2 => (hb.block g (by omega)).trans (h g h1 h2)
theorem KeepsB.set {F N : Nat} {w w1 : World} (h : KeepsB F N w w1) (i : Nat) (u : Value) : KeepsB F N w (w1.setCell ⟨F, i, none⟩ u) := fun g h1 h2 => (heap_setCell_other w1 ⟨F, i, none⟩ g u (by simp; omega)).trans (h g h1 h2)
theorem refMendAll_bad (a : Option Addr) (n c : Nat) (k : Int) (a2 : Option Addr) (n2 c2 : Nat) (w : World) (hk : k < 1 ∨ 4096 < k) :
    Calls Try.prog 22 #[.slice a n c, .int .i64 k, .slice a2 n2 c2] w (MaR [] 0 0 0 0 1 w) := by
  by_cases h1 : k < 1
  · clear hk
    go_enter Try.func22, Try.ntmps22
    go_wp2
    refine bodyPost_ret (v := .tuple #[.slice none 0 0, .agg #[.int .i64 0, .int .i64 0, .int .i64 0, .int .i64 0], .int .i64 1]) (by simp [results, Try.results22, go_sem]) rfl ?_
    exact ⟨_, _, _, rfl, Arr.none_ _ _ _, (Below.refl _ _).alloc (Nat.le_refl _) _⟩
  · have h2 : 4096 < k := by omega
    clear hk
    go_enter Try.func22, Try.ntmps22
    go_wp2
    refine bodyPost_ret (v := .tuple #[.slice none 0 0, .agg #[.int .i64 0, .int .i64 0, .int .i64 0, .int .i64 0], .int .i64 1]) (by simp [results, Try.results22, go_sem]) rfl ?_
    exact ⟨_, _, _, rfl, Arr.none_ _ _ _, (Below.refl _ _).alloc (Nat.le_refl _) _⟩
theorem refMendAll_off (a : Option Addr) (b o n c k : Nat) (a2 : Option Addr) (n2 c2 : Nat) (w : World) (ha : n ≠ 0 → a = some ⟨b, o, none⟩) (hn : n ≤ 900) (hnc : n ≤ c) (hc : c ≤ 140737488351232) (h1 : 1 ≤ k) (h2 : k ≤ 4096) (h3 : n2 ≠ 4 * Ecc.blks n k) :
    Calls Try.prog 22 #[.slice a n c, .int .i64 k, .slice a2 n2 c2] w (MaR [] 0 0 0 0 1 w) := by
  have hbl := Lib.hid (fun w => blocks_calls a b o n c k w ha h1 h2 hn hnc hc)
  have hmn := Ecc.blks_le (l := n) h1
  unfold RowS at hbl
  generalize Ecc.blks n k = m at *
  have g1 : decide ((k : Int) < 1) = false := decide_eq_false (by omega)
  have g2 : decide (4096 < (k : Int)) = false := decide_eq_false (by omega)
  have g3 : decide (65536 < (n : Int)) = false := decide_eq_false (by omega)
  have g4 : ((n2 : Int) != 4 * (m : Int)) = true := by rw [bne_iff_ne]; omega
  clear ha h3
  go_enter Try.func22, Try.ntmps22
  go_wp2_with fail
  refine (hbl.out _).mono ?_
  rintro e w1 ⟨⟨v0, rfl, ho⟩, hb⟩
  obtain ⟨a0, c0, rfl, hc0⟩ := ho.formN (blkRow_len b o n c k m)
  have HB := Lib.hid (((Below.refl w.heap.size w).alloc (Nat.le_refl _) (.cells #[.int .i64 0, .int .i64 0, .int .i64 0, .int .i64 0] 46)).then_ hb)
  have hcl := (Blk.new w 46 #[.int .i64 0, .int .i64 0, .int .i64 0, .int .i64 0]).belowHere hb
  have e0 := hcl.cellv (i := 0) rfl
  have e1 := hcl.cellv (i := 1) rfl
  have e2 := hcl.cellv (i := 2) rfl
  have e3 := hcl.cellv (i := 3) rfl
  have q0 := hcl.frozen 0
  have q1 := hcl.frozen 1
  have q2 := hcl.frozen 2
  have q3 := hcl.frozen 3
  clear ho hb hcl
  go_wp2
  refine bodyPost_ret (v := .tuple #[.slice none 0 0, .agg #[.int .i64 0, .int .i64 0, .int .i64 0, .int .i64 0], .int .i64 1]) (by simp [results, Try.results22, go_sem, *]) rfl ?_
  exact ⟨_, _, _, rfl, Arr.none_ _ _ _, (((HB.out.setCell (p := ⟨w.heap.size, 0, none⟩) (Nat.le_refl _) _).setCell (p := ⟨w.heap.size, 1, none⟩) (Nat.le_refl _) _).setCell (p := ⟨w.heap.size, 2, none⟩) (Nat.le_refl _) _).setCell (p := ⟨w.heap.size, 3, none⟩) (Nat.le_refl _) _⟩
set_option maxHeartbeats 2000000 in
theorem refMendAll_good (a : Option Addr) (b o n c k : Nat) (a2 : Option Addr) (n2 c2 : Nat) (xs cs : List UInt8) (w : World) (ha : n ≠ 0 → a = some ⟨b, o, none⟩) (hx : Bytes w w.heap.size a n xs) (hy : Bytes w w.heap.size a2 n2 cs) (hn : n ≤ 900) (hnc : n ≤ c) (hc : c ≤ 140737488351232) (hnc2 : n2 ≤ c2)
    (h1 : 1 ≤ k) (h2 : k ≤ 4096) (h3 : n2 = 4 * Ecc.blks n k) :
    Calls Try.prog 22 #[.slice a n c, .int .i64 k, .slice a2 n2 c2] w (MaR (Ecc.fixedTo xs cs k (Ecc.blks n k)) (Ecc.cnt xs cs k 0 (Ecc.blks n k)) (Ecc.cnt xs cs k 1 (Ecc.blks n k)) (Ecc.cnt xs cs k 2 (Ecc.blks n k)) (Ecc.cnt xs cs k 3 (Ecc.blks n k)) 0 w) := by
  have hbl := Lib.hid (fun w => blocks_calls a b o n c k w ha h1 h2 hn hnc hc)
  have hmn := Ecc.blks_le (l := n) h1
  have HX := Lib.hid hx
  have HY := Lib.hid hy
  have HLX := Lib.hid hx.len
  have HLY := Lib.hid hy.len
  have HLT := Lib.hid (fun j => Ecc.lt_blks (l := n) (n := k) (j := j) h1)
  unfold RowS at hbl
  have HA := Lib.hid ha
  generalize Ecc.blks n k = m at *
  subst h3
  have g1 : decide ((k : Int) < 1) = false := decide_eq_false (by omega)
  have g2 : decide (4096 < (k : Int)) = false := decide_eq_false (by omega)
  have g3 : decide (65536 < (n : Int)) = false := decide_eq_false (by omega)
  clear ha hx hy
  go_enter Try.func22, Try.ntmps22
  go_wp2_with fail
  refine (hbl.out _).mono ?_
  rintro e w1 ⟨⟨v0, rfl, ho⟩, hb⟩
  obtain ⟨a0, c0, rfl, hc0⟩ := ho.formN (blkRow_len b o n c k m)
  have hbf := (Below.refl w.heap.size w).alloc (Nat.le_refl _) (.cells #[.int .i64 0, .int .i64 0, .int .i64 0, .int .i64 0] 46)
  have HB1 := Lib.hid (hbf.then_ hb)
  have HZ1 := Lib.hid ((Blk.new w 46 #[.int .i64 0, .int .i64 0, .int .i64 0, .int .i64 0]).belowHere hb)
  have hs1 := hb.size
  simp only [World.size_alloc] at hs1
  clear ho hb hbf
  have HF2 := Lib.hid (Blk.new w1 46 #[.int .i64 0, .int .i64 0, .int .i64 0, .int .i64 0])
  have hb2 := (Below.refl w1.heap.size w1).alloc (Nat.le_refl _) (.cells #[.int .i64 0, .int .i64 0, .int .i64 0, .int .i64 0] 46)
  have HZ2 := Lib.hid (HZ1.out.belowHere hb2)
  have HB2 := Lib.hid (HB1.out.then_ hb2)
  have hs2 : (w1.alloc (.cells #[.int .i64 0, .int .i64 0, .int .i64 0, .int .i64 0] 46)).heap.size = w1.heap.size + 1 := by simp
  clear hb2
  go_wp2_with fail
  generalize w1.alloc (.cells #[.int .i64 0, .int .i64 0, .int .i64 0, .int .i64 0] 46) = w2 at *
  generalize w1.heap.size = F at *
  refine (hbl.out _).mono ?_
  rintro e w3 ⟨⟨v3, rfl, ho⟩, hb⟩
  obtain ⟨a3, c3, rfl, hc3⟩ := ho.formN (blkRow_len b o n c k m)
  have HR3 := Lib.hid ho
  have HF3 := Lib.hid (HF2.out.belowHere hb)
  have HZ3 := Lib.hid (HZ2.out.belowHere hb)
  have HB3 := Lib.hid (HB2.out.then_ hb)
  have hs3 := hb.size
  clear ho hb HF2 HZ2 HB2 HZ1 HB1
  go_wp2
  go_loopw [9, 12, 13, 14, 15] (fun v i _ _ _ wr => ∃ j : Nat, j ≤ m ∧ i = .int .i64 j ∧ Own byteV 5 wr w3.heap.size v (Ecc.fixedTo xs cs k j) ∧ Blk wr F 46 (cntV xs cs k j) ∧ Blk wr w.heap.size 46 #[.int .i64 0, .int .i64 0, .int .i64 0, .int .i64 0] ∧ KeepsB F w3.heap.size w3 wr ∧ Below w.heap.size w wr ∧ w3.heap.size ≤ wr.heap.size) (fun _ i _ _ _ _ => m - (intOf i).toNat)
  case atStart => exact ⟨0, by omega, rfl, Own.nil _ _, HF3.out, HZ3.out, fun _ _ _ => rfl, HB3.out, Nat.le_refl _⟩
  case round =>
    obtain ⟨j, hj, rfl, ho, hf, hz, hr, hb, hsr⟩ := hrel
    have hfl : (Ecc.fixedTo xs cs k j).length ≤ 900 := Nat.le_trans (Ecc.fixedTo_le xs cs k j (fun i hi => by rw [HLX.out]; exact (HLT.out i).1 (by omega))) (by rw [HLX.out]; exact hn)
    have HO := Lib.hid ho
    have HF := Lib.hid hf
    have HZ := Lib.hid hz
    have HKp := Lib.hid hr
    have HRr := Lib.hid (HR3.out.keepB (w' := wr) (fun g h4 h5 => hr g (by omega) h5))
    have HB := Lib.hid hb
    clear ho hf hz hr hb HF3 HZ3 HB3
    by_cases hlt : j < m
    · have hkj := (HLT.out j).1 hlt
      obtain rfl := HA.out (by omega)
      obtain ⟨g3, rfl, hgb, hgl⟩ := HRr.out.addr (by rw [blkRow_len]; omega)
      obtain ⟨hcell, _⟩ := HRr.out.cellg (k := j) (by rw [blkRow_len]; omega)
      rw [blkRow_at] at hcell
      have hch := fun W (hW : Below wr.heap.size wr W) => chunk_arr (c := c) (HX.out.on (HB.out.trans (hW.mono HB.out.size))) hkj hnc
      obtain ⟨o', ho'⟩ : ∃ o', o' = o + k * j := ⟨_, rfl⟩
      obtain ⟨e, he⟩ : ∃ e, e = min k (n - k * j) := ⟨_, rfl⟩
      obtain ⟨c', hc'⟩ : ∃ c', c' = c - k * j := ⟨_, rfl⟩
      have hcell2 : wr.cell? ⟨g3, j, none⟩ = some (.slice (some ⟨b, o', none⟩) e c') := by rw [ho', he, hc']; exact hcell
      rw [← ho', ← he] at hch
      have he1 : 1 ≤ e ∧ e ≤ 4096 := by omega
      have HCH := Lib.hid hch
      obtain ⟨b2, o2, _, rfl, _, _⟩ := HY.out.atv (k := 0) (by omega)
      have q4 : IntKind.i64.wrap (4 * (j : Int)) = 4 * (j : Int) := IntWalk.i64_in _ ⟨by omega, by omega⟩
      have q5 : IntKind.i64.wrap (4 * (j : Int) + 4) = 4 * (j : Int) + 4 := IntWalk.i64_in _ ⟨by omega, by omega⟩
      have hcut2 := cutB_mid (some ⟨b2, o2, none⟩) (4 * m) c2 (4 * j) (4 * j + 4) (by omega) (by omega)
      rw [cutA, if_neg (by omega), Option.map_some, Addr.add_mid, Nat.add_sub_cancel_left, Int.natCast_add, Int.natCast_mul, show ((4 : Nat) : Int) = 4 from rfl] at hcut2
      have hy4 := fun W (hW : Below wr.heap.size wr W) => ((HY.out.on (HB.out.trans (hW.mono HB.out.size))).drop (l := 4 * j) (by omega) hnc2).take (k := 4) (by omega)
      rw [cutA, if_neg (by omega), Option.map_some, Addr.add_mid] at hy4
      obtain ⟨p, hp⟩ : ∃ p, p = o2 + 4 * j := ⟨_, rfl⟩
      obtain ⟨c4, hc4⟩ : ∃ c4, c4 = c2 - 4 * j := ⟨_, rfl⟩
      rw [← hp, ← hc4] at hcut2
      rw [← hp] at hy4
      have HY4 := Lib.hid hy4
      have hcl := Ecc.codeAt_lt cs j
      have hcn : numL ((cs.drop (4 * j)).take 4) = Ecc.codeAt cs j := rfl
      have hmd := Ecc.mends (Ecc.chunk xs k j) (Ecc.codeAt cs j) (by rw [Ecc.chunk_len, HLX.out, ← he]; exact he1.1) (by rw [Ecc.chunk_len, HLX.out, ← he]; exact he1.2)
      have HMC := Lib.hid (fun W hW => refMend_calls (some ⟨b, o', none⟩) e c' (Ecc.chunk xs k j) (Ecc.codeAt cs j) W hW hcl)
      have HNC := Lib.hid (fun W hW => refNum_calls (some ⟨b2, p, none⟩) 4 c4 ((cs.drop (4 * j)).take 4) W hW (by omega))
      rw [hcn] at HNC
      obtain ⟨mm, hmm⟩ : ∃ mm, mm = Ecc.mend (Ecc.chunk xs k j) (Ecc.codeAt cs j) := ⟨_, rfl⟩
      rw [← hmm] at HMC
      have HMD := Lib.hid hmd
      have HMM := Lib.hid hmm
      have HCut := Lib.hid hcut2
      have HSF := Lib.hid (show Ecc.fixedTo xs cs k (j + 1) = Ecc.fixedTo xs cs k j ++ Ecc.fixed (Ecc.chunk xs k j) (Ecc.codeAt cs j) from rfl)
      obtain ⟨ys, kk, er⟩ := mm
      obtain ⟨Cd, hCd⟩ : ∃ C, C = Ecc.codeAt cs j := ⟨_, rfl⟩
      rw [← hCd] at HNC HMC hcl
      clear hcut2 hcell hch ho' he hc' hkj hp hc4 hcn hmd hmm hCd hy4
      go_wp2_with fail
      refine wp_region_noPanic ?_
      refine wp_region_held_drew (S := (fun W' => Below wr.heap.size wr W')) (by kernel_rfl) (Below.refl _ _).drew (fun hS0 => ?_)
      refine takeV 0 (v := .slice (some ⟨g3, 0, none⟩) m c3) rfl (by kernel_rfl) (by kernel_rfl) (by kernel_rfl) (fun _ _ _ h => h) (by rfl) (fun _ _ => rfl) (by assumption) ?_
      try simp only [layR]
      refine takeV 1 (v := .int .i64 (j : Int)) rfl (by kernel_rfl) (by kernel_rfl) (by kernel_rfl) (fun _ _ _ h => h) (by rfl) (fun _ _ => rfl) (by assumption) ?_
      try simp only [layR]
      refine takeV 2 (v := .pointer (some ⟨g3, j, none⟩)) rfl (by kernel_rfl) (by kernel_rfl) (by kernel_rfl) (fun _ _ _ h => h) (by rfl) (fun W hSw => ?_) (by assumption) ?_
      · go_simp
      try simp only [layR]
      refine takeV 3 (v := .slice (some ⟨b, o', none⟩) e c') rfl (by kernel_rfl) (by kernel_rfl) (by kernel_rfl) (fun _ _ _ h => h) (by rfl) (fun W hSw => ?_) (by assumption) ?_
      · have r := (hSw.cell (p := ⟨g3, j, none⟩) hgl).trans hcell2
        go_simp
      try simp only [layR]
      refine takeV 4 (v := .slice (some ⟨b2, o2, none⟩) (4 * m) c2) rfl (by kernel_rfl) (by kernel_rfl) (by kernel_rfl) (fun _ _ _ h => h) (by rfl) (fun _ _ => rfl) (by assumption) ?_
      try simp only [layR]
      refine takeV 5 (v := .int .i64 (j : Int)) rfl (by kernel_rfl) (by kernel_rfl) (by kernel_rfl) (fun _ _ _ h => h) (by rfl) (fun _ _ => rfl) (by assumption) ?_
      try simp only [layR]
      refine takeV 6 (v := .int .i64 (4 * (j : Int))) rfl (by kernel_rfl) (by kernel_rfl) (by kernel_rfl) (fun _ _ _ h => h) (by rfl) (fun W hSw => ?_) (by assumption) ?_
      · go_simp
      try simp only [layR]
      refine takeV 7 (v := .int .i64 (j : Int)) rfl (by kernel_rfl) (by kernel_rfl) (by kernel_rfl) (fun _ _ _ h => h) (by rfl) (fun _ _ => rfl) (by assumption) ?_
      try simp only [layR]
      refine takeV 8 (v := .int .i64 (4 * (j : Int))) rfl (by kernel_rfl) (by kernel_rfl) (by kernel_rfl) (fun _ _ _ h => h) (by rfl) (fun W hSw => ?_) (by assumption) ?_
      · go_simp
      try simp only [layR]
      refine takeV 9 (v := .int .i64 (4 * (j : Int) + 4)) rfl (by kernel_rfl) (by kernel_rfl) (by kernel_rfl) (fun _ _ _ h => h) (by rfl) (fun W hSw => ?_) (by assumption) ?_
      · go_simp
      try simp only [layR]
      refine takeV 10 (v := .slice (some ⟨b2, p, none⟩) 4 c4) rfl (by kernel_rfl) (by kernel_rfl) (by kernel_rfl) (fun _ _ _ h => h) (by rfl) (fun W hSw => ?_) (by assumption) ?_
      · have r := HCut.out W
        go_simp
      try simp only [layR]
      refine wpAnyH_ready (rs := [11]) (by kernel_rfl) (by simp) ?_
      refine AllReadyH.cons rfl (fun K' hK => ?_) AllReadyH.nil
      go_simp
      refine (HNC.out _ (HY4.out _ hS0)).mono ?_
      rintro _ wn ⟨rfl, rfl⟩
      refine hK.out _ _ hS0 (fun hS1 => ?_)
      try simp only [layR]
      clear hS1
      refine takeV 12 (v := .int .u32 (Cd : Nat)) rfl (by kernel_rfl) (by kernel_rfl) (by kernel_rfl) (fun _ _ _ h => h) (by rfl) (fun W hSw => ?_) (by assumption) ?_
      · have r : IntKind.u32.wrap (Cd : Int) = (Cd : Int) := IntWalk.u32_in _ ⟨by omega, by omega⟩
        go_simp
      try simp only [layR]
      refine wpAnyH_ready (rs := [13]) (by kernel_rfl) (by simp) ?_
      refine AllReadyH.cons rfl (fun K' hK => ?_) AllReadyH.nil
      go_simp
      refine (HMC.out _ (HCH.out _ hS0)).mono ?_
      rintro _ w5 ⟨a5, n5, c5, rfl, hx5, hb⟩
      have hS1 := Below.then_ hS0 hb
      have HX5 := Lib.hid hx5
      clear hb hS0 hx5
      refine hK.out _ _ hS1 (fun hS0 => ?_)
      clear hS1
      refine takeV 14 (v := .tuple #[.slice a5 n5 c5, .int .i64 kk, .int .i64 er]) rfl (by kernel_rfl) (by kernel_rfl) (by kernel_rfl) (fun _ _ _ h => h) (by rfl) (fun _ _ => rfl) (by assumption) ?_
      try simp only [layR]
      refine takeV 15 (v := .slice a5 n5 c5) rfl (by kernel_rfl) (by kernel_rfl) (by kernel_rfl) (fun _ _ _ h => h) (by rfl) (fun _ _ => rfl) (by assumption) ?_
      try simp only [layR]
      refine takeV 16 (v := .int .i64 kk) rfl (by kernel_rfl) (by kernel_rfl) (by kernel_rfl) (fun _ _ _ h => h) (by rfl) (fun _ _ => rfl) (by assumption) ?_
      try simp only [layR]
      refine takeV 17 (v := .int .i64 er) rfl (by kernel_rfl) (by kernel_rfl) (by kernel_rfl) (fun _ _ _ h => h) (by rfl) (fun _ _ => rfl) (by assumption) ?_
      try simp only [layR]
      refine takeV 18 (v := .slice a5 n5 c5) rfl (by kernel_rfl) (by kernel_rfl) (by kernel_rfl) (fun _ _ _ h => h) (by rfl) (fun _ _ => rfl) (by assumption) ?_
      try simp only [layR]
      refine takeV 19 (v := .int .i64 kk) rfl (by kernel_rfl) (by kernel_rfl) (by kernel_rfl) (fun _ _ _ h => h) (by rfl) (fun _ _ => rfl) (by assumption) ?_
      try simp only [layR]
      refine takeV 20 (v := .int .i64 er) rfl (by kernel_rfl) (by kernel_rfl) (by kernel_rfl) (fun _ _ _ h => h) (by rfl) (fun _ _ => rfl) (by assumption) ?_
      refine wpAnyH_done (by kernel_rfl) ?_ _
      refine NoPanic.normal ?_
      have HO5 := Lib.hid (HO.out.on hS0)
      have HF5 := Lib.hid (HF.out.belowHere hS0)
      have HZ5 := Lib.hid (HZ.out.belowHere hS0)
      have HK5 := Lib.hid (HKp.out.below hS0 hsr)
      have HB5 := Lib.hid (HB.out.trans (hS0.mono HB.out.size))
      have hS5 := hS0.size
      have hs5 : w3.heap.size ≤ w5.heap.size := by omega
      have hFs : F < w3.heap.size := by omega
      have HCX := Lib.hid ((hS0.cell (p := ⟨g3, j, none⟩) hgl).trans hcell2)
      have HCH5 := Lib.hid (HCH.out _ hS0)
      clear HO HF HZ HKp HB hS0 hcell2 q4 q5 HCH HY4 HMC HNC HCut
      rcases HMD.out with ⟨hk, _, hm, hf⟩ | ⟨hk, _, hm, hf⟩ | ⟨bt, hbt, hk, _, hm, hf⟩ | ⟨ee, he21, hk, _, hm, hf⟩
      · obtain ⟨rfl, rfl, rfl⟩ : ys = Ecc.chunk xs k j ∧ kk = -1 ∧ er = 0 := by have h := HMM.out; rw [hm] at h; simpa using h
        have hyl := HX5.out.len
        have hyn : n5 ≤ 4096 := by rw [← hyl, Ecc.chunk_len]; omega
        have HYL := Lib.hid hyl
        clear hyl
        have HSFt := Lib.hid (show Ecc.fixedTo xs cs k (j + 1) = Ecc.fixedTo xs cs k j ++ Ecc.chunk xs k j by rw [HSF.out, hf])
        have HSC := Lib.hid (cntV_succ (xs := xs) (cs := cs) (k := k) (j := j) (q := 0) (by omega) hk)
        have hcnt := Ecc.cnt_le xs cs k 0 j
        have cat := Lib.hid (cntV_at (xs := xs) (cs := cs) (k := k) (j := j) (q := 0) (by omega))
        generalize Ecc.cnt xs cs k 0 j = Qn at *
        clear hk hf hm
        go_wp2_with (at_builtin; refine wpList_ontoB rfl _ _ rfl w3.heap.size _ _ rfl HO5.out _ a5 n5 c5 _ rfl HX5.out (by omega) hs5 ?_; intro v6 w6 HO6 HB6; have HF6 := Lib.hid (HF5.out.below HB6.out hFs); have cq := HF6.out.cellv cat.out; have fq := HF6.out.frozen 0)
        go_roundw
        case rel => exact ⟨j + 1, by omega, by go_num, by rw [HSFt.out]; exact HO6.out.farLow (p := ⟨F, 0, none⟩) hFs _, by rw [HSC.out]; exact HF6.out.set 0 _, (HZ5.out.below HB6.out (by omega)).far (by simp; omega) _, (HK5.out.below HB6.out (Nat.le_refl _)).set 0 _, (HB5.out.trans (HB6.out.mono (by omega))).setCell (p := ⟨F, 0, none⟩) (by simp; omega) _, by have := HB6.out.size; simp; omega⟩
        case measure => simp [intOf]; omega
      · obtain ⟨rfl, rfl, rfl⟩ : ys = Ecc.chunk xs k j ∧ kk = -2 ∧ er = 0 := by have h := HMM.out; rw [hm] at h; simpa using h
        have hyl := HX5.out.len
        have hyn : n5 ≤ 4096 := by rw [← hyl, Ecc.chunk_len]; omega
        have HYL := Lib.hid hyl
        clear hyl
        have HSFt := Lib.hid (show Ecc.fixedTo xs cs k (j + 1) = Ecc.fixedTo xs cs k j ++ Ecc.chunk xs k j by rw [HSF.out, hf])
        have HSC := Lib.hid (cntV_succ (xs := xs) (cs := cs) (k := k) (j := j) (q := 2) (by omega) hk)
        have hcnt := Ecc.cnt_le xs cs k 2 j
        have cat := Lib.hid (cntV_at (xs := xs) (cs := cs) (k := k) (j := j) (q := 2) (by omega))
        generalize Ecc.cnt xs cs k 2 j = Qn at *
        clear hk hf hm
        go_wp2_with (at_builtin; refine wpList_ontoB rfl _ _ rfl w3.heap.size _ _ rfl HO5.out _ a5 n5 c5 _ rfl HX5.out (by omega) hs5 ?_; intro v6 w6 HO6 HB6; have HF6 := Lib.hid (HF5.out.below HB6.out hFs); have cq := HF6.out.cellv cat.out; have fq := HF6.out.frozen 2)
        go_roundw
        case rel => exact ⟨j + 1, by omega, by go_num, by rw [HSFt.out]; exact HO6.out.farLow (p := ⟨F, 2, none⟩) hFs _, by rw [HSC.out]; exact HF6.out.set 2 _, (HZ5.out.below HB6.out (by omega)).far (by simp; omega) _, (HK5.out.below HB6.out (Nat.le_refl _)).set 2 _, (HB5.out.trans (HB6.out.mono (by omega))).setCell (p := ⟨F, 2, none⟩) (by simp; omega) _, by have := HB6.out.size; simp; omega⟩
        case measure => simp [intOf]; omega
      · obtain ⟨rfl, rfl, rfl⟩ : ys = Ecc.turn (Ecc.chunk xs k j) bt ∧ kk = (bt : Int) ∧ er = 0 := by have h := HMM.out; rw [hm] at h; simpa using h
        have hyl := HX5.out.len
        have hyn : n5 ≤ 4096 := by rw [← hyl, Ecc.turn_len, Ecc.chunk_len]; omega
        have z1 : ((bt : Int) == -1) = false := by rw [beq_eq_false_iff_ne]; omega
        have z2 : ((bt : Int) == -2) = false := by rw [beq_eq_false_iff_ne]; omega
        have HYL := Lib.hid hyl
        clear hyl hbt
        have HSFt := Lib.hid (show Ecc.fixedTo xs cs k (j + 1) = Ecc.fixedTo xs cs k j ++ Ecc.turn (Ecc.chunk xs k j) bt by rw [HSF.out, hf])
        have HSC := Lib.hid (cntV_succ (xs := xs) (cs := cs) (k := k) (j := j) (q := 1) (by omega) hk)
        have hcnt := Ecc.cnt_le xs cs k 1 j
        have cat := Lib.hid (cntV_at (xs := xs) (cs := cs) (k := k) (j := j) (q := 1) (by omega))
        generalize Ecc.cnt xs cs k 1 j = Qn at *
        clear hk hf hm
        go_wp2_with (at_builtin; refine wpList_ontoB rfl _ _ rfl w3.heap.size _ _ rfl HO5.out _ a5 n5 c5 _ rfl HX5.out (by omega) hs5 ?_; intro v6 w6 HO6 HB6; have HF6 := Lib.hid (HF5.out.below HB6.out hFs); have cq := HF6.out.cellv cat.out; have fq := HF6.out.frozen 1)
        go_roundw
        case rel => exact ⟨j + 1, by omega, by go_num, by rw [HSFt.out]; exact HO6.out.farLow (p := ⟨F, 1, none⟩) hFs _, by rw [HSC.out]; exact HF6.out.set 1 _, (HZ5.out.below HB6.out (by omega)).far (by simp; omega) _, (HK5.out.below HB6.out (Nat.le_refl _)).set 1 _, (HB5.out.trans (HB6.out.mono (by omega))).setCell (p := ⟨F, 1, none⟩) (by simp; omega) _, by have := HB6.out.size; simp; omega⟩
        case measure => simp [intOf]; omega
      · have hcx := HCX.out
        have HSFt := Lib.hid (show Ecc.fixedTo xs cs k (j + 1) = Ecc.fixedTo xs cs k j ++ Ecc.chunk xs k j by rw [HSF.out, hf])
        have HSC := Lib.hid (cntV_succ (xs := xs) (cs := cs) (k := k) (j := j) (q := 3) (by omega) hk)
        have hcnt := Ecc.cnt_le xs cs k 3 j
        have cq := HF5.out.cellv (cntV_at (q := 3) (by omega))
        have fq := HF5.out.frozen 3
        generalize Ecc.cnt xs cs k 3 j = Qn at *
        obtain ⟨_, _, _, hbo, hbw, _⟩ := HX.out.atv (k := 0) (by omega)
        have hbF : b ≠ F := by
          injection hbo with h
          injection h with h
          omega
        have hcx2 : (w5.setCell ⟨F, 3, none⟩ (.int .i64 ((Qn : Int) + 1))).cell? ⟨g3, j, none⟩ = some (.slice (some ⟨b, o', none⟩) e c') := (World.cell?_setCell_far w5 ⟨F, 3, none⟩ ⟨g3, j, none⟩ _ (by simp; omega)).trans hcx
        have h := HMM.out
        rw [hm] at h
        clear hk hf hm hbo
        rcases he21 with rfl | rfl
        all_goals
          obtain ⟨rfl, rfl, rfl⟩ : ys = [] ∧ kk = 0 ∧ er = _ := by simpa using h
          clear h
          go_wp2_with (at_builtin; refine wpList_ontoB rfl _ _ rfl w3.heap.size _ _ rfl (HO5.out.farLow (p := ⟨F, 3, none⟩) hFs _) _ (some ⟨b, o', none⟩) e c' _ rfl (HCH5.out.farC (p := ⟨F, 3, none⟩) hbF _) (by omega) (by simp; omega) ?_; intro v6 w6 HO6 HB6)
          have hs6 := HB6.out.size
          simp only [World.size_setCell] at hs6
          go_roundw
          case rel => exact ⟨j + 1, by omega, by go_num, by rw [HSFt.out]; exact HO6.out, by rw [HSC.out]; exact (HF5.out.set 3 _).below HB6.out hFs, (HZ5.out.far (by simp; omega) _).below HB6.out (by omega), (HK5.out.set 3 _).below HB6.out (Nat.le_refl _), (HB5.out.setCell (p := ⟨F, 3, none⟩) (by simp; omega) _).trans (HB6.out.mono (by omega)), by omega⟩
          case measure => simp [intOf]; omega
    · obtain rfl : j = m := by omega
      obtain ⟨lv, hlv⟩ : ∃ l, l = (Ecc.fixedTo xs cs k j).length := ⟨_, rfl⟩
      obtain ⟨av, cv, rfl, _⟩ := HO.out.formN hlv.symm
      have HLV := Lib.hid hlv
      rw [← hlv] at hfl
      clear hlv
      go_wp2_with fail
      refine wp_region_noPanic ?_
      refine wp_region_held_drew (S := (fun W' => Blk W' F 46 (cntV xs cs k j))) (by kernel_rfl) HF.out.drew (fun hS0 => ?_)
      refine takeV 0 (v := .slice av lv cv) rfl (by kernel_rfl) (by kernel_rfl) (by kernel_rfl) (fun _ _ _ h => h) (by rfl) (fun _ _ => rfl) (by assumption) ?_
      try simp only [layR]
      refine takeV 1 (v := .agg #[.int .i64 (Ecc.cnt xs cs k 0 j : Nat), .int .i64 (Ecc.cnt xs cs k 1 j : Nat), .int .i64 (Ecc.cnt xs cs k 2 j : Nat), .int .i64 (Ecc.cnt xs cs k 3 j : Nat)]) rfl (by kernel_rfl) (by kernel_rfl) (by kernel_rfl) (fun _ _ _ h => h) (by rfl) (fun W hSw => ?_) (by assumption) ?_
      · have r0 := Blk.cellv hSw (cntV_at (q := 0) (by omega)); have r1 := Blk.cellv hSw (cntV_at (q := 1) (by omega)); have r2 := Blk.cellv hSw (cntV_at (q := 2) (by omega)); have r3 := Blk.cellv hSw (cntV_at (q := 3) (by omega))
        go_simp
      try simp only [layR]
      refine takeV 2 (v := .slice av lv cv) rfl (by kernel_rfl) (by kernel_rfl) (by kernel_rfl) (fun _ _ _ h => h) (by rfl) (fun _ _ => rfl) (by assumption) ?_
      try simp only [layR]
      have hbz := HZ.out.drew
      have e0 := hbz.cellv (i := 0) rfl
      have e1 := hbz.cellv (i := 1) rfl
      have e2 := hbz.cellv (i := 2) rfl
      have e3 := hbz.cellv (i := 3) rfl
      have f0 := hbz.frozen 0
      have f1 := hbz.frozen 1
      have f2 := hbz.frozen 2
      have f3 := hbz.frozen 3
      have HB6 := Lib.hid hbz
      have HBel6 := Lib.hid HB.out.drew
      have HO6 := Lib.hid HO.out.drew
      have HS0 := Lib.hid (show Blk wr.drew F 46 (cntV xs cs k j) from hS0)
      clear hS0
      have hS0 := HS0.out
      clear hbz
      generalize wr.drew = w6 at *
      generalize Ecc.cnt xs cs k 0 j = C0 at *
      generalize Ecc.cnt xs cs k 1 j = C1 at *
      generalize Ecc.cnt xs cs k 2 j = C2 at *
      generalize Ecc.cnt xs cs k 3 j = C3 at *
      refine wpAnyH_ready (rs := [3]) (by kernel_rfl) (by simp) ?_
      refine AllReadyH.cons rfl (fun K' hK => ?_) AllReadyH.nil
      go_simp
      have hne : F ≠ w.heap.size := by omega
      refine hK.out _ _ ((((HS0.out.far (p := ⟨w.heap.size, 0, none⟩) hne _).far (p := ⟨w.heap.size, 1, none⟩) hne _).far (p := ⟨w.heap.size, 2, none⟩) hne _).far (p := ⟨w.heap.size, 3, none⟩) hne _) (fun hS1 => ?_)
      try simp only [layR]
      refine takeV 4 (v := .int .i64 0) rfl (by kernel_rfl) (by kernel_rfl) (by kernel_rfl) (fun _ _ _ h => h) (by rfl) (fun _ _ => rfl) (by assumption) ?_
      refine wpAnyH_done (by kernel_rfl) ?_ _
      refine NoPanic.normal ?_
      have hfin := (((HB6.out.set 0 (.int .i64 C0)).set 1 (.int .i64 C1)).set 2 (.int .i64 C2)).set 3 (.int .i64 C3)
      have hown := (((HO6.out.farLow (p := ⟨w.heap.size, 0, none⟩) (by simp; omega) (.int .i64 C0)).farLow (p := ⟨w.heap.size, 1, none⟩) (by simp; omega) (.int .i64 C1)).farLow (p := ⟨w.heap.size, 2, none⟩) (by simp; omega) (.int .i64 C2)).farLow (p := ⟨w.heap.size, 3, none⟩) (by simp; omega) (.int .i64 C3)
      have hbb := (((HBel6.out.setCell (p := ⟨w.heap.size, 0, none⟩) (Nat.le_refl _) (.int .i64 C0)).setCell (p := ⟨w.heap.size, 1, none⟩) (Nat.le_refl _) (.int .i64 C1)).setCell (p := ⟨w.heap.size, 2, none⟩) (Nat.le_refl _) (.int .i64 C2)).setCell (p := ⟨w.heap.size, 3, none⟩) (Nat.le_refl _) (.int .i64 C3)
      generalize (((w6.setCell _ _).setCell _ _).setCell _ _).setCell _ _ = w7 at *
      have z0 := hfin.cellv (i := 0) rfl
      have z1 := hfin.cellv (i := 1) rfl
      have z2 := hfin.cellv (i := 2) rfl
      have z3 := hfin.cellv (i := 3) rfl
      have HOw := Lib.hid hown
      have HBb := Lib.hid hbb
      clear hfin hown hbb e0 e1 e2 e3 f0 f1 f2 f3
      go_wp2
      refine bodyPost_ret (v := .tuple #[.slice av lv cv, .agg #[.int .i64 C0, .int .i64 C1, .int .i64 C2, .int .i64 C3], .int .i64 0]) (by simp [results, Try.results22, go_sem, z0, z1, z2, z3]) rfl ?_
      exact ⟨av, lv, cv, rfl, HOw.out.arr (by rw [← HLV.out]; omega), HBb.out⟩
end Go.Proofs.Ytceoogpmcijlaaa
