/-
  squeeze.run: bytes that stand for themselves, put behind others.
-/
import Derived.Test.YtpjjfehocibljaaSqzChunk
import Derived.Test.YtpjjfehocibljaaSqzMath
import Derived.Shelf.Abstract
namespace Go.Proofs.Ytpjjfehocibljaa
open Go.RowKit Go.Shelf

attribute [local go_sem] Oper.semAt_some

namespace Sqz
def part (b : List UInt8) (j : Nat) : List UInt8 := (b.drop (128 * j)).take 128
def runAt (b : List UInt8) (j : Nat) : List UInt8 := UInt8.ofNat ((part b j).length - 1) :: part b j
def runsOf (b : List UInt8) (pre : List Nat) : List UInt8 := pre.flatMap (runAt b)
theorem runsOf_snoc (b : List UInt8) (pre : List Nat) (j : Nat) : runsOf b (pre ++ [j]) = runsOf b pre ++ [UInt8.ofNat ((part b j).length - 1)] ++ part b j := by
  unfold runsOf
  rw [List.flatMap_append, List.flatMap_singleton, List.append_assoc]
  rfl
theorem part_len {b : List UInt8} {j : Nat} : (part b j).length = min 128 (b.length - 128 * j) := by unfold part; rw [List.length_take, List.length_drop]
theorem runsOf_all (b : List UInt8) : runsOf b (List.range ((b.length + 127) / 128)) = runs b := by
  induction hn : b.length using Nat.strongRecOn generalizing b with
  | ind n ih =>
    subst hn
    by_cases h : b = []
    · subst h; rw [runs_nil]; rfl
    · have hp : 0 < b.length := List.length_pos_iff.2 h
      have i := ih (b.drop 128).length (by rw [List.length_drop]; omega) (b.drop 128) rfl
      rw [List.length_drop] at i
      rw [runs_step h, ← i]
      have hN : (b.length + 127) / 128 = (b.length - 128 + 127) / 128 + 1 := by omega
      rw [hN, List.range_succ_eq_map]
      unfold runsOf
      rw [List.flatMap_cons, List.flatMap_map]
      have e0 : runAt b 0 = UInt8.ofNat (min b.length 128 - 1) :: b.take 128 := by
        unfold runAt part
        rw [Nat.mul_zero, List.drop_zero, List.length_take, Nat.min_comm]
      rw [e0]
      have hfun : (fun j => runAt b (j + 1)) = runAt (b.drop 128) := funext fun j => by
        unfold runAt part
        rw [List.drop_drop, show 128 * (j + 1) = 128 + 128 * j by omega]
      rw [← hfun]
theorem runsOf_len {b : List UInt8} {pre : List Nat} (h : pre <+: List.range ((b.length + 127) / 128)) : (runsOf b pre).length ≤ 2 * b.length := by
  obtain ⟨t, ht⟩ := h
  have h1 : (runsOf b pre).length ≤ (runsOf b (pre ++ t)).length := by
    unfold runsOf; rw [List.flatMap_append, List.length_append]; omega
  rw [ht, runsOf_all, runs_len] at h1
  omega
end Sqz
section
variable {F : Fence} {fuel : Nat} {w : World} {ops : Array Oper} {rest : List Oper} {o : Oper} {ac : Act} {Q : Exit → Act → World → Prop}
theorem wpListIn_ontoB (hgd : o.guard = none) (s x : Operand) (ho : o.op = .call { callee := .builtin .append, args := #[s, x], argTypes := #[22, 22] }) (base : Nat)
    (v : Value) (xs : List UInt8) (hs : ac.eval s = v) (hown : Own byteV 5 w base v xs) (B : Nat) (a : Option Addr) (m c : Nat) (ys : List UInt8) (hx : ac.eval x = .slice a m c) (hy : Bytes w B a m ys)
    (hbytes : xs.length + m ≤ 140737488351232) (hbase : base ≤ w.heap.size)
    (h : ∀ v' w', Hid (Own byteV 5 w' base v' (xs ++ ys)) → Hid (w.grownBy w' v.ownBlock) → Hid (v'.ownBlock = v.ownBlock ∨ v'.ownBlock = some w.heap.size) → wpListIn F fuel Try.prog ops Q rest (ac.put o.dst v') w') : wpListIn F fuel Try.prog ops Q (o :: rest) ac w := by
  obtain ⟨i0, hi, hz0, hz1, hz2⟩ := info_parts infoB
  exact wpListIn_append_Own hgd s x 22 ho base 5 i0 _ 1 Try.underlying22 hi hz0 hz1 hz2 rfl byteV_one v xs hs hown B a m c ys hx hy (by omega) (by simp only [maxLen]; omega) hbase fun v' w' h1 h2 h3 => h v' w' (Lib.hid h1) (Lib.hid h2) (Lib.hid h3)
theorem wpListIn_litB {cs : Array Value} (hgd : o.guard = none) (s x : Operand) (ho : o.op = .call { callee := .builtin .append, args := #[s, x], argTypes := #[22, 22] }) (base : Nat)
    (v : Value) (xs : List UInt8) (hs : ac.eval s = v) (hown : Own byteV 5 w base v xs) (m : Nat) (ys : List UInt8) (hx : ac.eval x = .slice (some ⟨w.heap.size, 0, none⟩) m m) (hm : ys.length = m) (hcs : cs = (ys.map byteV).toArray)
    (hbytes : xs.length + m ≤ 140737488351232) (hbase : base ≤ w.heap.size)
    (h : ∀ v' w', Hid (Own byteV 5 w' base v' (xs ++ ys)) → Hid ((w.alloc (.cells cs 5)).grownBy w' v.ownBlock) → Hid (v'.ownBlock = v.ownBlock ∨ v'.ownBlock = some (w.heap.size + 1)) → wpListIn F fuel Try.prog ops Q rest (ac.put o.dst v') w') :
    wpListIn F fuel Try.prog ops Q (o :: rest) ac (w.alloc (.cells cs 5)) :=
  wpListIn_ontoB hgd s x ho base v xs hs (hown.alloc _) _ _ m m ys hx (Arr.lit w 5 ys m hm (by omega) hcs) (by omega) (by simp; omega) fun v' w' h1 h2 h3 => h v' w' h1 h2 (Lib.hid (by have := h3.out; simpa using this))
end
theorem Own.noRow {α : Type} {f : α → Value} {e : TypeId} {w : World} {base r : Nat} {v : Value} {xs : List α} (h : Own f e w base v xs) (hr : w.heap.size ≤ r) : v.ownBlock ≠ some r := fun e => by
  have := (h.blockLt r e).2
  omega
theorem Blk.notOwn {α : Type} {f : α → Value} {e : TypeId} {w : World} {base g : Nat} {v : Value} {xs : List α} {t : TypeId} {cs : Array Value} (h : Own f e w base v xs) (hb : Blk w g t cs) (ht : e ≠ t) : v.ownBlock ≠ some g := by
  rcases h.2 with ⟨rfl, _⟩ | ⟨g', cap, cur, rfl, _, hh, _⟩
  · intro e; cases e
  · intro he
    have : g' = g := by simpa [Value.ownBlock] using he
    subst this
    unfold Blk at hb
    rw [hh] at hb
    injection hb with hb
    injection hb with _ hb
    exact ht hb
/-- What a call leaves that has written to one row of its caller's, and new blocks. -/
def RowTo (w : World) (v : Value) (w' : World) (v' : Value) : Prop := w.grownBy w' v.ownBlock ∧ (v'.ownBlock = v.ownBlock ∨ ∃ g, v'.ownBlock = some g ∧ w.heap.size ≤ g)
theorem RowTo.refl (w : World) (v : Value) : RowTo w v w v := ⟨World.grownBy.refl _ _, .inl rfl⟩
theorem RowTo.step {w w1 w2 : World} {v v1 v2 : Value} (h : RowTo w v w1 v1) (k : RowTo w1 v1 w2 v2) : RowTo w v w2 v2 := by
  obtain ⟨h1, h2⟩ := h
  obtain ⟨k1, k2⟩ := k
  have hs := h1.size
  refine ⟨grown_then h1 k1 (by rcases h2 with h | ⟨g, h, hg⟩; exact .inl h; exact .inr (.inr ⟨g, h, hg⟩)), ?_⟩
  rcases k2 with k | ⟨g, k, hg⟩
  · rw [k]; exact h2
  · exact .inr ⟨g, k, by omega⟩
theorem RowTo.of {w w1 : World} {v v1 : Value} (h : w.grownBy w1 v.ownBlock) (k : v1.ownBlock = v.ownBlock ∨ v1.ownBlock = some w.heap.size) : RowTo w v w1 v1 := ⟨h, by rcases k with k | k; exact .inl k; exact .inr ⟨_, k, Nat.le_refl _⟩⟩
theorem RowTo.below {w w1 : World} (v : Value) (h : Below w.heap.size w w1) : RowTo w v w1 v := ⟨⟨h.os, h.tape, h.output, h.size, fun k hk _ => h.block k hk⟩, .inl rfl⟩
/-- A new block of the call's own has been written. -/
theorem RowTo.setNew {w w1 : World} {v v1 : Value} (h : RowTo w v w1 v1) {p : Addr} (hp : w.heap.size ≤ p.block) (u : Value) : RowTo w v (w1.setCell p u) v1 := by
  refine ⟨grown_then (r1 := some p.block) h.1 ?_ (.inr (.inr ⟨_, rfl, hp⟩)), h.2⟩
  have hb := (Below.refl 0 w1).setCell (p := p) (Nat.zero_le _) u
  exact ⟨hb.os, hb.tape, hb.output, hb.size, fun k _ hk => heap_setCell_other w1 p k u (fun e => hk (by rw [e]))⟩
theorem rowTo_keepsG {w : World} {v v1 : Value} {B : Nat} (hB : w.heap.size ≤ B) : KeepsG2 [] B (fun W => RowTo w v W v1) := fun W W' r h hg hr =>
  ⟨(grown_keepsG (cw := []) (by simp) hB) W W' r h.1 hg hr, h.2⟩
/-- Between two rounds of run: out lies in block H. -/
def RunI (a : Option Addr) (n c H : Nat) (w : World) (base : Nat) (v : Value) (xs b : List UInt8) (pre : List Nat) (W : World) : Prop :=
  ∃ v1, Blk W H 22 #[v1] ∧ Blk W (H + 1) 22 #[.slice a n c] ∧ Blk W (H + 2) 3 #[.int .i64 128] ∧ Own byteV 5 W base v1 (xs ++ Sqz.runsOf b pre) ∧ RowTo w v W v1 ∧ H + 3 ≤ W.heap.size
theorem runI_keeps (a : Option Addr) (n c H : Nat) (w : World) (base : Nat) (v : Value) (xs b : List UInt8) (pre : List Nat) (B : Nat) (hB : w.heap.size ≤ B) : KeepsG2 [] B (RunI a n c H w base v xs b pre) :=
  KeepsG2.ex fun v1 => (Blk.keepsG (by simp)).and ((Blk.keepsG (by simp)).and ((Blk.keepsG (by simp)).and ((Own.keepsG (by simp)).and ((rowTo_keepsG hB).and size_keepsG))))
theorem Arr.grownB {α : Type} {f : α → Value} {w W : World} {B n : Nat} {a : Option Addr} {xs : List α} {r : Option Nat} (h : Arr f w B a n xs) (hB : B ≤ w.heap.size) (hg : w.grownBy W r) (hr : ∀ k, r = some k → B ≤ k) : Arr f W B a n xs :=
  h.keep fun b o hb => World.cell?_of_block (hg.block b (by omega) (fun e => by have := hr b e.symm; omega))
theorem chunkFn (a : Option Addr) (n c : Nat) (w : World) :
    Calls Try.prog 27 #[.slice a n c, .int .i64 128] w fun e w' => e = .returned (.func (.func 29) #[] #[.pointer (some ⟨w.heap.size, 0, none⟩), .pointer (some ⟨w.heap.size + 1, 0, none⟩)]) ∧ (w.alloc (.cells #[.slice a n c] 22)).alloc (.cells #[.int .i64 128] 3) = w' := by
  go_enter Try.func27, Try.ntmps27
  go_wp2
  go_ret
  exact ⟨rfl, rfl⟩
def RunR (base : Nat) (v : Value) (xs b : List UInt8) (w : World) (e : Ending) (w' : World) : Prop := ∃ v', e = .returned v' ∧ Own byteV 5 w' base v' (xs ++ Sqz.runs b) ∧ RowTo w v w' v'
set_option maxRecDepth 100000 in
set_option maxHeartbeats 4000000 in
theorem run_calls (v : Value) (xs : List UInt8) (base : Nat) (a : Option Addr) (n c : Nat) (b : List UInt8) (w : World) (hown : Own byteV 5 w base v xs) (hbase : base ≤ w.heap.size) (hx : Bytes w base a n b) (hnc : n ≤ c) (hc : c ≤ 140737488351232) (hxs : xs.length + 2 * n ≤ 140737488351000) :
    Calls Try.prog 20 #[v, .slice a n c] w (RunR base v xs b w) := by
  obtain ⟨a0, c0, rfl, hc0⟩ := hown.formN (n := xs.length) rfl
  refine callsIn_wide (n := 9) |>.1 ?_
  refine callsIn_of_wp_marks Try.func20 rfl trivial ?_ rfl
  refine wpIn_wide.2 ?_
  simp only [Try.ntmps20, List.size_toArray, List.length_cons, List.length_nil, Nat.reduceAdd, Nat.reduceSub, Array.replicate_succ, Array.replicate_zero, List.push_toArray, List.append_toArray, List.nil_append, List.cons_append]
  have HO := Lib.hid hown
  have HX := Lib.hid hx
  have HL := Lib.hid hx.len
  generalize hv0 : Value.slice a0 xs.length c0 = v0 at *
  obtain ⟨k0, hk0⟩ : ∃ k, k = xs.length := ⟨_, rfl⟩
  rw [← hk0] at hv0
  subst hv0
  have HK := Lib.hid hk0
  clear hown hx hk0
  go_wp2_with fail
  refine (chunkFn a n c _).mono ?_
  rintro e w' ⟨rfl, rfl⟩
  go_wp2
  have hX2 := HX.out
  have hb0 : Below w.heap.size w (((w.alloc (.cells #[.slice a0 k0 c0] 22)).alloc (.cells #[.slice a n c] 22)).alloc (.cells #[.int .i64 128] 3)) := (((Below.refl _ w).alloc (Nat.le_refl _) _).alloc (by simp) _).alloc (by simp; omega) _
  have b2 := ((Blk.new w 22 #[.slice a0 k0 c0]).alloc (.cells #[.slice a n c] 22)).alloc (.cells #[.int .i64 128] 3)
  have b3 := (Blk.new (w.alloc (.cells #[.slice a0 k0 c0] 22)) 22 #[.slice a n c]).alloc (.cells #[.int .i64 128] 3)
  have b4 := Blk.new ((w.alloc (.cells #[.slice a0 k0 c0] 22)).alloc (.cells #[.slice a n c] 22)) 3 #[.int .i64 128]
  have hsz : (((w.alloc (.cells #[.slice a0 k0 c0] 22)).alloc (.cells #[.slice a n c] 22)).alloc (.cells #[.int .i64 128] 3)).heap.size = w.heap.size + 3 := by simp
  simp only [World.size_alloc] at b3 b4
  rw [show w.heap.size + 1 + 1 = w.heap.size + 2 from rfl] at b4
  generalize ((w.alloc (.cells #[.slice a0 k0 c0] 22)).alloc (.cells #[.slice a n c] 22)).alloc (.cells #[.int .i64 128] 3) = W0 at *
  have hit := chunk_iter a n c (w.heap.size + 1) (w.heap.size + 2) base W0 hnc hc b3 b4
  refine wpIn_wide.1 (range_lawG (gf := 29) (lb := #[.pointer (some ⟨w.heap.size + 1, 0, none⟩), .pointer (some ⟨w.heap.size + 2, 0, none⟩)]) (encs := chunkEnc a n) (xs := List.range ((n + 127) / 128)) (cw := []) (own := [w.heap.size + 1, w.heap.size + 2]) (n0 := base) (w0 := W0) rfl (enters_of Try.func29 (by kernel_rfl) rfl) hit (Below.refl _ _) (by omega) (by simp; omega) (by simp) (fun _ => rfl)
    (RunI a n c w.heap.size w base (.slice a0 k0 c0) xs b) (fun _ _ _ => False) (fun pre => runI_keeps _ _ _ _ _ _ _ _ _ _ _ (by omega)) (fun _ _ => KeepsG2.pure _)
    ⟨.slice a0 k0 c0, b2, b3, b4, by rw [show xs ++ Sqz.runsOf b [] = xs by simp [Sqz.runsOf]]; exact HO.out.on hb0, RowTo.below _ hb0, by omega⟩
    (fun pre x a1 W => a1 = { tmps := #[.slice a0 k0 c0, .slice a n c, .pointer (some ⟨w.heap.size, 0, none⟩), undef, .slice none 0 0, .slice (a.map (·.add (128 * x))) (min 128 (n - 128 * x)) (min 128 (n - 128 * x)), .slice a n c, .func (.func 29) #[] #[.pointer (some ⟨w.heap.size + 1, 0, none⟩), .pointer (some ⟨w.heap.size + 2, 0, none⟩)], .slice (a.map (·.add (128 * x))) (min 128 (n - 128 * x)) (min 128 (n - 128 * x)), undef, undef, undef, undef, undef, undef, undef, undef, undef, undef, undef], defers := [] } ∧ RunI a n c w.heap.size w base (.slice a0 k0 c0) xs b pre W) ?keeps ?assign ?body ?done ?stop)
  case keeps =>
    intro pre x a1
    exact (KeepsG2.pure _).and (runI_keeps _ _ _ _ _ _ _ _ _ _ _ (by omega))
  case assign =>
    intro lp pre x W K hi hpre hK
    unfold chunkEnc
    gi_wp2
    exact hK _ _ (KeepsOthers.refl _) (Below.refl _ _) (fun _ _ => rfl) (Nat.le_refl _) ⟨rfl, hi⟩
  case body =>
    rintro lp pre x a1 W ⟨rfl, v1, bv, bv1, bv2, ho, hrow, hsW⟩ hpre
    have hxN : x < (n + 127) / 128 := List.mem_range.1 (hpre.subset (by simp))
    have hxn : 128 * x < n := by omega
    have hle := Sqz.runsOf_len (b := b) (by rw [HL.out]; exact hpre)
    rw [HL.out, Sqz.runsOf_snoc] at hle
    obtain ⟨m, hm⟩ : ∃ m, m = min 128 (n - 128 * x) := ⟨_, rfl⟩
    simp only [List.length_append, List.length_singleton, Sqz.part_len, HL.out] at hle
    rw [← hm] at hle ⊢
    have hpart : ∀ (V : World) (u : Value), RowTo w (.slice a0 k0 c0) V u → Bytes V base (a.map (·.add (128 * x))) m (Sqz.part b x) := by
      intro V u hV
      have hpx := HX.out.grownB hbase hV.1 (fun k hk => (HO.out.blockLt k hk).1)
      have h := (hpx.drop (l := 128 * x) (by omega) hnc).take (k := m) (by omega)
      rw [cutA, if_neg (by omega)] at h
      have e : (b.drop (128 * x)).take m = Sqz.part b x := by
        unfold Sqz.part
        rw [hm]
        by_cases h9 : n - 128 * x ≤ 128
        · rw [Nat.min_eq_right h9, List.take_of_length_le (by rw [List.length_drop, HL.out]; omega), List.take_of_length_le (by rw [List.length_drop, HL.out]; omega)]
        · rw [Nat.min_eq_left (by omega)]
      rw [e] at h
      exact h
    have hm1 : 1 ≤ m := by omega
    have hm2 : m ≤ 128 := by omega
    have HBv := Lib.hid (show (m : Int) - 1 = ((UInt8.ofNat (m - 1)).toNat : Int) by rw [UInt8.toNat_ofNat']; omega)
    have HSn := Lib.hid (show xs ++ Sqz.runsOf b (pre ++ [x]) = xs ++ Sqz.runsOf b pre ++ [UInt8.ofNat (m - 1)] ++ Sqz.part b x by rw [Sqz.runsOf_snoc, Sqz.part_len, HL.out, ← hm]; simp [List.append_assoc])
    obtain ⟨q, hq⟩ : ∃ q, q = (xs ++ Sqz.runsOf b pre).length := ⟨_, rfl⟩
    have hql : q + m + 1 ≤ 140737488351232 := by rw [hq, List.length_append]; rw [HK.out] at *; omega
    obtain ⟨a1, c1, rfl, _⟩ := ho.formN hq.symm
    have HQ := Lib.hid hq
    have HO1 := Lib.hid ho
    have HRow := Lib.hid hrow
    have HP := Lib.hid hpart
    have BV := Lib.hid bv
    have BV1 := Lib.hid bv1
    have BV2 := Lib.hid bv2
    generalize a.map (·.add (128 * x)) = ap at *
    have c2 : W.cell? ⟨w.heap.size, 0, none⟩ = some (.slice a1 q c1) := bv.cellv (i := 0) rfl
    have f2 := bv.frozen 0
    clear ho hrow hpart bv bv1 bv2 hq hm hle hpre
    gi_wp2_with (first
      | (gi_at_builtin; refine wpListIn_litB rfl (.tmp 9) (.tmp 14) rfl base (.slice a1 q c1) _ rfl HO1.out 1 [UInt8.ofNat (m - 1)] rfl rfl (by rw [HBv.out]; rfl) (by rw [← HQ.out]; omega) (by omega) ?_; intro v3 w3 HO3 HG3 HL3
         obtain ⟨a3, c3, rfl, _⟩ := HO3.out.formN (n := q + 1) (by rw [List.length_append, ← HQ.out]; rfl)
         have BV3 := Lib.hid ((BV.out.alloc _).grown HG3.out (fun e => Blk.notOwn HO1.out BV.out (by decide) e.symm))
         have c32 := BV3.out.cellv (i := 0) rfl
         have f32 := BV3.out.frozen 0
         have HO4 := Lib.hid (HO3.out.far (p := ⟨w.heap.size, 0, none⟩) (Blk.notOwn HO3.out BV3.out (by decide)) (.slice a3 (q + 1) c3))
         have HR4 := Lib.hid ((HRow.out.step ((RowTo.below _ ((Below.refl _ W).alloc (Nat.le_refl _) _)).step (RowTo.of HG3.out (by rw [World.size_alloc]; exact HL3.out)))).setNew (p := ⟨w.heap.size, 0, none⟩) (Nat.le_refl _) (.slice a3 (q + 1) c3))
         have HP4 := Lib.hid (HP.out _ _ HR4.out)
         have BV4 := Lib.hid (BV3.out.set 0 (.slice a3 (q + 1) c3))
         have hs4 := HG3.out.size
         simp only [World.size_alloc] at hs4)
      | (gi_at_builtin; refine wpListIn_ontoB rfl (.tmp 16) (.tmp 17) rfl base (.slice a3 (q + 1) c3) _ rfl HO4.out base ap m m (Sqz.part b x) rfl HP4.out (by rw [List.length_append, ← HQ.out]; simp; omega) (by simp; omega) ?_; intro v5 w5 HO5 HG5 HL5
         obtain ⟨a5, c5, rfl, _⟩ := HO5.out.formN (n := q + 1 + m) (by rw [List.length_append, List.length_append, ← HQ.out, HP4.out.len]; rfl)
         have BV5 := Lib.hid (BV4.out.grown HG5.out (fun e => Blk.notOwn HO4.out BV4.out (by decide) e.symm))
         have c52 := BV5.out.cellv (i := 0) rfl
         have f52 := BV5.out.frozen 0
         have HR5 := Lib.hid ((HR4.out.step (RowTo.of HG5.out HL5.out)).setNew (p := ⟨w.heap.size, 0, none⟩) (Nat.le_refl _) (.slice a5 (q + 1 + m) c5))))
    have e1 := ((BV1.out.alloc (.cells #[.int .u8 ((m : Int) - 1)] 5)).grown HG3.out (fun e => Blk.notOwn HO1.out BV1.out (by decide) e.symm)).far (p := ⟨w.heap.size, 0, none⟩) (by simp) (.slice a3 (q + 1) c3)
    have e2 := ((BV2.out.alloc (.cells #[.int .u8 ((m : Int) - 1)] 5)).grown HG3.out (fun e => Blk.notOwn HO1.out BV2.out (by decide) e.symm)).far (p := ⟨w.heap.size, 0, none⟩) (by simp) (.slice a3 (q + 1) c3)
    have i1 := (e1.grown HG5.out (fun e => Blk.notOwn HO4.out e1 (by decide) e.symm)).far (p := ⟨w.heap.size, 0, none⟩) (by simp) (.slice a5 (q + 1 + m) c5)
    have i2 := (e2.grown HG5.out (fun e => Blk.notOwn HO4.out e2 (by decide) e.symm)).far (p := ⟨w.heap.size, 0, none⟩) (by simp) (.slice a5 (q + 1 + m) c5)
    have hs5 := HG5.out.size
    simp only [World.size_setCell] at hs5
    refine ⟨(((((KeepsOthers.alloc _ _).trans (KeepsOthers.of_grownBy HG3.out (HO1.out.alloc _).cellsRow)).trans (others_setCell _ _ _ _)).trans (KeepsOthers.of_grownBy HG5.out HO4.out.cellsRow)).trans (others_setCell _ _ _ _)), ?_, ?_, _, BV5.out.set 0 _, i1, i2, ?_, HR5.out, by simp; omega⟩
    · exact ((((Below.refl base W).alloc (by omega) _).grown HG3.out (by simp; omega) (fun k hk => (HO1.out.blockLt k hk).1)).setCell (p := ⟨w.heap.size, 0, none⟩) hbase _ |>.grown HG5.out (by simp; omega) (fun k hk => (HO4.out.blockLt k hk).1)).setCell (p := ⟨w.heap.size, 0, none⟩) hbase _
    · intro z hz
      simp only [List.mem_cons, List.not_mem_nil, or_false] at hz
      rcases hz with rfl | rfl
      · exact (show _ = _ from i1).trans (show _ = _ from BV1.out).symm
      · exact (show _ = _ from i2).trans (show _ = _ from BV2.out).symm
    · rw [HSn.out]
      exact HO5.out.far (p := ⟨w.heap.size, 0, none⟩) (Blk.notOwn HO5.out BV5.out (by decide)) _
  case done =>
    rintro D W hD ⟨v1, bv, _, _, ho, hrow, hsW⟩ hK
    have HR := Lib.hid (show Sqz.runsOf b (List.range ((n + 127) / 128)) = Sqz.runs b by rw [← HL.out, Sqz.runsOf_all])
    have HO1 := Lib.hid ho
    have HRow := Lib.hid hrow
    have c2 := bv.cellv (i := 0) rfl
    obtain ⟨q, hq⟩ : ∃ q, q = (xs ++ Sqz.runsOf b (List.range ((n + 127) / 128))).length := ⟨_, rfl⟩
    obtain ⟨a1, c1, rfl, _⟩ := ho.formN hq.symm
    clear ho hrow bv hq
    go_wp2
    refine ⟨by simp, .inl ⟨_, _, rfl, run_takeDeferred hK, ?_⟩⟩
    refine ⟨_, by simp [results, Try.results20, go_sem]; rfl, _, rfl, ?_, ?_⟩
    · rw [← HR.out]
      exact (Own.keepsG (cw := []) (B := D) (by simp)) W _ (some D) HO1.out (grownBy_putObj' _ _ _) (.inr (.inr ⟨D, rfl, Nat.le_refl _, _, hK, rfl⟩))
    · exact (rowTo_keepsG (B := D) (by omega)) W _ (some D) HRow.out (grownBy_putObj' _ _ _) (.inr (.inr ⟨D, rfl, Nat.le_refl _, _, hK, rfl⟩))
  case stop =>
    rintro D k pre W hD _ h hK
    exact h.elim
end Go.Proofs.Ytpjjfehocibljaa
