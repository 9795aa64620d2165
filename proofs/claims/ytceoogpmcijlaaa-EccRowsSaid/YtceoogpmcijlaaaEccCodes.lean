/-
  ecc.rows and ecc.Codes.
-/
import Derived.Test.YtceoogpmcijlaaaEccChunk
import Derived.Test.YtceoogpmcijlaaaEccRowsB
import Derived.Shelf.Abstract
namespace Go.Proofs.Ytceoogpmcijlaaa
open Go.RowKit Go.Shelf

attribute [local go_sem] Oper.semAt_some

theorem rows_bad (a : Option Addr) (n c : Nat) (k : Int) (w : World) (hk : k < 1 ∨ 4096 < k) :
    Calls Try.prog 34 #[.slice a n c, .int .i64 k] w fun e w' => e = .returned (.tuple #[.int .i64 0, .bool false]) ∧ w = w' := by
  by_cases h1 : k < 1
  · clear hk
    go_enter Try.func34, Try.ntmps34
    go_wp2
    go_ret2
    exact ⟨rfl, rfl⟩
  · have h2 : 4096 < k := by omega
    clear hk
    go_enter Try.func34, Try.ntmps34
    go_wp2
    go_ret2
    exact ⟨rfl, rfl⟩
theorem rows_good (a : Option Addr) (n c k : Nat) (w : World) (hn : n ≤ 900) (h1 : 1 ≤ k) (h2 : k ≤ 4096) :
    Calls Try.prog 34 #[.slice a n c, .int .i64 k] w fun e w' => e = .returned (.tuple #[.int .i64 (Ecc.blks n k : Nat), .bool true]) ∧ w = w' := by
  have g1 : decide ((k : Int) < 1) = false := decide_eq_false (by omega)
  have g2 : decide (4096 < (k : Int)) = false := decide_eq_false (by omega)
  have g3 : decide (65536 < (n : Int)) = false := decide_eq_false (by omega)
  obtain ⟨M, hM⟩ : ∃ M, M = Ecc.blks n k := ⟨_, rfl⟩
  have hq : ((n : Int) + k - 1) / k = (M : Int) := by rw [hM]; unfold Ecc.blks; rw [Int.natCast_ediv, Int.natCast_sub (by omega), Int.natCast_add]; rfl
  have hd : ((n : Int) + k - 1).tdiv k = (M : Int) := by rw [← hq]; exact Int.tdiv_eq_ediv_of_nonneg (by omega)
  have hle := Ecc.blks_le (l := n) h1
  rw [← hM] at hle ⊢
  clear hM
  go_enter Try.func34, Try.ntmps34
  go_wp2
  go_ret2
  exact ⟨rfl, rfl⟩
theorem chunkFn (a : Option Addr) (n c k : Nat) (w : World) (h1 : 1 ≤ k) :
    Calls Try.prog 35 #[.slice a n c, .int .i64 k] w fun e w' => e = .returned (.func (.func 42) #[] #[.pointer (some ⟨w.heap.size, 0, none⟩), .pointer (some ⟨w.heap.size + 1, 0, none⟩)]) ∧ (w.alloc (.cells #[.slice a n c] 22)).alloc (.cells #[.int .i64 k] 3) = w' := by
  have g1 : decide ((k : Int) < 1) = false := decide_eq_false (by omega)
  go_enter Try.func35, Try.ntmps35
  go_wp2
  go_ret
  exact ⟨rfl, rfl⟩
/-- Between two rounds of Codes: out lies in block H. -/
def CodI (a : Option Addr) (n c k H : Nat) (w : World) (xs : List UInt8) (pre : List Nat) (W : World) : Prop :=
  ∃ v1, Blk W H 22 #[v1] ∧ Blk W (H + 1) 22 #[.slice a n c] ∧ Blk W (H + 2) 3 #[.int .i64 k] ∧ Own byteV 5 W w.heap.size v1 (Ecc.codesOf xs k pre) ∧ Below w.heap.size w W ∧ H + 3 ≤ W.heap.size
theorem codI_keeps (a : Option Addr) (n c k H : Nat) (w : World) (xs : List UInt8) (pre : List Nat) (B : Nat) (hB : w.heap.size ≤ B) : KeepsG2 [] B (CodI a n c k H w xs pre) :=
  KeepsG2.ex fun v1 => (Blk.keepsG (by simp)).and ((Blk.keepsG (by simp)).and ((Blk.keepsG (by simp)).and ((Own.keepsG (by simp)).and ((below_keepsG (by simp) hB (Nat.le_refl _)).and size_keepsG))))
theorem Blk.notOwn {α : Type} {f : α → Value} {e : TypeId} {w : World} {base g : Nat} {v : Value} {xs : List α} {t : TypeId} {cs : Array Value} (h : Own f e w base v xs) (hb : Blk w g t cs) (ht : e ≠ t) : v.ownBlock ≠ some g := by
  rcases h.2 with ⟨rfl, _⟩ | ⟨g', cap, cur, rfl, _, hh, _⟩
  · intro e; cases e
  · intro he
    have : g' = g := by simpa [Value.ownBlock] using he
    subst this
    unfold Blk at hb
    rw [hh] at hb
    injection hb with hb
    injection hb with _ hb
    exact ht hb
section
variable {F : Fence} {fuel : Nat} {w : World} {ops : Array Oper} {rest : List Oper} {o : Oper} {ac : Act} {Q : Exit → Act → World → Prop}
theorem wpListIn_ontoB (hgd : o.guard = none) (s x : Operand) (ho : o.op = .call { callee := .builtin .append, args := #[s, x], argTypes := #[22, 22] }) (base : Nat)
    (v : Value) (xs : List UInt8) (hs : ac.eval s = v) (hown : Own byteV 5 w base v xs) (B : Nat) (a : Option Addr) (m c : Nat) (ys : List UInt8) (hx : ac.eval x = .slice a m c) (hy : Bytes w B a m ys)
    (hbytes : xs.length + m ≤ 140737488351232) (hbase : base ≤ w.heap.size)
    (h : ∀ v' w', Hid (Own byteV 5 w' base v' (xs ++ ys)) → Hid (w.grownBy w' v.ownBlock) → Hid (v'.ownBlock = v.ownBlock ∨ v'.ownBlock = some w.heap.size) → wpListIn F fuel Try.prog ops Q rest (ac.put o.dst v') w') : wpListIn F fuel Try.prog ops Q (o :: rest) ac w := by
  obtain ⟨i0, hi, hz0, hz1, hz2⟩ := info_parts infoB
  exact wpListIn_append_Own hgd s x 22 ho base 5 i0 _ 1 Try.underlying22 hi hz0 hz1 hz2 rfl byteV_one v xs hs hown B a m c ys hx hy (by omega) (by simp only [maxLen]; omega) hbase fun v' w' h1 h2 h3 => h v' w' (Lib.hid h1) (Lib.hid h2) (Lib.hid h3)
theorem wpListIn_litB {cs : Array Value} (hgd : o.guard = none) (s x : Operand) (ho : o.op = .call { callee := .builtin .append, args := #[s, x], argTypes := #[22, 22] }) (base : Nat)
    (v : Value) (xs : List UInt8) (hs : ac.eval s = v) (hown : Own byteV 5 w base v xs) (m : Nat) (ys : List UInt8) (hx : ac.eval x = .slice (some ⟨w.heap.size, 0, none⟩) m m) (hm : ys.length = m) (hcs : cs = (ys.map byteV).toArray)
    (hbytes : xs.length + m ≤ 140737488351232) (hbase : base ≤ w.heap.size)
    (h : ∀ v' w', Hid (Own byteV 5 w' base v' (xs ++ ys)) → Hid ((w.alloc (.cells cs 5)).grownBy w' v.ownBlock) → Hid (v'.ownBlock = v.ownBlock ∨ v'.ownBlock = some (w.heap.size + 1)) → wpListIn F fuel Try.prog ops Q rest (ac.put o.dst v') w') :
    wpListIn F fuel Try.prog ops Q (o :: rest) ac (w.alloc (.cells cs 5)) :=
  wpListIn_ontoB hgd s x ho base v xs hs (hown.alloc _) _ _ m m ys hx (Arr.lit w 5 ys m hm (by omega) hcs) (by omega) (by simp; omega) fun v' w' h1 h2 h3 => h v' w' h1 h2 (Lib.hid (by have := h3.out; simpa using this))
end
theorem code_lit (C : Nat) (h : C < 131072) : #[Value.int .u8 ((C : Int) % 256), .int .u8 ((C : Int) / 256 % 256), .int .u8 ((C : Int) / 65536), .int .u8 ((C : Int) / 16777216)] = ((bigL C 4).map byteV).toArray := by
  have e : ∀ n : Nat, byteV (UInt8.ofNat n) = .int .u8 ((n % 256 : Nat) : Int) := fun n => by unfold byteV; rw [UInt8.toNat_ofNat']
  have l : bigL C 4 = [UInt8.ofNat C, UInt8.ofNat (C / 256), UInt8.ofNat (C / 65536), UInt8.ofNat (C / 16777216)] := by simp [bigL, List.range_succ]
  rw [l]
  simp only [List.map_cons, List.map_nil, e]
  rw [show ((C : Int) % 256) = ((C % 256 : Nat) : Int) by omega, show ((C : Int) / 256 % 256) = ((C / 256 % 256 : Nat) : Int) by omega, show ((C : Int) / 65536) = ((C / 65536 % 256 : Nat) : Int) by omega, show ((C : Int) / 16777216) = ((C / 16777216 % 256 : Nat) : Int) by omega]
/-- The frame in a round of Codes. -/
def codAct (a : Option Addr) (n c k m H x : Nat) : Act := { tmps := #[.slice a n c, .int .i64 (k : Int), undef, undef, .slice none 0 0, .int .i64 0, .int .i64 (m : Int), .bool true, .pointer (some ⟨H, 0, none⟩), .slice (a.map (·.add (k * x))) (min k (n - k * x)) (min k (n - k * x)), undef, undef, .tuple #[.int .i64 (m : Int), .bool true], .slice a n c,
  .int .i64 (k : Int), .tuple #[.int .i64 (m : Int), .bool true], .int .i64 (m : Int), .bool true, .bool true, .bool false, .slice a n c, .int .i64 (k : Int), .func (.func 42) #[] #[.pointer (some ⟨H + 1, 0, none⟩), .pointer (some ⟨H + 2, 0, none⟩)],
  .slice (a.map (·.add (k * x))) (min k (n - k * x)) (min k (n - k * x)), undef, undef, undef, undef, undef, undef, undef, undef, undef, undef, undef, undef, undef, undef, undef, undef, undef, undef, undef, undef], defers := [] }
set_option maxRecDepth 100000 in
set_option maxHeartbeats 4000000 in
theorem codes_good (a : Option Addr) (n c k : Nat) (xs : List UInt8) (w : World) (hx : Bytes w w.heap.size a n xs) (hn : n ≤ 900) (hnc : n ≤ c) (hc : c ≤ 140737488351232) (h1 : 1 ≤ k) (h2 : k ≤ 4096) :
    Calls Try.prog 19 #[.slice a n c, .int .i64 k] w (CodesR (Ecc.codesOf xs k (List.range (Ecc.blks n k)), 0) w) := by
  refine callsIn_wide (n := 9) |>.1 ?_
  refine callsIn_of_wp_marks Try.func19 rfl trivial ?_ rfl
  refine wpIn_wide.2 ?_
  simp only [Try.ntmps19, List.size_toArray, List.length_cons, List.length_nil, Nat.reduceAdd, Nat.reduceSub, Array.replicate_succ, Array.replicate_zero, List.push_toArray, List.append_toArray, List.nil_append, List.cons_append]
  have HX := Lib.hid hx
  have HL := Lib.hid hx.len
  have hrows := rows_good a n c k w hn h1 h2
  have HLT := Lib.hid (fun j => Ecc.lt_blks (l := n) (n := k) (j := j) h1)
  have hml := Ecc.blks_le (l := n) h1
  obtain ⟨m, hm⟩ : ∃ m, m = Ecc.blks n k := ⟨_, rfl⟩
  rw [← hm] at hrows HLT hml ⊢
  have HM := Lib.hid hm
  have HRows := Lib.hid hrows
  clear hx hm hrows
  go_wp2_with fail
  refine HRows.out.mono ?_
  rintro e w' ⟨rfl, rfl⟩
  go_wp2_with fail
  refine (chunkFn a n c k _ h1).mono ?_
  rintro e w' ⟨rfl, rfl⟩
  go_wp2
  have hb0 : Below w.heap.size w (((w.alloc (.cells #[.slice none 0 0] 22)).alloc (.cells #[.slice a n c] 22)).alloc (.cells #[.int .i64 k] 3)) := (((Below.refl _ w).alloc (Nat.le_refl _) _).alloc (by simp) _).alloc (by simp; omega) _
  have b2 := ((Blk.new w 22 #[.slice none 0 0]).alloc (.cells #[.slice a n c] 22)).alloc (.cells #[.int .i64 k] 3)
  have b3 := (Blk.new (w.alloc (.cells #[.slice none 0 0] 22)) 22 #[.slice a n c]).alloc (.cells #[.int .i64 k] 3)
  have b4 := Blk.new ((w.alloc (.cells #[.slice none 0 0] 22)).alloc (.cells #[.slice a n c] 22)) 3 #[.int .i64 k]
  have hsz : (((w.alloc (.cells #[.slice none 0 0] 22)).alloc (.cells #[.slice a n c] 22)).alloc (.cells #[.int .i64 k] 3)).heap.size = w.heap.size + 3 := by simp
  simp only [World.size_alloc] at b3 b4
  rw [show w.heap.size + 1 + 1 = w.heap.size + 2 from rfl] at b4
  generalize ((w.alloc (.cells #[.slice none 0 0] 22)).alloc (.cells #[.slice a n c] 22)).alloc (.cells #[.int .i64 k] 3) = W0 at *
  have hit := chunk_iter a n c k (w.heap.size + 1) (w.heap.size + 2) w.heap.size W0 hnc hc h1 h2 b3 b4
  rw [← HM.out] at hit
  refine wpIn_wide.1 (range_lawG (gf := 42) (lb := #[.pointer (some ⟨w.heap.size + 1, 0, none⟩), .pointer (some ⟨w.heap.size + 2, 0, none⟩)]) (encs := chunkEnc a n k) (xs := List.range m) (cw := []) (own := [w.heap.size + 1, w.heap.size + 2]) (n0 := w.heap.size) (w0 := W0) rfl (enters_of Try.func42 (by kernel_rfl) rfl) hit (Below.refl _ _) (by omega) (by simp; omega) (by simp) (fun _ => rfl)
    (CodI a n c k w.heap.size w xs) (fun _ _ _ => False) (fun pre => codI_keeps _ _ _ _ _ _ _ _ _ (by omega)) (fun _ _ => KeepsG2.pure _)
    ⟨.slice none 0 0, b2, b3, b4, Own.nil _ _, hb0, by omega⟩
    (fun pre x a1 W => a1 = codAct a n c k m w.heap.size x ∧ CodI a n c k w.heap.size w xs pre W) ?keeps ?assign ?body ?done ?stop)
  case keeps =>
    intro pre x a1
    exact (KeepsG2.pure _).and (codI_keeps _ _ _ _ _ _ _ _ _ (by omega))
  case assign =>
    intro lp pre x W K hi hpre hK
    unfold chunkEnc
    gi_wp2
    exact hK _ _ (KeepsOthers.refl _) (Below.refl _ _) (fun _ _ => rfl) (Nat.le_refl _) ⟨rfl, hi⟩
  case body =>
    rintro lp pre x a1 W ⟨rfl, v1, bv, bv1, bv2, ho, hbel, hsW⟩ hpre
    unfold codAct
    have hxm : x < m := List.mem_range.1 (hpre.subset (by simp))
    have hkx := (HLT.out x).1 hxm
    have hpl : pre.length ≤ 900 := by
      have := hpre.length_le
      simp only [List.length_append, List.length_singleton, List.length_range] at this
      omega
    have hlen := Ecc.codesOf_len xs k pre
    obtain ⟨q, hq⟩ : ∃ q, q = (Ecc.codesOf xs k pre).length := ⟨_, rfl⟩
    rw [← hq] at hlen
    have hq900 : q ≤ 3600 := by omega
    have HLen := Lib.hid hlen
    clear hlen
    obtain ⟨a1, c1, rfl, _⟩ := ho.formN hq.symm
    obtain ⟨e, he⟩ : ∃ e, e = min k (n - k * x) := ⟨_, rfl⟩
    rw [← he]
    have he1 : 1 ≤ e ∧ e ≤ 4096 := by omega
    obtain ⟨b, o, _, rfl, _, _⟩ := HX.out.atv (k := 0) (by omega)
    have hch := chunk_arr (c := c) (HX.out.on hbel) hkx hnc
    rw [← he] at hch
    rw [show (some (⟨b, o, none⟩ : Addr)).map (·.add (k * x)) = some ⟨b, o + k * x, none⟩ from congrArg some (Addr.add_mid b o _)]
    generalize o + k * x = o' at *
    have hcl := Ecc.code_lt (Ecc.chunk xs k x) (by rw [hch.len]; exact he1.2)
    have HSn := Lib.hid (Ecc.codesOf_snoc xs k pre x)
    have hcode := codeE_calls _ e e (Ecc.chunk xs k x) W hch
    rw [show Ecc.codeE (Ecc.chunk xs k x) e = #[.int .u32 (Ecc.code (Ecc.chunk xs k x) : Nat), .int .i64 0] from if_pos he1] at hcode
    generalize Ecc.code (Ecc.chunk xs k x) = C at *
    have HCode := Lib.hid (callsIn_wide (n := 6) |>.2 hcode)
    have HQ := Lib.hid hq
    have HO1 := Lib.hid ho
    have HB1 := Lib.hid hbel
    have BV := Lib.hid bv
    have BV1 := Lib.hid bv1
    have BV2 := Lib.hid bv2
    clear hcode hch hq he ho hbel bv bv1 bv2 hpre hkx
    gi_wp2_with fail
    refine ⟨trivial, ?_⟩
    refine (CallsIn.inRound lp HCode.out).mono ?_
    rintro ee w2 ⟨rfl, hb2⟩
    have HB2 := Lib.hid hb2
    have hs2 := hb2.size
    have BV' := Lib.hid (BV.out.belowHere hb2)
    have HO2 := Lib.hid (HO1.out.on hb2)
    have cc := BV'.out.cellv (i := 0) rfl
    have ff := BV'.out.frozen 0
    clear hb2
    have hlit := Lib.hid (code_lit C hcl)
    gi_wp2_with (gi_at_builtin; refine wpListIn_litB rfl (.tmp 29) (.tmp 41) rfl w.heap.size (.slice a1 q c1) _ rfl HO2.out 4 (bigL C 4) rfl (bigL_len _ _) hlit.out (by rw [← HQ.out]; omega) (by omega) ?_; intro v3 w3 HO3 HG3 HL3; obtain ⟨a3, c3, rfl, _⟩ := HO3.out.formN (n := q + 4) (by rw [List.length_append, ← HQ.out, bigL_len]); have BV3 := Lib.hid ((BV'.out.alloc _).grown HG3.out (fun e => Blk.notOwn HO2.out BV'.out (by decide) e.symm)); have c32 := BV3.out.cellv (i := 0) rfl; have f32 := BV3.out.frozen 0)
    have f1 := BV1.out.belowHere HB2.out
    have f2 := BV2.out.belowHere HB2.out
    have i1 := ((f1.alloc _).grown HG3.out (fun e => Blk.notOwn HO2.out f1 (by decide) e.symm)).far (p := ⟨w.heap.size, 0, none⟩) (by simp) (.slice a3 (q + 4) c3)
    have i2 := ((f2.alloc _).grown HG3.out (fun e => Blk.notOwn HO2.out f2 (by decide) e.symm)).far (p := ⟨w.heap.size, 0, none⟩) (by simp) (.slice a3 (q + 4) c3)
    have kb : Below w.heap.size W (w3.setCell ⟨w.heap.size, 0, none⟩ (.slice a3 (q + 4) c3)) := (((HB2.out.mono (by omega)).alloc (by omega) _).grown HG3.out (by simp; omega) (fun k hk => (HO2.out.blockLt k hk).1)).setCell (p := ⟨w.heap.size, 0, none⟩) (Nat.le_refl _) _
    have hs3 := HG3.out.size
    simp only [World.size_alloc] at hs3
    refine ⟨(((KeepsOthers.of_grownBy (grownNone_of_below HB2.out) (fun j o e _ => by cases e)).trans (KeepsOthers.alloc _ _)).trans (KeepsOthers.of_grownBy HG3.out (HO2.out.alloc _).cellsRow)).trans (others_setCell _ _ _ _), kb, ?_, _, BV3.out.set 0 _, i1, i2, ?_, HB1.out.trans kb, by simp; omega⟩
    · intro z hz
      simp only [List.mem_cons, List.not_mem_nil, or_false] at hz
      rcases hz with rfl | rfl
      · exact (show _ = _ from i1).trans (show _ = _ from BV1.out).symm
      · exact (show _ = _ from i2).trans (show _ = _ from BV2.out).symm
    · rw [HSn.out]
      exact HO3.out.far (p := ⟨w.heap.size, 0, none⟩) (Blk.notOwn HO3.out BV3.out (by decide)) _
  case done =>
    rintro D W hD ⟨v1, bv, _, _, ho, hbel, hsW⟩ hK
    have HO1 := Lib.hid ho
    have HB := Lib.hid hbel
    have c2 := bv.cellv (i := 0) rfl
    have hlen := Ecc.codesOf_len xs k (List.range m)
    rw [List.length_range] at hlen
    obtain ⟨a1, c1, rfl, _⟩ := ho.formN hlen
    have HLn := Lib.hid hlen
    clear ho hbel bv hlen
    go_wp2
    refine ⟨by simp, .inl ⟨_, _, rfl, run_takeDeferred hK, ?_⟩⟩
    refine ⟨.tuple #[.slice a1 (4 * m) c1, .int .i64 0], by simp [results, Try.results19, go_sem], a1, 4 * m, c1, rfl, ?_, HB.out.trans (below_turn (l := D) (.deferred none) (by omega))⟩
    exact Own.arr ((Own.keepsG (cw := []) (B := D) (by simp)) W _ (some D) HO1.out (grownBy_putObj' _ _ _) (.inr (.inr ⟨D, rfl, Nat.le_refl _, _, hK, rfl⟩))) (by rw [HLn.out]; omega)
  case stop =>
    rintro D k pre W hD _ h hK
    exact h.elim
theorem codes_calls (a : Option Addr) (n c : Nat) (xs : List UInt8) (k : Int) (w : World) (hx : Bytes w w.heap.size a n xs) (hn : n ≤ 900) (hnc : n ≤ c) (hc : c ≤ 140737488351232) :
    Calls Try.prog 19 #[.slice a n c, .int .i64 k] w (CodesR (Ecc.codesE xs k) w) := by
  by_cases h : k < 1 ∨ 4096 < k
  · rw [Ecc.codesE_bad (by omega)]
    have hr := Lib.hid (rows_bad a n c k w h)
    clear h hx
    refine callsIn_wide (n := 9) |>.1 ?_
    refine callsIn_of_wp_marks Try.func19 rfl trivial ?_ rfl
    refine wpIn_wide.2 ?_
    simp only [Try.ntmps19, List.size_toArray, List.length_cons, List.length_nil, Nat.reduceAdd, Nat.reduceSub, Array.replicate_succ, Array.replicate_zero, List.push_toArray, List.append_toArray, List.nil_append, List.cons_append]
    go_wp2_with fail
    refine hr.out.mono ?_
    rintro e w' ⟨rfl, rfl⟩
    go_wp2
    refine ⟨.tuple #[.slice none 0 0, .int .i64 1], by simp [results, Try.results19, go_sem], none, 0, 0, rfl, Arr.none_ _ _ _, Below.refl _ _⟩
  · obtain ⟨k, rfl⟩ : ∃ m : Nat, k = m := ⟨k.toNat, by omega⟩
    rw [Ecc.codesE_good (by omega), hx.len]
    exact codes_good a n c k xs w hx hn hnc hc (by omega) (by omega)
end Go.Proofs.Ytceoogpmcijlaaa
