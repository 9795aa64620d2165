/-
  math/bits.Len, laid at this seat as the kit's tools lay-shelf and lay-plain write it.
-/
/-
  The pages that are needed in a block.
-/
import Derived.Shelf.Small.Bits
import Derived.Test.YtiipnpfaaghekaaGreatBase
import Derived.Test.YtiipnpfaaghekaaGreatProg
import Derived.Shelf.SlSortCmp.SmallK
import Derived.Ground.SlsfProg
import Derived.Test.YtiipnpfaaghekaaGreatFtlMap
import Derived.Test.YtiipnpfaaghekaaGreatMany
import Derived.Test.YtiipnpfaaghekaaGreatFtlMem
/-
  slices.SortFunc at the needed pages, laid at this seat as the kit's tool lay-plain writes it.
-/
namespace Go.Proofs.YtiipnpfaaghekaaGreat
open Go.Shelf

def lays125_ren : Go.Shelf.Ren := ⟨fun | 125 => 108 | 128 => 136 | 129 => 137 | n => n, fun | 46 => 103 | 3 => 3 | 51 => 30 | 53 => 56 | 4 => 4 | 5 => 5 | 9 => 9 | n => n, fun | n => n⟩
theorem lays125 : Go.Proofs.Lays.n125 Tryz.prog lays125_ren := {
  mixed := by kernel_rfl
  f125 := Tryz.func108.trans (congrArg some (by kernel_rfl))
  f128 := Tryz.func136.trans (congrArg some (by kernel_rfl))
  f129 := Tryz.func137.trans (congrArg some (by kernel_rfl))
  t3 := Tryz.underlying3
  a3 := Tryz.isAgg3
  z3 := Tryz.sizeOf3
  v3 := Tryz.zeroValue3
  t4 := Tryz.underlying4
  a4 := Tryz.isAgg4
  z4 := Tryz.sizeOf4
  v4 := Tryz.zeroValue4
  t5 := Tryz.underlying5
  a5 := Tryz.isAgg5
  z5 := Tryz.sizeOf5
  v5 := Tryz.zeroValue5
  t9 := Tryz.underlying9
  a9 := Tryz.isAgg9
  z9 := Tryz.sizeOf9
  v9 := Tryz.zeroValue9
  t46 := Tryz.underlying103
  a46 := Tryz.isAgg103
  z46 := Tryz.sizeOf103
  v46 := Tryz.zeroValue103
  t51 := Tryz.underlying30
  a51 := Tryz.isAgg30
  z51 := Tryz.sizeOf30
  v51 := Tryz.zeroValue30
  t53 := Tryz.underlying56
  a53 := Tryz.isAgg56
  z53 := Tryz.sizeOf56
  v53 := Tryz.zeroValue56 }
theorem bitsLen_calls (x : Int) (w : World) (h0 : 0 ≤ x) (h1 : x ≤ 18446744073709551615) :
    Calls Tryz.prog 108 #[.int .u64 x] w fun e w' => e = .returned (.int .i64 (Lib.bitLen x.toNat)) ∧ w' = w := Any.bits_Len lays125 x w h0 h1
end Go.Proofs.YtiipnpfaaghekaaGreat
/-
  What is needed in a block, put in order.
-/
namespace Go.Proofs.YtiipnpfaaghekaaGreat
open Go.Shelf

def sortH_ren : Go.Shelf.Ren := ⟨fun | 6 => 92 | 15 => 108 | 14 => 107 | 28 => 136 | 29 => 137 | 20 => 128 | 21 => 129 | 22 => 130 | 23 => 131 | 24 => 132 | 25 => 133 | 26 => 134 | 27 => 135 | 46 => 140 | 47 => 141 | 48 => 142 | 49 => 143 | 50 => 144 | 57 => 145 | n => n, fun | 22 => 127 | 24 => 144 | 25 => 146 | 3 => 3 | 39 => 103 | 0 => 0 | 53 => 30 | 55 => 56 | 4 => 4 | 46 => 166 | 45 => 165 | 50 => 170 | 5 => 5 | 9 => 9 | 66 => 174 | 70 => 178 | 76 => 180 | 77 => 181 | n => n, fun | n => n⟩
theorem sortH : Go.Proofs.SlLaysF0.n6 Tryz.prog sortH_ren := {
  mixed := by kernel_rfl
  f6 := ⟨Tryz.f92.name, by decide, Tryz.func92.trans (congrArg some (by kernel_rfl))⟩
  f14 := ⟨Tryz.f107.name, by decide, Tryz.func107.trans (congrArg some (by kernel_rfl))⟩
  f15 := Tryz.func108.trans (congrArg some (by kernel_rfl))
  f20 := ⟨Tryz.f128.name, by decide, Tryz.func128.trans (congrArg some (by kernel_rfl))⟩
  f21 := ⟨Tryz.f129.name, by decide, Tryz.func129.trans (congrArg some (by kernel_rfl))⟩
  f22 := ⟨Tryz.f130.name, by decide, Tryz.func130.trans (congrArg some (by kernel_rfl))⟩
  f23 := ⟨Tryz.f131.name, by decide, Tryz.func131.trans (congrArg some (by kernel_rfl))⟩
  f24 := ⟨Tryz.f132.name, by decide, Tryz.func132.trans (congrArg some (by kernel_rfl))⟩
  f25 := ⟨Tryz.f133.name, by decide, Tryz.func133.trans (congrArg some (by kernel_rfl))⟩
  f26 := ⟨Tryz.f134.name, by decide, Tryz.func134.trans (congrArg some (by kernel_rfl))⟩
  f27 := ⟨Tryz.f135.name, by decide, Tryz.func135.trans (congrArg some (by kernel_rfl))⟩
  f28 := Tryz.func136.trans (congrArg some (by kernel_rfl))
  f29 := Tryz.func137.trans (congrArg some (by kernel_rfl))
  f46 := ⟨Tryz.f140.name, by decide, Tryz.func140.trans (congrArg some (by kernel_rfl))⟩
  f47 := Tryz.func141.trans (congrArg some (by kernel_rfl))
  f48 := Tryz.func142.trans (congrArg some (by kernel_rfl))
  f49 := ⟨Tryz.f143.name, by decide, Tryz.func143.trans (congrArg some (by kernel_rfl))⟩
  f50 := ⟨Tryz.f144.name, by decide, Tryz.func144.trans (congrArg some (by kernel_rfl))⟩
  f57 := ⟨Tryz.f145.name, by decide, Tryz.func145.trans (congrArg some (by kernel_rfl))⟩
  t0 := Tryz.underlying0
  a0 := Tryz.isAgg0
  z0 := Tryz.sizeOf0
  v0 := Tryz.zeroValue0
  t3 := Tryz.underlying3
  a3 := Tryz.isAgg3
  z3 := Tryz.sizeOf3
  v3 := Tryz.zeroValue3
  t4 := Tryz.underlying4
  a4 := Tryz.isAgg4
  z4 := Tryz.sizeOf4
  v4 := Tryz.zeroValue4
  t5 := Tryz.underlying5
  a5 := Tryz.isAgg5
  z5 := Tryz.sizeOf5
  v5 := Tryz.zeroValue5
  t9 := Tryz.underlying9
  a9 := Tryz.isAgg9
  z9 := Tryz.sizeOf9
  v9 := Tryz.zeroValue9
  t22 := Tryz.underlying127
  a22 := Tryz.isAgg127
  z22 := Tryz.sizeOf127
  v22 := Tryz.zeroValue127
  t25 := Tryz.underlying146
  a25 := Tryz.isAgg146
  z25 := Tryz.sizeOf146
  v25 := Tryz.zeroValue146
  t39 := Tryz.underlying103
  a39 := Tryz.isAgg103
  z39 := Tryz.sizeOf103
  v39 := Tryz.zeroValue103
  t45 := Tryz.underlying165
  a45 := Tryz.isAgg165
  z45 := Tryz.sizeOf165
  v45 := Tryz.zeroValue165
  t46 := Tryz.underlying166
  a46 := Tryz.isAgg166
  z46 := Tryz.sizeOf166
  v46 := Tryz.zeroValue166
  t50 := Tryz.underlying170
  a50 := Tryz.isAgg170
  z50 := Tryz.sizeOf170
  v50 := Tryz.zeroValue170
  t53 := Tryz.underlying30
  a53 := Tryz.isAgg30
  z53 := Tryz.sizeOf30
  v53 := Tryz.zeroValue30
  t55 := Tryz.underlying56
  a55 := Tryz.isAgg56
  z55 := Tryz.sizeOf56
  v55 := Tryz.zeroValue56
  t66 := Tryz.underlying174
  a66 := Tryz.isAgg174
  z66 := Tryz.sizeOf174
  v66 := Tryz.zeroValue174
  t70 := Tryz.underlying178
  a70 := Tryz.isAgg178
  z70 := Tryz.sizeOf178
  v70 := Tryz.zeroValue178
  t76 := Tryz.underlying180
  a76 := Tryz.isAgg180
  z76 := Tryz.sizeOf180
  v76 := Tryz.zeroValue180
  t77 := Tryz.underlying181
  a77 := Tryz.isAgg181
  z77 := Tryz.sizeOf181
  v77 := Tryz.zeroValue181 }
end Go.Proofs.YtiipnpfaaghekaaGreat
namespace Go.Proofs.YtiipnpfaaghekaaGreat
open Go.RowKit Go.Shelf Go.Sort

/-- A page that is needed: in which map, and its entry. -/
structure Hd where
  n : Bool
  e : En
  h : e.i < 8
instance : Inhabited Hd := ⟨⟨false, ⟨Tg.zero, [], 0, 0⟩, by decide⟩⟩
def hdL (SE NO : Nat) (x : Hd) : List Value := [.map (some (if x.n then NO else SE)), .int .u32 (x.e.t.p : Int), .int .i64 (x.e.b : Int), .int .i64 (x.e.i : Int)]
theorem hd_len (SE NO : Nat) (x : Hd) : (hdL SE NO x).length = 4 := rfl
theorem hd_one (SE NO : Nat) : ∀ (x : Hd), ∀ u ∈ hdL SE NO x, u.oneCell' = true := fun x u hu => by
  simp only [hdL, List.mem_cons, List.not_mem_nil, or_false] at hu
  rcases hu with rfl | rfl | rfl | rfl <;> rfl
def hdC (x y : Hd) : Int := (x.e.i : Int) - (y.e.i : Int)
theorem hdSwo : SWO (ltOf hdC) := by
  refine ⟨fun x => ?_, fun x y z h1 h2 => ?_, fun x y z h1 h2 => ?_⟩
  · exact decide_eq_false (by unfold hdC; omega)
  · have a := of_decide_eq_true h1
    have b := of_decide_eq_true h2
    exact decide_eq_true (by unfold hdC at *; omega)
  · have a := of_decide_eq_false h1
    have b := of_decide_eq_false h2
    exact decide_eq_false (by unfold hdC at *; omega)
theorem heldCells : Tryz.prog.cellsOf 144 = 4 := by kernel_rfl
set_option maxHeartbeats 1000000 in
theorem hdCmp_calls (SE NO : Nat) (x y : Hd) (W : World) :
    Calls Tryz.prog 93 #[.agg #[.map (some (if x.n then NO else SE)), .int .u32 (x.e.t.p : Int), .int .i64 (x.e.b : Int), .int .i64 (x.e.i : Int)], .agg #[.map (some (if y.n then NO else SE)), .int .u32 (y.e.t.p : Int), .int .i64 (y.e.b : Int), .int .i64 (y.e.i : Int)]] W fun e w' => e = .returned (.int .i64 (hdC x y)) ∧ ∃ q os', w' = grow (W.drewN q) os' := by
  have hx := x.h
  have hy := y.h
  have HC := Lib.hid (show (x.e.i : Int) - (y.e.i : Int) = hdC x y from rfl)
  have i1 := IntWalk.i64_in ((x.e.i : Int) - (y.e.i : Int)) ⟨by omega, by omega⟩
  generalize (if x.n = true then NO else SE) = mx at *
  generalize (if y.n = true then NO else SE) = my at *
  generalize x.e = a at *
  generalize y.e = b at *
  generalize hdC x y = r at *
  clear hx hy
  have hcs := heldCells
  go_enter Tryz.func93, Tryz.ntmps93
  go_wp2
  go_ret
  exact ⟨by rw [← HC.out]; rfl, 0, _, by rw [alloc_eq_grow, alloc_eq_grow, grow_grow]; rfl⟩
theorem hdHolds {SE NO P n c base : Nat} {w : World} {e : TypeId} {L : List Hd} (h : OwnM 4 (hdL SE NO) e w base (.slice (some ⟨P, 0, none⟩) n c) L) : HoldsK (hdL SE NO) 4 w P 0 L.toArray := by
  intro j hj
  have hj2 : j < L.toArray.size * 4 := by rw [← size_flatK (hdL SE NO) 4]; exact hj
  rw [List.size_toArray] at hj2
  have hq : j / 4 < L.length := by omega
  have hr : j % 4 < 4 := by omega
  obtain ⟨c1, c2⟩ := h.cellg hq hr
  rw [show j / 4 * 4 + j % 4 = j by omega] at c1 c2
  rw [get_flatK _ _ _ _ (by rw [List.size_toArray]; exact hj2), Nat.zero_add, c1]
  have e1 : L.toArray[j / 4]! = L[j / 4] := by rw [getElem!_pos L.toArray (j / 4) (by rw [List.size_toArray]; exact hq)]; rfl
  refine ⟨?_, c2⟩
  rw [e1, List.getElem?_eq_getElem (by rw [hd_len]; exact hr), getElem!_pos _ _ (by rw [hd_len]; exact hr)]
  rfl
theorem sortW_heap (enc : Hd → List Value) (k : Nat) (w : World) (blk off n : Nat) (d : Array Hd) (os : Array Obj) {q : Nat} (hq : q < w.heap.size) (hne : q ≠ blk) : (sortWorldK enc k w blk off n d os).heap[q]? = w.heap[q]? := by
  show (w.heap.modify blk _ ++ os)[q]? = _
  rw [Array.getElem?_append_left (by rw [Array.size_modify]; exact hq), Array.getElem?_modify, if_neg (Ne.symm hne)]
theorem hdSort_calls (SE NO P n c base : Nat) (w : World) (L : List Hd) (h : OwnM 4 (hdL SE NO) 144 w base (.slice (some ⟨P, 0, none⟩) n c) L) (h12 : L.length ≤ 12) :
    Calls Tryz.prog 92 #[.slice (some ⟨P, 0, none⟩) n c, .func (.func 93) #[] #[]] w fun e w' => e = .returned (.tuple #[]) ∧ (∃ L', L'.Perm L ∧ ArrM 4 (hdL SE NO) w' w'.heap.size (some ⟨P, 0, none⟩) n L') ∧ Below base w w' := by
  obtain ⟨a', c', hv, hc'⟩ := h.form
  injection hv with _ hn _
  subst hn
  obtain ⟨hP1, hP2⟩ := h.blockLt P rfl
  have eg : ∀ args w, (callFunc 93 args).run Tryz.prog w = .ok (.enter 93 args) w := enters_of Tryz.func93 (by kernel_rfl) rfl
  have hH := hdHolds h
  have hcon := AnyQ.slices_SortFunc_small_sorted sortH 4 Tryz.isAgg144 Tryz.sizeOf144 (hdL SE NO) (hd_len SE NO) (hd_one SE NO) hdC 93 #[] hdSwo P 0 c L.toArray w eg (fun _ _ _ _ x y => hdCmp_calls SE NO x y _) hH hP2 (by rw [List.size_toArray]; exact h12)
    (fun m W hm => (bitsLen_calls (m : Int) W (by omega) (by omega)).mono fun _ _ ⟨he, hw⟩ => ⟨⟨_, he⟩, hw⟩)
  change Calls Tryz.prog 92 _ _ _ at hcon
  rw [List.size_toArray] at hcon
  refine hcon.mono ?_
  rintro e w' ⟨rfl, d', m, os, ⟨p1, p2, p3⟩, _, rfl⟩
  have hsz : d'.size = L.length := by rw [p1, List.size_toArray]
  have hH2 := holdsK_sortWorldK_c (hdL SE NO) 4 w P 0 L.toArray d' m os hH hP2 p1
  have hs := size_sortWorldK_c (hdL SE NO) 4 w P 0 m d' os
  refine ⟨rfl, ⟨d'.toList, ?_, ?_⟩, ?_⟩
  · rw [← hsz, Array.extract_size] at p3
    rw [hsz, show L.length = L.toArray.size from (List.size_toArray ..).symm, Array.extract_size] at p3
    exact p3
  · refine ⟨by rw [Array.length_toList]; exact hsz, by omega, fun _ => ⟨P, 0, rfl, Nat.lt_of_lt_of_le hP2 hs, fun i hi j v hv => ?_⟩⟩
    have hi2 : i < d'.size := by rw [← Array.length_toList]; exact hi
    have hj : j < 4 := (List.getElem?_eq_some_iff.1 hv).1
    have := (hH2.cell hi2 hj).1
    rw [this]
    have e1 : d'[i]! = d'.toList[i] := by rw [getElem!_pos d' i hi2]; rfl
    rw [e1, getElem!_pos _ _ (by rw [hd_len]; exact hj)]
    rw [List.getElem?_eq_getElem (by rw [hd_len]; exact hj)] at hv
    exact hv
  · exact ⟨rfl, rfl, rfl, hs, fun q hq => by
      rcases Nat.lt_or_ge q w.heap.size with h1 | h1
      · exact sortW_heap _ _ _ _ _ _ _ _ h1 (by omega)
      · omega⟩
end Go.Proofs.YtiipnpfaaghekaaGreat
namespace Go.Proofs.YtiipnpfaaghekaaGreat
open Go.RowKit Go.Maps

set_option maxHeartbeats 1000000 in
theorem insNil_calls (v : Value) (w : World) :
    Calls Tryz.prog 128 #[.slice none 0 0, .int .i64 0, .int .i64 0, v] w fun e w' => e = .returned (.tuple #[]) ∧ w = w' := by
  go_enter Tryz.func128, Tryz.ntmps128
  go_wp2
  refine wp_loop_rounds 1 ?_
  rw [rounds_succ]
  go_wp2
  go_end0
  exact ⟨rfl, rfl⟩
set_option maxHeartbeats 1000000 in
theorem pdqNil_calls (v : Value) (x : Int) (w : World) :
    Calls Tryz.prog 107 #[.slice none 0 0, .int .i64 0, .int .i64 0, .int .i64 x, v] w fun e w' => e = .returned (.tuple #[]) ∧ w = w' := by
  have HI := Lib.hid (insNil_calls v w)
  go_enter Tryz.func107, Tryz.ntmps107
  go_wp2
  refine wp_loop_rounds 1 ?_
  rw [rounds_succ]
  go_wp2_with fail
  refine HI.out.mono ?_
  rintro e w1 ⟨rfl, rfl⟩
  go_wp2
  (try simp only [Exit.inBlock, Exit.then])
  refine bodyPost_ret (results_none rfl _ _ _) rfl ?_
  exact ⟨rfl, rfl⟩
set_option maxHeartbeats 1000000 in
theorem sortNil_calls (v : Value) (w : World) :
    Calls Tryz.prog 92 #[.slice none 0 0, v] w fun e w' => e = .returned (.tuple #[]) ∧ w = w' := by
  go_enter Tryz.func92, Tryz.ntmps92
  go_wp2_with fail
  refine (bitsLen_calls 0 w (by omega) (by omega)).mono ?_
  rintro e w1 ⟨rfl, rfl⟩
  generalize Lib.bitLen (0 : Int).toNat = x
  go_wp2_with fail
  refine (pdqNil_calls v x _).mono ?_
  rintro e w1 ⟨rfl, rfl⟩
  go_wp2
  go_end0
  exact ⟨rfl, rfl⟩
namespace Ftl
def pr (x : Hd) : Bool × En := (x.n, x.e)
/-- What a map has in block k. -/
def ofMap (n : Bool) (l : List En) (k : Nat) : List (Bool × En) := (l.filter fun e => e.b == k).map fun e => (n, e)
def allIn (f : Fm) (k : Nat) : List (Bool × En) := ofMap false f.se k ++ ofMap true f.no k
/-- What has been met when i maps have been gone through. -/
def metIn (f : Fm) (k : Nat) : Nat → List (Bool × En)
  | 0 => []
  | 1 => ofMap false f.se k
  | _ => allIn f k
theorem ofMap_snoc (n : Bool) (l : List En) (e : En) (k : Nat) : ofMap n (l ++ [e]) k = ofMap n l k ++ if e.b = k then [(n, e)] else [] := by
  unfold ofMap
  rw [List.filter_append, List.map_append, List.filter_cons]
  by_cases h : e.b = k <;> simp [h]
theorem ofMap_perm {n : Bool} {l l' : List En} {k : Nat} (h : l.Perm l') : (ofMap n l k).Perm (ofMap n l' k) := (h.filter _).map _
theorem ofMap_app (n : Bool) (l l' : List En) (k : Nat) : ofMap n (l ++ l') k = ofMap n l k ++ ofMap n l' k := by unfold ofMap; rw [List.filter_append, List.map_append]
theorem metIn_succ (f : Fm) (k : Nat) {i : Nat} (hi : i < 2) : metIn f k (i + 1) = metIn f k i ++ ofMap (decide (i = 1)) (if i = 1 then f.no else f.se) k := by
  match i with
  | 0 => rfl
  | 1 => rfl
theorem metIn_len (f : Fm) (k : Nat) (i : Nat) : (metIn f k i).length ≤ (allIn f k).length := by
  match i with
  | 0 => exact Nat.zero_le _
  | 1 => unfold allIn; rw [List.length_append]; exact Nat.le_add_right _ _
  | _ + 2 => exact Nat.le_refl _
end Ftl
theorem infoHd : (Tryz.prog.info? 144).map (fun i => (i.zero, i.size, i.bytes)) = some (some (.agg #[.map none, .int .u32 0, .int .i64 0, .int .i64 0]), 4, 32) := by kernel_rfl
theorem wpList_litHd {SE NO : Nat} {w : World} {ops : Array Oper} {rest : List Oper} {o : Oper} {ac : Act} {Q : Exit → Act → World → Prop} {cs : Array Value} (hgd : o.guard = none) (s x : Operand) (ho : o.op = .call { callee := .builtin .append, args := #[s, x], argTypes := #[127, 127] }) (base : Nat)
    (v : Value) (xs : List Hd) (hs : ac.eval s = v) (hown : OwnM 4 (hdL SE NO) 144 w base v xs) (y : Hd) (g : Nat) (hx : ac.eval x = .slice (some ⟨g, 0, none⟩) 1 1) (hg : g = w.heap.size) (hcs : cs = (hdL SE NO y).toArray)
    (hbytes : xs.length ≤ 1000000) (hbase : base ≤ w.heap.size)
    (h : ∀ v' w', Hid (OwnM 4 (hdL SE NO) 144 w' base v' (xs ++ [y])) → Hid (Kq (fun q => v.ownBlock = some q) w w') → wpList Tryz.prog ops Q rest (ac.put o.dst v') w') : wpList Tryz.prog ops Q (o :: rest) ac (w.alloc (.cells cs 144)) := by
  subst hg
  obtain ⟨i0, hi, hz0, hz1, hz2⟩ := info_parts infoHd
  have hb2 : base ≤ (w.alloc (.cells cs 144)).heap.size := by simp; omega
  exact wpList_append_OwnM hgd s x 127 ho base 144 i0 _ 32 Tryz.underlying127 hi hz0 hz1 hz2 rfl (by decide) (hd_one SE NO) v xs hs (hown.alloc _) _ _ 1 1 [y] hx (ArrM.lit1 w 144 y hcs) (by omega) (by simp only [maxLen]; omega) hb2 fun v' w' h1 h2 _ =>
    h v' w' (Lib.hid h1) (Lib.hid ((Kq.of ((Below.refl _ w).alloc (Nat.le_refl _) _)).trans (Kq.grown h2)))
namespace Ftl
theorem met_len {f : Fm} {k i MB r : Nat} {w : World} {d lst : List En} {L : List Hd} (hi : i < 2) (hls : lst = if i = 1 then f.no else f.se) (hr : RngE w MB r lst d) (hp : (L.map pr).Perm (metIn f k i ++ ofMap (decide (i = 1)) d k)) (hlen : (allIn f k).length ≤ 12) : L.length ≤ 12 := by
  obtain ⟨rest, hrest⟩ := hr.rest
  have h1 := hp.length_eq
  rw [List.length_map, List.length_append] at h1
  have h2 := (ofMap_perm (n := decide (i = 1)) (k := k) hrest).length_eq
  rw [ofMap_app, List.length_append] at h2
  have h3 := metIn_len f k (i + 1)
  rw [metIn_succ f k hi, ← hls, List.length_append] at h3
  omega
theorem met_done {f : Fm} {k i : Nat} {d lst : List En} {L : List Hd} (hi : i < 2) (hls : lst = if i = 1 then f.no else f.se) (hd : d.Perm lst) (hp : (L.map pr).Perm (metIn f k i ++ ofMap (decide (i = 1)) d k)) : (L.map pr).Perm (metIn f k (i + 1)) := by
  rw [metIn_succ f k hi, ← hls]
  exact hp.trans ((ofMap_perm hd).append_left _)
theorem met_more {f : Fm} {k i : Nat} {d : List En} {L : List Hd} {e : En} {h8 : e.i < 8} (hk : e.b = k) (hp : (L.map pr).Perm (metIn f k i ++ ofMap (decide (i = 1)) d k)) : ((L ++ [(⟨decide (i = 1), e, h8⟩ : Hd)]).map pr).Perm (metIn f k i ++ ofMap (decide (i = 1)) (d ++ [e]) k) := by
  rw [ofMap_snoc, if_pos hk, List.map_append, ← List.append_assoc]
  exact hp.append_right _
theorem met_pass {f : Fm} {k i : Nat} {d : List En} {L : List Hd} {e : En} (hk : ¬ e.b = k) (hp : (L.map pr).Perm (metIn f k i ++ ofMap (decide (i = 1)) d k)) : (L.map pr).Perm (metIn f k i ++ ofMap (decide (i = 1)) (d ++ [e]) k) := by
  rw [ofMap_snoc, if_neg hk, List.append_nil]
  exact hp
end Ftl
theorem ArrM.kq {α : Type} {m : Nat} {f : α → List Value} {T : Nat → Prop} {w w' : World} {B n : Nat} {a : Option Addr} {xs : List α} (h : ArrM m f w B a n xs) (hB : B ≤ w.heap.size) (hk : Kq T w w') (hT : ∀ b o, a = some ⟨b, o, none⟩ → ¬ T b) : ArrM m f w' B a n xs := by
  obtain ⟨h1, h2, h3⟩ := h
  refine ⟨h1, h2, fun hn => ?_⟩
  obtain ⟨b, o, ha, hlt, hc⟩ := h3 hn
  exact ⟨b, o, ha, hlt, fun i hi j v hv => (World.cell?_of_block (a := ⟨b, _, none⟩) (hk.block b (by omega) (hT b o ha))).trans (hc i hi j v hv)⟩
/-- A row is no map, and no iterator. -/
theorem ownM_neR {α : Type} {m : Nat} {f : α → List Value} {e : TypeId} {w : World} {base b r : Nat} {v : Value} {xs : List α} {l d : List En} (h : OwnM m f e w base v xs) (hr : RngE w b r l d) : v.ownBlock ≠ some r ∧ v.ownBlock ≠ some b := by
  rcases h.2.2 with ⟨rfl, _⟩ | ⟨g, cap, cur, rfl, _, hg, _⟩
  · constructor <;> · intro e; cases e
  · obtain ⟨es, clock, since, seen, c0, h1, _, h3, _⟩ := hr.1
    refine ⟨fun e => ?_, fun e => ?_⟩
    · obtain rfl : g = r := Option.some.inj e
      rw [hg] at h3; cases h3
    · obtain rfl : g = b := Option.some.inj e
      rw [hg] at h1; cases h1
section
open Ftl
variable {NB B : Nat} {R : Nat → Prop} {w : World} {f : Fm}
/-- What comes of asking for the needed pages. -/
def Ndd (f : Fm) (k : Nat) (w : World) (e : Ending) (w' : World) : Prop :=
  (∃ a n c, ∃ L : List Hd, e = .returned (.slice a n c) ∧ n ≤ 12 ∧ (L.map pr).Perm (allIn f k) ∧ ArrM 4 (hdL f.SE f.NO) w' w'.heap.size a n L ∧ ∀ b o, a = some ⟨b, o, none⟩ → w.heap.size ≤ b) ∧ Below w.heap.size w w'
set_option maxRecDepth 100000 in
set_option maxHeartbeats 4000000 in
theorem needed_calls (h : FtM NB B R w f) (k : Nat) (h8 : ∀ e ∈ f.se ++ f.no, e.i < 8) (hlen : (allIn f k).length ≤ 12) :
    Calls Tryz.prog 76 #[.pointer (some ⟨f.F, 0, none⟩), .int .i64 (k : Int)] w (Ndd f k w) := by
  have HH := Lib.hid h
  have H8 := Lib.hid h8
  have HL := Lib.hid hlen
  clear h h8 hlen
  go_enter Tryz.func76, Tryz.ntmps76
  go_upto_region 2 with fail
  have HS0 := Lib.hid (show Below w.heap.size w w.drew from below_drew w)
  refine wp_region_noPanic ?_
  refine wp_region_held_drew (S := (fun W' => Below w.heap.size w W')) (by kernel_rfl) HS0.out (fun hS0 => ?_)
  generalize w.drew = w1 at *
  refine takeV 0 (v := (.pointer (some ⟨f.F, 0, none⟩))) rfl (by kernel_rfl) (by kernel_rfl) (by kernel_rfl) (fun _ _ _ h => h) (by rfl) (fun _ _ => rfl) (by assumption) ?_
  try simp only [layR]
  refine takeV 1 (v := (.pointer (some ⟨f.F, 0, none⟩))) rfl (by kernel_rfl) (by kernel_rfl) (by kernel_rfl) (fun _ _ _ h => h) (by rfl) (fun _ _ => rfl) (by assumption) ?_
  try simp only [layR]
  refine takeV 2 (v := (.pointer (some ⟨f.F, 5, none⟩))) rfl (by kernel_rfl) (by kernel_rfl) (by kernel_rfl) (fun _ _ _ h => h) (by rfl) (fun W hSw => ?_) (by assumption) ?_
  · skip
    go_simp
  try simp only [layR]
  refine takeV 3 (v := (.map (some f.SE))) rfl (by kernel_rfl) (by kernel_rfl) (by kernel_rfl) (fun _ _ _ h => h) (by rfl) (fun W hSw => ?_) (by assumption) ?_
  · have y9 := (HH.out.on hSw).c5
    go_simp
  try simp only [layR]
  refine takeV 4 (v := (.pointer (some ⟨f.F, 0, none⟩))) rfl (by kernel_rfl) (by kernel_rfl) (by kernel_rfl) (fun _ _ _ h => h) (by rfl) (fun _ _ => rfl) (by assumption) ?_
  try simp only [layR]
  refine takeV 5 (v := (.pointer (some ⟨f.F, 0, none⟩))) rfl (by kernel_rfl) (by kernel_rfl) (by kernel_rfl) (fun _ _ _ h => h) (by rfl) (fun _ _ => rfl) (by assumption) ?_
  try simp only [layR]
  refine takeV 6 (v := (.pointer (some ⟨f.F, 6, none⟩))) rfl (by kernel_rfl) (by kernel_rfl) (by kernel_rfl) (fun _ _ _ h => h) (by rfl) (fun W hSw => ?_) (by assumption) ?_
  · skip
    go_simp
  try simp only [layR]
  refine takeV 7 (v := (.map (some f.NO))) rfl (by kernel_rfl) (by kernel_rfl) (by kernel_rfl) (fun _ _ _ h => h) (by rfl) (fun W hSw => ?_) (by assumption) ?_
  · have y9 := (HH.out.on hSw).c6
    go_simp
  try simp only [layR]
  refine takeV 10 (v := (.int .i64 0)) rfl (by kernel_rfl) (by kernel_rfl) (by kernel_rfl) (fun _ _ _ h => h) (by rfl) (fun _ _ => rfl) (by assumption) ?_
  try simp only [layR]
  refine wpAnyH_ready (rs := [8]) (by kernel_rfl) (by simp) ?_
  refine AllReadyH.cons rfl (fun K' hK => ?_) AllReadyH.nil
  go_simp
  have hS1 : Below w.heap.size w (w1.alloc (.cells #[.map (some f.SE), .map (some f.NO)] 55)) := hS0.then_ ((Below.refl _ _).alloc (Nat.le_refl _) _)
  have HK1 := Lib.hid (Blk.new w1 55 #[.map (some f.SE), .map (some f.NO)])
  have HB1 := Lib.hid hS1
  have HKz := Lib.hid hS0.size
  refine hK.out _ _ hS1 (fun hS2 => ?_)
  try simp only [layR]
  refine takeV 9 (v := (.int .i64 2)) rfl (by kernel_rfl) (by kernel_rfl) (by kernel_rfl) (fun _ _ _ h => h) (by rfl) (fun W hSw => ?_) (by assumption) ?_
  · skip
    go_simp
  try simp only [layR]
  refine wpAnyH_done (by kernel_rfl) ?_ _
  refine NoPanic.normal ?_
  generalize hw2 : w1.alloc (.cells #[.map (some f.SE), .map (some f.NO)] 55) = w2 at *
  clear hw2 hS0 hS1 hS2
  generalize w1.heap.size = K at *
  clear HS0
  clear w1
  go_wp2_with fail
  go_loopw [5, 7, 8, 9, 20] (fun v5 _ _ _ v20 wr => ∃ i : Nat, i ≤ 2 ∧ v20 = .int .i64 (i : Int) ∧ Hid (∃ L : List Hd, OwnM 4 (hdL f.SE f.NO) 144 wr w2.heap.size v5 L ∧ (L.map pr).Perm (metIn f k i) ∧ (L = [] → v5 = .slice none 0 0)) ∧ Hid (Below w2.heap.size w2 wr)) (fun _ _ _ _ v20 _ => 2 - (intOf v20).toNat)
  case atStart =>
    exact ⟨0, by omega, rfl, ⟨[], OwnM.nil (hd_len _ _) _ _, List.Perm.refl _, fun _ => rfl⟩, Below.refl _ _⟩
  case round =>
    obtain ⟨i, hi, rfl, hL, hb⟩ := hrel
    have HB := Lib.hid hb.out
    have HZ := Lib.hid (Nat.le_trans HB1.out.size hb.out.size)
    by_cases hlt : i < 2
    · obtain ⟨MB, hMB⟩ : ∃ MB, MB = if i = 1 then f.NO else f.SE := ⟨_, rfl⟩
      obtain ⟨lst, hls⟩ : ∃ lst, lst = if i = 1 then f.no else f.se := ⟨_, rfl⟩
      have hF := (HH.out.on HB1.out).on hb.out
      have hkc := Blk.belowHere HK1.out hb.out
      have hcell : wr.cell? ⟨K, i, none⟩ = some (.map (some MB)) := by
        rw [hMB]
        rcases (show i = 0 ∨ i = 1 by omega) with rfl | rfl
        · exact hkc.cellv rfl
        · exact hkc.cellv rfl
      have hme : MapE wr MB lst := by
        rw [hMB, hls]
        rcases (show i = 0 ∨ i = 1 by omega) with rfl | rfl
        · exact hF.hS
        · exact hF.hN
      have HM := Lib.hid hme
      have HMB := Lib.hid hMB
      have HLS := Lib.hid hls
      have g1 : (0 : Int) ≤ (i : Int) := by omega
      have g2 : (i : Int) < 2 := by omega
      clear hF hkc hme hMB hls
      go_wp2_with (at_range; refine wpList_range_E _ rfl _ rfl MB lst rfl HM.out ?_; intro w3 HR3 HB3 hs3)
      go_frame
      clear hcell
      have hL3 : Hid (∃ L : List Hd, OwnM 4 (hdL f.SE f.NO) 144 w3 w2.heap.size u5 L ∧ (L.map pr).Perm (metIn f k i) ∧ (L = [] → u5 = .slice none 0 0)) := by
        obtain ⟨L, l1, l2, l3⟩ := hL.out
        exact ⟨L, l1.on HB3.out, l2, l3⟩
      have HB4 := Lib.hid (HB.out.then_ HB3.out)
      have HRz := Lib.hid hb.out.size
      clear hL hb HB
      generalize wr.heap.size = r at *
      go_loopw [5, 8, 9, 26] (fun v5 _ _ _ wq => Hid (∃ d, RngE wq MB r lst d ∧ ∃ L : List Hd, OwnM 4 (hdL f.SE f.NO) 144 wq w2.heap.size v5 L ∧ (L.map pr).Perm (metIn f k i ++ ofMap (decide (i = 1)) d k) ∧ (L = [] → v5 = .slice none 0 0)) ∧ Hid (Below w2.heap.size w2 wq)) (fun _ _ _ _ wq => wq.rangeLeft MB r)
      case atStart =>
        obtain ⟨L, l1, l2, l3⟩ := hL3.out
        exact ⟨⟨[], HR3.out, L, l1, by rw [show ofMap (decide (i = 1)) [] k = [] from rfl, List.append_nil]; exact l2, l3⟩, HB4.out⟩
      case round =>
        obtain ⟨hX, hb5⟩ := hrel
        have HB5 := Lib.hid hb5.out
        clear hL3 HR3 HB3 HB4 hb5
        obtain ⟨d, hd, L, l1, l2, l3⟩ := hX.out
        have HD := Lib.hid hd
        have HL1 := Lib.hid l1
        have HL2 := Lib.hid l2
        have HL3 := Lib.hid l3
        clear hX hd l1 l2 l3
        go_wp2_with (at_next; refine wpList_next_E _ rfl _ rfl MB r lst d rfl HD.out ?_ ?_)
        · intro hp
          have HP := Lib.hid (met_done hlt HLS.out hp.out HL2.out)
          go_wp2_with fail
          go_roundw
          case rel => exact ⟨i + 1, by omega, by go_num, ⟨L, HL1.out, HP.out, HL3.out⟩, HB5.out⟩
          case measure => simp [intOf]; omega
        · intro e w6 he hr6 hg6 hs6 hl6 hen
          rw [plV_eq] at hen ⊢
          have hne := Lib.hid (ownM_neR HL1.out HD.out)
          have HO6 := Lib.hid ((HL1.out.grown hg6.out (.inr fun e => hne.out.1 e)).alloc (.cells #[.int .i64 (e.b : Int), .int .i64 (e.i : Int)] 52))
          have hb6 : Below w2.heap.size w2 w6 := HB5.out.grown hg6.out HB5.out.size (fun j hj => by have := HRz.out; have := Option.some.inj hj; omega)
          have HB6 := Lib.hid hb6
          have HB7 := Lib.hid (hb6.alloc hb6.size (.cells #[.int .i64 (e.b : Int), .int .i64 (e.i : Int)] 52))
          have hle := H8.out e (by
            have h1 := he.out.1
            rw [HLS.out] at h1
            rcases (show i = 0 ∨ i = 1 by omega) with rfl | rfl
            · exact List.mem_append_left _ h1
            · exact List.mem_append_right _ h1)
          have HLE := Lib.hid hle
          clear hb6 hle
          by_cases hk : e.b = k
          · have hkb : ((e.b : Int) == (k : Int)) = true := by rw [beq_iff_eq]; omega
            have HKe := Lib.hid hk
            clear hk
            have hcs' : #[.map (some MB), .int .u32 (e.t.p : Int), .int .i64 (e.b : Int), .int .i64 (e.i : Int)] = (hdL f.SE f.NO ⟨decide (i = 1), e, HLE.out⟩).toArray := by simp [hdL, HMB.out]
            have hgz : wr.heap.size + 1 = (w6.alloc (.cells #[.int .i64 (e.b : Int), .int .i64 (e.i : Int)] 52)).heap.size := by simp [hs6]
            have HCS := Lib.hid hcs'
            have HGZ := Lib.hid hgz
            have HLl := Lib.hid (show L.length ≤ 1000000 by have := met_len hlt HLS.out HD.out HL2.out HL.out; omega)
            clear hcs' hgz
            go_wp2_with (at_builtin; refine wpList_litHd (SE := f.SE) (NO := f.NO) rfl _ _ rfl w2.heap.size _ L rfl HO6.out ⟨decide (i = 1), e, HLE.out⟩ _ rfl HGZ.out HCS.out HLl.out HB7.out.size ?_; intro v7 w7 HO7 HK7)
            have hal := (Below.refl w6.heap.size w6).alloc (Nat.le_refl _) (.cells #[.int .i64 (e.b : Int), .int .i64 (e.i : Int)] 52)
            have hr7 := hr6.out.on hal
            have q1 := HK7.out.block MB hr7.ltb fun e => hne.out.2 e
            have q2 := HK7.out.block r hr7.ltr fun e => hne.out.1 e
            have HR7 := Lib.hid (hr7.same q1 q2)
            have HM7 := Lib.hid (show w7.rangeLeft MB r < wr.rangeLeft MB r by rw [left_same q1 q2, hr6.out.1.left_on hal]; exact hl6.out)
            have HB8 := Lib.hid (HB7.out.trans (HK7.out.below (fun q hq => (HO6.out.blockLt q hq).1) HB7.out.size))
            have HP := Lib.hid (met_more (h8 := HLE.out) HKe.out HL2.out)
            clear hal hr7 q1 q2
            go_wp2_with fail
            go_roundw
            case rel => exact ⟨⟨d ++ [e], HR7.out, _, HO7.out, HP.out, fun h => by simp at h⟩, HB8.out⟩
            case measure => exact HM7.out
          · have hkb : ((e.b : Int) == (k : Int)) = false := by rw [beq_eq_false_iff_ne]; omega
            have HKe := Lib.hid hk
            clear hk
            go_wp2_with fail
            have hal := (Below.refl w6.heap.size w6).alloc (Nat.le_refl _) (.cells #[.int .i64 (e.b : Int), .int .i64 (e.i : Int)] 52)
            go_roundw
            case rel => exact ⟨⟨d ++ [e], hr6.out.on hal, _, HO6.out, met_pass HKe.out HL2.out, HL3.out⟩, HB7.out⟩
            case measure => rw [hr6.out.1.left_on hal]; exact hl6.out
    · obtain rfl : i = 2 := by omega
      obtain ⟨L, l1, l2, l3⟩ := hL.out
      have hl12 : L.length ≤ 12 := by
        have := l2.length_eq
        rw [List.length_map] at this
        have h3 := HL.out
        have : (metIn f k 2).length = (allIn f k).length := rfl
        omega
      have HLl := Lib.hid hl12
      by_cases h0 : L = []
      · subst h0
        obtain rfl := l3 rfl
        have HP := Lib.hid l2
        clear hL hb l1 l2 l3 hl12
        go_wp2_with fail
        refine (sortNil_calls _ wr).mono ?_
        rintro e w7 ⟨rfl, rfl⟩
        go_wp2
        go_ret
        exact ⟨⟨none, 0, 0, [], rfl, by omega, HP.out, ArrM.none_ _ _ _, fun _ _ e => (by cases e)⟩, HB1.out.trans (HB.out.mono HB1.out.size)⟩
      · obtain ⟨P, c, rfl, hc, hP1, hP2⟩ := l1.form_some (List.length_pos_iff.2 h0)
        have HS := Lib.hid (hdSort_calls f.SE f.NO P L.length c w2.heap.size wr L l1 hl12)
        have HP := Lib.hid l2
        clear hL hb l1 l2 l3 hl12 h0
        go_wp2_with fail
        refine HS.out.mono ?_
        rintro e w7 ⟨rfl, hX, hb7⟩
        have HX := Lib.hid hX
        have HB7 := Lib.hid hb7
        clear hX hb7
        go_wp2
        go_ret
        obtain ⟨L', p1, p2⟩ := HX.out
        exact ⟨⟨_, _, _, L', rfl, HLl.out, (p1.map pr).trans HP.out, p2, fun b o e => by injection e with e; injection e with e; have := HB1.out.size; omega⟩, HB1.out.trans ((HB.out.trans HB7.out).mono HB1.out.size)⟩
end
end Go.Proofs.YtiipnpfaaghekaaGreat
