/-
  ecc.MendAll.
-/
import Derived.Test.YtceoogpmcijlaaaEccRLook
import Derived.Test.YtceoogpmcijlaaaEccCodes
import Derived.Test.YtceoogpmcijlaaaSlClone
import Derived.Deep.QuietTactic
import Derived.BigQuiet
namespace Go.Proofs.Ytceoogpmcijlaaa
open Go.RowKit

def MaR (ys : List UInt8) (q0 q1 q2 q3 : Nat) (E : Int) (w : World) (e : Ending) (w' : World) : Prop :=
  ∃ a n c, e = .returned (.tuple #[.slice a n c, .agg #[.int .i64 q0, .int .i64 q1, .int .i64 q2, .int .i64 q3], .int .i64 E]) ∧ Bytes w' w'.heap.size a n ys ∧ Below w.heap.size w w'
theorem mendAll_bad (a : Option Addr) (n c : Nat) (k : Int) (a2 : Option Addr) (n2 c2 : Nat) (w : World) (hk : k < 1 ∨ 4096 < k) :
    Calls Try.prog 21 #[.slice a n c, .int .i64 k, .slice a2 n2 c2] w (MaR [] 0 0 0 0 1 w) := by
  have hr := Lib.hid (fun w => rows_bad a n c k w hk)
  clear hk
  go_enter Try.func21, Try.ntmps21
  go_wp2_with fail
  refine (hr.out _).mono ?_
  rintro e w' ⟨rfl, rfl⟩
  go_wp2
  refine bodyPost_ret (v := .tuple #[.slice none 0 0, .agg #[.int .i64 0, .int .i64 0, .int .i64 0, .int .i64 0], .int .i64 1]) (by simp [results, Try.results21, go_sem]) rfl ?_
  exact ⟨none, 0, 0, rfl, Arr.none_ _ _ _, (Below.refl _ _).alloc (Nat.le_refl _) _⟩
theorem mendAll_off (a : Option Addr) (n c k : Nat) (a2 : Option Addr) (n2 c2 : Nat) (w : World) (hn : n ≤ 900) (h1 : 1 ≤ k) (h2 : k ≤ 4096) (h3 : n2 ≠ 4 * Ecc.blks n k) :
    Calls Try.prog 21 #[.slice a n c, .int .i64 k, .slice a2 n2 c2] w (MaR [] 0 0 0 0 1 w) := by
  have hr := Lib.hid (fun w => rows_good a n c k w hn h1 h2)
  have hmn := Ecc.blks_le (l := n) h1
  generalize Ecc.blks n k = m at *
  have g4 : ((n2 : Int) != 4 * (m : Int)) = true := by rw [bne_iff_ne]; omega
  clear h3
  go_enter Try.func21, Try.ntmps21
  go_wp2_with fail
  refine (hr.out _).mono ?_
  rintro e w' ⟨rfl, rfl⟩
  go_wp2
  refine bodyPost_ret (v := .tuple #[.slice none 0 0, .agg #[.int .i64 0, .int .i64 0, .int .i64 0, .int .i64 0], .int .i64 1]) (by simp [results, Try.results21, go_sem]) rfl ?_
  exact ⟨none, 0, 0, rfl, Arr.none_ _ _ _, (Below.refl _ _).alloc (Nat.le_refl _) _⟩
def cntV (xs cs : List UInt8) (k j : Nat) : Array Value := #[.int .i64 (Ecc.cnt xs cs k 0 j : Nat), .int .i64 (Ecc.cnt xs cs k 1 j : Nat), .int .i64 (Ecc.cnt xs cs k 2 j : Nat), .int .i64 (Ecc.cnt xs cs k 3 j : Nat)]
theorem codeAt_or {cs : List UInt8} {j : Nat} (h : 4 * j + 3 < cs.length) :
    Ecc.codeAt cs j = cs[4 * j].toNat + 256 * cs[4 * j + 1].toNat + 65536 * cs[4 * j + 2].toNat + 16777216 * cs[4 * j + 3].toNat := by
  have e : (cs.drop (4 * j)).take 4 = [cs[4 * j], cs[4 * j + 1], cs[4 * j + 2], cs[4 * j + 3]] := by
    rw [List.drop_eq_getElem_cons (by omega), List.take_succ_cons, List.drop_eq_getElem_cons (by omega), List.take_succ_cons, List.drop_eq_getElem_cons (by omega), List.take_succ_cons, List.drop_eq_getElem_cons (by omega), List.take_succ_cons, List.take_zero]
  unfold Ecc.codeAt
  rw [e]
  simp only [numL]
  omega
theorem or_chain (x0 x1 x2 x3 : Nat) (z0 : x0 < 2 ^ 8) (z1 : x1 < 2 ^ 8) (z2 : x2 < 2 ^ 8) (z3 : x3 < 2 ^ 8) :
    bits .or .u32 (bits .or .u32 (bits .or .u32 (x0 : Int) ((x1 : Int) * 256)) ((x2 : Int) * 65536)) ((x3 : Int) * 16777216) = ((x0 + 256 * x1 + 65536 * x2 + 16777216 * x3 : Nat) : Int) := by
  have h1 := u32_or_high 8 x0 x1 z0 (by omega)
  have h2 := u32_or_high 16 (x0 + x1 * 2 ^ 8) x2 (by omega) (by omega)
  have h3 := u32_or_high 24 (x0 + x1 * 2 ^ 8 + x2 * 2 ^ 16) x3 (by omega) (by omega)
  rw [show ((2 ^ 8 : Nat) : Int) = 256 by decide] at h1
  rw [show ((2 ^ 16 : Nat) : Int) = 65536 by decide] at h2
  rw [show ((2 ^ 24 : Nat) : Int) = 16777216 by decide] at h3
  rw [h1, h2, h3]
  congr 1
  omega
theorem part_arr {w : World} {base g n c i e : Nat} {ys : List UInt8} (h : Own byteV 5 w base (.slice (some ⟨g, 0, none⟩) n c) ys) (hl : ys.length = n) (hn : n ≤ 900) (hc : n ≤ c) (he : 1 ≤ e) (hie : i + e ≤ n) : Bytes w w.heap.size (some ⟨g, i, none⟩) e ((ys.drop i).take e) := by
  have h1 := ((h.arr (by omega)).drop (l := i) (by omega) hc).take (k := e) (by omega)
  rw [cutA, if_neg (by omega), Option.map_some, Addr.add_mid, Nat.zero_add] at h1
  exact h1
theorem chunk_take {xs cs : List UInt8} {n k j e : Nat} (hl : xs.length = n) (ho : (Ecc.outTo xs cs k j).length = n) (hj : k * j < n) (he : e = min k (n - k * j)) : ((Ecc.outTo xs cs k j).drop (k * j)).take e = Ecc.chunk xs k j := by
  rw [← Ecc.chunk_outTo xs cs k j (by omega)]
  by_cases h9 : n - k * j ≤ k
  · rw [he, Nat.min_eq_right h9, List.take_of_length_le (by rw [List.length_drop]; omega), List.take_of_length_le (by rw [List.length_drop]; omega)]
  · rw [he, Nat.min_eq_left (by omega)]
theorem look_quiet (a : Option Addr) (n c : Nat) (xs : List UInt8) (C : Nat) (K1 K2 : Int) (W : World) (hK1 : K1 = (Ecc.lookE xs C).1) (hK2 : K2 = (Ecc.lookE xs C).2) (hx : Bytes W W.heap.size a n xs) (hn : n ≤ 4096) (hC : C < 4294967296) :
    Calls Try.prog 30 #[.slice a n c, .int .u32 C] W fun e w' => e = .returned (.tuple #[.int .i64 K1, .int .i64 K2]) ∧ ∃ m, w' = W.drewN m := by
  subst hK1 hK2
  exact (lookE_calls a n c xs C W hx hn hC).mono fun e w' ⟨he, hw⟩ => ⟨he, 1, hw.symm⟩
theorem Own.farLow {α : Type} {f : α → Value} {e : TypeId} {w : World} {base : Nat} {v : Value} {xs : List α} (h : Own f e w base v xs) {p : Addr} (hp : p.block < base) (u : Value) : Own f e (w.setCell p u) base v xs :=
  h.far (fun he => by have := (h.blockLt _ he).1; omega) u
theorem cntV_succ {xs cs : List UInt8} {k j q : Nat} (hq : q < 4) (h : Ecc.kind (Ecc.chunk xs k j) (Ecc.codeAt cs j) = q) : cntV xs cs k (j + 1) = (cntV xs cs k j).setIfInBounds q (.int .i64 ((Ecc.cnt xs cs k q j : Nat) + 1 : Int)) := by
  have hs : ∀ r, Ecc.cnt xs cs k r (j + 1) = if r = q then Ecc.cnt xs cs k r j + 1 else Ecc.cnt xs cs k r j := fun r => by
    rw [Ecc.cnt, h]
    by_cases e : q = r
    · rw [if_pos e, if_pos e.symm]
    · rw [if_neg e, if_neg (fun e2 => e e2.symm)]
  unfold cntV
  rw [hs 0, hs 1, hs 2, hs 3]
  rcases (by omega : q = 0 ∨ q = 1 ∨ q = 2 ∨ q = 3) with rfl | rfl | rfl | rfl <;> simp
theorem cntV_at {xs cs : List UInt8} {k j q : Nat} (hq : q < 4) : (cntV xs cs k j)[q]? = some (.int .i64 (Ecc.cnt xs cs k q j : Nat)) := by
  unfold cntV
  rcases (by omega : q = 0 ∨ q = 1 ∨ q = 2 ∨ q = 3) with rfl | rfl | rfl | rfl <;> rfl
set_option maxHeartbeats 2000000 in
theorem mendAll_good (a : Option Addr) (n c k : Nat) (a2 : Option Addr) (n2 c2 : Nat) (xs cs : List UInt8) (w : World) (hx : Bytes w w.heap.size a n xs) (hy : Bytes w w.heap.size a2 n2 cs) (hn : n ≤ 900) (hnc : n ≤ c) (hc : c ≤ 140737488351232) (hnc2 : n2 ≤ c2)
    (h1 : 1 ≤ k) (h2 : k ≤ 4096) (h3 : n2 = 4 * Ecc.blks n k) :
    Calls Try.prog 21 #[.slice a n c, .int .i64 k, .slice a2 n2 c2] w (MaR (Ecc.fixedTo xs cs k (Ecc.blks n k)) (Ecc.cnt xs cs k 0 (Ecc.blks n k)) (Ecc.cnt xs cs k 1 (Ecc.blks n k)) (Ecc.cnt xs cs k 2 (Ecc.blks n k)) (Ecc.cnt xs cs k 3 (Ecc.blks n k)) 0 w) := by
  have hr := Lib.hid (fun w => rows_good a n c k w hn h1 h2)
  have hmn := Ecc.blks_le (l := n) h1
  have HX := Lib.hid hx
  have HY := Lib.hid hy
  have HLX := Lib.hid hx.len
  have HLY := Lib.hid hy.len
  have HLT := Lib.hid (fun j => Ecc.lt_blks (l := n) (n := k) (j := j) h1)
  have HEND := Lib.hid (Ecc.blks_end (l := n) h1)
  generalize Ecc.blks n k = m at *
  subst h3
  clear hx hy
  go_enter Try.func21, Try.ntmps21
  go_wp2_with fail
  refine (hr.out _).mono ?_
  rintro e w' ⟨rfl, rfl⟩
  have hb0 := (Below.refl w.heap.size w).alloc (Nat.le_refl _) (.cells #[.int .i64 0, .int .i64 0, .int .i64 0, .int .i64 0] 43)
  have B0 := Lib.hid (Blk.new w 43 #[.int .i64 0, .int .i64 0, .int .i64 0, .int .i64 0])
  have HX0 := Lib.hid (HX.out.on hb0)
  have HB0 := Lib.hid hb0
  clear hb0
  go_wp2_with fail
  refine (clone_calls a n c xs _ HX0.out).mono ?_
  rintro e w1 ⟨⟨v1, rfl, ho⟩, hb⟩
  obtain ⟨a1, c1, rfl, hc1⟩ := ho.formN HLX.out
  have hs1 := hb.size
  simp only [World.size_alloc] at hs1
  have B1 := Lib.hid (B0.out.belowHere hb)
  have HB1 := Lib.hid (HB0.out.then_ hb)
  have HO1 := Lib.hid (show Own byteV 5 w1 (w.heap.size + 1) (.slice a1 n c1) xs by simpa using ho)
  clear ho hb B0 HX0 HB0
  have D2 := Lib.hid (Blk.new w1 72 #[.int .i64 0, .int .i64 0, .int .i64 0, .int .i64 0])
  have hb2 := (Below.refl w1.heap.size w1).alloc (Nat.le_refl _) (.cells #[.int .i64 0, .int .i64 0, .int .i64 0, .int .i64 0] 72)
  have B2 := Lib.hid (B1.out.belowHere hb2)
  have HB2 := Lib.hid (HB1.out.then_ hb2)
  have HO2 := Lib.hid (HO1.out.on hb2)
  have hs2 : (w1.alloc (.cells #[.int .i64 0, .int .i64 0, .int .i64 0, .int .i64 0] 72)).heap.size = w1.heap.size + 1 := by simp
  clear hb2 B1 HB1 HO1
  go_wp2_with fail
  generalize w1.alloc (.cells #[.int .i64 0, .int .i64 0, .int .i64 0, .int .i64 0] 72) = W2 at *
  generalize w1.heap.size = D at *
  go_loopw [13, 14, 15, 16, 17, 37] (fun _ _ _ _ _ i wr => ∃ j : Nat, j ≤ m ∧ i = .int .i64 j ∧ Own byteV 5 wr (w.heap.size + 1) (.slice a1 n c1) (Ecc.outTo xs cs k j) ∧ Blk wr D 72 (cntV xs cs k j) ∧ Blk wr w.heap.size 43 #[.int .i64 0, .int .i64 0, .int .i64 0, .int .i64 0] ∧ Below w.heap.size w wr ∧ D < wr.heap.size) (fun _ _ _ _ _ i _ => m - (intOf i).toNat)
  case atStart => exact ⟨0, by omega, rfl, by rw [Ecc.outTo_zero]; exact HO2.out, D2.out, B2.out, HB2.out, by omega⟩
  case round =>
    obtain ⟨j, hj, rfl, ho, hd, hb0, hbel, hDs⟩ := hrel
    have HO := Lib.hid ho
    have HDn := Lib.hid hd
    have HB0 := Lib.hid hb0
    have HBel := Lib.hid hbel
    clear ho hd hb0 hbel
    by_cases hlt : j < m
    · have hkj := (HLT.out j).1 hlt
      have hxl : (Ecc.outTo xs cs k j).length = n := by rw [Ecc.outTo_len xs cs k j (fun i hi => by rw [HLX.out]; exact (HLT.out i).1 (by omega)), HLX.out]
      obtain ⟨g, rfl, hgb, hgl⟩ := HO.out.addr (by rw [hxl]; omega)
      obtain ⟨b2, o2, _, rfl, _, _⟩ := HY.out.atv (k := 0) (by omega)
      obtain ⟨i, hi⟩ : ∃ i, i = k * j := ⟨_, rfl⟩
      obtain ⟨e, he⟩ : ∃ e, e = min k (n - i) := ⟨_, rfl⟩
      rw [← hi] at hkj
      have he1 : 1 ≤ e ∧ e ≤ 4096 := by omega
      have hie : i + e ≤ n := by omega
      have q0 : (j : Int) * (k : Int) = (i : Int) := by rw [hi, Nat.mul_comm, Int.natCast_mul]
      have q1 : IntKind.i64.wrap ((j : Int) * (k : Int)) = (i : Int) := by rw [q0]; exact IntWalk.i64_in _ ⟨by omega, by omega⟩
      have q2 : IntKind.i64.wrap ((i : Int) + (k : Int)) = (i : Int) + (k : Int) := IntWalk.i64_in _ ⟨by omega, by omega⟩
      have q3 : (if (i : Int) + (k : Int) < (n : Int) then (i : Int) + (k : Int) else (n : Int)) = (i : Int) + (e : Int) := by split <;> omega
      have q4 : IntKind.i64.wrap (4 * (j : Int)) = 4 * (j : Int) := IntWalk.i64_in _ ⟨by omega, by omega⟩
      have hcut1 := cutB_mid (some ⟨g, 0, none⟩) n c1 i (i + e) (by omega) (by omega)
      rw [cutA, if_neg (by omega), Option.map_some, Addr.add_mid, Nat.zero_add, Nat.add_sub_cancel_left, Int.natCast_add] at hcut1
      have hcut2 := cutB_from (some ⟨b2, o2, none⟩) (4 * m) c2 (4 * j) (by omega)
      rw [cutA, if_neg (by omega), Option.map_some, Addr.add_mid, Int.natCast_mul, show ((4 : Nat) : Int) = 4 from rfl] at hcut2
      obtain ⟨n3, hn3⟩ : ∃ n3, n3 = 4 * m - 4 * j := ⟨_, rfl⟩
      obtain ⟨c3, hc3⟩ : ∃ c3, c3 = c2 - 4 * j := ⟨_, rfl⟩
      obtain ⟨p, hp⟩ : ∃ p, p = o2 + 4 * j := ⟨_, rfl⟩
      rw [← hn3, ← hc3, ← hp] at hcut2
      have n30 : 0 < n3 := by omega
      have n31 : (1 : Int) < (n3 : Int) := by omega
      have n32 : (2 : Int) < (n3 : Int) := by omega
      have n33 : (3 : Int) < (n3 : Int) := by omega
      have HP := Lib.hid hp
      have HI := Lib.hid hi
      have HE := Lib.hid he
      clear hi he hn3 hc3 hp
      go_wp2_with fail
      go_quiet (fail)
      clear hcut1 hcut2 q0 q1 q2 q3 q4
      have HO3 := Lib.hid (HO.out.on (below_drewN wr nq))
      have HD3 := Lib.hid (HDn.out.drewN nq)
      have HB3 := Lib.hid (HB0.out.drewN nq)
      have HBel3 := Lib.hid (HBel.out.trans (below_drewN wr nq))
      have hDs3 : D < (wr.drewN nq).heap.size := hDs
      have hgl3 : g < (wr.drewN nq).heap.size := hgl
      clear HO HDn HB0 HBel hDs hgl
      generalize wr.drewN nq = w3 at *
      have HYr := HY.out.on HBel3.out
      obtain ⟨b0', o0', l0, ea0, _, y0⟩ := HYr.at_ (k := 4 * j) (by omega)
      obtain ⟨b1', o1', l1, ea1, _, y1⟩ := HYr.at_ (k := 4 * j + 1) (by omega)
      obtain ⟨b2', o2', l2, ea2, _, y2⟩ := HYr.at_ (k := 4 * j + 2) (by omega)
      obtain ⟨b3', o3', l3, ea3, _, y3⟩ := HYr.at_ (k := 4 * j + 3) (by omega)
      simp only [Option.some.injEq, Addr.mk.injEq, and_true] at ea0 ea1 ea2 ea3
      obtain ⟨rfl, rfl⟩ := ea0
      obtain ⟨rfl, rfl⟩ := ea1
      obtain ⟨rfl, rfl⟩ := ea2
      obtain ⟨rfl, rfl⟩ := ea3
      simp only [← Nat.add_assoc] at y1 y2 y3
      rw [← HP.out] at y0 y1 y2 y3
      have hcode := codeAt_or (cs := cs) (j := j) l3
      have z0 := cs[4 * j].toNat_lt
      have z1 := cs[4 * j + 1].toNat_lt
      have z2 := cs[4 * j + 2].toNat_lt
      have z3 := cs[4 * j + 3].toNat_lt
      generalize cs[4 * j].toNat = x0 at *
      generalize cs[4 * j + 1].toNat = x1 at *
      generalize cs[4 * j + 2].toNat = x2 at *
      generalize cs[4 * j + 3].toNat = x3 at *
      have hor := or_chain x0 x1 x2 x3 z0 z1 z2 z3
      rw [← hcode] at hor
      have hcl := Ecc.codeAt_lt cs j
      have HCK := Lib.hid (chunk_take (e := e) HLX.out hxl (by rw [← HI.out]; exact hkj) (by rw [← HI.out]; exact HE.out))
      have hcl2 : (Ecc.chunk xs k j).length = e := by have h := Ecc.chunk_len xs k j; rw [HLX.out, ← HI.out, ← HE.out] at h; exact h
      have HM := Lib.hid (Ecc.mends (Ecc.chunk xs k j) (Ecc.codeAt cs j) (by omega) (by omega))
      obtain ⟨K1, hK1⟩ : ∃ K, K = (Ecc.lookE (Ecc.chunk xs k j) (Ecc.codeAt cs j)).1 := ⟨_, rfl⟩
      obtain ⟨K2, hK2⟩ : ∃ K, K = (Ecc.lookE (Ecc.chunk xs k j) (Ecc.codeAt cs j)).2 := ⟨_, rfl⟩
      have HLK := Lib.hid (fun W hW => look_quiet (some ⟨g, i, none⟩) e (c1 - i) (Ecc.chunk xs k j) (Ecc.codeAt cs j) K1 K2 W hK1 hK2 hW (by omega) hcl)
      have HPA := Lib.hid (fun W (hW : Own byteV 5 W (w.heap.size + 1) (.slice (some ⟨g, 0, none⟩) n c1) (Ecc.outTo xs cs k j)) => part_arr (i := i) (e := e) hW hxl hn hc1 he1.1 hie)
      obtain ⟨Cd, hCd⟩ : ∃ C, C = Ecc.codeAt cs j := ⟨_, rfl⟩
      rw [← hCd] at hor HLK
      have HK1 := Lib.hid hK1
      have HK2 := Lib.hid hK2
      have HXL := Lib.hid hxl
      have HCL2 := Lib.hid hcl2
      clear hcode HYr l0 l1 l2 l3 hCd hK1 hK2 hxl hcl2 hcl
      have w0 : IntKind.u32.wrap (x0 : Int) = x0 := IntWalk.u32_in _ ⟨by omega, by omega⟩
      have w1' : IntKind.u32.wrap (x1 : Int) = x1 := IntWalk.u32_in _ ⟨by omega, by omega⟩
      have w2' : IntKind.u32.wrap (x2 : Int) = x2 := IntWalk.u32_in _ ⟨by omega, by omega⟩
      have w3' : IntKind.u32.wrap (x3 : Int) = x3 := IntWalk.u32_in _ ⟨by omega, by omega⟩
      have w4' : IntKind.u32.wrap ((x1 : Int) * 256) = (x1 : Int) * 256 := IntWalk.u32_in _ ⟨by omega, by omega⟩
      have w5' : IntKind.u32.wrap ((x2 : Int) * 65536) = (x2 : Int) * 65536 := IntWalk.u32_in _ ⟨by omega, by omega⟩
      have w6' : IntKind.u32.wrap ((x3 : Int) * 16777216) = (x3 : Int) * 16777216 := IntWalk.u32_in _ ⟨by omega, by omega⟩
      go_wp2_with fail
      go_quiet ((go_at_call 30; refine Calls.quiet_of (HLK.out _ ?_); rw [← HCK.out, ← HI.out]; exact HPA.out _ (HO3.out.on (below_drewN _ _))))
      clear hor y0 y1 y2 y3 w0 w1' w2' w3' w4' w5' w6'
      have HO4 := Lib.hid (HO3.out.on (below_drewN w3 nq))
      have HD4 := Lib.hid (HD3.out.drewN nq)
      have HB4 := Lib.hid (HB3.out.drewN nq)
      have HBel4 := Lib.hid (HBel3.out.trans (below_drewN w3 nq))
      have hDs4 : D < (w3.drewN nq).heap.size := hDs3
      have hgl4 : g < (w3.drewN nq).heap.size := hgl3
      clear HO3 HD3 HB3 HBel3 hDs3 hgl3
      generalize w3.drewN nq = w4 at *
      rcases HM.out with ⟨hk, hl, _, hf⟩ | ⟨hk, hl, _, hf⟩ | ⟨bt, hbt, hk, hl, _, hf⟩ | ⟨_, _, hk, hl, _, hf⟩
      · obtain rfl : K1 = 0 := by have h := HK1.out; rw [hl] at h; exact h
        obtain rfl : K2 = 0 := by have h := HK2.out; rw [hl] at h; exact h
        have HSO := Lib.hid (Ecc.outTo_same hf)
        have HSC := Lib.hid (cntV_succ (xs := xs) (cs := cs) (k := k) (j := j) (q := 0) (by omega) hk)
        have hcnt := Ecc.cnt_le xs cs k 0 j
        have cq := HD4.out.cellv (cntV_at (q := 0) (by omega))
        have fq := HD4.out.frozen 0
        generalize Ecc.cnt xs cs k 0 j = Qn at *
        clear hl hk hf
        go_wp2
        go_roundw
        case rel => exact ⟨j + 1, by omega, by go_num, by rw [HSO.out]; exact HO4.out.far (p := ⟨D, 0, none⟩) (Blk.notOwn HO4.out HD4.out (by decide)) _, by rw [HSC.out]; exact HD4.out.set 0 _, HB4.out.far (by simp; omega) _, HBel4.out.setCell (p := ⟨D, 0, none⟩) (by simp; omega) _, by simp; omega⟩
        case measure => simp [intOf]; omega
      · obtain rfl : K1 = 2 := by have h := HK1.out; rw [hl] at h; exact h
        obtain rfl : K2 = 0 := by have h := HK2.out; rw [hl] at h; exact h
        have HSO := Lib.hid (Ecc.outTo_same hf)
        have HSC := Lib.hid (cntV_succ (xs := xs) (cs := cs) (k := k) (j := j) (q := 2) (by omega) hk)
        have hcnt := Ecc.cnt_le xs cs k 2 j
        have cq := HD4.out.cellv (cntV_at (q := 2) (by omega))
        have fq := HD4.out.frozen 2
        generalize Ecc.cnt xs cs k 2 j = Qn at *
        clear hl hk hf
        go_wp2
        go_roundw
        case rel => exact ⟨j + 1, by omega, by go_num, by rw [HSO.out]; exact HO4.out.far (p := ⟨D, 2, none⟩) (Blk.notOwn HO4.out HD4.out (by decide)) _, by rw [HSC.out]; exact HD4.out.set 2 _, HB4.out.far (by simp; omega) _, HBel4.out.setCell (p := ⟨D, 2, none⟩) (by simp; omega) _, by simp; omega⟩
        case measure => simp [intOf]; omega
      · obtain rfl : K1 = 1 := by have h := HK1.out; rw [hl] at h; exact h
        obtain rfl : K2 = (bt : Int) := by have h := HK2.out; rw [hl] at h; exact h
        have HSC := Lib.hid (cntV_succ (xs := xs) (cs := cs) (k := k) (j := j) (q := 1) (by omega) hk)
        have hcnt := Ecc.cnt_le xs cs k 1 j
        have cq := HD4.out.cellv (cntV_at (q := 1) (by omega))
        have fq := HD4.out.frozen 1
        have HTn := Lib.hid (Ecc.outTo_turn (by rw [HLX.out, ← HI.out]; omega) hbt hf)
        rw [HCL2.out] at hbt
        generalize Ecc.cnt xs cs k 1 j = Qn at *
        have HO5 := Lib.hid (HO4.out.far (p := ⟨D, 1, none⟩) (Blk.notOwn HO4.out HD4.out (by decide)) (.int .i64 ((Qn : Int) + 1)))
        have HD5 := Lib.hid (HD4.out.set 1 (.int .i64 ((Qn : Int) + 1)))
        have HB5 := Lib.hid (HB4.out.far (p := ⟨D, 1, none⟩) (by simp; omega) (.int .i64 ((Qn : Int) + 1)))
        have HBel5 := Lib.hid (HBel4.out.setCell (p := ⟨D, 1, none⟩) (by simp; omega) (.int .i64 ((Qn : Int) + 1)))
        have hk8 : i + bt / 8 < (Ecc.outTo xs cs k j).length := by rw [HXL.out]; omega
        obtain ⟨hcl, hfr⟩ := HO5.out.cellg hk8
        have HFl := Lib.hid (flipAt_calls g i e (c1 - i) ((Ecc.outTo xs cs k j)[i + bt / 8]) bt _ hcl hfr (by omega) hbt)
        clear hl hk hf hcl hfr
        have HV := Lib.hid (show (Ecc.outTo xs cs k j).getD (i + bt / 8) 0 = (Ecc.outTo xs cs k j)[i + bt / 8] by rw [List.getD_eq_getElem?_getD, List.getElem?_eq_getElem hk8]; rfl)
        go_wp2_with fail
        refine HFl.out.mono ?_
        rintro _ w6 ⟨rfl, hw6⟩
        rw [← HI.out, HV.out] at HTn
        generalize (Ecc.outTo xs cs k j)[i + bt / 8] ^^^ UInt8.ofNat (2 ^ (bt % 8)) = NB at *
        have hne : g ≠ D := fun e => Blk.notOwn HO4.out HD4.out (by decide) (congrArg some e)
        have HO6 := Lib.hid (show Own byteV 5 w6 (w.heap.size + 1) (.slice (some ⟨g, 0, none⟩) n c1) (Ecc.outTo xs cs k (j + 1)) by rw [hw6, HTn.out]; exact HO5.out.drew.set (i + bt / 8) NB)
        have HD6 := Lib.hid (show Blk w6 D 72 (cntV xs cs k (j + 1)) by rw [hw6, HSC.out]; exact HD5.out.drew.far (fun e => hne e.symm) _)
        have HB6 := Lib.hid (show Blk w6 w.heap.size 43 _ by rw [hw6]; exact HB5.out.drew.far (by simp; omega) _)
        have HBel6 := Lib.hid (show Below w.heap.size w w6 by rw [hw6]; exact HBel5.out.drew.setCell (p := ⟨g, i + bt / 8, none⟩) (by simp; omega) _)
        have hDs6 : D < w6.heap.size := by rw [hw6]; simp; exact hDs4
        clear hw6
        go_wp2
        go_roundw
        case rel => exact ⟨j + 1, by omega, by go_num, HO6.out, HD6.out, HB6.out, HBel6.out, hDs6⟩
        case measure => simp [intOf]; omega
      · obtain rfl : K1 = 3 := by have h := HK1.out; rw [hl] at h; exact h
        obtain rfl : K2 = 0 := by have h := HK2.out; rw [hl] at h; exact h
        have HSO := Lib.hid (Ecc.outTo_same hf)
        have HSC := Lib.hid (cntV_succ (xs := xs) (cs := cs) (k := k) (j := j) (q := 3) (by omega) hk)
        have hcnt := Ecc.cnt_le xs cs k 3 j
        have cq := HD4.out.cellv (cntV_at (q := 3) (by omega))
        have fq := HD4.out.frozen 3
        generalize Ecc.cnt xs cs k 3 j = Qn at *
        clear hl hk hf
        go_wp2
        go_roundw
        case rel => exact ⟨j + 1, by omega, by go_num, by rw [HSO.out]; exact HO4.out.far (p := ⟨D, 3, none⟩) (Blk.notOwn HO4.out HD4.out (by decide)) _, by rw [HSC.out]; exact HD4.out.set 3 _, HB4.out.far (by simp; omega) _, HBel4.out.setCell (p := ⟨D, 3, none⟩) (by simp; omega) _, by simp; omega⟩
        case measure => simp [intOf]; omega
    · obtain rfl : j = m := by omega
      have HFin := Lib.hid (Ecc.outTo_end xs cs k j (by rw [HLX.out]; exact HEND.out))
      have hxl : (Ecc.outTo xs cs k j).length = n := by rw [Ecc.outTo_len xs cs k j (fun i hi => by rw [HLX.out]; exact (HLT.out i).1 hi), HLX.out]
      have HXL := Lib.hid hxl
      clear hxl
      go_wp2_with fail
      refine wp_region_noPanic ?_
      refine wp_region_held_drew (S := (fun W' => Blk W' D 72 (cntV xs cs k j))) (by kernel_rfl) HDn.out.drew (fun hS0 => ?_)
      refine takeV 0 (v := .slice a1 n c1) rfl (by kernel_rfl) (by kernel_rfl) (by kernel_rfl) (fun _ _ _ h => h) (by rfl) (fun _ _ => rfl) (by assumption) ?_
      try simp only [layR]
      refine takeV 1 (v := .pointer (some ⟨D, 0, none⟩)) rfl (by kernel_rfl) (by kernel_rfl) (by kernel_rfl) (fun _ _ _ h => h) (by rfl) (fun _ _ => rfl) (by assumption) ?_
      try simp only [layR]
      refine takeV 2 (v := .int .i64 (Ecc.cnt xs cs k 0 j : Nat)) rfl (by kernel_rfl) (by kernel_rfl) (by kernel_rfl) (fun _ _ _ h => h) (by rfl) (fun W hSw => ?_) (by assumption) ?_
      · have r := Blk.cellv hSw (cntV_at (q := 0) (by omega))
        go_simp
      try simp only [layR]
      refine takeV 3 (v := .pointer (some ⟨D, 1, none⟩)) rfl (by kernel_rfl) (by kernel_rfl) (by kernel_rfl) (fun _ _ _ h => h) (by rfl) (fun _ _ => rfl) (by assumption) ?_
      try simp only [layR]
      refine takeV 4 (v := .int .i64 (Ecc.cnt xs cs k 1 j : Nat)) rfl (by kernel_rfl) (by kernel_rfl) (by kernel_rfl) (fun _ _ _ h => h) (by rfl) (fun W hSw => ?_) (by assumption) ?_
      · have r := Blk.cellv hSw (cntV_at (q := 1) (by omega))
        go_simp
      try simp only [layR]
      refine takeV 5 (v := .pointer (some ⟨D, 2, none⟩)) rfl (by kernel_rfl) (by kernel_rfl) (by kernel_rfl) (fun _ _ _ h => h) (by rfl) (fun _ _ => rfl) (by assumption) ?_
      try simp only [layR]
      refine takeV 6 (v := .int .i64 (Ecc.cnt xs cs k 2 j : Nat)) rfl (by kernel_rfl) (by kernel_rfl) (by kernel_rfl) (fun _ _ _ h => h) (by rfl) (fun W hSw => ?_) (by assumption) ?_
      · have r := Blk.cellv hSw (cntV_at (q := 2) (by omega))
        go_simp
      try simp only [layR]
      refine takeV 7 (v := .pointer (some ⟨D, 3, none⟩)) rfl (by kernel_rfl) (by kernel_rfl) (by kernel_rfl) (fun _ _ _ h => h) (by rfl) (fun _ _ => rfl) (by assumption) ?_
      try simp only [layR]
      refine takeV 8 (v := .int .i64 (Ecc.cnt xs cs k 3 j : Nat)) rfl (by kernel_rfl) (by kernel_rfl) (by kernel_rfl) (fun _ _ _ h => h) (by rfl) (fun W hSw => ?_) (by assumption) ?_
      · have r := Blk.cellv hSw (cntV_at (q := 3) (by omega))
        go_simp
      try simp only [layR]
      refine takeV 9 (v := .agg #[.int .i64 (Ecc.cnt xs cs k 0 j : Nat), .int .i64 (Ecc.cnt xs cs k 1 j : Nat), .int .i64 (Ecc.cnt xs cs k 2 j : Nat), .int .i64 (Ecc.cnt xs cs k 3 j : Nat)]) rfl (by kernel_rfl) (by kernel_rfl) (by kernel_rfl) (fun _ _ _ h => h) (by rfl) (fun W hSw => ?_) (by assumption) ?_
      · go_simp
      try simp only [layR]
      refine takeV 10 (v := .slice a1 n c1) rfl (by kernel_rfl) (by kernel_rfl) (by kernel_rfl) (fun _ _ _ h => h) (by rfl) (fun _ _ => rfl) (by assumption) ?_
      try simp only [layR]
      have hbz := HB0.out.drew
      have e0 := hbz.cellv (i := 0) rfl
      have e1 := hbz.cellv (i := 1) rfl
      have e2 := hbz.cellv (i := 2) rfl
      have e3 := hbz.cellv (i := 3) rfl
      have f0 := hbz.frozen 0
      have f1 := hbz.frozen 1
      have f2 := hbz.frozen 2
      have f3 := hbz.frozen 3
      have HB6 := Lib.hid hbz
      have HBel6 := Lib.hid HBel.out.drew
      have HO6 := Lib.hid HO.out.drew
      have HS0 := Lib.hid (show Blk wr.drew D 72 (cntV xs cs k j) from hS0)
      clear hS0
      have hS0 := HS0.out
      have hsz : w.heap.size < wr.drew.heap.size := hbz.lt
      clear hbz
      generalize wr.drew = w6 at *
      generalize Ecc.cnt xs cs k 0 j = C0 at *
      generalize Ecc.cnt xs cs k 1 j = C1 at *
      generalize Ecc.cnt xs cs k 2 j = C2 at *
      generalize Ecc.cnt xs cs k 3 j = C3 at *
      refine wpAnyH_ready (rs := [11]) (by kernel_rfl) (by simp) ?_
      refine AllReadyH.cons rfl (fun K' hK => ?_) AllReadyH.nil
      go_simp
      have hne : D ≠ w.heap.size := by omega
      refine hK.out _ _ ((((HS0.out.far (p := ⟨w.heap.size, 0, none⟩) hne _).far (p := ⟨w.heap.size, 1, none⟩) hne _).far (p := ⟨w.heap.size, 2, none⟩) hne _).far (p := ⟨w.heap.size, 3, none⟩) hne _) (fun hS1 => ?_)
      try simp only [layR]
      refine takeV 12 (v := .int .i64 0) rfl (by kernel_rfl) (by kernel_rfl) (by kernel_rfl) (fun _ _ _ h => h) (by rfl) (fun _ _ => rfl) (by assumption) ?_
      try simp only [layR]
      refine wpAnyH_done (by kernel_rfl) ?_ _
      refine NoPanic.normal ?_
      have hfin := (((HB6.out.set 0 (.int .i64 C0)).set 1 (.int .i64 C1)).set 2 (.int .i64 C2)).set 3 (.int .i64 C3)
      have hown := (((HO6.out.farLow (p := ⟨w.heap.size, 0, none⟩) (by simp) (.int .i64 C0)).farLow (p := ⟨w.heap.size, 1, none⟩) (by simp) (.int .i64 C1)).farLow (p := ⟨w.heap.size, 2, none⟩) (by simp) (.int .i64 C2)).farLow (p := ⟨w.heap.size, 3, none⟩) (by simp) (.int .i64 C3)
      have hbb := (((HBel6.out.setCell (p := ⟨w.heap.size, 0, none⟩) (Nat.le_refl _) (.int .i64 C0)).setCell (p := ⟨w.heap.size, 1, none⟩) (Nat.le_refl _) (.int .i64 C1)).setCell (p := ⟨w.heap.size, 2, none⟩) (Nat.le_refl _) (.int .i64 C2)).setCell (p := ⟨w.heap.size, 3, none⟩) (Nat.le_refl _) (.int .i64 C3)
      generalize (((w6.setCell _ _).setCell _ _).setCell _ _).setCell _ _ = w7 at *
      rw [HFin.out] at hown
      have z0 := hfin.cellv (i := 0) rfl
      have z1 := hfin.cellv (i := 1) rfl
      have z2 := hfin.cellv (i := 2) rfl
      have z3 := hfin.cellv (i := 3) rfl
      have HOw := Lib.hid hown
      have HBb := Lib.hid hbb
      clear hfin hown hbb e0 e1 e2 e3 f0 f1 f2 f3
      go_wp2
      refine bodyPost_ret (v := .tuple #[.slice a1 n c1, .agg #[.int .i64 C0, .int .i64 C1, .int .i64 C2, .int .i64 C3], .int .i64 0]) (by simp [results, Try.results21, go_sem, z0, z1, z2, z3]) rfl ?_
      exact ⟨a1, n, c1, rfl, HOw.out.arr (by rw [← HFin.out, HXL.out]; omega), HBb.out⟩
end Go.Proofs.Ytceoogpmcijlaaa
