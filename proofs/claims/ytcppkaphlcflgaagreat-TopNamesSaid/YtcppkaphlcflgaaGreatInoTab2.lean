import Derived.Test.YtcppkaphlcflgaaGreatInoPoint2
import Derived.Test.YtcppkaphlcflgaaGreatDirCopy2
namespace Go.Proofs.YtcppkaphlcflgaaGreat
open Lib (hid)
set_option maxRecDepth 100000
set_option maxHeartbeats 16000000
section
open Go.RowKit

theorem read_wrong (a : Option Addr) (n c : Nat) (w : World) (h : n ≠ 24) :
  Calls Tryz.prog 105 #[.slice a n c] w fun e w' => e = .returned (.tuple #[nodV Nod.zero, .int .i64 1]) ∧ Below w.heap.size w w' := by
 have h1 : ((n : Int) != 24) = true := by rw [bne_iff_ne]; omega
 go_enter Tryz.func105, Tryz.ntmps105
 go_wp2
 refine bodyPost_ret (v := .tuple #[nodV Nod.zero, .int .i64 1]) (by simp [results, Tryz.results105, go_sem, nodV, Nod.zero]) rfl ⟨rfl, ?_⟩
 exact (Below.refl _ _).alloc (Nat.le_refl _) _
theorem nodOne (i : Nod) : (#[.int .i64 i.k, .int .i64 i.l, .int .i64 i.s, .int .i64 i.d0, .int .i64 i.d1, .int .i64 i.d2, .int .i64 i.d3, .int .i64 i.d4, .int .i64 i.d5, .int .i64 i.a, .int .i64 i.b] : Array Value).all (·.oneCell') = true := by simp [Value.oneCell']
theorem nodInfo : (Tryz.prog.info? 35).map (·.size) = some 11 := by kernel_rfl
def dirCells (K L S : Nat) (D : Nat → Nat) (m : Nat) : Array Value :=
 #[.int .i64 K, .int .i64 L, .int .i64 S, .int .i64 (if 0 < m then (D 0 : Int) else 0), .int .i64 (if 1 < m then (D 1 : Int) else 0), .int .i64 (if 2 < m then (D 2 : Int) else 0), .int .i64 (if 3 < m then (D 3 : Int) else 0), .int .i64 (if 4 < m then (D 4 : Int) else 0), .int .i64 (if 5 < m then (D 5 : Int) else 0), .int .i64 0, .int .i64 0]
theorem read_right (a : Option Addr) (c : Nat) (xs : List UInt8) (w : World) (hx : Bytes w w.heap.size a 24 xs) (hc : 24 ≤ c) :
  Calls Tryz.prog 105 #[.slice a 24 c] w fun e w' => e = .returned (.tuple #[nodV (Nod.readN xs), .int .i64 (Nod.readE xs)]) ∧ Below w.heap.size w w' := by
 have hmf : ∀ (fn : Fn) (first cap : Array Value) (w : World), (Instr.makeFunc fn first cap).run Tryz.prog w = .ok (.func fn first cap) w := fun _ _ _ _ => rfl
 go_enter Tryz.func105, Tryz.ntmps105
 obtain ⟨w2, hw2⟩ : ∃ w2, w2 = (w.alloc (.cells #[.int .i64 0, .int .i64 0, .int .i64 0, .int .i64 0, .int .i64 0, .int .i64 0, .int .i64 0, .int .i64 0, .int .i64 0, .int .i64 0, .int .i64 0] 35)).alloc (.cells #[.slice a 24 c] 40) := ⟨_, rfl⟩
 have hb2 : Below w.heap.size w w2 := by rw [hw2]; exact ((Below.refl _ _).alloc (Nat.le_refl _) _).alloc (by simp) _
 have hz2 : w2.heap.size = w.heap.size + 2 := by rw [hw2]; simp
 have bg2 : Blk w2 w.heap.size 35 #[.int .i64 0, .int .i64 0, .int .i64 0, .int .i64 0, .int .i64 0, .int .i64 0, .int .i64 0, .int .i64 0, .int .i64 0, .int .i64 0, .int .i64 0] := by rw [hw2]; exact (Blk.new w _ _).alloc _
 have br2 : Blk w2 (w.heap.size + 1) 40 #[.slice a 24 c] := by
  have h := Blk.new (w.alloc (.cells #[.int .i64 0, .int .i64 0, .int .i64 0, .int .i64 0, .int .i64 0, .int .i64 0, .int .i64 0, .int .i64 0, .int .i64 0, .int .i64 0, .int .i64 0] 35)) 40 #[.slice a 24 c]
  rw [show (w.alloc (.cells #[.int .i64 0, .int .i64 0, .int .i64 0, .int .i64 0, .int .i64 0, .int .i64 0, .int .i64 0, .int .i64 0, .int .i64 0, .int .i64 0, .int .i64 0] 35)).heap.size = w.heap.size + 1 by simp] at h
  rw [hw2]; exact h
 have hx2 : Bytes w2 w.heap.size a 24 (xs.drop 0) := hx.below hb2
 have hlen := hid hx.len
 go_wp2_with fail
 rw [← hw2]
 clear hw2 hmf
 refine (take_next (w.heap.size + 1) w.heap.size a 24 c xs 1 23 0 1 w2 br2 hx2 hc (by omega) rfl rfl (by omega)).mono ?_
 rintro e w3 ⟨rfl, ht⟩
 obtain ⟨⟨a3, c3, br3, hx3, hc3⟩, far3, hz3, bel3⟩ := ht
 have bg3 := far3 (by omega) bg2
 have hb3 := hb2.trans (bel3 (by omega))
 clear far3 bel3 br2 hx2 hb2 bg2
 generalize hK : numL ((xs.drop 0).take 1) = K
 have HK := hid hK
 clear hK
 obtain ⟨w4, hw4⟩ : ∃ w4, w4 = w3.alloc (.cells #[.int .i64 K, .int .i64 0, .int .i64 0, .int .i64 0, .int .i64 0, .int .i64 0, .int .i64 0, .int .i64 0, .int .i64 0, .int .i64 0, .int .i64 0] 35) := ⟨_, rfl⟩
 have bel4 : Below w3.heap.size w3 w4 := by rw [hw4]; exact (Below.refl _ _).alloc (Nat.le_refl _) _
 have bg4 := bg3.belowHere bel4
 have br4 := br3.belowHere bel4
 have hx4 := hx3.below (bel4.mono (by omega))
 have hb4 := hb3.trans (bel4.mono (by omega))
 have hz4 : w4.heap.size = w.heap.size + 3 := by rw [hw4]; simp; omega
 have bi4 : Blk w4 w3.heap.size 35 #[.int .i64 K, .int .i64 0, .int .i64 0, .int .i64 0, .int .i64 0, .int .i64 0, .int .i64 0, .int .i64 0, .int .i64 0, .int .i64 0, .int .i64 0] := by rw [hw4]; exact Blk.new _ _ _
 clear bg3 br3 hx3 hb3 bel4
 rw [show w3.heap.size = w.heap.size + 2 by omega] at bi4
 go_wp2_with fail
 rw [← hw4]
 clear hw4
 refine (take_next (w.heap.size + 1) w.heap.size a3 23 c3 xs 1 22 1 2 w4 br4 hx4 hc3 (by omega) rfl rfl (by omega)).mono ?_
 rintro e w5 ⟨rfl, ht⟩
 obtain ⟨⟨a5, c5, br5, hx5, hc5⟩, far5, hz5, bel5⟩ := ht
 have bg5 := far5 (by omega) bg4
 have bi5 := far5 (by omega) bi4
 have hb5 := hb4.trans (bel5 (by omega))
 clear far5 bel5 br4 hx4 hb4 bg4 bi4
 generalize hgap : numL ((xs.drop 1).take 1) = gap
 have Hgap := hid hgap
 clear hgap
 go_wp2_with fail
 refine (take_next (w.heap.size + 1) w.heap.size a5 22 c5 xs 2 20 2 4 w5 br5 hx5 hc5 (by omega) rfl rfl (by omega)).mono ?_
 rintro e w6 ⟨rfl, ht⟩
 obtain ⟨⟨a6, c6, br6, hx6, hc6⟩, far6, hz6, bel6⟩ := ht
 have bg6 := far6 (by omega) bg5
 have bi6 := far6 (by omega) bi5
 have hb6 := hb5.trans (bel6 (by omega))
 clear far6 bel6 br5 hx5 hb5 bg5 bi5
 generalize hL : numL ((xs.drop 2).take 2) = L
 have HL := hid hL
 clear hL
 go_wp2_with fail
 refine (take_next (w.heap.size + 1) w.heap.size a6 20 c6 xs 4 16 4 8 w6 br6 hx6 hc6 (by omega) rfl rfl (by omega)).mono ?_
 rintro e w7 ⟨rfl, ht⟩
 obtain ⟨⟨a7, c7, br7, hx7, hc7⟩, far7, hz7, bel7⟩ := ht
 have bg7 := far7 (by omega) bg6
 have bi7 := far7 (by omega) bi6
 have hb7 := hb6.trans (bel7 (by omega))
 clear far7 bel7 br6 hx6 hb6 bg6 bi6
 generalize hS : numL ((xs.drop 4).take 4) = S
 have HS := hid hS
 clear hS
 have i1 := bi7.cellv (i := 1) rfl
 have i2 := bi7.cellv (i := 2) rfl
 have f1 := bi7.frozen 1
 have f2 := bi7.frozen 2
 go_wp2
 clear i1 i2 f1 f2
 obtain ⟨D, hD⟩ : ∃ D : Nat → Nat, ∀ j, D j = numL ((xs.drop (8 + 2 * j)).take 2) := ⟨_, fun _ => rfl⟩
 have HD := hid hD
 clear hD
 have hI := hid (show (∃ a' c', Blk ((w7.setCell ⟨w.heap.size + 2, 1, none⟩ (.int .i64 L)).setCell ⟨w.heap.size + 2, 2, none⟩ (.int .i64 S)) (w.heap.size + 1) 40 #[.slice a' (16 : Nat) c'] ∧ Bytes ((w7.setCell ⟨w.heap.size + 2, 1, none⟩ (.int .i64 L)).setCell ⟨w.heap.size + 2, 2, none⟩ (.int .i64 S)) w.heap.size a' 16 (xs.drop 8) ∧ 16 ≤ c') from
  ⟨a7, c7, (br7.far (by simp) _).far (by simp) _, hx7.below (((Below.refl _ _).setCell (by simp) _).setCell (by simp) _), hc7⟩)
 have bi8 := hid ((bi7.set 1 (.int .i64 L)).set 2 (.int .i64 S))
 have bg8 := hid ((bg7.far (p := ⟨w.heap.size + 2, 1, none⟩) (by simp) (.int .i64 L)).far (p := ⟨w.heap.size + 2, 2, none⟩) (by simp) (.int .i64 S))
 have hb8 := hid ((hb7.setCell (p := ⟨w.heap.size + 2, 1, none⟩) (by simp) (.int .i64 L)).setCell (p := ⟨w.heap.size + 2, 2, none⟩) (by simp) (.int .i64 S))
 clear br7 hx7 bi7 bg7 hb7
 go_loopw [8, 26] (fun _x i wr => ∃ m : Nat, m ≤ 6 ∧ i = .int .i64 m ∧ Blk wr (w.heap.size + 2) 35 (dirCells K L S D m) ∧ Blk wr w.heap.size 35 #[.int .i64 0, .int .i64 0, .int .i64 0, .int .i64 0, .int .i64 0, .int .i64 0, .int .i64 0, .int .i64 0, .int .i64 0, .int .i64 0, .int .i64 0] ∧
   (∃ a' c', Blk wr (w.heap.size + 1) 40 #[.slice a' (16 - 2 * m : Nat) c'] ∧ Bytes wr w.heap.size a' (16 - 2 * m) (xs.drop (8 + 2 * m)) ∧ 16 - 2 * m ≤ c') ∧ Below w.heap.size w wr ∧ wr.heap.size = w.heap.size + 3) (fun _ i _ => 6 - (intOf i).toNat)
 case atStart => exact ⟨0, by omega, rfl, bi8.out, bg8.out, hI.out, hb8.out, by simp; omega⟩
 case round =>
  obtain ⟨m, hm, rfl, bi, bg, ⟨a', c', br, hx', hc'⟩, hb, hz⟩ := hrel
  have hc := hm
  have hm' : m = 0 ∨ m = 1 ∨ m = 2 ∨ m = 3 ∨ m = 4 ∨ m = 5 ∨ m = 6 := by omega
  rcases hm' with rfl | rfl | rfl | rfl | rfl | rfl | rfl
  ·go_wp2_with fail
   refine (take_next (w.heap.size + 1) w.heap.size a' (16 - 2 * 0) c' xs 2 (16 - 2 * 1) (8 + 2 * 0) (8 + 2 * 1) wr br hx' hc' (by omega) rfl rfl (by omega)).mono ?_
   rintro e w9 ⟨rfl, ht⟩
   rw [← HD.out 0]
   obtain ⟨⟨a9, c9, br9, hx9, hc9⟩, far9, hz9, bel9⟩ := ht
   have bi9 : Blk w9 (w.heap.size + 2) 35 #[.int .i64 K, .int .i64 L, .int .i64 S, .int .i64 0, .int .i64 0, .int .i64 0, .int .i64 0, .int .i64 0, .int .i64 0, .int .i64 0, .int .i64 0] := far9 (by omega) bi
   have bg9 := far9 (by omega) bg
   have hb9 := hb.trans (bel9 (by omega))
   clear far9 bel9 bi bg br hx' hb
   have i9 := bi9.cellv (i := 3) rfl
   have f9 := bi9.frozen 3
   go_wp2
   go_roundw
   case rel => exact ⟨1, by omega, rfl, bi9.set 3 _, bg9.far (by simp) _, ⟨a9, c9, br9.far (by simp) _, hx9.below ((Below.refl _ _).setCell (by simp) _), hc9⟩, hb9.setCell (by simp) _, by simp; omega⟩
   case measure => simp [intOf]
  ·go_wp2_with fail
   refine (take_next (w.heap.size + 1) w.heap.size a' (16 - 2 * 1) c' xs 2 (16 - 2 * 2) (8 + 2 * 1) (8 + 2 * 2) wr br hx' hc' (by omega) rfl rfl (by omega)).mono ?_
   rintro e w9 ⟨rfl, ht⟩
   rw [← HD.out 1]
   obtain ⟨⟨a9, c9, br9, hx9, hc9⟩, far9, hz9, bel9⟩ := ht
   have bi9 : Blk w9 (w.heap.size + 2) 35 #[.int .i64 K, .int .i64 L, .int .i64 S, .int .i64 (D 0 : Int), .int .i64 0, .int .i64 0, .int .i64 0, .int .i64 0, .int .i64 0, .int .i64 0, .int .i64 0] := far9 (by omega) bi
   have bg9 := far9 (by omega) bg
   have hb9 := hb.trans (bel9 (by omega))
   clear far9 bel9 bi bg br hx' hb
   have i9 := bi9.cellv (i := 4) rfl
   have f9 := bi9.frozen 4
   go_wp2
   go_roundw
   case rel => exact ⟨2, by omega, rfl, bi9.set 4 _, bg9.far (by simp) _, ⟨a9, c9, br9.far (by simp) _, hx9.below ((Below.refl _ _).setCell (by simp) _), hc9⟩, hb9.setCell (by simp) _, by simp; omega⟩
   case measure => simp [intOf]
  ·go_wp2_with fail
   refine (take_next (w.heap.size + 1) w.heap.size a' (16 - 2 * 2) c' xs 2 (16 - 2 * 3) (8 + 2 * 2) (8 + 2 * 3) wr br hx' hc' (by omega) rfl rfl (by omega)).mono ?_
   rintro e w9 ⟨rfl, ht⟩
   rw [← HD.out 2]
   obtain ⟨⟨a9, c9, br9, hx9, hc9⟩, far9, hz9, bel9⟩ := ht
   have bi9 : Blk w9 (w.heap.size + 2) 35 #[.int .i64 K, .int .i64 L, .int .i64 S, .int .i64 (D 0 : Int), .int .i64 (D 1 : Int), .int .i64 0, .int .i64 0, .int .i64 0, .int .i64 0, .int .i64 0, .int .i64 0] := far9 (by omega) bi
   have bg9 := far9 (by omega) bg
   have hb9 := hb.trans (bel9 (by omega))
   clear far9 bel9 bi bg br hx' hb
   have i9 := bi9.cellv (i := 5) rfl
   have f9 := bi9.frozen 5
   go_wp2
   go_roundw
   case rel => exact ⟨3, by omega, rfl, bi9.set 5 _, bg9.far (by simp) _, ⟨a9, c9, br9.far (by simp) _, hx9.below ((Below.refl _ _).setCell (by simp) _), hc9⟩, hb9.setCell (by simp) _, by simp; omega⟩
   case measure => simp [intOf]
  ·go_wp2_with fail
   refine (take_next (w.heap.size + 1) w.heap.size a' (16 - 2 * 3) c' xs 2 (16 - 2 * 4) (8 + 2 * 3) (8 + 2 * 4) wr br hx' hc' (by omega) rfl rfl (by omega)).mono ?_
   rintro e w9 ⟨rfl, ht⟩
   rw [← HD.out 3]
   obtain ⟨⟨a9, c9, br9, hx9, hc9⟩, far9, hz9, bel9⟩ := ht
   have bi9 : Blk w9 (w.heap.size + 2) 35 #[.int .i64 K, .int .i64 L, .int .i64 S, .int .i64 (D 0 : Int), .int .i64 (D 1 : Int), .int .i64 (D 2 : Int), .int .i64 0, .int .i64 0, .int .i64 0, .int .i64 0, .int .i64 0] := far9 (by omega) bi
   have bg9 := far9 (by omega) bg
   have hb9 := hb.trans (bel9 (by omega))
   clear far9 bel9 bi bg br hx' hb
   have i9 := bi9.cellv (i := 6) rfl
   have f9 := bi9.frozen 6
   go_wp2
   go_roundw
   case rel => exact ⟨4, by omega, rfl, bi9.set 6 _, bg9.far (by simp) _, ⟨a9, c9, br9.far (by simp) _, hx9.below ((Below.refl _ _).setCell (by simp) _), hc9⟩, hb9.setCell (by simp) _, by simp; omega⟩
   case measure => simp [intOf]
  ·go_wp2_with fail
   refine (take_next (w.heap.size + 1) w.heap.size a' (16 - 2 * 4) c' xs 2 (16 - 2 * 5) (8 + 2 * 4) (8 + 2 * 5) wr br hx' hc' (by omega) rfl rfl (by omega)).mono ?_
   rintro e w9 ⟨rfl, ht⟩
   rw [← HD.out 4]
   obtain ⟨⟨a9, c9, br9, hx9, hc9⟩, far9, hz9, bel9⟩ := ht
   have bi9 : Blk w9 (w.heap.size + 2) 35 #[.int .i64 K, .int .i64 L, .int .i64 S, .int .i64 (D 0 : Int), .int .i64 (D 1 : Int), .int .i64 (D 2 : Int), .int .i64 (D 3 : Int), .int .i64 0, .int .i64 0, .int .i64 0, .int .i64 0] := far9 (by omega) bi
   have bg9 := far9 (by omega) bg
   have hb9 := hb.trans (bel9 (by omega))
   clear far9 bel9 bi bg br hx' hb
   have i9 := bi9.cellv (i := 7) rfl
   have f9 := bi9.frozen 7
   go_wp2
   go_roundw
   case rel => exact ⟨5, by omega, rfl, bi9.set 7 _, bg9.far (by simp) _, ⟨a9, c9, br9.far (by simp) _, hx9.below ((Below.refl _ _).setCell (by simp) _), hc9⟩, hb9.setCell (by simp) _, by simp; omega⟩
   case measure => simp [intOf]
  ·go_wp2_with fail
   refine (take_next (w.heap.size + 1) w.heap.size a' (16 - 2 * 5) c' xs 2 (16 - 2 * 6) (8 + 2 * 5) (8 + 2 * 6) wr br hx' hc' (by omega) rfl rfl (by omega)).mono ?_
   rintro e w9 ⟨rfl, ht⟩
   rw [← HD.out 5]
   obtain ⟨⟨a9, c9, br9, hx9, hc9⟩, far9, hz9, bel9⟩ := ht
   have bi9 : Blk w9 (w.heap.size + 2) 35 #[.int .i64 K, .int .i64 L, .int .i64 S, .int .i64 (D 0 : Int), .int .i64 (D 1 : Int), .int .i64 (D 2 : Int), .int .i64 (D 3 : Int), .int .i64 (D 4 : Int), .int .i64 0, .int .i64 0, .int .i64 0] := far9 (by omega) bi
   have bg9 := far9 (by omega) bg
   have hb9 := hb.trans (bel9 (by omega))
   clear far9 bel9 bi bg br hx' hb
   have i9 := bi9.cellv (i := 8) rfl
   have f9 := bi9.frozen 8
   go_wp2
   go_roundw
   case rel => exact ⟨6, by omega, rfl, bi9.set 8 _, bg9.far (by simp) _, ⟨a9, c9, br9.far (by simp) _, hx9.below ((Below.refl _ _).setCell (by simp) _), hc9⟩, hb9.setCell (by simp) _, by simp; omega⟩
   case measure => simp [intOf]
  ·go_wp2_with fail
   refine (take_next (w.heap.size + 1) w.heap.size a' (16 - 2 * 6) c' xs 2 2 (8 + 2 * 6) 22 wr br hx' hc' (by omega) rfl rfl (by omega)).mono ?_
   rintro e w9 ⟨rfl, ht⟩
   obtain ⟨⟨a9, c9, br9, hx9, hc9⟩, far9, hz9, bel9⟩ := ht
   have bi9 : Blk w9 (w.heap.size + 2) 35 #[.int .i64 K, .int .i64 L, .int .i64 S, .int .i64 (D 0 : Int), .int .i64 (D 1 : Int), .int .i64 (D 2 : Int), .int .i64 (D 3 : Int), .int .i64 (D 4 : Int), .int .i64 (D 5 : Int), .int .i64 0, .int .i64 0] := far9 (by omega) bi
   have bg9 := far9 (by omega) bg
   have hb9 := hb.trans (bel9 (by omega))
   clear far9 bel9 bi bg br hx' hb
   generalize hA : numL ((xs.drop (8 + 2 * 6)).take 2) = A
   have HA := hid hA
   clear hA
   go_wp2_with fail
   refine (take_next (w.heap.size + 1) w.heap.size a9 2 c9 xs 2 0 22 24 w9 br9 hx9 hc9 (by omega) rfl rfl (by omega)).mono ?_
   rintro e w10 ⟨rfl, ht⟩
   obtain ⟨⟨a10, c10, br10, hx10, hc10⟩, far10, hz10, bel10⟩ := ht
   have bi10 := far10 (by omega) bi9
   have bg10 := far10 (by omega) bg9
   have hb10 := hb9.trans (bel10 (by omega))
   clear far10 bel10 bi9 bg9 br9 hx9 hb9 br10 hx10
   generalize hE : numL ((xs.drop 22).take 2) = E
   have HE := hid hE
   clear hE
   have bi11 : Blk ((w10.setCell ⟨w.heap.size + 2, 9, none⟩ (.int .i64 A)).setCell ⟨w.heap.size + 2, 10, none⟩ (.int .i64 E)) (w.heap.size + 2) 35 #[.int .i64 K, .int .i64 L, .int .i64 S, .int .i64 (D 0 : Int), .int .i64 (D 1 : Int), .int .i64 (D 2 : Int), .int .i64 (D 3 : Int), .int .i64 (D 4 : Int), .int .i64 (D 5 : Int), .int .i64 A, .int .i64 E] := (bi10.set 9 _).set 10 _
   have bg11 := (bg10.far (p := ⟨w.heap.size + 2, 9, none⟩) (by simp) (.int .i64 A)).far (p := ⟨w.heap.size + 2, 10, none⟩) (by simp) (.int .i64 E)
   have hb11 := hid ((hb10.setCell (p := ⟨w.heap.size + 2, 9, none⟩) (by simp) (.int .i64 A)).setCell (p := ⟨w.heap.size + 2, 10, none⟩) (by simp) (.int .i64 E))
   have BI := hid bi11
   have BG := hid bg11
   have i9 := bi10.cellv (i := 9) rfl
   have i10 := bi10.cellv (i := 10) rfl
   have f9 := bi10.frozen 9
   have f10 := bi10.frozen 10
   have hraw : Nod.raw xs = ⟨K, L, S, D 0, D 1, D 2, D 3, D 4, D 5, A, E⟩ := by
    simp only [Nod.raw, HD.out, ← HK.out, ← HL.out, ← HS.out, ← HA.out, ← HE.out, List.drop_zero]
   have Hraw := hid hraw
   clear hraw bi10 bg10 hb10 bg11
   by_cases hg : gap = 0
   case neg =>
    have hrr := hid (Nod.read_bad hlen.out (fun h => hg (by rw [← Hgap.out]; exact h.1)))
    have hg' : ((gap : Int) != 0) = true := by rw [bne_iff_ne]; omega
    clear hg
    go_wp2_with (refine wpList_store_blk rfl rfl _ _ _ rfl w.heap.size #[.int .i64 0, .int .i64 0, .int .i64 0, .int .i64 0, .int .i64 0, .int .i64 0, .int .i64 0, .int .i64 0, .int .i64 0, .int .i64 0, .int .i64 0] rfl rfl 35 #[.int .i64 0, .int .i64 0, .int .i64 0, .int .i64 0, .int .i64 0, .int .i64 0, .int .i64 0, .int .i64 0, .int .i64 0, .int .i64 0, .int .i64 0] BG.out rfl nodInfo (nodOne ⟨0, 0, 0, 0, 0, 0, 0, 0, 0, 0, 0⟩) ?_)
    have q := BG.out.row #[.int .i64 0, .int .i64 0, .int .i64 0, .int .i64 0, .int .i64 0, .int .i64 0, .int .i64 0, .int .i64 0, .int .i64 0, .int .i64 0, .int .i64 0]
    have z0 := q.cellv (i := 0) rfl
    have z1 := q.cellv (i := 1) rfl
    have z2 := q.cellv (i := 2) rfl
    have z3 := q.cellv (i := 3) rfl
    have z4 := q.cellv (i := 4) rfl
    have z5 := q.cellv (i := 5) rfl
    have z6 := q.cellv (i := 6) rfl
    have z7 := q.cellv (i := 7) rfl
    have z8 := q.cellv (i := 8) rfl
    have z9 := q.cellv (i := 9) rfl
    have z10 := q.cellv (i := 10) rfl
    refine bodyPost_ret (v := .tuple #[.agg #[.int .i64 0, .int .i64 0, .int .i64 0, .int .i64 0, .int .i64 0, .int .i64 0, .int .i64 0, .int .i64 0, .int .i64 0, .int .i64 0, .int .i64 0], .int .i64 51]) (by simp [results, Tryz.results105, go_sem, *]) rfl ⟨?_, hb11.out.setRow_ (Nat.le_refl _) _⟩
    rw [hrr.out.1, hrr.out.2]
    rfl
   subst hg
   have y0 := bi11.cellv (i := 0) rfl
   have y1 := bi11.cellv (i := 1) rfl
   have y2 := bi11.cellv (i := 2) rfl
   have y3 := bi11.cellv (i := 3) rfl
   have y4 := bi11.cellv (i := 4) rfl
   have y5 := bi11.cellv (i := 5) rfl
   have y6 := bi11.cellv (i := 6) rfl
   have y7 := bi11.cellv (i := 7) rfl
   have y8 := bi11.cellv (i := 8) rfl
   have y9 := bi11.cellv (i := 9) rfl
   have y10 := bi11.cellv (i := 10) rfl
   by_cases hr : Nod.Right ⟨K, L, S, D 0, D 1, D 2, D 3, D 4, D 5, A, E⟩
   case neg =>
    have hrr := hid (Nod.read_bad hlen.out (fun h => hr (by rw [← Hraw.out]; exact h.2)))
    have hb := hid (Nod.rightB_no hr)
    clear hr
    go_wp2_with fail
    refine (iright_calls ⟨K, L, S, D 0, D 1, D 2, D 3, D 4, D 5, A, E⟩ _).mono ?_
    rw [hb.out]
    rintro e w12 ⟨rfl, hbb⟩
    have BG2 := hid (BG.out.belowHere hbb)
    have hb12 := hid (Below.then_ hb11.out hbb)
    clear hbb y0 y1 y2 y3 y4 y5 y6 y7 y8 y9 y10
    go_wp2_with (refine wpList_store_blk rfl rfl _ _ _ rfl w.heap.size #[.int .i64 0, .int .i64 0, .int .i64 0, .int .i64 0, .int .i64 0, .int .i64 0, .int .i64 0, .int .i64 0, .int .i64 0, .int .i64 0, .int .i64 0] rfl rfl 35 #[.int .i64 0, .int .i64 0, .int .i64 0, .int .i64 0, .int .i64 0, .int .i64 0, .int .i64 0, .int .i64 0, .int .i64 0, .int .i64 0, .int .i64 0] BG2.out rfl nodInfo (nodOne ⟨0, 0, 0, 0, 0, 0, 0, 0, 0, 0, 0⟩) ?_)
    have q := BG2.out.row #[.int .i64 0, .int .i64 0, .int .i64 0, .int .i64 0, .int .i64 0, .int .i64 0, .int .i64 0, .int .i64 0, .int .i64 0, .int .i64 0, .int .i64 0]
    have z0 := q.cellv (i := 0) rfl
    have z1 := q.cellv (i := 1) rfl
    have z2 := q.cellv (i := 2) rfl
    have z3 := q.cellv (i := 3) rfl
    have z4 := q.cellv (i := 4) rfl
    have z5 := q.cellv (i := 5) rfl
    have z6 := q.cellv (i := 6) rfl
    have z7 := q.cellv (i := 7) rfl
    have z8 := q.cellv (i := 8) rfl
    have z9 := q.cellv (i := 9) rfl
    have z10 := q.cellv (i := 10) rfl
    refine bodyPost_ret (v := .tuple #[.agg #[.int .i64 0, .int .i64 0, .int .i64 0, .int .i64 0, .int .i64 0, .int .i64 0, .int .i64 0, .int .i64 0, .int .i64 0, .int .i64 0, .int .i64 0], .int .i64 51]) (by simp [results, Tryz.results105, go_sem, *]) rfl ⟨?_, hb12.out.setRow_ (Nat.le_refl _) _⟩
    rw [hrr.out.1, hrr.out.2]
    rfl
   have hrr := hid (Nod.read_good hlen.out Hgap.out (by rw [Hraw.out]; exact hr))
   have hb := hid (Nod.rightB_yes hr)
   clear hr
   go_wp2_with fail
   refine (iright_calls ⟨K, L, S, D 0, D 1, D 2, D 3, D 4, D 5, A, E⟩ _).mono ?_
   rw [hb.out]
   rintro e w12 ⟨rfl, hbb⟩
   have BG2 := hid (BG.out.belowHere hbb)
   have BI2 := hid (BI.out.belowHere hbb)
   have hb12 := hid (Below.then_ hb11.out hbb)
   clear hbb y0 y1 y2 y3 y4 y5 y6 y7 y8 y9 y10
   have y0 := BI2.out.cellv (i := 0) rfl
   have y1 := BI2.out.cellv (i := 1) rfl
   have y2 := BI2.out.cellv (i := 2) rfl
   have y3 := BI2.out.cellv (i := 3) rfl
   have y4 := BI2.out.cellv (i := 4) rfl
   have y5 := BI2.out.cellv (i := 5) rfl
   have y6 := BI2.out.cellv (i := 6) rfl
   have y7 := BI2.out.cellv (i := 7) rfl
   have y8 := BI2.out.cellv (i := 8) rfl
   have y9 := BI2.out.cellv (i := 9) rfl
   have y10 := BI2.out.cellv (i := 10) rfl
   go_wp2_with (refine wpList_store_blk rfl rfl _ _ _ rfl w.heap.size #[.int .i64 K, .int .i64 L, .int .i64 S, .int .i64 (D 0 : Int), .int .i64 (D 1 : Int), .int .i64 (D 2 : Int), .int .i64 (D 3 : Int), .int .i64 (D 4 : Int), .int .i64 (D 5 : Int), .int .i64 A, .int .i64 E] rfl rfl 35 #[.int .i64 0, .int .i64 0, .int .i64 0, .int .i64 0, .int .i64 0, .int .i64 0, .int .i64 0, .int .i64 0, .int .i64 0, .int .i64 0, .int .i64 0] BG2.out rfl nodInfo (nodOne ⟨K, L, S, D 0, D 1, D 2, D 3, D 4, D 5, A, E⟩) ?_)
   clear y0 y1 y2 y3 y4 y5 y6 y7 y8 y9 y10
   have q := BG2.out.row #[.int .i64 K, .int .i64 L, .int .i64 S, .int .i64 (D 0 : Int), .int .i64 (D 1 : Int), .int .i64 (D 2 : Int), .int .i64 (D 3 : Int), .int .i64 (D 4 : Int), .int .i64 (D 5 : Int), .int .i64 A, .int .i64 E]
   have z0 := q.cellv (i := 0) rfl
   have z1 := q.cellv (i := 1) rfl
   have z2 := q.cellv (i := 2) rfl
   have z3 := q.cellv (i := 3) rfl
   have z4 := q.cellv (i := 4) rfl
   have z5 := q.cellv (i := 5) rfl
   have z6 := q.cellv (i := 6) rfl
   have z7 := q.cellv (i := 7) rfl
   have z8 := q.cellv (i := 8) rfl
   have z9 := q.cellv (i := 9) rfl
   have z10 := q.cellv (i := 10) rfl
   refine bodyPost_ret (v := .tuple #[.agg #[.int .i64 K, .int .i64 L, .int .i64 S, .int .i64 (D 0 : Int), .int .i64 (D 1 : Int), .int .i64 (D 2 : Int), .int .i64 (D 3 : Int), .int .i64 (D 4 : Int), .int .i64 (D 5 : Int), .int .i64 A, .int .i64 E], .int .i64 0]) (by simp [results, Tryz.results105, go_sem, *]) rfl ⟨?_, hb12.out.setRow_ (Nat.le_refl _) _⟩
   rw [hrr.out.1, hrr.out.2, Hraw.out]
end
section
namespace Nod
theorem dropB (X n : Nat) (R : List UInt8) : (bigL X n ++ R).drop n = R := by
 rw [List.drop_append_of_le_length (by rw [bigL_len]; omega), List.drop_of_length_le (by rw [bigL_len]; omega), List.nil_append]
theorem takeB (X n : Nat) (R : List UInt8) (h : X < 256 ^ n) : numL ((bigL X n ++ R).take n) = X := by
 rw [List.take_append_of_le_length (by rw [bigL_len]; omega), List.take_of_length_le (by rw [bigL_len]; omega), numL_big_lt h]
theorem raw_chain (K Z : UInt8) (l s d0 d1 d2 d3 d4 d5 a b : Nat) (hl : l < 256 ^ 2) (hs : s < 256 ^ 4) (hd0 : d0 < 256 ^ 2) (hd1 : d1 < 256 ^ 2) (hd2 : d2 < 256 ^ 2) (hd3 : d3 < 256 ^ 2) (hd4 : d4 < 256 ^ 2) (hd5 : d5 < 256 ^ 2) (ha : a < 256 ^ 2) (hb : b < 256 ^ 2) :
  raw (K :: Z :: (bigL l 2 ++ (bigL s 4 ++ (bigL d0 2 ++ (bigL d1 2 ++ (bigL d2 2 ++ (bigL d3 2 ++ (bigL d4 2 ++ (bigL d5 2 ++ (bigL a 2 ++ (bigL b 2 ++ []))))))))))) = ⟨(K.toNat : Nat), l, s, d0, d1, d2, d3, d4, d5, a, b⟩ ∧ numL (((K :: Z :: (bigL l 2 ++ (bigL s 4 ++ (bigL d0 2 ++ (bigL d1 2 ++ (bigL d2 2 ++ (bigL d3 2 ++ (bigL d4 2 ++ (bigL d5 2 ++ (bigL a 2 ++ (bigL b 2 ++ []))))))))))).drop 1).take 1) = Z.toNat := by
 have z0 : numL ((K :: Z :: (bigL l 2 ++ (bigL s 4 ++ (bigL d0 2 ++ (bigL d1 2 ++ (bigL d2 2 ++ (bigL d3 2 ++ (bigL d4 2 ++ (bigL d5 2 ++ (bigL a 2 ++ (bigL b 2 ++ []))))))))))).take 1) = K.toNat := by
  rw [List.take_succ_cons, List.take_zero]; simp only [numL]; omega
 have z1 : numL (((K :: Z :: (bigL l 2 ++ (bigL s 4 ++ (bigL d0 2 ++ (bigL d1 2 ++ (bigL d2 2 ++ (bigL d3 2 ++ (bigL d4 2 ++ (bigL d5 2 ++ (bigL a 2 ++ (bigL b 2 ++ []))))))))))).drop 1).take 1) = Z.toNat := by
  rw [List.drop_succ_cons, List.drop_zero, List.take_succ_cons, List.take_zero]; simp only [numL]; omega
 have e2 : (K :: Z :: (bigL l 2 ++ (bigL s 4 ++ (bigL d0 2 ++ (bigL d1 2 ++ (bigL d2 2 ++ (bigL d3 2 ++ (bigL d4 2 ++ (bigL d5 2 ++ (bigL a 2 ++ (bigL b 2 ++ []))))))))))).drop 2 = (bigL l 2 ++ (bigL s 4 ++ (bigL d0 2 ++ (bigL d1 2 ++ (bigL d2 2 ++ (bigL d3 2 ++ (bigL d4 2 ++ (bigL d5 2 ++ (bigL a 2 ++ (bigL b 2 ++ [])))))))))) := rfl
 refine ⟨?_, z1⟩
 generalize hx : K :: Z :: (bigL l 2 ++ (bigL s 4 ++ (bigL d0 2 ++ (bigL d1 2 ++ (bigL d2 2 ++ (bigL d3 2 ++ (bigL d4 2 ++ (bigL d5 2 ++ (bigL a 2 ++ (bigL b 2 ++ [])))))))))) = xs at *
 clear hx z1
 have e4 : xs.drop 4 = (bigL s 4 ++ (bigL d0 2 ++ (bigL d1 2 ++ (bigL d2 2 ++ (bigL d3 2 ++ (bigL d4 2 ++ (bigL d5 2 ++ (bigL a 2 ++ (bigL b 2 ++ []))))))))) := by
  rw [show 4 = 2 + 2 from rfl, ← List.drop_drop, e2]; exact dropB _ _ _
 have e8 : xs.drop 8 = (bigL d0 2 ++ (bigL d1 2 ++ (bigL d2 2 ++ (bigL d3 2 ++ (bigL d4 2 ++ (bigL d5 2 ++ (bigL a 2 ++ (bigL b 2 ++ [])))))))) := by
  rw [show 8 = 4 + 4 from rfl, ← List.drop_drop, e4]; exact dropB _ _ _
 have e10 : xs.drop 10 = (bigL d1 2 ++ (bigL d2 2 ++ (bigL d3 2 ++ (bigL d4 2 ++ (bigL d5 2 ++ (bigL a 2 ++ (bigL b 2 ++ []))))))) := by
  rw [show 10 = 8 + 2 from rfl, ← List.drop_drop, e8]; exact dropB _ _ _
 have e12 : xs.drop 12 = (bigL d2 2 ++ (bigL d3 2 ++ (bigL d4 2 ++ (bigL d5 2 ++ (bigL a 2 ++ (bigL b 2 ++ [])))))) := by
  rw [show 12 = 10 + 2 from rfl, ← List.drop_drop, e10]; exact dropB _ _ _
 have e14 : xs.drop 14 = (bigL d3 2 ++ (bigL d4 2 ++ (bigL d5 2 ++ (bigL a 2 ++ (bigL b 2 ++ []))))) := by
  rw [show 14 = 12 + 2 from rfl, ← List.drop_drop, e12]; exact dropB _ _ _
 have e16 : xs.drop 16 = (bigL d4 2 ++ (bigL d5 2 ++ (bigL a 2 ++ (bigL b 2 ++ [])))) := by
  rw [show 16 = 14 + 2 from rfl, ← List.drop_drop, e14]; exact dropB _ _ _
 have e18 : xs.drop 18 = (bigL d5 2 ++ (bigL a 2 ++ (bigL b 2 ++ []))) := by
  rw [show 18 = 16 + 2 from rfl, ← List.drop_drop, e16]; exact dropB _ _ _
 have e20 : xs.drop 20 = (bigL a 2 ++ (bigL b 2 ++ [])) := by
  rw [show 20 = 18 + 2 from rfl, ← List.drop_drop, e18]; exact dropB _ _ _
 have e22 : xs.drop 22 = (bigL b 2 ++ []) := by
  rw [show 22 = 20 + 2 from rfl, ← List.drop_drop, e20]; exact dropB _ _ _
 unfold raw
 rw [z0, e2, e4, e8, e10, e12, e14, e16, e18, e20, e22]
 rw [takeB l 2 _ hl, takeB s 4 _ hs, takeB d0 2 _ hd0, takeB d1 2 _ hd1, takeB d2 2 _ hd2, takeB d3 2 _ hd3, takeB d4 2 _ hd4, takeB d5 2 _ hd5, takeB a 2 _ ha, takeB b 2 _ hb]
theorem raw_bytes {i : Nod} (h : Right i) : raw (bytes i) = i ∧ numL (((bytes i).drop 1).take 1) = 0 := by
 obtain ⟨⟨k1, k2⟩, ⟨l1, l2⟩, ⟨s1, s2⟩, hd, ha, hb⟩ := right_bounds h
 obtain ⟨k, l, s, d0, d1, d2, d3, d4, d5, a, b⟩ := i
 simp only [Dirs, Pg] at hd ha hb
 simp only at k1 k2 l1 l2 s1 s2
 obtain ⟨⟨x0, y0⟩, ⟨x1, y1⟩, ⟨x2, y2⟩, ⟨x3, y3⟩, ⟨x4, y4⟩, ⟨x5, y5⟩⟩ := hd
 have e2 : (256 : Nat) ^ 2 = 65536 := by decide
 have e4 : (256 : Nat) ^ 4 = 4294967296 := by decide
 have hc := raw_chain (UInt8.ofNat k.toNat) 0 l.toNat s.toNat d0.toNat d1.toNat d2.toNat d3.toNat d4.toNat d5.toNat a.toNat b.toNat (by rw [e2]; omega) (by rw [e4]; omega) (by rw [e2]; omega) (by rw [e2]; omega) (by rw [e2]; omega) (by rw [e2]; omega) (by rw [e2]; omega) (by rw [e2]; omega) (by rw [e2]; omega) (by rw [e2]; omega)
 have eb : bytes ⟨k, l, s, d0, d1, d2, d3, d4, d5, a, b⟩ = UInt8.ofNat k.toNat :: 0 :: (bigL l.toNat 2 ++ (bigL s.toNat 4 ++ (bigL d0.toNat 2 ++ (bigL d1.toNat 2 ++ (bigL d2.toNat 2 ++ (bigL d3.toNat 2 ++ (bigL d4.toNat 2 ++ (bigL d5.toNat 2 ++ (bigL a.toNat 2 ++ (bigL b.toNat 2 ++ [])))))))))) := by
  simp only [bytes, List.append_assoc, List.cons_append, List.nil_append, List.append_nil]
 rw [eb]
 refine ⟨hc.1.trans ?_, hc.2⟩
 have hk : (UInt8.ofNat k.toNat).toNat = k.toNat := by rw [UInt8.toNat_ofNat']; omega
 rw [hk]
 simp only [Nod.mk.injEq]
 omega
theorem read_bytes {i : Nod} (h : Right i) : readN (bytes i) = i ∧ readE (bytes i) = 0 := by
 obtain ⟨r1, r2⟩ := raw_bytes h
 obtain ⟨g1, g2⟩ := read_good (bytes_len i) r2 (by rw [r1]; exact h)
 exact ⟨g1.trans r1, g2⟩
def In (n : Nat) (k : Int) : Prop := 0 ≤ k ∧ k < Ino.perPage n
instance (n : Nat) (k : Int) : Decidable (In n k) := by unfold In; exact inferInstance
def cut (xs : List UInt8) (j : Nat) : List UInt8 := (xs.drop (j * 24)).take 24
def getN (xs : List UInt8) (k : Int) : Nod := if In xs.length k then readN (cut xs k.toNat) else zero
def getE (xs : List UInt8) (k : Int) : Int := if In xs.length k then readE (cut xs k.toNat) else 1
def putAt (xs : List UInt8) (j : Nat) (i : Nod) : List UInt8 := xs.take (j * 24) ++ bytes i ++ xs.drop (j * 24 + 24)
def putL (xs : List UInt8) (k : Int) (i : Nod) : List UInt8 := if In xs.length k ∧ Right i then putAt xs k.toNat i else []
def putE (xs : List UInt8) (k : Int) (i : Nod) : Int := if In xs.length k then (if Right i then 0 else 51) else 1
theorem in_bound {n : Nat} {k : Int} (h : In n k) : (k.toNat : Int) = k ∧ k.toNat * 24 + 24 ≤ n ∧ n ≤ 512 ∧ Ino.Sized n := by
 obtain ⟨h1, h2⟩ := h
 unfold Ino.perPage at h2
 by_cases hs : Ino.Sized n
 ·rw [if_pos hs] at h2
  refine ⟨by omega, by omega, ?_, hs⟩
  unfold Ino.Sized at hs; omega
 ·rw [if_neg hs] at h2; omega
theorem putAt_len {xs : List UInt8} {j : Nat} {i : Nod} (h : j * 24 + 24 ≤ xs.length) : (putAt xs j i).length = xs.length := by
 simp only [putAt, List.length_append, List.length_take, List.length_drop, bytes_len]; omega
theorem cut_put {xs : List UInt8} {j : Nat} {i : Nod} (h : j * 24 + 24 ≤ xs.length) : cut (putAt xs j i) j = bytes i := by
 unfold cut putAt
 rw [List.append_assoc, List.drop_append, List.drop_of_length_le (by rw [List.length_take]; omega), List.nil_append, List.length_take, show j * 24 - min (j * 24) xs.length = 0 by omega, List.drop_zero,
  List.take_append_of_le_length (by rw [bytes_len]; omega), List.take_of_length_le (by rw [bytes_len]; omega)]
theorem put_get {xs : List UInt8} {j t : Nat} {i : Nod} (h : j * 24 + 24 ≤ xs.length) (ht : t < j * 24 ∨ j * 24 + 24 ≤ t) : (putAt xs j i)[t]? = xs[t]? := by
 unfold putAt
 rcases ht with ht | ht
 ·rw [List.append_assoc, List.getElem?_append_left (by rw [List.length_take]; omega), List.getElem?_take, if_pos ht]
 ·rw [List.getElem?_append_right (by simp only [List.length_append, List.length_take, bytes_len]; omega), List.getElem?_drop]
  simp only [List.length_append, List.length_take, bytes_len]
  congr 1; omega
theorem cut_other {xs : List UInt8} {j t : Nat} {i : Nod} (h : j * 24 + 24 ≤ xs.length) (hne : t ≠ j) : cut (putAt xs j i) t = cut xs t := by
 apply List.ext_getElem?
 intro m
 unfold cut
 rw [List.getElem?_take, List.getElem?_take, List.getElem?_drop, List.getElem?_drop]
 by_cases hm : m < 24
 ·rw [if_pos hm, if_pos hm, put_get h (by omega)]
 ·rw [if_neg hm, if_neg hm]
theorem get_here {xs : List UInt8} {k : Int} {i : Nod} (h : In xs.length k) (hr : Right i) : getN (putAt xs k.toNat i) k = i ∧ getE (putAt xs k.toNat i) k = 0 := by
 obtain ⟨b1, b2, _, _⟩ := in_bound h
 unfold getN getE
 rw [putAt_len b2, if_pos h, if_pos h, cut_put b2]
 exact read_bytes hr
theorem get_other {xs : List UInt8} {k t : Int} {i : Nod} (h : In xs.length k) (hne : t ≠ k) : getN (putAt xs k.toNat i) t = getN xs t ∧ getE (putAt xs k.toNat i) t = getE xs t := by
 obtain ⟨b1, b2, _, _⟩ := in_bound h
 unfold getN getE
 rw [putAt_len b2]
 by_cases ht : In xs.length t
 ·obtain ⟨c1, _, _, _⟩ := in_bound ht
  rw [cut_other b2 (by omega)]
  exact ⟨rfl, rfl⟩
 ·rw [if_neg ht, if_neg ht, if_neg ht, if_neg ht]
  exact ⟨rfl, rfl⟩
end Nod
end
section
open Go.RowKit

theorem write_bad (i : Nod) (w : World) (h : ¬ Nod.Right i) :
  Calls Tryz.prog 139 #[nodV i] w fun e w' => e = .returned (.tuple #[.slice none 0 0, .int .i64 51]) ∧ Below w.heap.size w w' := by
 have hbl := hid ((Below.refl w.heap.size w).alloc (Nat.le_refl _) (nodO i))
 have hr := Nod.rightB_no h
 go_enter Tryz.func139, Tryz.ntmps139
 go_wp2_with fail
 refine (iright_calls i _).mono ?_
 rintro e w1 ⟨rfl, h_⟩
 have HB := hid h_
 clear h_
 rw [hr]
 go_wp2
 go_ret2
 exact ⟨rfl, Below.then_ hbl.out HB.out⟩
theorem write_good (i : Nod) (w : World) (h : Nod.Right i) :
  Calls Tryz.prog 139 #[nodV i] w fun e w' => (∃ v, e = .returned (.tuple #[v, .int .i64 0]) ∧ Own byteV 5 w' w.heap.size v i.bytes) ∧ Below w.heap.size w w' := by
 have hbl := hid ((Below.refl w.heap.size w).alloc (Nat.le_refl _) (nodO i))
 have hr := Nod.rightB_yes h
 have hbd := Nod.right_bounds h
 obtain ⟨k, l, s, d0, d1, d2, d3, d4, d5, a, b⟩ := i
 simp only [Nod.Dirs, Nod.Pg] at hbd
 obtain ⟨⟨k1, k2⟩, ⟨l1, l2⟩, ⟨s1, s2⟩, ⟨⟨x0, y0⟩, ⟨x1, y1⟩, ⟨x2, y2⟩, ⟨x3, y3⟩, ⟨x4, y4⟩, ⟨x5, y5⟩⟩, ⟨x6, y6⟩, ⟨x7, y7⟩⟩ := hbd
 clear h
 have bk0 := hid (Blk.new w 35 #[.int .i64 k, .int .i64 l, .int .i64 s, .int .i64 d0, .int .i64 d1, .int .i64 d2, .int .i64 d3, .int .i64 d4, .int .i64 d5, .int .i64 a, .int .i64 b])
 go_enter Tryz.func139, Tryz.ntmps139
 go_wp2_with fail
 refine (iright_calls ⟨k, l, s, d0, d1, d2, d3, d4, d5, a, b⟩ _).mono ?_
 rw [hr]
 rintro e w1 ⟨rfl, hb⟩
 have bk1 := hid (bk0.out.belowHere hb)
 have HB1 := hid (Below.then_ hbl.out hb)
 have hlt := bk1.out.lt
 clear hb bk0 hbl hr
 have q0 := bk1.out.cellv (i := 0) rfl
 have q1 := bk1.out.cellv (i := 1) rfl
 have hlit : #[Value.int .u8 k, Value.int .u8 0] = ([UInt8.ofNat k.toNat, 0].map byteV).toArray := by
  simp only [List.map_cons, List.map_nil, byteV, UInt8.toNat_ofNat']
  rw [show ((k.toNat % 2 ^ 8 : Nat) : Int) = k by omega]
  rfl
 have ho1 : Own byteV 5 (w1.alloc (.cells #[.int .u8 k, .int .u8 0] 5)) w1.heap.size (.slice (some ⟨w1.heap.size, 0, none⟩) 2 2) [UInt8.ofNat k.toNat, 0] := by
  rw [hlit]
  exact Own.made_at rfl rfl (Nat.le_refl _) (by decide)
 have HO1 := hid ho1
 clear hlit ho1
 have hb2 := hid (HB1.out.alloc HB1.out.size (.cells #[.int .u8 k, .int .u8 0] 5))
 have bk2 := hid (bk1.out.alloc (.cells #[.int .u8 k, .int .u8 0] 5))
 go_wp2_with fail
 refine (putI_calls _ [UInt8.ofNat k.toNat, 0] l 2 w1.heap.size _ (by omega) (by omega) (by omega) (by simp) HO1.out (by simp)).mono ?_
 rintro e w3 ⟨⟨v_w3, rfl, ho⟩, hb⟩
 have hs_w3 : w1.heap.size < w3.heap.size := by have := hb.size; simp at this; omega
 have bk3 := hid (bk2.out.below hb (by omega))
 have HB3 := hid (hb2.out.trans (hb.mono (by omega)))
 generalize hL1 : [UInt8.ofNat k.toNat, 0] ++ bigL l.toNat 2 = L1 at ho
 have lL1 : L1.length = 4 := by rw [← hL1]; simp [bigL_len]
 have HO3 := hid ho
 have HL1 := hid hL1
 clear ho hb hL1 bk2 hb2 HO1 bk1 HB1 q0 q1
 have q2 := bk3.out.cellv (i := 2) rfl
 go_wp2_with fail
 refine (putI_calls _ L1 s 4 w1.heap.size _ (by omega) (by omega) (by omega) (by omega) HO3.out (by omega)).mono ?_
 rintro e w4 ⟨⟨v_w4, rfl, ho⟩, hb⟩
 have hs_w4 := hb.size
 have bk4 := hid (bk3.out.below hb (by omega))
 have HB4 := hid (HB3.out.trans (hb.mono (by omega)))
 generalize hL2 : L1 ++ bigL s.toNat 4 = L2 at ho
 have lL2 : L2.length = 8 := by rw [← hL2]; simp [bigL_len, lL1]
 have HO4 := hid ho
 have HL2 := hid hL2
 clear ho hb hL2 bk3 HB3 HO3 q2
 have q3 := bk4.out.cellv (i := 3) rfl
 have q4 := bk4.out.cellv (i := 4) rfl
 have q5 := bk4.out.cellv (i := 5) rfl
 have q6 := bk4.out.cellv (i := 6) rfl
 have q7 := bk4.out.cellv (i := 7) rfl
 have q8 := bk4.out.cellv (i := 8) rfl
 go_wp2_with fail
 clear q3 q4 q5 q6 q7 q8
 go_loopw [4, 6, 24] (fun v _x i wr => ∃ m : Nat, m ≤ 6 ∧ i = .int .i64 m ∧ Own byteV 5 wr w1.heap.size v (L2 ++ ([d0, d1, d2, d3, d4, d5].take m).flatMap fun d => bigL d.toNat 2) ∧ Below w1.heap.size w4 wr) (fun _ _ i _ => 6 - (intOf i).toNat)
 case atStart => exact ⟨0, by omega, rfl, by simpa using HO4.out, Below.refl _ _⟩
 case round =>
  obtain ⟨m, hm, rfl, ho, hb⟩ := hrel
  have hsr := hb.size
  have HO := hid ho
  have HB := hid hb
  clear ho hb
  have hc : m = 0 ∨ m = 1 ∨ m = 2 ∨ m = 3 ∨ m = 4 ∨ m = 5 ∨ m = 6 := by omega
  rcases hc with rfl | rfl | rfl | rfl | rfl | rfl | rfl
  ·go_wp2_with fail
   refine (putI_calls _ _ d0 2 w1.heap.size _ (by omega) (by omega) (by omega) (by simp [lL2]) HO.out (by omega)).mono ?_
   rintro e wn ⟨⟨vn, rfl, ho⟩, hb⟩
   have HOn := hid ho
   have HBn := hid (HB.out.trans hb)
   clear ho hb
   go_wp2
   go_roundw
   case rel => exact ⟨1, by omega, rfl, by simpa using HOn.out, HBn.out⟩
   case measure => simp [intOf]
  ·go_wp2_with fail
   refine (putI_calls _ _ d1 2 w1.heap.size _ (by omega) (by omega) (by omega) (by simp [bigL_len, lL2]) HO.out (by omega)).mono ?_
   rintro e wn ⟨⟨vn, rfl, ho⟩, hb⟩
   have HOn := hid ho
   have HBn := hid (HB.out.trans hb)
   clear ho hb
   go_wp2
   go_roundw
   case rel => exact ⟨2, by omega, rfl, by simpa using HOn.out, HBn.out⟩
   case measure => simp [intOf]
  ·go_wp2_with fail
   refine (putI_calls _ _ d2 2 w1.heap.size _ (by omega) (by omega) (by omega) (by simp [bigL_len, lL2]) HO.out (by omega)).mono ?_
   rintro e wn ⟨⟨vn, rfl, ho⟩, hb⟩
   have HOn := hid ho
   have HBn := hid (HB.out.trans hb)
   clear ho hb
   go_wp2
   go_roundw
   case rel => exact ⟨3, by omega, rfl, by simpa using HOn.out, HBn.out⟩
   case measure => simp [intOf]
  ·go_wp2_with fail
   refine (putI_calls _ _ d3 2 w1.heap.size _ (by omega) (by omega) (by omega) (by simp [bigL_len, lL2]) HO.out (by omega)).mono ?_
   rintro e wn ⟨⟨vn, rfl, ho⟩, hb⟩
   have HOn := hid ho
   have HBn := hid (HB.out.trans hb)
   clear ho hb
   go_wp2
   go_roundw
   case rel => exact ⟨4, by omega, rfl, by simpa using HOn.out, HBn.out⟩
   case measure => simp [intOf]
  ·go_wp2_with fail
   refine (putI_calls _ _ d4 2 w1.heap.size _ (by omega) (by omega) (by omega) (by simp [bigL_len, lL2]) HO.out (by omega)).mono ?_
   rintro e wn ⟨⟨vn, rfl, ho⟩, hb⟩
   have HOn := hid ho
   have HBn := hid (HB.out.trans hb)
   clear ho hb
   go_wp2
   go_roundw
   case rel => exact ⟨5, by omega, rfl, by simpa using HOn.out, HBn.out⟩
   case measure => simp [intOf]
  ·go_wp2_with fail
   refine (putI_calls _ _ d5 2 w1.heap.size _ (by omega) (by omega) (by omega) (by simp [bigL_len, lL2]) HO.out (by omega)).mono ?_
   rintro e wn ⟨⟨vn, rfl, ho⟩, hb⟩
   have HOn := hid ho
   have HBn := hid (HB.out.trans hb)
   clear ho hb
   go_wp2
   go_roundw
   case rel => exact ⟨6, by omega, rfl, by simpa using HOn.out, HBn.out⟩
   case measure => simp [intOf]
  ·have hs5 : w1.heap.size < wr.heap.size := by omega
   generalize hL3 : (L2 ++ ([d0, d1, d2, d3, d4, d5].take 6).flatMap fun d => bigL d.toNat 2) = L3 at HO
   have lL3 : L3.length = 20 := by rw [← hL3]; simp [bigL_len, lL2]
   have HL3 := hid hL3
   have bk5 := hid (bk4.out.below HB.out (by omega))
   have HB5 := hid (HB4.out.trans (HB.out.mono (by omega)))
   clear hL3 bk4 HB4 HB HO4
   have q9 := bk5.out.cellv (i := 9) rfl
   go_wp2_with fail
   refine (putI_calls _ L3 a 2 w1.heap.size _ (by omega) (by omega) (by omega) (by omega) HO.out (by omega)).mono ?_
   rintro e w6 ⟨⟨v6, rfl, ho⟩, hb⟩
   have hs6 := hb.size
   have bk6 := hid (bk5.out.below hb (by omega))
   have HB6 := hid (HB5.out.trans (hb.mono (by omega)))
   have HO6 := hid ho
   clear ho hb bk5 HB5 HO q9
   have q10 := bk6.out.cellv (i := 10) rfl
   go_wp2_with fail
   refine (putI_calls _ _ b 2 w1.heap.size _ (by omega) (by omega) (by omega) (by simp [bigL_len, lL3]) HO6.out (by omega)).mono ?_
   rintro e w7 ⟨⟨v7, rfl, ho⟩, hb⟩
   have HB7 := hid (HB6.out.trans (hb.mono (by omega)))
   have hfin : L3 ++ bigL a.toNat 2 ++ bigL b.toNat 2 = Nod.bytes ⟨k, l, s, d0, d1, d2, d3, d4, d5, a, b⟩ := by
    rw [← HL3.out, ← HL2.out, ← HL1.out]
    simp [Nod.bytes]
   rw [hfin] at ho
   have HO7 := hid (ho.mono (Nat.le_of_lt hlt))
   clear ho hb hfin
   go_wp2
   go_ret2
   exact ⟨⟨_, rfl, HO7.out⟩, HB7.out⟩
end
section
open Go.RowKit

theorem iread_calls (a : Option Addr) (n c : Nat) (xs : List UInt8) (w : World) (hx : Bytes w w.heap.size a n xs) (hc : n ≤ c) :
  Calls Tryz.prog 105 #[.slice a n c] w fun e w' => e = .returned (.tuple #[nodV (Nod.readN xs), .int .i64 (Nod.readE xs)]) ∧ Below w.heap.size w w' := by
 by_cases hn : n = 24
 ·subst hn; exact read_right a c xs w hx hc
 ·obtain ⟨r1, r2⟩ := Nod.read_short (xs := xs) (by rw [hx.len]; exact hn)
  rw [r1, r2]
  exact read_wrong a n c w hn
namespace Nod
def writeL (i : Nod) : List UInt8 := if Right i then i.bytes else []
def writeE (i : Nod) : Int := if Right i then 0 else 51
theorem write_yes {i : Nod} (h : Right i) : writeL i = i.bytes ∧ writeE i = 0 := by unfold writeL writeE; rw [if_pos h, if_pos h]; exact ⟨rfl, rfl⟩
theorem write_no {i : Nod} (h : ¬ Right i) : writeL i = [] ∧ writeE i = 51 := by unfold writeL writeE; rw [if_neg h, if_neg h]; exact ⟨rfl, rfl⟩
end Nod
def WroteN (i : Nod) (w : World) (e : Ending) (w' : World) : Prop := ∃ v, e = .returned (.tuple #[v, .int .i64 (Nod.writeE i)]) ∧ Own byteV 5 w' w.heap.size v (Nod.writeL i) ∧ Below w.heap.size w w'
theorem iwrite_calls (i : Nod) (w : World) : Calls Tryz.prog 139 #[nodV i] w (WroteN i w) := by
 by_cases h : Nod.Right i
 ·refine (write_good i w h).mono fun e w' ⟨⟨v, he, ho⟩, hb⟩ => ?_
  unfold WroteN
  rw [(Nod.write_yes h).1, (Nod.write_yes h).2]
  exact ⟨v, he, ho, hb⟩
 ·refine (write_bad i w h).mono fun e w' ⟨he, hb⟩ => ?_
  unfold WroteN
  rw [(Nod.write_no h).1, (Nod.write_no h).2]
  exact ⟨_, he, Own.nil _ _, hb⟩
end
section
open Go.RowKit

theorem there_yes (a : Option Addr) (n c : Nat) (k : Int) (w : World) (h : Nod.In n k) :
  Calls Tryz.prog 104 #[.slice a n c, .int .i64 k] w fun e w' => e = .returned (.bool true) ∧ w = w' := by
 have h1 := h.1
 have h2 := h.2
 have h3 : decide (k < Ino.perPage n) = true := decide_eq_true h2
 clear h
 go_enter Tryz.func104, Tryz.ntmps104
 go_wp2_with fail
 refine (perPage_calls _ _).mono ?_
 rintro e w_ ⟨rfl, rfl⟩
 generalize Ino.perPage n = P at *
 go_wp2
 go_ret
 exact ⟨by first | rfl | simp [h2], rfl⟩
theorem there_no (a : Option Addr) (n c : Nat) (k : Int) (w : World) (h : ¬ Nod.In n k) :
  Calls Tryz.prog 104 #[.slice a n c, .int .i64 k] w fun e w' => e = .returned (.bool false) ∧ w = w' := by
 by_cases h1 : 0 ≤ k
 ·have h2 : Ino.perPage n ≤ k := by
   by_cases h2 : k < Ino.perPage n
   ·exact absurd ⟨h1, h2⟩ h
   ·omega
  have h3 : decide (k < Ino.perPage n) = false := decide_eq_false (by omega)
  clear h
  go_enter Tryz.func104, Tryz.ntmps104
  go_wp2_with fail
  refine (perPage_calls _ _).mono ?_
  rintro e w_ ⟨rfl, rfl⟩
  generalize Ino.perPage n = P at *
  go_wp2
  go_ret
  exact ⟨by first | rfl | simp [h2], rfl⟩
 ·have h3 : decide (0 ≤ k) = false := decide_eq_false h1
  clear h
  go_enter Tryz.func104, Tryz.ntmps104
  go_wp2
  go_ret
  exact ⟨rfl, rfl⟩
theorem getN_no {xs : List UInt8} {k : Int} (h : ¬ Nod.In xs.length k) : Nod.getN xs k = Nod.zero ∧ Nod.getE xs k = 1 := by unfold Nod.getN Nod.getE; rw [if_neg h, if_neg h]; exact ⟨rfl, rfl⟩
theorem get_calls (a : Option Addr) (n c : Nat) (xs : List UInt8) (k : Int) (w : World) (hx : Bytes w w.heap.size a n xs) (hnc : n ≤ c) :
  Calls Tryz.prog 58 #[.slice a n c, .int .i64 k] w fun e w' => e = .returned (.tuple #[nodV (Nod.getN xs k), .int .i64 (Nod.getE xs k)]) ∧ Below w.heap.size w w' := by
 have hl := hx.len
 by_cases h : Nod.In n k
 case neg =>
  obtain ⟨r1, r2⟩ := getN_no (xs := xs) (k := k) (by rw [hl]; exact h)
  rw [r1, r2]
  have HP := hid (fun w => there_no a n c k w h)
  clear r1 r2 h hl hx
  go_enter Tryz.func58, Tryz.ntmps58
  go_wp2_with fail
  refine (HP.out _).mono ?_
  rintro e w_ ⟨rfl, rfl⟩
  go_wp2
  refine bodyPost_ret (v := .tuple #[nodV Nod.zero, .int .i64 1]) (by simp [results, Tryz.results58, go_sem, nodV, Nod.zero]) rfl ⟨rfl, ?_⟩
  exact (Below.refl _ _).alloc (Nat.le_refl _) _
 have HP := hid (fun w => there_yes a n c k w h)
 obtain ⟨q3, q1, q2, hs⟩ := Nod.in_bound h
 obtain ⟨j, rfl⟩ : ∃ j : Nat, k = j := ⟨k.toNat, q3.symm⟩
 rw [Int.toNat_natCast] at q1
 have r1 : Nod.getN xs j = Nod.readN (Nod.cut xs j) := by unfold Nod.getN; rw [if_pos (by rw [hl]; exact h), Int.toNat_natCast]
 have r2 : Nod.getE xs j = Nod.readE (Nod.cut xs j) := by unfold Nod.getE; rw [if_pos (by rw [hl]; exact h), Int.toNat_natCast]
 have HR1 := hid r1
 have HR2 := hid r2
 have hbl := hid ((Below.refl w.heap.size w).alloc (Nat.le_refl _) (nodO Nod.zero))
 have bg := Blk.new w 35 #[.int .i64 0, .int .i64 0, .int .i64 0, .int .i64 0, .int .i64 0, .int .i64 0, .int .i64 0, .int .i64 0, .int .i64 0, .int .i64 0, .int .i64 0]
 have hx1 := ((hx.drop (l := j * 24) (by omega) hnc).take (k := 24) (by omega)).alloc (nodO Nod.zero)
 have HX1 := hid (show Bytes (w.alloc (nodO Nod.zero)) (w.alloc (nodO Nod.zero)).heap.size (cutA a c (j * 24)) 24 (Nod.cut xs j) from hx1)
 have hcut := cutB_mid a n c (j * 24) ((j + 1) * 24) (by omega) (by omega)
 rw [show ((j * 24 : Nat) : Int) = (j : Int) * 24 by omega, show (((j + 1) * 24 : Nat) : Int) = ((j : Int) + 1) * 24 by omega, show (j + 1) * 24 - j * 24 = 24 by omega] at hcut
 clear h q3 hl hx r1 r2 hs hx1
 go_enter Tryz.func58, Tryz.ntmps58
 go_wp2_with fail
 refine (HP.out _).mono ?_
 rintro e w_ ⟨rfl, rfl⟩
 go_wp2_with fail
 refine (iread_calls (cutA a c (j * 24)) 24 (c - j * 24) (Nod.cut xs j) _ HX1.out (by omega)).mono ?_
 rintro _ w2 ⟨rfl, hb⟩
 generalize Nod.readN (Nod.cut xs j) = r at *
 generalize Nod.readE (Nod.cut xs j) = er at *
 have HG := hid (bg.belowHere hb)
 have HB := hid (Below.then_ hbl.out hb)
 clear hb bg
 go_wp2_with (refine wpList_store_blk rfl rfl _ _ _ rfl w.heap.size #[.int .i64 r.k, .int .i64 r.l, .int .i64 r.s, .int .i64 r.d0, .int .i64 r.d1, .int .i64 r.d2, .int .i64 r.d3, .int .i64 r.d4, .int .i64 r.d5, .int .i64 r.a, .int .i64 r.b] rfl rfl 35 #[.int .i64 0, .int .i64 0, .int .i64 0, .int .i64 0, .int .i64 0, .int .i64 0, .int .i64 0, .int .i64 0, .int .i64 0, .int .i64 0, .int .i64 0] HG.out rfl nodInfo (nodOne r) ?_)
 have q := HG.out.row #[.int .i64 r.k, .int .i64 r.l, .int .i64 r.s, .int .i64 r.d0, .int .i64 r.d1, .int .i64 r.d2, .int .i64 r.d3, .int .i64 r.d4, .int .i64 r.d5, .int .i64 r.a, .int .i64 r.b]
 have z0 := q.cellv (i := 0) rfl
 have z1 := q.cellv (i := 1) rfl
 have z2 := q.cellv (i := 2) rfl
 have z3 := q.cellv (i := 3) rfl
 have z4 := q.cellv (i := 4) rfl
 have z5 := q.cellv (i := 5) rfl
 have z6 := q.cellv (i := 6) rfl
 have z7 := q.cellv (i := 7) rfl
 have z8 := q.cellv (i := 8) rfl
 have z9 := q.cellv (i := 9) rfl
 have z10 := q.cellv (i := 10) rfl
 refine bodyPost_ret (v := .tuple #[.agg #[.int .i64 r.k, .int .i64 r.l, .int .i64 r.s, .int .i64 r.d0, .int .i64 r.d1, .int .i64 r.d2, .int .i64 r.d3, .int .i64 r.d4, .int .i64 r.d5, .int .i64 r.a, .int .i64 r.b], .int .i64 er]) (by simp [results, Tryz.results58, go_sem, z0, z1, z2, z3, z4, z5, z6, z7, z8, z9, z10]) rfl ⟨?_, HB.out.setRow_ (Nat.le_refl _) _⟩
 rw [HR1.out, HR2.out]
end
section
open Go.RowKit

def PutN (xs : List UInt8) (k : Int) (i : Nod) (w : World) (e : Ending) (w' : World) : Prop := ∃ v, e = .returned (.tuple #[v, .int .i64 (Nod.putE xs k i)]) ∧ Own byteV 5 w' w.heap.size v (Nod.putL xs k i) ∧ Below w.heap.size w w'
theorem putN_no {xs : List UInt8} {k : Int} {i : Nod} {w w' : World} (h : ¬ Nod.In xs.length k) (hb : Below w.heap.size w w') : PutN xs k i w (.returned (.tuple #[.slice none 0 0, .int .i64 1])) w' := by
 refine ⟨.slice none 0 0, ?_, ?_, hb⟩
 ·unfold Nod.putE; rw [if_neg h]
 ·unfold Nod.putL; rw [if_neg (fun g => h g.1)]; exact Own.nil _ _
theorem putN_bad {xs : List UInt8} {k : Int} {i : Nod} {w w' : World} (h : Nod.In xs.length k) (hr : ¬ Nod.Right i) (hb : Below w.heap.size w w') : PutN xs k i w (.returned (.tuple #[.slice none 0 0, .int .i64 51])) w' := by
 refine ⟨.slice none 0 0, ?_, ?_, hb⟩
 ·unfold Nod.putE; rw [if_pos h, if_neg hr]
 ·unfold Nod.putL; rw [if_neg (fun g => hr g.2)]; exact Own.nil _ _
theorem putN_good {xs : List UInt8} {j : Nat} {i : Nod} {v : Value} {w w' : World} (h : Nod.In xs.length j) (hr : Nod.Right i) (ho : Own byteV 5 w' w.heap.size v (Nod.putAt xs j i)) (hb : Below w.heap.size w w') : PutN xs j i w (.returned (.tuple #[v, .int .i64 0])) w' := by
 refine ⟨v, ?_, ?_, hb⟩
 ·unfold Nod.putE; rw [if_pos h, if_pos hr]
 ·unfold Nod.putL; rw [if_pos ⟨h, hr⟩, Int.toNat_natCast]; exact ho
theorem put_calls2 (a : Option Addr) (n c : Nat) (xs : List UInt8) (k : Int) (i : Nod) (w : World) (hx : Bytes w w.heap.size a n xs) :
  Calls Tryz.prog 94 #[.slice a n c, .int .i64 k, nodV i] w (PutN xs k i w) := by
 have hl := hx.len
 have hbl := hid ((Below.refl w.heap.size w).alloc (Nat.le_refl _) (nodO i))
 by_cases h : Nod.In n k
 case neg =>
  have HN := hid (fun w' (hb : Below w.heap.size w w') => putN_no (i := i) (show ¬ Nod.In xs.length k by rw [hl]; exact h) hb)
  have HP := hid (fun w => there_no a n c k w h)
  clear h hl hx
  go_enter Tryz.func94, Tryz.ntmps94
  go_wp2_with fail
  refine (HP.out _).mono ?_
  rintro e w_ ⟨rfl, rfl⟩
  go_wp2
  go_ret2
  exact HN.out _ hbl.out
 have HP := hid (fun w => there_yes a n c k w h)
 by_cases hr : Nod.Right i
 case neg =>
  have HN := hid (fun w' (hb : Below w.heap.size w w') => putN_bad (show Nod.In xs.length k by rw [hl]; exact h) hr hb)
  have hE := hid (Nod.write_no hr)
  clear h hl hx hr
  go_enter Tryz.func94, Tryz.ntmps94
  go_wp2_with fail
  refine (HP.out _).mono ?_
  rintro e w_ ⟨rfl, rfl⟩
  go_wp2_with fail
  refine (iwrite_calls i _).mono ?_
  rintro e w1 ⟨v1, rfl, ho, hb⟩
  rw [hE.out.2]
  have HB := hid (Below.then_ hbl.out hb)
  clear ho hb
  go_wp2
  go_ret2
  exact HN.out _ HB.out
 have hE := hid (Nod.write_yes hr)
 obtain ⟨q3, q1, q2, _⟩ := Nod.in_bound h
 obtain ⟨j, rfl⟩ : ∃ j : Nat, k = j := ⟨k.toNat, q3.symm⟩
 rw [Int.toNat_natCast] at q1
 have HI := hid (show Nod.In xs.length j by rw [hl]; exact h)
 have HR := hid hr
 have HX := hid (hx.alloc (nodO i))
 have hlen := hid hl
 clear h q3 hl hx hr
 go_enter Tryz.func94, Tryz.ntmps94
 go_wp2_with fail
 refine (HP.out _).mono ?_
 rintro e w_ ⟨rfl, rfl⟩
 go_wp2_with fail
 refine (iwrite_calls i _).mono ?_
 rintro e w1 ⟨v1, rfl, ho, hb⟩
 rw [hE.out.2]
 rw [hE.out.1] at ho
 obtain ⟨a1, c1, rfl, _⟩ := ho.formN (n := 24) (Nod.bytes_len i)
 have HB1 := hid (Below.then_ hbl.out hb)
 have HY1 := hid (ho.arr (by rw [Nod.bytes_len]; omega))
 have HX1 := hid (HX.out.on hb)
 have hs1 := HB1.out.size
 clear ho hb hE
 go_wp2_with fail
 refine (clone_calls a n c xs _ HX1.out).mono ?_
 rintro e w2 ⟨⟨v2, rfl, ho⟩, hb⟩
 obtain ⟨a2, c2, rfl, _⟩ := ho.formN (n := n) hlen.out
 obtain ⟨g, rfl, hgb, _⟩ := ho.addr (by rw [hlen.out]; omega)
 have HO2 := hid ho
 have HB2 := hid (Below.then_ HB1.out hb)
 have HY2 := hid (HY1.out.on hb)
 have hcut := cutB_from (some ⟨g, 0, none⟩) n c2 (j * 24) (by omega)
 rw [show ((j * 24 : Nat) : Int) = (j : Int) * 24 by omega] at hcut
 clear ho hb
 go_wp2_with (with_reducible refine wpList_copyB rfl _ _ rfl w1.heap.size g n c2 (j * 24) xs rfl HO2.out _ a1 24 c1 i.bytes rfl HY2.out (by omega) ?_; intro w3 HO3 hb3)
 go_ret2
 have hso := HO3.out.mono hs1
 exact putN_good HI.out HR.out hso (HB2.out.trans (hb3.out.mono hs1))
end
end Go.Proofs.YtcppkaphlcflgaaGreat
