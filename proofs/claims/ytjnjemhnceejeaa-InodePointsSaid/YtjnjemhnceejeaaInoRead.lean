/-
  inode.Read.
-/
import Derived.Test.YtjnjemhnceejeaaInoTake
import Derived.Test.YtjnjemhnceejeaaInoRight
namespace Go.Proofs.Ytjnjemhnceejeaa
open Go.RowKit

theorem read_wrong (a : Option Addr) (n c : Nat) (w : World) (h : n ≠ 24) :
    Calls Try.prog 18 #[.slice a n c] w fun e w' => e = .returned (.tuple #[nodV Nod.zero, .int .i64 1]) ∧ Below w.heap.size w w' := by
  have h1 : ((n : Int) != 24) = true := by rw [bne_iff_ne]; omega
  go_enter Try.func18, Try.ntmps18
  go_wp2
  refine bodyPost_ret (v := .tuple #[nodV Nod.zero, .int .i64 1]) (by simp [results, Try.results18, go_sem, nodV, Nod.zero]) rfl ⟨rfl, ?_⟩
  exact (Below.refl _ _).alloc (Nat.le_refl _) _
theorem nodOne (i : Nod) : (#[.int .i64 i.k, .int .i64 i.l, .int .i64 i.s, .int .i64 i.d0, .int .i64 i.d1, .int .i64 i.d2, .int .i64 i.d3, .int .i64 i.d4, .int .i64 i.d5, .int .i64 i.a, .int .i64 i.b] : Array Value).all (·.oneCell') = true := by simp [Value.oneCell']
theorem nodInfo : (Try.prog.info? 36).map (·.size) = some 11 := by kernel_rfl
def dirCells (K L S : Nat) (D : Nat → Nat) (m : Nat) : Array Value :=
  #[.int .i64 K, .int .i64 L, .int .i64 S, .int .i64 (if 0 < m then (D 0 : Int) else 0), .int .i64 (if 1 < m then (D 1 : Int) else 0), .int .i64 (if 2 < m then (D 2 : Int) else 0), .int .i64 (if 3 < m then (D 3 : Int) else 0), .int .i64 (if 4 < m then (D 4 : Int) else 0), .int .i64 (if 5 < m then (D 5 : Int) else 0), .int .i64 0, .int .i64 0]
set_option maxHeartbeats 4000000 in
theorem read_right (a : Option Addr) (c : Nat) (xs : List UInt8) (w : World) (hx : Bytes w w.heap.size a 24 xs) (hc : 24 ≤ c) :
    Calls Try.prog 18 #[.slice a 24 c] w fun e w' => e = .returned (.tuple #[nodV (Nod.readN xs), .int .i64 (Nod.readE xs)]) ∧ Below w.heap.size w w' := by
  have hmf : ∀ (fn : Fn) (first cap : Array Value) (w : World), (Instr.makeFunc fn first cap).run Try.prog w = .ok (.func fn first cap) w := fun _ _ _ _ => rfl
  go_enter Try.func18, Try.ntmps18
  obtain ⟨w2, hw2⟩ : ∃ w2, w2 = (w.alloc (.cells #[.int .i64 0, .int .i64 0, .int .i64 0, .int .i64 0, .int .i64 0, .int .i64 0, .int .i64 0, .int .i64 0, .int .i64 0, .int .i64 0, .int .i64 0] 36)).alloc (.cells #[.slice a 24 c] 37) := ⟨_, rfl⟩
  have hb2 : Below w.heap.size w w2 := by rw [hw2]; exact ((Below.refl _ _).alloc (Nat.le_refl _) _).alloc (by simp) _
  have hz2 : w2.heap.size = w.heap.size + 2 := by rw [hw2]; simp
  have bg2 : Blk w2 w.heap.size 36 #[.int .i64 0, .int .i64 0, .int .i64 0, .int .i64 0, .int .i64 0, .int .i64 0, .int .i64 0, .int .i64 0, .int .i64 0, .int .i64 0, .int .i64 0] := by rw [hw2]; exact (Blk.new w _ _).alloc _
  have br2 : Blk w2 (w.heap.size + 1) 37 #[.slice a 24 c] := by
    have h := Blk.new (w.alloc (.cells #[.int .i64 0, .int .i64 0, .int .i64 0, .int .i64 0, .int .i64 0, .int .i64 0, .int .i64 0, .int .i64 0, .int .i64 0, .int .i64 0, .int .i64 0] 36)) 37 #[.slice a 24 c]
    rw [show (w.alloc (.cells #[.int .i64 0, .int .i64 0, .int .i64 0, .int .i64 0, .int .i64 0, .int .i64 0, .int .i64 0, .int .i64 0, .int .i64 0, .int .i64 0, .int .i64 0] 36)).heap.size = w.heap.size + 1 by simp] at h
    rw [hw2]; exact h
  have hx2 : Bytes w2 w.heap.size a 24 (xs.drop 0) := hx.below hb2
  have hlen := Lib.hid hx.len
  go_wp2_with fail
  rw [← hw2]
  clear hw2 hmf
  refine (take_next (w.heap.size + 1) w.heap.size a 24 c xs 1 23 0 1 w2 br2 hx2 hc (by omega) rfl rfl (by omega)).mono ?_
  rintro e w3 ⟨rfl, ht⟩
  obtain ⟨⟨a3, c3, br3, hx3, hc3⟩, far3, hz3, bel3⟩ := ht
  have bg3 := far3 (by omega) bg2
  have hb3 := hb2.trans (bel3 (by omega))
  clear far3 bel3 br2 hx2 hb2 bg2
  generalize hK : numL ((xs.drop 0).take 1) = K
  have HK := Lib.hid hK
  clear hK
  obtain ⟨w4, hw4⟩ : ∃ w4, w4 = w3.alloc (.cells #[.int .i64 K, .int .i64 0, .int .i64 0, .int .i64 0, .int .i64 0, .int .i64 0, .int .i64 0, .int .i64 0, .int .i64 0, .int .i64 0, .int .i64 0] 36) := ⟨_, rfl⟩
  have bel4 : Below w3.heap.size w3 w4 := by rw [hw4]; exact (Below.refl _ _).alloc (Nat.le_refl _) _
  have bg4 := bg3.belowHere bel4
  have br4 := br3.belowHere bel4
  have hx4 := hx3.below (bel4.mono (by omega))
  have hb4 := hb3.trans (bel4.mono (by omega))
  have hz4 : w4.heap.size = w.heap.size + 3 := by rw [hw4]; simp; omega
  have bi4 : Blk w4 w3.heap.size 36 #[.int .i64 K, .int .i64 0, .int .i64 0, .int .i64 0, .int .i64 0, .int .i64 0, .int .i64 0, .int .i64 0, .int .i64 0, .int .i64 0, .int .i64 0] := by rw [hw4]; exact Blk.new _ _ _
  clear bg3 br3 hx3 hb3 bel4
  rw [show w3.heap.size = w.heap.size + 2 by omega] at bi4
  go_wp2_with fail
  rw [← hw4]
  clear hw4
  refine (take_next (w.heap.size + 1) w.heap.size a3 23 c3 xs 1 22 1 2 w4 br4 hx4 hc3 (by omega) rfl rfl (by omega)).mono ?_
  rintro e w5 ⟨rfl, ht⟩
  obtain ⟨⟨a5, c5, br5, hx5, hc5⟩, far5, hz5, bel5⟩ := ht
  have bg5 := far5 (by omega) bg4
  have bi5 := far5 (by omega) bi4
  have hb5 := hb4.trans (bel5 (by omega))
  clear far5 bel5 br4 hx4 hb4 bg4 bi4
  generalize hgap : numL ((xs.drop 1).take 1) = gap
  have Hgap := Lib.hid hgap
  clear hgap
  go_wp2_with fail
  refine (take_next (w.heap.size + 1) w.heap.size a5 22 c5 xs 2 20 2 4 w5 br5 hx5 hc5 (by omega) rfl rfl (by omega)).mono ?_
  rintro e w6 ⟨rfl, ht⟩
  obtain ⟨⟨a6, c6, br6, hx6, hc6⟩, far6, hz6, bel6⟩ := ht
  have bg6 := far6 (by omega) bg5
  have bi6 := far6 (by omega) bi5
  have hb6 := hb5.trans (bel6 (by omega))
  clear far6 bel6 br5 hx5 hb5 bg5 bi5
  generalize hL : numL ((xs.drop 2).take 2) = L
  have HL := Lib.hid hL
  clear hL
  go_wp2_with fail
  refine (take_next (w.heap.size + 1) w.heap.size a6 20 c6 xs 4 16 4 8 w6 br6 hx6 hc6 (by omega) rfl rfl (by omega)).mono ?_
  rintro e w7 ⟨rfl, ht⟩
  obtain ⟨⟨a7, c7, br7, hx7, hc7⟩, far7, hz7, bel7⟩ := ht
  have bg7 := far7 (by omega) bg6
  have bi7 := far7 (by omega) bi6
  have hb7 := hb6.trans (bel7 (by omega))
  clear far7 bel7 br6 hx6 hb6 bg6 bi6
  generalize hS : numL ((xs.drop 4).take 4) = S
  have HS := Lib.hid hS
  clear hS
  have i1 := bi7.cellv (i := 1) rfl
  have i2 := bi7.cellv (i := 2) rfl
  have f1 := bi7.frozen 1
  have f2 := bi7.frozen 2
  go_wp2
  clear i1 i2 f1 f2
  obtain ⟨D, hD⟩ : ∃ D : Nat → Nat, ∀ j, D j = numL ((xs.drop (8 + 2 * j)).take 2) := ⟨_, fun _ => rfl⟩
  have HD := Lib.hid hD
  clear hD
  have hI := Lib.hid (show (∃ a' c', Blk ((w7.setCell ⟨w.heap.size + 2, 1, none⟩ (.int .i64 L)).setCell ⟨w.heap.size + 2, 2, none⟩ (.int .i64 S)) (w.heap.size + 1) 37 #[.slice a' (16 : Nat) c'] ∧ Bytes ((w7.setCell ⟨w.heap.size + 2, 1, none⟩ (.int .i64 L)).setCell ⟨w.heap.size + 2, 2, none⟩ (.int .i64 S)) w.heap.size a' 16 (xs.drop 8) ∧ 16 ≤ c') from
    ⟨a7, c7, (br7.far (by simp) _).far (by simp) _, hx7.below (((Below.refl _ _).setCell (by simp) _).setCell (by simp) _), hc7⟩)
  have bi8 := Lib.hid ((bi7.set 1 (.int .i64 L)).set 2 (.int .i64 S))
  have bg8 := Lib.hid ((bg7.far (p := ⟨w.heap.size + 2, 1, none⟩) (by simp) (.int .i64 L)).far (p := ⟨w.heap.size + 2, 2, none⟩) (by simp) (.int .i64 S))
  have hb8 := Lib.hid ((hb7.setCell (p := ⟨w.heap.size + 2, 1, none⟩) (by simp) (.int .i64 L)).setCell (p := ⟨w.heap.size + 2, 2, none⟩) (by simp) (.int .i64 S))
  clear br7 hx7 bi7 bg7 hb7
  go_loopw [8, 26] (fun _x i wr => ∃ m : Nat, m ≤ 6 ∧ i = .int .i64 m ∧ Blk wr (w.heap.size + 2) 36 (dirCells K L S D m) ∧ Blk wr w.heap.size 36 #[.int .i64 0, .int .i64 0, .int .i64 0, .int .i64 0, .int .i64 0, .int .i64 0, .int .i64 0, .int .i64 0, .int .i64 0, .int .i64 0, .int .i64 0] ∧
      (∃ a' c', Blk wr (w.heap.size + 1) 37 #[.slice a' (16 - 2 * m : Nat) c'] ∧ Bytes wr w.heap.size a' (16 - 2 * m) (xs.drop (8 + 2 * m)) ∧ 16 - 2 * m ≤ c') ∧ Below w.heap.size w wr ∧ wr.heap.size = w.heap.size + 3) (fun _ i _ => 6 - (intOf i).toNat)
  case atStart => exact ⟨0, by omega, rfl, bi8.out, bg8.out, hI.out, hb8.out, by simp; omega⟩
  case round =>
    obtain ⟨m, hm, rfl, bi, bg, ⟨a', c', br, hx', hc'⟩, hb, hz⟩ := hrel
    have hc := hm
    have hm' : m = 0 ∨ m = 1 ∨ m = 2 ∨ m = 3 ∨ m = 4 ∨ m = 5 ∨ m = 6 := by omega
    rcases hm' with rfl | rfl | rfl | rfl | rfl | rfl | rfl
    · go_wp2_with fail
      refine (take_next (w.heap.size + 1) w.heap.size a' (16 - 2 * 0) c' xs 2 (16 - 2 * 1) (8 + 2 * 0) (8 + 2 * 1) wr br hx' hc' (by omega) rfl rfl (by omega)).mono ?_
      rintro e w9 ⟨rfl, ht⟩
      rw [← HD.out 0]
      obtain ⟨⟨a9, c9, br9, hx9, hc9⟩, far9, hz9, bel9⟩ := ht
      have bi9 : Blk w9 (w.heap.size + 2) 36 #[.int .i64 K, .int .i64 L, .int .i64 S, .int .i64 0, .int .i64 0, .int .i64 0, .int .i64 0, .int .i64 0, .int .i64 0, .int .i64 0, .int .i64 0] := far9 (by omega) bi
      have bg9 := far9 (by omega) bg
      have hb9 := hb.trans (bel9 (by omega))
      clear far9 bel9 bi bg br hx' hb
      have i9 := bi9.cellv (i := 3) rfl
      have f9 := bi9.frozen 3
      go_wp2
      go_roundw
      case rel => exact ⟨1, by omega, rfl, bi9.set 3 _, bg9.far (by simp) _, ⟨a9, c9, br9.far (by simp) _, hx9.below ((Below.refl _ _).setCell (by simp) _), hc9⟩, hb9.setCell (by simp) _, by simp; omega⟩
      case measure => simp [intOf]
    · go_wp2_with fail
      refine (take_next (w.heap.size + 1) w.heap.size a' (16 - 2 * 1) c' xs 2 (16 - 2 * 2) (8 + 2 * 1) (8 + 2 * 2) wr br hx' hc' (by omega) rfl rfl (by omega)).mono ?_
      rintro e w9 ⟨rfl, ht⟩
      rw [← HD.out 1]
      obtain ⟨⟨a9, c9, br9, hx9, hc9⟩, far9, hz9, bel9⟩ := ht
      have bi9 : Blk w9 (w.heap.size + 2) 36 #[.int .i64 K, .int .i64 L, .int .i64 S, .int .i64 (D 0 : Int), .int .i64 0, .int .i64 0, .int .i64 0, .int .i64 0, .int .i64 0, .int .i64 0, .int .i64 0] := far9 (by omega) bi
      have bg9 := far9 (by omega) bg
      have hb9 := hb.trans (bel9 (by omega))
      clear far9 bel9 bi bg br hx' hb
      have i9 := bi9.cellv (i := 4) rfl
      have f9 := bi9.frozen 4
      go_wp2
      go_roundw
      case rel => exact ⟨2, by omega, rfl, bi9.set 4 _, bg9.far (by simp) _, ⟨a9, c9, br9.far (by simp) _, hx9.below ((Below.refl _ _).setCell (by simp) _), hc9⟩, hb9.setCell (by simp) _, by simp; omega⟩
      case measure => simp [intOf]
    · go_wp2_with fail
      refine (take_next (w.heap.size + 1) w.heap.size a' (16 - 2 * 2) c' xs 2 (16 - 2 * 3) (8 + 2 * 2) (8 + 2 * 3) wr br hx' hc' (by omega) rfl rfl (by omega)).mono ?_
      rintro e w9 ⟨rfl, ht⟩
      rw [← HD.out 2]
      obtain ⟨⟨a9, c9, br9, hx9, hc9⟩, far9, hz9, bel9⟩ := ht
      have bi9 : Blk w9 (w.heap.size + 2) 36 #[.int .i64 K, .int .i64 L, .int .i64 S, .int .i64 (D 0 : Int), .int .i64 (D 1 : Int), .int .i64 0, .int .i64 0, .int .i64 0, .int .i64 0, .int .i64 0, .int .i64 0] := far9 (by omega) bi
      have bg9 := far9 (by omega) bg
      have hb9 := hb.trans (bel9 (by omega))
      clear far9 bel9 bi bg br hx' hb
      have i9 := bi9.cellv (i := 5) rfl
      have f9 := bi9.frozen 5
      go_wp2
      go_roundw
      case rel => exact ⟨3, by omega, rfl, bi9.set 5 _, bg9.far (by simp) _, ⟨a9, c9, br9.far (by simp) _, hx9.below ((Below.refl _ _).setCell (by simp) _), hc9⟩, hb9.setCell (by simp) _, by simp; omega⟩
      case measure => simp [intOf]
    · go_wp2_with fail
      refine (take_next (w.heap.size + 1) w.heap.size a' (16 - 2 * 3) c' xs 2 (16 - 2 * 4) (8 + 2 * 3) (8 + 2 * 4) wr br hx' hc' (by omega) rfl rfl (by omega)).mono ?_
      rintro e w9 ⟨rfl, ht⟩
      rw [← HD.out 3]
      obtain ⟨⟨a9, c9, br9, hx9, hc9⟩, far9, hz9, bel9⟩ := ht
      have bi9 : Blk w9 (w.heap.size + 2) 36 #[.int .i64 K, .int .i64 L, .int .i64 S, .int .i64 (D 0 : Int), .int .i64 (D 1 : Int), .int .i64 (D 2 : Int), .int .i64 0, .int .i64 0, .int .i64 0, .int .i64 0, .int .i64 0] := far9 (by omega) bi
      have bg9 := far9 (by omega) bg
      have hb9 := hb.trans (bel9 (by omega))
      clear far9 bel9 bi bg br hx' hb
      have i9 := bi9.cellv (i := 6) rfl
      have f9 := bi9.frozen 6
      go_wp2
      go_roundw
      case rel => exact ⟨4, by omega, rfl, bi9.set 6 _, bg9.far (by simp) _, ⟨a9, c9, br9.far (by simp) _, hx9.below ((Below.refl _ _).setCell (by simp) _), hc9⟩, hb9.setCell (by simp) _, by simp; omega⟩
      case measure => simp [intOf]
    · go_wp2_with fail
      refine (take_next (w.heap.size + 1) w.heap.size a' (16 - 2 * 4) c' xs 2 (16 - 2 * 5) (8 + 2 * 4) (8 + 2 * 5) wr br hx' hc' (by omega) rfl rfl (by omega)).mono ?_
      rintro e w9 ⟨rfl, ht⟩
      rw [← HD.out 4]
      obtain ⟨⟨a9, c9, br9, hx9, hc9⟩, far9, hz9, bel9⟩ := ht
      have bi9 : Blk w9 (w.heap.size + 2) 36 #[.int .i64 K, .int .i64 L, .int .i64 S, .int .i64 (D 0 : Int), .int .i64 (D 1 : Int), .int .i64 (D 2 : Int), .int .i64 (D 3 : Int), .int .i64 0, .int .i64 0, .int .i64 0, .int .i64 0] := far9 (by omega) bi
      have bg9 := far9 (by omega) bg
      have hb9 := hb.trans (bel9 (by omega))
      clear far9 bel9 bi bg br hx' hb
      have i9 := bi9.cellv (i := 7) rfl
      have f9 := bi9.frozen 7
      go_wp2
      go_roundw
      case rel => exact ⟨5, by omega, rfl, bi9.set 7 _, bg9.far (by simp) _, ⟨a9, c9, br9.far (by simp) _, hx9.below ((Below.refl _ _).setCell (by simp) _), hc9⟩, hb9.setCell (by simp) _, by simp; omega⟩
      case measure => simp [intOf]
    · go_wp2_with fail
      refine (take_next (w.heap.size + 1) w.heap.size a' (16 - 2 * 5) c' xs 2 (16 - 2 * 6) (8 + 2 * 5) (8 + 2 * 6) wr br hx' hc' (by omega) rfl rfl (by omega)).mono ?_
      rintro e w9 ⟨rfl, ht⟩
      rw [← HD.out 5]
      obtain ⟨⟨a9, c9, br9, hx9, hc9⟩, far9, hz9, bel9⟩ := ht
      have bi9 : Blk w9 (w.heap.size + 2) 36 #[.int .i64 K, .int .i64 L, .int .i64 S, .int .i64 (D 0 : Int), .int .i64 (D 1 : Int), .int .i64 (D 2 : Int), .int .i64 (D 3 : Int), .int .i64 (D 4 : Int), .int .i64 0, .int .i64 0, .int .i64 0] := far9 (by omega) bi
      have bg9 := far9 (by omega) bg
      have hb9 := hb.trans (bel9 (by omega))
      clear far9 bel9 bi bg br hx' hb
      have i9 := bi9.cellv (i := 8) rfl
      have f9 := bi9.frozen 8
      go_wp2
      go_roundw
      case rel => exact ⟨6, by omega, rfl, bi9.set 8 _, bg9.far (by simp) _, ⟨a9, c9, br9.far (by simp) _, hx9.below ((Below.refl _ _).setCell (by simp) _), hc9⟩, hb9.setCell (by simp) _, by simp; omega⟩
      case measure => simp [intOf]
    · go_wp2_with fail
      refine (take_next (w.heap.size + 1) w.heap.size a' (16 - 2 * 6) c' xs 2 2 (8 + 2 * 6) 22 wr br hx' hc' (by omega) rfl rfl (by omega)).mono ?_
      rintro e w9 ⟨rfl, ht⟩
      obtain ⟨⟨a9, c9, br9, hx9, hc9⟩, far9, hz9, bel9⟩ := ht
      have bi9 : Blk w9 (w.heap.size + 2) 36 #[.int .i64 K, .int .i64 L, .int .i64 S, .int .i64 (D 0 : Int), .int .i64 (D 1 : Int), .int .i64 (D 2 : Int), .int .i64 (D 3 : Int), .int .i64 (D 4 : Int), .int .i64 (D 5 : Int), .int .i64 0, .int .i64 0] := far9 (by omega) bi
      have bg9 := far9 (by omega) bg
      have hb9 := hb.trans (bel9 (by omega))
      clear far9 bel9 bi bg br hx' hb
      generalize hA : numL ((xs.drop (8 + 2 * 6)).take 2) = A
      have HA := Lib.hid hA
      clear hA
      go_wp2_with fail
      refine (take_next (w.heap.size + 1) w.heap.size a9 2 c9 xs 2 0 22 24 w9 br9 hx9 hc9 (by omega) rfl rfl (by omega)).mono ?_
      rintro e w10 ⟨rfl, ht⟩
      obtain ⟨⟨a10, c10, br10, hx10, hc10⟩, far10, hz10, bel10⟩ := ht
      have bi10 := far10 (by omega) bi9
      have bg10 := far10 (by omega) bg9
      have hb10 := hb9.trans (bel10 (by omega))
      clear far10 bel10 bi9 bg9 br9 hx9 hb9 br10 hx10
      generalize hE : numL ((xs.drop 22).take 2) = E
      have HE := Lib.hid hE
      clear hE
      have bi11 : Blk ((w10.setCell ⟨w.heap.size + 2, 9, none⟩ (.int .i64 A)).setCell ⟨w.heap.size + 2, 10, none⟩ (.int .i64 E)) (w.heap.size + 2) 36 #[.int .i64 K, .int .i64 L, .int .i64 S, .int .i64 (D 0 : Int), .int .i64 (D 1 : Int), .int .i64 (D 2 : Int), .int .i64 (D 3 : Int), .int .i64 (D 4 : Int), .int .i64 (D 5 : Int), .int .i64 A, .int .i64 E] := (bi10.set 9 _).set 10 _
      have bg11 := (bg10.far (p := ⟨w.heap.size + 2, 9, none⟩) (by simp) (.int .i64 A)).far (p := ⟨w.heap.size + 2, 10, none⟩) (by simp) (.int .i64 E)
      have hb11 := Lib.hid ((hb10.setCell (p := ⟨w.heap.size + 2, 9, none⟩) (by simp) (.int .i64 A)).setCell (p := ⟨w.heap.size + 2, 10, none⟩) (by simp) (.int .i64 E))
      have BI := Lib.hid bi11
      have BG := Lib.hid bg11
      have i9 := bi10.cellv (i := 9) rfl
      have i10 := bi10.cellv (i := 10) rfl
      have f9 := bi10.frozen 9
      have f10 := bi10.frozen 10
      have hraw : Nod.raw xs = ⟨K, L, S, D 0, D 1, D 2, D 3, D 4, D 5, A, E⟩ := by
        simp only [Nod.raw, HD.out, ← HK.out, ← HL.out, ← HS.out, ← HA.out, ← HE.out, List.drop_zero]
      have Hraw := Lib.hid hraw
      clear hraw bi10 bg10 hb10 bg11
      by_cases hg : gap = 0
      case neg =>
        have hrr := Lib.hid (Nod.read_bad hlen.out (fun h => hg (by rw [← Hgap.out]; exact h.1)))
        have hg' : ((gap : Int) != 0) = true := by rw [bne_iff_ne]; omega
        clear hg
        go_wp2_with (refine wpList_store_blk rfl rfl _ _ _ rfl w.heap.size #[.int .i64 0, .int .i64 0, .int .i64 0, .int .i64 0, .int .i64 0, .int .i64 0, .int .i64 0, .int .i64 0, .int .i64 0, .int .i64 0, .int .i64 0] rfl rfl 36 #[.int .i64 0, .int .i64 0, .int .i64 0, .int .i64 0, .int .i64 0, .int .i64 0, .int .i64 0, .int .i64 0, .int .i64 0, .int .i64 0, .int .i64 0] BG.out rfl nodInfo (nodOne ⟨0, 0, 0, 0, 0, 0, 0, 0, 0, 0, 0⟩) ?_)
        have q := BG.out.row #[.int .i64 0, .int .i64 0, .int .i64 0, .int .i64 0, .int .i64 0, .int .i64 0, .int .i64 0, .int .i64 0, .int .i64 0, .int .i64 0, .int .i64 0]
        have z0 := q.cellv (i := 0) rfl
        have z1 := q.cellv (i := 1) rfl
        have z2 := q.cellv (i := 2) rfl
        have z3 := q.cellv (i := 3) rfl
        have z4 := q.cellv (i := 4) rfl
        have z5 := q.cellv (i := 5) rfl
        have z6 := q.cellv (i := 6) rfl
        have z7 := q.cellv (i := 7) rfl
        have z8 := q.cellv (i := 8) rfl
        have z9 := q.cellv (i := 9) rfl
        have z10 := q.cellv (i := 10) rfl
        refine bodyPost_ret (v := .tuple #[.agg #[.int .i64 0, .int .i64 0, .int .i64 0, .int .i64 0, .int .i64 0, .int .i64 0, .int .i64 0, .int .i64 0, .int .i64 0, .int .i64 0, .int .i64 0], .int .i64 51]) (by simp [results, Try.results18, go_sem, *]) rfl ⟨?_, hb11.out.setRow_ (Nat.le_refl _) _⟩
        rw [hrr.out.1, hrr.out.2]
        rfl
      subst hg
      have y0 := bi11.cellv (i := 0) rfl
      have y1 := bi11.cellv (i := 1) rfl
      have y2 := bi11.cellv (i := 2) rfl
      have y3 := bi11.cellv (i := 3) rfl
      have y4 := bi11.cellv (i := 4) rfl
      have y5 := bi11.cellv (i := 5) rfl
      have y6 := bi11.cellv (i := 6) rfl
      have y7 := bi11.cellv (i := 7) rfl
      have y8 := bi11.cellv (i := 8) rfl
      have y9 := bi11.cellv (i := 9) rfl
      have y10 := bi11.cellv (i := 10) rfl
      by_cases hr : Nod.Right ⟨K, L, S, D 0, D 1, D 2, D 3, D 4, D 5, A, E⟩
      case neg =>
        have hrr := Lib.hid (Nod.read_bad hlen.out (fun h => hr (by rw [← Hraw.out]; exact h.2)))
        have hb := Lib.hid (Nod.rightB_no hr)
        clear hr
        go_wp2_with fail
        refine (right_calls ⟨K, L, S, D 0, D 1, D 2, D 3, D 4, D 5, A, E⟩ _).mono ?_
        rw [hb.out]
        rintro e w12 ⟨rfl, hbb⟩
        have BG2 := Lib.hid (BG.out.belowHere hbb)
        have hb12 := Lib.hid (Below.then_ hb11.out hbb)
        clear hbb y0 y1 y2 y3 y4 y5 y6 y7 y8 y9 y10
        go_wp2_with (refine wpList_store_blk rfl rfl _ _ _ rfl w.heap.size #[.int .i64 0, .int .i64 0, .int .i64 0, .int .i64 0, .int .i64 0, .int .i64 0, .int .i64 0, .int .i64 0, .int .i64 0, .int .i64 0, .int .i64 0] rfl rfl 36 #[.int .i64 0, .int .i64 0, .int .i64 0, .int .i64 0, .int .i64 0, .int .i64 0, .int .i64 0, .int .i64 0, .int .i64 0, .int .i64 0, .int .i64 0] BG2.out rfl nodInfo (nodOne ⟨0, 0, 0, 0, 0, 0, 0, 0, 0, 0, 0⟩) ?_)
        have q := BG2.out.row #[.int .i64 0, .int .i64 0, .int .i64 0, .int .i64 0, .int .i64 0, .int .i64 0, .int .i64 0, .int .i64 0, .int .i64 0, .int .i64 0, .int .i64 0]
        have z0 := q.cellv (i := 0) rfl
        have z1 := q.cellv (i := 1) rfl
        have z2 := q.cellv (i := 2) rfl
        have z3 := q.cellv (i := 3) rfl
        have z4 := q.cellv (i := 4) rfl
        have z5 := q.cellv (i := 5) rfl
        have z6 := q.cellv (i := 6) rfl
        have z7 := q.cellv (i := 7) rfl
        have z8 := q.cellv (i := 8) rfl
        have z9 := q.cellv (i := 9) rfl
        have z10 := q.cellv (i := 10) rfl
        refine bodyPost_ret (v := .tuple #[.agg #[.int .i64 0, .int .i64 0, .int .i64 0, .int .i64 0, .int .i64 0, .int .i64 0, .int .i64 0, .int .i64 0, .int .i64 0, .int .i64 0, .int .i64 0], .int .i64 51]) (by simp [results, Try.results18, go_sem, *]) rfl ⟨?_, hb12.out.setRow_ (Nat.le_refl _) _⟩
        rw [hrr.out.1, hrr.out.2]
        rfl
      have hrr := Lib.hid (Nod.read_good hlen.out Hgap.out (by rw [Hraw.out]; exact hr))
      have hb := Lib.hid (Nod.rightB_yes hr)
      clear hr
      go_wp2_with fail
      refine (right_calls ⟨K, L, S, D 0, D 1, D 2, D 3, D 4, D 5, A, E⟩ _).mono ?_
      rw [hb.out]
      rintro e w12 ⟨rfl, hbb⟩
      have BG2 := Lib.hid (BG.out.belowHere hbb)
      have BI2 := Lib.hid (BI.out.belowHere hbb)
      have hb12 := Lib.hid (Below.then_ hb11.out hbb)
      clear hbb y0 y1 y2 y3 y4 y5 y6 y7 y8 y9 y10
      have y0 := BI2.out.cellv (i := 0) rfl
      have y1 := BI2.out.cellv (i := 1) rfl
      have y2 := BI2.out.cellv (i := 2) rfl
      have y3 := BI2.out.cellv (i := 3) rfl
      have y4 := BI2.out.cellv (i := 4) rfl
      have y5 := BI2.out.cellv (i := 5) rfl
      have y6 := BI2.out.cellv (i := 6) rfl
      have y7 := BI2.out.cellv (i := 7) rfl
      have y8 := BI2.out.cellv (i := 8) rfl
      have y9 := BI2.out.cellv (i := 9) rfl
      have y10 := BI2.out.cellv (i := 10) rfl
      go_wp2_with (refine wpList_store_blk rfl rfl _ _ _ rfl w.heap.size #[.int .i64 K, .int .i64 L, .int .i64 S, .int .i64 (D 0 : Int), .int .i64 (D 1 : Int), .int .i64 (D 2 : Int), .int .i64 (D 3 : Int), .int .i64 (D 4 : Int), .int .i64 (D 5 : Int), .int .i64 A, .int .i64 E] rfl rfl 36 #[.int .i64 0, .int .i64 0, .int .i64 0, .int .i64 0, .int .i64 0, .int .i64 0, .int .i64 0, .int .i64 0, .int .i64 0, .int .i64 0, .int .i64 0] BG2.out rfl nodInfo (nodOne ⟨K, L, S, D 0, D 1, D 2, D 3, D 4, D 5, A, E⟩) ?_)
      clear y0 y1 y2 y3 y4 y5 y6 y7 y8 y9 y10
      have q := BG2.out.row #[.int .i64 K, .int .i64 L, .int .i64 S, .int .i64 (D 0 : Int), .int .i64 (D 1 : Int), .int .i64 (D 2 : Int), .int .i64 (D 3 : Int), .int .i64 (D 4 : Int), .int .i64 (D 5 : Int), .int .i64 A, .int .i64 E]
      have z0 := q.cellv (i := 0) rfl
      have z1 := q.cellv (i := 1) rfl
      have z2 := q.cellv (i := 2) rfl
      have z3 := q.cellv (i := 3) rfl
      have z4 := q.cellv (i := 4) rfl
      have z5 := q.cellv (i := 5) rfl
      have z6 := q.cellv (i := 6) rfl
      have z7 := q.cellv (i := 7) rfl
      have z8 := q.cellv (i := 8) rfl
      have z9 := q.cellv (i := 9) rfl
      have z10 := q.cellv (i := 10) rfl
      refine bodyPost_ret (v := .tuple #[.agg #[.int .i64 K, .int .i64 L, .int .i64 S, .int .i64 (D 0 : Int), .int .i64 (D 1 : Int), .int .i64 (D 2 : Int), .int .i64 (D 3 : Int), .int .i64 (D 4 : Int), .int .i64 (D 5 : Int), .int .i64 A, .int .i64 E], .int .i64 0]) (by simp [results, Try.results18, go_sem, *]) rfl ⟨?_, hb12.out.setRow_ (Nat.le_refl _) _⟩
      rw [hrr.out.1, hrr.out.2, Hraw.out]
end Go.Proofs.Ytjnjemhnceejeaa
