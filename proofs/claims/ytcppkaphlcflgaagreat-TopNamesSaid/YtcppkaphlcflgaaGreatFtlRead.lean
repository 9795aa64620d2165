import Derived.Test.YtcppkaphlcflgaaGreatFtlPut2
import Derived.Deep.RegionHeld3
import Derived.Deep.DrawnRows
namespace Go.Proofs.YtcppkaphlcflgaaGreat
open Lib (hid)
set_option maxRecDepth 100000
set_option maxHeartbeats 16000000
section
open Go.RowKit

theorem rd_full {xs : List UInt8} {m : Nat} (hl : xs.length = m + 32) (h : Tg.Fits m) (hf : Tg.full xs = true) : Tg.readT xs = Tg.zero ∧ Tg.readP xs = [] ∧ Tg.readE xs = 20 := by
 unfold Tg.readT Tg.readP Tg.readE
 rw [hl, Nat.add_sub_cancel, hf, if_neg (by simp), if_neg (by simp), if_pos h, if_pos rfl]
 exact ⟨rfl, rfl, rfl⟩
theorem rd_torn {xs : List UInt8} {m : Nat} (hl : xs.length = m + 32) (h : Tg.Fits m) (hf : Tg.full xs = false) (hg : ¬ Tg.Good (xs.take m) (xs.drop m)) : Tg.readT xs = Tg.zero ∧ Tg.readP xs = [] ∧ Tg.readE xs = 21 := by
 unfold Tg.readT Tg.readP Tg.readE
 rw [hl, Nat.add_sub_cancel, hf, if_neg (fun g => hg g.2.2), if_neg (fun g => hg g.2.2), if_pos h, if_neg (by simp), if_neg hg]
 exact ⟨rfl, rfl, rfl⟩
theorem rd_good {xs : List UInt8} {m : Nat} (hl : xs.length = m + 32) (h : Tg.Fits m) (hf : Tg.full xs = false) (hg : Tg.Good (xs.take m) (xs.drop m)) : Tg.readT xs = Tg.raw (xs.drop m) ∧ Tg.readP xs = xs.take m ∧ Tg.readE xs = 0 := by
 unfold Tg.readT Tg.readP Tg.readE
 rw [hl, Nat.add_sub_cancel, hf, if_pos ⟨h, rfl, hg⟩, if_pos ⟨h, rfl, hg⟩, if_pos h, if_neg (by simp), if_pos hg]
 exact ⟨rfl, rfl, rfl⟩
theorem tagOne (k : Int) (p s e : Int) : (#[.int .i64 k, .int .u32 p, .int .u64 s, .int .u64 e] : Array Value).all (·.oneCell') = true := by simp [Value.oneCell']
theorem tagInfo : (Tryz.prog.info? 103).map (·.size) = some 4 := by kernel_rfl
def Rdw (xs : List UInt8) (w : World) (e : Ending) (w' : World) : Prop :=
 ∃ a n c, e = .returned (.tuple #[tagV (Tg.readT xs), .slice a n c, .int .i64 (Tg.readE xs)]) ∧ Bytes w' w'.heap.size a n (Tg.readP xs) ∧ n ≤ c ∧ Below w.heap.size w w' ∧ (∀ b o, a = some ⟨b, o, none⟩ → w.heap.size ≤ b ∧ b < w'.heap.size) ∧ Own byteV 5 w' w.heap.size (.slice a n c) (Tg.readP xs)
theorem rdw_none {xs : List UInt8} {w w' : World} {e : Ending} {x : Int} (h : Tg.readT xs = Tg.zero ∧ Tg.readP xs = [] ∧ Tg.readE xs = x) (he : e = .returned (.tuple #[tagV Tg.zero, .slice none 0 0, .int .i64 x])) (hb : Below w.heap.size w w') : Rdw xs w e w' := by
 obtain ⟨h1, h2, h3⟩ := h
 refine ⟨none, 0, 0, ?_, ?_, Nat.le_refl _, hb, (fun b o e => by cases e), by rw [h2]; exact Own.nil _ _⟩
 ·rw [he, h1, h3]
 ·rw [h2]; exact Arr.none_ _ _ _
theorem tread_body (a : Option Addr) (m c : Nat) (xs : List UInt8) (w : World) (hx : Bytes w w.heap.size a (m + 32) xs) (hc : m + 32 ≤ c) (hf : Tg.Fits m) (hfull : Tg.full xs = false) :
  Calls Tryz.prog 125 #[.slice a (m + 32 : Nat) c] w (Rdw xs w) := by
 have hmf : ∀ (fn : Fn) (first cap : Array Value) (w : World), (Instr.makeFunc fn first cap).run Tryz.prog w = .ok (.func fn first cap) w := fun _ _ _ _ => rfl
 have HXa := hid (hx.alloc (.cells #[.int .i64 0, .int .u32 0, .int .u64 0, .int .u64 0] 103))
 have hb0 : 64 ≤ m ∧ m ≤ 512 := by unfold Tg.Fits at hf; omega
 obtain ⟨hb1, hb2⟩ := hb0
 have HF := hid hf
 have HL := hid hx.len
 have hcut := cutB_from a (m + 32) c m (by omega)
 rw [show m + 32 - m = 32 by omega] at hcut
 have hld : (xs.drop m).length = 32 := by rw [List.length_drop, hx.len]; omega
 have hxd := hx.drop (l := m) (by omega) hc
 rw [show m + 32 - m = 32 by omega] at hxd
 have hto := cutB_to a (m + 32) c (m + 24) (by omega)
 rw [show ((m + 24 : Nat) : Int) = (m : Int) + 24 by omega] at hto
 have HTO := hid hto
 have HX := hid hx
 have hrb := Tg.raw_bounds (xs.drop m)
 obtain ⟨d, hd⟩ : ∃ d, d = xs.drop m := ⟨_, rfl⟩
 rw [← hd] at hld hxd hrb
 have HD := hid hd
 have HLD := hid hld
 have HXD := hid hxd
 have HRB := hid hrb
 have HFL := hid hfull
 clear hf hx hto hxd hld hrb hd hfull
 go_enter Tryz.func125, Tryz.ntmps125
 go_wp2_with fail
 refine (fits_yes m HF.out _).mono ?_
 rintro e w_ ⟨rfl, rfl⟩
 go_wp2_with fail
 refine (erased_calls a _ c xs _ HXa.out).mono ?_
 rintro e w_ ⟨rfl, rfl⟩
 rw [HFL.out]
 obtain ⟨w2, hw2⟩ : ∃ w2, w2 = (w.alloc (.cells #[.int .i64 0, .int .u32 0, .int .u64 0, .int .u64 0] 103)).alloc (.cells #[.slice (cutA a c m) 32 (c - m : Nat)] 40) := ⟨_, rfl⟩
 have hb2' : Below w.heap.size w w2 := by rw [hw2]; exact ((Below.refl _ _).alloc (Nat.le_refl _) _).alloc (by simp) _
 have hz2 : w2.heap.size = w.heap.size + 2 := by rw [hw2]; simp
 have bg2 : Blk w2 w.heap.size 103 #[.int .i64 0, .int .u32 0, .int .u64 0, .int .u64 0] := by rw [hw2]; exact (Blk.new w _ _).alloc _
 have br2 : Blk w2 (w.heap.size + 1) 40 #[.slice (cutA a c m) 32 (c - m : Nat)] := by
  have h := Blk.new (w.alloc (.cells #[.int .i64 0, .int .u32 0, .int .u64 0, .int .u64 0] 103)) 40 #[.slice (cutA a c m) 32 (c - m : Nat)]
  rw [show (w.alloc (.cells #[.int .i64 0, .int .u32 0, .int .u64 0, .int .u64 0] 103)).heap.size = w.heap.size + 1 by simp] at h
  rw [hw2]; exact h
 have hx2 : Bytes w2 w.heap.size (cutA a c m) 32 (d.drop 0) := by rw [List.drop_zero]; exact HXD.out.below hb2'
 go_wp2_with fail
 rw [← hw2]
 clear hw2 hmf hcut
 refine (ttake_next (w.heap.size + 1) w.heap.size (cutA a c m) 32 (c - m) d 2 30 0 2 w2 br2 hx2 (by omega) (by omega) rfl rfl (by omega)).mono ?_
 rintro _ w3 ⟨rfl, ht⟩
 obtain ⟨⟨a3, c3, br3, hx3, hc3⟩, far3, hz3, bel3⟩ := ht
 have bg3 := far3 (by omega) bg2
 have hb3 := hb2'.trans (bel3 (by omega))
 clear far3 bel3 br2 hx2 hb2' bg2
 have nM := Tg.num_lt (d := d) (i := 0) (k := 2)
 generalize hM : Tg.num d 0 2 = M at *
 have HM := hid hM
 have HNM := hid nM
 clear hM nM
 go_wp2_with fail
 refine (ttake_next (w.heap.size + 1) w.heap.size a3 30 c3 d 1 29 2 3 w3 br3 hx3 hc3 (by omega) rfl rfl (by omega)).mono ?_
 rintro _ w4 ⟨rfl, ht⟩
 obtain ⟨⟨a4, c4, br4, hx4, hc4⟩, far4, hz4, bel4⟩ := ht
 have bg4 := far4 (by omega) bg3
 have hb4 := hb3.trans (bel4 (by omega))
 clear far4 bel4 br3 hx3 hb3 bg3
 have nK : Tg.num d 2 1 < 256 := Tg.num_lt (d := d) (i := 2) (k := 1)
 generalize hK : Tg.num d 2 1 = K at *
 have HK := hid hK
 clear hK
 go_wp2_with fail
 refine (ttake_next (w.heap.size + 1) w.heap.size a4 29 c4 d 1 28 3 4 w4 br4 hx4 hc4 (by omega) rfl rfl (by omega)).mono ?_
 rintro _ w5 ⟨rfl, ht⟩
 obtain ⟨⟨a5, c5, br5, hx5, hc5⟩, far5, hz5, bel5⟩ := ht
 have bg5 := far5 (by omega) bg4
 have hb5 := hb4.trans (bel5 (by omega))
 clear far5 bel5 br4 hx4 hb4 bg4
 generalize hG : Tg.num d 3 1 = G at *
 have HG := hid hG
 clear hG
 go_wp2_with fail
 refine (ttake_next (w.heap.size + 1) w.heap.size a5 28 c5 d 4 24 4 8 w5 br5 hx5 hc5 (by omega) rfl rfl (by omega)).mono ?_
 rintro _ w6 ⟨rfl, ht⟩
 obtain ⟨⟨a6, c6, br6, hx6, hc6⟩, far6, hz6, bel6⟩ := ht
 have bg6 := far6 (by omega) bg5
 have hb6 := hb5.trans (bel6 (by omega))
 clear far6 bel6 br5 hx5 hb5 bg5
 have nP : Tg.num d 4 4 < 4294967296 := Tg.num_lt (d := d) (i := 4) (k := 4)
 generalize hP : Tg.num d 4 4 = P at *
 have HP := hid hP
 clear hP
 obtain ⟨w7, hw7⟩ : ∃ w7, w7 = w6.alloc (.cells #[.int .i64 K, .int .u32 P, .int .u64 0, .int .u64 0] 103) := ⟨_, rfl⟩
 have bel7 : Below w6.heap.size w6 w7 := by rw [hw7]; exact (Below.refl _ _).alloc (Nat.le_refl _) _
 have bg7 := bg6.belowHere bel7
 have br7 := br6.belowHere bel7
 have hx7 := hx6.below (bel7.mono (by omega))
 have hb7 := hb6.trans (bel7.mono (by omega))
 have hz7 : w7.heap.size = w.heap.size + 3 := by rw [hw7]; simp; omega
 have bi7 : Blk w7 w6.heap.size 103 #[.int .i64 K, .int .u32 P, .int .u64 0, .int .u64 0] := by rw [hw7]; exact Blk.new _ _ _
 rw [show w6.heap.size = w.heap.size + 2 by omega] at bi7
 have HZ6 := hid (show w6.heap.size = w.heap.size + 2 by omega)
 clear bg6 br6 hx6 hb6 bel7
 go_wp2_with fail
 rw [← hw7]
 clear hw7
 refine (ttake_next (w.heap.size + 1) w.heap.size a6 24 c6 d 8 16 8 16 w7 br7 hx7 (by omega) (by omega) rfl rfl (by omega)).mono ?_
 rintro _ w8 ⟨rfl, ht⟩
 obtain ⟨⟨a8, c8, br8, hx8, hc8⟩, far8, hz8, bel8⟩ := ht
 have bg8 := far8 (by omega) bg7
 have bi8 := far8 (by omega) bi7
 have hb8 := hb7.trans (bel8 (by omega))
 clear far8 bel8 br7 hx7 hb7 bg7 bi7
 have nS : Tg.num d 8 8 < 18446744073709551616 := Tg.num_lt (d := d) (i := 8) (k := 8)
 generalize hS : Tg.num d 8 8 = S at *
 have HS := hid hS
 have HNS := hid nS
 clear hS nS
 go_wp2_with fail
 refine (ttake_next (w.heap.size + 1) w.heap.size a8 16 c8 d 8 8 16 24 w8 br8 hx8 (by omega) (by omega) rfl rfl (by omega)).mono ?_
 rintro _ w9 ⟨rfl, ht⟩
 obtain ⟨⟨a9, c9, br9, hx9, hc9⟩, far9, hz9, bel9⟩ := ht
 have bg9 := far9 (by omega) bg8
 have bi9 := far9 (by omega) bi8
 have hb9 := hb8.trans (bel9 (by omega))
 clear far9 bel9 br8 hx8 hb8 bg8 bi8
 have nE : Tg.num d 16 8 < 18446744073709551616 := Tg.num_lt (d := d) (i := 16) (k := 8)
 generalize hE : Tg.num d 16 8 = E at *
 have HE := hid hE
 have HNE := hid nE
 clear hE nE
 have i2 := bi9.cellv (i := 2) rfl
 have i3 := bi9.cellv (i := 3) rfl
 have f2 := bi9.frozen 2
 have f3 := bi9.frozen 3
 have bi10 : Blk ((w9.setCell ⟨w.heap.size + 2, 2, none⟩ (.int .u64 S)).setCell ⟨w.heap.size + 2, 3, none⟩ (.int .u64 E)) (w.heap.size + 2) 103 #[.int .i64 K, .int .u32 P, .int .u64 S, .int .u64 E] := (bi9.set 2 _).set 3 _
 have bg10 := (bg9.far (p := ⟨w.heap.size + 2, 2, none⟩) (by simp) (.int .u64 S)).far (p := ⟨w.heap.size + 2, 3, none⟩) (by simp) (.int .u64 E)
 have br10 := (br9.far (p := ⟨w.heap.size + 2, 2, none⟩) (by simp) (.int .u64 S)).far (p := ⟨w.heap.size + 2, 3, none⟩) (by simp) (.int .u64 E)
 have hb10 := (hb9.setCell (p := ⟨w.heap.size + 2, 2, none⟩) (by simp) (.int .u64 S)).setCell (p := ⟨w.heap.size + 2, 3, none⟩) (by simp) (.int .u64 E)
 have hx10 := hx9.below (((Below.refl w.heap.size w9).setCell (p := ⟨w.heap.size + 2, 2, none⟩) (by simp) (.int .u64 S)).setCell (p := ⟨w.heap.size + 2, 3, none⟩) (by simp) (.int .u64 E))
 have HI10 := hid bi10
 have HG10 := hid bg10
 have HR10 := hid br10
 have HB10 := hid hb10
 have HX10 := hid hx10
 have HZ10 := hid (show ((w9.setCell ⟨w.heap.size + 2, 2, none⟩ (.int .u64 S)).setCell ⟨w.heap.size + 2, 3, none⟩ (.int .u64 E)).heap.size = w.heap.size + 3 by simp; omega)
 clear bi10 bg10 br10 hb10 hx10 bi9 bg9 br9 hb9 hx9
 go_wp2_with fail
 clear i2 i3 f2 f3
 refine (ttake_next (w.heap.size + 1) w.heap.size a9 8 c9 d 4 4 24 28 _ HR10.out HX10.out (by omega) (by omega) rfl rfl (by omega)).mono ?_
 rintro _ w11 ⟨rfl, ht⟩
 obtain ⟨⟨a11, c11, br11, hx11, hc11⟩, far11, hz11, bel11⟩ := ht
 have bg11 := far11 (by omega) HG10.out
 have bi11 := far11 (by omega) HI10.out
 have hb11 := HB10.out.trans (bel11 (by omega))
 rw [HZ10.out] at hz11
 clear far11 bel11 HG10 HI10 HR10 HX10 HB10 HZ10
 have nU : Tg.num d 24 4 < 4294967296 := Tg.num_lt (d := d) (i := 24) (k := 4)
 generalize hU : Tg.num d 24 4 = U at *
 have HU := hid hU
 clear hU
 go_wp2_with fail
 refine (ttake_next (w.heap.size + 1) w.heap.size a11 4 c11 d 4 0 28 32 w11 br11 hx11 (by omega) (by omega) rfl rfl (by omega)).mono ?_
 rintro _ w12 ⟨rfl, ht⟩
 obtain ⟨⟨a12, c12, br12, hx12, hc12⟩, far12, hz12, bel12⟩ := ht
 have bg12 := far12 (by omega) bg11
 have bi12 := far12 (by omega) bi11
 have hb12 := hb11.trans (bel12 (by omega))
 rw [hz11] at hz12
 have HBG := hid bg12
 have HBI := hid bi12
 have HB12 := hid hb12
 have HZ12 := hid hz12
 clear far12 bel12 br11 hx11 hb11 bg11 bi11 br12 hx12 bg12 bi12 hb12 hz11 hz12 hz8 hz9 hz7 hz6 hz5 hz4 hz3 hz2 HZ6
 generalize hN : Tg.num d 28 4 = N at *
 have HN := hid hN
 clear hN
 have HT := hid (fun (hg : ¬ Tg.Good (xs.take m) d) => rd_torn HL.out HF.out HFL.out (show ¬ Tg.Good (xs.take m) (xs.drop m) by rw [← HD.out]; exact hg))
 have HRW := hid (show Tg.raw d = ⟨(K : Nat), P, S, E⟩ by simp only [Tg.raw, HK.out, HP.out, HS.out, HE.out])
 by_cases c1 : M = 21827
 case neg =>
  have hg := hid (show ¬ Tg.Good (xs.take m) d from fun h => c1 (by rw [← HM.out]; exact h.1))
  have t1 : ((M : Int) != 21827) = true := by rw [bne_iff_ne]; omega
  clear c1
  go_wp2_with (refine wpList_store_blk rfl rfl _ _ _ rfl w.heap.size #[.int .i64 0, .int .u32 0, .int .u64 0, .int .u64 0] rfl rfl 103 #[.int .i64 0, .int .u32 0, .int .u64 0, .int .u64 0] HBG.out rfl tagInfo (tagOne 0 0 0 0) ?_)
  have q := HBG.out.row #[.int .i64 0, .int .u32 0, .int .u64 0, .int .u64 0]
  have z0 := q.cellv (i := 0) rfl
  have z1 := q.cellv (i := 1) rfl
  have z2 := q.cellv (i := 2) rfl
  have z3 := q.cellv (i := 3) rfl
  refine bodyPost_ret (v := .tuple #[.agg #[.int .i64 0, .int .u32 0, .int .u64 0, .int .u64 0], .slice none 0 0, .int .i64 21]) (by simp [results, Tryz.results125, go_sem, z0, z1, z2, z3]) rfl (rdw_none (HT.out hg.out) rfl (HB12.out.setRow_ (Nat.le_refl _) _))
 subst c1
 by_cases c2 : G = 0
 case neg =>
  have hg := hid (show ¬ Tg.Good (xs.take m) d from fun h => c2 (by rw [← HG.out]; exact h.2.1))
  have t1 : ((G : Int) != 0) = true := by rw [bne_iff_ne]; omega
  clear c2
  go_wp2_with (refine wpList_store_blk rfl rfl _ _ _ rfl w.heap.size #[.int .i64 0, .int .u32 0, .int .u64 0, .int .u64 0] rfl rfl 103 #[.int .i64 0, .int .u32 0, .int .u64 0, .int .u64 0] HBG.out rfl tagInfo (tagOne 0 0 0 0) ?_)
  have q := HBG.out.row #[.int .i64 0, .int .u32 0, .int .u64 0, .int .u64 0]
  have z0 := q.cellv (i := 0) rfl
  have z1 := q.cellv (i := 1) rfl
  have z2 := q.cellv (i := 2) rfl
  have z3 := q.cellv (i := 3) rfl
  refine bodyPost_ret (v := .tuple #[.agg #[.int .i64 0, .int .u32 0, .int .u64 0, .int .u64 0], .slice none 0 0, .int .i64 21]) (by simp [results, Tryz.results125, go_sem, z0, z1, z2, z3]) rfl (rdw_none (HT.out hg.out) rfl (HB12.out.setRow_ (Nat.le_refl _) _))
 subst c2
 by_cases c3 : N = 0
 case neg =>
  have hg := hid (show ¬ Tg.Good (xs.take m) d from fun h => c3 (by rw [← HN.out]; exact h.2.2.1))
  have t1 : ((N : Int) != 0) = true := by rw [bne_iff_ne]; omega
  clear c3
  go_wp2_with (refine wpList_store_blk rfl rfl _ _ _ rfl w.heap.size #[.int .i64 0, .int .u32 0, .int .u64 0, .int .u64 0] rfl rfl 103 #[.int .i64 0, .int .u32 0, .int .u64 0, .int .u64 0] HBG.out rfl tagInfo (tagOne 0 0 0 0) ?_)
  have q := HBG.out.row #[.int .i64 0, .int .u32 0, .int .u64 0, .int .u64 0]
  have z0 := q.cellv (i := 0) rfl
  have z1 := q.cellv (i := 1) rfl
  have z2 := q.cellv (i := 2) rfl
  have z3 := q.cellv (i := 3) rfl
  refine bodyPost_ret (v := .tuple #[.agg #[.int .i64 0, .int .u32 0, .int .u64 0, .int .u64 0], .slice none 0 0, .int .i64 21]) (by simp [results, Tryz.results125, go_sem, z0, z1, z2, z3]) rfl (rdw_none (HT.out hg.out) rfl (HB12.out.setRow_ (Nat.le_refl _) _))
 subst c3
 have y0 := HBI.out.cellv (i := 0) rfl
 have y1 := HBI.out.cellv (i := 1) rfl
 have y2 := HBI.out.cellv (i := 2) rfl
 have y3 := HBI.out.cellv (i := 3) rfl
 by_cases c4 : Tg.Right ⟨(K : Nat), P, S, E⟩
 case neg =>
  have hg := hid (show ¬ Tg.Good (xs.take m) d from fun h => c4 (by rw [← HRW.out]; exact h.2.2.2.1))
  have hb := hid (Tg.rightB_no c4)
  clear c4
  go_wp2_with fail
  refine (tagRight_calls ⟨(K : Nat), P, S, E⟩ nP HNS.out HNE.out _).mono ?_
  rw [hb.out]
  rintro _ w13 ⟨rfl, hbb⟩
  have HBG3 := hid (HBG.out.belowHere hbb)
  have HB13 := hid (HB12.out.trans (hbb.mono HB12.out.size))
  clear hbb y0 y1 y2 y3
  go_wp2_with (refine wpList_store_blk rfl rfl _ _ _ rfl w.heap.size #[.int .i64 0, .int .u32 0, .int .u64 0, .int .u64 0] rfl rfl 103 #[.int .i64 0, .int .u32 0, .int .u64 0, .int .u64 0] HBG3.out rfl tagInfo (tagOne 0 0 0 0) ?_)
  have q := HBG3.out.row #[.int .i64 0, .int .u32 0, .int .u64 0, .int .u64 0]
  have z0 := q.cellv (i := 0) rfl
  have z1 := q.cellv (i := 1) rfl
  have z2 := q.cellv (i := 2) rfl
  have z3 := q.cellv (i := 3) rfl
  refine bodyPost_ret (v := .tuple #[.agg #[.int .i64 0, .int .u32 0, .int .u64 0, .int .u64 0], .slice none 0 0, .int .i64 21]) (by simp [results, Tryz.results125, go_sem, z0, z1, z2, z3]) rfl (rdw_none (HT.out hg.out) rfl (HB13.out.setRow_ (Nat.le_refl _) _))
 have hb := hid (Tg.rightB_yes c4)
 have HC4 := hid c4
 clear c4
 go_wp2_with fail
 refine (tagRight_calls ⟨(K : Nat), P, S, E⟩ nP HNS.out HNE.out _).mono ?_
 rw [hb.out]
 rintro _ w13 ⟨rfl, hbb⟩
 have HBG3 := hid (HBG.out.belowHere hbb)
 have HBI3 := hid (HBI.out.belowHere hbb)
 have HB13 := hid (HB12.out.trans (hbb.mono HB12.out.size))
 have HX13 := hid ((HX.out.below HB13.out).mono HB13.out.size)
 clear hbb y0 y1 y2 y3
 have HX24 := hid (HX13.out.take (k := m + 24) (by omega))
 have hto := HTO.out
 go_wp2_with fail
 clear hto
 refine (sum_calls a (m + 24) c (xs.take (m + 24)) _ HX24.out).mono ?_
 rintro _ w14 ⟨rfl, rfl⟩
 have hsum := (Crc.sum (xs.take (m + 24))).isLt
 have HSM := hid (show (Crc.sum (xs.take (m + 24))).toNat = (Crc.sum (xs.take m ++ d.take 24)).toNat by rw [List.take_add, HD.out])
 generalize (Crc.sum (xs.take (m + 24))).toNat = V at *
 by_cases c5 : U = V
 case neg =>
  have hg := hid (show ¬ Tg.Good (xs.take m) d from fun h => c5 (by rw [← HU.out, HSM.out]; exact h.2.2.2.2))
  have t1 : ((U : Int) != (V : Int)) = true := by rw [bne_iff_ne]; omega
  clear c5
  go_wp2_with (refine wpList_store_blk rfl rfl _ _ _ rfl w.heap.size #[.int .i64 0, .int .u32 0, .int .u64 0, .int .u64 0] rfl rfl 103 #[.int .i64 0, .int .u32 0, .int .u64 0, .int .u64 0] HBG3.out rfl tagInfo (tagOne 0 0 0 0) ?_)
  have q := HBG3.out.row #[.int .i64 0, .int .u32 0, .int .u64 0, .int .u64 0]
  have z0 := q.cellv (i := 0) rfl
  have z1 := q.cellv (i := 1) rfl
  have z2 := q.cellv (i := 2) rfl
  have z3 := q.cellv (i := 3) rfl
  refine bodyPost_ret (v := .tuple #[.agg #[.int .i64 0, .int .u32 0, .int .u64 0, .int .u64 0], .slice none 0 0, .int .i64 21]) (by simp [results, Tryz.results125, go_sem, z0, z1, z2, z3]) rfl (rdw_none (HT.out hg.out) rfl (HB13.out.setRow_ (Nat.le_refl _) _))
 subst c5
 have hgood : Tg.Good (xs.take m) d := ⟨HM.out, HG.out, HN.out, by rw [HRW.out]; exact HC4.out, by rw [HU.out]; exact HSM.out⟩
 have HRd := hid (rd_good HL.out HF.out HFL.out (show Tg.Good (xs.take m) (xs.drop m) by rw [← HD.out]; exact hgood))
 have hto := cutB_to a (m + 32) c m (by omega)
 have t1 : ((U : Int) != (U : Int)) = false := by rw [bne_eq_false_iff_eq]
 clear hgood
 have HXm := hid (HX13.out.take (k := m) (by omega))
 have y0 := HBI3.out.cellv (i := 0) rfl
 have y1 := HBI3.out.cellv (i := 1) rfl
 have y2 := HBI3.out.cellv (i := 2) rfl
 have y3 := HBI3.out.cellv (i := 3) rfl
 have HZ13 := hid (show w.heap.size + 3 ≤ w13.heap.size by have h1 := HB13.out.size; have h2 := HBI3.out.lt; omega)
 clear hb HT
 go_wp2_with fail
 go_region_held3 (fun W' => W'.cell? ⟨w.heap.size + 2, 0, none⟩ = some (.int .i64 K) ∧ W'.cell? ⟨w.heap.size + 2, 1, none⟩ = some (.int .u32 P) ∧ W'.cell? ⟨w.heap.size + 2, 2, none⟩ = some (.int .u64 S) ∧ W'.cell? ⟨w.heap.size + 2, 3, none⟩ = some (.int .u64 E)) (first | exact ⟨y0, y1, y2, y3⟩ | exact ⟨x0, x1, x2, x3⟩ | go_keep)
  ((refine step_appB rfl _ _ rfl w13.heap.size _ [] rfl (Own.nil _ _) _ a m c (xs.take m) rfl HXm.out (by simp; omega) (Nat.le_refl _) ?_; intro v15 w15 HO15 hb15; have HBG5 := hid (Blk.below (w := w13.drew) HBG3.out.drew hb15.out HBG3.out.lt); have HBI5 := hid (Blk.below (w := w13.drew) HBI3.out.drew hb15.out HBI3.out.lt); have x0 := HBI5.out.cellv (i := 0) rfl; have x1 := HBI5.out.cellv (i := 1) rfl; have x2 := HBI5.out.cellv (i := 2) rfl; have x3 := HBI5.out.cellv (i := 3) rfl; have z0 := HBG5.out.cellv (i := 0) rfl; have z1 := HBG5.out.cellv (i := 1) rfl; have z2 := HBG5.out.cellv (i := 2) rfl; have z3 := HBG5.out.cellv (i := 3) rfl; have f0 := HBG5.out.frozen 0; have f1 := HBG5.out.frozen 1; have f2 := HBG5.out.frozen 2; have f3 := HBG5.out.frozen 3))
 have hfar : v15.ownBlock ≠ some w.heap.size := fun e => by
  have h1 := (HO15.out.blockLt _ e).1
  have h2 := HZ13.out
  omega
 have HOf := hid ((((HO15.out.far (p := ⟨w.heap.size, 0, none⟩) hfar (.int .i64 K)).far (p := ⟨w.heap.size, 1, none⟩) hfar (.int .u32 P)).far (p := ⟨w.heap.size, 2, none⟩) hfar (.int .u64 S)).far (p := ⟨w.heap.size, 3, none⟩) hfar (.int .u64 E))
 have HBf := hid ((((HBG5.out.set 0 (.int .i64 K)).set 1 (.int .u32 P)).set 2 (.int .u64 S)).set 3 (.int .u64 E))
 have HBB := hid ((((((HB13.out.drew).trans (hb15.out.mono HB13.out.size)).setCell (p := ⟨w.heap.size, 0, none⟩) (Nat.le_refl _) (.int .i64 K)).setCell (p := ⟨w.heap.size, 1, none⟩) (Nat.le_refl _) (.int .u32 P)).setCell (p := ⟨w.heap.size, 2, none⟩) (Nat.le_refl _) (.int .u64 S)).setCell (p := ⟨w.heap.size, 3, none⟩) (Nat.le_refl _) (.int .u64 E))
 obtain ⟨a15, c15, rfl, hc15⟩ := HO15.out.formN (n := m) (by rw [List.nil_append]; exact HXm.out.len)
 clear x0 x1 x2 x3 y0 y1 y2 y3 z0 z1 z2 z3 f0 f1 f2 f3 hfar
 generalize ((((w15.setCell ⟨w.heap.size, 0, none⟩ (.int .i64 K)).setCell ⟨w.heap.size, 1, none⟩ (.int .u32 P)).setCell ⟨w.heap.size, 2, none⟩ (.int .u64 S)).setCell ⟨w.heap.size, 3, none⟩ (.int .u64 E)) = wf at *
 have z0 := HBf.out.cellv (i := 0) rfl
 have z1 := HBf.out.cellv (i := 1) rfl
 have z2 := HBf.out.cellv (i := 2) rfl
 have z3 := HBf.out.cellv (i := 3) rfl
 go_wp2
 refine bodyPost_ret (v := .tuple #[.agg #[.int .i64 K, .int .u32 P, .int .u64 S, .int .u64 E], .slice a15 m c15, .int .i64 0]) (by simp [results, Tryz.results125, go_sem, z0, z1, z2, z3]) rfl ⟨a15, m, c15, ?_, ?_, hc15, HBB.out, fun b o e => ?_, ?_⟩
 ·rw [HRd.out.1, HRd.out.2.2, ← HD.out, HRW.out]
 ·rw [HRd.out.2.1]
  have h := HOf.out.arr (by rw [List.nil_append, HXm.out.len]; omega)
  rw [List.nil_append] at h
  exact h
 ·have h := HOf.out.blockLt b (by rw [e]; rfl)
  have := HZ13.out
  omega
 ·rw [HRd.out.2.1]
  have h := HOf.out.mono (base' := w.heap.size) (by have := HZ13.out; omega)
  rw [List.nil_append] at h
  exact h
theorem tread_own (a : Option Addr) (m c : Nat) (xs : List UInt8) (w : World) (hx : Bytes w w.heap.size a (m + 32) xs) (hc : m + 32 ≤ c) (hf : Tg.Fits m) (h0 : Tg.readE xs = 0) :
  Calls Tryz.prog 125 #[.slice a (m + 32 : Nat) c] w (Rdw xs w) := by
 refine tread_body a m c xs w hx hc hf ?_
 cases hfull : Tg.full xs
 ·rfl
 ·have := (rd_full hx.len hf hfull).2.2
  rw [h0] at this
  cases this
end
section
namespace Crc
end Crc
namespace Tg
theorem full_at {l : List UInt8} (h : full l = true) (i : Nat) (hi : i < l.length) : l[i] = 255 := by
 rw [full, List.all_eq_true] at h
 simpa using h l[i] (List.getElem_mem hi)
theorem page_at {t : Tg} {pay : List UInt8} (i : Nat) (hi : i < 32) : (page t pay)[pay.length + i]? = (beside t pay)[i]? := by
 rw [page, List.getElem?_append_right (by omega), Nat.add_sub_cancel_left]
theorem beside_first (t : Tg) (pay : List UInt8) : (beside t pay)[0]? = some 67 := by simp [beside, head]
theorem full_getD {l : List UInt8} (h : full l = true) (i : Nat) (hi : i < l.length) : l[i]? = some 255 := by
 rw [List.getElem?_eq_getElem hi, full_at h i hi]
theorem page_notFull (t : Tg) (pay : List UInt8) : full (page t pay) = false := by
 rw [← Bool.not_eq_true]
 intro h
 have h1 := full_getD h (pay.length + 0) (by rw [page_len]; omega)
 rw [page_at 0 (by omega), beside_first] at h1
 exact absurd h1 (by decide)
theorem page_take (t : Tg) (pay : List UInt8) : (page t pay).take pay.length = pay := by
 rw [page, List.take_append_of_le_length (Nat.le_refl _), List.take_of_length_le (Nat.le_refl _)]
theorem page_drop (t : Tg) (pay : List UInt8) : (page t pay).drop pay.length = beside t pay := by
 rw [page, List.drop_append_of_le_length (Nat.le_refl _), List.drop_of_length_le (Nat.le_refl _), List.nil_append]
theorem page_good {t : Tg} (ht : Right t) (pay : List UInt8) : Good pay (beside t pay) ∧ raw (beside t pay) = t := (beside_eq_iff ht (beside_len t pay)).1 rfl
theorem read_page {t : Tg} (ht : Right t) {pay : List UInt8} (hf : Fits pay.length) : readT (page t pay) = t ∧ readP (page t pay) = pay ∧ readE (page t pay) = 0 := by
 obtain ⟨g1, g2⟩ := page_good ht pay
 unfold readT readP readE
 rw [page_len, Nat.add_sub_cancel, page_notFull, page_take, page_drop, if_pos ⟨hf, rfl, g1⟩, if_pos ⟨hf, rfl, g1⟩, if_pos hf, if_neg (by simp), if_pos g1]
 exact ⟨g2, rfl, rfl⟩
end Tg
end
section
open Go.RowKit Ftl

theorem tagCells : Tryz.prog.cellsOf 103 = 4 := by kernel_rfl
section
variable {NB B n : Nat} {R : Nat → Prop} {w : World} {f : Fm}
namespace Ftl
theorem curE_mem {p : Nat} {x : En} (h : curE f p = some x) : x ∈ f.se ++ f.no := by
 unfold curE at h
 cases hn : getE f.no p with
 | some e =>
  rw [hn] at h
  obtain rfl : e = x := Option.some.inj h
  exact List.mem_append_right _ (getE_mem hn).1
 | none =>
  rw [hn] at h
  simp only at h
  split at h
  ·cases h
  ·exact List.mem_append_left _ (getE_mem h).1
end Ftl
end
end
end Go.Proofs.YtcppkaphlcflgaaGreat
