/-
  The reference's Read.
-/
import Derived.Test.YtjnjemhnceejeaaNumNum
import Derived.Test.YtjnjemhnceejeaaInoRight2
import Derived.Deep.QuietTactic
import Derived.BigQuiet
import Derived.Deep.RegionHeld3
import Derived.Deep.DeepCutAuto
namespace Go.Proofs.Ytjnjemhnceejeaa
open Go.RowKit

theorem numL_lt2 {xs : List UInt8} (h : xs.length = 2) : numL xs < 65536 := by
  have := numL_lt xs
  rw [h] at this
  omega
theorem flipC {P : Program} {f : FuncId} {args : Array Value} {w : World} {v : Value} (h : Calls P f args w fun e w' => e = .returned v ∧ w = w') : Calls P f args w fun e w' => e = .returned v ∧ w' = w := h.mono fun _ _ ⟨h1, h2⟩ => ⟨h1, h2.symm⟩
theorem two_calls (a : Option Addr) (n c : Nat) (xs : List UInt8) (at_ : Nat) (w : World) (hx : Bytes w w.heap.size a n xs) (hnc : n ≤ c) (hk : at_ + 2 ≤ n) :
    Calls Try.prog 44 #[.slice a n c, .int .i64 at_] w fun e w' => e = .returned (.int .i64 (numL ((xs.drop at_).take 2) : Nat)) ∧ w = w' := by
  have hroom := hx.room
  have hl := hx.len
  have hcut := cutB_mid a n c at_ (at_ + 2) (by omega) (by omega) w
  have hy := (hx.drop (l := at_) (by omega) hnc).take (k := 2) (by omega)
  have hb := numL_lt2 (xs := (xs.drop at_).take 2) (by rw [List.length_take, List.length_drop]; omega)
  generalize (xs.drop at_).take 2 = ys at *
  rw [show at_ + 2 - at_ = 2 by omega, show ((at_ + 2 : Nat) : Int) = (at_ : Int) + 2 by omega] at hcut
  have HL := Lib.hid hl
  clear hl
  go_enter Try.func44, Try.ntmps44
  go_wp2_with fail
  refine (refNum_calls _ 2 _ ys _ hy (by omega)).mono ?_
  rintro e w1 ⟨rfl, rfl⟩
  go_wp2
  go_ret
  exact ⟨rfl, rfl⟩
theorem two_at (i : Int) (at_ : Nat) (a : Option Addr) (n c : Nat) (xs : List UInt8) (w : World) (hi : i = at_) (hx : Bytes w w.heap.size a n xs) (hnc : n ≤ c) (hk : at_ + 2 ≤ n) :
    Calls Try.prog 44 #[.slice a n c, .int .i64 i] w fun e w' => e = .returned (.int .i64 (numL ((xs.drop at_).take 2) : Nat)) ∧ w = w' := by
  subst hi
  exact two_calls a n c xs at_ w hx hnc hk
theorem nodOne2 (i : Nod) : (#[.int .i64 i.k, .int .i64 i.l, .int .i64 i.s, .int .i64 i.d0, .int .i64 i.d1, .int .i64 i.d2, .int .i64 i.d3, .int .i64 i.d4, .int .i64 i.d5, .int .i64 i.a, .int .i64 i.b] : Array Value).all (·.oneCell') = true := by simp [Value.oneCell']
theorem nodInfo2 : (Try.prog.info? 36).map (·.size) = some 11 := by kernel_rfl
theorem refRead_wrong (a : Option Addr) (n c : Nat) (w : World) (h : n ≠ 24) :
    Calls Try.prog 19 #[.slice a n c] w fun e w' => e = .returned (.tuple #[nodV Nod.zero, .int .i64 1]) ∧ Below w.heap.size w w' := by
  have h1 : ((n : Int) != 24) = true := by rw [bne_iff_ne]; omega
  go_enter Try.func19, Try.ntmps19
  go_wp2
  refine bodyPost_ret (v := .tuple #[nodV Nod.zero, .int .i64 1]) (by simp [results, Try.results19, go_sem, nodV, Nod.zero]) rfl ⟨rfl, ?_⟩
  exact (Below.refl _ _).alloc (Nat.le_refl _) _
set_option maxHeartbeats 4000000 in
theorem refRead_right (a : Option Addr) (c : Nat) (xs : List UInt8) (w : World) (hx : Bytes w w.heap.size a 24 xs) (hc : 24 ≤ c) :
    Calls Try.prog 19 #[.slice a 24 c] w fun e w' => e = .returned (.tuple #[nodV (Nod.readN xs), .int .i64 (Nod.readE xs)]) ∧ Below w.heap.size w w' := by
  have hlen := Lib.hid hx.len
  go_enter Try.func19, Try.ntmps19
  go_upto_region 3 with (fail)
  have bg1 := Blk.new w 36 #[.int .i64 0, .int .i64 0, .int .i64 0, .int .i64 0, .int .i64 0, .int .i64 0, .int .i64 0, .int .i64 0, .int .i64 0, .int .i64 0, .int .i64 0]
  have hb1 : Below w.heap.size w (w.alloc (.cells #[.int .i64 0, .int .i64 0, .int .i64 0, .int .i64 0, .int .i64 0, .int .i64 0, .int .i64 0, .int .i64 0, .int .i64 0, .int .i64 0, .int .i64 0] 36)) := (Below.refl _ _).alloc (Nat.le_refl _) _
  have hx1 := hx.on hb1
  have hs1 := hb1.size
  generalize w.alloc (.cells #[.int .i64 0, .int .i64 0, .int .i64 0, .int .i64 0, .int .i64 0, .int .i64 0, .int .i64 0, .int .i64 0, .int .i64 0, .int .i64 0, .int .i64 0] 36) = w1 at *
  obtain ⟨b, o, hk0, rfl, hbb, hc0⟩ := hx1.at_ (k := 0) (by omega)
  obtain ⟨b', o', hk1, hab, hbb', hc1⟩ := hx1.at_ (k := 1) (by omega)
  simp only [Option.some.injEq, Addr.mk.injEq, and_true] at hab
  obtain ⟨rfl, rfl⟩ := hab
  have hcut : ∀ w : World, (Instr.slice 37 (.slice (some ⟨b, o, none⟩) 24 c) (some (.int .i64 4)) (some (.int .i64 8)) none).run Try.prog w = .ok (.slice (cutA (some ⟨b, o, none⟩) c 4) 4 (c - 4 : Nat)) w := cutB_mid (some ⟨b, o, none⟩) 24 c 4 8 (by omega) (by omega)
  have hc0' : w1.cell? ⟨b, o, none⟩ = some (.int .u8 (xs[0].toNat : Int)) := hc0
  have hS : numL ((xs.drop 4).take 4) < 4294967296 := by
    have h := numL_lt ((xs.drop 4).take 4)
    rw [List.length_take, List.length_drop, hlen.out] at h
    have e : (256 : Nat) ^ min 4 (24 - 4) = 4294967296 := by decide
    omega
  obtain ⟨S, hSe⟩ : ∃ S, S = numL ((xs.drop 4).take 4) := ⟨_, rfl⟩
  obtain ⟨L, hLe⟩ : ∃ L, L = numL ((xs.drop 2).take 2) := ⟨_, rfl⟩
  obtain ⟨A, hAe⟩ : ∃ A, A = numL ((xs.drop 20).take 2) := ⟨_, rfl⟩
  obtain ⟨E, hEe⟩ : ∃ E, E = numL ((xs.drop 22).take 2) := ⟨_, rfl⟩
  rw [← hSe] at hS
  have HS := Lib.hid hSe
  have HL := Lib.hid hLe
  have HA := Lib.hid hAe
  have HE := Lib.hid hEe
  clear hSe hLe hAe hEe
  have hy4 := (hx1.drop (l := 4) (by omega) hc).take (k := 4) (by omega)
  have hbl := (xs[0]).toNat_lt
  have hwS := IntWalk.i64_in (S : Int) ⟨by omega, by omega⟩
  have hwK := IntWalk.i64_in ((xs[0]).toNat : Int) ⟨by omega, by omega⟩
  go_cut [4] (fun s4 wx => s4 = .pointer (some ⟨w1.heap.size, 0, none⟩) ∧ Blk wx w1.heap.size 36 #[.int .i64 (xs[0].toNat : Int), .int .i64 L, .int .i64 S, .int .i64 0, .int .i64 0, .int .i64 0, .int .i64 0, .int .i64 0, .int .i64 0, .int .i64 A, .int .i64 E] ∧ Below w1.heap.size w1 wx)
  case first =>
    go_region_held3 (fun w' => Below w1.heap.size w1 w' ∧ w'.cell? ⟨b, o, none⟩ = some (.int .u8 (xs[0].toNat : Int)))
      (first
        | exact ⟨(Below.refl _ _).drew, hc0'⟩
        | exact ⟨Below.drew (And.left (by assumption)), And.right (by assumption)⟩
        | exact ⟨((Below.refl _ _).alloc (Nat.le_refl _) _).drew, (World.cell?_alloc_past _ _ _ hbb).trans hc0'⟩
        | exact ⟨Below.drew (Below.alloc (And.left (by assumption)) (Below.size (And.left (by assumption))) _), (World.cell?_alloc_past _ _ _ (Nat.lt_of_lt_of_le hbb (Below.size (And.left (by assumption))))).trans (And.right (by assumption))⟩
        | exact ⟨Below.setCell (And.left (by assumption)) (Below.size (And.left (by assumption))) _, And.right (by assumption)⟩
        | assumption)
      (first
        | (go_at_call 44; ((with_reducible refine (two_at 2 2 _ 24 _ xs _ rfl (Arr.on hx1 (And.left (by assumption))) hc (by omega)).mono ?_); rintro e w' ⟨rfl, rfl⟩; rw [← HL.out]))
        | (go_at_call 44; ((with_reducible refine (two_at 20 20 _ 24 _ xs _ rfl (Arr.on hx1 (And.left (by assumption))) hc (by omega)).mono ?_); rintro e w' ⟨rfl, rfl⟩; rw [← HA.out]))
        | (go_at_call 44; ((with_reducible refine (two_at 22 22 _ 24 _ xs _ rfl (Arr.on hx1 (And.left (by assumption))) hc (by omega)).mono ?_); rintro e w' ⟨rfl, rfl⟩; rw [← HE.out]))
        | (go_at_call 32; ((with_reducible refine (refNum_calls _ 4 _ ((xs.drop 4).take 4) _ (Arr.on hy4 (And.left (by assumption))) (by omega)).mono ?_); rintro e w' ⟨rfl, rfl⟩; rw [← HS.out])))
    all_goals
      go_wp2_with fail
      go_meet
      exact ⟨rfl, (Blk.new _ _ _).drew, ((Below.refl _ _).alloc (Nat.le_refl _) _).drew⟩
  case rest =>
    clear hwS hwK
    obtain ⟨rfl, bi2, hb2⟩ := hcut
    have bg2 := bg1.belowHere hb2
    have hx2 := hx1.on hb2
    have hs2 := hb2.size
    have hlt2 := bi2.lt
    have HD : ∀ k, k ≤ 22 → numL ((xs.drop k).take 2) < 65536 := fun k hk => numL_lt2 (by rw [List.length_take, List.length_drop, hlen.out]; omega)
    have HDh := Lib.hid HD
    clear HD
    have f3 := bi2.frozen 3
    have f4 := bi2.frozen 4
    have f5 := bi2.frozen 5
    have f6 := bi2.frozen 6
    have f7 := bi2.frozen 7
    have f8 := bi2.frozen 8
    have i3 := bi2.cellv (i := 3) rfl
    have i4 := bi2.cellv (i := 4) rfl
    have i5 := bi2.cellv (i := 5) rfl
    have i6 := bi2.cellv (i := 6) rfl
    have i7 := bi2.cellv (i := 7) rfl
    have i8 := bi2.cellv (i := 8) rfl
    go_wp2_with fail
    refine (two_at 8 8 _ 24 _ xs _ rfl hx2 hc (by omega)).mono ?_
    rintro e w_ ⟨rfl, rfl⟩
    obtain ⟨D0, hD0⟩ : ∃ D, D = numL ((xs.drop 8).take 2) := ⟨_, rfl⟩
    rw [← hD0]
    have HD0 := Lib.hid hD0
    clear hD0
    go_wp2_with fail
    refine (two_at 10 10 _ 24 _ xs _ rfl hx2 hc (by omega)).mono ?_
    rintro e w_ ⟨rfl, rfl⟩
    obtain ⟨D1, hD1⟩ : ∃ D, D = numL ((xs.drop 10).take 2) := ⟨_, rfl⟩
    rw [← hD1]
    have HD1 := Lib.hid hD1
    clear hD1
    go_wp2_with fail
    refine (two_at 12 12 _ 24 _ xs _ rfl hx2 hc (by omega)).mono ?_
    rintro e w_ ⟨rfl, rfl⟩
    obtain ⟨D2, hD2⟩ : ∃ D, D = numL ((xs.drop 12).take 2) := ⟨_, rfl⟩
    rw [← hD2]
    have HD2 := Lib.hid hD2
    clear hD2
    go_wp2_with fail
    refine (two_at 14 14 _ 24 _ xs _ rfl hx2 hc (by omega)).mono ?_
    rintro e w_ ⟨rfl, rfl⟩
    obtain ⟨D3, hD3⟩ : ∃ D, D = numL ((xs.drop 14).take 2) := ⟨_, rfl⟩
    rw [← hD3]
    have HD3 := Lib.hid hD3
    clear hD3
    go_wp2_with fail
    refine (two_at 16 16 _ 24 _ xs _ rfl hx2 hc (by omega)).mono ?_
    rintro e w_ ⟨rfl, rfl⟩
    obtain ⟨D4, hD4⟩ : ∃ D, D = numL ((xs.drop 16).take 2) := ⟨_, rfl⟩
    rw [← hD4]
    have HD4 := Lib.hid hD4
    clear hD4
    go_wp2_with fail
    refine (two_at 18 18 _ 24 _ xs _ rfl hx2 hc (by omega)).mono ?_
    rintro e w_ ⟨rfl, rfl⟩
    obtain ⟨D5, hD5⟩ : ∃ D, D = numL ((xs.drop 18).take 2) := ⟨_, rfl⟩
    rw [← hD5]
    have HD5 := Lib.hid hD5
    clear hD5
    have hgap : numL ((xs.drop 1).take 1) = (xs[1]).toNat := by
      rw [List.drop_eq_getElem_cons hk1, List.take_succ_cons, List.take_zero]; simp only [numL]; omega
    have hkind : numL (xs.take 1) = (xs[0]).toNat := by
      rw [show xs.take 1 = (xs.drop 0).take 1 by rw [List.drop_zero], List.drop_eq_getElem_cons hk0, List.take_succ_cons, List.take_zero]; simp only [numL]; omega
    have hraw : Nod.raw xs = ⟨(xs[0].toNat : Int), L, S, D0, D1, D2, D3, D4, D5, A, E⟩ := by
      simp only [Nod.raw, hkind, ← HL.out, ← HS.out, ← HA.out, ← HE.out, ← HD0.out, ← HD1.out, ← HD2.out, ← HD3.out, ← HD4.out, ← HD5.out]
    have Hraw := Lib.hid hraw
    have Hgap := Lib.hid hgap
    have hgl := (xs[1]).toNat_lt
    clear hraw hgap hkind HDh
    have hne : b ≠ w1.heap.size := Nat.ne_of_lt hbb
    have hne1 : w.heap.size ≠ w1.heap.size := Nat.ne_of_lt bg1.lt
    have hle : w.heap.size ≤ w1.heap.size := Nat.le_of_lt bg1.lt
    have hb2w := hb1.trans (hb2.mono hb1.size)
    have hb1c : wc.cell? ⟨b, o + 1, none⟩ = some (.int .u8 (xs[1].toNat : Int)) := (hb2.cell (p := ⟨b, o + 1, none⟩) hbb).trans hc1
    have HI6 := Lib.hid (show Blk ((((((wc.setCell ⟨w1.heap.size, 3, none⟩ (.int .i64 D0)).setCell ⟨w1.heap.size, 4, none⟩ (.int .i64 D1)).setCell ⟨w1.heap.size, 5, none⟩ (.int .i64 D2)).setCell ⟨w1.heap.size, 6, none⟩ (.int .i64 D3)).setCell ⟨w1.heap.size, 7, none⟩ (.int .i64 D4)).setCell ⟨w1.heap.size, 8, none⟩ (.int .i64 D5)) w1.heap.size 36 #[.int .i64 (xs[0].toNat : Int), .int .i64 L, .int .i64 S, .int .i64 D0, .int .i64 D1, .int .i64 D2, .int .i64 D3, .int .i64 D4, .int .i64 D5, .int .i64 A, .int .i64 E] from ((((((bi2.set 3 (.int .i64 D0)).set 4 (.int .i64 D1)).set 5 (.int .i64 D2)).set 6 (.int .i64 D3)).set 7 (.int .i64 D4)).set 8 (.int .i64 D5)))
    have HG6 := Lib.hid ((((((bg2.far (p := ⟨w1.heap.size, 3, none⟩) hne1 (.int .i64 D0)).far (p := ⟨w1.heap.size, 4, none⟩) hne1 (.int .i64 D1)).far (p := ⟨w1.heap.size, 5, none⟩) hne1 (.int .i64 D2)).far (p := ⟨w1.heap.size, 6, none⟩) hne1 (.int .i64 D3)).far (p := ⟨w1.heap.size, 7, none⟩) hne1 (.int .i64 D4)).far (p := ⟨w1.heap.size, 8, none⟩) hne1 (.int .i64 D5))
    have HB6 := Lib.hid ((((((hb2w.setCell (p := ⟨w1.heap.size, 3, none⟩) hle (.int .i64 D0)).setCell (p := ⟨w1.heap.size, 4, none⟩) hle (.int .i64 D1)).setCell (p := ⟨w1.heap.size, 5, none⟩) hle (.int .i64 D2)).setCell (p := ⟨w1.heap.size, 6, none⟩) hle (.int .i64 D3)).setCell (p := ⟨w1.heap.size, 7, none⟩) hle (.int .i64 D4)).setCell (p := ⟨w1.heap.size, 8, none⟩) hle (.int .i64 D5))
    have HC6 := Lib.hid (show ((((((wc.setCell ⟨w1.heap.size, 3, none⟩ (.int .i64 D0)).setCell ⟨w1.heap.size, 4, none⟩ (.int .i64 D1)).setCell ⟨w1.heap.size, 5, none⟩ (.int .i64 D2)).setCell ⟨w1.heap.size, 6, none⟩ (.int .i64 D3)).setCell ⟨w1.heap.size, 7, none⟩ (.int .i64 D4)).setCell ⟨w1.heap.size, 8, none⟩ (.int .i64 D5)).cell? ⟨b, o + 1, none⟩ = some (.int .u8 (xs[1].toNat : Int)) by
      simp only [World.cell?_setCell_far _ ⟨w1.heap.size, _, none⟩ ⟨b, o + 1, none⟩ _ (Ne.symm hne)]
      exact hb1c)
    go_upto_region 5 with (fail)
    clear i3 i4 i5 i6 i7 i8 f3 f4 f5 f6 f7 f8 bg1 hb1 hx1 hs1 hc0 hc1 hc0' hy4 bi2 bg2 hb2 hx2 hs2 hlt2 hb1c hb2w
    generalize ((((((wc.setCell ⟨w1.heap.size, 3, none⟩ (.int .i64 D0)).setCell ⟨w1.heap.size, 4, none⟩ (.int .i64 D1)).setCell ⟨w1.heap.size, 5, none⟩ (.int .i64 D2)).setCell ⟨w1.heap.size, 6, none⟩ (.int .i64 D3)).setCell ⟨w1.heap.size, 7, none⟩ (.int .i64 D4)).setCell ⟨w1.heap.size, 8, none⟩ (.int .i64 D5)) = w6 at *
    have hq := HC6.out
    generalize hG : xs[1].toNat = G at *
    generalize xs[0].toNat = K at *
    clear hG
    by_cases hg : G = 0
    case neg =>
      have hrr := Lib.hid (Nod.read_bad hlen.out (fun h => hg (by rw [← Hgap.out]; exact h.1)))
      have hg' : ((G : Int) != 0) = true := by rw [bne_iff_ne]; omega
      clear hg
      go_wp2_with (refine wpList_store_blk rfl rfl _ _ _ rfl w.heap.size #[.int .i64 0, .int .i64 0, .int .i64 0, .int .i64 0, .int .i64 0, .int .i64 0, .int .i64 0, .int .i64 0, .int .i64 0, .int .i64 0, .int .i64 0] rfl rfl 36 #[.int .i64 0, .int .i64 0, .int .i64 0, .int .i64 0, .int .i64 0, .int .i64 0, .int .i64 0, .int .i64 0, .int .i64 0, .int .i64 0, .int .i64 0] HG6.out rfl nodInfo2 (nodOne2 ⟨0, 0, 0, 0, 0, 0, 0, 0, 0, 0, 0⟩) ?_)
      have q := HG6.out.row #[.int .i64 0, .int .i64 0, .int .i64 0, .int .i64 0, .int .i64 0, .int .i64 0, .int .i64 0, .int .i64 0, .int .i64 0, .int .i64 0, .int .i64 0]
      have z0 := q.cellv (i := 0) rfl
      have z1 := q.cellv (i := 1) rfl
      have z2 := q.cellv (i := 2) rfl
      have z3 := q.cellv (i := 3) rfl
      have z4 := q.cellv (i := 4) rfl
      have z5 := q.cellv (i := 5) rfl
      have z6 := q.cellv (i := 6) rfl
      have z7 := q.cellv (i := 7) rfl
      have z8 := q.cellv (i := 8) rfl
      have z9 := q.cellv (i := 9) rfl
      have z10 := q.cellv (i := 10) rfl
      refine bodyPost_ret (v := .tuple #[.agg #[.int .i64 0, .int .i64 0, .int .i64 0, .int .i64 0, .int .i64 0, .int .i64 0, .int .i64 0, .int .i64 0, .int .i64 0, .int .i64 0, .int .i64 0], .int .i64 51]) (by simp [results, Try.results19, go_sem, z0, z1, z2, z3, z4, z5, z6, z7, z8, z9, z10]) rfl ⟨?_, HB6.out.setRow_ (Nat.le_refl _) _⟩
      rw [hrr.out.1, hrr.out.2]
      rfl
    subst hg
    have y0 := HI6.out.cellv (i := 0) rfl
    have y1 := HI6.out.cellv (i := 1) rfl
    have y2 := HI6.out.cellv (i := 2) rfl
    have y3 := HI6.out.cellv (i := 3) rfl
    have y4 := HI6.out.cellv (i := 4) rfl
    have y5 := HI6.out.cellv (i := 5) rfl
    have y6 := HI6.out.cellv (i := 6) rfl
    have y7 := HI6.out.cellv (i := 7) rfl
    have y8 := HI6.out.cellv (i := 8) rfl
    have y9 := HI6.out.cellv (i := 9) rfl
    have y10 := HI6.out.cellv (i := 10) rfl
    by_cases hr : Nod.Right ⟨(K : Nat), L, S, D0, D1, D2, D3, D4, D5, A, E⟩
    case neg =>
      have hrr := Lib.hid (Nod.read_bad hlen.out (fun h => hr (by rw [← Hraw.out]; exact h.2)))
      have hb := Lib.hid (Nod.rightB_no hr)
      clear hr
      go_wp2_with fail
      refine (refRight_calls ⟨(K : Nat), L, S, D0, D1, D2, D3, D4, D5, A, E⟩ _).mono ?_
      rw [hb.out]
      rintro _ w7 ⟨rfl, hbb⟩
      have HG7 := Lib.hid (HG6.out.belowHere hbb)
      have HB7 := Lib.hid (Below.then_ HB6.out hbb)
      clear hbb y0 y1 y2 y3 y4 y5 y6 y7 y8 y9 y10
      go_wp2_with (refine wpList_store_blk rfl rfl _ _ _ rfl w.heap.size #[.int .i64 0, .int .i64 0, .int .i64 0, .int .i64 0, .int .i64 0, .int .i64 0, .int .i64 0, .int .i64 0, .int .i64 0, .int .i64 0, .int .i64 0] rfl rfl 36 #[.int .i64 0, .int .i64 0, .int .i64 0, .int .i64 0, .int .i64 0, .int .i64 0, .int .i64 0, .int .i64 0, .int .i64 0, .int .i64 0, .int .i64 0] HG7.out rfl nodInfo2 (nodOne2 ⟨0, 0, 0, 0, 0, 0, 0, 0, 0, 0, 0⟩) ?_)
      have q := HG7.out.row #[.int .i64 0, .int .i64 0, .int .i64 0, .int .i64 0, .int .i64 0, .int .i64 0, .int .i64 0, .int .i64 0, .int .i64 0, .int .i64 0, .int .i64 0]
      have z0 := q.cellv (i := 0) rfl
      have z1 := q.cellv (i := 1) rfl
      have z2 := q.cellv (i := 2) rfl
      have z3 := q.cellv (i := 3) rfl
      have z4 := q.cellv (i := 4) rfl
      have z5 := q.cellv (i := 5) rfl
      have z6 := q.cellv (i := 6) rfl
      have z7 := q.cellv (i := 7) rfl
      have z8 := q.cellv (i := 8) rfl
      have z9 := q.cellv (i := 9) rfl
      have z10 := q.cellv (i := 10) rfl
      refine bodyPost_ret (v := .tuple #[.agg #[.int .i64 0, .int .i64 0, .int .i64 0, .int .i64 0, .int .i64 0, .int .i64 0, .int .i64 0, .int .i64 0, .int .i64 0, .int .i64 0, .int .i64 0], .int .i64 51]) (by simp [results, Try.results19, go_sem, z0, z1, z2, z3, z4, z5, z6, z7, z8, z9, z10]) rfl ⟨?_, HB7.out.setRow_ (Nat.le_refl _) _⟩
      rw [hrr.out.1, hrr.out.2]
      rfl
    have hrr := Lib.hid (Nod.read_good hlen.out Hgap.out (by rw [Hraw.out]; exact hr))
    have hb := Lib.hid (Nod.rightB_yes hr)
    clear hr
    go_wp2_with fail
    refine (refRight_calls ⟨(K : Nat), L, S, D0, D1, D2, D3, D4, D5, A, E⟩ _).mono ?_
    rw [hb.out]
    rintro _ w7 ⟨rfl, hbb⟩
    have HG7 := Lib.hid (HG6.out.belowHere hbb)
    have HI7 := Lib.hid (HI6.out.belowHere hbb)
    have HB7 := Lib.hid (Below.then_ HB6.out hbb)
    clear hbb y0 y1 y2 y3 y4 y5 y6 y7 y8 y9 y10
    have y0 := HI7.out.cellv (i := 0) rfl
    have y1 := HI7.out.cellv (i := 1) rfl
    have y2 := HI7.out.cellv (i := 2) rfl
    have y3 := HI7.out.cellv (i := 3) rfl
    have y4 := HI7.out.cellv (i := 4) rfl
    have y5 := HI7.out.cellv (i := 5) rfl
    have y6 := HI7.out.cellv (i := 6) rfl
    have y7 := HI7.out.cellv (i := 7) rfl
    have y8 := HI7.out.cellv (i := 8) rfl
    have y9 := HI7.out.cellv (i := 9) rfl
    have y10 := HI7.out.cellv (i := 10) rfl
    go_wp2_with (refine wpList_store_blk rfl rfl _ _ _ rfl w.heap.size #[.int .i64 K, .int .i64 L, .int .i64 S, .int .i64 D0, .int .i64 D1, .int .i64 D2, .int .i64 D3, .int .i64 D4, .int .i64 D5, .int .i64 A, .int .i64 E] rfl rfl 36 #[.int .i64 0, .int .i64 0, .int .i64 0, .int .i64 0, .int .i64 0, .int .i64 0, .int .i64 0, .int .i64 0, .int .i64 0, .int .i64 0, .int .i64 0] HG7.out rfl nodInfo2 (nodOne2 ⟨(K : Nat), L, S, D0, D1, D2, D3, D4, D5, A, E⟩) ?_)
    clear y0 y1 y2 y3 y4 y5 y6 y7 y8 y9 y10
    have q := HG7.out.row #[.int .i64 K, .int .i64 L, .int .i64 S, .int .i64 D0, .int .i64 D1, .int .i64 D2, .int .i64 D3, .int .i64 D4, .int .i64 D5, .int .i64 A, .int .i64 E]
    have z0 := q.cellv (i := 0) rfl
    have z1 := q.cellv (i := 1) rfl
    have z2 := q.cellv (i := 2) rfl
    have z3 := q.cellv (i := 3) rfl
    have z4 := q.cellv (i := 4) rfl
    have z5 := q.cellv (i := 5) rfl
    have z6 := q.cellv (i := 6) rfl
    have z7 := q.cellv (i := 7) rfl
    have z8 := q.cellv (i := 8) rfl
    have z9 := q.cellv (i := 9) rfl
    have z10 := q.cellv (i := 10) rfl
    refine bodyPost_ret (v := .tuple #[.agg #[.int .i64 K, .int .i64 L, .int .i64 S, .int .i64 D0, .int .i64 D1, .int .i64 D2, .int .i64 D3, .int .i64 D4, .int .i64 D5, .int .i64 A, .int .i64 E], .int .i64 0]) (by simp [results, Try.results19, go_sem, z0, z1, z2, z3, z4, z5, z6, z7, z8, z9, z10]) rfl ⟨?_, HB7.out.setRow_ (Nat.le_refl _) _⟩
    rw [hrr.out.1, hrr.out.2, Hraw.out]
theorem refRead_calls (a : Option Addr) (n c : Nat) (xs : List UInt8) (w : World) (hx : Bytes w w.heap.size a n xs) (hc : n ≤ c) :
    Calls Try.prog 19 #[.slice a n c] w fun e w' => e = .returned (.tuple #[nodV (Nod.readN xs), .int .i64 (Nod.readE xs)]) ∧ Below w.heap.size w w' := by
  by_cases hn : n = 24
  · subst hn; exact refRead_right a c xs w hx hc
  · obtain ⟨r1, r2⟩ := Nod.read_short (xs := xs) (by rw [hx.len]; exact hn)
    rw [r1, r2]
    exact refRead_wrong a n c w hn
end Go.Proofs.Ytjnjemhnceejeaa
