/-
  inode.Get and Put, and the reference's.
-/
import Derived.Test.YtjnjemhnceejeaaInoTabMath
import Derived.Test.YtjnjemhnceejeaaInoBytes
import Derived.Test.YtjnjemhnceejeaaInoPoint2
import Derived.Test.YtjnjemhnceejeaaSlCopy
namespace Go.Proofs.Ytjnjemhnceejeaa
open Go.RowKit

theorem there_yes (a : Option Addr) (n c : Nat) (k : Int) (w : World) (h : Nod.In n k) :
    Calls Try.prog 49 #[.slice a n c, .int .i64 k] w fun e w' => e = .returned (.bool true) ∧ w = w' := by
  have h1 := h.1
  have h2 := h.2
  have h3 : decide (k < Ino.perPage n) = true := decide_eq_true h2
  clear h
  go_enter Try.func49, Try.ntmps49
  go_wp2_with fail
  refine (perPage_calls _ _).mono ?_
  rintro e w_ ⟨rfl, rfl⟩
  generalize Ino.perPage n = P at *
  go_wp2
  go_ret
  exact ⟨by first | rfl | simp [h2], rfl⟩
theorem there_no (a : Option Addr) (n c : Nat) (k : Int) (w : World) (h : ¬ Nod.In n k) :
    Calls Try.prog 49 #[.slice a n c, .int .i64 k] w fun e w' => e = .returned (.bool false) ∧ w = w' := by
  by_cases h1 : 0 ≤ k
  · have h2 : Ino.perPage n ≤ k := by
      by_cases h2 : k < Ino.perPage n
      · exact absurd ⟨h1, h2⟩ h
      · omega
    have h3 : decide (k < Ino.perPage n) = false := decide_eq_false (by omega)
    clear h
    go_enter Try.func49, Try.ntmps49
    go_wp2_with fail
    refine (perPage_calls _ _).mono ?_
    rintro e w_ ⟨rfl, rfl⟩
    generalize Ino.perPage n = P at *
    go_wp2
    go_ret
    exact ⟨by first | rfl | simp [h2], rfl⟩
  · have h3 : decide (0 ≤ k) = false := decide_eq_false h1
    clear h
    go_enter Try.func49, Try.ntmps49
    go_wp2
    go_ret
    exact ⟨rfl, rfl⟩
theorem getN_no {xs : List UInt8} {k : Int} (h : ¬ Nod.In xs.length k) : Nod.getN xs k = Nod.zero ∧ Nod.getE xs k = 1 := by unfold Nod.getN Nod.getE; rw [if_neg h, if_neg h]; exact ⟨rfl, rfl⟩
set_option maxHeartbeats 4000000 in
theorem get_calls (a : Option Addr) (n c : Nat) (xs : List UInt8) (k : Int) (w : World) (hx : Bytes w w.heap.size a n xs) (hnc : n ≤ c) :
    Calls Try.prog 33 #[.slice a n c, .int .i64 k] w fun e w' => e = .returned (.tuple #[nodV (Nod.getN xs k), .int .i64 (Nod.getE xs k)]) ∧ Below w.heap.size w w' := by
  have hl := hx.len
  by_cases h : Nod.In n k
  case neg =>
    obtain ⟨r1, r2⟩ := getN_no (xs := xs) (k := k) (by rw [hl]; exact h)
    rw [r1, r2]
    have HP := Lib.hid (fun w => there_no a n c k w h)
    clear r1 r2 h hl hx
    go_enter Try.func33, Try.ntmps33
    go_wp2_with fail
    refine (HP.out _).mono ?_
    rintro e w_ ⟨rfl, rfl⟩
    go_wp2
    refine bodyPost_ret (v := .tuple #[nodV Nod.zero, .int .i64 1]) (by simp [results, Try.results33, go_sem, nodV, Nod.zero]) rfl ⟨rfl, ?_⟩
    exact (Below.refl _ _).alloc (Nat.le_refl _) _
  have HP := Lib.hid (fun w => there_yes a n c k w h)
  obtain ⟨q3, q1, q2, hs⟩ := Nod.in_bound h
  obtain ⟨j, rfl⟩ : ∃ j : Nat, k = j := ⟨k.toNat, q3.symm⟩
  rw [Int.toNat_natCast] at q1
  have r1 : Nod.getN xs j = Nod.readN (Nod.cut xs j) := by unfold Nod.getN; rw [if_pos (by rw [hl]; exact h), Int.toNat_natCast]
  have r2 : Nod.getE xs j = Nod.readE (Nod.cut xs j) := by unfold Nod.getE; rw [if_pos (by rw [hl]; exact h), Int.toNat_natCast]
  have HR1 := Lib.hid r1
  have HR2 := Lib.hid r2
  have hbl := Lib.hid ((Below.refl w.heap.size w).alloc (Nat.le_refl _) (nodO Nod.zero))
  have bg := Blk.new w 36 #[.int .i64 0, .int .i64 0, .int .i64 0, .int .i64 0, .int .i64 0, .int .i64 0, .int .i64 0, .int .i64 0, .int .i64 0, .int .i64 0, .int .i64 0]
  have hx1 := ((hx.drop (l := j * 24) (by omega) hnc).take (k := 24) (by omega)).alloc (nodO Nod.zero)
  have HX1 := Lib.hid (show Bytes (w.alloc (nodO Nod.zero)) (w.alloc (nodO Nod.zero)).heap.size (cutA a c (j * 24)) 24 (Nod.cut xs j) from hx1)
  have hcut := cutB_mid a n c (j * 24) ((j + 1) * 24) (by omega) (by omega)
  rw [show ((j * 24 : Nat) : Int) = (j : Int) * 24 by omega, show (((j + 1) * 24 : Nat) : Int) = ((j : Int) + 1) * 24 by omega, show (j + 1) * 24 - j * 24 = 24 by omega] at hcut
  clear h q3 hl hx r1 r2 hs hx1
  go_enter Try.func33, Try.ntmps33
  go_wp2_with fail
  refine (HP.out _).mono ?_
  rintro e w_ ⟨rfl, rfl⟩
  go_wp2_with fail
  refine (read_calls (cutA a c (j * 24)) 24 (c - j * 24) (Nod.cut xs j) _ HX1.out (by omega)).mono ?_
  rintro _ w2 ⟨rfl, hb⟩
  generalize Nod.readN (Nod.cut xs j) = r at *
  generalize Nod.readE (Nod.cut xs j) = er at *
  have HG := Lib.hid (bg.belowHere hb)
  have HB := Lib.hid (Below.then_ hbl.out hb)
  clear hb bg
  go_wp2_with (refine wpList_store_blk rfl rfl _ _ _ rfl w.heap.size #[.int .i64 r.k, .int .i64 r.l, .int .i64 r.s, .int .i64 r.d0, .int .i64 r.d1, .int .i64 r.d2, .int .i64 r.d3, .int .i64 r.d4, .int .i64 r.d5, .int .i64 r.a, .int .i64 r.b] rfl rfl 36 #[.int .i64 0, .int .i64 0, .int .i64 0, .int .i64 0, .int .i64 0, .int .i64 0, .int .i64 0, .int .i64 0, .int .i64 0, .int .i64 0, .int .i64 0] HG.out rfl nodInfo2 (nodOne2 r) ?_)
  have q := HG.out.row #[.int .i64 r.k, .int .i64 r.l, .int .i64 r.s, .int .i64 r.d0, .int .i64 r.d1, .int .i64 r.d2, .int .i64 r.d3, .int .i64 r.d4, .int .i64 r.d5, .int .i64 r.a, .int .i64 r.b]
  have z0 := q.cellv (i := 0) rfl
  have z1 := q.cellv (i := 1) rfl
  have z2 := q.cellv (i := 2) rfl
  have z3 := q.cellv (i := 3) rfl
  have z4 := q.cellv (i := 4) rfl
  have z5 := q.cellv (i := 5) rfl
  have z6 := q.cellv (i := 6) rfl
  have z7 := q.cellv (i := 7) rfl
  have z8 := q.cellv (i := 8) rfl
  have z9 := q.cellv (i := 9) rfl
  have z10 := q.cellv (i := 10) rfl
  refine bodyPost_ret (v := .tuple #[.agg #[.int .i64 r.k, .int .i64 r.l, .int .i64 r.s, .int .i64 r.d0, .int .i64 r.d1, .int .i64 r.d2, .int .i64 r.d3, .int .i64 r.d4, .int .i64 r.d5, .int .i64 r.a, .int .i64 r.b], .int .i64 er]) (by simp [results, Try.results33, go_sem, z0, z1, z2, z3, z4, z5, z6, z7, z8, z9, z10]) rfl ⟨?_, HB.out.setRow_ (Nat.le_refl _) _⟩
  rw [HR1.out, HR2.out]
set_option maxHeartbeats 4000000 in
theorem refGet_calls (a : Option Addr) (n c : Nat) (xs : List UInt8) (k : Int) (w : World) (hx : Bytes w w.heap.size a n xs) (hnc : n ≤ c) :
    Calls Try.prog 34 #[.slice a n c, .int .i64 k] w fun e w' => e = .returned (.tuple #[nodV (Nod.getN xs k), .int .i64 (Nod.getE xs k)]) ∧ Below w.heap.size w w' := by
  have hl := hx.len
  by_cases h : Nod.In n k
  case neg =>
    obtain ⟨r1, r2⟩ := getN_no (xs := xs) (k := k) (by rw [hl]; exact h)
    rw [r1, r2]
    by_cases h0 : k < 0
    · clear r1 r2 h hl hx
      go_enter Try.func34, Try.ntmps34
      go_wp2
      refine bodyPost_ret (v := .tuple #[nodV Nod.zero, .int .i64 1]) (by simp [results, Try.results34, go_sem, nodV, Nod.zero]) rfl ⟨rfl, ?_⟩
      exact (Below.refl _ _).alloc (Nat.le_refl _) _
    · have h2 : Ino.perPage n ≤ k := by
        by_cases h2 : k < Ino.perPage n
        · exact absurd ⟨by omega, h2⟩ h
        · omega
      clear r1 r2 h hl hx
      go_enter Try.func34, Try.ntmps34
      go_wp2_with fail
      refine (refPerPage_calls _ _).mono ?_
      rintro e w_ ⟨rfl, rfl⟩
      generalize Ino.perPage n = P at *
      go_wp2
      refine bodyPost_ret (v := .tuple #[nodV Nod.zero, .int .i64 1]) (by simp [results, Try.results34, go_sem, nodV, Nod.zero]) rfl ⟨rfl, ?_⟩
      exact (Below.refl _ _).alloc (Nat.le_refl _) _
  have h1 : (0 : Int) ≤ k := h.1
  have h2 : k < Ino.perPage n := h.2
  obtain ⟨q3, q1, q2, hs⟩ := Nod.in_bound h
  obtain ⟨j, rfl⟩ : ∃ j : Nat, k = j := ⟨k.toNat, q3.symm⟩
  rw [Int.toNat_natCast] at q1
  have r1 : Nod.getN xs j = Nod.readN (Nod.cut xs j) := by unfold Nod.getN; rw [if_pos (by rw [hl]; exact h), Int.toNat_natCast]
  have r2 : Nod.getE xs j = Nod.readE (Nod.cut xs j) := by unfold Nod.getE; rw [if_pos (by rw [hl]; exact h), Int.toNat_natCast]
  have HR1 := Lib.hid r1
  have HR2 := Lib.hid r2
  have hbl := Lib.hid ((Below.refl w.heap.size w).alloc (Nat.le_refl _) (nodO Nod.zero))
  have bg := Blk.new w 36 #[.int .i64 0, .int .i64 0, .int .i64 0, .int .i64 0, .int .i64 0, .int .i64 0, .int .i64 0, .int .i64 0, .int .i64 0, .int .i64 0, .int .i64 0]
  have hx1 := ((hx.drop (l := j * 24) (by omega) hnc).take (k := 24) (by omega)).alloc (nodO Nod.zero)
  have HX1 := Lib.hid (show Bytes (w.alloc (nodO Nod.zero)) (w.alloc (nodO Nod.zero)).heap.size (cutA a c (j * 24)) 24 (Nod.cut xs j) from hx1)
  have hcut := cutB_mid a n c (j * 24) (j * 24 + 24) (by omega) (by omega)
  rw [show ((j * 24 : Nat) : Int) = 24 * (j : Int) by omega, show ((j * 24 + 24 : Nat) : Int) = 24 * (j : Int) + 24 by omega, show j * 24 + 24 - j * 24 = 24 by omega] at hcut
  clear h q3 hl hx r1 r2 hs hx1
  go_enter Try.func34, Try.ntmps34
  go_wp2_with fail
  refine (refPerPage_calls _ _).mono ?_
  rintro e w_ ⟨rfl, rfl⟩
  generalize Ino.perPage n = P at *
  go_wp2_with fail
  refine (refRead_calls (cutA a c (j * 24)) 24 (c - j * 24) (Nod.cut xs j) _ HX1.out (by omega)).mono ?_
  rintro _ w2 ⟨rfl, hb⟩
  generalize Nod.readN (Nod.cut xs j) = r at *
  generalize Nod.readE (Nod.cut xs j) = er at *
  have HG := Lib.hid (bg.belowHere hb)
  have HB := Lib.hid (Below.then_ hbl.out hb)
  clear hb bg
  go_wp2_with (refine wpList_store_blk rfl rfl _ _ _ rfl w.heap.size #[.int .i64 r.k, .int .i64 r.l, .int .i64 r.s, .int .i64 r.d0, .int .i64 r.d1, .int .i64 r.d2, .int .i64 r.d3, .int .i64 r.d4, .int .i64 r.d5, .int .i64 r.a, .int .i64 r.b] rfl rfl 36 #[.int .i64 0, .int .i64 0, .int .i64 0, .int .i64 0, .int .i64 0, .int .i64 0, .int .i64 0, .int .i64 0, .int .i64 0, .int .i64 0, .int .i64 0] HG.out rfl nodInfo2 (nodOne2 r) ?_)
  have q := HG.out.row #[.int .i64 r.k, .int .i64 r.l, .int .i64 r.s, .int .i64 r.d0, .int .i64 r.d1, .int .i64 r.d2, .int .i64 r.d3, .int .i64 r.d4, .int .i64 r.d5, .int .i64 r.a, .int .i64 r.b]
  have z0 := q.cellv (i := 0) rfl
  have z1 := q.cellv (i := 1) rfl
  have z2 := q.cellv (i := 2) rfl
  have z3 := q.cellv (i := 3) rfl
  have z4 := q.cellv (i := 4) rfl
  have z5 := q.cellv (i := 5) rfl
  have z6 := q.cellv (i := 6) rfl
  have z7 := q.cellv (i := 7) rfl
  have z8 := q.cellv (i := 8) rfl
  have z9 := q.cellv (i := 9) rfl
  have z10 := q.cellv (i := 10) rfl
  refine bodyPost_ret (v := .tuple #[.agg #[.int .i64 r.k, .int .i64 r.l, .int .i64 r.s, .int .i64 r.d0, .int .i64 r.d1, .int .i64 r.d2, .int .i64 r.d3, .int .i64 r.d4, .int .i64 r.d5, .int .i64 r.a, .int .i64 r.b], .int .i64 er]) (by simp [results, Try.results34, go_sem, z0, z1, z2, z3, z4, z5, z6, z7, z8, z9, z10]) rfl ⟨?_, HB.out.setRow_ (Nat.le_refl _) _⟩
  rw [HR1.out, HR2.out]
end Go.Proofs.Ytjnjemhnceejeaa
