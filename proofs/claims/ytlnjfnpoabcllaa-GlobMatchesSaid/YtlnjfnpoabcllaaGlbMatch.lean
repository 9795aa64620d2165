/-
  matches; Part.
-/
import Derived.Test.YtlnjfnpoabcllaaGlbTry
import Derived.Test.YtlnjfnpoabcllaaGlbMk
import Derived.Laws.EntriesVeiled
namespace Go.Proofs.Ytlnjfnpoabcllaa
open Go.RowKit Go.Maps Go.ChangeMaps

theorem env_made (gs : List Glb.Gm) (s : List UInt8) (a : Option Addr) (n c : Nat) (w : World) (h : MarksS (allB w) w a n gs) : ∃ w5, w5 = (((((w.alloc (.cells #[.slice a n c] 46)).alloc (.cells #[.string (strL s)] 9)).alloc (.map #[] 0)).alloc (.cells #[.map (some (w.heap.size + 1 + 1))] 78)).alloc
      (.cells #[.func (.func 42) #[] #[.pointer (some ⟨w.heap.size + 1 + 1 + 1, 0, none⟩), .pointer (some ⟨w.heap.size, 0, none⟩), .pointer (some ⟨w.heap.size + 1, 0, none⟩), .pointer (some ⟨w.heap.size + 1 + 1 + 1 + 1, 0, none⟩)]] 79)) ∧
    Env (allB w) gs s a n c (w.heap.size + 1 + 1 + 1) w.heap.size (w.heap.size + 1) (w.heap.size + 1 + 1 + 1 + 1) (w.heap.size + 1 + 1) w5 ∧ Tr w5 (w.heap.size + 1 + 1) (fun _ => False) ∧ Below w.heap.size w w5 := by
  obtain ⟨w1, h1⟩ : ∃ w1, w1 = w.alloc (.cells #[.slice a n c] 46) := ⟨_, rfl⟩
  obtain ⟨w2, h2⟩ : ∃ w2, w2 = w1.alloc (.cells #[.string (strL s)] 9) := ⟨_, rfl⟩
  obtain ⟨w3, h3⟩ : ∃ w3, w3 = w2.alloc (.map #[] 0) := ⟨_, rfl⟩
  obtain ⟨w4, h4⟩ : ∃ w4, w4 = w3.alloc (.cells #[.map (some (w.heap.size + 1 + 1))] 78) := ⟨_, rfl⟩
  obtain ⟨w5, h5⟩ : ∃ w5, w5 = w4.alloc (.cells #[.func (.func 42) #[] #[.pointer (some ⟨w.heap.size + 1 + 1 + 1, 0, none⟩), .pointer (some ⟨w.heap.size, 0, none⟩), .pointer (some ⟨w.heap.size + 1, 0, none⟩), .pointer (some ⟨w.heap.size + 1 + 1 + 1 + 1, 0, none⟩)]] 79) := ⟨_, rfl⟩
  have e1 : w1.heap.size = w.heap.size + 1 := by rw [h1]; simp
  have e2 : w2.heap.size = w.heap.size + 1 + 1 := by rw [h2, World.size_alloc, e1]
  have e3 : w3.heap.size = w.heap.size + 1 + 1 + 1 := by rw [h3, World.size_alloc, e2]
  have e4 : w4.heap.size = w.heap.size + 1 + 1 + 1 + 1 := by rw [h4, World.size_alloc, e3]
  have b1 : Below w.heap.size w w1 := by rw [h1]; exact (Below.refl _ w).alloc (Nat.le_refl _) _
  have b2 : Below w1.heap.size w1 w2 := by rw [h2]; exact (Below.refl _ w1).alloc (Nat.le_refl _) _
  have b3 : Below w2.heap.size w2 w3 := by rw [h3]; exact (Below.refl _ w2).alloc (Nat.le_refl _) _
  have b4 : Below w3.heap.size w3 w4 := by rw [h4]; exact (Below.refl _ w3).alloc (Nat.le_refl _) _
  have b5 : Below w4.heap.size w4 w5 := by rw [h5]; exact (Below.refl _ w4).alloc (Nat.le_refl _) _
  have k1 : Blk w1 w.heap.size 46 #[.slice a n c] := by rw [h1]; exact Blk.new _ _ _
  have k2 : Blk w2 (w.heap.size + 1) 9 #[.string (strL s)] := by rw [h2, ← e1]; exact Blk.new _ _ _
  have k3 : Tr w3 (w.heap.size + 1 + 1) (fun _ => False) := by rw [h3, ← e2]; exact Tr.made _
  have k4 : Blk w4 (w.heap.size + 1 + 1 + 1) 78 #[.map (some (w.heap.size + 1 + 1))] := by rw [h4, ← e3]; exact Blk.new _ _ _
  have k5 : Blk w5 (w.heap.size + 1 + 1 + 1 + 1) 79 #[.func (.func 42) #[] #[.pointer (some ⟨w.heap.size + 1 + 1 + 1, 0, none⟩), .pointer (some ⟨w.heap.size, 0, none⟩), .pointer (some ⟨w.heap.size + 1, 0, none⟩), .pointer (some ⟨w.heap.size + 1 + 1 + 1 + 1, 0, none⟩)]] := by
    rw [h5]
    have k := Blk.new w4 79 #[.func (.func 42) #[] #[.pointer (some ⟨w.heap.size + 1 + 1 + 1, 0, none⟩), .pointer (some ⟨w.heap.size, 0, none⟩), .pointer (some ⟨w.heap.size + 1, 0, none⟩), .pointer (some ⟨w.heap.size + 1 + 1 + 1 + 1, 0, none⟩)]]
    rw [e4] at k
    exact k
  have bb := (((b1.then_ b2).then_ b3).then_ b4).then_ b5
  refine ⟨w5, by rw [h5, h4, h3, h2, h1], ⟨k4.belowHere b5, (((k1.belowHere b2).belowHere b3).belowHere b4).belowHere b5, ((k2.belowHere b3).belowHere b4).belowHere b5, k5, h.keep (kept_below bb), ⟨by omega, by omega, by omega, by omega⟩, fun b (hb : b < w.heap.size) => ⟨by omega, ?_⟩⟩, (k3.on b4).on b5, bb⟩
  have := bb.size
  omega
set_option maxRecDepth 100000 in
set_option maxHeartbeats 4000000 in
theorem matches_calls (gs : List Glb.Gm) (s : List UInt8) (a : Option Addr) (n c : Nat) (w : World) (h : MarksS (allB w) w a n gs) (hn : n ≤ 1000) (hs : s.length ≤ 1000) :
    Calls Try.prog 28 #[.slice a n c, .string (strL s)] w fun e w' => e = .returned (.bool (Glb.matchesB gs s)) ∧ Below w.heap.size w w' := by
  have HMs := Lib.hid h
  clear h
  have hmm := @run_makeMap Try.prog
  go_enter Try.func28, Try.ntmps28
  go_upto_region 4 with fail
  clear hmm
  obtain ⟨w5, h5, hE, hT, hb⟩ := env_made gs s a n c w HMs.out
  rw [← h5]
  have HC := Lib.hid (try_calls (allB w) gs s a n c _ _ _ _ _ hn hs ((n - 0) + (s.length - 0)) 0 0 w5 _ rfl (Nat.zero_le _) (Nat.zero_le _) hE hT (fun p h => h.elim))
  have c0 := hE.cb.cellv (i := 0) rfl
  have HB := Lib.hid hb
  clear h5 hE hT hb
  go_wp2_with fail
  refine HC.out.mono ?_
  rintro e w6 ⟨rfl, hg, _⟩
  have HB6 := Lib.hid (HB.out.trans (⟨hg.os, hg.tape, hg.output, hg.size, fun k hk => hg.block k (by have := HB.out.size; omega) (fun e => by injection e; omega)⟩ : Below w.heap.size w5 w6))
  clear hg
  go_wp2_with fail
  go_ret
  exact ⟨rfl, HB6.out⟩
theorem part_calls (s nm : List UInt8) (w : World) (hs : s.length ≤ 1000) (hn : nm.length ≤ 1000) :
    Calls Try.prog 14 #[.string (strL s), .string (strL nm)] w fun e w' => e = .returned (.tuple #[.bool (Glb.part s nm).1, .int .i64 (Glb.part s nm).2]) ∧ Below w.heap.size w w' := by
  obtain ⟨p, hp⟩ : ∃ p, p = Glb.part s nm := ⟨_, rfl⟩
  rw [← hp]
  have HMk := Lib.hid (marks_calls s w hs)
  unfold Glb.part at hp
  cases hm : Glb.marksOf s with
  | none =>
    rw [hm] at hp HMk
    dsimp only at hp
    subst hp
    clear hm
    go_enter Try.func14, Try.ntmps14
    go_wp2_with fail
    refine HMk.out.mono ?_
    rintro e w1 ⟨a, n, c, rfl, _, hb⟩
    have HB := Lib.hid hb
    clear hb
    go_wp2_with fail
    go_ret2
    exact ⟨rfl, HB.out⟩
  | some gs =>
    rw [hm] at hp HMk
    dsimp only at hp
    have hgl : gs.length ≤ s.length := by
      unfold Glb.marksOf at hm
      split at hm
      · cases hm
      · exact Glb.mks_len s gs hm
    by_cases h42 : s = [42, 42]
    · rw [if_pos h42] at hp
      subst hp
      subst h42
      clear hm hgl
      go_enter Try.func14, Try.ntmps14
      go_wp2_with fail
      refine HMk.out.mono ?_
      rintro e w1 ⟨a, n, c, rfl, _, hb⟩
      have HB := Lib.hid hb
      clear hb
      go_wp2_with fail
      go_ret2
      exact ⟨rfl, HB.out⟩
    · rw [if_neg h42] at hp
      subst hp
      have g42 : (s == [42, 42]) = false := by simpa using h42
      clear hm h42
      go_enter Try.func14, Try.ntmps14
      go_wp2_with fail
      refine HMk.out.mono ?_
      rintro e w1 ⟨a, n, c, rfl, hms, hb⟩
      have HB := Lib.hid hb
      have hl := hms.len
      have HM := Lib.hid (matches_calls gs nm a n c w1 (hms.mono fun b h => h.2) (by rw [← hl]; show gs.length ≤ _; omega) hn)
      clear hb hms hl
      go_wp2_with fail
      refine HM.out.mono ?_
      rintro e w2 ⟨rfl, hb2⟩
      have HB2 := Lib.hid (HB.out.then_ hb2)
      clear hb2
      go_wp2_with fail
      go_ret2
      exact ⟨rfl, HB2.out⟩
end Go.Proofs.Ytlnjfnpoabcllaa
