/-
  The reference's New, and the law's stars, walked.
-/
import Derived.Test.YtlnjfnpoabcllaaGlbTop
import Derived.Test.YtlnjfnpoabcllaaGlbRPart
namespace Go.Proofs.Ytlnjfnpoabcllaa
open Go.RowKit

namespace Glb
theorem prt1_none {t : List UInt8} : prt1 t = none ↔ marksOf t = none := by
  unfold prt1
  split
  · rename_i h
    subst h
    have : marksOf [42, 42] = some [⟨2, 42, false, []⟩, ⟨2, 42, false, []⟩] := by decide
    rw [this]
    simp
  · simp
theorem prts_some {l : List (List UInt8)} (h : ∀ t ∈ l, marksOf t ≠ none) : ∃ ps, prts l = some ps := by
  induction l with
  | nil => exact ⟨[], rfl⟩
  | cons t l ih =>
    obtain ⟨ps, hp⟩ := ih fun x hx => h x (List.mem_cons_of_mem _ hx)
    cases hq : prt1 t with
    | none => exact absurd (prt1_none.1 hq) (h t (List.mem_cons_self ..))
    | some q => exact ⟨q :: ps, by unfold prts; rw [hq, hp]⟩
theorem prts_none {l : List (List UInt8)} {t : List UInt8} (ht : t ∈ l) (h : marksOf t = none) : prts l = none := by
  obtain ⟨a, b, rfl⟩ := List.append_of_mem ht
  have := prts_bad (pre := a) (rest := b) (prt1_none.2 h)
  simpa using this
theorem new_short {s : List UInt8} (h : s = [] ∨ 255 < s.length ∨ s.head? ≠ some 47) : new s = (none, 30) := if_pos h
theorem new_long16 {s : List UInt8} (h : ¬ (s = [] ∨ 255 < s.length ∨ s.head? ≠ some 47)) (h2 : 16 < (Pth.parts s).length) : new s = (none, 30) := by
  unfold new; rw [if_neg h, if_pos h2]
theorem new_prts {s : List UInt8} (h : ¬ (s = [] ∨ 255 < s.length ∨ s.head? ≠ some 47)) (h2 : ¬ 16 < (Pth.parts s).length) : new s = match prts (Pth.parts s) with
    | none => (none, 31)
    | some ps => (some ps, 0) := by
  unfold new; rw [if_neg h, if_neg h2]
  cases prts (Pth.parts s) <;> rfl
end Glb
theorem stars_calls (s : List UInt8) (w : World) (hs : s.length ≤ 1000) :
    Calls Try.prog 16 #[.string (strL s)] w fun e w' => ∃ n : Nat, e = .returned (.int .i64 n) ∧ Below w.heap.size w w' := by
  have HC := Lib.hid (refParts_calls s w (by omega))
  have hpl : (Pth.parts s).length ≤ 140737488351232 := by have := Pth.parts_len s; omega
  clear hs
  go_enter Try.func16, Try.ntmps16
  go_wp2_with fail
  refine HC.out.mono ?_
  rintro e w1 ⟨⟨v, rfl, ho⟩, hb⟩
  have HB := Lib.hid hb
  obtain ⟨m, hm⟩ : ∃ m, m = (Pth.parts s).length := ⟨_, rfl⟩
  obtain ⟨a, c, rfl, hc⟩ := ho.formN hm.symm
  have HX := Lib.hid (ho.arr hpl)
  rw [← hm] at hpl
  clear hb ho hc hm
  go_wp2_with fail
  go_loop [3, 5] (fun x i => ∃ k j : Nat, k ≤ m ∧ j ≤ k ∧ i = .int .i64 k ∧ x = .int .i64 j) (fun _ i => m - (intOf i).toNat)
  case atStart => exact ⟨0, 0, by omega, by omega, rfl, rfl⟩
  case round =>
    obtain ⟨k, j, hk, hj, rfl, rfl⟩ := hrel
    by_cases hlt : k < m
    · obtain ⟨b, o, hk', rfl, _, hcx⟩ := HX.out.atS hlt
      have g2 : (0 : Int) ≤ (k : Int) := by omega
      have g3 : (k : Int) < (m : Int) := by omega
      have hd : ((Pth.parts s)[k] == [42, 42]) = true ∨ ((Pth.parts s)[k] == [42, 42]) = false := by cases ((Pth.parts s)[k] == [42, 42]) <;> simp
      generalize (Pth.parts s)[k] = x at *
      clear hk'
      rcases hd with g4 | g4
      · go_wp2_with fail
        go_round
        case rel => exact ⟨k + 1, j + 1, by omega, by omega, by go_num, by go_num⟩
        case measure => simp [intOf]; omega
      · go_wp2_with fail
        go_round
        case rel => exact ⟨k + 1, j, by omega, by omega, by go_num, rfl⟩
        case measure => simp [intOf]; omega
    · obtain rfl : k = m := by omega
      go_wp2_with fail
      go_ret
      exact ⟨⟨j, rfl⟩, HB.out⟩
/-- What the reference's New leaves. -/
def RNewR (s : List UInt8) (w : World) (e : Ending) (w' : World) : Prop :=
  ∃ v, e = .returned (.tuple #[v, .int .i64 (Glb.new s).2]) ∧ Below w.heap.size w w' ∧ ((Glb.new s).1 ≠ none → Own strV 9 w' w.heap.size v (Pth.parts s))
theorem RNewR.mk {s : List UInt8} {w w' : World} {e : Ending} {v : Value} {r : Option (List Glb.Prt) × Int} (hr : Glb.new s = r) (he : e = .returned (.tuple #[v, .int .i64 r.2])) (hb : Below w.heap.size w w') (ho : r.1 ≠ none → Own strV 9 w' w.heap.size v (Pth.parts s)) : RNewR s w e w' := by
  subst hr
  exact ⟨v, he, hb, ho⟩
set_option maxRecDepth 100000 in
set_option maxHeartbeats 8000000 in
theorem rNew_calls (s : List UInt8) (w : World) (hs : s.length ≤ 1000) : Calls Try.prog 17 #[.string (strL s)] w (RNewR s w) := by
  by_cases h0 : s = []
  · subst h0
    go_enter Try.func17, Try.ntmps17
    go_wp2
    go_ret2
    exact ⟨_, rfl, Below.refl _ _, fun h => absurd (congrArg Prod.fst (Glb.new_short (.inl rfl))) h⟩
  have hs0 : 0 < s.length := List.length_pos_iff.2 h0
  have g0 : decide ((s.length : Int) < 1) = false := decide_eq_false (by omega)
  by_cases h255 : 255 < s.length
  · have g1 : decide (255 < (s.length : Int)) = true := decide_eq_true (by omega)
    have hN := Glb.new_short (.inr (.inl h255))
    unfold RNewR
    rw [hN]
    clear hN
    go_enter Try.func17, Try.ntmps17
    go_wp2
    go_ret2
    exact ⟨_, rfl, Below.refl _ _, fun h => absurd rfl h⟩
  have g1 : decide (255 < (s.length : Int)) = false := decide_eq_false (by omega)
  have k0 : (0 : Int) < (s.length : Int) := by omega
  by_cases hh : s[0] = 47
  case neg =>
    have hd : s.head? ≠ some 47 := by
      cases s with
      | nil => simp
      | cons c t => simpa using hh
    have hN := Glb.new_short (.inr (.inr hd))
    have g2 : ((s[0].toNat : Int) == 47) = false := u8_ne (by decide) hh
    unfold RNewR
    rw [hN]
    clear hN hd hh
    go_enter Try.func17, Try.ntmps17
    go_wp2
    go_ret2
    exact ⟨_, rfl, Below.refl _ _, fun h => absurd rfl h⟩
  have hd : ¬ (s = [] ∨ 255 < s.length ∨ s.head? ≠ some 47) := by
    cases s with
    | nil => exact absurd rfl h0
    | cons c t =>
      rintro (h | h | h)
      · exact h0 h
      · exact h255 h
      · exact h (by simpa using hh)
  have g2 : ((s[0].toNat : Int) == 47) = true := by rw [hh]; rfl
  have HC := Lib.hid (refParts_calls s w (by omega))
  have hpl : (Pth.parts s).length ≤ 140737488351232 := by have := Pth.parts_len s; omega
  have hxl : ∀ x ∈ Pth.parts s, x.length ≤ 1000 := fun x hx => by have := Pth.parts_mem' hx; omega
  obtain ⟨m, hm⟩ : ∃ m, m = (Pth.parts s).length := ⟨_, rfl⟩
  by_cases h16 : 16 < m
  · have hN := Glb.new_long16 hd (by omega)
    have g3 : decide (16 < (m : Int)) = true := decide_eq_true (by omega)
    unfold RNewR
    rw [hN]
    clear hN hd hh hxl
    go_enter Try.func17, Try.ntmps17
    go_wp2_with fail
    refine HC.out.mono ?_
    rintro e w1 ⟨⟨v, rfl, ho⟩, hb⟩
    have HB := Lib.hid hb
    obtain ⟨a, c, rfl, hc⟩ := ho.formN hm.symm
    clear hb ho hc
    go_wp2_with fail
    go_ret2
    exact ⟨_, rfl, HB.out, fun h => absurd rfl h⟩
  have hN := Lib.hid (Glb.new_prts hd (by omega))
  have g3 : decide (16 < (m : Int)) = false := decide_eq_false (by omega)
  have HL := Lib.hid hxl
  clear hd hh hxl hs
  go_enter Try.func17, Try.ntmps17
  go_wp2_with fail
  refine HC.out.mono ?_
  rintro e w1 ⟨⟨v, rfl, ho⟩, hb⟩
  have HB := Lib.hid hb
  obtain ⟨a, c, rfl, hc⟩ := ho.formN hm.symm
  have HO := Lib.hid ho
  have HX := Lib.hid (ho.arr hpl)
  have HM := Lib.hid hm
  clear hb ho hc hm hpl
  go_wp2_with fail
  go_loopw [5, 6, 7] (fun i _ _ wr => ∃ k : Nat, k ≤ m ∧ i = .int .i64 k ∧ (∀ j (h : j < (Pth.parts s).length), j < k → Glb.marksOf (Pth.parts s)[j] ≠ none) ∧ Below w1.heap.size w1 wr) (fun i _ _ _ => m - (intOf i).toNat)
  case atStart => exact ⟨0, by omega, rfl, fun j _ h => absurd h (by omega), Below.refl _ _⟩
  case round =>
    obtain ⟨k, hk, rfl, hg, hb⟩ := hrel
    have HG := Lib.hid hg
    have HBr := Lib.hid hb
    clear hg hb
    by_cases hlt : k < m
    · obtain ⟨b, o, hk', rfl, _, hcx⟩ := (HX.out.on HBr.out).atS hlt
      have g4 : (0 : Int) ≤ (k : Int) := by omega
      have g5 : (k : Int) < (m : Int) := by omega
      have HMk := Lib.hid (rMarks_calls (Pth.parts s)[k] wr (HL.out _ (List.getElem_mem hk')))
      cases hq : Glb.marksOf (Pth.parts s)[k] with
      | none =>
        rw [hq] at HMk
        have hN2 := Glb.prts_none (List.getElem_mem hk') hq
        have hN3 := hN.out
        rw [hN2] at hN3
        have HN3 := Lib.hid hN3
        clear hN3 hN2 hq
        go_wp2_with fail
        refine HMk.out.mono ?_
        rintro e w2 ⟨v2, rfl, _, hb2⟩
        have HB2 := Lib.hid (HB.out.then_ (HBr.out.then_ hb2))
        clear hb2
        go_wp2_with fail
        go_ret2
        exact RNewR.mk HN3.out rfl HB2.out (fun h => absurd rfl h)
      | some gs =>
        rw [hq] at HMk
        have HG2 := Lib.hid (show ∀ j (h : j < (Pth.parts s).length), j < k + 1 → Glb.marksOf (Pth.parts s)[j] ≠ none from fun j h hj => by
          by_cases e : j = k
          · subst e; rw [hq]; simp
          · exact HG.out j h (by omega))
        clear hq
        go_wp2_with fail
        refine HMk.out.mono ?_
        rintro e w2 ⟨v2, rfl, _, hb2⟩
        have HB2 := Lib.hid (HBr.out.then_ hb2)
        clear hb2
        go_wp2_with fail
        go_roundw
        case rel => exact ⟨k + 1, by omega, by go_num, HG2.out, HB2.out⟩
        case measure => simp [intOf]; omega
    · obtain rfl : k = m := by omega
      obtain ⟨ps, hps⟩ := Glb.prts_some (l := Pth.parts s) fun t ht => by
        obtain ⟨j, hj, rfl⟩ := List.getElem_of_mem ht
        exact HG.out j hj (by rw [HM.out]; exact hj)
      have hN3 := hN.out
      rw [hps] at hN3
      have HN3 := Lib.hid hN3
      clear hN3 hps
      go_wp2_with fail
      go_ret2
      exact RNewR.mk HN3.out rfl (HB.out.then_ HBr.out) (fun _ => HO.out.on HBr.out)
end Go.Proofs.Ytlnjfnpoabcllaa
