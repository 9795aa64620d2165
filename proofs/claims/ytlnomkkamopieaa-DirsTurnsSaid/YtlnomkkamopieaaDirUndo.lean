/-
  What is added and removed again; the walk of the law DirsUndoes.
-/
import Derived.Test.YtlnomkkamopieaaDirGood
import Derived.Test.YtlnomkkamopieaaDirLaws1
namespace Go.Proofs.Ytlnomkkamopieaa
open Go.RowKit

namespace Dir
/-- An entry added: the other slots stand as they stood. -/
structure Added (b : List UInt8) (e : Ent) (r : Nat) (x : List UInt8) : Prop where
  good : Good x
  new : rd x r = (e, true, 0)
  here : r < cnt x
  old : ∀ j, j < cnt b → j ≠ r → rd x j = rd b j
  cnt : ∀ j, j < cnt x → j < cnt b ∨ j = r
  back : trimTo (putSlot x r zeros) (Dir.cnt x) = b
  more : Dir.cnt b ≤ Dir.cnt x
theorem not_used_room {b : List UInt8} {r : Nat} (h : isZ (slotAt b r) = true) : ¬ used b r := fun hu => by rw [used_not_zero hu] at h; cases h
theorem addE_ok {b : List UInt8} {e : Ent} (h : addE b e = 0) : Good b ∧ writeE e = 0 ∧ ∀ k, k < cnt b → used b k → nmAt b k ≠ e.nm := by
  unfold addE at h
  split at h
  · rename_i hg
    split at h
    · rename_i hw
      split at h
      · cases h
      · rename_i hf
        refine ⟨good_iff.1 hg, hw, fun k hk hu hn => hf ?_⟩
        rw [find_is (good_iff.1 hg) hk hu hn]
        simp
    · rename_i hw; exact absurd h hw
  · cases h
theorem added {b : List UInt8} {e : Ent} {r : Nat} (h : addE b e = 0) (hr : IsRoom b r) : Added b e r (addedAt b e r) := by
  obtain ⟨hg, hw, hn⟩ := addE_ok h
  have hs := slotL_len e (nameE_len ((writeE_iff e).1 hw).2).2
  have hrd := readR_slot e hw
  by_cases hc : r = cnt b
  · have hx : addedAt b e r = b ++ slotL e := if_pos hc
    rw [hx]
    obtain ⟨q1, q2, q3, q4⟩ := app_at hg.len hs
    have n1 : rd (b ++ slotL e) r = (e, true, 0) := by unfold rd; rw [hc, q2]; exact hrd
    have n2 : ∀ j, j < cnt b → rd (b ++ slotL e) j = rd b j := fun j hj => by unfold rd; rw [q3 j hj]
    refine ⟨⟨by rw [q1, List.length_append, hs, hg.len]; omega, fun k hk => ?_, fun j k hj hk hu hv => ?_, .inr ?_⟩, n1, by omega, fun j hj _ => n2 j hj, fun j hj => by omega, ?_, by omega⟩
    · by_cases hkr : k = r
      · rw [hkr, n1]
      · rw [n2 k (by omega)]; exact hg.err k (by omega)
    · by_cases hkr : k = r
      · subst hkr
        unfold nmAt
        rw [n1, n2 j (by omega)]
        unfold used at hu
        rw [n2 j (by omega)] at hu
        exact hn j (by omega) hu
      · unfold used nmAt at *
        rw [n2 j (by omega)] at hu ⊢
        rw [n2 k (by omega)] at hv ⊢
        exact hg.apart j k hj (by omega) hu hv
    · unfold used
      rw [show cnt (b ++ slotL e) - 1 = r by omega, n1]
    · rw [hc, q4, q1]
      have hz := app_at (s := zeros) hg.len (by simp [zeros])
      rw [trimTo, if_pos (by rw [hz.2.1]; exact isZ_rep 16)]
      have ht : ∀ m, m ≤ cnt b → trimTo (b ++ zeros) m = trimTo b m := by
        intro m
        induction m with
        | zero => intro _; rfl
        | succ m ih =>
          intro hm
          rw [trimTo, trimTo, hz.2.2.1 m (by omega), ih (by omega)]
          split
          · rfl
          · rw [List.take_append_of_le_length (by have := hg.len; omega)]
      rw [ht _ (Nat.le_refl _)]
      exact trim_good hg
  · have hx : addedAt b e r = putSlot b r (slotL e) := if_neg hc
    rw [hx]
    have hrl : r < cnt b := by have := hr.2.1; omega
    have hz := hr.2.2 hrl
    have hcn : cnt (putSlot b r (slotL e)) = cnt b := by unfold cnt; rw [putSlot_len hrl hs]
    have n1 : rd (putSlot b r (slotL e)) r = (e, true, 0) := by unfold rd; rw [put_same hrl hs]; exact hrd
    have n2 : ∀ j, j < cnt b → j ≠ r → rd (putSlot b r (slotL e)) j = rd b j := fun j hj hne => by unfold rd; rw [put_other hrl hs hj hne]
    refine ⟨⟨by rw [putSlot_len hrl hs, hcn]; exact hg.len, fun k hk => ?_, fun j k hj hk hu hv => ?_, .inr ?_⟩, n1, by omega, n2, fun j hj => by omega, ?_, by omega⟩
    · by_cases hkr : k = r
      · rw [hkr, n1]
      · rw [n2 k (by omega) hkr]; exact hg.err k (by omega)
    · by_cases hkr : k = r
      · subst hkr
        unfold nmAt
        rw [n1, n2 j (by omega) (by omega)]
        unfold used at hu
        rw [n2 j (by omega) (by omega)] at hu
        exact hn j (by omega) hu
      · by_cases hjr : j = r
        · subst hjr
          unfold nmAt
          rw [n1, n2 k (by omega) hkr]
          unfold used at hv
          rw [n2 k (by omega) hkr] at hv
          exact fun he => hn k (by omega) hv he.symm
        · unfold used nmAt at *
          rw [n2 j (by omega) hjr] at hu ⊢
          rw [n2 k (by omega) hkr] at hv ⊢
          exact hg.apart j k hj (by omega) hu hv
    · rw [hcn]
      by_cases hlr : cnt b - 1 = r
      · unfold used; rw [hlr, n1]
      · unfold used
        rw [n2 _ (by omega) hlr]
        rcases hg.last with h | h
        · omega
        · exact h
    · rw [put_put hrl hs, hcn]
      have hsz := zero_slot (slotAt_len hrl) hz
      rw [← hsz, put_self]
      exact trim_good hg
theorem undo {b : List UInt8} {e : Ent} {r : Nat} (h : addE b e = 0) (hr : IsRoom b r) : namedE (addedAt b e r) e.nm = 0 ∧ removedL (addedAt b e r) e.nm = b := by
  have ha := added h hr
  have hf := find_is ha.good ha.here (nm := e.nm) (by unfold used; rw [ha.new]) (by unfold nmAt; rw [ha.new])
  have h1 : namedE (addedAt b e r) e.nm = 0 := by
    unfold namedE
    rw [if_pos (good_iff.2 ha.good), hf, if_pos (by simp)]
  have h2 : namedK (addedAt b e r) e.nm = r := by
    unfold namedK
    rw [if_pos h1, hf]; simp
  refine ⟨h1, ?_⟩
  unfold removedL
  rw [h2]
  exact ha.back
theorem added_len {b : List UInt8} {e : Ent} {r : Nat} (h : addE b e = 0) (hr : IsRoom b r) : (addedAt b e r).length ≤ b.length + 16 := by
  obtain ⟨hg, hw, _⟩ := addE_ok h
  have hs := slotL_len e (nameE_len ((writeE_iff e).1 hw).2).2
  unfold addedAt
  split
  · rw [List.length_append, hs]; omega
  · rw [putSlot_len (by have := hr.2.1; omega) hs]; omega
end Dir
set_option maxHeartbeats 4000000 in
theorem dirsUndoes_walk (a : Option Addr) (n c : Nat) (b : List UInt8) (e : Ent) (w : World) (hx : Bytes w w.heap.size a n b) (hnc : n ≤ c) (_ : c ≤ 140737488351232) :
    Calls Try.prog 5 #[.slice a n c, entV e] w fun x w' => x = .returned (.bool true) ∧ Below w.heap.size w w' := by
  have hb0 := (Below.refl w.heap.size w).alloc (Nat.le_refl _) (entO e)
  have HB0 := Lib.hid hb0
  have HX0 := Lib.hid (hx.on hb0)
  have HE0 := Lib.hid (Blk.new w 23 #[.int .i64 e.i, .string (strL e.nm)])
  unfold entO at HB0 HX0
  have HL := Lib.hid hx.len
  clear hb0 hx
  by_cases h2 : 1500 < n
  · have g2 : decide (1500 < n) = true := decide_eq_true h2
    obtain ⟨i, nm⟩ := e
    clear h2
    go_enter Try.func5, Try.ntmps5
    go_wp2_with fail
    refine (long_calls _ _ _ _).mono ?_
    rintro e w_ ⟨rfl, rfl⟩
    rw [g2]
    go_wp2_with fail
    refine (known_calls _).mono ?_
    rintro e wk_ ⟨rfl, h_⟩
    have HBk_ := Lib.hid h_
    clear h_
    go_wp2
    go_ret
    exact ⟨rfl, Below.then_ (HB0.out) HBk_.out⟩
  have g2 : decide (1500 < n) = false := decide_eq_false h2
  by_cases h1 : 500 < e.nm.length
  · have g1 : decide (500 < (e.nm.length : Int)) = true := decide_eq_true (by omega)
    obtain ⟨i, nm⟩ := e
    clear h1 h2
    go_enter Try.func5, Try.ntmps5
    go_wp2_with fail
    refine (long_calls _ _ _ _).mono ?_
    rintro e w_ ⟨rfl, rfl⟩
    rw [g2]
    go_wp2_with fail
    refine (known_calls _).mono ?_
    rintro e wk_ ⟨rfl, h_⟩
    have HBk_ := Lib.hid h_
    clear h_
    go_wp2
    go_ret
    exact ⟨rfl, Below.then_ (HB0.out) HBk_.out⟩
  have g1 : decide (500 < (e.nm.length : Int)) = false := decide_eq_false (by omega)
  have HA := Lib.hid (fun W (hx : Bytes W W.heap.size a n b) => add_calls a n c b e W hx hnc (by omega) (by omega))
  unfold AddR at HA
  by_cases hE : Dir.addE b e = 0
  case neg =>
    generalize Dir.addE b e = E at *
    have g3 : (E == 0) = false := by simpa using hE
    have g4 : (E != 0) = true := by simpa using hE
    have HE := Lib.hid hE
    obtain ⟨i, nm⟩ := e
    clear h1 h2 hE
    go_enter Try.func5, Try.ntmps5
    go_wp2_with fail
    refine (long_calls _ _ _ _).mono ?_
    rintro e w_ ⟨rfl, rfl⟩
    rw [g2]
    go_wp2_with fail
    refine (HA.out _ HX0.out).mono ?_
    rintro e w1 ⟨⟨v, xs, rfl, ho, _, hno⟩, hb⟩
    obtain rfl := hno HE.out
    obtain ⟨a1, c1, rfl, _⟩ := ho.formN (n := 0) rfl
    have HB1 := Lib.hid (HB0.out.then_ hb)
    clear ho hno hb
    go_wp2_with fail
    refine (known_calls _).mono ?_
    rintro e wk_ ⟨rfl, h_⟩
    have HBk_ := Lib.hid h_
    clear h_
    go_wp2
    go_ret
    exact ⟨rfl, Below.then_ (HB1.out) HBk_.out⟩
  rw [hE] at HA
  have HU := Lib.hid (fun r hr => Dir.undo (e := e) hE (r := r) hr)
  have HLN := Lib.hid (fun r hr => Dir.added_len (e := e) hE (r := r) hr)
  obtain ⟨i, nm⟩ := e
  have hn1500 : n ≤ 1500 := by omega
  clear h1 h2 hE
  go_enter Try.func5, Try.ntmps5
  go_wp2_with fail
  refine (long_calls _ _ _ _).mono ?_
  rintro e w_ ⟨rfl, rfl⟩
  rw [g2]
  go_wp2_with fail
  refine (HA.out _ HX0.out).mono ?_
  rintro e w1 ⟨⟨v, xs, rfl, ho, hyes, _⟩, hb⟩
  obtain ⟨r, hr, rfl⟩ := hyes (by trivial)
  obtain ⟨u1, u2⟩ := HU.out r hr
  have hln := HLN.out r hr
  rw [HL.out] at hln
  obtain ⟨a1, c1, rfl, hc1⟩ := ho.form
  have hxx := ho.arr (by omega)
  have HB1 := Lib.hid (HB0.out.then_ hb)
  have HX1 := Lib.hid (HX0.out.on hb)
  have e1 := HE0.out.belowHere hb
  have e10 := e1.cellv (i := 0) rfl
  have e11 := e1.cellv (i := 1) rfl
  have HR := Lib.hid (remove_calls a1 _ c1 _ nm w1 hxx hc1 (by omega))
  unfold RemoveR at HR
  rw [u1, u2] at HR
  generalize Dir.addedAt b ⟨i, nm⟩ r = xx at *
  clear ho hyes hb hr u1 u2 e1 hxx
  go_wp2_with fail
  refine HR.out.mono ?_
  rintro e w2 ⟨⟨v, ys, rfl, ho, hyes, _⟩, hb⟩
  obtain rfl := hyes (by trivial)
  obtain ⟨a2, c2, rfl, hc2⟩ := ho.formN (n := n) HL.out
  have HB2 := Lib.hid (HB1.out.then_ hb)
  have HSA := Lib.hid (same_yes a2 a n c2 n c _ w2 (ho.arr (by rw [HL.out]; omega)) (HX1.out.on hb))
  clear ho hyes hb
  go_wp2_with fail
  refine HSA.out.mono ?_
  rintro e w_ ⟨rfl, rfl⟩
  go_wp2_with fail
  refine (known_calls _).mono ?_
  rintro e wk_ ⟨rfl, h_⟩
  have HBk_ := Lib.hid h_
  clear h_
  go_wp2
  go_ret
  exact ⟨rfl, Below.then_ (HB2.out) HBk_.out⟩
end Go.Proofs.Ytlnomkkamopieaa
