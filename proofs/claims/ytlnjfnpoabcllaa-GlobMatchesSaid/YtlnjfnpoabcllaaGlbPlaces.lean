/-
  skip, places: where a pattern may stand behind names.
-/
import Derived.Test.YtlnjfnpoabcllaaGlbSome
import Derived.Test.YtlnjfnpoabcllaaGlbMatch
import Derived.Test.YtlnjfnpoabcllaaStrs
namespace Go.Proofs.Ytlnjfnpoabcllaa
open Go.RowKit

abbrev BoolsO := Own boolV 4
theorem boolV_one (x : Bool) : (boolV x).oneCell' = true := rfl
theorem isAll_at {ps : List Glb.Prt} {k : Nat} (hk : k < ps.length) : Glb.isAll (ps.map Glb.abP) k = ps[k].all := by
  unfold Glb.isAll
  rw [List.getElem?_map, List.getElem?_eq_getElem hk]
  rfl
def skRow (ps : List Glb.Prt) (f : Nat → Bool) (k : Nat) (i : Nat) : Bool := if i ≤ k then Glb.sk (Glb.isAll (ps.map Glb.abP)) f i else f i
theorem BoolsO.at_ {w : World} {base g L cc : Nat} {f : Nat → Bool} (h : BoolsO w base (.slice (some ⟨g, 0, none⟩) L cc) (Glb.rowB L f)) {k : Nat} (hk : k < L) : w.cell? ⟨g, k, none⟩ = some (.bool (f k)) ∧ w.frozen? ⟨g, k, none⟩ = false := by
  have h2 := Own.cellg h (k := k) (by rw [Glb.rowB_len]; exact hk)
  rw [Glb.rowB_get] at h2
  exact h2
theorem BoolsO.put {w : World} {base g L cc : Nat} {f : Nat → Bool} (h : BoolsO w base (.slice (some ⟨g, 0, none⟩) L cc) (Glb.rowB L f)) (k : Nat) (v : Bool) : BoolsO (w.setCell ⟨g, k, none⟩ (.bool v)) base (.slice (some ⟨g, 0, none⟩) L cc) (Glb.rowB L (fun i => if i = k then v else f i)) := by
  have h2 := Own.set h k v
  rw [Glb.rowB_set] at h2
  exact h2
theorem BoolsO.same {w : World} {base L : Nat} {v : Value} {f f' : Nat → Bool} (h : BoolsO w base v (Glb.rowB L f)) (hf : ∀ i, i < L → f i = f' i) : BoolsO w base v (Glb.rowB L f') := by rw [← Glb.rowB_congr hf]; exact h
theorem skRow_zero {ps : List Glb.Prt} {f : Nat → Bool} (i : Nat) : f i = skRow ps f 0 i := by
  unfold skRow
  split
  · rename_i h
    obtain rfl : i = 0 := by omega
    rfl
  · rfl
theorem skRow_no {ps : List Glb.Prt} {f : Nat → Bool} {k : Nat} (h : (Glb.sk (Glb.isAll (ps.map Glb.abP)) f k && Glb.isAll (ps.map Glb.abP) k) = false) (i : Nat) : skRow ps f k i = skRow ps f (k + 1) i := by
  unfold skRow
  by_cases h1 : i ≤ k
  · rw [if_pos h1, if_pos (by omega)]
  · rw [if_neg h1]
    by_cases h2 : i = k + 1
    · subst h2
      rw [if_pos (Nat.le_refl _), Glb.sk, h, Bool.or_false]
    · rw [if_neg (by omega)]
theorem skRow_yes {ps : List Glb.Prt} {f : Nat → Bool} {k : Nat} (h : (Glb.sk (Glb.isAll (ps.map Glb.abP)) f k && Glb.isAll (ps.map Glb.abP) k) = true) (i : Nat) : (if i = k + 1 then true else skRow ps f k i) = skRow ps f (k + 1) i := by
  unfold skRow
  by_cases h2 : i = k + 1
  · subst h2
    rw [if_pos rfl, if_pos (Nat.le_refl _), Glb.sk, h, Bool.or_true]
  · rw [if_neg h2]
    by_cases h1 : i ≤ k
    · rw [if_pos h1, if_pos (by omega)]
    · rw [if_neg h1, if_neg (by omega)]
set_option maxHeartbeats 4000000 in
theorem skip_calls (B pb : Nat) (a : Option Addr) (n c : Nat) (ps : List Glb.Prt) (base g L cc : Nat) (f : Nat → Bool) (w : World) (h : PatP B w pb a n c ps) (hB : B ≤ base) (hL : L = n + 1) (ho : BoolsO w base (.slice (some ⟨g, 0, none⟩) L cc) (Glb.rowB L f)) :
    Calls Try.prog 41 #[.pointer (some ⟨pb, 0, none⟩), .slice (some ⟨g, 0, none⟩) L cc] w fun e w' => e = .returned (.tuple #[]) ∧ BoolsO w' base (.slice (some ⟨g, 0, none⟩) L cc) (Glb.rowB L (Glb.sk (Glb.isAll (ps.map Glb.abP)) f)) ∧ Below base w w' := by
  have HP := Lib.hid h
  have c0 := h.blk.cellv (i := 0) rfl
  have hn := h.le
  have hpl := h.len
  have HPL := Lib.hid hpl
  obtain ⟨g', e', hgb, hgl⟩ := Own.addr ho (by rw [Glb.rowB_len]; omega)
  obtain rfl : g = g' := by injection e' with e'; injection e'
  have HO := Lib.hid (BoolsO.same ho (f' := skRow ps f 0) (fun i _ => skRow_zero i))
  have HL := Lib.hid hL
  have hL2 : n < L := by omega
  have hwB : base ≤ w.heap.size := by omega
  clear h hpl ho e' hL
  go_enter Try.func41, Try.ntmps41
  go_wp2_with fail
  go_loopw [4, 5, 11] (fun _ _ i wr => ∃ k : Nat, k ≤ n ∧ i = .int .i64 k ∧ BoolsO wr base (.slice (some ⟨g, 0, none⟩) L cc) (Glb.rowB L (skRow ps f k)) ∧ Below base w wr) (fun _ _ i _ => n - (intOf i).toNat)
  case atStart => exact ⟨0, by omega, rfl, HO.out, Below.refl _ _⟩
  case round =>
    obtain ⟨k, hk, rfl, ho, hb⟩ := hrel
    have HB := Lib.hid hb
    have hsz := hb.size
    clear c0
    by_cases hlt : k < n
    · obtain ⟨b, o, x, hk', rfl, hSb, hp, m0, m1⟩ := (HP.out.on hb hB).pat.at_ hlt
      have g0 : (0 : Int) ≤ (k : Int) := by omega
      have g1 : (k : Int) < (n : Int) := by omega
      have g2 : (k : Int) < (L : Int) := by omega
      have g3 : (k : Int) + 1 < (L : Int) := by omega
      have hbb := (Below.refl wr.heap.size wr).alloc (Nat.le_refl _) (.cells #[.bool x.all, .slice x.a x.n x.cp] 48)
      obtain ⟨n0, _⟩ := BoolsO.at_ ho (k := k) (by omega)
      obtain ⟨n1, f1⟩ := BoolsO.at_ ho (k := k + 1) (by omega)
      have hgr := (Own.blockLt ho g rfl).2
      have hx : Glb.isAll (ps.map Glb.abP) k = x.all := by rw [isAll_at hk', hp.1]
      have HX := Lib.hid hx
      have e0 : skRow ps f k k = Glb.sk (Glb.isAll (ps.map Glb.abP)) f k := by unfold skRow; rw [if_pos (Nat.le_refl _)]
      have HE := Lib.hid e0
      have HO2 := Lib.hid (Own.on ho hbb)
      have HO0 := Lib.hid ho
      have HB2 := Lib.hid (HB.out.trans (hbb.mono (by omega)))
      generalize skRow ps f k (k + 1) = z at *
      obtain ⟨y, hy⟩ : ∃ y, y = skRow ps f k k := ⟨_, rfl⟩
      rw [← hy] at n0 HE
      obtain ⟨xa, x1, x2, x3⟩ := x
      dsimp only at *
      clear ho hb hp hbb hx e0 hy hk'
      cases hyx : (y && xa)
      · have HS := Lib.hid (BoolsO.same HO2.out (f' := skRow ps f (k + 1)) (fun i _ => skRow_no (by rw [← HE.out, HX.out]; exact hyx) i))
        cases y
        · go_wp2_with fail
          go_simp
          go_wp2_with fail
          go_roundw
          case rel => exact ⟨k + 1, by omega, by go_num, HS.out, HB2.out⟩
          case measure => simp [intOf]; omega
        · cases xa
          · go_wp2_with fail
            go_simp
            go_wp2_with fail
            go_roundw
            case rel => exact ⟨k + 1, by omega, by go_num, HS.out, HB2.out⟩
            case measure => simp [intOf]; omega
          · cases hyx
      · obtain ⟨rfl, rfl⟩ : y = true ∧ xa = true := by simpa using hyx
        have HS := Lib.hid (Own.alloc (BoolsO.same (BoolsO.put HO0.out (k + 1) true) (f' := skRow ps f (k + 1)) (fun i _ => skRow_yes (by rw [← HE.out, HX.out]; rfl) i)) (.cells #[.bool true, .slice x1 x2 x3] 48))
        clear hyx
        go_wp2_with fail
        go_simp
        go_wp2_with fail
        go_roundw
        case rel => exact ⟨k + 1, by omega, by go_num, HS.out, (HB.out.setCell (p := ⟨g, k + 1, none⟩) hgb _).alloc (by simp; omega) _⟩
        case measure => simp [intOf]; omega
    · obtain rfl : k = n := by omega
      have g1 : decide ((k : Int) < (k : Int)) = false := decide_eq_false (by omega)
      have HS := Lib.hid (BoolsO.same ho (f' := Glb.sk (Glb.isAll (ps.map Glb.abP)) f) (fun i hi => by unfold skRow; rw [if_pos (by have := HL.out; omega)]))
      clear ho hb
      go_wp2_with fail
      go_end0
      exact ⟨rfl, HS.out, HB.out⟩
end Go.Proofs.Ytlnjfnpoabcllaa
