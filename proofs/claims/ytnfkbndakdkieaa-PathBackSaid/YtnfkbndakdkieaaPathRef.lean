/-
  The reference's Name, Parts, Parse, Same and Size.
-/
import Derived.Test.YtnfkbndakdkieaaPathParse
namespace Go.Proofs.Ytnfkbndakdkieaa
open Go.RowKit

set_option maxHeartbeats 1000000 in
theorem refName_calls (l : List UInt8) (w : World) (hl : l.length ≤ 140737488351232) :
    Calls Try.prog 24 #[.string (strL l)] w fun e w' => e = .returned (.int .i64 (Pth.nameE l)) ∧ w = w' := by
  by_cases h0 : l = []
  · subst h0
    have hv : Pth.nameE [] = 31 := by decide
    rw [hv]
    clear hv
    go_enter Try.func24, Try.ntmps24
    go_wp2
    go_ret
    exact ⟨rfl, rfl⟩
  have g0 : decide ((l.length : Int) < 1) = false := decide_eq_false (by have := List.length_pos_iff.2 h0; omega)
  by_cases h1 : 13 < l.length
  · have g1 : decide (13 < (l.length : Int)) = true := decide_eq_true (by omega)
    rw [nameE_bad l (fun h => by omega)]
    clear h0 h1
    go_enter Try.func24, Try.ntmps24
    go_wp2
    go_ret
    exact ⟨rfl, rfl⟩
  have g1 : decide (13 < (l.length : Int)) = false := decide_eq_false (by omega)
  by_cases h2 : l = [46]
  · have g2 : (l == [46]) = true := by rw [h2]; rfl
    rw [nameE_bad l (fun h => h.2.2.1 h2)]
    clear h0 h1 h2
    go_enter Try.func24, Try.ntmps24
    go_wp2
    go_ret
    exact ⟨rfl, rfl⟩
  have g2 : (l == [46]) = false := by simpa using h2
  by_cases h3 : l = [46, 46]
  · have g3 : (l == [46, 46]) = true := by rw [h3]; rfl
    rw [nameE_bad l (fun h => h.2.2.2.1 h3)]
    clear h0 h1 h2 h3
    go_enter Try.func24, Try.ntmps24
    go_wp2
    go_ret
    exact ⟨rfl, rfl⟩
  have g3 : (l == [46, 46]) = false := by simpa using h3
  have HG := Lib.hid (fun h => nameE_good l ⟨h0, by omega, h2, h3, h⟩)
  have HB := Lib.hid (fun (h : ¬ l.all Pth.byteOk = true) => nameE_bad l (fun hh => h hh.2.2.2.2))
  obtain ⟨E, hE⟩ : ∃ E, E = Pth.nameE l := ⟨_, rfl⟩
  rw [← hE] at HG HB ⊢
  clear h0 h1 h2 h3 hE
  go_enter Try.func24, Try.ntmps24
  go_wp2
  go_loop [3] (fun i => ∃ k : Nat, k ≤ l.length ∧ i = .int .i64 k ∧ (l.take k).all Pth.byteOk = true) (fun i => l.length - (intOf i).toNat)
  case atStart => exact ⟨0, by omega, rfl, rfl⟩
  case round =>
    obtain ⟨k, hk, rfl, hall⟩ := hrel
    have HA := Lib.hid hall
    clear hall
    by_cases hlt : k < l.length
    · have HT := Lib.hid (all_take_snoc l Pth.byteOk k hlt)
      have HK := Lib.hid (byteOk_iff l[k])
      have HM := Lib.hid (List.getElem_mem hlt)
      have hb := (l[k]).toNat_lt
      cases hc : Pth.byteOk l[k]
      · have hbad := Lib.hid (HB.out (fun h => by have h2 := List.all_eq_true.1 h _ HM.out; rw [hc] at h2; cases h2))
        have hor : ((l[k].toNat : Int) == 0) = true ∨ ((l[k].toNat : Int) == 47) = true := by
          cases h1 : ((l[k].toNat : Int) == 0)
          · cases h2 : ((l[k].toNat : Int) == 47)
            · have := HK.out.2 ⟨h1, h2⟩; rw [hc] at this; cases this
            · exact .inr rfl
          · exact .inl rfl
        clear hc
        cases hz : ((l[k].toNat : Int) == 0)
        · rcases hor with h | h
          · rw [hz] at h; cases h
          · go_wp2
            go_ret
            exact ⟨by rw [hbad.out]; rfl, rfl⟩
        · clear hor
          go_wp2
          go_ret
          exact ⟨by rw [hbad.out]; rfl, rfl⟩
      · obtain ⟨z1, z2⟩ := HK.out.1 hc
        rw [hc] at HT
        clear hc
        go_wp2
        go_round
        case rel => exact ⟨k + 1, by omega, by go_num, by rw [HT.out, HA.out]; rfl⟩
        case measure => simp [intOf]; omega
    · obtain rfl : k = l.length := by omega
      have hg := Lib.hid (HG.out (by have := HA.out; rw [List.take_length] at this; exact this))
      go_wp2
      go_ret
      exact ⟨by rw [hg.out]; rfl, rfl⟩
section
attribute [local go_sem] strL_cut
set_option maxHeartbeats 2000000 in
theorem refParts_calls (l : List UInt8) (w : World) (hl : l.length ≤ 100000) :
    Calls Try.prog 23 #[.string (strL l)] w fun e w' => (∃ v, e = .returned v ∧ Own strV 9 w' w.heap.size v (Pth.parts l)) ∧ Below w.heap.size w w' := by
  go_enter Try.func23, Try.ntmps23
  go_wp2
  go_loopw [3, 4, 5] (fun v f i wr => ∃ (xs : List (List UInt8)) (fr k : Nat), f = .int .i64 fr ∧ i = .int .i64 k ∧ fr ≤ k ∧ k ≤ l.length + 1 ∧ xs.length ≤ k ∧ (if k ≤ l.length then Pth.parts l = xs ++ Pth.partsA (Pth.cur l fr k) (l.drop k) else Pth.parts l = xs) ∧ Own strV 9 wr w.heap.size v xs ∧ Below w.heap.size w wr) (fun _ _ i _ => l.length + 1 - (intOf i).toNat)
  case atStart => exact ⟨[], 0, 0, rfl, rfl, by omega, by omega, by simp, by rw [if_pos (by omega)]; rfl, Own.nil _ _, Below.refl _ _⟩
  case round =>
    obtain ⟨xs, fr, k, rfl, rfl, hf, hk, hxk, hp, ho, hb⟩ := hrel
    have HP := Lib.hid hp
    have HO := Lib.hid ho
    have HB := Lib.hid hb
    have hsz := hb.size
    obtain ⟨a1, c1, rfl, _⟩ := ho.formN (n := xs.length) rfl
    clear hp ho hb
    by_cases hend : k = l.length + 1
    · subst hend
      go_wp2
      go_ret
      have hp := HP.out
      rw [if_neg (by omega)] at hp
      exact ⟨⟨_, rfl, by rw [hp]; exact HO.out⟩, HB.out⟩
    have hk2 : k ≤ l.length := by omega
    rw [if_pos hk2] at HP
    have HC := Lib.hid (Pth.opt_cur l fr k hf hk2)
    have hcc := Lib.hid (show (l.drop fr).take (k - fr) = Pth.cur l fr k from rfl)
    by_cases hlast : k = l.length
    · have hn := Lib.hid (show Pth.parts l = xs ++ Pth.opt (Pth.cur l fr k) by have := HP.out; rw [hlast, List.drop_length] at this; rw [hlast]; exact this)
      have g5 : ((k : Int) == (l.length : Int)) = true := by simp [hlast]
      have hlk := Lib.hid (show ¬ (k + 1 ≤ l.length) by omega)
      by_cases hlt : fr < k
      · rw [if_pos hlt] at HC
        have g6 : decide ((fr : Int) < (k : Int)) = true := decide_eq_true (by omega)
        clear hlast
        go_wp2_with (at_builtin; refine wpList_litS rfl _ _ rfl w.heap.size _ xs rfl HO.out 1 [Pth.cur l fr k] rfl rfl rfl (by omega) hsz ?_; intro v2 w2 HO2 hb2)
        go_roundw
        case rel => exact ⟨_, k + 1, k + 1, by go_num, by go_num, by omega, by omega, by simp; omega, by rw [if_neg hlk.out, hn.out, HC.out], HO2.out, HB.out.trans hb2.out⟩
        case measure => simp [intOf]; omega
      · rw [if_neg hlt] at HC
        have g6 : decide ((fr : Int) < (k : Int)) = false := decide_eq_false (by omega)
        clear hlast
        go_wp2
        go_roundw
        case rel => exact ⟨_, k + 1, k + 1, by go_num, by go_num, by omega, by omega, by omega, by rw [if_neg hlk.out, hn.out, HC.out, List.append_nil], HO.out, HB.out⟩
        case measure => simp [intOf]; omega
    · have hkl : k < l.length := by omega
      have g5 : ((k : Int) == (l.length : Int)) = false := by rw [beq_eq_false_iff_ne]; omega
      have HA := Lib.hid (Pth.partsA_at (Pth.cur l fr k) l k hkl)
      have HS := Lib.hid (Pth.cur_snoc l fr k hf hkl)
      have hb9 := (l[k]).toNat_lt
      by_cases hc : l[k] = 47
      · rw [if_pos hc] at HA
        have g7 : ((l[k].toNat : Int) == 47) = true := by rw [hc]; rfl
        have hn := Lib.hid (show Pth.parts l = (xs ++ Pth.opt (Pth.cur l fr k)) ++ Pth.partsA (Pth.cur l (k + 1) (k + 1)) (l.drop (k + 1)) by rw [HP.out, HA.out, Pth.cur_nil, List.append_assoc])
        clear hc hlast hend
        by_cases hlt : fr < k
        · rw [if_pos hlt] at HC
          have g6 : decide ((fr : Int) < (k : Int)) = true := decide_eq_true (by omega)
          go_wp2_with (at_builtin; refine wpList_litS rfl _ _ rfl w.heap.size _ xs rfl HO.out 1 [Pth.cur l fr k] rfl rfl rfl (by omega) hsz ?_; intro v2 w2 HO2 hb2)
          go_roundw
          case rel => exact ⟨_, k + 1, k + 1, by go_num, by go_num, by omega, by omega, by simp; omega, by rw [if_pos (by omega), hn.out, HC.out], HO2.out, HB.out.trans hb2.out⟩
          case measure => simp [intOf]; omega
        · rw [if_neg hlt] at HC
          have g6 : decide ((fr : Int) < (k : Int)) = false := decide_eq_false (by omega)
          go_wp2
          go_roundw
          case rel => exact ⟨_, k + 1, k + 1, by go_num, by go_num, by omega, by omega, by omega, by rw [if_pos (by omega), hn.out, HC.out, List.append_nil], HO.out, HB.out⟩
          case measure => simp [intOf]; omega
      · rw [if_neg hc] at HA
        have g7 : ((l[k].toNat : Int) == 47) = false := by
          rw [beq_eq_false_iff_ne]
          intro e
          apply hc
          apply UInt8.toNat_inj.1
          show l[k].toNat = 47
          omega
        have hn := Lib.hid (show Pth.parts l = xs ++ Pth.partsA (Pth.cur l fr (k + 1)) (l.drop (k + 1)) by rw [HP.out, HA.out, HS.out])
        clear hc hlast hend
        go_wp2
        go_roundw
        case rel => exact ⟨_, fr, k + 1, rfl, by go_num, by omega, by omega, by omega, by rw [if_pos (by omega), hn.out], HO.out, HB.out⟩
        case measure => simp [intOf]; omega
end
end Go.Proofs.Ytnfkbndakdkieaa
