/-
  The reference's Name.
-/
import Derived.Test.YtlnomkkamopieaaPathName
namespace Go.Proofs.Ytlnomkkamopieaa
open Go.RowKit

set_option maxHeartbeats 1000000 in
theorem refName_calls (l : List UInt8) (w : World) (hl : l.length ≤ 140737488351232) :
    Calls Try.prog 28 #[.string (strL l)] w fun e w' => e = .returned (.int .i64 (Pth.nameE l)) ∧ w = w' := by
  by_cases h0 : l = []
  · subst h0
    have hv : Pth.nameE [] = 31 := by decide
    rw [hv]
    clear hv
    go_enter Try.func28, Try.ntmps28
    go_wp2
    go_ret
    exact ⟨rfl, rfl⟩
  have g0 : decide ((l.length : Int) < 1) = false := decide_eq_false (by have := List.length_pos_iff.2 h0; omega)
  by_cases h1 : 13 < l.length
  · have g1 : decide (13 < (l.length : Int)) = true := decide_eq_true (by omega)
    rw [nameE_bad l (fun h => by omega)]
    clear h0 h1
    go_enter Try.func28, Try.ntmps28
    go_wp2
    go_ret
    exact ⟨rfl, rfl⟩
  have g1 : decide (13 < (l.length : Int)) = false := decide_eq_false (by omega)
  by_cases h2 : l = [46]
  · have g2 : (l == [46]) = true := by rw [h2]; rfl
    rw [nameE_bad l (fun h => h.2.2.1 h2)]
    clear h0 h1 h2
    go_enter Try.func28, Try.ntmps28
    go_wp2
    go_ret
    exact ⟨rfl, rfl⟩
  have g2 : (l == [46]) = false := by simpa using h2
  by_cases h3 : l = [46, 46]
  · have g3 : (l == [46, 46]) = true := by rw [h3]; rfl
    rw [nameE_bad l (fun h => h.2.2.2.1 h3)]
    clear h0 h1 h2 h3
    go_enter Try.func28, Try.ntmps28
    go_wp2
    go_ret
    exact ⟨rfl, rfl⟩
  have g3 : (l == [46, 46]) = false := by simpa using h3
  have HG := Lib.hid (fun h => nameE_good l ⟨h0, by omega, h2, h3, h⟩)
  have HB := Lib.hid (fun (h : ¬ l.all Pth.byteOk = true) => nameE_bad l (fun hh => h hh.2.2.2.2))
  obtain ⟨E, hE⟩ : ∃ E, E = Pth.nameE l := ⟨_, rfl⟩
  rw [← hE] at HG HB ⊢
  clear h0 h1 h2 h3 hE
  go_enter Try.func28, Try.ntmps28
  go_wp2
  go_loop [3] (fun i => ∃ k : Nat, k ≤ l.length ∧ i = .int .i64 k ∧ (l.take k).all Pth.byteOk = true) (fun i => l.length - (intOf i).toNat)
  case atStart => exact ⟨0, by omega, rfl, rfl⟩
  case round =>
    obtain ⟨k, hk, rfl, hall⟩ := hrel
    have HA := Lib.hid hall
    clear hall
    by_cases hlt : k < l.length
    · have HT := Lib.hid (all_take_snoc l Pth.byteOk k hlt)
      have HK := Lib.hid (byteOk_iff l[k])
      have HM := Lib.hid (List.getElem_mem hlt)
      have hb := (l[k]).toNat_lt
      cases hc : Pth.byteOk l[k]
      · have hbad := Lib.hid (HB.out (fun h => by have h2 := List.all_eq_true.1 h _ HM.out; rw [hc] at h2; cases h2))
        have hor : ((l[k].toNat : Int) == 0) = true ∨ ((l[k].toNat : Int) == 47) = true := by
          cases h1 : ((l[k].toNat : Int) == 0)
          · cases h2 : ((l[k].toNat : Int) == 47)
            · have := HK.out.2 ⟨h1, h2⟩; rw [hc] at this; cases this
            · exact .inr rfl
          · exact .inl rfl
        clear hc
        cases hz : ((l[k].toNat : Int) == 0)
        · rcases hor with h | h
          · rw [hz] at h; cases h
          · go_wp2
            go_ret
            exact ⟨by rw [hbad.out]; rfl, rfl⟩
        · clear hor
          go_wp2
          go_ret
          exact ⟨by rw [hbad.out]; rfl, rfl⟩
      · obtain ⟨z1, z2⟩ := HK.out.1 hc
        rw [hc] at HT
        clear hc
        go_wp2
        go_round
        case rel => exact ⟨k + 1, by omega, by go_num, by rw [HT.out, HA.out]; rfl⟩
        case measure => simp [intOf]; omega
    · obtain rfl : k = l.length := by omega
      have hg := Lib.hid (HG.out (by have := HA.out; rw [List.take_length] at this; exact this))
      go_wp2
      go_ret
      exact ⟨by rw [hg.out]; rfl, rfl⟩
end Go.Proofs.Ytlnomkkamopieaa
