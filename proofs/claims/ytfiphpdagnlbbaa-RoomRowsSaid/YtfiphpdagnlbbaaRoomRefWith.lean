/-
  The reference's With.
-/
import Derived.Test.YtfiphpdagnlbbaaRoomRefW
import Derived.Deep.DeepCutAuto
import Derived.Deep.CutBlock
namespace Go.Proofs.Ytfiphpdagnlbbaa
open Go.RowKit

theorem below_dN {n0 : Nat} (w : World) (k : Nat) : Below n0 w (w.drewN k) := ⟨rfl, rfl, rfl, Nat.le_refl _, fun _ _ => rfl⟩
set_option maxHeartbeats 4000000 in
theorem refWith_calls (a : Option Addr) (n c : Nat) (xs : List Int) (f t : Int) (w : World) (hx : Arr intV w w.heap.size a n xs) (hn : n ≤ 2000) (hm : Room.more f t ≤ 2000) :
    Calls Try.prog 22 #[.slice a n c, .int .i64 f, .int .i64 t] w (FreshI (Room.row (Room.all xs f t)) w) := by
  have HX := Lib.hid hx
  have HL := Lib.hid hx.len
  have HM := Lib.hid (show Room.more f t = if 0 ≤ f ∧ t ≤ 131072 then (t - f).toNat else 0 from rfl)
  have HAll := Lib.hid (show Room.all xs f t = xs ++ Room.span f (Room.more f t) from rfl)
  obtain ⟨al, hal⟩ : ∃ al, al = Room.all xs f t := ⟨_, rfl⟩
  rw [← hal] at HAll ⊢
  generalize Room.more f t = m at *
  have hall : al.length = n + m := by rw [HAll.out, List.length_append, Room.span_len, HL.out]
  have HLen := Lib.hid hall
  clear hx hal hall
  go_enter Try.func22, Try.ntmps22
  go_upto_block 0 with (at_builtin; refine wpList_ontoI rfl _ _ rfl w.heap.size _ [] rfl (Own.nil _ _) _ a n c xs rfl HX.out (by simp only [List.length_nil]; omega) (Nat.le_refl _) ?_; intro v1 w1 HO1 HB1)
  rw [List.nil_append] at HO1
  have hs1 := HB1.out.size
  go_cut [7, 8] (fun v _ wx => Own intV 3 wx w.heap.size v al ∧ Below w.heap.size w wx)
  case first =>
    go_wp2_with fail
    go_loopw [7, 8] (fun v i wr => ∃ k : Nat, k ≤ m ∧ i = .int .i64 (f + k) ∧ Own intV 3 wr w.heap.size v (xs ++ Room.span f k) ∧ Below w.heap.size w wr) (fun _ i _ => (f + m - intOf i).toNat)
    case atStart => exact ⟨0, by omega, by simp, by simpa [Room.span] using HO1.out, HB1.out⟩
    case round =>
      obtain ⟨k, hk, rfl, ho, hb⟩ := hrel
      have HO := Lib.hid ho
      have HB := Lib.hid hb
      have hsz := hb.size
      have hlen : (xs ++ Room.span f k).length = n + k := by rw [List.length_append, Room.span_len, HL.out]
      have HLn := Lib.hid hlen
      clear ho hb hlen
      by_cases hlt : k < m
      · have h1 : 0 ≤ f ∧ t ≤ 131072 := by
          by_cases h : 0 ≤ f ∧ t ≤ 131072
          · exact h
          · have := HM.out; rw [if_neg h] at this; omega
        have h2 : f + k < t := by have := HM.out; rw [if_pos h1] at this; omega
        obtain ⟨h3, h4⟩ := h1
        go_wp2_with (at_builtin; refine wpList_litI rfl _ _ rfl w.heap.size _ _ rfl HO.out (f + (k : Int)) rfl rfl (by rw [HLn.out]; omega) hsz ?_; intro v2 w2 HO2 HB2)
        go_roundw
        case rel => exact ⟨k + 1, by omega, by congr 1; omega, by rw [Room.span_snoc, ← List.append_assoc]; exact HO2.out, HB.out.trans HB2.out⟩
        case measure => simp [intOf]; omega
      · obtain rfl : k = m := by omega
        have h2 : ¬ (0 ≤ f ∧ t ≤ 131072 ∧ f + k < t) := fun ⟨a1, a2, a3⟩ => by have := HM.out; rw [if_pos ⟨a1, a2⟩] at this; omega
        by_cases h3 : 0 ≤ f
        · by_cases h4 : t ≤ 131072
          · have h5 : ¬ f + (k : Int) < t := fun h => h2 ⟨h3, h4, h⟩
            have h6 : decide (f + (k : Int) < t) = false := decide_eq_false h5
            clear h2
            go_wp2_with fail
            go_meet
            exact ⟨by rw [HAll.out]; exact HO.out, HB.out⟩
          · have h6 : decide (t ≤ 131072) = false := decide_eq_false h4
            clear h2
            go_wp2_with fail
            go_meet
            exact ⟨by rw [HAll.out]; exact HO.out, HB.out⟩
        · have h6 : decide (0 ≤ f) = false := decide_eq_false h3
          clear h2
          go_wp2_with fail
          go_meet
          exact ⟨by rw [HAll.out]; exact HO.out, HB.out⟩
  case rest =>
    obtain ⟨ho7, hb7⟩ := hcut
    obtain ⟨N, hN⟩ : ∃ N, N = n + m := ⟨_, rfl⟩
    rw [← hN] at HLen
    have hN2 : N ≤ 4000 := by omega
    obtain ⟨a7, c7, rfl, _⟩ := ho7.formN HLen.out
    have HA7 := Lib.hid (ho7.arr (by rw [HLen.out]; omega))
    have HB7 := Lib.hid hb7
    clear ho7 hb7 hN HO1 HB1 hs1
    go_wp2_with fail
    go_loopw [9, 10, 11, 12] (fun v i _ _ wr => ∃ q : Nat, q ≤ N ∧ i = .int .i64 q ∧ Own intV 3 wr wc.heap.size v (Room.row (al.take q)) ∧ Below wc.heap.size wc wr) (fun _ i _ _ _ => N - (intOf i).toNat)
    case atStart => exact ⟨0, by omega, rfl, by rw [show Room.row (al.take 0) = [] by rw [List.take_zero]; exact Room.row_self List.Pairwise.nil]; exact Own.nil _ _, Below.refl _ _⟩
    case round =>
      obtain ⟨i, hi, rfl, ho, hb⟩ := hrel
      have hsr := hb.size
      have hrl : (Room.row (al.take i)).length ≤ 4000 := by
        have h1 := Room.row_len (al.take i)
        have h2 : (al.take i).length ≤ i := List.length_take_le _ _
        omega
      obtain ⟨R, hR⟩ : ∃ R, R = Room.row (al.take i) := ⟨_, rfl⟩
      rw [← hR] at ho hrl
      have HO := Lib.hid ho
      have HB := Lib.hid hb
      have HR := Lib.hid hR
      clear hR
      by_cases hlt : i < N
      · obtain ⟨b, o, hk', rfl, hbb, hc⟩ := (HA7.out.on hb).atI hlt
        have HSn := Lib.hid (show Room.row (al.take (i + 1)) = Room.ins R al[i] by rw [List.take_succ_eq_append_getElem hk', Room.row_ins, ← HR.out])
        generalize al[i] = x at *
        obtain ⟨rl, hrl2⟩ : ∃ rl, R.length = rl := ⟨_, rfl⟩
        obtain ⟨a9, c9, rfl, hc9⟩ := ho.formN hrl2
        have HRL := Lib.hid hrl2
        rw [hrl2] at hrl
        have HArr := Lib.hid (ho.arr (by rw [hrl2]; omega))
        clear ho hb hrl2
        by_cases hx : x ∈ R
        · have hh := Lib.hid (has_calls a9 rl c9 R x wr HArr.out hx)
          have HSn2 := Lib.hid (HSn.out.trans (if_pos hx))
          clear hx
          go_wp2_with fail
          refine hh.out.mono ?_
          rintro e w_ ⟨rfl, rfl⟩
          go_wp2
          go_roundw
          case rel => exact ⟨i + 1, by omega, by go_num, by rw [HSn2.out]; exact HO.out, HB.out⟩
          case measure => simp [intOf]; omega
        · have hh := Lib.hid (has_no a9 rl c9 R x wr HArr.out hx)
          have HSn2 := Lib.hid (HSn.out.trans (if_neg hx))
          clear hx
          go_wp2_with fail
          refine hh.out.mono ?_
          rintro e w_ ⟨rfl, rfl⟩
          obtain ⟨tl, htl⟩ : ∃ tl, tl = (R.takeWhile (· < x)).length := ⟨_, rfl⟩
          have htr : tl ≤ rl := by rw [htl, ← HRL.out]; exact (List.takeWhile_prefix _).length_le
          have HTL := Lib.hid htl
          clear htl
          go_upto_block 4 with (fail)
          go_cut [11] (fun k wz => k = .int .i64 tl ∧ ∃ d, wz = wr.drewN d)
          case first =>
            go_wp2_with fail
            go_loopw [11] (fun k wz => ∃ q : Nat, q ≤ tl ∧ k = .int .i64 q ∧ ∃ d, wz = wr.drewN d) (fun k _ => tl - (intOf k).toNat)
            case atStart => exact ⟨0, by omega, rfl, 0, rfl⟩
            case round =>
              obtain ⟨q, hq, rfl, d, rfl⟩ := hrel
              have hcd : (wr.drewN d).cell? ⟨b, o + i, none⟩ = some (.int .i64 x) := hc
              have g0 : (0 : Int) ≤ (i : Int) := by omega
              have g1 : (i : Int) < (N : Int) := by omega
              have g2 : (0 : Int) ≤ (q : Int) := by omega
              have HDr := Lib.hid (fun e => (show (wr.drewN d).drewN e = wr.drewN (d + e) from World.drewN_drewN _ _ _))
              by_cases hqt : q < tl
              · obtain ⟨h1, h2⟩ := tw_at (l := R) (x := x) (q := q) (by rw [← HTL.out]; exact hqt)
                have g3 : decide ((q : Int) < (rl : Int)) = true := decide_eq_true (by omega)
                have g4 : (q : Int) < (rl : Int) := by omega
                obtain ⟨g9, rfl, _, _⟩ := HO.out.addr (by omega)
                obtain ⟨hy, _⟩ := HO.out.cellg h1
                have hyd : (wr.drewN d).cell? ⟨g9, q, none⟩ = some (.int .i64 R[q]) := hy
                generalize R[q] = y at *
                clear hy h1
                generalize wr.drewN d = wz at *
                go_wp2_with fail
                go_quiet (fail)
                go_wp2
                go_roundw
                case rel => exact ⟨q + 1, by omega, by go_num, d + nq, HDr.out nq⟩
                case measure => simp [intOf]; omega
              · obtain rfl : q = tl := by omega
                by_cases hqr : q < rl
                · have h2 := tw_end (l := R) (x := x) (by rw [← HTL.out, HRL.out]; exact hqr)
                  have g3 : decide ((q : Int) < (rl : Int)) = true := decide_eq_true (by omega)
                  have g4 : (q : Int) < (rl : Int) := by omega
                  obtain ⟨g9, rfl, _, _⟩ := HO.out.addr (by rw [HRL.out]; omega)
                  obtain ⟨hy, _⟩ := HO.out.cellg (k := q) (by rw [HRL.out]; omega)
                  have hyd : (wr.drewN d).cell? ⟨g9, q, none⟩ = some (.int .i64 (R[q]'(by rw [HRL.out]; omega))) := hy
                  have h3 : ¬ (R[q]'(by rw [HRL.out]; omega)) < x := by
                    have e := HTL.out
                    simp only [← e] at h2
                    exact h2
                  generalize R[q]'(by rw [HRL.out]; omega) = y at *
                  have g5 : decide (y < x) = false := decide_eq_false h3
                  clear hy h2
                  generalize wr.drewN d = wz at *
                  go_wp2_with fail
                  go_quiet (fail)
                  go_wp2_with fail
                  go_meet
                  exact ⟨rfl, d + nq, HDr.out nq⟩
                · have g3 : decide ((q : Int) < (rl : Int)) = false := decide_eq_false (by omega)
                  generalize wr.drewN d = wz at *
                  go_wp2_with fail
                  go_quiet (fail)
                  go_wp2_with fail
                  go_meet
                  exact ⟨rfl, d + nq, HDr.out nq⟩
          case rest =>
            obtain ⟨rfl, d, rfl⟩ := hcut
            have hcd : (wr.drewN d).cell? ⟨b, o + i, none⟩ = some (.int .i64 x) := hc
            have hbd : b < (wr.drewN d).heap.size := hbb
            have hsd : wc.heap.size ≤ (wr.drewN d).heap.size := hsr
            have HAd := Lib.hid (show Arr intV (wr.drewN d) (wr.drewN d).heap.size a9 rl R from HArr.out.on (below_dN wr d))
            have HBd := Lib.hid (HB.out.trans (below_dN wr d))
            have hcut1 := cutI_to a9 rl c9 tl (by omega)
            have hcut2 := cutI_from a9 rl c9 tl htr
            have g0 : (0 : Int) ≤ (i : Int) := by omega
            have g1 : (i : Int) < (N : Int) := by omega
            clear hc hbb hsr HArr
            generalize wr.drewN d = wd at *
            go_wp2_with fail
            refine wp_region_noPanic ?_
            refine wp_region_held_drew (S := (fun W' => Below wd.heap.size wd W')) (by kernel_rfl) (Below.refl _ _).drew (fun hS0 => ?_)
            refine takeV 0 (v := .slice none 0 0) rfl (by kernel_rfl) (by kernel_rfl) (by kernel_rfl) (fun _ _ _ h => h) (by rfl) (fun _ _ => rfl) (by assumption) ?_
            try simp only [layR]
            refine takeV 1 (v := .slice a9 rl c9) rfl (by kernel_rfl) (by kernel_rfl) (by kernel_rfl) (fun _ _ _ h => h) (by rfl) (fun _ _ => rfl) (by assumption) ?_
            try simp only [layR]
            refine takeV 2 (v := .int .i64 tl) rfl (by kernel_rfl) (by kernel_rfl) (by kernel_rfl) (fun _ _ _ h => h) (by rfl) (fun _ _ => rfl) (by assumption) ?_
            try simp only [layR]
            refine takeV 3 (v := .slice a9 tl c9) rfl (by kernel_rfl) (by kernel_rfl) (by kernel_rfl) (fun _ _ _ h => h) (by rfl) (fun W hSw => ?_) (by assumption) ?_
            · have r := hcut1 W
              go_simp
            try simp only [layR]
            refine takeV 5 (v := .slice (some ⟨b, o, none⟩) N c7) rfl (by kernel_rfl) (by kernel_rfl) (by kernel_rfl) (fun _ _ _ h => h) (by rfl) (fun _ _ => rfl) (by assumption) ?_
            try simp only [layR]
            refine takeV 6 (v := .int .i64 i) rfl (by kernel_rfl) (by kernel_rfl) (by kernel_rfl) (fun _ _ _ h => h) (by rfl) (fun _ _ => rfl) (by assumption) ?_
            try simp only [layR]
            refine takeV 7 (v := .pointer (some ⟨b, o + i, none⟩)) rfl (by kernel_rfl) (by kernel_rfl) (by kernel_rfl) (fun _ _ _ h => h) (by rfl) (fun W hSw => ?_) (by assumption) ?_
            · go_simp
            try simp only [layR]
            refine takeV 8 (v := .int .i64 x) rfl (by kernel_rfl) (by kernel_rfl) (by kernel_rfl) (fun _ _ _ h => h) (by rfl) (fun W hSw => ?_) (by assumption) ?_
            · have r := (hSw.cell (p := ⟨b, o + i, none⟩) hbd).trans hcd
              go_simp
            try simp only [layR]
            have hx0 := Lib.hid (HAd.out.on hS0)
            have hsz0 := hS0.size
            have HS0 := Lib.hid hS0
            clear hS0
            refine wpAnyH_ready (rs := [4, 9]) (by kernel_rfl) (by simp) ?_
            refine AllReadyH.cons rfl (fun K' hK => ?_) (AllReadyH.cons rfl (fun K' hK => ?_) AllReadyH.nil)
            · refine step_newI rfl _ _ rfl wd.heap.size rfl _ a9 tl c9 (R.take tl) rfl (hx0.out.take htr) (by omega) hsz0 ?_
              intro v1 w1 HO1 hb1
              have hS1 := HS0.out.trans (hb1.out.mono hsz0)
              refine hK.out _ _ hS1 (fun hS0 => ?_)
              try simp only [layR]
              clear hS1
              have hsz1 := hS0.size
              refine wpAnyH_ready (rs := [9]) (by kernel_rfl) (by simp) ?_
              refine AllReadyH.cons rfl (fun K' hK => ?_) AllReadyH.nil
              go_simp
              have hl1 := Lib.hid (Arr.lit w1 3 [x] 1 rfl (by omega) (f := intV) (cs := #[.int .i64 x]) rfl)
              have HO1' := Lib.hid (HO1.out.alloc (.cells #[.int .i64 x] 3))
              refine hK.out _ _ (hS0.alloc hsz1 _) (fun hS1 => ?_)
              try simp only [layR]
              clear hS0
              have hsz2 := hS1.size
              refine wpAnyH_ready (rs := [10]) (by kernel_rfl) (by simp) ?_
              refine AllReadyH.cons rfl (fun K' hK => ?_) AllReadyH.nil
              refine step_appI rfl _ _ rfl wd.heap.size _ (R.take tl) rfl HO1'.out _ _ 1 1 [x] rfl hl1.out (by rw [List.length_take]; omega) hsz2 ?_
              intro v2 w2 HO2 hb2
              have hS2 := hS1.trans hb2.out
              clear hS1
              refine hK.out _ _ hS2 (fun hS0 => ?_)
              try simp only [layR]
              clear hS2
              refine takeV 11 (v := v2) rfl (by kernel_rfl) (by kernel_rfl) (by kernel_rfl) (fun _ _ _ h => h) (by rfl) (fun _ _ => rfl) (by assumption) ?_
              refine wpAnyH_done (by kernel_rfl) ?_ _
              refine NoPanic.normal ?_
              have HO3 := Lib.hid (HO2.out.mono hsd)
              have HB3 := Lib.hid (HBd.out.trans (hS0.mono hsd))
              have HA3 := Lib.hid ((HAd.out.on hS0).drop (l := tl) htr hc9)
              have hs3 := hS0.size
              have htk := tw_take R x
              have hlen3 : (R.take tl ++ [x]).length ≤ 4001 := by rw [List.length_append, List.length_take]; simp; omega
              have HFin := Lib.hid (show R.take tl ++ [x] ++ R.drop tl = Room.row (al.take (i + 1)) by rw [HSn2.out, HTL.out, htk.1, htk.2, List.append_assoc]; rfl)
              clear htk hS0
              go_wp2_with (at_builtin; refine wpList_ontoI rfl _ _ rfl wc.heap.size _ _ rfl HO3.out _ (cutA a9 c9 tl) (rl - tl) (c9 - tl) (R.drop tl) rfl HA3.out (by omega) (by omega) ?_; intro v4 w4 HO4 HB4)
              go_roundw
              case rel => exact ⟨i + 1, by omega, by go_num, by rw [← HFin.out]; exact HO4.out, HB3.out.trans HB4.out⟩
              case measure => simp [intOf]; omega
            · go_simp
              have hl1 := Lib.hid (Arr.lit wd.drew 3 [x] 1 rfl (by omega) (f := intV) (cs := #[.int .i64 x]) rfl)
              have hx1 := Lib.hid ((hx0.out.take htr).alloc (.cells #[.int .i64 x] 3))
              refine hK.out _ _ (HS0.out.alloc hsz0 _) (fun hS1 => ?_)
              try simp only [layR]
              have hsz1 := hS1.size
              refine wpAnyH_ready (rs := [4]) (by kernel_rfl) (by simp) ?_
              refine AllReadyH.cons rfl (fun K' hK => ?_) AllReadyH.nil
              refine step_newI rfl _ _ rfl wd.heap.size rfl _ a9 tl c9 (R.take tl) rfl hx1.out (by omega) hsz1 ?_
              intro v1 w1 HO1 hb1
              have hl2 := Lib.hid (hl1.out.on hb1.out)
              have hS2 := hS1.trans (hb1.out.mono hsz1)
              clear hS1
              refine hK.out _ _ hS2 (fun hS1 => ?_)
              try simp only [layR]
              clear hS2
              have hsz2 := hS1.size
              refine wpAnyH_ready (rs := [10]) (by kernel_rfl) (by simp) ?_
              refine AllReadyH.cons rfl (fun K' hK => ?_) AllReadyH.nil
              refine step_appI rfl _ _ rfl wd.heap.size _ (R.take tl) rfl HO1.out _ _ 1 1 [x] rfl hl2.out (by rw [List.length_take]; omega) hsz2 ?_
              intro v2 w2 HO2 hb2
              have hS2 := hS1.trans hb2.out
              clear hS1
              refine hK.out _ _ hS2 (fun hS0 => ?_)
              try simp only [layR]
              clear hS2
              refine takeV 11 (v := v2) rfl (by kernel_rfl) (by kernel_rfl) (by kernel_rfl) (fun _ _ _ h => h) (by rfl) (fun _ _ => rfl) (by assumption) ?_
              refine wpAnyH_done (by kernel_rfl) ?_ _
              refine NoPanic.normal ?_
              have HO3 := Lib.hid (HO2.out.mono hsd)
              have HB3 := Lib.hid (HBd.out.trans (hS0.mono hsd))
              have HA3 := Lib.hid ((HAd.out.on hS0).drop (l := tl) htr hc9)
              have hs3 := hS0.size
              have htk := tw_take R x
              have hlen3 : (R.take tl ++ [x]).length ≤ 4001 := by rw [List.length_append, List.length_take]; simp; omega
              have HFin := Lib.hid (show R.take tl ++ [x] ++ R.drop tl = Room.row (al.take (i + 1)) by rw [HSn2.out, HTL.out, htk.1, htk.2, List.append_assoc]; rfl)
              clear htk hS0
              go_wp2_with (at_builtin; refine wpList_ontoI rfl _ _ rfl wc.heap.size _ _ rfl HO3.out _ (cutA a9 c9 tl) (rl - tl) (c9 - tl) (R.drop tl) rfl HA3.out (by omega) (by omega) ?_; intro v4 w4 HO4 HB4)
              go_roundw
              case rel => exact ⟨i + 1, by omega, by go_num, by rw [← HFin.out]; exact HO4.out, HB3.out.trans HB4.out⟩
              case measure => simp [intOf]; omega
      · obtain rfl : i = N := by omega
        obtain ⟨a9, c9, rfl, _⟩ := ho.formN (n := R.length) rfl
        have HT := Lib.hid (show R = Room.row al by rw [HR.out, List.take_of_length_le (by rw [HLen.out]; omega)])
        clear ho hb
        generalize R.length = rl at *
        go_wp2
        go_ret
        exact ⟨_, rfl, by rw [← HT.out]; exact HO.out.mono HB7.out.size, HB7.out.then_ HB.out⟩
end Go.Proofs.Ytfiphpdagnlbbaa
