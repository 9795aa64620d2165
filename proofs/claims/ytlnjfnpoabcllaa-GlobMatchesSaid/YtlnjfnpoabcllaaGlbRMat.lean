/-
  The reference's matches, walked.
-/
import Derived.Test.YtlnjfnpoabcllaaGlbRMt
import Derived.Test.YtlnjfnpoabcllaaGlbPl
namespace Go.Proofs.Ytlnjfnpoabcllaa
open Go.RowKit

theorem first_row (s : List UInt8) (i : Nat) (hi : i < s.length + 1) : (if i = 0 then true else false) = Glb.dpF [] s i := by
  rw [Glb.dp_nil s i (by omega)]
  cases i <;> rfl
theorem put_row {wi : World} {base g2 L cc k : Nat} {D : Nat → Bool} {v : Bool} (h : BoolsO wi base (.slice (some ⟨g2, 0, none⟩) L cc) (Glb.rowB L (fun i => if i < k then D i else false))) (hv : v = D k) :
    BoolsO (wi.setCell ⟨g2, k, none⟩ (.bool v)) base (.slice (some ⟨g2, 0, none⟩) L cc) (Glb.rowB L (fun i => if i < k + 1 then D i else false)) :=
  BoolsO.same (BoolsO.put h k v) fun i _ => by
    by_cases h1 : i = k
    · subst h1; rw [if_pos rfl, if_pos (by omega), hv]
    · rw [if_neg h1]
      by_cases h2 : i < k
      · rw [if_pos h2, if_pos (by omega)]
      · rw [if_neg h2, if_neg (by omega)]
attribute [local go_sem] strL_cut
set_option maxRecDepth 100000 in
set_option maxHeartbeats 16000000 in
theorem rMatches_calls (a : Option Addr) (n c : Nat) (ms : List Glb.Gm) (s : List UInt8) (w : World) (hx : ArrM 257 rmL w w.heap.size a n (ms.map Glb.toRm)) (hs : s.length ≤ 1000) :
    Calls Try.prog 30 #[.slice a n c, .string (strL s)] w fun e w' => e = .returned (.bool (Glb.dpF ms s s.length)) ∧ Below w.heap.size w w' := by
  obtain ⟨L, hL⟩ : ∃ L, L = s.length + 1 := ⟨_, rfl⟩
  have HL := Lib.hid hL
  have hL3 : L ≤ 1001 := by omega
  have hL2 : 0 < L := by omega
  have hmk := makeL L ((s.length : Int) + 1) (by omega) (by omega)
  have HMk := Lib.hid hmk
  have HX := Lib.hid hx
  have HXL := Lib.hid hx.len
  have hn := hx.room
  clear hx hL
  go_enter Try.func30, Try.ntmps30
  go_upto_region 2 with fail
  clear hmk
  have hbm := (Below.refl w.heap.size w).alloc (Nat.le_refl _) (.cells ((Glb.rowB L (fun _ => false)).map boolV).toArray 4)
  have ho1 := madeL L w w.heap.size (Nat.le_refl _) (by omega)
  obtain ⟨w1, hw1⟩ : ∃ w1, w1 = w.alloc (.cells ((Glb.rowB L (fun _ => false)).map boolV).toArray 4) := ⟨_, rfl⟩
  rw [← hw1] at hbm ho1 ⊢
  have HB1 := Lib.hid (hbm.setCell (p := ⟨w.heap.size, 0, none⟩) (Nat.le_refl _) (.bool true))
  obtain ⟨c0, f0⟩ := BoolsO.at_ ho1 (k := 0) (by omega)
  have HO1 := Lib.hid (BoolsO.same (BoolsO.put ho1 0 true) (f' := Glb.dpF [] s) (fun i hi => first_row s i (by rw [← HL.out]; exact hi)))
  have g0 : (0 : Int) < (L : Int) := by omega
  clear hbm ho1 hw1
  go_wp2_with fail
  go_loopw [5, 6, 7, 8] (fun v i _ _ wr => ∃ (q g cc : Nat), q ≤ n ∧ i = .int .i64 q ∧ v = .slice (some ⟨g, 0, none⟩) L cc ∧ BoolsO wr w.heap.size (.slice (some ⟨g, 0, none⟩) L cc) (Glb.rowB L (Glb.dpF (ms.take q) s)) ∧ Below w.heap.size w wr) (fun _ i _ _ _ => n - (intOf i).toNat)
  case atStart => exact ⟨0, w.heap.size, L, by omega, rfl, rfl, HO1.out, HB1.out⟩
  case round =>
    obtain ⟨q, g, cc, hq, rfl, rfl, ho, hb⟩ := hrel
    have HO := Lib.hid ho
    have HB := Lib.hid hb
    have hsz := hb.size
    obtain ⟨hgH, hgl⟩ := Own.blockLt ho g rfl
    clear ho hb HO1 HB1 c0 f0
    by_cases hlt : q < n
    · have hmk := HMk.out
      have hqm : q < ms.length := by have := HXL.out; rw [List.length_map] at this; omega
      have HT := Lib.hid (show ms.take (q + 1) = ms.take q ++ [ms[q]] from List.take_succ_eq_append_getElem hqm)
      have g1 : decide ((q : Int) < (n : Int)) = true := decide_eq_true (by omega)
      go_upto_region 7 with fail
      clear hmk
      have hbm := (Below.refl wr.heap.size wr).alloc (Nat.le_refl _) (.cells ((Glb.rowB L (fun _ => false)).map boolV).toArray 4)
      have ho4 := madeL L wr w.heap.size hsz (by omega)
      have HO4 := Lib.hid (Own.on HO.out hbm)
      have HB4 := Lib.hid (HB.out.trans (hbm.mono hsz))
      obtain ⟨g2, hg2⟩ : ∃ g2, g2 = wr.heap.size := ⟨_, rfl⟩
      obtain ⟨w4, hw4⟩ : ∃ w4, w4 = wr.alloc (.cells ((Glb.rowB L (fun _ => false)).map boolV).toArray 4) := ⟨_, rfl⟩
      rw [← hg2] at ho4 hgl ⊢
      rw [← hw4] at HO4 HB4 ho4 ⊢
      have hgg : g ≠ g2 := by omega
      have HN4 := Lib.hid (BoolsO.same ho4 (f' := fun i => if i < 0 then Glb.dpF (ms.take (q + 1)) s i else false) (fun i _ => by simp))
      clear hw4 hbm hg2 HO HB hsz ho4
      go_wp2_with fail
      go_loopw [8] (fun i wi => ∃ k : Nat, k ≤ L ∧ i = .int .i64 k ∧ BoolsO wi w.heap.size (.slice (some ⟨g, 0, none⟩) L cc) (Glb.rowB L (Glb.dpF (ms.take q) s)) ∧ BoolsO wi w.heap.size (.slice (some ⟨g2, 0, none⟩) L L) (Glb.rowB L (fun i => if i < k then Glb.dpF (ms.take (q + 1)) s i else false)) ∧ Below w.heap.size w wi) (fun i _ => L - (intOf i).toNat)
      case atStart => exact ⟨0, by omega, rfl, HO4.out, HN4.out, HB4.out⟩
      case round =>
        obtain ⟨k, hk, rfl, ho, hx, hb⟩ := hrel
        have HO := Lib.hid ho
        have HX2 := Lib.hid hx
        have HB := Lib.hid hb
        clear HO4 HN4 HB4
        by_cases hlk : k < L
        · obtain ⟨b, o, hq', rfl, hbl, hcx⟩ := (HX.out.below hb).atv hlt
          have hks : k ≤ s.length := by have := HL.out; omega
          have m0 : wr.cell? ⟨b, o + q * 257, none⟩ = some (.bool (ms[q].k == 2)) := by rw [List.getElem_map] at hcx; exact hcx 0 _ rfl
          have HC := Lib.hid hcx
          obtain ⟨n0, _⟩ := BoolsO.at_ HO.out (k := k) hlk
          obtain ⟨y0, fy0⟩ := BoolsO.at_ HX2.out (k := k) hlk
          have k0 : (0 : Int) ≤ (k : Int) := by omega
          have k1 : (k : Int) < (L : Int) := by omega
          have q0 : (0 : Int) ≤ (q : Int) := by omega
          have q1 : (q : Int) < (n : Int) := by omega
          clear ho hx hb hcx
          by_cases hm : ms[q].k = 2
          · rw [show (ms[q].k == 2) = true by simp [hm]] at m0
            have HD := Lib.hid (show Glb.dpF (ms.take (q + 1)) s k = (Glb.dpF (ms.take q) s k || (decide (0 < k) && Glb.dpF (ms.take (q + 1)) s (k - 1))) by rw [HT.out]; exact Glb.dp_many hm (ms.take q) s k hks)
            cases k with
            | zero =>
              have HV := Lib.hid (show Glb.dpF (ms.take q) s 0 = Glb.dpF (ms.take (q + 1)) s 0 by rw [HD.out]; simp)
              generalize Glb.dpF (ms.take q) s 0 = A at n0 HV
              cases A
              all_goals
                go_wp2_with fail
                go_roundw
                case rel => exact ⟨1, by omega, by go_num, Own.far HO.out (by simpa [Value.ownBlock] using hgg) _, put_row HX2.out HV.out, HB.out.setCell (p := ⟨g2, 0, none⟩) (show w.heap.size ≤ g2 by omega) _⟩
                case measure => simp [intOf]; omega
            | succ k =>
              obtain ⟨y1, _⟩ := BoolsO.at_ HX2.out (k := k) (by omega)
              rw [if_pos (Nat.lt_succ_self k)] at y1
              have k3 : (k : Int) < (L : Int) := by omega
              have k4 : (0 : Int) ≤ (k : Int) := by omega
              have HV := Lib.hid (show (Glb.dpF (ms.take q) s (k + 1) || Glb.dpF (ms.take (q + 1)) s k) = Glb.dpF (ms.take (q + 1)) s (k + 1) by rw [HD.out]; simp)
              generalize Glb.dpF (ms.take q) s (k + 1) = A at n0 HV
              generalize hBv : Glb.dpF (ms.take (q + 1)) s k = B at y1 HV
              clear hBv HD
              cases A <;> cases B
              all_goals
                go_wp2_with fail
                go_roundw
                case rel => exact ⟨k + 1 + 1, by omega, by go_num, Own.far HO.out (by simpa [Value.ownBlock] using hgg) _, put_row HX2.out HV.out, HB.out.setCell (p := ⟨g2, k + 1, none⟩) (show w.heap.size ≤ g2 by omega) _⟩
                case measure => simp [intOf]; omega
          · rw [show (ms[q].k == 2) = false by simpa using hm] at m0
            cases k with
            | zero =>
              have HV := Lib.hid (show false = Glb.dpF (ms.take (q + 1)) s 0 by rw [HT.out]; exact (Glb.dp_one0 hm _ s).symm)
              go_upto_region 12 with fail
              have y1 : wr.drew.cell? ⟨g2, 0, none⟩ = some (.bool (if 0 < 0 then Glb.dpF (ms.take (q + 1)) s 0 else false)) := y0
              have fy1 : wr.drew.frozen? ⟨g2, 0, none⟩ = false := fy0
              have k2 : (0 : Int) < (L : Int) := by omega
              refine wp_region_noPanic ?_
              refine wp_region_held_drew (S := (fun _ => True)) (by kernel_rfl) trivial (fun hS0 => ?_)
              refine takeV 0 (v := (.slice (some ⟨g2, 0, none⟩) L L)) rfl (by kernel_rfl) (by kernel_rfl) (by kernel_rfl) (fun _ _ _ h => h) (by rfl) (fun _ _ => rfl) (by assumption) ?_
              try simp only [layR]
              refine takeV 1 (v := (.int .i64 (0 : Nat))) rfl (by kernel_rfl) (by kernel_rfl) (by kernel_rfl) (fun _ _ _ h => h) (by rfl) (fun _ _ => rfl) (by assumption) ?_
              try simp only [layR]
              refine takeV 2 (v := (.int .i64 (0 : Nat))) rfl (by kernel_rfl) (by kernel_rfl) (by kernel_rfl) (fun _ _ _ h => h) (by rfl) (fun _ _ => rfl) (by assumption) ?_
              try simp only [layR]
              refine takeV 3 (v := (.bool false)) rfl (by kernel_rfl) (by kernel_rfl) (by kernel_rfl) (fun _ _ _ h => h) (by rfl) (fun W hSw => ?_) (by assumption) ?_
              · skip
                go_simp
              try simp only [layR]
              refine takeV 4 (v := (.bool false)) rfl (by kernel_rfl) (by kernel_rfl) (by kernel_rfl) (fun _ _ _ h => h) (by rfl) (fun _ _ => rfl) (by assumption) ?_
              try simp only [layR]
              refine takeNo 5 rfl (by kernel_rfl) (by kernel_rfl) (by kernel_rfl) (fun _ _ _ h => h) (by rfl) (by assumption) ?_
              try simp only [layR]
              refine takeNo 6 rfl (by kernel_rfl) (by kernel_rfl) (by kernel_rfl) (fun _ _ _ h => h) (by rfl) (by assumption) ?_
              try simp only [layR]
              refine takeNo 7 rfl (by kernel_rfl) (by kernel_rfl) (by kernel_rfl) (fun _ _ _ h => h) (by rfl) (by assumption) ?_
              try simp only [layR]
              refine takeNo 8 rfl (by kernel_rfl) (by kernel_rfl) (by kernel_rfl) (fun _ _ _ h => h) (by rfl) (by assumption) ?_
              try simp only [layR]
              refine takeNo 9 rfl (by kernel_rfl) (by kernel_rfl) (by kernel_rfl) (fun _ _ _ h => h) (by rfl) (by assumption) ?_
              try simp only [layR]
              refine takeV 10 (v := (.bool false)) rfl (by kernel_rfl) (by kernel_rfl) (by kernel_rfl) (fun _ _ _ h => h) (by rfl) (fun W hSw => ?_) (by assumption) ?_
              · skip
                go_simp
              try simp only [layR]
              refine takeV 11 (v := (.bool false)) rfl (by kernel_rfl) (by kernel_rfl) (by kernel_rfl) (fun _ _ _ h => h) (by rfl) (fun _ _ => rfl) (by assumption) ?_
              try simp only [layR]
              refine takeNo 12 rfl (by kernel_rfl) (by kernel_rfl) (by kernel_rfl) (fun _ _ _ h => h) (by rfl) (by assumption) ?_
              try simp only [layR]
              refine takeNo 13 rfl (by kernel_rfl) (by kernel_rfl) (by kernel_rfl) (fun _ _ _ h => h) (by rfl) (by assumption) ?_
              try simp only [layR]
              refine takeNo 14 rfl (by kernel_rfl) (by kernel_rfl) (by kernel_rfl) (fun _ _ _ h => h) (by rfl) (by assumption) ?_
              try simp only [layR]
              refine takeNo 15 rfl (by kernel_rfl) (by kernel_rfl) (by kernel_rfl) (fun _ _ _ h => h) (by rfl) (by assumption) ?_
              try simp only [layR]
              refine takeNo 16 rfl (by kernel_rfl) (by kernel_rfl) (by kernel_rfl) (fun _ _ _ h => h) (by rfl) (by assumption) ?_
              try simp only [layR]
              refine takeNo 17 rfl (by kernel_rfl) (by kernel_rfl) (by kernel_rfl) (fun _ _ _ h => h) (by rfl) (by assumption) ?_
              try simp only [layR]
              refine takeNo 18 rfl (by kernel_rfl) (by kernel_rfl) (by kernel_rfl) (fun _ _ _ h => h) (by rfl) (by assumption) ?_
              try simp only [layR]
              refine takeNo 19 rfl (by kernel_rfl) (by kernel_rfl) (by kernel_rfl) (fun _ _ _ h => h) (by rfl) (by assumption) ?_
              try simp only [layR]
              refine takeNo 20 rfl (by kernel_rfl) (by kernel_rfl) (by kernel_rfl) (fun _ _ _ h => h) (by rfl) (by assumption) ?_
              try simp only [layR]
              refine takeNo 21 rfl (by kernel_rfl) (by kernel_rfl) (by kernel_rfl) (fun _ _ _ h => h) (by rfl) (by assumption) ?_
              try simp only [layR]
              refine takeNo 22 rfl (by kernel_rfl) (by kernel_rfl) (by kernel_rfl) (fun _ _ _ h => h) (by rfl) (by assumption) ?_
              try simp only [layR]
              refine takeV 23 (v := (.bool false)) rfl (by kernel_rfl) (by kernel_rfl) (by kernel_rfl) (fun _ _ _ h => h) (by rfl) (fun W hSw => ?_) (by assumption) ?_
              · skip
                go_simp
              try simp only [layR]
              refine takeV 24 (v := (.pointer (some ⟨g2, 0, none⟩))) rfl (by kernel_rfl) (by kernel_rfl) (by kernel_rfl) (fun _ _ _ h => h) (by rfl) (fun W hSw => ?_) (by assumption) ?_
              · skip
                go_simp
              try simp only [layR]
              refine wpAnyH_ready (rs := [25]) (by kernel_rfl) (by simp) ?_
              refine AllReadyH.cons rfl (fun K' hK => ?_) AllReadyH.nil
              go_simp
              refine hK.out _ _ trivial (fun hS1 => ?_)
              try simp only [layR]
              refine wpAnyH_done (by kernel_rfl) ?_ _
              refine NoPanic.normal ?_
              clear hS0 hS1
              go_wp2_with fail
              go_roundw
              case rel => exact ⟨1, by omega, by go_num, Own.far HO.out (by simpa [Value.ownBlock] using hgg) _, put_row HX2.out HV.out, (HB.out.setCell (p := ⟨g2, 0, none⟩) (show w.heap.size ≤ g2 by omega) _).drew⟩
              case measure => simp [intOf]; omega
            | succ k =>
              have hks' : k < s.length := by omega
              obtain ⟨y1, _⟩ := BoolsO.at_ HO.out (k := k) (by omega)
              have hc1 : wr.cell? ⟨b, o + q * 257 + 1 + s[k].toNat, none⟩ = some (.bool (Glb.stN ms[q] s[k].toNat)) := by
                have := HC.out (s[k].toNat + 1) (.bool (Glb.stN ms[q] s[k].toNat)) (by
                  rw [List.getElem_map]
                  show (Value.bool _ :: stL _)[s[k].toNat + 1]? = _
                  rw [List.getElem?_cons_succ]
                  have h5 := stA_at (Glb.stN ms[q]) s[k].toNat (by have := s[k].toNat_lt; omega)
                  simpa [stA, Glb.toRm] using h5)
                rw [← this]; congr 2; omega
              have HV := Lib.hid (show (Glb.dpF (ms.take q) s k && Glb.stN ms[q] s[k].toNat) = Glb.dpF (ms.take (q + 1)) s (k + 1) by rw [HT.out, Glb.dp_one hm _ s k (by omega), Glb.stN_eq hm])
              clear n0 HC
              have k2 : ((k + 1 : Nat) : Int) < (L : Int) := by omega
              have k3 : (k : Int) < (L : Int) := by omega
              have k4 : (0 : Int) ≤ (k : Int) := by omega
              have k5 : decide ((0 : Int) < ((k + 1 : Nat) : Int)) = true := decide_eq_true (by omega)
              have k6 : (k : Int) < (s.length : Int) := by omega
              have hbg : g2 ≠ b := by omega
              have k7 : (0 : Int) ≤ (k : Int) + 1 := by omega
              have k8 : (k : Int) + 1 < (L : Int) := by omega
              have kw : IntKind.i64.wrap (k : Int) = (k : Int) := IntWalk.i64_in _ ⟨by omega, by omega⟩
              have kw2 : IntKind.i64.wrap (s[k].toNat : Int) = (s[k].toNat : Int) := IntWalk.i64_in _ ⟨by omega, by have := s[k].toNat_lt; omega⟩
              have k9 : (s[k].toNat : Int) < 256 := by have := s[k].toNat_lt; omega
              generalize Glb.dpF (ms.take q) s k = A at y1 HV
              generalize Glb.stN ms[q] s[k].toNat = B at hc1 HV
              go_upto_region 12 with fail
              have z1 : wr.drew.cell? ⟨g2, k + 1, none⟩ = some (.bool (if k + 1 < k + 1 then Glb.dpF (ms.take (q + 1)) s (k + 1) else false)) := y0
              have fz1 : wr.drew.frozen? ⟨g2, k + 1, none⟩ = false := fy0
              refine wp_region_noPanic ?_
              refine wp_region_held_drew (S := (fun W' => W'.cell? ⟨g, k, none⟩ = some (.bool A) ∧ W'.cell? ⟨b, o + q * 257 + 1 + s[k].toNat, none⟩ = some (.bool B))) (by kernel_rfl) ⟨y1, hc1⟩ (fun hS0 => ?_)
              refine takeV 0 (v := (.slice (some ⟨g2, 0, none⟩) L L)) rfl (by kernel_rfl) (by kernel_rfl) (by kernel_rfl) (fun _ _ _ h => h) (by rfl) (fun _ _ => rfl) (by assumption) ?_
              try simp only [layR]
              refine takeV 1 (v := (.int .i64 ((k + 1 : Nat) : Int))) rfl (by kernel_rfl) (by kernel_rfl) (by kernel_rfl) (fun _ _ _ h => h) (by rfl) (fun _ _ => rfl) (by assumption) ?_
              try simp only [layR]
              refine takeV 2 (v := (.int .i64 ((k + 1 : Nat) : Int))) rfl (by kernel_rfl) (by kernel_rfl) (by kernel_rfl) (fun _ _ _ h => h) (by rfl) (fun _ _ => rfl) (by assumption) ?_
              try simp only [layR]
              refine takeV 3 (v := (.bool true)) rfl (by kernel_rfl) (by kernel_rfl) (by kernel_rfl) (fun _ _ _ h => h) (by rfl) (fun W hSw => ?_) (by assumption) ?_
              · skip
                go_simp
              try simp only [layR]
              refine takeV 4 (v := (.bool true)) rfl (by kernel_rfl) (by kernel_rfl) (by kernel_rfl) (fun _ _ _ h => h) (by rfl) (fun _ _ => rfl) (by assumption) ?_
              try simp only [layR]
              refine takeV 5 (v := (.slice (some ⟨g, 0, none⟩) L cc)) rfl (by kernel_rfl) (by kernel_rfl) (by kernel_rfl) (fun _ _ _ h => h) (by rfl) (fun _ _ => rfl) (by assumption) ?_
              try simp only [layR]
              refine takeV 6 (v := (.int .i64 ((k + 1 : Nat) : Int))) rfl (by kernel_rfl) (by kernel_rfl) (by kernel_rfl) (fun _ _ _ h => h) (by rfl) (fun _ _ => rfl) (by assumption) ?_
              try simp only [layR]
              refine takeV 7 (v := (.int .i64 (k : Int))) rfl (by kernel_rfl) (by kernel_rfl) (by kernel_rfl) (fun _ _ _ h => h) (by rfl) (fun W hSw => ?_) (by assumption) ?_
              · skip
                go_simp
              try simp only [layR]
              refine takeV 8 (v := (.pointer (some ⟨g, k, none⟩))) rfl (by kernel_rfl) (by kernel_rfl) (by kernel_rfl) (fun _ _ _ h => h) (by rfl) (fun W hSw => ?_) (by assumption) ?_
              · skip
                go_simp
              try simp only [layR]
              refine takeV 9 (v := (.bool A)) rfl (by kernel_rfl) (by kernel_rfl) (by kernel_rfl) (fun _ _ _ h => h) (by rfl) (fun W hSw => ?_) (by assumption) ?_
              · have c9 := hSw.1
                go_simp
              try simp only [layR]
              cases A
              · refine takeV 10 (v := (.bool false)) rfl (by kernel_rfl) (by kernel_rfl) (by kernel_rfl) (fun _ _ _ h => h) (by rfl) (fun W hSw => ?_) (by assumption) ?_
                · skip
                  go_simp
                try simp only [layR]
                refine takeV 11 (v := (.bool false)) rfl (by kernel_rfl) (by kernel_rfl) (by kernel_rfl) (fun _ _ _ h => h) (by rfl) (fun _ _ => rfl) (by assumption) ?_
                try simp only [layR]
                refine takeNo 12 rfl (by kernel_rfl) (by kernel_rfl) (by kernel_rfl) (fun _ _ _ h => h) (by rfl) (by assumption) ?_
                try simp only [layR]
                refine takeNo 13 rfl (by kernel_rfl) (by kernel_rfl) (by kernel_rfl) (fun _ _ _ h => h) (by rfl) (by assumption) ?_
                try simp only [layR]
                refine takeNo 14 rfl (by kernel_rfl) (by kernel_rfl) (by kernel_rfl) (fun _ _ _ h => h) (by rfl) (by assumption) ?_
                try simp only [layR]
                refine takeNo 15 rfl (by kernel_rfl) (by kernel_rfl) (by kernel_rfl) (fun _ _ _ h => h) (by rfl) (by assumption) ?_
                try simp only [layR]
                refine takeNo 16 rfl (by kernel_rfl) (by kernel_rfl) (by kernel_rfl) (fun _ _ _ h => h) (by rfl) (by assumption) ?_
                try simp only [layR]
                refine takeNo 17 rfl (by kernel_rfl) (by kernel_rfl) (by kernel_rfl) (fun _ _ _ h => h) (by rfl) (by assumption) ?_
                try simp only [layR]
                refine takeNo 18 rfl (by kernel_rfl) (by kernel_rfl) (by kernel_rfl) (fun _ _ _ h => h) (by rfl) (by assumption) ?_
                try simp only [layR]
                refine takeNo 19 rfl (by kernel_rfl) (by kernel_rfl) (by kernel_rfl) (fun _ _ _ h => h) (by rfl) (by assumption) ?_
                try simp only [layR]
                refine takeNo 20 rfl (by kernel_rfl) (by kernel_rfl) (by kernel_rfl) (fun _ _ _ h => h) (by rfl) (by assumption) ?_
                try simp only [layR]
                refine takeNo 21 rfl (by kernel_rfl) (by kernel_rfl) (by kernel_rfl) (fun _ _ _ h => h) (by rfl) (by assumption) ?_
                try simp only [layR]
                refine takeNo 22 rfl (by kernel_rfl) (by kernel_rfl) (by kernel_rfl) (fun _ _ _ h => h) (by rfl) (by assumption) ?_
                try simp only [layR]
                refine takeV 23 (v := (.bool false)) rfl (by kernel_rfl) (by kernel_rfl) (by kernel_rfl) (fun _ _ _ h => h) (by rfl) (fun W hSw => ?_) (by assumption) ?_
                · skip
                  go_simp
                try simp only [layR]
                refine takeV 24 (v := (.pointer (some ⟨g2, k + 1, none⟩))) rfl (by kernel_rfl) (by kernel_rfl) (by kernel_rfl) (fun _ _ _ h => h) (by rfl) (fun W hSw => ?_) (by assumption) ?_
                · skip
                  go_simp
                try simp only [layR]
                refine wpAnyH_ready (rs := [25]) (by kernel_rfl) (by simp) ?_
                refine AllReadyH.cons rfl (fun K' hK => ?_) AllReadyH.nil
                go_simp
                refine hK.out _ _ ⟨(World.cell?_setCell_far _ _ _ _ (by simpa using Ne.symm hgg)).trans hS0.1, (World.cell?_setCell_far _ _ _ _ (by simpa using hbg)).trans hS0.2⟩ (fun hS1 => ?_)
                try simp only [layR]
                refine wpAnyH_done (by kernel_rfl) ?_ _
                refine NoPanic.normal ?_
                clear hS0 hS1
                go_wp2_with fail
                go_roundw
                case rel => exact ⟨k + 1 + 1, by omega, by go_num, Own.far HO.out (by simpa [Value.ownBlock] using hgg) _, put_row HX2.out HV.out, (HB.out.setCell (p := ⟨g2, k + 1, none⟩) (show w.heap.size ≤ g2 by omega) _).drew⟩
                case measure => simp [intOf]; omega
              · refine takeV 10 (v := (.bool true)) rfl (by kernel_rfl) (by kernel_rfl) (by kernel_rfl) (fun _ _ _ h => h) (by rfl) (fun W hSw => ?_) (by assumption) ?_
                · skip
                  go_simp
                try simp only [layR]
                refine takeV 11 (v := (.bool true)) rfl (by kernel_rfl) (by kernel_rfl) (by kernel_rfl) (fun _ _ _ h => h) (by rfl) (fun _ _ => rfl) (by assumption) ?_
                try simp only [layR]
                refine takeV 12 (v := (.slice (some ⟨b, o, none⟩) n c)) rfl (by kernel_rfl) (by kernel_rfl) (by kernel_rfl) (fun _ _ _ h => h) (by rfl) (fun _ _ => rfl) (by assumption) ?_
                try simp only [layR]
                refine takeV 13 (v := (.int .i64 (q : Int))) rfl (by kernel_rfl) (by kernel_rfl) (by kernel_rfl) (fun _ _ _ h => h) (by rfl) (fun _ _ => rfl) (by assumption) ?_
                try simp only [layR]
                refine takeV 14 (v := (.string (strL s))) rfl (by kernel_rfl) (by kernel_rfl) (by kernel_rfl) (fun _ _ _ h => h) (by rfl) (fun _ _ => rfl) (by assumption) ?_
                try simp only [layR]
                refine takeV 15 (v := (.int .i64 ((k + 1 : Nat) : Int))) rfl (by kernel_rfl) (by kernel_rfl) (by kernel_rfl) (fun _ _ _ h => h) (by rfl) (fun _ _ => rfl) (by assumption) ?_
                try simp only [layR]
                refine takeV 16 (v := (.int .i64 (k : Int))) rfl (by kernel_rfl) (by kernel_rfl) (by kernel_rfl) (fun _ _ _ h => h) (by rfl) (fun W hSw => ?_) (by assumption) ?_
                · skip
                  go_simp
                try simp only [layR]
                refine takeV 17 (v := (.int .u8 (s[k].toNat : Int))) rfl (by kernel_rfl) (by kernel_rfl) (by kernel_rfl) (fun _ _ _ h => h) (by rfl) (fun W hSw => ?_) (by assumption) ?_
                · skip
                  go_simp
                try simp only [layR]
                refine takeV 18 (v := (.int .i64 (s[k].toNat : Int))) rfl (by kernel_rfl) (by kernel_rfl) (by kernel_rfl) (fun _ _ _ h => h) (by rfl) (fun W hSw => ?_) (by assumption) ?_
                · skip
                  go_simp
                try simp only [layR]
                refine takeV 19 (v := (.pointer (some ⟨b, o + q * 257, none⟩))) rfl (by kernel_rfl) (by kernel_rfl) (by kernel_rfl) (fun _ _ _ h => h) (by rfl) (fun W hSw => ?_) (by assumption) ?_
                · skip
                  go_simp
                try simp only [layR]
                refine takeV 20 (v := (.pointer (some ⟨b, o + q * 257 + 1, none⟩))) rfl (by kernel_rfl) (by kernel_rfl) (by kernel_rfl) (fun _ _ _ h => h) (by rfl) (fun W hSw => ?_) (by assumption) ?_
                · skip
                  go_simp
                try simp only [layR]
                refine takeV 21 (v := (.pointer (some ⟨b, o + q * 257 + 1 + s[k].toNat, none⟩))) rfl (by kernel_rfl) (by kernel_rfl) (by kernel_rfl) (fun _ _ _ h => h) (by rfl) (fun W hSw => ?_) (by assumption) ?_
                · skip
                  go_simp
                try simp only [layR]
                refine takeV 22 (v := (.bool B)) rfl (by kernel_rfl) (by kernel_rfl) (by kernel_rfl) (fun _ _ _ h => h) (by rfl) (fun W hSw => ?_) (by assumption) ?_
                · have c9 := hSw.2
                  go_simp
                try simp only [layR]
                refine takeV 23 (v := (.bool B)) rfl (by kernel_rfl) (by kernel_rfl) (by kernel_rfl) (fun _ _ _ h => h) (by rfl) (fun W hSw => ?_) (by assumption) ?_
                · skip
                  go_simp
                try simp only [layR]
                refine takeV 24 (v := (.pointer (some ⟨g2, k + 1, none⟩))) rfl (by kernel_rfl) (by kernel_rfl) (by kernel_rfl) (fun _ _ _ h => h) (by rfl) (fun W hSw => ?_) (by assumption) ?_
                · skip
                  go_simp
                try simp only [layR]
                refine wpAnyH_ready (rs := [25]) (by kernel_rfl) (by simp) ?_
                refine AllReadyH.cons rfl (fun K' hK => ?_) AllReadyH.nil
                go_simp
                refine hK.out _ _ ⟨(World.cell?_setCell_far _ _ _ _ (by simpa using Ne.symm hgg)).trans hS0.1, (World.cell?_setCell_far _ _ _ _ (by simpa using hbg)).trans hS0.2⟩ (fun hS1 => ?_)
                try simp only [layR]
                refine wpAnyH_done (by kernel_rfl) ?_ _
                refine NoPanic.normal ?_
                clear hS0 hS1
                go_wp2_with fail
                go_roundw
                case rel => exact ⟨k + 1 + 1, by omega, by go_num, Own.far HO.out (by simpa [Value.ownBlock] using hgg) _, put_row HX2.out HV.out, (HB.out.setCell (p := ⟨g2, k + 1, none⟩) (show w.heap.size ≤ g2 by omega) _).drew⟩
                case measure => simp [intOf]; omega
        · obtain rfl : k = L := by omega
          have HN := Lib.hid (BoolsO.same HX2.out (f' := Glb.dpF (ms.take (q + 1)) s) (fun i hi => if_pos hi))
          have hks : ¬ k ≤ s.length := by have := HL.out; omega
          have hks2 : decide ((k : Int) ≤ (s.length : Int)) = false := decide_eq_false (by omega)
          clear ho hx hb
          go_wp2
          go_roundw
          case rel => exact ⟨q + 1, g2, k, by omega, by go_num, rfl, HN.out, HB.out⟩
          case measure => simp [intOf]; omega
    · obtain rfl : q = n := by omega
      obtain ⟨c1, _⟩ := BoolsO.at_ HO.out (k := s.length) (by rw [HL.out]; omega)
      have g1 : decide ((q : Int) < (q : Int)) = false := decide_eq_false (by omega)
      have g2 : (s.length : Int) < (L : Int) := by rw [HL.out]; omega
      have ht : ms.take q = ms := List.take_of_length_le (by have := HXL.out; rw [List.length_map] at this; omega)
      rw [ht] at c1
      go_wp2
      go_ret
      exact ⟨rfl, HB.out⟩
end Go.Proofs.Ytlnjfnpoabcllaa
