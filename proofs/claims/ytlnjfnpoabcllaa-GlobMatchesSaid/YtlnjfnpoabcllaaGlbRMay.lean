/-
  The reference's May, walked.
-/
import Derived.Test.YtlnjfnpoabcllaaGlbRMatch
import Derived.Test.YtlnjfnpoabcllaaGlbROpen
namespace Go.Proofs.Ytlnjfnpoabcllaa
open Go.RowKit

namespace Glb
theorem prts_at {ls : List (List UInt8)} : ∀ {ps : List Prt}, prts ls = some ps → ps.length = ls.length ∧ ∀ k (h1 : k < ls.length) (h2 : k < ps.length), prt1 ls[k] = some ps[k] := by
  induction ls with
  | nil =>
    intro ps h
    injection h with h
    subst h
    exact ⟨rfl, fun k h1 => absurd h1 (by simp)⟩
  | cons t ts ih =>
    intro ps h
    obtain ⟨p, ps', h1, h2, rfl⟩ := prts_cons h
    obtain ⟨i1, i2⟩ := ih h2
    refine ⟨by simp [i1], fun k hk1 hk2 => ?_⟩
    cases k with
    | zero => exact h1
    | succ k => exact i2 k (by simpa using hk1) (by simpa using hk2)
theorem prts_take {ls : List (List UInt8)} : ∀ {ps : List Prt} (k : Nat), prts ls = some ps → prts (ls.take k) = some (ps.take k) := by
  induction ls with
  | nil =>
    intro ps k h
    injection h with h
    subst h
    simp [prts]
  | cons t ts ih =>
    intro ps k h
    obtain ⟨p, ps', h1, h2, rfl⟩ := prts_cons h
    cases k with
    | zero => rfl
    | succ k =>
      rw [List.take_succ_cons, List.take_succ_cons]
      unfold prts
      rw [h1, ih k h2]
theorem prt1_marks {t : List UInt8} {p : Prt} (ht : t ≠ [42, 42]) (h : prt1 t = some p) : p.all = false ∧ marksOf t = some p.l := by
  unfold prt1 at h
  rw [if_neg ht] at h
  cases hm : marksOf t with
  | none => rw [hm] at h; cases h
  | some l =>
    rw [hm] at h
    injection h with h
    subst h
    exact ⟨rfl, rfl⟩
end Glb
def gd (ps : List Glb.Prt) (j : Nat) : Bool := (ps[j]?.map fun p => p.all || Glb.openB p.l).getD true
theorem gd_at {ps : List Glb.Prt} {j : Nat} (h : j < ps.length) : gd ps j = (ps[j].all || Glb.openB ps[j].l) := by
  unfold gd
  rw [List.getElem?_eq_getElem h]
  rfl
def restB (ps : List Glb.Prt) (i k : Nat) : Bool := (List.range (k - i)).all fun d => gd ps (i + d)
theorem restB_self (ps : List Glb.Prt) (i : Nat) : restB ps i i = true := by unfold restB; simp
theorem restB_succ (ps : List Glb.Prt) {i k : Nat} (h : i ≤ k) : restB ps i (k + 1) = (restB ps i k && gd ps k) := by
  unfold restB
  rw [show k + 1 - i = (k - i) + 1 by omega, List.range_succ, List.all_append]
  simp [show i + (k - i) = k by omega]
theorem okF_iff {ps : List Glb.Prt} : ∀ (d i : Nat), ps.length - i = d → i ≤ ps.length → (okF ps i = true ↔ ∀ j, i ≤ j → j < ps.length → gd ps j = true) := by
  intro d
  induction d with
  | zero =>
    intro i hd hi
    have e : i = ps.length := by omega
    subst e
    rw [okF_end rfl]
    exact ⟨fun _ j h1 h2 => absurd h1 (by omega), fun _ => rfl⟩
  | succ d ih =>
    intro i hd hi
    have hlt : i < ps.length := by omega
    rw [okF_step hlt, Bool.and_eq_true, ih (i + 1) (by omega) (by omega), ← gd_at hlt]
    constructor
    · rintro ⟨h1, h2⟩ j hj hj2
      by_cases e : j = i
      · subst e; exact h1
      · exact h2 j (by omega) hj2
    · intro h
      exact ⟨h i (Nat.le_refl _) hlt, fun j hj hj2 => h j (by omega) hj2⟩
theorem restB_end {ps : List Glb.Prt} {n i : Nat} (hn : ps.length = n) (hi : i ≤ n) : restB ps i n = okF ps i := by
  subst hn
  rw [Bool.eq_iff_iff, okF_iff _ i rfl hi]
  unfold restB
  rw [List.all_eq_true]
  constructor
  · intro h j h1 h2
    have := h (j - i) (List.mem_range.2 (by omega))
    rw [show i + (j - i) = j by omega] at this
    exact this
  · intro h d hd
    exact h (i + d) (by omega) (by have := List.mem_range.1 hd; omega)
theorem plF_all {ps : List Glb.Prt} {i : Nat} (ns : List (List UInt8)) (hi : i < ps.length) (ha : ps[i].all = true) : plF ps ns i = Glb.mtB (ps.take (i + 1)) ns := by
  unfold plF Glb.mtB
  rw [Glb.pl_many (ps.map Glb.abP) (i := i) (by rw [List.length_map]; exact hi) (by rw [List.getElem_map]; exact ha), List.take_succ_eq_append_getElem hi, List.map_append, List.map_take]
  rw [List.getElem_map]; rfl
theorem plF_one {ps : List Glb.Prt} {i : Nat} (ns : List (List UInt8)) (hi : i < ps.length) (ha : ps[i].all = false) : plF ps ns i = Glb.mtB (ps.take i) ns := by
  unfold plF Glb.mtB
  rw [Glb.pl_one (ps.map Glb.abP) (i := i) (by rw [List.length_map]; exact hi) (by rw [List.getElem_map]; exact ha), List.map_take]
theorem plF_out {ps : List Glb.Prt} {i : Nat} (ns : List (List UInt8)) (hi : ps.length ≤ i) : plF ps ns i = Glb.mtB (ps.take i) ns := by
  unfold plF Glb.mtB
  rw [Glb.pl_out (ps.map Glb.abP) (i := i) (by rw [List.length_map]; exact hi), List.map_take]
theorem plF_yes {ps : List Glb.Prt} {i : Nat} (ns : List (List UInt8)) (h : Glb.mtB (ps.take i) ns = true) : plF ps ns i = true := by
  by_cases hi : i < ps.length
  · cases ha : ps[i].all
    · rw [plF_one ns hi ha]; exact h
    · rw [plF_all ns hi ha]
      unfold Glb.mtB
      rw [List.take_succ_eq_append_getElem hi, List.map_append]
      exact (Glb.mt_snoc_many (m := Glb.abP ps[i]) ha ns).2 ⟨ns, [], by simp, h⟩
  · rw [plF_out ns (by omega)]; exact h
/-- No place below i is one. -/
def mayLow (ps : List Glb.Prt) (ns : List (List UInt8)) (i : Nat) : Prop := ∀ j, j < i → (plF ps ns j && okF ps j) = false
theorem mayLow_step {ps : List Glb.Prt} {ns : List (List UInt8)} {i : Nat} (h : mayLow ps ns i) (h2 : (plF ps ns i && okF ps i) = false) : mayLow ps ns (i + 1) := fun j hj => by
  by_cases e : j = i
  · subst e; exact h2
  · exact h j (by omega)
theorem mayLow_end {ps : List Glb.Prt} {ns : List (List UInt8)} {n : Nat} (hn : ps.length = n) (h : mayLow ps ns (n + 1)) : mayB ps ns = false := mayB_no hn fun j _ hj => h j (by omega)
set_option maxRecDepth 100000 in
set_option maxHeartbeats 8000000 in
theorem rMay_calls (ls : List (List UInt8)) (ps : List Glb.Prt) (hp : Glb.prts ls = some ps) (hl : ∀ x ∈ ls, x.length ≤ 1000) (a : Option Addr) (n c : Nat) (ns : List (List UInt8)) (an : Option Addr) (nn cn : Nat) (w : World)
    (hx : Arr strV w w.heap.size a n ls) (hnc : n ≤ c) (hy : Arr strV w w.heap.size an nn ns) (hncn : nn ≤ cn) (hs : ∀ x ∈ ns, x.length ≤ 1000) :
    Calls Try.prog 21 #[.slice a n c, .slice an nn cn] w fun e w' => e = .returned (.bool (mayB ps ns)) ∧ Below w.heap.size w w' := by
  obtain ⟨hpl, hpa⟩ := Glb.prts_at hp
  have hln := hx.len
  have hroom := hx.room
  have hpn : ps.length = n := hpl.trans hln
  have HM := Lib.hid (fun (i : Nat) (hi : i ≤ n) (u : World) (hu : Below w.heap.size w u) => rMatch_calls (ls.take i) (ps.take i) (Glb.prts_take i hp) (fun x hx => hl x (List.mem_of_mem_take hx)) a i c ns an nn cn u ((hx.on hu).take hi) (Nat.le_trans hi hnc) (hy.on hu) hncn hs)
  have HX := Lib.hid hx
  have HL := Lib.hid hl
  have HPa := Lib.hid hpa
  have HPn := Lib.hid hpn
  have HLn := Lib.hid hln
  clear hx hy hs hl hp hpa hpl hpn hln
  go_enter Try.func21, Try.ntmps21
  go_wp2_with fail
  go_loopw [5, 6, 7] (fun i _ _ wr => ∃ q : Nat, q ≤ n + 1 ∧ i = .int .i64 q ∧ mayLow ps ns q ∧ Below w.heap.size w wr) (fun i _ _ _ => n + 1 - (intOf i).toNat)
  case atStart => exact ⟨0, by omega, rfl, fun j h => absurd h (by omega), Below.refl _ _⟩
  case round =>
    obtain ⟨q, hq, rfl, hg, hb⟩ := hrel
    have HG := Lib.hid hg
    have HB := Lib.hid hb
    clear hg hb
    by_cases hlt : q < n + 1
    · have g1 : (q : Int) ≤ (n : Int) := by omega
      have hqn : q ≤ n := by omega
      go_wp2_with fail
      go_loopw [6, 7] (fun x i wi => ∃ k : Nat, q ≤ k ∧ k ≤ n ∧ i = .int .i64 k ∧ x = .bool (restB ps q k) ∧ Below w.heap.size w wi) (fun _ i _ => n - (intOf i).toNat)
      case atStart => exact ⟨q, Nat.le_refl _, hqn, rfl, by rw [restB_self], HB.out⟩
      case round =>
        obtain ⟨k, hqk, hkn, rfl, rfl, hb⟩ := hrel
        have HBi := Lib.hid hb
        clear hb
        by_cases hlk : k < n
        · obtain ⟨b, o, hk', rfl, hbl, hcx⟩ := (HX.out.below HBi.out).atS hlk
          have k0 : (0 : Int) ≤ (k : Int) := by omega
          have k1 : (k : Int) < (n : Int) := by omega
          have hkp : k < ps.length := by rw [HPn.out]; exact hlk
          have HS := Lib.hid (restB_succ ps hqk)
          cases hR : restB ps q k with
          | false =>
            rw [hR] at HS
            clear hcx hR
            go_wp2_with fail
            go_roundw
            case rel => exact ⟨k + 1, by omega, by omega, by go_num, by rw [HS.out]; rfl, HBi.out⟩
            case measure => simp [intOf]; omega
          | true =>
            rw [hR] at HS
            have HGd := Lib.hid (gd_at hkp)
            have h1 := HPa.out k hk' hkp
            have hlen := HL.out _ (List.getElem_mem hk')
            generalize ls[k] = t at *
            clear hk' hR
            by_cases h42 : t = [42, 42]
            · subst h42
              have HV := Lib.hid (show restB ps q (k + 1) = true by rw [HS.out, HGd.out, Glb.prt1_all h1]; rfl)
              clear h1
              go_wp2_with fail
              go_roundw
              case rel => exact ⟨k + 1, by omega, by omega, by go_num, by rw [HV.out], HBi.out⟩
              case measure => simp [intOf]; omega
            · obtain ⟨h2, h3⟩ := Glb.prt1_marks h42 h1
              have g42 : (t == [42, 42]) = false := by simpa using h42
              have HO := Lib.hid (rOpen_calls t ps[k].l h3 wr hlen)
              have HV := Lib.hid (show Glb.openB ps[k].l = restB ps q (k + 1) by rw [HS.out, HGd.out, h2]; rfl)
              clear h1 h2 h3 h42
              generalize Glb.openB ps[k].l = V at *
              go_wp2_with fail
              go_simp
              go_wp2_with fail
              refine HO.out.mono ?_
              rintro e w2 ⟨rfl, hb2⟩
              have HB2 := Lib.hid (HBi.out.then_ hb2)
              clear hb2
              go_wp2_with fail
              go_roundw
              case rel => exact ⟨k + 1, by omega, by omega, by go_num, by rw [← HV.out], HB2.out⟩
              case measure => simp [intOf]; omega
        · obtain rfl : k = n := by omega
          have HE := Lib.hid (restB_end HPn.out hqn)
          rw [HE.out]
          cases hO : okF ps q with
          | false =>
            have HG2 := Lib.hid (mayLow_step HG.out (by rw [hO, Bool.and_false]))
            clear hO
            go_wp2_with fail
            go_roundw
            case rel => exact ⟨q + 1, by omega, by go_num, HG2.out, HBi.out⟩
            case measure => simp [intOf]; omega
          | true =>
            have HM1 := Lib.hid (HM.out q hqn wr HBi.out)
            have HY := Lib.hid (fun h : plF ps ns q = true => mayB_yes HPn.out hqn h hO)
            have HG2 := Lib.hid (fun h : plF ps ns q = false => mayLow_step HG.out (by rw [h, Bool.false_and]))
            have hcut1 : ∀ u, (Instr.slice 22 (.slice a k c) none (some (.int .i64 (q : Int))) none).run Try.prog u = .ok (.slice a q c) u := fun u => cutS_to a k c q (by omega) u
            clear hO
            cases hM1 : Glb.mtB (ps.take q) ns with
            | true =>
              rw [hM1] at HM1
              have HYY := Lib.hid (HY.out (plF_yes ns hM1))
              clear hM1
              go_wp2_with fail
              refine HM1.out.mono ?_
              rintro e w2 ⟨rfl, hb2⟩
              have HB2 := Lib.hid (HBi.out.then_ hb2)
              clear hb2
              go_wp2_with fail
              go_ret
              exact ⟨by rw [HYY.out]; rfl, HB2.out⟩
            | false =>
              rw [hM1] at HM1
              by_cases hlq : q < k
              · have hqp : q < ps.length := by rw [HPn.out]; exact hlq
                have k0 : (0 : Int) ≤ (q : Int) := by omega
                have k1 : (q : Int) < (k : Int) := by omega
                have k2 : decide ((q : Int) < (k : Int)) = true := decide_eq_true k1
                have hql : q < ls.length := by rw [HLn.out]; exact hlq
                have h1 := HPa.out q hql hqp
                by_cases h42 : ls[q] = [42, 42]
                · rw [h42] at h1
                  have HPl := Lib.hid (plF_all ns hqp (Glb.prt1_all h1))
                  have hcut2 : ∀ u, (Instr.slice 22 (.slice a k c) none (some (.int .i64 ((q : Int) + 1))) none).run Try.prog u = .ok (.slice a (q + 1) c) u := fun u => by
                    have := cutS_to a k c (q + 1) (by omega) u
                    rw [show ((q + 1 : Nat) : Int) = (q : Int) + 1 by omega] at this
                    exact this
                  clear hM1 h1
                  go_wp2_with fail
                  refine HM1.out.mono ?_
                  rintro e w2 ⟨rfl, hb2⟩
                  have hb3 := HBi.out.then_ hb2
                  have HB2 := Lib.hid hb3
                  have HM2 := Lib.hid (HM.out (q + 1) (by omega) w2 hb3)
                  obtain ⟨b, o, hk', rfl, hbl, hcx⟩ := (HX.out.below hb3).atS hlq
                  rw [h42] at hcx
                  rw [← HPl.out] at HM2
                  clear hb2 hb3 hk'
                  cases hP : plF ps ns q with
                  | true =>
                    rw [hP] at HM2
                    have HYY := Lib.hid (HY.out hP)
                    clear hP
                    go_wp2_with fail
                    go_simp
                    go_wp2_with fail
                    refine HM2.out.mono ?_
                    rintro e w3 ⟨rfl, hb4⟩
                    have HB3 := Lib.hid (HB2.out.then_ hb4)
                    clear hb4
                    go_wp2_with fail
                    go_ret
                    exact ⟨by rw [HYY.out]; rfl, HB3.out⟩
                  | false =>
                    rw [hP] at HM2
                    have HGG := Lib.hid (HG2.out hP)
                    clear hP
                    go_wp2_with fail
                    go_simp
                    go_wp2_with fail
                    refine HM2.out.mono ?_
                    rintro e w3 ⟨rfl, hb4⟩
                    have HB3 := Lib.hid (HB2.out.then_ hb4)
                    clear hb4
                    go_wp2_with fail
                    go_roundw
                    case rel => exact ⟨q + 1, by omega, by go_num, HGG.out, HB3.out⟩
                    case measure => simp [intOf]; omega
                · obtain ⟨h2, _⟩ := Glb.prt1_marks h42 h1
                  have HGG := Lib.hid (HG2.out ((plF_one ns hqp h2).trans hM1))
                  have g42 : (ls[q] == [42, 42]) = false := by simpa using h42
                  clear hM1 h1 h2 h42
                  go_wp2_with fail
                  refine HM1.out.mono ?_
                  rintro e w2 ⟨rfl, hb2⟩
                  have hb3 := HBi.out.then_ hb2
                  have HB2 := Lib.hid hb3
                  obtain ⟨b, o, hk', rfl, hbl, hcx⟩ := (HX.out.below hb3).atS hlq
                  clear hb2 hb3
                  go_wp2_with fail
                  go_simp
                  go_wp2_with fail
                  go_roundw
                  case rel => exact ⟨q + 1, by omega, by go_num, HGG.out, HB2.out⟩
                  case measure => simp [intOf]; omega
              · obtain rfl : q = k := by omega
                have HGG := Lib.hid (HG2.out ((plF_out ns (by rw [HPn.out]; exact Nat.le_refl _)).trans hM1))
                have k2 : decide ((q : Int) < (q : Int)) = false := decide_eq_false (by omega)
                clear hM1
                go_wp2_with fail
                refine HM1.out.mono ?_
                rintro e w2 ⟨rfl, hb2⟩
                have HB2 := Lib.hid (HBi.out.then_ hb2)
                clear hb2
                go_wp2_with fail
                go_roundw
                case rel => exact ⟨q + 1, by omega, by go_num, HGG.out, HB2.out⟩
                case measure => simp [intOf]
    · obtain rfl : q = n + 1 := by omega
      have HR := Lib.hid (mayLow_end HPn.out HG.out)
      have g2 : decide (((n + 1 : Nat) : Int) ≤ (n : Int)) = false := decide_eq_false (by omega)
      have g3 : ¬ ((n + 1 : Nat) : Int) ≤ (n : Int) := by omega
      go_wp2_with fail
      go_ret
      exact ⟨by rw [HR.out]; rfl, HB.out⟩
end Go.Proofs.Ytlnjfnpoabcllaa
