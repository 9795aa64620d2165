/-
  members: a set's members.
-/
import Derived.Test.YtlnjfnpoabcllaaGlbApp
import Derived.StillTailTactics
import Derived.Deep.QuietTactic
import Derived.BigQuiet
namespace Go.Proofs.Ytlnjfnpoabcllaa
open Go.RowKit

def MemR (o : Option (List (UInt8 × UInt8) × List UInt8)) (w : World) (e : Ending) (w' : World) : Prop :=
  ∃ v, e = .returned (.tuple #[v, .string (strL ((o.map (·.2)).getD [])), .bool o.isSome]) ∧ OwnM 2 spanC 91 w' w.heap.size v ((o.map (·.1)).getD []) ∧ Below w.heap.size w w'
theorem span_len (x : UInt8 × UInt8) : (spanC x).length = 2 := rfl
attribute [local go_sem] strL_cut
def strOf : Value → Nat
  | .string b => b.size
  | _ => 0
theorem strOf_L (l : List UInt8) : strOf (.string (strL l)) = l.length := rfl
theorem u8_ne {c : UInt8} {n : Nat} (hn : n < 256) (h : c ≠ UInt8.ofNat n) : ((c.toNat : Int) == (n : Int)) = false := by
  rw [beq_eq_false_iff_ne]
  intro e
  apply h
  apply UInt8.toNat_inj.1
  rw [UInt8.toNat_ofNat_of_lt' (by omega)]
  omega
set_option maxRecDepth 100000 in
set_option maxHeartbeats 4000000 in
theorem members_calls (l : List UInt8) (w : World) (hl : l.length ≤ 1000) :
    Calls Try.prog 40 #[.string (strL l)] w (MemR (Glb.mem [] l) w) := by
  obtain ⟨R, hR⟩ : ∃ R, R = Glb.mem [] l := ⟨_, rfl⟩
  rw [← hR]
  have HR := Lib.hid hR
  clear hR
  go_enter Try.func40, Try.ntmps40
  go_wp2
  go_step3
  go_wp2
  go_step3
  go_wp2
  go_loopw [0, 5, 18, 22] (fun s v _ _ wr => ∃ (acc : List (UInt8 × UInt8)) (r : List UInt8), s = .string (strL r) ∧ R = Glb.mem acc r ∧ acc.length + r.length ≤ l.length ∧ OwnM 2 spanC 91 wr w.heap.size v acc ∧ Below w.heap.size w wr) (fun s _ _ _ _ => strOf s)
  case atStart => exact ⟨[], l, rfl, HR.out, by simp, OwnM.nil span_len _ _, Below.refl _ _⟩
  case round =>
    obtain ⟨acc, r, rfl, hR, hlen, ho, hb⟩ := hrel
    have HR2 := Lib.hid hR
    have HB := Lib.hid hb
    obtain ⟨a, cp, rfl, _⟩ := ho.form
    have HO := Lib.hid ho
    have hsz := hb.size
    clear hR ho hb HR
    cases r with
    | nil =>
      have HN := Lib.hid (HR2.out.trans (Glb.mem_nil acc))
      clear HR2
      go_wp2
      rw [Exit.noGoto_ret]
      refine bodyPost_ret (v := .tuple #[.slice none 0 0, .string (strL []), .bool false]) (by simp [results, Try.results40, go_sem]; rfl) rfl ⟨_, by rw [HN.out]; rfl, ?_, HB.out⟩
      rw [HN.out]
      exact OwnM.nil span_len _ _
    | cons c t =>
      by_cases hc : c = 93
      · subst hc
        by_cases ha : acc = []
        · subst ha
          have HN := Lib.hid (HR2.out.trans ((Glb.mem_end [] t).trans (if_pos rfl)))
          clear HR2
          go_wp2
          rw [Exit.noGoto_ret]
          refine bodyPost_ret (v := .tuple #[.slice none 0 0, .string (strL []), .bool false]) (by simp [results, Try.results40, go_sem]; rfl) rfl ⟨_, by rw [HN.out]; rfl, ?_, HB.out⟩
          rw [HN.out]
          exact OwnM.nil span_len _ _
        · have HN := Lib.hid (HR2.out.trans ((Glb.mem_end acc t).trans (if_neg ha)))
          have hal : 0 < acc.length := List.length_pos_iff.2 ha
          have g0 : ((acc.length : Int) == 0) = false := by rw [beq_eq_false_iff_ne]; omega
          clear HR2 ha
          go_wp2
          go_quiet (fail)
          have HB2 := Lib.hid (HB.out.trans (show Below w.heap.size wr (wr.drewN nq) from ⟨rfl, rfl, rfl, Nat.le_refl _, fun _ _ => rfl⟩))
          have HO2 := Lib.hid (show OwnM 2 spanC 91 (wr.drewN nq) w.heap.size (.slice a acc.length cp) acc from HO.out)
          go_wp2
          rw [Exit.noGoto_ret]
          refine bodyPost_ret (v := .tuple #[.slice a acc.length cp, .string (strL t), .bool true]) (by simp [results, Try.results40, go_sem]) rfl ⟨_, by rw [HN.out]; rfl, ?_, HB2.out⟩
          rw [HN.out]
          exact HO2.out
      · have g93 : ((c.toNat : Int) == 93) = false := u8_ne (by decide) hc
        cases hr : Glb.isR (c :: t)
        · have HN := Lib.hid (HR2.out.trans (Glb.mem_one acc c t hc hr))
          match t, hr with
          | [], hr =>
            clear HR2 hr
            go_wp2_with fail
            have HOd := Lib.hid (HO.out.drew)
            have HBd := Lib.hid (HB.out.drew)
            have hszd : w.heap.size ≤ wr.drew.heap.size := hsz
            clear HO HB hsz
            refine wp_region_noPanic ?_
            refine wp_region_held_drew (S := (fun _ => True)) (by kernel_rfl) trivial (fun hS0 => ?_)
            refine takeV 0 (v := (.slice a acc.length cp)) rfl (by kernel_rfl) (by kernel_rfl) (by kernel_rfl) (fun _ _ _ h => h) (by rfl) (fun _ _ => rfl) (by assumption) ?_
            try simp only [layR]
            refine takeV 1 (v := (.string (strL (c :: [])))) rfl (by kernel_rfl) (by kernel_rfl) (by kernel_rfl) (fun _ _ _ h => h) (by rfl) (fun _ _ => rfl) (by assumption) ?_
            try simp only [layR]
            refine takeV 2 (v := (.int .u8 (c.toNat : Int))) rfl (by kernel_rfl) (by kernel_rfl) (by kernel_rfl) (fun _ _ _ h => h) (by rfl) (fun W hSw => ?_) (by assumption) ?_
            · skip
              go_simp
            try simp only [layR]
            refine takeV 3 (v := (.string (strL (c :: [])))) rfl (by kernel_rfl) (by kernel_rfl) (by kernel_rfl) (fun _ _ _ h => h) (by rfl) (fun _ _ => rfl) (by assumption) ?_
            try simp only [layR]
            refine takeV 4 (v := (.int .u8 (c.toNat : Int))) rfl (by kernel_rfl) (by kernel_rfl) (by kernel_rfl) (fun _ _ _ h => h) (by rfl) (fun W hSw => ?_) (by assumption) ?_
            · skip
              go_simp
            try simp only [layR]
            refine takeV 5 (v := (.agg #[.int .u8 (c.toNat : Int), .int .u8 (c.toNat : Int)])) rfl (by kernel_rfl) (by kernel_rfl) (by kernel_rfl) (fun _ _ _ h => h) (by rfl) (fun W hSw => ?_) (by assumption) ?_
            · skip
              go_simp
            try simp only [layR]
            refine wpAnyH_ready (rs := [6]) (by kernel_rfl) (by simp) ?_
            refine AllReadyH.cons rfl (fun K' hK => ?_) AllReadyH.nil
            go_simp
            refine hK.out _ _ trivial (fun hS1 => ?_)
            try simp only [layR]
            refine wpAnyH_ready (rs := [7]) (by kernel_rfl) (by simp) ?_
            refine AllReadyH.cons rfl (fun K' hK => ?_) AllReadyH.nil
            refine step_litSpan rfl _ _ rfl w.heap.size _ acc rfl HOd.out (c, c) _ rfl rfl rfl (by omega) hszd ?_
            intro v3 w3 HO3 hb3
            refine hK.out _ _ trivial (fun hS2 => ?_)
            try simp only [layR]
            refine takeV 8 (v := v3) rfl (by kernel_rfl) (by kernel_rfl) (by kernel_rfl) (fun _ _ _ h => h) (by rfl) (fun _ _ => rfl) (by assumption) ?_
            refine wpAnyH_done (by kernel_rfl) ?_ _
            refine NoPanic.normal ?_
            clear hS0 hS1 hS2
            go_wp2
            go_roundw
            case rel => exact ⟨acc ++ [(c, c)], [], by first | (simp; done) | (simp; rfl) | (simp [strL_cut]; done), HN.out, by simp at hlen ⊢; omega, HO3.out, HBd.out.trans hb3.out⟩
            case measure => first | (simp [strOf, strL_size]; done) | (simp [strOf, strL_size]; omega) | (simp [strOf, strL_cut, strL_size]; done) | (simp [strOf, strL_cut, strL_size]; omega)
          | [x], hr =>
            clear HR2 hr
            go_wp2_with fail
            have HOd := Lib.hid (HO.out.drew)
            have HBd := Lib.hid (HB.out.drew)
            have hszd : w.heap.size ≤ wr.drew.heap.size := hsz
            clear HO HB hsz
            refine wp_region_noPanic ?_
            refine wp_region_held_drew (S := (fun _ => True)) (by kernel_rfl) trivial (fun hS0 => ?_)
            refine takeV 0 (v := (.slice a acc.length cp)) rfl (by kernel_rfl) (by kernel_rfl) (by kernel_rfl) (fun _ _ _ h => h) (by rfl) (fun _ _ => rfl) (by assumption) ?_
            try simp only [layR]
            refine takeV 1 (v := (.string (strL (c :: [x])))) rfl (by kernel_rfl) (by kernel_rfl) (by kernel_rfl) (fun _ _ _ h => h) (by rfl) (fun _ _ => rfl) (by assumption) ?_
            try simp only [layR]
            refine takeV 2 (v := (.int .u8 (c.toNat : Int))) rfl (by kernel_rfl) (by kernel_rfl) (by kernel_rfl) (fun _ _ _ h => h) (by rfl) (fun W hSw => ?_) (by assumption) ?_
            · skip
              go_simp
            try simp only [layR]
            refine takeV 3 (v := (.string (strL (c :: [x])))) rfl (by kernel_rfl) (by kernel_rfl) (by kernel_rfl) (fun _ _ _ h => h) (by rfl) (fun _ _ => rfl) (by assumption) ?_
            try simp only [layR]
            refine takeV 4 (v := (.int .u8 (c.toNat : Int))) rfl (by kernel_rfl) (by kernel_rfl) (by kernel_rfl) (fun _ _ _ h => h) (by rfl) (fun W hSw => ?_) (by assumption) ?_
            · skip
              go_simp
            try simp only [layR]
            refine takeV 5 (v := (.agg #[.int .u8 (c.toNat : Int), .int .u8 (c.toNat : Int)])) rfl (by kernel_rfl) (by kernel_rfl) (by kernel_rfl) (fun _ _ _ h => h) (by rfl) (fun W hSw => ?_) (by assumption) ?_
            · skip
              go_simp
            try simp only [layR]
            refine wpAnyH_ready (rs := [6]) (by kernel_rfl) (by simp) ?_
            refine AllReadyH.cons rfl (fun K' hK => ?_) AllReadyH.nil
            go_simp
            refine hK.out _ _ trivial (fun hS1 => ?_)
            try simp only [layR]
            refine wpAnyH_ready (rs := [7]) (by kernel_rfl) (by simp) ?_
            refine AllReadyH.cons rfl (fun K' hK => ?_) AllReadyH.nil
            refine step_litSpan rfl _ _ rfl w.heap.size _ acc rfl HOd.out (c, c) _ rfl rfl rfl (by omega) hszd ?_
            intro v3 w3 HO3 hb3
            refine hK.out _ _ trivial (fun hS2 => ?_)
            try simp only [layR]
            refine takeV 8 (v := v3) rfl (by kernel_rfl) (by kernel_rfl) (by kernel_rfl) (fun _ _ _ h => h) (by rfl) (fun _ _ => rfl) (by assumption) ?_
            refine wpAnyH_done (by kernel_rfl) ?_ _
            refine NoPanic.normal ?_
            clear hS0 hS1 hS2
            go_wp2
            go_roundw
            case rel => exact ⟨acc ++ [(c, c)], [x], by first | (simp; done) | (simp; rfl) | (simp [strL_cut]; done), HN.out, by simp at hlen ⊢; omega, HO3.out, HBd.out.trans hb3.out⟩
            case measure => first | (simp [strOf, strL_size]; done) | (simp [strOf, strL_size]; omega) | (simp [strOf, strL_cut, strL_size]; done) | (simp [strOf, strL_cut, strL_size]; omega)
          | d :: e :: q, hr =>
            have hr2 := of_decide_eq_false hr
            have gq0 : (0 : Int) < (q.length : Int) + 1 + 1 + 1 := by omega
            by_cases hd : d = 45
            · subst hd
              have he : e = 93 := Classical.byContradiction fun h => hr2 ⟨rfl, h⟩
              subst he
              clear hr2
              clear HR2 hr
              go_wp2_with fail
              have HOd := Lib.hid (HO.out.drew)
              have HBd := Lib.hid (HB.out.drew)
              have hszd : w.heap.size ≤ wr.drew.heap.size := hsz
              clear HO HB hsz
              refine wp_region_noPanic ?_
              refine wp_region_held_drew (S := (fun _ => True)) (by kernel_rfl) trivial (fun hS0 => ?_)
              refine takeV 0 (v := (.slice a acc.length cp)) rfl (by kernel_rfl) (by kernel_rfl) (by kernel_rfl) (fun _ _ _ h => h) (by rfl) (fun _ _ => rfl) (by assumption) ?_
              try simp only [layR]
              refine takeV 1 (v := (.string (strL (c :: 45 :: 93 :: q)))) rfl (by kernel_rfl) (by kernel_rfl) (by kernel_rfl) (fun _ _ _ h => h) (by rfl) (fun _ _ => rfl) (by assumption) ?_
              try simp only [layR]
              refine takeV 2 (v := (.int .u8 (c.toNat : Int))) rfl (by kernel_rfl) (by kernel_rfl) (by kernel_rfl) (fun _ _ _ h => h) (by rfl) (fun W hSw => ?_) (by assumption) ?_
              · skip
                go_simp
              try simp only [layR]
              refine takeV 3 (v := (.string (strL (c :: 45 :: 93 :: q)))) rfl (by kernel_rfl) (by kernel_rfl) (by kernel_rfl) (fun _ _ _ h => h) (by rfl) (fun _ _ => rfl) (by assumption) ?_
              try simp only [layR]
              refine takeV 4 (v := (.int .u8 (c.toNat : Int))) rfl (by kernel_rfl) (by kernel_rfl) (by kernel_rfl) (fun _ _ _ h => h) (by rfl) (fun W hSw => ?_) (by assumption) ?_
              · skip
                go_simp
              try simp only [layR]
              refine takeV 5 (v := (.agg #[.int .u8 (c.toNat : Int), .int .u8 (c.toNat : Int)])) rfl (by kernel_rfl) (by kernel_rfl) (by kernel_rfl) (fun _ _ _ h => h) (by rfl) (fun W hSw => ?_) (by assumption) ?_
              · skip
                go_simp
              try simp only [layR]
              refine wpAnyH_ready (rs := [6]) (by kernel_rfl) (by simp) ?_
              refine AllReadyH.cons rfl (fun K' hK => ?_) AllReadyH.nil
              go_simp
              refine hK.out _ _ trivial (fun hS1 => ?_)
              try simp only [layR]
              refine wpAnyH_ready (rs := [7]) (by kernel_rfl) (by simp) ?_
              refine AllReadyH.cons rfl (fun K' hK => ?_) AllReadyH.nil
              refine step_litSpan rfl _ _ rfl w.heap.size _ acc rfl HOd.out (c, c) _ rfl rfl rfl (by omega) hszd ?_
              intro v3 w3 HO3 hb3
              refine hK.out _ _ trivial (fun hS2 => ?_)
              try simp only [layR]
              refine takeV 8 (v := v3) rfl (by kernel_rfl) (by kernel_rfl) (by kernel_rfl) (fun _ _ _ h => h) (by rfl) (fun _ _ => rfl) (by assumption) ?_
              refine wpAnyH_done (by kernel_rfl) ?_ _
              refine NoPanic.normal ?_
              clear hS0 hS1 hS2
              go_wp2
              go_roundw
              case rel => exact ⟨acc ++ [(c, c)], _, by first | (simp; done) | (simp; rfl) | (simp [strL_cut]; done), HN.out, by simp at hlen ⊢; omega, HO3.out, HBd.out.trans hb3.out⟩
              case measure => first | (simp [strOf, strL_size]; done) | (simp [strOf, strL_size]; omega) | (simp [strOf, strL_cut, strL_size]; done) | (simp [strOf, strL_cut, strL_size]; omega)
            · have g45 : ((d.toNat : Int) == 45) = false := u8_ne (by decide) hd
              clear hr2
              clear HR2 hr
              go_wp2_with fail
              have HOd := Lib.hid (HO.out.drew)
              have HBd := Lib.hid (HB.out.drew)
              have hszd : w.heap.size ≤ wr.drew.heap.size := hsz
              clear HO HB hsz
              refine wp_region_noPanic ?_
              refine wp_region_held_drew (S := (fun _ => True)) (by kernel_rfl) trivial (fun hS0 => ?_)
              refine takeV 0 (v := (.slice a acc.length cp)) rfl (by kernel_rfl) (by kernel_rfl) (by kernel_rfl) (fun _ _ _ h => h) (by rfl) (fun _ _ => rfl) (by assumption) ?_
              try simp only [layR]
              refine takeV 1 (v := (.string (strL (c :: d :: e :: q)))) rfl (by kernel_rfl) (by kernel_rfl) (by kernel_rfl) (fun _ _ _ h => h) (by rfl) (fun _ _ => rfl) (by assumption) ?_
              try simp only [layR]
              refine takeV 2 (v := (.int .u8 (c.toNat : Int))) rfl (by kernel_rfl) (by kernel_rfl) (by kernel_rfl) (fun _ _ _ h => h) (by rfl) (fun W hSw => ?_) (by assumption) ?_
              · skip
                go_simp
              try simp only [layR]
              refine takeV 3 (v := (.string (strL (c :: d :: e :: q)))) rfl (by kernel_rfl) (by kernel_rfl) (by kernel_rfl) (fun _ _ _ h => h) (by rfl) (fun _ _ => rfl) (by assumption) ?_
              try simp only [layR]
              refine takeV 4 (v := (.int .u8 (c.toNat : Int))) rfl (by kernel_rfl) (by kernel_rfl) (by kernel_rfl) (fun _ _ _ h => h) (by rfl) (fun W hSw => ?_) (by assumption) ?_
              · skip
                go_simp
              try simp only [layR]
              refine takeV 5 (v := (.agg #[.int .u8 (c.toNat : Int), .int .u8 (c.toNat : Int)])) rfl (by kernel_rfl) (by kernel_rfl) (by kernel_rfl) (fun _ _ _ h => h) (by rfl) (fun W hSw => ?_) (by assumption) ?_
              · skip
                go_simp
              try simp only [layR]
              refine wpAnyH_ready (rs := [6]) (by kernel_rfl) (by simp) ?_
              refine AllReadyH.cons rfl (fun K' hK => ?_) AllReadyH.nil
              go_simp
              refine hK.out _ _ trivial (fun hS1 => ?_)
              try simp only [layR]
              refine wpAnyH_ready (rs := [7]) (by kernel_rfl) (by simp) ?_
              refine AllReadyH.cons rfl (fun K' hK => ?_) AllReadyH.nil
              refine step_litSpan rfl _ _ rfl w.heap.size _ acc rfl HOd.out (c, c) _ rfl rfl rfl (by omega) hszd ?_
              intro v3 w3 HO3 hb3
              refine hK.out _ _ trivial (fun hS2 => ?_)
              try simp only [layR]
              refine takeV 8 (v := v3) rfl (by kernel_rfl) (by kernel_rfl) (by kernel_rfl) (fun _ _ _ h => h) (by rfl) (fun _ _ => rfl) (by assumption) ?_
              refine wpAnyH_done (by kernel_rfl) ?_ _
              refine NoPanic.normal ?_
              clear hS0 hS1 hS2
              go_wp2
              go_roundw
              case rel => exact ⟨acc ++ [(c, c)], _, by first | (simp; done) | (simp; rfl) | (simp [strL_cut]; done), HN.out, by simp at hlen ⊢; omega, HO3.out, HBd.out.trans hb3.out⟩
              case measure => first | (simp [strOf, strL_size]; done) | (simp [strOf, strL_size]; omega) | (simp [strOf, strL_cut, strL_size]; done) | (simp [strOf, strL_cut, strL_size]; omega)
        · obtain ⟨d, e, q, rfl, hd, he, hm⟩ := Glb.mem_range acc c t hc hr
          subst hd
          have HN := Lib.hid (HR2.out.trans hm)
          have g46 : ((e.toNat : Int) != 93) = true := by rw [bne, show ((e.toNat : Int) == 93) = false from u8_ne (by decide) he]; rfl
          have gq0 : (0 : Int) < (q.length : Int) + 1 + 1 + 1 := by omega
          have gq2 : (2 : Int) < (q.length : Int) + 1 + 1 + 1 := by omega
          clear hm
          clear HR2 hr
          go_wp2_with fail
          have HOd := Lib.hid (HO.out.drew)
          have HBd := Lib.hid (HB.out.drew)
          have hszd : w.heap.size ≤ wr.drew.heap.size := hsz
          clear HO HB hsz
          refine wp_region_noPanic ?_
          refine wp_region_held_drew (S := (fun _ => True)) (by kernel_rfl) trivial (fun hS0 => ?_)
          refine takeV 0 (v := (.slice a acc.length cp)) rfl (by kernel_rfl) (by kernel_rfl) (by kernel_rfl) (fun _ _ _ h => h) (by rfl) (fun _ _ => rfl) (by assumption) ?_
          try simp only [layR]
          refine takeV 1 (v := (.string (strL (c :: 45 :: e :: q)))) rfl (by kernel_rfl) (by kernel_rfl) (by kernel_rfl) (fun _ _ _ h => h) (by rfl) (fun _ _ => rfl) (by assumption) ?_
          try simp only [layR]
          refine takeV 2 (v := (.int .u8 (c.toNat : Int))) rfl (by kernel_rfl) (by kernel_rfl) (by kernel_rfl) (fun _ _ _ h => h) (by rfl) (fun W hSw => ?_) (by assumption) ?_
          · skip
            go_simp
          try simp only [layR]
          refine takeV 3 (v := (.string (strL (c :: 45 :: e :: q)))) rfl (by kernel_rfl) (by kernel_rfl) (by kernel_rfl) (fun _ _ _ h => h) (by rfl) (fun _ _ => rfl) (by assumption) ?_
          try simp only [layR]
          refine takeV 4 (v := (.int .u8 (e.toNat : Int))) rfl (by kernel_rfl) (by kernel_rfl) (by kernel_rfl) (fun _ _ _ h => h) (by rfl) (fun W hSw => ?_) (by assumption) ?_
          · skip
            go_simp
          try simp only [layR]
          refine takeV 5 (v := (.agg #[.int .u8 (c.toNat : Int), .int .u8 (e.toNat : Int)])) rfl (by kernel_rfl) (by kernel_rfl) (by kernel_rfl) (fun _ _ _ h => h) (by rfl) (fun W hSw => ?_) (by assumption) ?_
          · skip
            go_simp
          try simp only [layR]
          refine wpAnyH_ready (rs := [6]) (by kernel_rfl) (by simp) ?_
          refine AllReadyH.cons rfl (fun K' hK => ?_) AllReadyH.nil
          go_simp
          refine hK.out _ _ trivial (fun hS1 => ?_)
          try simp only [layR]
          refine wpAnyH_ready (rs := [7]) (by kernel_rfl) (by simp) ?_
          refine AllReadyH.cons rfl (fun K' hK => ?_) AllReadyH.nil
          refine step_litSpan rfl _ _ rfl w.heap.size _ acc rfl HOd.out (c, e) _ rfl rfl rfl (by omega) hszd ?_
          intro v3 w3 HO3 hb3
          refine hK.out _ _ trivial (fun hS2 => ?_)
          try simp only [layR]
          refine takeV 8 (v := v3) rfl (by kernel_rfl) (by kernel_rfl) (by kernel_rfl) (fun _ _ _ h => h) (by rfl) (fun _ _ => rfl) (by assumption) ?_
          refine wpAnyH_done (by kernel_rfl) ?_ _
          refine NoPanic.normal ?_
          clear hS0 hS1 hS2
          go_wp2
          go_roundw
          case rel => exact ⟨acc ++ [(c, e)], q, by first | (simp; done) | (simp; rfl) | (simp [strL_cut]; done), HN.out, by simp at hlen ⊢; omega, HO3.out, HBd.out.trans hb3.out⟩
          case measure => first | (simp [strOf, strL_size]; done) | (simp [strOf, strL_size]; omega) | (simp [strOf, strL_cut, strL_size]; done) | (simp [strOf, strL_cut, strL_size]; omega)
end Go.Proofs.Ytlnjfnpoabcllaa
