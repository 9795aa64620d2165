/-
  The reference's Match, walked: by induction on the pattern's parts.
-/
import Derived.Test.YtlnjfnpoabcllaaGlbRNew
namespace Go.Proofs.Ytlnjfnpoabcllaa
open Go.RowKit

theorem cutS_from (a : Option Addr) (n c l : Nat) (hl : l ≤ n) (w : World) : (Instr.slice 22 (.slice a n c) (some (.int .i64 (l : Int))) none none).run Try.prog w = .ok (.slice (cutA a c l) (n - l) (c - l)) w := by
  obtain ⟨i0, hi, hz0, hz1, hz2⟩ := info_parts infoS
  exact run_cut_from Try.underlying22 hi hz1 a n c l hl w
namespace Glb
def mtB (ps : List Prt) (ns : List (List UInt8)) : Bool := mt (ps.map abP) ns
theorem mtB_nil (ns : List (List UInt8)) (n : Nat) (h : ns.length = n) : mtB [] ns = ((n : Int) == 0) := by
  rw [Bool.eq_iff_iff]
  show mt [] ns = true ↔ _
  rw [mt_nil, beq_iff_eq, ← h]
  cases ns <;> simp
  omega
theorem mtB_all {p : Prt} (hp : p.all = true) (ps : List Prt) (ns : List (List UInt8)) {k : Nat} (h : mtB ps (ns.drop k) = true) : mtB (p :: ps) ns = true := by
  show mt (abP p :: ps.map abP) ns = true
  exact (mt_cons _ _ _).2 ⟨ns.take k, ns.drop k, (List.take_append_drop k ns).symm, .inl hp, h⟩
theorem mtB_allno {p : Prt} (_hp : p.all = true) (ps : List Prt) (ns : List (List UInt8)) (h : ∀ j, j < ns.length + 1 → mtB ps (ns.drop j) = false) : mtB (p :: ps) ns = false := by
  rw [Bool.eq_false_iff]
  intro h1
  obtain ⟨u, v, e, _, hv⟩ := (mt_cons (abP p) (ps.map abP) ns).1 h1
  have h2 := h u.length (by rw [e, List.length_append]; omega)
  rw [e, List.drop_left] at h2
  have h3 : mtB ps v = true := hv
  rw [h2] at h3
  cases h3
theorem mtB_one {p : Prt} (hp : p.all = false) (ps : List Prt) (x : List UInt8) (ns : List (List UInt8)) : mtB (p :: ps) (x :: ns) = (matchesB p.l x && mtB ps ns) := mt_one_cons (m := abP p) hp _ _ _
theorem mtB_one0 {p : Prt} (hp : p.all = false) (ps : List Prt) : mtB (p :: ps) [] = false := mt_one_nil (m := abP p) hp _
theorem prts_cons {t : List UInt8} {ts : List (List UInt8)} {ps : List Prt} (h : prts (t :: ts) = some ps) : ∃ p ps', prt1 t = some p ∧ prts ts = some ps' ∧ ps = p :: ps' := by
  unfold prts at h
  cases h1 : prt1 t with
  | none => rw [h1] at h; cases h
  | some p =>
    cases h2 : prts ts with
    | none => rw [h1, h2] at h; cases h
    | some ps' =>
      rw [h1, h2] at h
      injection h with h
      exact ⟨p, ps', rfl, rfl, h.symm⟩
theorem prt1_all {p : Prt} (h : prt1 [42, 42] = some p) : p.all = true := by
  unfold prt1 at h
  rw [if_pos rfl] at h
  injection h with h
  subst h
  rfl
theorem prt1_one {t : List UInt8} {p : Prt} (ht : t ≠ [42, 42]) (h : prt1 t = some p) : p.all = false ∧ ∀ x, part t x = (matchesB p.l x, 0) := by
  unfold prt1 at h
  rw [if_neg ht] at h
  cases hm : marksOf t with
  | none => rw [hm] at h; cases h
  | some l =>
    rw [hm] at h
    injection h with h
    subst h
    refine ⟨rfl, fun x => ?_⟩
    unfold part
    rw [hm]
    exact if_neg ht
end Glb
set_option maxRecDepth 100000 in
set_option maxHeartbeats 8000000 in
theorem rMatch_calls : ∀ (ls : List (List UInt8)) (ps : List Glb.Prt), Glb.prts ls = some ps → (∀ x ∈ ls, x.length ≤ 1000) → ∀ (a : Option Addr) (n c : Nat) (ns : List (List UInt8)) (an : Option Addr) (nn cn : Nat) (w : World),
    Arr strV w w.heap.size a n ls → n ≤ c → Arr strV w w.heap.size an nn ns → nn ≤ cn → (∀ x ∈ ns, x.length ≤ 1000) →
    Calls Try.prog 19 #[.slice a n c, .slice an nn cn] w fun e w' => e = .returned (.bool (Glb.mtB ps ns)) ∧ Below w.heap.size w w' := by
  intro ls
  induction ls with
  | nil =>
    intro ps hp _ a n c ns an nn cn w hx _ hy _ _
    have hn : n = 0 := hx.len.symm
    have hps : ps = [] := (Option.some.inj hp).symm
    subst hn
    subst hps
    rw [Glb.mtB_nil ns nn hy.len]
    clear hx hy hp
    go_enter Try.func19, Try.ntmps19
    go_wp2
    go_ret
    exact ⟨rfl, Below.refl _ _⟩
  | cons t ts ih =>
    intro ps hp hl a n c ns an nn cn w hx hnc hy hncn hs
    have hn : ts.length + 1 = n := hx.len
    have hnn := hy.len
    have hroom := hy.room
    have hn0 : 0 < n := by omega
    obtain ⟨p, ps', hp1, hp2, rfl⟩ := Glb.prts_cons hp
    have HIh := Lib.hid (ih ps' hp2 fun x hx => hl x (List.mem_cons_of_mem _ hx))
    have hlt := hl t (List.mem_cons_self ..)
    obtain ⟨b, o, _, ha, hbl, hc0'⟩ := hx.atS hn0
    subst ha
    rw [List.getElem_cons_zero] at hc0'
    have hc0 : w.cell? ⟨b, o, none⟩ = some (.string (strL t)) := hc0'
    clear hc0'
    have HX := Lib.hid hx
    have HY := Lib.hid hy
    have HS := Lib.hid hs
    have g0 : ((n : Int) == 0) = false := by rw [beq_eq_false_iff_ne]; omega
    have g1 : (0 : Int) < (n : Int) := by omega
    have hcut1 : ∀ u, (Instr.slice 22 (.slice (some ⟨b, o, none⟩) n c) (some (.int .i64 1)) none none).run Try.prog u = .ok (.slice (cutA (some ⟨b, o, none⟩) c 1) (n - 1) (c - 1)) u := fun u => cutS_from (some ⟨b, o, none⟩) n c 1 hn0 u
    clear hx hy hs ih hp hp2 hl
    by_cases h42 : t = [42, 42]
    · subst h42
      have HA := Lib.hid (Glb.prt1_all hp1)
      clear hp1
      go_enter Try.func19, Try.ntmps19
      go_wp2_with fail
      go_loopw [5] (fun i wr => ∃ k : Nat, k ≤ nn + 1 ∧ i = .int .i64 k ∧ (∀ j, j < k → Glb.mtB ps' (ns.drop j) = false) ∧ Below w.heap.size w wr) (fun i _ => nn + 1 - (intOf i).toNat)
      case atStart => exact ⟨0, by omega, rfl, fun j h => absurd h (by omega), Below.refl _ _⟩
      case round =>
        obtain ⟨k, hk, rfl, hg, hb⟩ := hrel
        have HG := Lib.hid hg
        have HB := Lib.hid hb
        by_cases hlk : k < nn + 1
        · have g2 : (k : Int) ≤ (nn : Int) := by omega
          have hcut2 : ∀ u, (Instr.slice 22 (.slice an nn cn) (some (.int .i64 (k : Int))) none none).run Try.prog u = .ok (.slice (cutA an cn k) (nn - k) (cn - k)) u := fun u => cutS_from an nn cn k (by omega) u
          have hbd : Below wr.heap.size wr wr.drew := ⟨rfl, rfl, rfl, Nat.le_refl _, fun _ _ => rfl⟩
          have HBd := Lib.hid (hb.trans (hbd.mono hb.size))
          have hc1 := HIh.out (cutA (some ⟨b, o, none⟩) c 1) (n - 1) (c - 1) (ns.drop k) (cutA an cn k) (nn - k) (cn - k) wr.drew
            ((HX.out.on HBd.out).drop (l := 1) hn0 hnc) (by omega) ((HY.out.on HBd.out).drop (l := k) (by omega) hncn) (by omega) (fun x hx => HS.out x (List.mem_of_mem_drop hx))
          have hr : Glb.mtB ps' (ns.drop k) = true ∨ Glb.mtB ps' (ns.drop k) = false := by cases Glb.mtB ps' (ns.drop k) <;> simp
          clear hg hb hbd
          rcases hr with hr | hr
          · rw [hr] at hc1
            have HC1 := Lib.hid hc1
            have HR := Lib.hid (Glb.mtB_all HA.out ps' ns hr)
            clear hc1 hr
            go_upto_region 7 with fail
            refine wp_region_noPanic ?_
            refine wp_region_held_drew (S := (fun W' => Below wr.drew.heap.size wr.drew W')) (by kernel_rfl) (Below.refl _ _) (fun hS0 => ?_)
            refine takeV 0 (v := (.slice (some ⟨b, o, none⟩) n c)) rfl (by kernel_rfl) (by kernel_rfl) (by kernel_rfl) (fun _ _ _ h => h) (by rfl) (fun _ _ => rfl) (by assumption) ?_
            try simp only [layR]
            refine takeV 1 (v := (.slice (cutA (some ⟨b, o, none⟩) c 1) (n - 1) (c - 1))) rfl (by kernel_rfl) (by kernel_rfl) (by kernel_rfl) (fun _ _ _ h => h) (by rfl) (fun W hSw => ?_) (by assumption) ?_
            · skip
              go_simp
            try simp only [layR]
            refine takeV 2 (v := (.slice an nn cn)) rfl (by kernel_rfl) (by kernel_rfl) (by kernel_rfl) (fun _ _ _ h => h) (by rfl) (fun _ _ => rfl) (by assumption) ?_
            try simp only [layR]
            refine takeV 3 (v := (.int .i64 (k : Int))) rfl (by kernel_rfl) (by kernel_rfl) (by kernel_rfl) (fun _ _ _ h => h) (by rfl) (fun _ _ => rfl) (by assumption) ?_
            try simp only [layR]
            refine takeV 4 (v := (.slice (cutA an cn k) (nn - k) (cn - k))) rfl (by kernel_rfl) (by kernel_rfl) (by kernel_rfl) (fun _ _ _ h => h) (by rfl) (fun W hSw => ?_) (by assumption) ?_
            · skip
              go_simp
            try simp only [layR]
            refine wpAnyH_ready (rs := [5]) (by kernel_rfl) (by simp) ?_
            refine AllReadyH.cons rfl (fun K' hK => ?_) AllReadyH.nil
            go_simp
            refine HC1.out.mono ?_
            rintro e w2 ⟨rfl, hb2⟩
            refine hK.out _ _ hb2 (fun hS1 => ?_)
            try simp only [layR]
            refine wpAnyH_done (by kernel_rfl) ?_ _
            refine NoPanic.normal ?_
            have HB2 := Lib.hid (HBd.out.trans (hS1.mono HBd.out.size))
            clear hS0 hS1 hb2
            go_wp2_with fail
            go_ret
            exact ⟨by rw [HR.out]; rfl, HB2.out⟩
          · rw [hr] at hc1
            have HC1 := Lib.hid hc1
            have HG2 := Lib.hid (show ∀ j, j < k + 1 → Glb.mtB ps' (ns.drop j) = false from fun j hj => by
              by_cases e : j = k
              · rw [e]; exact hr
              · exact HG.out j (by omega))
            clear hc1 hr
            go_upto_region 7 with fail
            refine wp_region_noPanic ?_
            refine wp_region_held_drew (S := (fun W' => Below wr.drew.heap.size wr.drew W')) (by kernel_rfl) (Below.refl _ _) (fun hS0 => ?_)
            refine takeV 0 (v := (.slice (some ⟨b, o, none⟩) n c)) rfl (by kernel_rfl) (by kernel_rfl) (by kernel_rfl) (fun _ _ _ h => h) (by rfl) (fun _ _ => rfl) (by assumption) ?_
            try simp only [layR]
            refine takeV 1 (v := (.slice (cutA (some ⟨b, o, none⟩) c 1) (n - 1) (c - 1))) rfl (by kernel_rfl) (by kernel_rfl) (by kernel_rfl) (fun _ _ _ h => h) (by rfl) (fun W hSw => ?_) (by assumption) ?_
            · skip
              go_simp
            try simp only [layR]
            refine takeV 2 (v := (.slice an nn cn)) rfl (by kernel_rfl) (by kernel_rfl) (by kernel_rfl) (fun _ _ _ h => h) (by rfl) (fun _ _ => rfl) (by assumption) ?_
            try simp only [layR]
            refine takeV 3 (v := (.int .i64 (k : Int))) rfl (by kernel_rfl) (by kernel_rfl) (by kernel_rfl) (fun _ _ _ h => h) (by rfl) (fun _ _ => rfl) (by assumption) ?_
            try simp only [layR]
            refine takeV 4 (v := (.slice (cutA an cn k) (nn - k) (cn - k))) rfl (by kernel_rfl) (by kernel_rfl) (by kernel_rfl) (fun _ _ _ h => h) (by rfl) (fun W hSw => ?_) (by assumption) ?_
            · skip
              go_simp
            try simp only [layR]
            refine wpAnyH_ready (rs := [5]) (by kernel_rfl) (by simp) ?_
            refine AllReadyH.cons rfl (fun K' hK => ?_) AllReadyH.nil
            go_simp
            refine HC1.out.mono ?_
            rintro e w2 ⟨rfl, hb2⟩
            refine hK.out _ _ hb2 (fun hS1 => ?_)
            try simp only [layR]
            refine wpAnyH_done (by kernel_rfl) ?_ _
            refine NoPanic.normal ?_
            have HB2 := Lib.hid (HBd.out.trans (hS1.mono HBd.out.size))
            clear hS0 hS1 hb2
            go_wp2_with fail
            go_roundw
            case rel => exact ⟨k + 1, by omega, by go_num, HG2.out, HB2.out⟩
            case measure => simp [intOf]; omega
        · obtain rfl : k = nn + 1 := by omega
          have HR := Lib.hid (Glb.mtB_allno HA.out ps' ns (by rw [hnn]; exact HG.out))
          have g2 : ¬ ((nn + 1 : Nat) : Int) ≤ (nn : Int) := by omega
          have g3 : decide (((nn + 1 : Nat) : Int) ≤ (nn : Int)) = false := decide_eq_false g2
          clear hg hb
          go_wp2_with fail
          go_ret
          exact ⟨by rw [HR.out]; rfl, HB.out⟩
    · obtain ⟨hA, hM⟩ := Glb.prt1_one h42 hp1
      have HA := Lib.hid hA
      have g42 : (t == [42, 42]) = false := by simpa using h42
      clear hp1 h42 hA
      cases ns with
      | nil =>
        obtain rfl : nn = 0 := hnn.symm
        have HR := Lib.hid (Glb.mtB_one0 HA.out ps')
        go_enter Try.func19, Try.ntmps19
        go_wp2_with fail
        go_ret
        exact ⟨by rw [HR.out]; rfl, Below.refl _ _⟩
      | cons x xs =>
        have hxs := HS.out x (List.mem_cons_self ..)
        have HP := Lib.hid (fun u : World => refPart_calls t x u hlt hxs)
        rw [hM x] at HP
        have hnn0 : 0 < nn := by rw [← hnn]; simp
        have g2 : ((nn : Int) == 0) = false := by rw [beq_eq_false_iff_ne]; omega
        have g3 : (0 : Int) < (nn : Int) := by omega
        obtain ⟨b2, o2, _, ha2, hbl2, hc2'⟩ := HY.out.atS hnn0
        subst ha2
        rw [List.getElem_cons_zero] at hc2'
        have hc2 : w.cell? ⟨b2, o2, none⟩ = some (.string (strL x)) := hc2'
        clear hc2'
        have hcut2 : ∀ u, (Instr.slice 22 (.slice (some ⟨b2, o2, none⟩) nn cn) (some (.int .i64 1)) none none).run Try.prog u = .ok (.slice (cutA (some ⟨b2, o2, none⟩) cn 1) (nn - 1) (cn - 1)) u := fun u => cutS_from (some ⟨b2, o2, none⟩) nn cn 1 hnn0 u
        have HR := Lib.hid (Glb.mtB_one HA.out ps' x xs)
        clear hM hlt hxs
        generalize Glb.matchesB p.l x = A at *
        go_enter Try.func19, Try.ntmps19
        go_upto_region 12 with fail
        have hbd : Below w.heap.size w w.drew := ⟨rfl, rfl, rfl, Nat.le_refl _, fun _ _ => rfl⟩
        have HBd := Lib.hid hbd
        have C0 := Lib.hid (show w.drew.cell? ⟨b, o, none⟩ = some (.string (strL t)) from hc0)
        have C2 := Lib.hid (show w.drew.cell? ⟨b2, o2, none⟩ = some (.string (strL x)) from hc2)
        clear hbd
        refine wp_region_noPanic ?_
        refine wp_region_held_drew (S := (fun W' => Below w.drew.heap.size w.drew W')) (by kernel_rfl) (Below.refl _ _) (fun hS0 => ?_)
        refine takeV 0 (v := (.slice (some ⟨b, o, none⟩) n c)) rfl (by kernel_rfl) (by kernel_rfl) (by kernel_rfl) (fun _ _ _ h => h) (by rfl) (fun _ _ => rfl) (by assumption) ?_
        try simp only [layR]
        refine takeV 1 (v := (.pointer (some ⟨b, o, none⟩))) rfl (by kernel_rfl) (by kernel_rfl) (by kernel_rfl) (fun _ _ _ h => h) (by rfl) (fun W hSw => ?_) (by assumption) ?_
        · skip
          go_simp
        try simp only [layR]
        refine takeV 2 (v := (.string (strL t))) rfl (by kernel_rfl) (by kernel_rfl) (by kernel_rfl) (fun _ _ _ h => h) (by rfl) (fun W hSw => ?_) (by assumption) ?_
        · have c9 := (hSw.cell (p := ⟨b, o, none⟩) hbl).trans C0.out
          go_simp
        try simp only [layR]
        refine takeV 3 (v := (.slice (some ⟨b2, o2, none⟩) nn cn)) rfl (by kernel_rfl) (by kernel_rfl) (by kernel_rfl) (fun _ _ _ h => h) (by rfl) (fun _ _ => rfl) (by assumption) ?_
        try simp only [layR]
        refine takeV 4 (v := (.pointer (some ⟨b2, o2, none⟩))) rfl (by kernel_rfl) (by kernel_rfl) (by kernel_rfl) (fun _ _ _ h => h) (by rfl) (fun W hSw => ?_) (by assumption) ?_
        · skip
          go_simp
        try simp only [layR]
        refine takeV 5 (v := (.string (strL x))) rfl (by kernel_rfl) (by kernel_rfl) (by kernel_rfl) (fun _ _ _ h => h) (by rfl) (fun W hSw => ?_) (by assumption) ?_
        · have c9 := (hSw.cell (p := ⟨b2, o2, none⟩) hbl2).trans C2.out
          go_simp
        try simp only [layR]
        refine wpAnyH_ready (rs := [6]) (by kernel_rfl) (by simp) ?_
        refine AllReadyH.cons rfl (fun K' hK => ?_) AllReadyH.nil
        go_simp
        refine (HP.out _).mono ?_
        rintro e w1 ⟨rfl, hb1⟩
        refine hK.out _ _ hb1 (fun hS1 => ?_)
        try simp only
        refine takeV 7 (v := (.tuple #[.bool A, .int .i64 0])) rfl (by kernel_rfl) (by kernel_rfl) (by kernel_rfl) (fun _ _ _ h => h) (by rfl) (fun _ _ => rfl) (by assumption) ?_
        try simp only [layR]
        refine takeV 8 (v := (.bool A)) rfl (by kernel_rfl) (by kernel_rfl) (by kernel_rfl) (fun _ _ _ h => h) (by rfl) (fun W hSw => ?_) (by assumption) ?_
        · skip
          go_simp
        try simp only [layR]
        refine takeV 9 (v := (.int .i64 0)) rfl (by kernel_rfl) (by kernel_rfl) (by kernel_rfl) (fun _ _ _ h => h) (by rfl) (fun W hSw => ?_) (by assumption) ?_
        · skip
          go_simp
        try simp only [layR]
        refine takeV 10 (v := (.bool A)) rfl (by kernel_rfl) (by kernel_rfl) (by kernel_rfl) (fun _ _ _ h => h) (by rfl) (fun _ _ => rfl) (by assumption) ?_
        try simp only [layR]
        refine takeV 11 (v := (.int .i64 0)) rfl (by kernel_rfl) (by kernel_rfl) (by kernel_rfl) (fun _ _ _ h => h) (by rfl) (fun _ _ => rfl) (by assumption) ?_
        try simp only [layR]
        refine wpAnyH_done (by kernel_rfl) ?_ _
        refine NoPanic.normal ?_
        have HB1 := Lib.hid (HBd.out.then_ hS1)
        clear hS0 hS1 hb1
        go_upto_region 13 with fail
        have hbd2 : Below w1.heap.size w1 w1.drew := ⟨rfl, rfl, rfl, Nat.le_refl _, fun _ _ => rfl⟩
        have HBe := Lib.hid (HB1.out.then_ hbd2)
        have hc1 := HIh.out (cutA (some ⟨b, o, none⟩) c 1) (n - 1) (c - 1) xs (cutA (some ⟨b2, o2, none⟩) cn 1) (nn - 1) (cn - 1) w1.drew
            ((HX.out.on HBe.out).drop (l := 1) hn0 hnc) (by omega) ((HY.out.on HBe.out).drop (l := 1) hnn0 hncn) (by omega) (fun y hy => HS.out y (List.mem_cons_of_mem _ hy))
        have HC1 := Lib.hid hc1
        clear hbd2 hc1
        generalize Glb.mtB ps' xs = D at *
        refine wp_region_noPanic ?_
        refine wp_region_held_drew (S := (fun W' => Below w1.drew.heap.size w1.drew W')) (by kernel_rfl) (Below.refl _ _) (fun hS0 => ?_)
        cases A
        · refine takeV 0 (v := (.bool false)) rfl (by kernel_rfl) (by kernel_rfl) (by kernel_rfl) (fun _ _ _ h => h) (by rfl) (fun _ _ => rfl) (by assumption) ?_
          try simp only [layR]
          refine takeV 1 (v := (.bool false)) rfl (by kernel_rfl) (by kernel_rfl) (by kernel_rfl) (fun _ _ _ h => h) (by rfl) (fun _ _ => rfl) (by assumption) ?_
          try simp only [layR]
          refine takeNo 2 rfl (by kernel_rfl) (by kernel_rfl) (by kernel_rfl) (fun _ _ _ h => h) (by rfl) (by assumption) ?_
          try simp only [layR]
          refine takeNo 3 rfl (by kernel_rfl) (by kernel_rfl) (by kernel_rfl) (fun _ _ _ h => h) (by rfl) (by assumption) ?_
          try simp only [layR]
          refine takeNo 4 rfl (by kernel_rfl) (by kernel_rfl) (by kernel_rfl) (fun _ _ _ h => h) (by rfl) (by assumption) ?_
          try simp only [layR]
          refine takeNo 5 rfl (by kernel_rfl) (by kernel_rfl) (by kernel_rfl) (fun _ _ _ h => h) (by rfl) (by assumption) ?_
          try simp only [layR]
          refine takeNo 6 rfl (by kernel_rfl) (by kernel_rfl) (by kernel_rfl) (fun _ _ _ h => h) (by rfl) (by assumption) ?_
          try simp only [layR]
          refine takeV 7 (v := (.bool false)) rfl (by kernel_rfl) (by kernel_rfl) (by kernel_rfl) (fun _ _ _ h => h) (by rfl) (fun W hSw => ?_) (by assumption) ?_
          · skip
            go_simp
          try simp only [layR]
          refine takeV 8 (v := (.bool false)) rfl (by kernel_rfl) (by kernel_rfl) (by kernel_rfl) (fun _ _ _ h => h) (by rfl) (fun _ _ => rfl) (by assumption) ?_
          try simp only [layR]
          refine wpAnyH_done (by kernel_rfl) ?_ _
          refine NoPanic.normal ?_
          clear hS0
          go_wp2_with fail
          go_ret
          exact ⟨by rw [HR.out]; rfl, HBe.out⟩
        · refine takeV 0 (v := (.bool true)) rfl (by kernel_rfl) (by kernel_rfl) (by kernel_rfl) (fun _ _ _ h => h) (by rfl) (fun _ _ => rfl) (by assumption) ?_
          try simp only [layR]
          refine takeV 1 (v := (.bool true)) rfl (by kernel_rfl) (by kernel_rfl) (by kernel_rfl) (fun _ _ _ h => h) (by rfl) (fun _ _ => rfl) (by assumption) ?_
          try simp only [layR]
          refine takeV 2 (v := (.slice (some ⟨b, o, none⟩) n c)) rfl (by kernel_rfl) (by kernel_rfl) (by kernel_rfl) (fun _ _ _ h => h) (by rfl) (fun _ _ => rfl) (by assumption) ?_
          try simp only [layR]
          refine takeV 3 (v := (.slice (cutA (some ⟨b, o, none⟩) c 1) (n - 1) (c - 1))) rfl (by kernel_rfl) (by kernel_rfl) (by kernel_rfl) (fun _ _ _ h => h) (by rfl) (fun W hSw => ?_) (by assumption) ?_
          · skip
            go_simp
          try simp only [layR]
          refine takeV 4 (v := (.slice (some ⟨b2, o2, none⟩) nn cn)) rfl (by kernel_rfl) (by kernel_rfl) (by kernel_rfl) (fun _ _ _ h => h) (by rfl) (fun _ _ => rfl) (by assumption) ?_
          try simp only [layR]
          refine takeV 5 (v := (.slice (cutA (some ⟨b2, o2, none⟩) cn 1) (nn - 1) (cn - 1))) rfl (by kernel_rfl) (by kernel_rfl) (by kernel_rfl) (fun _ _ _ h => h) (by rfl) (fun W hSw => ?_) (by assumption) ?_
          · skip
            go_simp
          try simp only [layR]
          refine wpAnyH_ready (rs := [6]) (by kernel_rfl) (by simp) ?_
          refine AllReadyH.cons rfl (fun K' hK => ?_) AllReadyH.nil
          go_simp
          refine HC1.out.mono ?_
          rintro e w2 ⟨rfl, hb2⟩
          refine hK.out _ _ hb2 (fun hS1 => ?_)
          try simp only [layR]
          refine takeV 7 (v := (.bool D)) rfl (by kernel_rfl) (by kernel_rfl) (by kernel_rfl) (fun _ _ _ h => h) (by rfl) (fun W hSw => ?_) (by assumption) ?_
          · skip
            go_simp
          try simp only [layR]
          refine takeV 8 (v := (.bool D)) rfl (by kernel_rfl) (by kernel_rfl) (by kernel_rfl) (fun _ _ _ h => h) (by rfl) (fun _ _ => rfl) (by assumption) ?_
          try simp only [layR]
          refine wpAnyH_done (by kernel_rfl) ?_ _
          refine NoPanic.normal ?_
          have HB2 := Lib.hid (HBe.out.then_ hS1)
          clear hS0 hS1 hb2
          go_wp2_with fail
          go_ret
          exact ⟨by rw [HR.out]; rfl, HB2.out⟩
end Go.Proofs.Ytlnjfnpoabcllaa
