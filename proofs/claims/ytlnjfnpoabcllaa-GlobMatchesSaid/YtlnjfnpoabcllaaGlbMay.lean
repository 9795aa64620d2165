/-
  Match and May of a pattern.
-/
import Derived.Test.YtlnjfnpoabcllaaGlbPl
namespace Go.Proofs.Ytlnjfnpoabcllaa
open Go.RowKit

theorem step_execW {P : Program} {o : Oper} {w w' : World} {v : Value} {ops : Array Oper} {a : Act} {K : Act → World → Prop} {Q : Exit → Act → World → Prop} {E : Prop} (hw : Region.wanted o (yielded ops a.tmps) = true) (hrun : (execOp a.eval o).run P w = .ok (.value v) w') (h : K (a.put o.dst v) w') :
    if Region.wanted o (yielded ops a.tmps) = true then Oper.wp P o a w K Q else E := by
  rw [if_pos hw]
  unfold Oper.wp
  rw [hrun]
  exact h
theorem plF_end {ps : List Glb.Prt} {n : Nat} (h : ps.length = n) (ns : List (List UInt8)) : plF ps ns n = Glb.mt (ps.map Glb.abP) ns := by
  subst h
  unfold plF
  have := Glb.pl_end (ps.map Glb.abP) ns
  rw [List.length_map] at this
  exact this
set_option maxRecDepth 100000 in
set_option maxHeartbeats 4000000 in
theorem match_calls (B pb : Nat) (a : Option Addr) (n c : Nat) (ps : List Glb.Prt) (an : Option Addr) (nn cn : Nat) (names : List (List UInt8)) (w : World) (h : PatP B w pb a n c ps) (hB : B ≤ w.heap.size) (hx : Arr strV w w.heap.size an nn names) (hs : ∀ x ∈ names, x.length ≤ 1000) :
    Calls Try.prog 12 #[.pointer (some ⟨pb, 0, none⟩), .slice an nn cn] w fun e w' => e = .returned (.bool (Glb.mt (ps.map Glb.abP) names)) ∧ Below w.heap.size w w' := by
  have hbd : Below w.heap.size w w.drew := ⟨rfl, rfl, rfl, Nat.le_refl _, fun _ _ => rfl⟩
  have HBd := Lib.hid hbd
  have HPd := Lib.hid (h.on hbd hB)
  have HC := Lib.hid (places_calls B pb a n c ps an nn cn names w.drew (h.on hbd hB) hB (hx.on hbd) hs)
  obtain ⟨r, hr⟩ : ∃ r, r = Glb.mt (ps.map Glb.abP) names := ⟨_, rfl⟩
  rw [← hr]
  have HE := Lib.hid ((plF_end h.len names).trans hr.symm)
  have HRr := Lib.hid hr
  have hBd : B ≤ w.drew.heap.size := hB
  have hn := h.le
  clear h hx hs hbd hB hr
  go_enter Try.func12, Try.ntmps12
  go_wp2_with fail
  refine wp_region_noPanic ?_
  refine wp_region_held_drew (S := (fun W' => Below w.drew.heap.size w.drew W')) (by kernel_rfl) (Below.refl _ _) (fun hS0 => ?_)
  refine takeV 0 (v := (.pointer (some ⟨pb, 0, none⟩))) rfl (by kernel_rfl) (by kernel_rfl) (by kernel_rfl) (fun _ _ _ h => h) (by rfl) (fun _ _ => rfl) (by assumption) ?_
  try simp only [layR]
  refine takeV 1 (v := (.bool true)) rfl (by kernel_rfl) (by kernel_rfl) (by kernel_rfl) (fun _ _ _ h => h) (by rfl) (fun W hSw => ?_) (by assumption) ?_
  · skip
    go_simp
  try simp only [layR]
  refine takeV 2 (v := (.bool true)) rfl (by kernel_rfl) (by kernel_rfl) (by kernel_rfl) (fun _ _ _ h => h) (by rfl) (fun _ _ => rfl) (by assumption) ?_
  try simp only [layR]
  refine takeV 3 (v := (.pointer (some ⟨pb, 0, none⟩))) rfl (by kernel_rfl) (by kernel_rfl) (by kernel_rfl) (fun _ _ _ h => h) (by rfl) (fun _ _ => rfl) (by assumption) ?_
  try simp only [layR]
  refine takeV 4 (v := (.slice an nn cn)) rfl (by kernel_rfl) (by kernel_rfl) (by kernel_rfl) (fun _ _ _ h => h) (by rfl) (fun _ _ => rfl) (by assumption) ?_
  try simp only [layR]
  refine takeV 6 (v := (.pointer (some ⟨pb, 0, none⟩))) rfl (by kernel_rfl) (by kernel_rfl) (by kernel_rfl) (fun _ _ _ h => h) (by rfl) (fun _ _ => rfl) (by assumption) ?_
  try simp only [layR]
  refine takeV 7 (v := (.pointer (some ⟨pb, 0, none⟩))) rfl (by kernel_rfl) (by kernel_rfl) (by kernel_rfl) (fun _ _ _ h => h) (by rfl) (fun W hSw => ?_) (by assumption) ?_
  · skip
    go_simp
  try simp only [layR]
  refine takeV 8 (v := (.pointer (some ⟨pb, 0, none⟩))) rfl (by kernel_rfl) (by kernel_rfl) (by kernel_rfl) (fun _ _ _ h => h) (by rfl) (fun W hSw => ?_) (by assumption) ?_
  · skip
    go_simp
  try simp only [layR]
  refine takeV 9 (v := (.slice a n c)) rfl (by kernel_rfl) (by kernel_rfl) (by kernel_rfl) (fun _ _ _ h => h) (by rfl) (fun W hSw => ?_) (by assumption) ?_
  · have c9 := (HPd.out.on hSw hBd).blk.cellv (i := 0) rfl
    go_simp
  try simp only [layR]
  refine takeV 10 (v := (.int .i64 (n : Int))) rfl (by kernel_rfl) (by kernel_rfl) (by kernel_rfl) (fun _ _ _ h => h) (by rfl) (fun W hSw => ?_) (by assumption) ?_
  · skip
    go_simp
  try simp only [layR]
  refine wpAnyH_ready (rs := [5]) (by kernel_rfl) (by simp) ?_
  refine AllReadyH.cons rfl (fun K' hK => ?_) AllReadyH.nil
  go_simp
  refine HC.out.mono ?_
  rintro e w2 ⟨g, cc, rfl, ho, hb2⟩
  have hcell := (BoolsO.at_ ho (k := n) (by omega)).1
  have hidx1 : ¬ ((n : Int) + 1 ≤ (n : Int)) := by omega
  have hidx0 : (0 : Int) ≤ (n : Int) := by omega
  refine hK.out _ _ hb2 (fun hS1 => ?_)
  try simp only [layR]
  refine takeV 11 (v := (.pointer (some ⟨g, n, none⟩))) rfl (by kernel_rfl) (by kernel_rfl) (by kernel_rfl) (fun _ _ _ h => h) (by rfl) (fun W hSw => ?_) (by assumption) ?_
  · skip
    go_simp
  try simp only [layR]
  rw [HE.out] at hcell
  have hld : (Instr.loadAt 4 (.pointer (some ⟨g, n, none⟩))).run Try.prog w2 = .ok (.bool r) w2 := by go_simp
  refine wpAnyH_ready (rs := [12]) (by kernel_rfl) (by simp) ?_
  refine AllReadyH.cons rfl (fun K' hK => ?_) AllReadyH.nil
  refine step_execW (by rfl) (exec_load _ _ rfl hld) ?_
  refine hK.out _ _ hS1 (fun hS2 => ?_)
  try simp only
  refine takeV 13 (v := (.bool r)) rfl (by kernel_rfl) (by kernel_rfl) (by kernel_rfl) (fun _ _ _ h => h) (by rfl) (fun W hSw => ?_) (by assumption) ?_
  · skip
    go_simp
  try simp only
  refine takeV 14 (v := (.bool r)) rfl (by kernel_rfl) (by kernel_rfl) (by kernel_rfl) (fun _ _ _ h => h) (by rfl) (fun _ _ => rfl) (by assumption) ?_
  refine wpAnyH_done (by kernel_rfl) ?_ _
  refine NoPanic.normal ?_
  have HB2 := Lib.hid (HBd.out.then_ hb2)
  clear hS0 hS1 hS2 hb2 ho hld
  go_wp2_with fail
  go_ret
  exact ⟨rfl, HB2.out⟩
set_option maxRecDepth 100000 in
theorem match_nil (an : Option Addr) (nn cn : Nat) (w : World) :
    Calls Try.prog 12 #[.pointer none, .slice an nn cn] w fun e w' => e = .returned (.bool false) ∧ Below w.heap.size w w' := by
  have hbd : Below w.heap.size w w.drew := ⟨rfl, rfl, rfl, Nat.le_refl _, fun _ _ => rfl⟩
  have HBd := Lib.hid hbd
  clear hbd
  go_enter Try.func12, Try.ntmps12
  go_wp2_with fail
  refine wp_region_noPanic ?_
  refine wp_region_held_drew (S := (fun _ => True)) (by kernel_rfl) trivial (fun hS0 => ?_)
  refine takeV 0 (v := (.pointer none)) rfl (by kernel_rfl) (by kernel_rfl) (by kernel_rfl) (fun _ _ _ h => h) (by rfl) (fun _ _ => rfl) (by assumption) ?_
  try simp only [layR]
  refine takeV 1 (v := (.bool false)) rfl (by kernel_rfl) (by kernel_rfl) (by kernel_rfl) (fun _ _ _ h => h) (by rfl) (fun W hSw => ?_) (by assumption) ?_
  · skip
    go_simp
  try simp only [layR]
  refine takeV 2 (v := (.bool false)) rfl (by kernel_rfl) (by kernel_rfl) (by kernel_rfl) (fun _ _ _ h => h) (by rfl) (fun _ _ => rfl) (by assumption) ?_
  try simp only [layR]
  refine takeNo 3 rfl (by kernel_rfl) (by kernel_rfl) (by kernel_rfl) (fun _ _ _ h => h) (by rfl) (by assumption) ?_
  try simp only [layR]
  refine takeNo 4 rfl (by kernel_rfl) (by kernel_rfl) (by kernel_rfl) (fun _ _ _ h => h) (by rfl) (by assumption) ?_
  try simp only [layR]
  refine takeNo 5 rfl (by kernel_rfl) (by kernel_rfl) (by kernel_rfl) (fun _ _ _ h => h) (by rfl) (by assumption) ?_
  try simp only [layR]
  refine takeNo 6 rfl (by kernel_rfl) (by kernel_rfl) (by kernel_rfl) (fun _ _ _ h => h) (by rfl) (by assumption) ?_
  try simp only [layR]
  refine takeNo 7 rfl (by kernel_rfl) (by kernel_rfl) (by kernel_rfl) (fun _ _ _ h => h) (by rfl) (by assumption) ?_
  try simp only [layR]
  refine takeNo 8 rfl (by kernel_rfl) (by kernel_rfl) (by kernel_rfl) (fun _ _ _ h => h) (by rfl) (by assumption) ?_
  try simp only [layR]
  refine takeNo 9 rfl (by kernel_rfl) (by kernel_rfl) (by kernel_rfl) (fun _ _ _ h => h) (by rfl) (by assumption) ?_
  try simp only [layR]
  refine takeNo 10 rfl (by kernel_rfl) (by kernel_rfl) (by kernel_rfl) (fun _ _ _ h => h) (by rfl) (by assumption) ?_
  try simp only [layR]
  refine takeNo 11 rfl (by kernel_rfl) (by kernel_rfl) (by kernel_rfl) (fun _ _ _ h => h) (by rfl) (by assumption) ?_
  try simp only [layR]
  refine takeNo 12 rfl (by kernel_rfl) (by kernel_rfl) (by kernel_rfl) (fun _ _ _ h => h) (by rfl) (by assumption) ?_
  try simp only [layR]
  refine takeV 13 (v := (.bool false)) rfl (by kernel_rfl) (by kernel_rfl) (by kernel_rfl) (fun _ _ _ h => h) (by rfl) (fun W hSw => ?_) (by assumption) ?_
  · skip
    go_simp
  try simp only [layR]
  refine takeV 14 (v := (.bool false)) rfl (by kernel_rfl) (by kernel_rfl) (by kernel_rfl) (fun _ _ _ h => h) (by rfl) (fun _ _ => rfl) (by assumption) ?_
  try simp only [layR]
  refine wpAnyH_done (by kernel_rfl) ?_ _
  refine NoPanic.normal ?_
  go_wp2_with fail
  go_ret
  exact ⟨rfl, HBd.out⟩
theorem may_nil (an : Option Addr) (nn cn : Nat) (w : World) :
    Calls Try.prog 20 #[.pointer none, .slice an nn cn] w fun e w' => e = .returned (.bool false) ∧ Below w.heap.size w w' := by
  go_enter Try.func20, Try.ntmps20
  go_wp2_with fail
  go_ret
  exact ⟨rfl, Below.refl _ _⟩
/-- What May asks from the end down to place i. -/
def mayB (ps : List Glb.Prt) (ns : List (List UInt8)) : Bool := Glb.may (ps.map Glb.abP) (·.op) ns
def okF (ps : List Glb.Prt) (i : Nat) : Bool := Glb.okFrom (ps.map Glb.abP) (·.op) i
theorem okF_end {ps : List Glb.Prt} {n : Nat} (h : ps.length = n) : okF ps n = true := by
  subst h
  have := Glb.okFrom_end (ps.map Glb.abP) (·.op)
  rw [List.length_map] at this
  exact this
theorem okF_step {ps : List Glb.Prt} {i : Nat} (hi : i < ps.length) : okF ps i = ((ps[i].all || Glb.openB ps[i].l) && okF ps (i + 1)) := by
  have := Glb.okFrom_step (ps.map Glb.abP) (·.op) (i := i) (by rw [List.length_map]; exact hi)
  unfold okF
  rw [this, List.getElem_map]
  rfl
theorem mayB_yes {ps : List Glb.Prt} {ns : List (List UInt8)} {n i : Nat} (hn : ps.length = n) (hi : i ≤ n) (h1 : plF ps ns i = true) (h2 : okF ps i = true) : mayB ps ns = true :=
  (Glb.may_iff _ _ _).2 ⟨i, by rw [List.length_map, hn]; exact hi, h1, h2⟩
/-- No place from i on is one. -/
def mayNo (ps : List Glb.Prt) (ns : List (List UInt8)) (n i : Nat) : Prop := ∀ j, i ≤ j → j ≤ n → (plF ps ns j && okF ps j) = false
theorem mayB_no {ps : List Glb.Prt} {ns : List (List UInt8)} {n : Nat} (hn : ps.length = n) (h : mayNo ps ns n 0) : mayB ps ns = false := by
  rw [Bool.eq_false_iff]
  intro hh
  obtain ⟨i, hi, h1, h2⟩ := (Glb.may_iff _ _ _).1 hh
  rw [List.length_map, hn] at hi
  have := h i (Nat.zero_le _) hi
  rw [show plF ps ns i = true from h1, show okF ps i = true from h2] at this
  cases this
theorem mayNo_step {ps : List Glb.Prt} {ns : List (List UInt8)} {n i : Nat} (h : mayNo ps ns n (i + 1)) (h2 : (plF ps ns i && okF ps i) = false) : mayNo ps ns n i := fun j hj hn => by
  by_cases e : j = i
  · subst e; exact h2
  · exact h j (by omega) hn
set_option maxRecDepth 100000 in
set_option maxHeartbeats 8000000 in
theorem may_calls (B pb : Nat) (a : Option Addr) (n c : Nat) (ps : List Glb.Prt) (an : Option Addr) (nn cn : Nat) (names : List (List UInt8)) (w : World) (h : PatP B w pb a n c ps) (hB : B ≤ w.heap.size) (hx : Arr strV w w.heap.size an nn names) (hs : ∀ x ∈ names, x.length ≤ 1000) :
    Calls Try.prog 20 #[.pointer (some ⟨pb, 0, none⟩), .slice an nn cn] w fun e w' => e = .returned (.bool (mayB ps names)) ∧ Below w.heap.size w w' := by
  have HP := Lib.hid h
  have HC := Lib.hid (places_calls B pb a n c ps an nn cn names w h hB hx hs)
  have hn := h.le
  have HPL := Lib.hid h.len
  clear h hx hs
  go_enter Try.func20, Try.ntmps20
  go_wp2_with fail
  refine HC.out.mono ?_
  rintro e w2 ⟨g, cc, rfl, ho, hb⟩
  obtain ⟨L, hL⟩ : ∃ L, L = n + 1 := ⟨_, rfl⟩
  rw [← hL] at ho ⊢
  have hLn : n < L := by omega
  have HL := Lib.hid hL
  have HO := Lib.hid ho
  have HB := Lib.hid hb
  have c0 := (HP.out.on hb hB).blk.cellv (i := 0) rfl
  clear ho hb hL
  go_wp2_with fail
  go_loopw [6, 7] (fun gd i wr => ∃ m : Nat, m ≤ L ∧ i = .int .i64 ((m : Int) - 1) ∧ gd = .bool (okF ps m || decide (m = L)) ∧ mayNo ps names n m ∧ BoolsO wr w.heap.size (.slice (some ⟨g, 0, none⟩) L cc) (Glb.rowB L (plF ps names)) ∧ Below w.heap.size w wr) (fun _ i _ => (intOf i + 1).toNat)
  case atStart => exact ⟨L, Nat.le_refl _, by rw [HL.out]; congr 1; omega, by simp, fun j h1 h2 => by have := HL.out; omega, HO.out, HB.out⟩
  case round =>
    obtain ⟨m, hm, rfl, rfl, hno, ho, hb⟩ := hrel
    have HNo := Lib.hid hno
    have HO := Lib.hid ho
    have HB := Lib.hid hb
    have HPr := Lib.hid (HP.out.on hb hB)
    clear hno ho hb c0
    cases m with
    | zero =>
      have HF := Lib.hid (mayB_no HPL.out HNo.out)
      go_wp2_with fail
      go_ret
      exact ⟨by rw [HF.out]; rfl, HB.out⟩
    | succ m =>
      have e1 : (((m + 1 : Nat) : Int) - 1) = (m : Int) := by omega
      rw [e1]
      have c0 := HPr.out.blk.cellv (i := 0) rfl
      have hLl := HL.out
      have hmn : m ≤ n := by omega
      have g0 : (0 : Int) ≤ (m : Int) := by omega
      have g1 : (m : Int) < (L : Int) := by omega
      clear e1 hLl
      by_cases hlt : m < n
      · have g2 : decide ((m : Int) < (n : Int)) = true := decide_eq_true (by omega)
        have g3 : (m : Int) < (n : Int) := by omega
        have HD := Lib.hid (show decide (m + 1 = L) = false from decide_eq_false (by have := HL.out; omega))
        obtain ⟨bp, op, x, hk', rfl, hSb, hp, m0, m1⟩ := HPr.out.pat.at_ hlt
        have HSt := Lib.hid (okF_step hk')
        cases hall : ps[m].all
        · have hxa : x.all = false := hp.1.trans hall
          rw [hxa] at m0
          cases hok : okF ps (m + 1)
          · rw [HD.out, Bool.or_false]
            have HG := Lib.hid (show okF ps m = false by rw [HSt.out, hok, Bool.and_false])
            clear hp hall hxa hok
            obtain ⟨y0, _⟩ := BoolsO.at_ HO.out (k := m) (by omega)
            cases hy : plF ps names m
            · rw [hy] at y0
              have HN := Lib.hid (mayNo_step HNo.out (by rw [hy, HG.out]; rfl))
              clear hy
              go_wp2_with fail
              go_roundw
              case rel => exact ⟨m, by omega, rfl, by rw [HG.out, decide_eq_false (by omega)]; rfl, HN.out, HO.out, HB.out⟩
              case measure => simp [intOf]; try omega
            · rw [hy] at y0
              have HN := Lib.hid (mayNo_step HNo.out (by rw [hy, HG.out]; rfl))
              clear hy
              go_wp2_with fail
              go_roundw
              case rel => exact ⟨m, by omega, rfl, by rw [HG.out, decide_eq_false (by omega)]; rfl, HN.out, HO.out, HB.out⟩
              case measure => simp [intOf]; try omega
          · rw [HD.out, Bool.or_false]
            have HOp := Lib.hid (open_calls x ps[m] wr (hp.mono fun b' (hS : b' < B) => (by show b' < _; have := HB.out.size; omega)))
            rw [hxa] at HOp
            cases hop : Glb.openB ps[m].l
            · have HG := Lib.hid (show okF ps m = false by rw [HSt.out, hall, hop]; rfl)
              rw [hop] at HOp
              clear hp hall hxa hok hop
              go_wp2_with fail
              go_simp
              go_wp2_with fail
              first | (refine HOp.out.mono ?_) | (go_simp; go_wp2_with fail; refine HOp.out.mono ?_)
              rintro e w6 ⟨rfl, hb6⟩
              have HO6 := Lib.hid (Own.on HO.out hb6)
              have HB6 := Lib.hid (HB.out.then_ hb6)
              clear hb6
              obtain ⟨y0, _⟩ := BoolsO.at_ HO6.out (k := m) (by omega)
              cases hy : plF ps names m
              · rw [hy] at y0
                have HN := Lib.hid (mayNo_step HNo.out (by rw [hy, HG.out]; rfl))
                clear hy
                go_wp2_with fail
                go_roundw
                case rel => exact ⟨m, by omega, rfl, by rw [HG.out, decide_eq_false (by omega)]; rfl, HN.out, HO6.out, HB6.out⟩
                case measure => simp [intOf]; try omega
              · rw [hy] at y0
                have HN := Lib.hid (mayNo_step HNo.out (by rw [hy, HG.out]; rfl))
                clear hy
                go_wp2_with fail
                go_roundw
                case rel => exact ⟨m, by omega, rfl, by rw [HG.out, decide_eq_false (by omega)]; rfl, HN.out, HO6.out, HB6.out⟩
                case measure => simp [intOf]; try omega
            · have HG := Lib.hid (show okF ps m = true by rw [HSt.out, hall, hop, hok]; rfl)
              rw [hop] at HOp
              clear hp hall hxa hok hop
              go_wp2_with fail
              go_simp
              go_wp2_with fail
              first | (refine HOp.out.mono ?_) | (go_simp; go_wp2_with fail; refine HOp.out.mono ?_)
              rintro e w6 ⟨rfl, hb6⟩
              have HO6 := Lib.hid (Own.on HO.out hb6)
              have HB6 := Lib.hid (HB.out.then_ hb6)
              clear hb6
              obtain ⟨y0, _⟩ := BoolsO.at_ HO6.out (k := m) (by omega)
              cases hy : plF ps names m
              · rw [hy] at y0
                have HN := Lib.hid (mayNo_step HNo.out (by rw [hy, HG.out]; rfl))
                clear hy
                go_wp2_with fail
                go_roundw
                case rel => exact ⟨m, by omega, rfl, by rw [HG.out, decide_eq_false (by omega)]; rfl, HN.out, HO6.out, HB6.out⟩
                case measure => simp [intOf]; try omega
              · rw [hy] at y0
                have HY := Lib.hid (mayB_yes HPL.out (by omega) hy HG.out)
                clear hy
                go_wp2_with fail
                go_ret
                exact ⟨by rw [HY.out]; rfl, HB6.out⟩
        · have hxa : x.all = true := hp.1.trans hall
          rw [hxa] at m0
          cases hok : okF ps (m + 1)
          · rw [HD.out, Bool.or_false]
            have HG := Lib.hid (show okF ps m = false by rw [HSt.out, hok, Bool.and_false])
            clear hp hall hxa hok
            obtain ⟨y0, _⟩ := BoolsO.at_ HO.out (k := m) (by omega)
            cases hy : plF ps names m
            · rw [hy] at y0
              have HN := Lib.hid (mayNo_step HNo.out (by rw [hy, HG.out]; rfl))
              clear hy
              go_wp2_with fail
              go_roundw
              case rel => exact ⟨m, by omega, rfl, by rw [HG.out, decide_eq_false (by omega)]; rfl, HN.out, HO.out, HB.out⟩
              case measure => simp [intOf]; try omega
            · rw [hy] at y0
              have HN := Lib.hid (mayNo_step HNo.out (by rw [hy, HG.out]; rfl))
              clear hy
              go_wp2_with fail
              go_roundw
              case rel => exact ⟨m, by omega, rfl, by rw [HG.out, decide_eq_false (by omega)]; rfl, HN.out, HO.out, HB.out⟩
              case measure => simp [intOf]; try omega
          · rw [HD.out, Bool.or_false]
            have HG := Lib.hid (show okF ps m = true by rw [HSt.out, hok, hall]; rfl)
            clear hp hall hxa hok
            obtain ⟨y0, _⟩ := BoolsO.at_ HO.out (k := m) (by omega)
            cases hy : plF ps names m
            · rw [hy] at y0
              have HN := Lib.hid (mayNo_step HNo.out (by rw [hy, HG.out]; rfl))
              clear hy
              go_wp2_with fail
              go_roundw
              case rel => exact ⟨m, by omega, rfl, by rw [HG.out, decide_eq_false (by omega)]; rfl, HN.out, HO.out, HB.out⟩
              case measure => simp [intOf]; try omega
            · rw [hy] at y0
              have HY := Lib.hid (mayB_yes HPL.out (by omega) hy HG.out)
              clear hy
              go_wp2_with fail
              go_ret
              exact ⟨by rw [HY.out]; rfl, HB.out⟩
      · obtain rfl : m = n := by omega
        have g2 : decide ((m : Int) < (m : Int)) = false := decide_eq_false (by omega)
        have HG := Lib.hid (okF_end HPL.out)
        rw [show (okF ps (m + 1) || decide (m + 1 = L)) = true by rw [decide_eq_true (HL.out.symm), Bool.or_true]]
        obtain ⟨y0, _⟩ := BoolsO.at_ HO.out (k := m) (by omega)
        cases hy : plF ps names m
        · rw [hy] at y0
          have HN := Lib.hid (mayNo_step HNo.out (by rw [hy, HG.out]; rfl))
          clear hy
          go_wp2_with fail
          go_roundw
          case rel => exact ⟨m, by omega, rfl, by rw [HG.out, decide_eq_false (by omega)]; rfl, HN.out, HO.out, HB.out⟩
          case measure => simp [intOf]; try omega
        · rw [hy] at y0
          have HY := Lib.hid (mayB_yes HPL.out (by omega) hy HG.out)
          clear hy
          go_wp2_with fail
          go_ret
          exact ⟨by rw [HY.out]; rfl, HB.out⟩
end Go.Proofs.Ytlnjfnpoabcllaa
