/-
  The finder's put: a place noted at its key.
-/
import Derived.Test.YtpjjfehocibljaaSqzBest
import Derived.Test.YtpjjfehocibljaaSqzRun
namespace Go.Proofs.Ytpjjfehocibljaa
open Go.RowKit Go.Maps Go.ChangeMaps

namespace Sqz
theorem fits_key {b : List UInt8} {k : Nat} (hk : k + 2 < b.length) (x : Key3) : fits b x k = true ↔ x = keyAt b k := by
  unfold fits
  rw [Bool.and_eq_true, decide_eq_true_iff, beq_iff_eq]
  exact ⟨fun h => h.2.symm, fun h => ⟨hk, h.symm⟩⟩
theorem placesTo_key {b : List UInt8} {k : Nat} (hk : k + 2 < b.length) : placesTo b (k + 1) (keyAt b k) = placesTo b k (keyAt b k) ++ [k] := by
  rw [placesTo_succ, if_pos ((fits_key hk _).2 rfl)]
theorem placesTo_ne {b : List UInt8} {k : Nat} (hk : k + 2 < b.length) {x : Key3} (hx : x ≠ keyAt b k) : placesTo b (k + 1) x = placesTo b k x := by
  rw [placesTo_succ, if_neg (fun h => hx ((fits_key hk _).1 h))]
theorem placesTo_none {b : List UInt8} {k : Nat} (hk : ¬ k + 2 < b.length) (x : Key3) : placesTo b (k + 1) x = placesTo b k x := by
  rw [placesTo_succ, if_neg]
  intro h
  unfold fits at h
  rw [Bool.and_eq_true, decide_eq_true_iff] at h
  exact hk h.1
end Sqz
theorem Fnd.more {b : List UInt8} {k : Nat} {w : World} {M base : Nat} (h : Fnd b k w M base) (hk : ¬ k + 2 < b.length) : Fnd b (k + 1) w M base := by
  obtain ⟨l, h1, h2, h3, h4, h5⟩ := h
  exact ⟨l, h1, h2, fun x v hv => by rw [Sqz.placesTo_none hk]; exact h3 x v hv, fun x hx => by rw [Sqz.placesTo_none hk] at hx; exact h4 x hx, h5⟩
theorem Own.block_some {α : Type} {f : α → Value} {e : TypeId} {w : World} {base : Nat} {v : Value} {xs : List α} (h : Own f e w base v xs) (hn : xs ≠ []) : ∃ g, v.ownBlock = some g := by
  obtain ⟨g, c, rfl, _⟩ := h.form_some (List.length_pos_iff.2 hn)
  exact ⟨g, rfl⟩
/-- The entry of a key that is found, or laid; its store, later on. -/
theorem Fnd.entry {b : List UInt8} {k : Nat} {w : World} {M base : Nat} (h : Fnd b k w M base) (hk : k + 2 < b.length) :
    ∃ v st o, (Instr.mapEntry 40 (.map (some M)) (kvV (Sqz.keyAt b k))).run Try.prog w = .ok (.tuple #[v, st]) (setBlock w M o) ∧ Own natV 3 (setBlock w M o) base v (Sqz.placesTo b k (Sqz.keyAt b k)) ∧ w.grownBy (setBlock w M o) (some M) ∧
      ∀ w2 w3 v', (setBlock w M o).grownBy w2 none → w2.grownBy w3 v.ownBlock → (v'.ownBlock = v.ownBlock ∨ v'.ownBlock = some w2.heap.size) → Own natV 3 w3 base v' (Sqz.placesTo b k (Sqz.keyAt b k) ++ [k]) →
        ∃ o', (Instr.entryStore 40 (.map (some M)) st v').run Try.prog w3 = .ok () (setBlock w3 M o') ∧ Fnd b (k + 1) (setBlock w3 M o') M base ∧ w3.grownBy (setBlock w3 M o') (some M) := by
  obtain ⟨l, h1, h2, h3, h4, h5⟩ := h
  obtain ⟨kl, hkl⟩ := kvOf (Sqz.keyAt b k)
  obtain ⟨v, st, o, hrun, hv, hM, ⟨es1, cl1, ho⟩, hg, hback⟩ := h1.entry keyLaw Try.underlying40 (z := .slice none 0 0) (by kernel_rfl) hkl
  have hvo : Own natV 3 w base v (Sqz.placesTo b k (Sqz.keyAt b k)) := by
    rcases hv with hv | ⟨rfl, hv⟩
    · exact (h3 _ v hv).2
    · have : Sqz.placesTo b k (Sqz.keyAt b k) = [] := by
        by_cases hp : Sqz.placesTo b k (Sqz.keyAt b k) = []
        · exact hp
        · obtain ⟨u, hu⟩ := h4 _ hp
          exact absurd rfl (hv _ hu)
      rw [this]
      exact Own.nil _ _
  have notM : ∀ {W : World} {u : Value} {ys : List Nat}, Own natV 3 W base u ys → u.ownBlock ≠ some M := fun hu e => by have := (hu.blockLt M e).1; omega
  refine ⟨v, st, o, hrun, hvo.grown hg (.inr (notM hvo)), hg, fun w2 w3 v' hg2 hg3 hloc hown => ?_⟩
  have hM3 : w3.heap[M]? = some o := by
    have hlt : M < (setBlock w M o).heap.size := (Array.getElem?_eq_some_iff.1 hM).1
    rw [hg3.block M (Nat.lt_of_lt_of_le hlt hg2.size) (fun e => notM hvo e.symm), hg2.block M hlt (by simp), hM]
  obtain ⟨l', o', hrun', hP, hM', hg'⟩ := hback w3 v' hM3
  have hmem := hP.mem h1.nodup
  -- the others' rows
  have other : ∀ x u, x ≠ Sqz.keyAt b k → (kvV x, u) ∈ l → u.ownBlock ≠ v.ownBlock ∧ (∃ g, u.ownBlock = some g ∧ g < w.heap.size) := fun x u hx hu => by
    obtain ⟨hne, huo⟩ := h3 x u hu
    obtain ⟨g, hg⟩ := huo.block_some hne
    refine ⟨?_, g, hg, (huo.blockLt g hg).2⟩
    rcases hv with hv | ⟨rfl, _⟩
    · exact h5 _ _ _ _ hu hv hx
    · rw [hg]; simp [Value.ownBlock]
  refine ⟨o', hrun', ⟨l', hM', h2, fun x u hu => ?_, fun x hx => ?_, fun x y u u' hu hu' hxy => ?_⟩, hg'⟩
  · rcases (hmem _ _).1 hu with ⟨e1, rfl⟩ | ⟨e1, hu⟩
    · obtain rfl := kvV_inj e1
      rw [Sqz.placesTo_key hk]
      exact ⟨by simp, hown.grown hg' (.inr (notM hown))⟩
    · have hx : x ≠ Sqz.keyAt b k := fun e => e1 (by rw [e])
      rw [Sqz.placesTo_ne hk hx]
      obtain ⟨hne, huo⟩ := h3 x u hu
      obtain ⟨q1, _⟩ := other x u hx hu
      have u1 := huo.grown hg (.inr (notM huo))
      have u2 := u1.grown hg2 (by cases hb : u.ownBlock with | none => exact .inl rfl | some g => exact .inr (by simp))
      have u3 := u2.grown hg3 (.inr q1)
      exact ⟨hne, u3.grown hg' (.inr (notM u3))⟩
  · by_cases e : x = Sqz.keyAt b k
    · subst e
      exact ⟨v', (hmem _ _).2 (.inl ⟨rfl, rfl⟩)⟩
    · rw [Sqz.placesTo_ne hk e] at hx
      obtain ⟨u, hu⟩ := h4 x hx
      exact ⟨u, (hmem _ _).2 (.inr ⟨fun e2 => e (kvV_inj e2), hu⟩)⟩
  · have new : ∀ y u', y ≠ Sqz.keyAt b k → (kvV y, u') ∈ l → v'.ownBlock ≠ u'.ownBlock := fun y u' hy hu' e => by
      obtain ⟨q1, g, q2, q3⟩ := other y u' hy hu'
      rcases hloc with h6 | h6
      · exact q1 (by rw [← e, h6])
      · rw [h6, q2] at e
        injection e with e
        have := hg.size
        have := hg2.size
        omega
    rcases (hmem _ _).1 hu with ⟨e1, rfl⟩ | ⟨e1, hu⟩ <;> rcases (hmem _ _).1 hu' with ⟨e2, rfl⟩ | ⟨e2, hu'⟩
    · exact absurd ((kvV_inj e1).trans (kvV_inj e2).symm) hxy
    · obtain rfl := kvV_inj e1
      exact new y u' (fun e => hxy e.symm) hu'
    · obtain rfl := kvV_inj e2
      exact (new x u hxy hu).symm
    · exact h5 x y u u' hu hu' hxy
/-- What does not belong to the finder's map and its rows is as it was. -/
def NotRows (M base : Nat) (w w' : World) : Prop :=
  w'.os = w.os ∧ w'.tape = w.tape ∧ w'.output = w.output ∧ w.heap.size ≤ w'.heap.size ∧
    ∀ g, g < w.heap.size → g ≠ M → (g < base ∨ ∃ cs t fr, w.heap[g]? = some (.cells cs t fr) ∧ t ≠ 3) → w'.heap[g]? = w.heap[g]?
section
variable {M base : Nat} {w w1 w2 : World}
theorem NotRows.trans (h : NotRows M base w w1) (k : NotRows M base w1 w2) : NotRows M base w w2 := by
  obtain ⟨a1, a2, a3, a4, a5⟩ := h
  obtain ⟨b1, b2, b3, b4, b5⟩ := k
  refine ⟨b1.trans a1, b2.trans a2, b3.trans a3, Nat.le_trans a4 b4, fun g hg hM hc => ?_⟩
  have e := a5 g hg hM hc
  rw [b5 g (by omega) hM (by rw [e]; exact hc), e]
theorem NotRows.grown {r : Option Nat} (hg : w.grownBy w1 r) (hr : ∀ g, r = some g → g = M ∨ (base ≤ g ∧ ∃ cs fr, w.heap[g]? = some (.cells cs 3 fr))) : NotRows M base w w1 :=
  ⟨hg.os, hg.tape, hg.output, hg.size, fun g hlt hM hc => hg.block g hlt (fun e => by
    rcases hr g e.symm with h | ⟨h1, cs, fr, h2⟩
    · exact hM h
    · rcases hc with h3 | ⟨cs', t, fr', h3, h4⟩
      · omega
      · rw [h2] at h3
        injection h3 with h3
        injection h3 with _ h3
        exact h4 h3.symm)⟩
theorem NotRows.of_below (h : Below w.heap.size w w1) : NotRows M base w w1 := NotRows.grown (grownNone_of_below h) (fun g e => by cases e)
theorem NotRows.row {α : Type} {f : α → Value} {v : Value} {xs : List α} (ho : Own f 3 w base v xs) (hg : w.grownBy w1 v.ownBlock) : NotRows M base w w1 := NotRows.grown hg fun g e => by
  rcases ho.2 with ⟨rfl, _⟩ | ⟨g', cap, cur, rfl, hb, hh, _⟩
  · cases e
  · have : g' = g := by simpa [Value.ownBlock] using e
    subst this
    exact .inr ⟨hb, _, _, hh⟩
theorem NotRows.below {B : Nat} (h : NotRows M base w w1) (hM : B ≤ M) (hb : B ≤ base) (hB : B ≤ w.heap.size) : Below B w w1 :=
  ⟨h.1, h.2.1, h.2.2.1, h.2.2.2.1, fun k hk => h.2.2.2.2 k (by omega) (by omega) (.inl (by omega))⟩
theorem NotRows.blk {g : Nat} {t : TypeId} {cs : Array Value} (h : NotRows M base w w1) (hb : Blk w g t cs) (hM : g ≠ M) (ht : t ≠ 3) : Blk w1 g t cs :=
  (h.2.2.2.2 g hb.lt hM (.inr ⟨_, _, _, hb, ht⟩)).trans hb
theorem NotRows.own {α : Type} {f : α → Value} {e : TypeId} {B : Nat} {v : Value} {xs : List α} (h : NotRows M base w w1) (ho : Own f e w B v xs) (hM : v.ownBlock ≠ some M) (ht : e ≠ 3) : Own f e w1 B v xs := by
  refine ⟨ho.1, ?_⟩
  rcases ho.2 with h2 | ⟨g, cap, cur, hv, hgb, hg, r⟩
  · exact .inl h2
  · exact .inr ⟨g, cap, cur, hv, hgb, (h.2.2.2.2 g (heap_lt hg) (fun e => hM (by rw [hv, e]; rfl)) (.inr ⟨_, _, _, hg, ht⟩)).trans hg, r⟩
end
theorem infoI : (Try.prog.info? 3).map (fun i => (i.zero, i.size, i.bytes)) = some (some (.int .i64 0), 1, 8) := by kernel_rfl
/-- append onto numbers of the call's own, at a step of a region that draws its order. -/
theorem step_appN {w : World} {ops : Array Oper} {o : Oper} {a : Act} {K : Act → World → Prop} {Q : Exit → Act → World → Prop} {E : Prop} (hgd : o.guard = none) (s x : Operand)
    (ho : o.op = .call { callee := .builtin .append, args := #[s, x], argTypes := #[53, 53] }) (base : Nat)
    (v : Value) (xs : List Nat) (hs : a.eval s = v) (hown : Own natV 3 w base v xs) (B : Nat) (ad : Option Addr) (m c : Nat) (ys : List Nat) (hx : a.eval x = .slice ad m c) (hy : Arr natV w B ad m ys)
    (hbytes : xs.length + m ≤ 10000000000000) (hbase : base ≤ w.heap.size)
    (h : ∀ v' w', Hid (Own natV 3 w' base v' (xs ++ ys)) → Hid (w.grownBy w' v.ownBlock) → Hid (v'.ownBlock = v.ownBlock ∨ v'.ownBlock = some w.heap.size) → K (a.put o.dst v') w') :
    if Region.wanted o (yielded ops a.tmps) = true then Oper.wp Try.prog o a w K Q else E := by
  have hw : Region.wanted o (yielded ops a.tmps) = true := by simp [Region.wanted, hgd]
  rw [if_pos hw]
  obtain ⟨i0, hi, hz0, hz1, hz2⟩ := info_parts infoI
  exact wp_append_Own s x 53 ho base 3 i0 _ 8 Try.underlying53 hi hz0 hz1 hz2 rfl natV_one v xs hs hown B ad m c ys hx hy (by omega) (by simp only [maxLen]; omega) hbase fun v' w' h1 h2 h3 => h v' w' (Lib.hid h1) (Lib.hid h2) (Lib.hid h3)
def PutR (b : List UInt8) (k M base : Nat) (w : World) (e : Ending) (w' : World) : Prop := (∃ v, e = .returned v) ∧ Fnd b (k + 1) w' M base ∧ NotRows M base w w'
set_option maxRecDepth 100000 in
set_option maxHeartbeats 4000000 in
theorem put_calls (C M base : Nat) (ad : Option Addr) (n c k : Nat) (b : List UInt8) (w : World) (hx : Bytes w w.heap.size ad n b) (hnc : n ≤ c) (hn : n ≤ 65536) (hC : Blk w C 42 #[.slice ad n c, .map (some M)]) (hF : Fnd b k w M base) (hbase : base ≤ w.heap.size) (hk : k < n) :
    Calls Try.prog 19 #[.pointer (some ⟨C, 0, none⟩), .int .i64 (k : Int)] w (PutR b k M base w) := by
  have HL := Lib.hid hx.len
  have c0 := hC.cellv (i := 0) rfl
  by_cases hs : k + 2 < n
  case neg =>
    have HR := Lib.hid (hF.more (by rw [HL.out]; exact hs))
    have g1 : decide ((k : Int) + 3 ≤ (n : Int)) = false := decide_eq_false (by omega)
    clear hF hs
    go_enter Try.func19, Try.ntmps19
    go_wp2
    go_end0
    exact ⟨⟨_, rfl⟩, HR.out, NotRows.of_below (Below.refl _ _)⟩
  have hcut := cutB_mid ad n c k (k + 3) (by omega) (by omega)
  rw [show k + 3 - k = 3 by omega, show ((k + 3 : Nat) : Int) = (k : Int) + 3 by omega] at hcut
  obtain ⟨b1, o1, hk1, rfl, hbl1, hc1⟩ := hx.at_ (k := k) (by omega)
  obtain ⟨b2, o2, hk2, he2, _, hc2⟩ := hx.at_ (k := k + 1) (by omega)
  obtain ⟨b3, o3, hk3, he3, _, hc3⟩ := hx.at_ (k := k + 2) (by omega)
  simp only [Option.some.injEq, Addr.mk.injEq, and_true] at he2 he3
  obtain ⟨rfl, rfl⟩ := he2
  obtain ⟨rfl, rfl⟩ := he3
  rw [cutA, if_neg (by omega), Option.map_some, Addr.add_mid] at hcut
  have HKey := Lib.hid (show Sqz.keyAt b k = (b[k], b[k + 1], b[k + 2]) by
    unfold Sqz.keyAt
    rw [List.getD_eq_getElem?_getD, List.getD_eq_getElem?_getD, List.getD_eq_getElem?_getD, List.getElem?_eq_getElem hk1, List.getElem?_eq_getElem hk2, List.getElem?_eq_getElem hk3]
    rfl)
  have g1 : decide ((k : Int) + 3 ≤ (n : Int)) = true := decide_eq_true (by omega)
  have hent := Lib.hid (fun (W : World) (hb : Below w.heap.size w W) => (hF.on hb).entry (by rw [HL.out]; exact hs))
  rw [HKey.out] at hent
  generalize b[k] = x0 at *
  generalize b[k + 1] = x1 at *
  generalize b[k + 2] = x2 at *
  have hpl := Sqz.placesTo_len b k (x0, x1, x2)
  have hMb : M < base := by obtain ⟨_, _, h, _⟩ := hF; exact h
  have HC := Lib.hid hC
  have harr := arrayAtKey (some ⟨b1, o1 + k, none⟩) (c - k)
  have hc2' : w.cell? ⟨b1, o1 + k + 1, none⟩ = some (.int .u8 (x1.toNat : Int)) := hc2
  have hc3' : w.cell? ⟨b1, o1 + k + 2, none⟩ = some (.int .u8 (x2.toNat : Int)) := hc3
  have hCM : C ≠ M := by
    obtain ⟨l, h1, _⟩ := hF
    obtain ⟨es, cl, h2, _⟩ := h1
    rintro rfl
    unfold Blk at hC
    rw [hC] at h2
    cases h2
  clear hx hF hC hc2 hc3 HKey
  go_enter Try.func19, Try.ntmps19
  go_wp2_with fail
  have hb1 := (Below.refl w.heap.size w).alloc (Nat.le_refl _) (.cells #[.int .u8 (x0.toNat : Int), .int .u8 (x1.toNat : Int), .int .u8 (x2.toNat : Int)] 55)
  have HK1 := Lib.hid (Blk.new w 55 #[.int .u8 (x0.toNat : Int), .int .u8 (x1.toNat : Int), .int .u8 (x2.toNat : Int)])
  have HC1 := Lib.hid (HC.out.alloc (.cells #[.int .u8 (x0.toNat : Int), .int .u8 (x1.toNat : Int), .int .u8 (x2.toNat : Int)] 55))
  generalize w.alloc (.cells #[.int .u8 (x0.toNat : Int), .int .u8 (x1.toNat : Int), .int .u8 (x2.toNat : Int)] 55) = w1 at *
  have HB1 := Lib.hid hb1
  have hs1 := hb1.size
  clear hb1 c0 hc1 hc2' hc3' hcut harr
  refine wp_region_noPanic ?_
  refine wp_region_held_drew (S := (fun W' => Blk W' C 42 #[.slice (some ⟨b1, o1, none⟩) n c, .map (some M)] ∧ Blk W' w.heap.size 55 #[.int .u8 (x0.toNat : Int), .int .u8 (x1.toNat : Int), .int .u8 (x2.toNat : Int)])) (by kernel_rfl) ⟨HC1.out, HK1.out⟩ (fun hS0 => ?_)
  refine takeV 0 (v := (.pointer (some ⟨C, 0, none⟩))) rfl (by kernel_rfl) (by kernel_rfl) (by kernel_rfl) (fun _ _ _ h => h) (by rfl) (fun W hSw => ?_) (by assumption) ?_
  · skip
    go_simp
  try simp only [layR]
  refine takeV 1 (v := (.pointer (some ⟨C, 0, none⟩))) rfl (by kernel_rfl) (by kernel_rfl) (by kernel_rfl) (fun _ _ _ h => h) (by rfl) (fun W hSw => ?_) (by assumption) ?_
  · skip
    go_simp
  try simp only [layR]
  refine takeV 2 (v := (.pointer (some ⟨C, 1, none⟩))) rfl (by kernel_rfl) (by kernel_rfl) (by kernel_rfl) (fun _ _ _ h => h) (by rfl) (fun W hSw => ?_) (by assumption) ?_
  · skip
    go_simp
  try simp only [layR]
  refine takeV 3 (v := (.map (some M))) rfl (by kernel_rfl) (by kernel_rfl) (by kernel_rfl) (fun _ _ _ h => h) (by rfl) (fun W hSw => ?_) (by assumption) ?_
  · have c := hSw.1.cellv (i := 1) rfl
    go_simp
  try simp only [layR]
  refine takeV 4 (v := (kvV (x0, x1, x2))) rfl (by kernel_rfl) (by kernel_rfl) (by kernel_rfl) (fun _ _ _ h => h) (by rfl) (fun W hSw => exec_load _ _ rfl (loadKey (g := w.heap.size) (o := 0) (hSw.2.cellv (i := 0) rfl) (hSw.2.cellv (i := 1) rfl) (hSw.2.cellv (i := 2) rfl))) (by assumption) ?_
  try simp only [layR]
  refine takeV 5 (v := (.int .i64 (k : Int))) rfl (by kernel_rfl) (by kernel_rfl) (by kernel_rfl) (fun _ _ _ h => h) (by rfl) (fun W hSw => ?_) (by assumption) ?_
  · skip
    go_simp
  try simp only [layR]
  refine wpAnyH_ready (rs := [6]) (by kernel_rfl) (by simp) ?_
  refine AllReadyH.cons rfl (fun K' hK => ?_) AllReadyH.nil
  go_simp
  have hb2 := HB1.out.then_ (((Below.refl w1.heap.size w1).alloc (Nat.le_refl _) (.cells #[.int .i64 (k : Int)] 3)).drew)
  have hk2 : Arr natV (w1.alloc (.cells #[.int .i64 (k : Int)] 3)).drew (w1.alloc (.cells #[.int .i64 (k : Int)] 3)).drew.heap.size (some ⟨w1.heap.size, 0, none⟩) 1 [k] := Arr.lit w1 3 [k] 1 rfl (by omega) rfl
  have hc2 : Blk (w1.alloc (.cells #[.int .i64 (k : Int)] 3)).drew C 42 #[.slice (some ⟨b1, o1, none⟩) n c, .map (some M)] := HC1.out.alloc _
  have hkb2 : Blk (w1.alloc (.cells #[.int .i64 (k : Int)] 3)).drew w.heap.size 55 #[.int .u8 (x0.toNat : Int), .int .u8 (x1.toNat : Int), .int .u8 (x2.toNat : Int)] := HK1.out.alloc _
  refine hK.out _ _ ⟨hc2, hkb2⟩ (fun hS1 => ?_)
  try simp only [layR]
  clear hS0
  generalize (w1.alloc (.cells #[.int .i64 (k : Int)] 3)).drew = W2 at *
  have hsW := hb2.size
  obtain ⟨v, st, o, hrun, hvo, hg, hback⟩ := hent.out W2 hb2
  refine wpAnyH_ready (rs := [7]) (by kernel_rfl) (by simp) ?_
  refine AllReadyH.cons rfl (fun K' hK => ?_) AllReadyH.nil
  refine step_exec rfl (exec_mapEntry _ _ _ rfl hrun) ?_
  refine hK.out _ _ ⟨hc2.grown hg (by simpa using hCM), hkb2.grown hg (by simp; omega)⟩ (fun hS2 => ?_)
  try simp only [layR]
  have hk3 : Arr natV (setBlock W2 M o) w1.heap.size.succ (some ⟨w1.heap.size, 0, none⟩) 1 [k] := by
    obtain ⟨q1, q2, q3⟩ := hk2
    refine ⟨q1, q2, fun hn => ?_⟩
    obtain ⟨g, o', e1, e2, e3⟩ := q3 hn
    simp only [Option.some.injEq, Addr.mk.injEq, and_true] at e1
    obtain ⟨rfl, rfl⟩ := e1
    exact ⟨_, _, rfl, Nat.lt_succ_self _, fun i hi => (World.cell?_of_block (a := ⟨w1.heap.size, 0 + i, none⟩) (hg.block w1.heap.size e2 (by simp; omega))).trans (e3 i hi)⟩
  have hsz3 := hg.size
  refine takeV 8 (v := v) rfl (by kernel_rfl) (by kernel_rfl) (by kernel_rfl) (fun _ _ _ h => h) (by rfl) (fun _ _ => rfl) (by assumption) ?_
  refine takeV 10 (v := st) rfl (by kernel_rfl) (by kernel_rfl) (by kernel_rfl) (fun _ _ _ h => h) (by rfl) (fun _ _ => rfl) (by assumption) ?_
  refine wpAnyH_ready (rs := [9]) (by kernel_rfl) (by simp) ?_
  refine AllReadyH.cons rfl (fun K' hK => ?_) AllReadyH.nil
  refine step_appN rfl _ _ rfl base v _ rfl hvo _ (some ⟨w1.heap.size, 0, none⟩) 1 1 [k] rfl hk3 (by omega) (by omega) ?_
  intro v' w3 HO3 HG3 HL3
  refine hK.out _ _ ⟨(hS2.1.grown HG3.out (fun e => Blk.notOwn hvo hS2.1 (by decide) e.symm)), (hS2.2.grown HG3.out (fun e => Blk.notOwn hvo hS2.2 (by decide) e.symm))⟩ (fun hS3 => ?_)
  obtain ⟨o', hrun', hF', hg'⟩ := hback _ w3 v' (World.grownBy.refl _ _) HG3.out HL3.out HO3.out
  refine wpAnyH_ready (rs := [11]) (by kernel_rfl) (by simp) ?_
  refine AllReadyH.cons rfl (fun K' hK => ?_) AllReadyH.nil
  refine step_skip rfl (exec_entryStore _ _ _ _ rfl hrun') ?_
  refine hK.out _ _ ⟨hS3.1.grown hg' (by simpa using hCM), hS3.2.grown hg' (by simp; omega)⟩ (fun hS4 => ?_)
  have HF := Lib.hid hF'
  have HN : Hid (NotRows M base w (setBlock w3 M o')) := Lib.hid ((((NotRows.of_below hb2).trans (NotRows.grown hg (fun g e => .inl (by injection e with e; exact e.symm)))).trans (NotRows.row hvo HG3.out)).trans (NotRows.grown hg' (fun g e => .inl (by injection e with e; exact e.symm))))
  refine wpAnyH_done (by kernel_rfl) ?_ _
  refine NoPanic.normal ?_
  clear hF' hg' hrun' hback hrun hent hS1 hS2 hS3 hS4 hvo hk2 hk3 hc2 hkb2
  go_wp2
  go_end0
  exact ⟨⟨_, rfl⟩, HF.out, HN.out⟩
end Go.Proofs.Ytpjjfehocibljaa
