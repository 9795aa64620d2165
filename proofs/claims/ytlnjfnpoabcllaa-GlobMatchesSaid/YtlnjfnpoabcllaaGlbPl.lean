/-
  places: where a pattern may stand behind names.
-/
import Derived.Test.YtlnjfnpoabcllaaGlbPlaces
import Derived.Test.YtlnjfnpoabcllaaBytes
namespace Go.Proofs.Ytlnjfnpoabcllaa
open Go.RowKit

theorem infoBool : (Try.prog.info? 4).map (fun i => (i.zero, i.size, i.bytes)) = some (some (.bool false), 1, 1) := by kernel_rfl
theorem makeL (L : Nat) (z : Int) (hz : z = (L : Int)) (h : L ≤ 1000000) (u : World) : (Instr.makeSlice 51 (.int .i64 z) (.int .i64 z)).run Try.prog u =
    .ok (.slice (some ⟨u.heap.size, 0, none⟩) L L) (u.alloc (.cells ((Glb.rowB L (fun _ => false)).map boolV).toArray 4)) := by
  subst hz
  obtain ⟨i0, hi, hz0, hz1, hz2⟩ := info_parts infoBool
  have h := run_make (P := Try.prog) u 51 4 i0 (.bool false) Try.underlying51 hi hz0 .i64 .i64 (L : Int) (L : Int) (by omega) (Int.le_refl _) (by rw [hz2]; omega) (by omega)
  rw [Int.toNat_natCast, hz1, Nat.mul_one] at h
  refine h.trans ?_
  rw [show Value.cells (.bool false) = #[.bool false] from rfl, madeCells_one]
  congr 3
  unfold Glb.rowB
  rw [List.map_map]
  apply congrArg
  apply List.ext_getElem
  · simp
  · intro i h1 h2
    simp [boolV]
theorem madeL (L : Nat) (w : World) (base : Nat) (hb : base ≤ w.heap.size) (h : L ≤ 1000000) : BoolsO (w.alloc (.cells ((Glb.rowB L (fun _ => false)).map boolV).toArray 4)) base (.slice (some ⟨w.heap.size, 0, none⟩) L L) (Glb.rowB L (fun _ => false)) := by
  have h := Own.made (f := boolV) (e := 4) (w := w) (xs := Glb.rowB L (fun _ => false)) hb (by rw [Glb.rowB_len]; simp only [maxLen]; omega)
  rw [Glb.rowB_len] at h
  exact h
theorem Arr.atS {w : World} {B : Nat} {a : Option Addr} {n : Nat} {xs : List (List UInt8)} (h : Arr strV w B a n xs) {k : Nat} (hk : k < n) :
    ∃ b o, ∃ h' : k < xs.length, a = some ⟨b, o, none⟩ ∧ b < B ∧ w.cell? ⟨b, o + k, none⟩ = some (.string (strL xs[k])) := h.atv hk
/-- Where the pattern may stand behind the first names. -/
def plF (ps : List Glb.Prt) (ns : List (List UInt8)) (i : Nat) : Bool := Glb.pl (ps.map Glb.abP) i ns
theorem plF_start {ps : List Glb.Prt} {L : Nat} (hL : L = ps.length + 1) (i : Nat) (hi : i < L) : Glb.sk (Glb.isAll (ps.map Glb.abP)) (fun j => if j = 0 then true else false) i = plF ps [] i := by
  have e : (fun j => if j = 0 then true else false) = (fun j : Nat => j == 0) := by
    funext j
    cases j <;> rfl
  rw [e, Glb.sk_start _ i (by rw [List.length_map]; omega)]
  rfl
theorem sk_congr {A f f' : Nat → Bool} {i : Nat} (h : ∀ j, j ≤ i → f j = f' j) : Glb.sk A f i = Glb.sk A f' i := by
  induction i with
  | zero => exact h 0 (Nat.le_refl _)
  | succ i ih => rw [Glb.sk, Glb.sk, h (i + 1) (Nat.le_refl _), ih fun j hj => h j (by omega)]
theorem plF_next {ps : List Glb.Prt} {L : Nat} (hL : L = ps.length + 1) (ns : List (List UInt8)) (s : List UInt8) (i : Nat) (hi : i < L) : Glb.sk (Glb.isAll (ps.map Glb.abP)) (Glb.nxt (ps.map Glb.abP) s (plF ps ns) ps.length) i = plF ps (ns ++ [s]) i := by
  unfold plF
  rw [← Glb.sk_next _ ns s i (by rw [List.length_map]; omega)]
  refine sk_congr fun j hj => ?_
  have h := Glb.nxt_end (ps.map Glb.abP) ns s j (by rw [List.length_map]; omega)
  rw [List.length_map] at h
  exact h
set_option maxRecDepth 100000 in
set_option maxHeartbeats 16000000 in
theorem places_calls (B pb : Nat) (a : Option Addr) (n c : Nat) (ps : List Glb.Prt) (an : Option Addr) (nn cn : Nat) (names : List (List UInt8)) (w : World) (h : PatP B w pb a n c ps) (hB : B ≤ w.heap.size) (hx : Arr strV w w.heap.size an nn names) (hs : ∀ x ∈ names, x.length ≤ 1000) :
    Calls Try.prog 27 #[.pointer (some ⟨pb, 0, none⟩), .slice an nn cn] w fun e w' => ∃ g cc, e = .returned (.slice (some ⟨g, 0, none⟩) (n + 1) cc) ∧ BoolsO w' w.heap.size (.slice (some ⟨g, 0, none⟩) (n + 1) cc) (Glb.rowB (n + 1) (plF ps names)) ∧ Below w.heap.size w w' := by
  have HP := Lib.hid h
  have c0 := h.blk.cellv (i := 0) rfl
  have hpb := h.blk.lt
  have hn := h.le
  have hpl := h.len
  have HPL := Lib.hid hpl
  have HX := Lib.hid hx
  have HXL := Lib.hid hx.len
  have HS := Lib.hid hs
  have hnr := hx.room
  obtain ⟨L, hL⟩ : ∃ L, L = n + 1 := ⟨_, rfl⟩
  rw [← hL]
  have HL := Lib.hid hL
  have hL2 : n < L := by omega
  have hL3 : L ≤ 1001 := by omega
  have hmk := makeL L ((n : Int) + 1) (by omega) (by omega)
  have HMk := Lib.hid hmk
  clear h hpl hx hs hL
  go_enter Try.func27, Try.ntmps27
  go_upto_region 2 with fail
  clear hmk
  have hbm := (Below.refl w.heap.size w).alloc (Nat.le_refl _) (.cells ((Glb.rowB L (fun _ => false)).map boolV).toArray 4)
  have ho1 := madeL L w w.heap.size (Nat.le_refl _) (by omega)
  have HB1 := Lib.hid hbm
  have HP1 := Lib.hid (HP.out.on hbm hB)
  have hs1 : (w.alloc (.cells ((Glb.rowB L (fun _ => false)).map boolV).toArray 4)).heap.size = w.heap.size + 1 := by simp
  obtain ⟨H, hH⟩ : ∃ H, H = w.heap.size := ⟨_, rfl⟩
  rw [← hH] at HX HB1 ho1 hs1 hB hpb ⊢
  obtain ⟨w1, hw1⟩ : ∃ w1, w1 = w.alloc (.cells ((Glb.rowB L (fun _ => false)).map boolV).toArray 4) := ⟨_, rfl⟩
  rw [← hw1] at HB1 HP1 ho1 hs1 ⊢
  have HHw := Lib.hid hH
  obtain ⟨_, f0⟩ := BoolsO.at_ ho1 (k := 0) (by omega)
  have g0 : (0 : Int) < (L : Int) := by omega
  have hput := (Below.refl H w1).setCell (p := ⟨H, 0, none⟩) (Nat.le_refl _) (.bool true)
  have HSk := Lib.hid (skip_calls B pb a n c ps H H L L _ (w1.setCell ⟨H, 0, none⟩ (.bool true)) (HP1.out.on hput hB) hB HL.out (BoolsO.put ho1 0 true))
  have HB2 := Lib.hid (HB1.out.trans hput)
  clear hw1 hH hbm ho1 hput c0
  go_wp2_with fail
  refine HSk.out.mono ?_
  rintro e w3 ⟨rfl, ho3, hb3⟩
  have HO3 := Lib.hid (BoolsO.same ho3 (f' := plF ps []) (fun i hi => plF_start (by rw [HPL.out]; exact HL.out) i hi))
  have HB3 := Lib.hid (HB2.out.trans hb3)
  clear ho3 hb3 HSk HB2 f0
  have HPw := Lib.hid (fun (u : World) (hu : Below H w u) => HP.out.on hu hB)
  have HsB := Lib.hid (fun (u : World) (hu : Below H w u) => (by have := hu.size; have := HHw.out; omega : H ≤ u.heap.size))
  have HXw := Lib.hid (fun (u : World) (hu : Below H w u) => (HX.out.below hu : Arr strV u H an nn names))
  clear HP1 HB1 HP
  go_wp2_with fail
  go_loopw [5, 7, 8, 9, 10, 25] (fun v _ _ _ _ i wr => ∃ (q g cc : Nat), q ≤ nn ∧ i = .int .i64 q ∧ v = .slice (some ⟨g, 0, none⟩) L cc ∧ BoolsO wr H (.slice (some ⟨g, 0, none⟩) L cc) (Glb.rowB L (plF ps (names.take q))) ∧ Below H w wr) (fun _ _ _ _ _ i _ => nn - (intOf i).toNat)
  case atStart => exact ⟨0, H, L, by omega, rfl, rfl, HO3.out, HB3.out⟩
  case round =>
    obtain ⟨q, g, cc, hq, rfl, rfl, ho, hb⟩ := hrel
    have HO := Lib.hid ho
    have HB := Lib.hid hb
    have hsz := hb.size
    obtain ⟨hgH, hgl⟩ := Own.blockLt ho g rfl
    clear ho hb HO3 HB3
    by_cases hlt : q < nn
    · obtain ⟨b, o, hq', rfl, _, hcx⟩ := (HXw.out wr HB.out).atS hlt
      have hsl := HS.out names[q] (List.getElem_mem hq')
      have c0 := (HPw.out wr HB.out).blk.cellv (i := 0) rfl
      have g1 : (0 : Int) ≤ (q : Int) := by omega
      have g2 : (q : Int) < (nn : Int) := by omega
      have HT := Lib.hid (show names.take (q + 1) = names.take q ++ [names[q]] from List.take_succ_eq_append_getElem hq')
      have hmk := HMk.out
      generalize names[q] = s at *
      clear hq'
      go_upto_region 8 with fail
      clear hmk hcx c0
      have hbm := (Below.refl wr.heap.size wr).alloc (Nat.le_refl _) (.cells ((Glb.rowB L (fun _ => false)).map boolV).toArray 4)
      have hHr := HsB.out wr HB.out
      have ho4 := madeL L wr H (by omega) (by omega)
      have HO4 := Lib.hid (Own.on HO.out hbm)
      have HB4 := Lib.hid (HB.out.trans (hbm.mono (by omega)))
      obtain ⟨g2, hg2⟩ : ∃ g2, g2 = wr.heap.size := ⟨_, rfl⟩
      obtain ⟨w4, hw4⟩ : ∃ w4, w4 = wr.alloc (.cells ((Glb.rowB L (fun _ => false)).map boolV).toArray 4) := ⟨_, rfl⟩
      rw [← hg2] at ho4 hgl ⊢
      rw [← hw4] at HO4 HB4 ho4 ⊢
      have hgg : g ≠ g2 := by omega
      have hg2H : H ≤ g2 := by omega
      clear hw4 hbm hg2 hHr HO HB hsz
      have HN4 := Lib.hid (BoolsO.same ho4 (f' := Glb.nxt (ps.map Glb.abP) s (plF ps (names.take q)) 0) (fun i _ => (Glb.nxt_zero _ _ _ i).symm))
      have c0 := (HPw.out w4 HB4.out).blk.cellv (i := 0) rfl
      clear ho4
      go_wp2_with fail
      go_loopw [9, 10, 41] (fun _ _ i wi => ∃ k : Nat, k ≤ n ∧ i = .int .i64 k ∧ BoolsO wi H (.slice (some ⟨g, 0, none⟩) L cc) (Glb.rowB L (plF ps (names.take q))) ∧ BoolsO wi H (.slice (some ⟨g2, 0, none⟩) L L) (Glb.rowB L (Glb.nxt (ps.map Glb.abP) s (plF ps (names.take q)) k)) ∧ Below H w wi) (fun _ _ i _ => n - (intOf i).toNat)
      case atStart => exact ⟨0, by omega, rfl, HO4.out, HN4.out, HB4.out⟩
      case round =>
        obtain ⟨k, hk, rfl, ho, hx, hb⟩ := hrel
        have HO := Lib.hid ho
        have HX2 := Lib.hid hx
        have HB := Lib.hid hb
        have hsz := HsB.out wr hb
        have hg2l := (Own.blockLt hx g2 rfl).2
        have hg1l := (Own.blockLt ho g rfl).2
        clear ho hx hb c0 HO4 HN4 HB4
        by_cases hlk : k < n
        · obtain ⟨bp, op, x, hk', rfl, hSb, hp, m0, m1⟩ := (HPw.out wr HB.out).pat.at_ hlk
          have k0 : (0 : Int) ≤ (k : Int) := by omega
          have k1 : (k : Int) < (n : Int) := by omega
          have k2 : (k : Int) < (L : Int) := by omega
          have k3 : (k : Int) + 1 < (L : Int) := by omega
          have hbb := (Below.refl wr.heap.size wr).alloc (Nat.le_refl _) (.cells #[.bool x.all, .slice x.a x.n x.cp] 48)
          obtain ⟨n0, _⟩ := BoolsO.at_ HO.out (k := k) (by omega)
          obtain ⟨x0, fx0⟩ := BoolsO.at_ HX2.out (k := k) (by omega)
          obtain ⟨x1, fx1⟩ := BoolsO.at_ HX2.out (k := k + 1) (by omega)
          have HOb := Lib.hid (Own.on HO.out hbb)
          have HXb := Lib.hid (Own.on HX2.out hbb)
          have HBb := Lib.hid (HB.out.trans (hbb.mono (by omega)))
          have bk := Lib.hid (Blk.new wr 48 #[.bool x.all, .slice x.a x.n x.cp])
          have hkm : k < (ps.map Glb.abP).length := by rw [List.length_map]; exact hk'
          have ea : (ps.map Glb.abP)[k].many = ps[k].all := by rw [List.getElem_map]; rfl
          have es : (ps.map Glb.abP)[k].st s = Glb.matchesB ps[k].l s := by rw [List.getElem_map]; rfl
          cases hnow : plF ps (names.take q) k
          · have HXn := Lib.hid (BoolsO.same HXb.out (f' := Glb.nxt (ps.map Glb.abP) s (plF ps (names.take q)) (k + 1)) (fun i _ => (Glb.nxt_no _ hnow i).symm))
            rw [hnow] at n0
            clear hnow hp ea es
            generalize Glb.nxt (ps.map Glb.abP) s (plF ps (names.take q)) k k = z0 at *
            generalize Glb.nxt (ps.map Glb.abP) s (plF ps (names.take q)) k (k + 1) = z1 at *
            clear hbb
            go_wp2_with fail
            go_simp
            go_wp2_with fail
            go_roundw
            case rel => exact ⟨k + 1, by omega, by go_num, HOb.out, HXn.out, HBb.out⟩
            case measure => simp [intOf]; omega
          · rw [hnow] at n0
            cases hall : x.all
            · have hpm : (ps.map Glb.abP)[k].many = false := by rw [ea, ← hp.1]; exact hall
              have HMt := Lib.hid (matches_calls ps[k].l s x.a x.n x.cp (wr.alloc (.cells #[.bool x.all, .slice x.a x.n x.cp] 48)) ((hp.2.1.keep fun b' o' (hS : b' < B) => hbb.cell (p := ⟨b', o', none⟩) (by show b' < wr.heap.size; omega)).mono fun b' (hS : b' < B) => (by show b' < _; have := hbb.size; omega)) hp.2.2 hsl)
              rw [hall] at m0 HMt HOb HXb HBb bk
              cases hmt : Glb.matchesB ps[k].l s
              · have HXn := Lib.hid (fun i => (Glb.nxt_not (ps.map Glb.abP) (s := s) (now := plF ps (names.take q)) hkm hpm (by rw [es]; exact hmt) i))
                rw [hmt] at HMt
                clear hnow hp ea es hpm hmt hbb hkm hall
                generalize Glb.nxt (ps.map Glb.abP) s (plF ps (names.take q)) k k = z0 at *
                generalize Glb.nxt (ps.map Glb.abP) s (plF ps (names.take q)) k (k + 1) = z1 at *
                go_wp2_with fail
                go_simp
                go_wp2_with fail
                refine HMt.out.mono ?_
                rintro e w6 ⟨rfl, hb6⟩
                have HO6 := Lib.hid (Own.on HOb.out hb6)
                have HX6 := Lib.hid (BoolsO.same (Own.on HXb.out hb6) (fun i _ => (HXn.out i).symm))
                have HB6 := Lib.hid (HBb.out.trans (hb6.mono (HsB.out _ HBb.out)))
                clear hb6
                go_wp2_with fail
                go_roundw
                case rel => exact ⟨k + 1, by omega, by go_num, HO6.out, HX6.out, HB6.out⟩
                case measure => simp [intOf]; omega
              · have HXn := Lib.hid (fun i => (Glb.nxt_yes (ps.map Glb.abP) (s := s) (now := plF ps (names.take q)) hkm hnow hpm (by rw [es]; exact hmt) i))
                rw [hmt] at HMt
                clear hnow hp ea es hpm hmt hbb hkm hall
                go_wp2_with fail
                go_simp
                go_wp2_with fail
                refine HMt.out.mono ?_
                rintro e w6 ⟨rfl, hb6⟩
                have ho6 := Own.on HXb.out hb6
                obtain ⟨y1, fy1⟩ := BoolsO.at_ ho6 (k := k + 1) (by omega)
                have HO6 := Lib.hid (Own.far (Own.on HOb.out hb6) (p := ⟨g2, k + 1, none⟩) (by simpa [Value.ownBlock] using hgg) (.bool true))
                have HX6 := Lib.hid (BoolsO.same (BoolsO.put ho6 (k + 1) true) (fun i _ => (HXn.out i).symm))
                have HB6 := Lib.hid ((HBb.out.trans (hb6.mono (HsB.out _ HBb.out))).setCell (p := ⟨g2, k + 1, none⟩) hg2H (.bool true))
                clear hb6 ho6 x0 x1 fx0 fx1
                generalize Glb.nxt (ps.map Glb.abP) s (plF ps (names.take q)) k (k + 1) = z1 at *
                go_wp2_with fail
                go_roundw
                case rel => exact ⟨k + 1, by omega, by go_num, HO6.out, HX6.out, HB6.out⟩
                case measure => simp [intOf]; omega
            · have HXn := Lib.hid (Own.alloc (BoolsO.same (BoolsO.put HX2.out k true) (fun i _ => (Glb.nxt_all (ps.map Glb.abP) (s := s) (now := plF ps (names.take q)) hnow (by rw [isAll_at hk', ← hp.1]; exact hall) i).symm)) (.cells #[.bool true, .slice x.a x.n x.cp] 48))
              have HOn := Lib.hid (Own.alloc (Own.far HO.out (p := ⟨g2, k, none⟩) (by simpa [Value.ownBlock] using hgg) (.bool true)) (.cells #[.bool true, .slice x.a x.n x.cp] 48))
              have HBn := Lib.hid ((HB.out.setCell (p := ⟨g2, k, none⟩) hg2H (.bool true)).alloc (by simp; omega) (.cells #[.bool true, .slice x.a x.n x.cp] 48))
              rw [hall] at m0
              clear hnow hp ea es hbb hkm hall HOb HXb HBb bk
              generalize Glb.nxt (ps.map Glb.abP) s (plF ps (names.take q)) k k = z0 at *
              generalize Glb.nxt (ps.map Glb.abP) s (plF ps (names.take q)) k (k + 1) = z1 at *
              go_wp2_with fail
              go_simp
              go_wp2_with fail
              go_roundw
              case rel => exact ⟨k + 1, by omega, by go_num, HOn.out, HXn.out, HBn.out⟩
              case measure => simp [intOf]; omega
        · obtain rfl : k = n := by omega
          have k1 : decide ((k : Int) < (k : Int)) = false := decide_eq_false (by omega)
          have HSk2 := Lib.hid (skip_calls B pb a k c ps H g2 L L _ wr (HPw.out wr HB.out) hB HL.out HX2.out)
          have HTq := Lib.hid (fun i hi => plF_next (ps := ps) (L := L) (by rw [HPL.out]; exact HL.out) (names.take q) s i hi)
          rw [HPL.out] at HTq
          clear HX2
          go_wp2_with fail
          refine HSk2.out.mono ?_
          rintro e w6 ⟨rfl, ho6, hb6⟩
          have HO6 := Lib.hid (BoolsO.same ho6 (f' := plF ps (names.take (q + 1))) (fun i hi => by rw [HT.out]; exact HTq.out i hi))
          have HB6 := Lib.hid (HB.out.trans hb6)
          clear ho6 hb6 HSk2
          go_wp2_with fail
          go_roundw
          case rel => exact ⟨q + 1, g2, L, by omega, by go_num, rfl, HO6.out, HB6.out⟩
          case measure => simp [intOf]; omega
    · obtain rfl : q = nn := by omega
      have g1 : decide ((q : Int) < (q : Int)) = false := decide_eq_false (by omega)
      have HF := Lib.hid (show names.take q = names from List.take_of_length_le (by rw [HXL.out]; exact Nat.le_refl _))
      go_wp2_with fail
      go_ret
      exact ⟨g, cc, rfl, by rw [← HHw.out, ← HF.out]; exact HO.out, by rw [← HHw.out]; exact HB.out⟩
end Go.Proofs.Ytlnjfnpoabcllaa
