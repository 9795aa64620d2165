/-
  some, open, Size, skip.
-/
import Derived.Test.YtlnjfnpoabcllaaGlbPat
import Derived.Test.YtlnjfnpoabcllaaGlbStands
namespace Go.Proofs.Ytlnjfnpoabcllaa
open Go.RowKit

/-- The marks ahead of the k-th stand for some. -/
def OpenK (l : List Glb.Gm) (k : Nat) : Prop := ∀ j (h : j < l.length), j < k → (l[j].k == 3 && !Glb.someB l[j]) = false
def NoneK (g : Glb.Gm) (k : Nat) : Prop := ∀ j, j < k → Glb.standsB g (UInt8.ofNat j) = false
set_option maxRecDepth 100000 in
set_option maxHeartbeats 2000000 in
theorem some_calls (x : Mv) (g : Glb.Gm) (w : World) (h : MkS (allB w) w x g) :
    Calls Try.prog 46 #[mvV x] w fun e w' => e = .returned (.bool (Glb.someB g)) ∧ Below w.heap.size w w' := by
  have HM := Lib.hid h
  clear h
  show Calls Try.prog 46 #[.agg #[.int .i64 x.k, .int .u8 (x.c.toNat : Int), .bool x.neg, .slice x.a x.n x.cp]] w _
  have HV := Lib.hid (show mvV x = .agg #[.int .i64 x.k, .int .u8 (x.c.toNat : Int), .bool x.neg, .slice x.a x.n x.cp] from rfl)
  go_enter Try.func46, Try.ntmps46
  go_wp2_with fail
  go_loopw [3, 4] (fun _ i wr => ∃ k : Nat, k ≤ 256 ∧ i = .int .i64 k ∧ NoneK g k ∧ Blk wr w.heap.size 74 #[.int .i64 x.k, .int .u8 (x.c.toNat : Int), .bool x.neg, .slice x.a x.n x.cp] ∧ Below w.heap.size w wr) (fun _ i _ => 256 - (intOf i).toNat)
  case atStart => exact ⟨0, by omega, rfl, fun j h => absurd h (by omega), Blk.new _ _ _, (Below.refl _ _).alloc (Nat.le_refl _) _⟩
  case round =>
    obtain ⟨k, hk, rfl, ho, hbk, hb⟩ := hrel
    have HO := Lib.hid ho
    have HBk := Lib.hid hbk
    have HB := Lib.hid hb
    by_cases hlt : k < 256
    · have e1 : ((UInt8.ofNat k).toNat : Int) = (k : Int) := by rw [UInt8.toNat_ofNat_of_lt' (by omega)]
      have hc := stands_calls x g (UInt8.ofNat k) wr (HM.out.on hb)
      rw [e1, HV.out] at hc
      have HC := Lib.hid hc
      have c0 := hbk.cellv (i := 0) rfl
      have c1 := hbk.cellv (i := 1) rfl
      have c2 := hbk.cellv (i := 2) rfl
      have c3 := hbk.cellv (i := 3) rfl
      clear ho hbk hb hc e1
      go_wp2_with fail
      refine HC.out.mono ?_
      rintro e w2 ⟨rfl, hb2⟩
      have HB2 := Lib.hid (HB.out.trans (hb2.mono HB.out.size))
      have HBk2 := Lib.hid (HBk.out.belowHere hb2)
      clear hb2
      cases hs : Glb.standsB g (UInt8.ofNat k)
      · have HO2 := Lib.hid (show NoneK g (k + 1) from fun j hj => by
          by_cases e : j = k
          · subst e; exact hs
          · exact HO.out j (by omega))
        clear hs
        go_wp2_with fail
        go_roundw
        case rel => exact ⟨k + 1, by omega, by go_num, HO2.out, HBk2.out, HB2.out⟩
        case measure => simp [intOf]; omega
      · have HY := Lib.hid (show Glb.someB g = true by
          unfold Glb.someB
          rw [List.any_eq_true]
          exact ⟨k, List.mem_range.2 hlt, hs⟩)
        clear hs
        go_wp2_with fail
        go_ret
        exact ⟨by rw [HY.out]; rfl, HB2.out⟩
    · obtain rfl : k = 256 := by omega
      have HN := Lib.hid (show Glb.someB g = false by
        rw [Bool.eq_false_iff]
        intro h
        unfold Glb.someB at h
        rw [List.any_eq_true] at h
        obtain ⟨j, hj, h2⟩ := h
        rw [HO.out j (List.mem_range.1 hj)] at h2
        cases h2)
      clear ho hbk hb
      go_wp2_with fail
      go_ret
      exact ⟨by rw [HN.out]; rfl, HB.out⟩
set_option maxHeartbeats 4000000 in
theorem open_calls (x : Pv) (p : Glb.Prt) (w : World) (h : PtS (allB w) w x p) :
    Calls Try.prog 32 #[.agg #[.bool x.all, .slice x.a x.n x.cp]] w fun e w' => e = .returned (.bool (Glb.openB p.l)) ∧ Below w.heap.size w w' := by
  obtain ⟨_, hms, hn⟩ := h
  have HM := Lib.hid hms
  have hl := hms.len
  have HL := Lib.hid hl
  generalize p.l = l at *
  obtain ⟨xa, a, n, cp⟩ := x
  dsimp only at HM hn HL ⊢
  clear hms hl
  go_enter Try.func32, Try.ntmps32
  go_wp2_with fail
  go_loopw [4, 8] (fun _ i wr => ∃ k : Nat, k ≤ n ∧ i = .int .i64 k ∧ OpenK l k ∧ Below w.heap.size w wr) (fun _ i _ => n - (intOf i).toNat)
  case atStart => exact ⟨0, by omega, rfl, fun j _ h => absurd h (by omega), (Below.refl _ _).alloc (Nat.le_refl _) _⟩
  case round =>
    obtain ⟨k, hk, rfl, ho, hb⟩ := hrel
    have HO := Lib.hid ho
    have HB := Lib.hid hb
    by_cases hlt : k < n
    · obtain ⟨b, o, y, hk', rfl, _, hy, m0, m1, m2, m3⟩ := ((HM.out.keep (kept_below hb)).mono (S' := allB wr) fun b (hS : b < w.heap.size) => Nat.lt_of_lt_of_le hS hb.size).at_ hlt
      have g0 : (0 : Int) ≤ (k : Int) := by omega
      have g1 : (k : Int) < (n : Int) := by omega
      have hyk := hy.1
      have HY := Lib.hid hy
      have hbb := (Below.refl wr.heap.size wr).alloc (Nat.le_refl _) (.cells #[.int .i64 y.k, .int .u8 (y.c.toNat : Int), .bool y.neg, .slice y.a y.n y.cp] 74)
      have HC := Lib.hid (some_calls y l[k] _ (hy.on hbb))
      have HB2 := Lib.hid (HB.out.trans (hbb.mono HB.out.size))
      clear ho hb hy hbb
      by_cases h3 : y.k = 3
      · have g3 : (y.k == 3) = true := by rw [h3]; rfl
        have hl3 : l[k].k = 3 := hyk ▸ h3
        cases hs : Glb.someB l[k]
        · have HN := Lib.hid (show Glb.openB l = false by
            rw [Bool.eq_false_iff]
            intro h
            unfold Glb.openB at h
            rw [List.all_eq_true] at h
            have := h l[k] (List.getElem_mem hk')
            rw [hs, hl3] at this
            cases this)
          rw [hs] at HC
          clear hs hl3 hyk h3
          go_wp2_with fail
          go_simp
          go_wp2_with fail
          refine HC.out.mono ?_
          rintro e w2 ⟨rfl, hb2⟩
          have HB3 := Lib.hid (HB2.out.trans (hb2.mono HB2.out.size))
          clear hb2
          go_wp2_with fail
          go_ret
          exact ⟨by rw [HN.out]; rfl, HB3.out⟩
        · have HO2 := Lib.hid (show OpenK l (k + 1) from fun j h hj => by
            by_cases e : j = k
            · subst e; rw [hs]; simp
            · exact HO.out j h (by omega))
          rw [hs] at HC
          clear hs hl3 hyk h3
          go_wp2_with fail
          go_simp
          go_wp2_with fail
          refine HC.out.mono ?_
          rintro e w2 ⟨rfl, hb2⟩
          have HB3 := Lib.hid (HB2.out.trans (hb2.mono HB2.out.size))
          clear hb2
          go_wp2_with fail
          go_roundw
          case rel => exact ⟨k + 1, by omega, by go_num, HO2.out, HB3.out⟩
          case measure => simp [intOf]; omega
      · have g3 : (y.k == 3) = false := by simpa using h3
        have HO2 := Lib.hid (show OpenK l (k + 1) from fun j h hj => by
          by_cases e : j = k
          · subst e; rw [← hyk, g3]; rfl
          · exact HO.out j h (by omega))
        clear hyk h3
        go_wp2_with fail
        go_simp
        go_wp2_with fail
        go_roundw
        case rel => exact ⟨k + 1, by omega, by go_num, HO2.out, HB2.out⟩
        case measure => simp [intOf]; omega
    · obtain rfl : k = n := by omega
      have g1 : decide ((k : Int) < (k : Int)) = false := decide_eq_false (by omega)
      have HY := Lib.hid (show Glb.openB l = true by
        unfold Glb.openB
        rw [List.all_eq_true]
        intro m hm
        obtain ⟨i, hi, rfl⟩ := List.getElem_of_mem hm
        rw [HO.out i hi (by rw [← HL.out]; exact hi)]
        rfl)
      clear ho hb
      go_wp2_with fail
      go_ret
      exact ⟨by rw [HY.out]; rfl, HB.out⟩
theorem size_calls (B pb : Nat) (a : Option Addr) (n c : Nat) (ps : List Glb.Prt) (w : World) (h : PatP B w pb a n c ps) :
    Calls Try.prog 18 #[.pointer (some ⟨pb, 0, none⟩)] w fun e w' => e = .returned (.int .i64 (n : Int)) ∧ w = w' := by
  have c0 := h.blk.cellv (i := 0) rfl
  clear h
  go_enter Try.func18, Try.ntmps18
  go_wp2_with fail
  go_ret
  exact ⟨rfl, rfl⟩
theorem size_nil (w : World) : Calls Try.prog 18 #[.pointer none] w fun e w' => e = .returned (.int .i64 0) ∧ w = w' := by
  go_enter Try.func18, Try.ntmps18
  go_wp2_with fail
  go_ret
  exact ⟨rfl, rfl⟩
end Go.Proofs.Ytlnjfnpoabcllaa
