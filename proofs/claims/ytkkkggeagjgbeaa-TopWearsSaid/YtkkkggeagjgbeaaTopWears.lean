/-
  Blocks wear alike: the law's walk.
-/
import Derived.Test.YtkkkggeagjgbeaaWearsP
import Derived.Test.YtkkkggeagjgbeaaTopBlocks
import Derived.Test.YtkkkggeagjgbeaaNandRight
import Derived.Test.YtkkkggeagjgbeaaTopAwake
import Derived.Test.YtkkkggeagjgbeaaTopLtorn
import Derived.Test.YtkkkggeagjgbeaaChNew
import Derived.Deep.DeepCutAuto
import Derived.Deep.CutBlock
namespace Go.Proofs.Ytkkkggeagjgbeaa
open Go.RowKit

def tru (k : Nat) : List Bool := List.replicate k true ++ List.replicate (16 - k) false
theorem tru_set {k : Nat} (h : k < 16) : (tru k).set k true = tru (k + 1) := by
  unfold tru
  rw [List.set_append_right _ _ (by simp), List.length_replicate, Nat.sub_self, show 16 - k = (16 - (k + 1)) + 1 by omega, List.replicate_succ, List.set_cons_zero, List.replicate_succ', List.append_assoc]
  rfl
theorem tru_len {k : Nat} (h : k ≤ 16) : (tru k).length = 16 := by unfold tru; simp; omega
set_option maxRecDepth 100000 in
set_option maxHeartbeats 8000000 in
theorem topWears_walk (a0 : Option Addr) (n0 c0 : Nat) (x0 : List UInt8) (w : World) (g0 : Bytes w w.heap.size a0 n0 x0) (_ : n0 ≤ c0) (_ : c0 ≤ 140737488351232) :
    Calls Try.prog 3 #[.slice a0 n0 c0] w fun e w' => e = .returned (.bool true) ∧ Below w.heap.size w w' := by
  have HX := Lib.hid g0
  go_enter Try.func3, Try.ntmps3
  go_upto_region 1 with fail
  go_wp2_with fail
  refine (small_calls _).mono ?_
  rintro e w1 ⟨rfl, h_⟩
  have HB1 := Lib.hid h_
  clear h_
  go_wp2_with fail
  refine (chNew_calls _).mono ?_
  rintro e w2 ⟨⟨S, C, BL, ps, rfl, hc⟩, hb⟩
  have HB2 := Lib.hid (HB1.out.then_ hb)
  have HC2 := Lib.hid hc
  clear hc hb
  have hm1 := mkBools w2
  go_upto_region 3 with fail
  generalize hwa : w2.alloc _ = wa
  have HO := Lib.hid (show Own bolV 4 wa w2.heap.size (.slice (some ⟨w2.heap.size, 0, none⟩) 16 16) (tru 0) by
    rw [← hwa]
    exact Own.made (f := bolV) (e := 4) (w := w2) (base := w2.heap.size) (xs := List.replicate 16 false) (Nat.le_refl _) (by simp [maxLen]))
  have HB3 := Lib.hid (show Below w.heap.size w wa by rw [← hwa]; exact HB2.out.alloc HB2.out.size _)
  have HC3 := Lib.hid (show ChM 16 w1.heap.size S wa C BL ps (fun _ => fresh 0) by rw [← hwa]; exact HC2.out.on ((Below.refl _ _).alloc (Nat.le_refl _) _))
  have HS := Lib.hid (fun q (h : S q) => HC2.out.hi q h)
  have HB12 := Lib.hid HB2.out.size
  have HB1s := Lib.hid HB1.out.size
  clear hwa hm1 HC2 HB2 HB1
  go_wp2_with fail
  generalize w2.heap.size = gb at *
  go_loopw [6] (fun i wr => ∃ k : Nat, k ≤ 16 ∧ i = .int .i64 (k : Int) ∧ Own bolV 4 wr gb (.slice (some ⟨gb, 0, none⟩) 16 16) (tru k) ∧ ChM 16 w1.heap.size S wr C BL ps (fun _ => fresh 0) ∧ Below w.heap.size w wr) (fun i _ => 16 - (intOf i).toNat)
  case atStart => exact ⟨0, by omega, rfl, HO.out, HC3.out, HB3.out⟩
  case round =>
    obtain ⟨k, hk, rfl, ho, hc, hb⟩ := hrel
    have HOr := Lib.hid ho
    have HCr := Lib.hid hc
    have HBr := Lib.hid hb
    clear ho hc hb
    by_cases hlt : k < 16
    · have hk0 : (0 : Int) ≤ (k : Int) := by omega
      have hk1 : (k : Int) < 16 := by omega
      obtain ⟨hce, hf⟩ := HOr.out.cellg (k := k) (by rw [tru_len hk]; exact hlt)
      have hs := HOr.out.set k true
      rw [tru_set hlt] at hs
      have HOs := Lib.hid hs
      clear hs
      have hgb := HB12.out
      have hcs := HCr.out.kq (Kq.one ⟨gb, k, none⟩ (bolV true)) fun q hq e => by have := HS.out q hq; have h2 : q = gb := e; omega
      have HCs := Lib.hid hcs
      clear hcs
      have HBs := Lib.hid (HBr.out.setCell (p := ⟨gb, k, none⟩) hgb (bolV true))
      go_wp2_with fail
      go_roundw
      case rel => exact ⟨k + 1, by omega, by go_num, HOs.out, HCs.out, HBs.out⟩
      case measure => simp [intOf]; omega
    · obtain rfl : k = 16 := by omega
      have hm2 := mkInts wr
      clear HO HC3 HB3
      go_upto_region 7 with fail
      have HLv := Lib.hid (show Own naV 3 (wr.alloc (.cells ((List.replicate 16 0).map naV).toArray 3)) wr.heap.size (.slice (some ⟨wr.heap.size, 0, none⟩) 16 16) (List.replicate 16 0) from Own.made (f := naV) (e := 3) (w := wr) (base := wr.heap.size) (xs := List.replicate 16 0) (Nat.le_refl _) (by simp [maxLen]))
      have HBl := Lib.hid ((Below.refl wr.heap.size wr).alloc (Nat.le_refl _) (.cells ((List.replicate 16 0).map naV).toArray 3))
      generalize hcz : (Obj.cells ((List.replicate 16 0).map naV).toArray 3) = oz at *
      have hm3 : (Instr.makeSlice 34 (.int .i64 16) (.int .i64 16)).run Try.prog wr = .ok (.slice (some ⟨wr.heap.size, 0, none⟩) 16 16) (wr.alloc oz) := by rw [← hcz]; exact mkInts wr
      clear hm2 hcz
      go_wp2_with fail
      have HO4 := Lib.hid (HOr.out.on HBl.out)
      have HC4 := Lib.hid (HCr.out.on HBl.out)
      have HB4 := Lib.hid (HBr.out.then_ HBl.out)
      clear hm3 HOr HCr HBr
      refine (bOpen_calls HC4.out (by omega) (by omega) (fun _ _ => Nat.zero_le _) _ 16 (tru 16) (HO4.out.arr (by rw [tru_len (Nat.le_refl _)]; omega)) _ 16 _ (HLv.out.arr (by simp)) (fun k hk => by
        have e : (List.replicate 16 0).getD k 0 = 0 := by rw [List.getD_eq_getElem?_getD, List.getElem?_replicate]; split <;> rfl
        rw [e]; exact ⟨by omega, fun _ => rfl⟩) 1 0).mono ?_
      rintro e w5 ⟨M, ML, cap, rfl, hM, hML, hm, hb⟩
      have HT0 := Lib.hid (Wears.st0 rfl (show tru 16 = List.replicate 16 true by simp [tru]) rfl rfl rfl hm (HB4.out.then_ hb) HB1s.out)
      clear hb hm hM hML HO4 HC4 HB4 HLv HBl
      generalize (⟨M, ML, C, BL, cap, ps, _, _, _, _, _, _⟩ : Mg) = g5 at *
      go_wp2_with fail
      go_loopw [9, 10, 11, 12, 13, 14, 15] (fun v i _ _ _ _ _ wx => ∃ (k : Nat) (g : Mg) (S' : Nat → Prop) (held : List Nat), k ≤ n0 ∧ k ≤ 400 ∧ i = .int .i64 (k : Int) ∧ Wears.St w w1.heap.size M C g S' held k v wx) (fun _ i _ _ _ _ _ _ => 400 - (intOf i).toNat)
      case atStart => exact ⟨0, g5, S, [], Nat.zero_le _, Nat.zero_le _, rfl, HT0.out⟩
      case round =>
        obtain ⟨k, g, S', held, hkn, hk4, rfl, ht⟩ := hrel
        obtain ⟨va, vc, rfl, hvc⟩ := ht.own.form
        have HT := Lib.hid ht
        have hhl := ht.inv.hl
        clear ht HT0
        go_upto_region 12 with fail
        go_cut [58] (fun v wx => v = .bool (decide (k < n0 ∧ k < 400)) ∧ wr = wx)
        case first =>
          by_cases h1 : k < n0
          · by_cases h2 : k < 400
            · go_wp2_with fail
              go_meet
              exact ⟨by simp [h1, h2]; omega, rfl⟩
            · go_wp2_with fail
              go_meet
              exact ⟨by simp [h2]; omega, rfl⟩
          · go_wp2_with fail
            go_meet
            exact ⟨by simp [h1], rfl⟩
        case rest =>
          obtain ⟨rfl, hwx⟩ := hcut
          subst hwx
          by_cases hltt : k < n0 ∧ k < 400
          · rw [decide_eq_true hltt]
            obtain ⟨hlt, hlt4⟩ := hltt
            obtain ⟨b, o, hka, rfl, hbl, hce⟩ := HX.out.atv hlt
            rcases hnx : Gc.next g.l 8 (decide (8 ≤ roomOf g)) with ⟨ak, bn⟩
            have hk0 : (0 : Int) ≤ (k : Int) := by omega
            have hk1 : (k : Int) < (n0 : Int) := by omega
            have hk2 : (k : Int) < 400 := by omega
            generalize x0[k] = x at *
            go_wp2_with fail
            refine (Wears.next_st HT.out (by omega) hnx).mono ?_
            rintro e w6 ⟨rfl, hb⟩
            have HT6 := Lib.hid ((HT.out.on hb).on ((Below.refl w6.heap.size w6).alloc (Nat.le_refl _) (.cells #[.int .i64 ak, .int .i64 bn] 36)))
            have hbk := Blk.new w6 36 #[.int .i64 ak, .int .i64 bn]
            clear hb
            go_upto_region 15 with fail
            have hb0 := hbk.cellv (i := 0) (v := .int .i64 ak) rfl
            have hb1 := hbk.cellv (i := 1) (v := .int .i64 bn) rfl
            clear hbk
            generalize w6.alloc _ = w7 at *
            generalize w6.heap.size = ga at *
            have hce7 := (HT6.out.bel.cell (p := ⟨b, o + k, none⟩) hbl).trans hce
            change w7.cell? ⟨b, o + k, none⟩ = some (.int .u8 (x.toNat : Int)) at hce7
            have hx256 : x.toNat < 256 := UInt8.toNat_lt x
            have hlen400 : held.length ≤ 400 := by omega
            clear hce
            go_cut [73] (fun v wx => v = .bool (decide (x.toNat % 3 = 0 ∧ 0 < held.length)) ∧ w7 = wx)
            case first =>
              by_cases h3 : x.toNat % 3 = 0
              · have h3' : (x.toNat : Int) % 3 = 0 := by omega
                go_wp2_with fail
                go_meet
                exact ⟨by simp [h3], rfl⟩
              · have h3' : ¬ (x.toNat : Int) % 3 = 0 := by omega
                go_wp2_with fail
                go_meet
                exact ⟨by simp [h3], rfl⟩
            case rest =>
              obtain ⟨rfl, hwx⟩ := hcut
              subst hwx
              by_cases hd : x.toNat % 3 = 0 ∧ 0 < held.length
              · obtain ⟨gh, rfl, hgh1, hgh2⟩ := HT6.out.own.addr hd.2
                obtain ⟨j, hj⟩ : ∃ j, j = x.toNat % held.length := ⟨_, rfl⟩
                have hj2 : (x.toNat : Int) % (held.length : Int) = (j : Int) := by rw [hj]; exact (Int.natCast_emod _ _).symm
                have hjl : j < held.length := by rw [hj]; exact Nat.mod_lt _ hd.2
                have hne : ¬ (held.length : Int) = 0 := by omega
                rw [decide_eq_true hd]
                go_upto_region 17 with fail
                rw [hj2]
                clear hj hj2 hne hd
                obtain ⟨hv, hhv⟩ : ∃ hv, hv = held[j] := ⟨_, rfl⟩
                have hcj := (HT6.out.own.cellg hjl).1
                rw [← hhv] at hcj
                change w7.cell? ⟨gh, j, none⟩ = some (.int .i64 (hv : Int)) at hcj
                have hj0 : (0 : Int) ≤ (j : Int) := by omega
                have hj1 : (j : Int) < (held.length : Int) := by omega
                have HD := Lib.hid (Wears.drop_st HT6.out hjl rfl hhv)
                clear hhv
                go_wp2_with fail
                refine HD.out.mono ?_
                rintro e w8 ⟨rfl, ho8, g8, S8, ht8⟩
                obtain ⟨last, hlast⟩ : ∃ last, last = held.getD (held.length - 1) 0 := ⟨_, rfl⟩
                have hcl := (ho8.cellg (k := held.length - 1) (by omega)).1
                have hl2 : held[held.length - 1]'(by omega) = last := by rw [hlast, List.getD_eq_getElem?_getD, List.getElem?_eq_getElem (by omega)]; rfl
                rw [hl2] at hcl
                change w8.cell? ⟨gh, held.length - 1, none⟩ = some (.int .i64 (last : Int)) at hcl
                rw [← hlast] at ht8
                obtain ⟨hc8, hf8⟩ := ho8.cellg hjl
                change w8.cell? ⟨gh, j, none⟩ = some (.int .i64 (held[j] : Int)) at hc8
                have HT8 := Lib.hid ht8
                clear ht8 ho8 HD hl2 hlast
                have i1 := IntWalk.i64_in ((held.length : Int) - 1) ⟨by omega, by omega⟩
                have i2 : (0 : Int) ≤ (held.length : Int) - 1 := by omega
                have i3 : (held.length : Int) - 1 < (held.length : Int) := by omega
                have i4 : ((held.length : Int) - 1).toNat = held.length - 1 := by omega
                have hcu := fun u => cutN_to (some ⟨gh, 0, none⟩) held.length vc (held.length - 1) (by omega) u
                have i5 : ((held.length - 1 : Nat) : Int) = (held.length : Int) - 1 := by omega
                rw [i5] at hcu
                clear i5
                go_wp2_with fail
                go_roundw
                case rel => exact ⟨k + 1, g8, S8, _, by omega, by omega, by go_num, HT8.out⟩
                case measure => simp [intOf]; omega
              · rw [decide_eq_false hd]
                clear hd
                go_upto_region 21 with fail
                go_cut [115] (fun v wx => ∃ Bo, v = .bool Bo ∧ (Bo = true → ak = 1 ∨ ak = 3) ∧ Below w7.heap.size w7 wx)
                case first =>
                  have HF := Lib.hid (Wears.free_st HT6.out)
                  by_cases h1 : ak = 1
                  · subst h1
                    go_wp2_with fail
                    refine HF.out.mono ?_
                    rintro e w8 ⟨rfl, hb8⟩
                    have HB8 := Lib.hid hb8
                    clear hb8
                    go_wp2_with fail
                    go_meet
                    exact ⟨_, rfl, fun _ => by simp, HB8.out⟩
                  · by_cases h3 : ak = 3
                    · subst h3
                      go_wp2_with fail
                      refine HF.out.mono ?_
                      rintro e w8 ⟨rfl, hb8⟩
                      have HB8 := Lib.hid hb8
                      clear hb8
                      go_wp2_with fail
                      go_meet
                      exact ⟨_, rfl, fun _ => by simp, HB8.out⟩
                    · go_wp2_with fail
                      go_meet
                      exact ⟨false, rfl, fun e => (by cases e), Below.refl _ _⟩
                case rest =>
                  obtain ⟨Bo, rfl, hBo, hb8⟩ := hcut
                  have HT8 := Lib.hid (HT6.out.on hb8)
                  have hb18 := cell_on hb1 hb8
                  have hce8 := cell_on hce7 hb8
                  clear hb8 hb0 hb1 hce7 HT6 HT
                  generalize wc = w8 at *
                  cases Bo
                  · clear hBo hnx
                    have HX8 := Lib.hid (Arr.lit (f := byteV) w8 5 [x] 1 rfl (by omega) (cs := #[.int .u8 (x.toNat : Int)]) rfl)
                    have HBa := Lib.hid ((Below.refl w8.heap.size w8).alloc (Nat.le_refl _) (.cells #[.int .u8 (x.toNat : Int)] 5))
                    go_wp2_with fail
                    refine (ltorn_calls _ 1 1 [x] _ HX8.out (by omega)).mono ?_
                    rintro e w9 ⟨⟨a9, c9, rfl, hc9, ho⟩, hb9⟩
                    have HB9 := Lib.hid (HBa.out.then_ hb9)
                    have HT9 := Lib.hid (HT8.out.on HB9.out)
                    have HP := Lib.hid (Wears.prog_st HT9.out a9 c9 _ (ho.mono (Nat.zero_le _)) fun q hq hs => by
                      have h1 := (ho.blockLt q hq).1
                      have h2 := HT8.out.mg.hi q hs
                      rw [World.size_alloc] at h1
                      omega)
                    clear ho hb9 HX8 HBa
                    go_wp2_with fail
                    refine HP.out.mono ?_
                    rintro e w10 (⟨j, i, hj, rfl, g10, S10, hM, hC, hm, ho, hf, hb, hi⟩ | ⟨rfl, hb, hr⟩)
                    · have HO10 := Lib.hid ho
                      have HAp := Lib.hid (fun v' w' => Wears.St.app (v' := v') (w' := w') hM hC hm HB1s.out hb ho hf hi)
                      have HZ := Lib.hid hb.size
                      clear hM hC hm ho hf hb hi HP HT9 HB9 HT8
                      go_wp2_with (at_builtin; refine wpList_litN rfl (.tmp 140) (.tmp 142) rfl w.heap.size _ held rfl HO10.out j rfl rfl (by omega) HZ.out ?_; intro v11 w11 h1 h2 h3; have HT11 := Lib.hid (HAp.out v11 w11 h1.out h2.out h3.out); clear h1 h2 h3)
                      go_roundw
                      case rel => exact ⟨k + 1, g10, S10, _, by omega, by omega, by go_num, HT11.out⟩
                      case measure => simp [intOf]; omega
                    · have HT10 := Lib.hid (HT9.out.on hb)
                      have HRm := Lib.hid (Wears.room_st HT10.out)
                      rw [hr] at HRm
                      clear hb hr HT9 HT8 HP HB9
                      go_wp2_with fail
                      refine HRm.out.mono ?_
                      rintro e w11 ⟨rfl, hb11⟩
                      have HT11 := Lib.hid (HT10.out.on hb11).more
                      clear hb11
                      go_wp2_with fail
                      go_roundw
                      case rel => exact ⟨k + 1, g, S', held, by omega, by omega, by go_num, HT11.out⟩
                      case measure => simp [intOf]; omega
                  · have HE := Lib.hid (Wears.erase_next HT8.out (by omega) hnx (hBo rfl))
                    clear hBo hnx
                    go_wp2_with fail
                    refine HE.out.mono ?_
                    rintro e w9 ⟨rfl, g9, S9, ht9⟩
                    have HT9 := Lib.hid ht9
                    clear ht9
                    go_wp2_with fail
                    refine (Wears.gap_st HT9.out (by omega)).mono ?_
                    rintro e w10 ⟨⟨y, rfl, hy⟩, hb10⟩
                    have HT10 := Lib.hid (HT9.out.on hb10)
                    clear hb10
                    go_wp2_with fail
                    go_roundw
                    case rel => exact ⟨k + 1, g9, S9, held, by omega, by omega, by go_num, HT10.out⟩
                    case measure => simp [intOf]; omega
          · rw [decide_eq_false hltt]
            clear hltt
            go_wp2_with fail
            refine (Wears.blocks_st HT.out).mono ?_
            rintro e w6 ⟨⟨v6, rfl, ho6⟩, hb6⟩
            have hlen := HT.out.inv.len
            obtain ⟨g6, c6, rfl, _, _, _⟩ := ho6.form_some (by omega)
            have HO6 := Lib.hid ho6
            have HT6 := Lib.hid (HT.out.on hb6)
            rw [hlen]
            have HLen := Lib.hid hlen
            clear ho6 hb6 hlen HT
            go_wp2_with fail
            go_loopw [16, 18] (fun s i wx => ∃ q : Nat, q ≤ 16 ∧ s = .int .i64 (Wears.sumC (fun i => (Gc.at_ g.l i).live) q : Int) ∧ i = .int .i64 (q : Int) ∧ w6 = wx) (fun _ i _ => 16 - (intOf i).toNat)
            case atStart => exact ⟨0, by omega, rfl, rfl, rfl⟩
            case round =>
              obtain ⟨q, hq, rfl, rfl, hwx⟩ := hrel
              subst hwx
              have hsl := Wears.sumC_le (c := fun i => (Gc.at_ g.l i).live) (k := q) (b := 8) fun i hi => (HT6.out.inv.bk i (by omega)).l8
              have hsum := HT6.out.inv.sum
              by_cases hlq : q < 16
              · have hq0 : (0 : Int) ≤ (q : Int) := by omega
                have hq1 : (q : Int) < 16 := by omega
                have hll := HT6.out.inv.len
                have hc1 := (HO6.out.cellg (i := q) (j := 1) (by omega) (by omega)).1
                have e1 : g.l[q]'(by omega) = Gc.at_ g.l q := by rw [Gc.at_, List.getD_eq_getElem?_getD, List.getElem?_eq_getElem (by omega)]; rfl
                rw [e1] at hc1
                change w6.cell? ⟨g6, q * 4 + 1, none⟩ = some (.int .i64 ((Gc.at_ g.l q).live : Int)) at hc1
                have hl8 := (HT6.out.inv.bk q hlq).l8
                have hS1 := Lib.hid (show (Wears.sumC (fun i => (Gc.at_ g.l i).live) q : Int) + ((Gc.at_ g.l q).live : Int) = ((Wears.sumC (fun i => (Gc.at_ g.l i).live) (q + 1) : Nat) : Int) from rfl)
                clear hsum e1 hll
                generalize Wears.sumC (fun i => (Gc.at_ g.l i).live) q = sq at *
                generalize (Gc.at_ g.l q).live = lq at *
                have i1 := IntWalk.i64_in ((sq : Int) + lq) ⟨by omega, by omega⟩
                go_wp2_with fail
                go_roundw
                case rel => exact ⟨q + 1, by omega, by rw [hS1.out], by go_num, trivial⟩
                case measure => simp [intOf]; omega
              · obtain rfl : q = 16 := by omega
                rw [hsum]
                clear hsum hsl
                go_wp2_with fail
                refine (awake_calls _).mono ?_
                rintro e w7 ⟨rfl, hb⟩
                have HB7 := Lib.hid (HT6.out.bel.then_ hb)
                clear hb
                go_wp2_with fail
                go_ret
                exact ⟨rfl, HB7.out⟩
end Go.Proofs.Ytkkkggeagjgbeaa
