/-
  The reference's SameBytes: two slices of bytes, as texts, are the same.
-/
/-
  The statement TopHammerSaid: for every input the law cuneiformtop.TopHammer returns true, and each argument reads behind the call as it read before.
-/
import Derived.Test.YtiipnpfaaghekaaGreatBytes
import Derived.Test.YtiipnpfaaghekaaGreatNumMath
import Derived.Laws.BytesArg
import Derived.Laws.BytesString
import Derived.Lib.SlicesS
import Derived.Test.YtiipnpfaaghekaaGreatHamM
import Derived.Test.YtiipnpfaaghekaaGreatTopAwake
import Derived.Deep.DeepCutAuto
import Derived.Test.YtiipnpfaaghekaaGreatFrame
/-
  One page written again and again: the law's walk.
-/
namespace Go.Proofs.YtiipnpfaaghekaaGreat
open Go.RowKit Go

theorem convB {w : World} {B : Nat} {a : Option Addr} {n c : Nat} {xs : List UInt8} (hx : Bytes w B a n xs) :
    (convert 22 9 (.slice a n c)).run Tryz.prog w = .ok (.string (strL xs)) w := by
  have hl := hx.len
  by_cases hn : n = 0
  · subst hn
    obtain rfl : xs = [] := List.eq_nil_of_length_eq_zero hl
    rw [run_convert_bytes_string w _ _ _ a 0 c Tryz.underlying22 Tryz.underlying5 Tryz.underlying9]
    cases a with
    | none => rfl
    | some a =>
      have h := run_loadCells_list (P := Tryz.prog) w a [] (fun j v hj => by simp at hj)
      exact run_bytesToString w a 0 c [] h
  · obtain ⟨b, o, _, rfl, _, _⟩ := hx.at_ (k := 0) (by omega)
    have h := run_convert_bytes_arg (P := Tryz.prog) w 22 5 Tryz.underlying22 Tryz.underlying5 b o n c (xs.map fun x => (x.toNat : Int)) (by simp [hl])
      (fun i hi => by
        obtain ⟨b', o', hi', hb, _, hc⟩ := hx.at_ hi
        simp only [Option.some.injEq, Addr.mk.injEq, and_true] at hb
        obtain ⟨rfl, rfl⟩ := hb
        rw [hc]
        simp [List.getD, hi']) 9 Tryz.underlying9
    have e : (xs.map fun x => (x.toNat : Int)).map (fun n => UInt8.ofNat n.toNat) = xs := by
      rw [List.map_map]
      conv => rhs; rw [← List.map_id xs]
      apply List.map_congr_left
      intro x _
      simp
    have e2 : strOfNums (xs.map fun x => (x.toNat : Int)) = strL xs := by
      unfold strOfNums strL
      rw [e]
    rw [e2] at h
    exact h
theorem strL_beq (xs ys : List UInt8) : ((strL xs).toList == (strL ys).toList) = decide (xs = ys) := by
  by_cases h : xs = ys
  · rw [h]; simp
  · rw [decide_eq_false h]
    exact (Lib.bytes_beq_false_iff _ _).2 (fun e => h (strL_inj e))
theorem same_calls (a b : Option Addr) (n c m d : Nat) (xs ys : List UInt8) (w : World) (hx : Bytes w w.heap.size a n xs) (hy : Bytes w w.heap.size b m ys) :
    Calls Tryz.prog 11 #[.slice a n c, .slice b m d] w fun e w' => e = .returned (.bool (decide (xs = ys))) ∧ w = w' := by
  have h1 := convB (c := c) hx
  have h2 := convB (c := d) hy
  go_enter Tryz.func11, Tryz.ntmps11
  go_wp2_with fail
  rw [strL_beq]
  go_ret
  exact ⟨rfl, rfl⟩
theorem same_yes (a b : Option Addr) (n c m d : Nat) (xs : List UInt8) (w : World) (hx : Bytes w w.heap.size a n xs) (hy : Bytes w w.heap.size b m xs) :
    Calls Tryz.prog 11 #[.slice a n c, .slice b m d] w fun e w' => e = .returned (.bool true) ∧ w = w' := by
  refine (same_calls a b n c m d xs xs w hx hy).mono ?_
  rintro e w' ⟨rfl, rfl⟩
  exact ⟨by simp, rfl⟩
end Go.Proofs.YtiipnpfaaghekaaGreat
namespace Go.Proofs.YtiipnpfaaghekaaGreat
open Go.RowKit Ftl Ham

set_option maxRecDepth 100000 in
set_option maxHeartbeats 16000000 in
theorem topHammer_walk (a0 : Option Addr) (n0 c0 : Nat) (x0 : List UInt8) (x1 : UInt16) (w : World) (g0 : Bytes w w.heap.size a0 n0 x0) (nc0 : n0 ≤ c0) (_ : c0 ≤ 140737488351232) :
    Calls Tryz.prog 3 #[.slice a0 n0 c0, .int .u16 (x1.toNat : Int)] w fun e w' => e = .returned (.bool true) ∧ Below w.heap.size w w' := by
  have HX := Lib.hid g0
  have HNC := Lib.hid nc0
  clear g0 nc0
  go_enter Tryz.func3, Tryz.ntmps3
  go_wp2_with fail
  refine (made_calls w).mono ?_
  rintro e w1 ⟨B, R, f, rfl, hB, hf, hd, hb⟩
  obtain ⟨F, hF⟩ : ∃ F, F = f.F := ⟨_, rfl⟩
  obtain ⟨C, hC⟩ : ∃ C, C = f.g.C := ⟨_, rfl⟩
  rw [← hF, ← hC]
  have HS1 := Lib.hid (fun ks => show Hs w B F C R f ks 0 none 1 2 w1 from ⟨hf, Hm.start hd hf.hS.uq ks, hF.symm, hC.symm, hd.sq, hb, hB⟩)
  clear hB hf hd hb hF hC
  have hcu := cutB_to a0 n0 c0 60
  have hnc := HNC.out
  go_upto_if 23 with fail
  go_cut [0] (fun v wx => wx = w1 ∧ ∃ (n c : Nat) (ks : List UInt8), v = .slice a0 n c ∧ n ≤ 60 ∧ Bytes w w.heap.size a0 n ks)
  case first =>
    by_cases h1 : 60 < n0
    · have hcu2 := hcu (by omega)
      have h1i : (60 : Int) < (n0 : Int) := by omega
      clear hcu
      go_wp2_with fail
      go_meet
      exact ⟨rfl, 60, c0, _, rfl, Nat.le_refl _, HX.out.take (by omega)⟩
    · have h1i : ¬ (60 : Int) < (n0 : Int) := by omega
      clear hcu
      go_wp2_with fail
      go_meet
      exact ⟨rfl, n0, c0, x0, rfl, by omega, HX.out⟩
  case rest =>
    obtain ⟨hwx, n, c, ks, rfl, hn, hks⟩ := hcut
    subst hwx
    have HK := Lib.hid hks
    have HKl := Lib.hid hks.len
    clear hcu hnc hks HX HNC
    have HS2 := Lib.hid (HS1.out ks)
    clear HS1
    go_wp2_with fail
    go_loopw [7] (fun i wr => ∃ (k : Nat) (R : Nat → Prop) (f : Fm), k ≤ n ∧ i = .int .i64 (k : Int) ∧ Hs w B F C R f ks k none (k + 1) (k + 2) wr) (fun i _ => n - (intOf i).toNat)
    case atStart => exact ⟨0, R, f, Nat.zero_le _, rfl, HS2.out⟩
    case round =>
      obtain ⟨k, R, f, hk, rfl, hs⟩ := hrel
      have HS := Lib.hid hs
      clear hs HS2
      by_cases hlt : k < n
      · have hlk : k < ks.length := by rw [HKl.out]; exact hlt
        obtain ⟨b, o, _, rfl, hbl, hce⟩ := HK.out.atv hlt
        have hcr := (HS.out.bel.cell (p := ⟨b, o + k, none⟩) hbl).trans hce
        have hk0 : (0 : Int) ≤ (k : Int) := by omega
        have hk1 : (k : Int) < (n : Int) := by omega
        have iu := IntWalk.u32_in (k : Int) ⟨by omega, by omega⟩
        have iv := IntWalk.u32_in ((k : Int) + 2) ⟨by omega, by omega⟩
        have HKk := Lib.hid (fun (W : World) (n : Nat) (m : Nat) (R : Nat → Prop) (f : Fm) (hW : Hs w B F C R f ks k none m n W) => @keep_calls f ks k m w W B F C n R hW hlk (by rw [HKl.out]; exact hn))
        obtain ⟨x, hx⟩ : ∃ x, x = ks[k] := ⟨_, rfl⟩
        rw [← hx] at hcr HKk
        clear hx hce
        change wr.cell? ⟨b, o + k, none⟩ = some (.int .u8 (x.toNat : Int)) at hcr
        have HA := Lib.hid (Arr.lit (f := byteV) wr 5 [x] 1 rfl (by omega) (cs := #[.int .u8 (x.toNat : Int)]) rfl)
        have HT := Lib.hid (HS.out.on ((Below.refl wr.heap.size wr).alloc (Nat.le_refl _) (.cells #[.int .u8 (x.toNat : Int)] 5)))
        go_wp2_with fail
        refine (page_calls _ 1 1 [x] _ HA.out).mono ?_
        rintro e w3 ⟨⟨a', c', rfl, ho⟩, hb3⟩
        have HT3 := Lib.hid (HT.out.on hb3)
        have HAp := Lib.hid (ne_new HT.out.ft ho)
        have HO := Lib.hid ho
        clear ho hb3 HA HT hcr
        go_wp2_with fail
        refine (HKk.out w3 _ _ _ _ HT3.out (by omega) (by omega) a' c' (HO.out.arr (by rw [pageL_len]; decide)) HAp.out).mono ?_
        rintro e w4 ⟨rfl, R4, f4, h4⟩
        have H4 := Lib.hid h4
        clear h4
        go_wp2_with fail
        go_roundw
        case rel => exact ⟨k + 1, R4, f4, by omega, by go_num, H4.out⟩
        case measure => simp [intOf]; omega
      · obtain rfl : k = n := by omega
        obtain ⟨N, hN⟩ : ∃ N, N = x1.toNat % 500 := ⟨_, rfl⟩
        go_upto_region 12 with fail
        rw [show (x1.toNat : Int) % 500 = (N : Int) by omega]
        have hN5 : N < 500 := by omega
        have HN5 := Lib.hid hN5
        clear hN hk hlt
        have HS2 := Lib.hid (HS.out.more (m' := 62) (by omega))
        have hn60 := hn
        have HLk := HKl
        clear HS HKl
        obtain ⟨L, hL⟩ : ∃ L, L = k := ⟨_, rfl⟩
        rw [← hL] at HS2 HLk hn hn60 HK ⊢
        clear hL hN5
        go_wp2_with fail
        go_loopw [9] (fun i wr => ∃ (k : Nat) (R : Nat → Prop) (f : Fm) (d : Option (List UInt8)), k ≤ N + 1 ∧ i = .int .i64 (k : Int) ∧ Hs w B F C R f ks L d 62 (L + 2 + 2 * k) wr ∧ Last k d) (fun i _ => N + 1 - (intOf i).toNat)
        case atStart => exact ⟨0, R, f, none, Nat.zero_le _, rfl, HS2.out, fun h => absurd h (Nat.lt_irrefl _)⟩
        case round =>
          obtain ⟨j, R2, f2, d, hj, rfl, hs, hla⟩ := hrel
          have HS := Lib.hid hs
          have HLa := Lib.hid hla
          have hN5 := HN5.out
          clear hs hla HS2
          by_cases hlt : j ≤ N
          · have hj0 : (0 : Int) ≤ (j : Int) := by omega
            have hj1 : (j : Int) ≤ (N : Int) := by omega
            have q5 : IntKind.u8.wrap (j : Int) = (j : Int) % 256 := IntKind.wrap_u8 _
            have q6 : IntKind.u8.wrap ((j : Int) / 256) = (j : Int) / 256 := IntWalk.u8_in _ ⟨by omega, by omega⟩
            have HA := Lib.hid (Arr.lit (f := byteV) wr 5 (dig j) 2 rfl (by omega) (dig_cells (k := j) (by omega)))
            have HT := Lib.hid (HS.out.on ((Below.refl wr.heap.size wr).alloc (Nat.le_refl _) (.cells #[.int .u8 ((j : Int) % 256), .int .u8 ((j : Int) / 256)] 5)))
            have hmk := mk56
            go_wp2_with fail
            refine (page_calls _ 2 2 (dig j) _ HA.out).mono ?_
            rintro e w3 ⟨⟨a', c', rfl, ho⟩, hb3⟩
            have HT3 := Lib.hid (HT.out.on hb3)
            have HAp := Lib.hid (ne_new HT.out.ft ho)
            have HO := Lib.hid ho
            clear ho hb3 HA HT
            go_wp2_with fail
            refine (hit_calls HT3.out (Nat.le_refl _) (by omega) a' c' _ (HO.out.arr (by rw [pageL_len]; decide)) HAp.out).mono ?_
            rintro e w4 ⟨rfl, R4, f4, h4⟩
            have HT4 := Lib.hid (h4.on ((Below.refl w4.heap.size w4).alloc (Nat.le_refl _) (.cells (Array.replicate 56 (.int .u8 0)) 5)))
            have ho4 := ownMadeZ w4 w4.heap.size 56 (Nat.le_refl _) (by omega)
            have HO4 := Lib.hid (ho4.arr (by simp))
            have HAp4 := Lib.hid (ne_new h4.ft ho4)
            clear h4 ho4
            go_wp2_with fail
            refine (seal_calls HT4.out (by omega) _ 56 _ HO4.out HAp4.out).mono ?_
            rintro e w5 ⟨rfl, R5, f5, h5⟩
            have H5 := Lib.hid h5
            clear h5 hmk
            go_wp2_with fail
            refine (gap_st H5.out (by omega)).mono ?_
            rintro e w6 ⟨⟨g, hg, rfl⟩, h6⟩
            have H6 := Lib.hid h6
            have hg4 : decide (4 < g) = false := decide_eq_false (by omega)
            have hg5 : ¬ 4 < g := by omega
            clear h6
            go_wp2_with fail
            go_roundw
            case rel => exact ⟨j + 1, R5, f5, _, by omega, by go_num, by rw [show L + 2 + 2 * (j + 1) = L + 2 + 2 * j + 1 + 1 by omega]; exact H6.out, fun _ => by rw [Nat.add_sub_cancel]⟩
            case measure => simp [intOf]; omega
          · obtain rfl : j = N + 1 := by omega
            have hd := HLa.out (Nat.succ_pos N)
            rw [Nat.add_sub_cancel] at hd
            subst hd
            have HS3 := HS
            clear HS HLa hj hlt
            have e1 : ¬ ((N : Int) + 1 ≤ (N : Int)) := by omega
            go_wp2_with fail
            go_loopw [10, 11, 12] (fun i _ _ wr => ∃ (k : Nat) (R : Nat → Prop) (f : Fm), k ≤ L ∧ i = .int .i64 (k : Int) ∧ Hs w B F C R f ks L (some (pageL (dig N))) 62 (L + 2 + 2 * (N + 1)) wr) (fun i _ _ _ => L - (intOf i).toNat)
            case atStart => exact ⟨0, R2, f2, Nat.zero_le _, rfl, HS3.out⟩
            case round =>
              obtain ⟨q, R3, f3, hq, rfl, hs⟩ := hrel
              have HS := Lib.hid hs
              clear hs HS3 e1
              by_cases hlt : q < L
              · have hlk : q < ks.length := by rw [HLk.out]; exact hlt
                obtain ⟨b, o, _, rfl, hbl, hce⟩ := HK.out.atv hlt
                have hk0 : (0 : Int) ≤ (q : Int) := by omega
                have hk1 : (q : Int) < (L : Int) := by omega
                have iu := IntWalk.u32_in (q : Int) ⟨by omega, by omega⟩
                have iv := IntWalk.u32_in ((q : Int) + 2) ⟨by omega, by omega⟩
                have hgt := get_calls HS.out hlk hlt (by rw [HLk.out]; exact hn60)
                obtain ⟨x, hx⟩ : ∃ x, x = ks[q] := ⟨_, rfl⟩
                rw [← hx] at hce hgt
                have HG := Lib.hid hgt
                clear hx hgt
                change w.cell? ⟨b, o + q, none⟩ = some (.int .u8 (x.toNat : Int)) at hce
                have HCe := Lib.hid hce
                have HBl := Lib.hid hbl
                clear hce hbl
                go_wp2_with fail
                refine HG.out.mono ?_
                rintro e w3 ⟨⟨a3, c3, rfl, hb3⟩, R4, f4, h4⟩
                have hcr := (h4.bel.cell (p := ⟨b, o + q, none⟩) HBl.out).trans HCe.out
                have HA := Lib.hid (Arr.lit (f := byteV) w3 5 [x] 1 rfl (by omega) (cs := #[.int .u8 (x.toNat : Int)]) rfl)
                have hba := (Below.refl w3.heap.size w3).alloc (Nat.le_refl _) (.cells #[.int .u8 (x.toNat : Int)] 5)
                have HT := Lib.hid (h4.on hba)
                have HX3 := Lib.hid (hb3.on hba)
                clear hb3 h4 hba
                go_wp2_with fail
                refine (page_calls _ 1 1 [x] _ HA.out).mono ?_
                rintro e w4 ⟨⟨a', c', rfl, ho⟩, hb4⟩
                have HT4 := Lib.hid (HT.out.on hb4)
                have HX4 := Lib.hid (HX3.out.on hb4)
                have HO := Lib.hid (ho.arr (by rw [pageL_len]; decide))
                clear ho hb4 HT HX3 HA hcr
                go_wp2_with fail
                refine (same_yes _ _ 64 _ 64 _ _ _ HX4.out HO.out).mono ?_
                rintro e w_ ⟨rfl, rfl⟩
                go_wp2_with fail
                go_roundw
                case rel => exact ⟨q + 1, R4, f4, by omega, by go_num, HT4.out⟩
                case measure => simp [intOf]; omega
              · obtain rfl : q = L := by omega
                have HG := Lib.hid (get1_calls HS.out)
                have q5 : IntKind.u8.wrap (N : Int) = (N : Int) % 256 := IntKind.wrap_u8 _
                have q6 : IntKind.u8.wrap ((N : Int) / 256) = (N : Int) / 256 := IntWalk.u8_in _ ⟨by omega, by omega⟩
                clear hq hlt
                go_wp2_with fail
                refine HG.out.mono ?_
                rintro e w3 ⟨⟨a3, c3, rfl, hb3⟩, R4, f4, h4⟩
                have HA := Lib.hid (Arr.lit (f := byteV) w3 5 (dig N) 2 rfl (by omega) (dig_cells (k := N) (by omega)))
                have hba := (Below.refl w3.heap.size w3).alloc (Nat.le_refl _) (.cells #[.int .u8 ((N : Int) % 256), .int .u8 ((N : Int) / 256)] 5)
                have HT := Lib.hid (h4.on hba)
                have HX3 := Lib.hid (hb3.on hba)
                clear hb3 h4 hba HG
                go_wp2_with fail
                refine (page_calls _ 2 2 (dig N) _ HA.out).mono ?_
                rintro e w4 ⟨⟨a', c', rfl, ho⟩, hb4⟩
                have HT4 := Lib.hid (HT.out.on hb4)
                have HX4 := Lib.hid (HX3.out.on hb4)
                have HO := Lib.hid (ho.arr (by rw [pageL_len]; decide))
                clear ho hb4 HT HX3 HA
                go_wp2_with fail
                refine (same_yes _ _ 64 _ 64 _ _ _ HX4.out HO.out).mono ?_
                rintro e w_ ⟨rfl, rfl⟩
                go_wp2_with fail
                refine (ro_st HT4.out).mono ?_
                rintro e w5 ⟨rfl, hb5⟩
                have HB5 := Lib.hid (HT4.out.bel.then_ hb5)
                clear hb5
                go_wp2_with fail
                refine (awake_calls w5).mono ?_
                rintro e w6 ⟨rfl, hb6⟩
                have HB6 := Lib.hid (HB5.out.then_ hb6)
                clear hb6
                go_wp2_with fail
                go_ret
                exact ⟨rfl, HB6.out⟩
end Go.Proofs.YtiipnpfaaghekaaGreat
namespace Go.Proofs.YtiipnpfaaghekaaGreat.topHammer
open Go.ChangeShapes Go.WideShapes Go.ChangeAt Go.RowKit
open Go.ChangeMaps (open_string shut_string)

set_option maxRecDepth 100000 in
theorem lifted (os : Os) (started : os.Started) (H : Type) (enc : TypeId × Value → H) :
    ReturnsInHanded {} Tryz.checked os 3 .any (Rows.topHammerSpec.pre6 enc Tryz.prog Tryz.f3 Rows.topHammerRow.domain false) (Rows.topHammerSpec.post enc Tryz.prog Tryz.f3 false true false false) := by
  refine returnsInHanded_of_change_sized (C := Tryz.checked) own started (by kernel_rfl) Tryz.func3
    (ChangeSpec.witness6 (enc := enc) (C := Tryz.checked) false ⟨#[], #[.slice none 0 0, .int .u16 0], []⟩ 8 (by kernel_rfl) (by kernel_rfl) (by kernel_rfl) (by kernel_rfl)) ?_
  intro W base args ds gs before hval0 hW _ hsz0 _
  have hval : ∀ (j : Nat) t v, Tryz.f3.params[j]? = some t → args[j]? = some v → Value.okWide Tryz.prog W .any base t v := hval0
  have hsz : (DataW.weightsEach Tryz.prog (Tryz.f3.params.toList ++ Rows.topHammerSpec.plain.varTypes Tryz.prog) (ds ++ gs)).all (· ≤ reachBytes) = true := hsz0
  have hW' := hW
  obtain ⟨p, q, hA0, hV, rfl, hfz, hnd⟩ := hW
  have hA : DataW.TrodAll enc Tryz.prog W 0 (fun _ => true) true Tryz.f3.params.toList args.toList ds p := hA0
  rw [Tryz.params3] at hA hval hsz
  obtain ⟨v0, vs0, d0, ds0, p0, q0, hargs, rfl, rfl, h0, r0⟩ := trodAll_cons hA
  obtain ⟨v1, vs1, d1, ds1, p1, q1, rfl, rfl, rfl, h1, r1⟩ := trodAll_cons r0
  obtain ⟨rfl, rfl, rfl⟩ := trodAll_nil r1
  obtain rfl : args = #[v0, v1] := by cases args; simp_all
  obtain ⟨rfl, rfl⟩ := trodVars_none hV
  have k0 := h0
  have lt0 : ∀ x ∈ p0, x.block < W.heap.size := by obtain ⟨m, hm⟩ := k0; exact DataW.trod_lt m _ _ _ hm
  have TR0 := fun (W' : World) (hb : Below W.heap.size W W') => Below.trod laidOut (by kernel_rfl) (of_decide_eq_true (by kernel_rfl)) k0 hb lt0
  clear k0
  obtain ⟨a0, n0, c0, rfl⟩ := okWide_slice Tryz.underlying22 (hval 0 22 v0 rfl rfl)
  obtain ⟨x0, g0, nc0, cm0⟩ := open_bytes h0 (fun elems spare e => by subst e; exact sized_slice hsz (j := 0) (t := 22) (e := 5) rfl rfl Tryz.underlying22)
  have k1 := h1
  have lt1 : ∀ x ∈ p1, x.block < W.heap.size := by obtain ⟨m, hm⟩ := k1; exact DataW.trod_lt m _ _ _ hm
  have TR1 := fun (W' : World) (hb : Below W.heap.size W W') => Below.trod laidOut (by kernel_rfl) (of_decide_eq_true (by kernel_rfl)) k1 hb lt1
  clear k1
  obtain ⟨a1, rfl, _, _, w1⟩ := open_int Tryz.underlying23 (hval 1 23 v1 rfl rfl) h1
  obtain ⟨x1, rfl⟩ := as_u16 w1
  clear hA0 hval0
  refine (topHammer_walk a0 n0 c0 x0 x1 W g0 nc0 cm0).mono fun e W' ⟨he, bel⟩ => ?_
  subst he
  exact ⟨_, rfl, _, _, _, [], _, [], hW', trodAll_mk1 (shut_bool Tryz.underlying4 _), (trodAll_cons_mk (TR0 _ bel) (trodAll_cons_mk (TR1 _ bel) trodAll_mk0)), rfl, bel.frame _, fun h => by cases h⟩

theorem over : Rows.topHammerRow.holds Tryz.pinned (OpenSpec.ofChange Rows.topHammerSpec) :=
  OpenClaim.holds_of_wide 3 Tryz.f3 rfl rfl rfl rfl rfl rfl rfl ⟨rfl, rfl, rfl, rfl, rfl⟩ rfl rfl rfl rfl rfl (by kernel_rfl) Tryz.func3 (by kernel_rfl)
    (of_decide_eq_true (by kernel_rfl)) (by unfold Func.isWrapper; rw [if_neg (by decide +kernel)]; exact ⟨rfl, rfl⟩)
    (fun os started H enc _ => lifted os started H enc)

/-- The statement. -/
theorem proved : Rows.TopHammerSaid := over
#print axioms proved
end Go.Proofs.YtiipnpfaaghekaaGreat.topHammer
