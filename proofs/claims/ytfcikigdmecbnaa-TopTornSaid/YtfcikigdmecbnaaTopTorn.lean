/-
  A page is whole, torn or erased: the law's walk.
-/
import Derived.Test.YtfcikigdmecbnaaTopSmall
import Derived.Test.YtfcikigdmecbnaaNandScript
import Derived.Test.YtfcikigdmecbnaaNandRead
import Derived.Test.YtfcikigdmecbnaaRowsFrame
import Derived.Deep.DeepCutAuto
import Derived.Deep.CutBlock
namespace Go.Proofs.Ytfcikigdmecbnaa
open Go.RowKit

/-- Page k's tag, and its bytes. -/
def tgT (k : Nat) : Tg := ⟨1, k + 1, k + 1, 1⟩
def pgT (ls : List (List UInt8)) (k : Nat) : List UInt8 := Tg.page (tgT k) (pageL (ls.getD k []))
/-- How block 2 stands behind k strokes that went well; the power goes in stroke A of n. -/
def pgs (ls : List (List UInt8)) (k : Nat) : Nat → Option (List UInt8) := fun j => if j < k then some (pgT ls j) else none
def stT (ls : List (List UInt8)) (dt : List UInt8) (A n k : Nat) : Nat → Option (List UInt8) := fun j => if j < k then some (pgT ls j) else if j = k ∧ k = A ∧ k < n then some (tornL dt) else none
def cnT (v : Value) (k : Nat) : Cn := ⟨v, k, false, k, 0⟩
def flT (A : Nat) (dt : List UInt8) : List Fl := [⟨(A : Int), 2, dt⟩]
theorem fnd_lt {A k : Nat} {dt : List UInt8} (h : k ≠ A) : (fnd (flT A dt) k).kind = 0 := by
  unfold fnd flT
  rw [List.find?_cons_of_neg (by simp; omega)]
  rfl
theorem fnd_at {A : Nat} {dt : List UInt8} : fnd (flT A dt) A = ⟨(A : Int), 2, dt⟩ := by
  unfold fnd flT
  rw [List.find?_cons_of_pos (by simp)]
  rfl
theorem tgT_right {k : Nat} (h : k < 8) : Tg.Right (tgT k) := ⟨.inl rfl, by show k + 1 < 8192; omega, by show 1 ≤ k + 1; omega, by show k + 1 < 4611686018427387904; omega, by show 1 ≤ 1; omega, by show 1 < 4611686018427387904; omega⟩
theorem pgT_len (ls : List (List UInt8)) (k : Nat) : (pgT ls k).length = 96 := by rw [pgT, Tg.page_len, pageL_len]
theorem st_len {ls : List (List UInt8)} {dt : List UInt8} {A n k j : Nat} (hd : dt.length ≤ 96) : ∀ L, stT ls dt A n k j = some L → L.length = 96 := by
  intro L h
  unfold stT at h
  split at h
  · cases h; exact pgT_len ls j
  · split at h
    · cases h; exact tornL_len hd
    · cases h
theorem pgL_len {ls : List (List UInt8)} {dt : List UInt8} {A n k j : Nat} (hd : dt.length ≤ 96) : (pgL (stT ls dt A n k j)).length = 96 := by
  unfold pgL
  split
  · rw [List.length_replicate]
  · rename_i L h; exact st_len hd L h
theorem st_whole {ls : List (List UInt8)} {dt : List UInt8} {A n k j : Nat} (hk : k ≤ 8) (h : j < k) : Tg.readT (pgL (stT ls dt A n k j)) = tgT j ∧ Tg.readP (pgL (stT ls dt A n k j)) = pageL (ls.getD j []) ∧ Tg.readE (pgL (stT ls dt A n k j)) = 0 := by
  unfold stT
  rw [if_pos h]
  exact Tg.read_page (tgT_right (by omega)) (by rw [pageL_len]; exact .inl rfl)
theorem ones_erased : Tg.readE (List.replicate 96 255) = 20 := by
  unfold Tg.readE
  rw [List.length_replicate, if_pos (.inl rfl), if_pos (by unfold Tg.full; rw [List.all_replicate]; simp)]
theorem readE_96 {L : List UInt8} (h : L.length = 96) : Tg.readE L = 0 ∨ Tg.readE L = 20 ∨ Tg.readE L = 21 := by
  unfold Tg.readE
  rw [h, if_pos (.inl rfl)]
  split
  · exact .inr (.inl rfl)
  · split
    · exact .inl rfl
    · exact .inr (.inr rfl)
theorem st_rest {ls : List (List UInt8)} {dt : List UInt8} {A n k j : Nat} (h : ¬ j < k) : (pgL (stT ls dt A n k j) = tornL dt ∧ j = k ∧ k = A ∧ k < n) ∨ Tg.readE (pgL (stT ls dt A n k j)) = 20 := by
  unfold stT
  rw [if_neg h]
  by_cases h2 : j = k ∧ k = A ∧ k < n
  · rw [if_pos h2]
    exact .inl ⟨rfl, h2⟩
  · rw [if_neg h2]
    exact .inr ones_erased
theorem pgs_step (ls : List (List UInt8)) (k j : Nat) : (if j = k then some (pgT ls k) else pgs ls k j) = pgs ls (k + 1) j := by
  unfold pgs
  by_cases h : j = k
  · subst h; rw [if_pos rfl, if_pos (by omega)]
  · rw [if_neg h]
    by_cases h2 : j < k
    · rw [if_pos h2, if_pos (by omega)]
    · rw [if_neg h2, if_neg (by omega)]
theorem stT_torn (ls : List (List UInt8)) (dt : List UInt8) {A n k : Nat} (h : k = A) (h2 : k < n) (j : Nat) : (if j = k then some (tornL dt) else pgs ls k j) = stT ls dt A n k j := by
  unfold pgs stT
  by_cases hj : j = k
  · subst hj; rw [if_pos rfl, if_neg (by omega), if_pos ⟨rfl, h, h2⟩]
  · rw [if_neg hj, if_neg (c := j = k ∧ k = A ∧ k < n) (fun e => hj e.1)]
theorem stT_whole (ls : List (List UInt8)) (dt : List UInt8) {A n k : Nat} (h : ¬ (k = A ∧ k < n)) (j : Nat) : pgs ls k j = stT ls dt A n k j := by
  unfold pgs stT
  rw [if_neg (c := j = k ∧ k = A ∧ k < n) (fun e => h e.2)]
set_option maxRecDepth 100000 in
set_option maxHeartbeats 4000000 in
theorem topTorn_walk (a0 : Option Addr) (n0 c0 : Nat) (rs : List (Option Addr × Nat × Nat)) (ls : List (List UInt8)) (x1 : UInt8) (a2 : Option Addr) (n2 c2 : Nat) (x2 : List UInt8) (w : World) (g0 : RowsAt w w.heap.size a0 n0 rs ls) (g2 : Bytes w w.heap.size a2 n2 x2) (nc2 : n2 ≤ c2) (cm2 : c2 ≤ 140737488351232) :
    Calls Try.prog 3 #[.slice a0 n0 c0, .int .u8 (x1.toNat : Int), .slice a2 n2 c2] w fun e w' => e = .returned (.bool true) ∧ Below w.heap.size w w' := by
  have HR := Lib.hid g0
  have HX := Lib.hid g2
  go_enter Try.func3, Try.ntmps3
  go_upto_if 24 with (fail)
  go_cut [2] (fun v wx => ∃ m d', v = .slice a2 m c2 ∧ m ≤ 96 ∧ Bytes w w.heap.size a2 m d' ∧ w = wx)
  case first =>
    by_cases hlt : 96 < n2
    · have hc96 : ∀ u : World, (Instr.slice 23 (.slice a2 n2 c2) none (some (.int .i64 96)) none).run Try.prog u = .ok (.slice a2 96 c2) u := fun u => cutB_to a2 n2 c2 96 (by omega) u
      go_wp2_with fail
      go_meet
      exact ⟨96, _, rfl, by omega, HX.out.take (by omega), rfl⟩
    · go_wp2_with fail
      go_meet
      exact ⟨n2, _, rfl, by omega, HX.out, rfl⟩
  case rest =>
    obtain ⟨m, dt, rfl, hm, hx, hw⟩ := hcut
    subst hw
    have HX2 := Lib.hid hx
    clear hx g0 g2 HX
    go_wp2_with fail
    refine (small_calls _).mono ?_
    rintro e w1 ⟨rfl, h_⟩
    have HB1 := Lib.hid h_
    clear h_
    go_wp2_with fail
    refine (new_calls 2 (by omega) _).mono ?_
    rintro e w2 ⟨⟨C, BL, P, rfl, hc⟩, hb⟩
    have HB2 := Lib.hid (HB1.out.then_ hb)
    have HC2 := Lib.hid (hc.on ((Below.refl w2.heap.size w2).alloc (Nat.le_refl _) (.cells #[.int .i64 ((x1.toNat % 8 : Nat) : Int), .int .i64 2, .slice a2 m c2] 33)))
    obtain ⟨A, hA⟩ : ∃ A, A = x1.toNat % 8 := ⟨_, rfl⟩
    have hA2 : ((x1.toNat : Nat) : Int) % 8 = (A : Int) := by omega
    have hA8 : A < 8 := by omega
    have hfr := ArrM.lit1 (m := 3) (f := fvL) w2 33 ⟨(A : Int), 2, .slice a2 m c2⟩ (cs := #[.int .i64 (A : Int), .int .i64 2, .slice a2 m c2]) rfl
    have HB3 := Lib.hid (HB2.out.alloc HB2.out.size (.cells #[.int .i64 (A : Int), .int .i64 2, .slice a2 m c2] 33))
    have HFR := Lib.hid hfr
    have HC3 := Lib.hid (hc.on ((Below.refl w2.heap.size w2).alloc (Nat.le_refl _) (.cells #[.int .i64 (A : Int), .int .i64 2, .slice a2 m c2] 33)))
    have HCl := Lib.hid hc.hC.lt
    clear hc hb hA hfr
    go_wp2_with fail
    rw [hA2]
    have HX3 := Lib.hid (HX2.out.below HB3.out)
    refine (script_calls w1.heap.size w2.heap.size C BL P 2 0 cn0 noPg [] w2.heap.size 0 1 (A : Int) 2 a2 m c2 dt _ HC3.out HFR.out (by have := HCl.out; omega) (by omega) (HX3.out.mono HB1.out.size)).mono ?_
    rintro e w4 ⟨rfl, ⟨fv, hc⟩, hk⟩
    have HC4 := Lib.hid hc
    have HB4 := Lib.hid (HB3.out.trans ((HC3.out.below hk).mono HB1.out.size))
    have HA2 := Lib.hid hA2
    clear hc hk hA2
    have hl0 := HR.out.len
    have hr0 := HR.out.arr.len
    have HR4 := Lib.hid (HR.out.below HB4.out)
    have hB1 := HB1.out.size
    have hN := HC4.out.hN
    go_upto_block 0 with fail
    go_cut [9, 10, 11, 12, 13] (fun n _ _ _ _ wx => ∃ (k nx : Nat) (x : Cn), k ≤ 8 ∧ k ≤ n0 ∧ (k = n0 ∨ k = A) ∧ x.rd = 0 ∧ n = .int .i64 (k : Int) ∧ Chp w1.heap.size w2.heap.size wx C BL P 2 x nx (stT ls dt A n0 k) (flT A dt) ∧ Below w.heap.size w wx)
    case first =>
      go_wp2_with fail
      go_loopw [9, 10, 11, 12, 13] (fun n i _ _ _ wr => ∃ k : Nat, k ≤ 8 ∧ k ≤ n0 ∧ k ≤ A ∧ n = .int .i64 (k : Int) ∧ i = .int .i64 (k : Int) ∧ Chp w1.heap.size w2.heap.size wr C BL P 2 (cnT fv k) k (pgs ls k) (flT A dt) ∧ Below w.heap.size w wr) (fun _ i _ _ _ _ => 8 - (intOf i).toNat)
      case atStart => exact ⟨0, by omega, by omega, by omega, rfl, rfl, HC4.out, HB4.out⟩
      case round =>
        obtain ⟨k, hk8, hkn, hkA, rfl, rfl, hc, hb⟩ := hrel
        by_cases hlt : k < n0
        · have hk9 : k < 8 := by omega
          have HCr := Lib.hid hc
          have HBr := Lib.hid hb
          clear hc hb
          obtain ⟨b, o, hka, rfl, hbl, hce⟩ := HR.out.arr.atv hlt
          have hce2 := (HBr.out.cell (p := ⟨b, o + k, none⟩) hbl).trans hce
          have hu1 := IntWalk.u32_in ((k : Int)) ⟨by omega, by omega⟩
          have hu2 := IntWalk.u64_in ((k : Int)) ⟨by omega, by omega⟩
          have hu3 := IntWalk.u32_in ((k : Int) + 1) ⟨by omega, by omega⟩
          have hu4 := IntWalk.u64_in ((k : Int) + 1) ⟨by omega, by omega⟩
          have HX6 := Lib.hid (((HR.out.row k hka (by omega)).below HBr.out))
          have hk0 : (0 : Int) ≤ (k : Int) := by omega
          have hk1 : (k : Int) < (n0 : Int) := by omega
          have hk2 : (k : Int) < 8 := by omega
          clear hce
          generalize rs[k] = row at *
          obtain ⟨ra, rn, rc⟩ := row
          change wr.cell? ⟨b, o + k, none⟩ = some (.slice ra rn rc) at hce2
          have hlk : k < ls.length := by omega
          have HX7 := Lib.hid (show Bytes wr w.heap.size ra rn (ls.getD k []) by
            have e : ls.getD k [] = ls[k]'hlk := by rw [List.getD_eq_getElem?_getD, List.getElem?_eq_getElem hlk]; rfl
            rw [e]; exact HX6.out)
          have HRt := Lib.hid (tgT_right hk9)
          clear hlk
          go_wp2_with fail
          refine (page_calls ra rn rc (ls.getD k []) wr (HX7.out.mono HBr.out.size)).mono ?_
          rintro e w5 ⟨⟨a5, c5, rfl, ho⟩, hb⟩
          have HB5 := Lib.hid (HBr.out.then_ hb)
          have HC5 := Lib.hid (HCr.out.on hb)
          have HO5 := Lib.hid (ho.arr (by rw [pageL_len]; omega))
          clear ho hb hce2
          go_wp2_with fail
          refine (twrite_good (tgT k) a5 64 c5 (pageL (ls.getD k [])) w5 HRt.out (.inl rfl) HO5.out).mono ?_
          rintro e w6 ⟨⟨v6, rfl, ho⟩, hb⟩
          have HB6 := Lib.hid (HB5.out.then_ hb)
          have HC6 := Lib.hid (HC5.out.on hb)
          obtain ⟨a6, c6, rfl, _⟩ := ho.formN (pgT_len ls k)
          have HO6 := Lib.hid (show Own byteV 5 w6 w2.heap.size (.slice a6 96 c6) (pgT ls k) from ho.mono HC5.out.hN)
          clear ho hb
          by_cases hk : k = A
          · subst hk
            have hfl : (flT k dt).length ≤ 1000 := by simp [flT]
            have HFn := Lib.hid (fnd_at (A := k) (dt := dt))
            have hdl : (fnd (flT k dt) k).data.length ≤ 96 := by rw [HFn.out]; show dt.length ≤ 96; have := HX2.out.len; omega
            have HPr := Lib.hid (program_torn w1.heap.size w2.heap.size C BL P 2 k (cnT fv k) (pgs ls k) (flT k dt) a6 c6 (pgT ls k) w6 HC6.out rfl hk9 HO6.out (by show (fnd (flT k dt) k).kind = 2; rw [HFn.out]) hdl (by show k ≤ 1000000; omega) (by show k ≤ 1000000; omega) hfl)
            clear hfl hdl
            go_wp2_with fail
            refine HPr.out.mono ?_
            rintro e w7 ⟨rfl, h7, hk7⟩
            have HB7 := Lib.hid (HB6.out.trans ((HC6.out.below hk7).mono hB1))
            have H7 := Lib.hid h7
            clear h7 hk7
            go_wp2_with fail
            go_meet
            refine ⟨k, _, _, hk8, hkn, .inr rfl, rfl, rfl, H7.out.same fun j hj => ?_, HB7.out⟩
            have e : (fnd (flT k dt) (cnT fv k).si).data = dt := by show (fnd (flT k dt) k).data = dt; rw [HFn.out]
            rw [e]
            exact stT_torn ls dt rfl hlt j
          · have hfl : (flT A dt).length ≤ 1000 := by simp [flT]
            have HPr := Lib.hid (program_ok w1.heap.size w2.heap.size C BL P 2 k (cnT fv k) (pgs ls k) (flT A dt) a6 c6 (pgT ls k) w6 HC6.out rfl hk9 HO6.out (fnd_lt hk) (by show k ≤ 1000000; omega) (by show k ≤ 1000000; omega) hfl)
            clear hfl
            have hkA2 : k + 1 ≤ A := by omega
            go_wp2_with fail
            refine HPr.out.mono ?_
            rintro e w7 ⟨rfl, h7, hk7⟩
            have HB7 := Lib.hid (HB6.out.trans ((HC6.out.below hk7).mono hB1))
            have H7 := Lib.hid h7
            clear h7 hk7
            go_wp2_with fail
            go_roundw
            case rel => exact ⟨k + 1, by omega, by omega, hkA2, by go_num, by go_num, H7.out.same fun j hj => pgs_step ls k j, HB7.out⟩
            case measure => simp [intOf]; omega
        · obtain rfl : k = n0 := by omega
          have HCr := Lib.hid hc
          have HBr := Lib.hid hb
          clear hc hb
          go_wp2_with fail
          go_meet
          exact ⟨k, k, _, hk8, Nat.le_refl _, .inl rfl, rfl, rfl, HCr.out.same fun j hj => stT_whole ls dt (by omega) j, HBr.out⟩
    case rest =>
      obtain ⟨k, nx, x, hk8, hkn, hkA, hrd, rfl, hc, hb⟩ := hcut
      have HCr := Lib.hid hc
      have HBr := Lib.hid hb
      have hdl : dt.length ≤ 96 := by rw [HX2.out.len]; exact hm
      have HSt := Lib.hid (fun j => st_len (ls := ls) (A := A) (n := n0) (k := k) (j := j) hdl)
      obtain ⟨fv2, si, dn, sk, rd⟩ := x
      obtain rfl : rd = 0 := hrd
      have HDl := Lib.hid hdl
      clear hc hb hdl HFR HC3 HCl HB1 HB2 HB3 HC4 HB4 HR4
      go_wp2_with fail
      refine (start_calls _ _ C BL P 2 nx _ _ _ _ HCr.out).mono ?_
      rintro e w5 ⟨rfl, h5, hk5⟩
      have HC5 := Lib.hid h5
      have HB5 := Lib.hid (HBr.out.trans ((HCr.out.below hk5).mono hB1))
      clear h5 hk5 HCr HBr
      go_wp2_with fail
      go_loopw [14, 15, 16, 17, 18, 19, 20, 21] (fun i _ _ _ _ _ _ _ wr => ∃ j : Nat, j ≤ 8 ∧ i = .int .i64 (j : Int) ∧ Chp w1.heap.size w2.heap.size wr C BL P 2 ⟨fv2, si, false, sk, j⟩ nx (stT ls dt A n0 k) (flT A dt) ∧ Below w.heap.size w wr) (fun i _ _ _ _ _ _ _ _ => 8 - (intOf i).toNat)
      case atStart => exact ⟨0, by omega, rfl, HC5.out, HB5.out⟩
      case round =>
        obtain ⟨j, hj8, rfl, hc, hb⟩ := hrel
        have HCr := Lib.hid hc
        have HBr := Lib.hid hb
        clear hc hb HC5 HB5
        by_cases hlt : j < 8
        · go_wp2_with fail
          refine (read_calls _ _ C BL P 2 nx j _ _ _ wr HCr.out rfl hlt (by show j ≤ 1000000; omega) (HSt.out j)).mono ?_
          rintro e w6 ⟨⟨a6, c6, rfl, hc6, ho⟩, h6, hk6⟩
          have HC6 := Lib.hid h6
          have HB6 := Lib.hid (HBr.out.trans ((HCr.out.below hk6).mono hB1))
          have HO6 := Lib.hid (ho.arr (by obtain ⟨_, _, e, _⟩ := ho.form; injection e with _ e2 _; omega))
          clear h6 hk6 ho HCr HBr
          go_wp2_with fail
          refine (tread_calls a6 96 c6 _ w6 HO6.out hc6).mono ?_
          rintro e w7 ⟨a7, n7, c7, rfl, hp, hn7, hb7⟩
          have HC7 := Lib.hid (HC6.out.on hb7)
          have HB7 := Lib.hid (HB6.out.then_ hb7)
          have HP7 := Lib.hid hp
          have h1 := readE_96 (pgL_len (ls := ls) (A := A) (n := n0) (k := k) (j := j) HDl.out)
          have HW := Lib.hid (fun h => st_whole (ls := ls) (dt := dt) (A := A) (n := n0) (j := j) hk8 h)
          have HS := Lib.hid (fun h => st_rest (ls := ls) (dt := dt) (A := A) (n := n0) (k := k) (j := j) h)
          clear hp hb7 HC6 HB6 HO6
          generalize pgL (stT ls dt A n0 k j) = L at *
          generalize hT : Tg.readT L = T at *
          generalize hE : Tg.readE L = E at *
          have HT := Lib.hid hT
          have HE := Lib.hid hE
          have H1 := Lib.hid h1
          clear hT hE h1
          obtain ⟨tk, tp, ts, te⟩ := T
          have HC8 := Lib.hid (HC7.out.on ((Below.refl w7.heap.size w7).alloc (Nat.le_refl _) (.cells #[.int .i64 tk, .int .u32 (tp : Int), .int .u64 (ts : Int), .int .u64 (te : Int)] 40)))
          have HB8 := Lib.hid (HB7.out.alloc HB7.out.size (.cells #[.int .i64 tk, .int .u32 (tp : Int), .int .u64 (ts : Int), .int .u64 (te : Int)] 40))
          have HP8 := Lib.hid (HP7.out.alloc (.cells #[.int .i64 tk, .int .u32 (tp : Int), .int .u64 (ts : Int), .int .u64 (te : Int)] 40))
          have hbk := Blk.new w7 40 #[.int .i64 tk, .int .u32 (tp : Int), .int .u64 (ts : Int), .int .u64 (te : Int)]
          have b1 : (w7.alloc (.cells #[.int .i64 tk, .int .u32 (tp : Int), .int .u64 (ts : Int), .int .u64 (te : Int)] 40)).cell? ⟨w7.heap.size, 1, none⟩ = some (.int .u32 (tp : Int)) := hbk.cellv (i := 1) rfl
          clear hbk HC7 HB7 HP7
          go_upto_region 22 with fail
          generalize w7.heap.size = g7 at *
          generalize w7.alloc _ = w8 at *
          go_cut [19, 20] (fun e v wx => ∃ B, e = .int .i64 E ∧ v = .bool B ∧ (j < k → B = true) ∧ Below w8.heap.size w8 wx)
          case first =>
            by_cases hj : j < n0
            · by_cases he : E = 0
              · have hu1 := IntWalk.u32_in ((j : Int)) ⟨by omega, by omega⟩
                have hu3 := IntWalk.u32_in ((j : Int) + 1) ⟨by omega, by omega⟩
                by_cases hp : (tp : Int) = j + 1
                · obtain ⟨b, o, hka, rfl, hbl, hce⟩ := HR.out.arr.atv hj
                  have hce2 := (HB8.out.cell (p := ⟨b, o + j, none⟩) hbl).trans hce
                  have HX8 := Lib.hid (show Bytes w8 w8.heap.size rs[j].1 rs[j].2.1 (ls.getD j []) by
                    have hlk : j < ls.length := by omega
                    have e : ls.getD j [] = ls[j]'hlk := by rw [List.getD_eq_getElem?_getD, List.getElem?_eq_getElem hlk]; rfl
                    rw [e]; exact ((HR.out.row j hka hlk).below HB8.out).mono HB8.out.size)
                  have hj0 : (0 : Int) ≤ (j : Int) := by omega
                  have hj1 : (j : Int) < (n0 : Int) := by omega
                  clear hce
                  generalize rs[j] = row at *
                  obtain ⟨ra, rn, rc⟩ := row
                  change w8.cell? ⟨b, o + j, none⟩ = some (.slice ra rn rc) at hce2
                  go_wp2_with fail
                  refine (page_calls ra rn rc (ls.getD j []) _ HX8.out).mono ?_
                  rintro e w9 ⟨⟨a9, c9, rfl, ho⟩, hb9⟩
                  have HO9 := Lib.hid (ho.arr (by rw [pageL_len]; omega))
                  have HB9 := Lib.hid hb9
                  have HP9 := Lib.hid ((HP8.out.below hb9).mono hb9.size)
                  clear ho hb9
                  go_wp2_with fail
                  refine (same_calls a7 a9 n7 c7 64 c9 _ _ _ HP9.out HO9.out).mono ?_
                  rintro e w_ ⟨rfl, rfl⟩
                  go_wp2_with fail
                  go_meet
                  exact ⟨_, by rw [he], rfl, fun h => decide_eq_true ((HW.out h).2.1.trans (congrArg pageL (by rw [List.getD_eq_getElem?_getD, List.getElem?_eq_getElem (by omega)]; rfl))), HB9.out⟩
                · go_wp2_with fail
                  go_meet
                  exact ⟨false, by rw [he], rfl, fun h => absurd (congrArg Tg.p (HW.out h).1) (by show tp ≠ j + 1; omega), Below.refl _ _⟩
              · go_wp2_with fail
                go_meet
                exact ⟨false, rfl, rfl, fun h => absurd (HW.out h).2.2 he, Below.refl _ _⟩
            · go_wp2_with fail
              go_meet
              exact ⟨false, rfl, rfl, fun h => absurd h (by omega), Below.refl _ _⟩
          case rest =>
            obtain ⟨B, rfl, rfl, hB, hb⟩ := hcut
            have HC9 := Lib.hid (HC8.out.on hb)
            have HB9 := Lib.hid (HB8.out.then_ hb)
            have HBo := Lib.hid hB
            clear hB hb HC8 HB8 HP8 b1
            go_upto_region 23 with fail
            go_cut [19, 21] (fun e v wx => ∃ H, e = .int .i64 E ∧ v = .bool H ∧ (¬ j < k → E ≠ 20 → H = true) ∧ Below wc.heap.size wc wx)
            case first =>
              by_cases hjk : j = k
              · subst hjk
                have hA2 := HA2.out
                by_cases hkA2 : j = A
                · subst hkA2
                  by_cases hj : j < n0
                  · by_cases he1 : E = 21
                    · go_wp2_with fail
                      go_meet
                      exact ⟨true, by rw [he1], rfl, fun _ _ => rfl, Below.refl _ _⟩
                    · by_cases he2 : E = 20
                      · go_wp2_with fail
                        go_meet
                        exact ⟨true, by rw [he2], rfl, fun _ _ => rfl, Below.refl _ _⟩
                      · have hX3 := HX2.out.below HB9.out
                        have hX4 := hX3.mono HB9.out.size
                        have HX4 := Lib.hid hX4
                        clear hX3 hX4
                        go_wp2_with fail
                        refine (ltorn_calls a2 m c2 dt _ HX4.out hm).mono ?_
                        rintro e w9 ⟨⟨a9, c9, rfl, hc9, ho⟩, hb9⟩
                        have HO9 := Lib.hid (ho.arr (by rw [tornL_len HDl.out]; omega))
                        have HB10 := Lib.hid hb9
                        clear ho hb9
                        go_wp2_with fail
                        refine (valid_calls a9 96 c9 _ _ HO9.out hc9).mono ?_
                        rintro e w10 ⟨rfl, hb10⟩
                        have HB11 := Lib.hid (HB10.out.then_ hb10)
                        clear hb10
                        go_wp2_with fail
                        go_meet
                        refine ⟨_, rfl, rfl, fun h1 h2 => ?_, HB11.out⟩
                        have e0 : Tg.readE (tornL dt) = 0 := by
                          rcases HS.out h1 with ⟨e1, _⟩ | e1
                          · rw [← e1, HE.out]
                            rcases H1.out with e2 | e2 | e2
                            · exact e2
                            · exact absurd e2 he2
                            · exact absurd e2 he1
                          · exact absurd e1 h2
                        rw [decide_eq_true e0, Bool.or_true]
                  · go_wp2_with fail
                    go_meet
                    refine ⟨false, rfl, rfl, fun h1 h2 => ?_, Below.refl _ _⟩
                    rcases HS.out h1 with ⟨_, _, _, e1⟩ | e1
                    · exact absurd e1 hj
                    · exact absurd e1 h2
                · go_wp2_with fail
                  go_meet
                  refine ⟨false, rfl, rfl, fun h1 h2 => ?_, Below.refl _ _⟩
                  rcases HS.out h1 with ⟨_, _, e1, _⟩ | e1
                  · exact absurd e1 hkA2
                  · exact absurd e1 h2
              · go_wp2_with fail
                go_meet
                refine ⟨false, rfl, rfl, fun h1 h2 => ?_, Below.refl _ _⟩
                rcases HS.out h1 with ⟨_, e1, _, _⟩ | e1
                · exact absurd e1 hjk
                · exact absurd e1 h2
            case rest =>
              obtain ⟨H, rfl, rfl, hH, hb⟩ := hcut
              have HC10 := Lib.hid (HC9.out.on hb)
              have HB10 := Lib.hid (HB9.out.then_ hb)
              clear hb HC9 HB9
              by_cases hjk : j < k
              · obtain rfl := HBo.out hjk
                go_wp2_with fail
                go_roundw
                case rel => exact ⟨j + 1, by omega, by go_num, HC10.out, HB10.out⟩
                case measure => simp [intOf]; omega
              · by_cases he : E = 20
                · go_wp2_with fail
                  go_roundw
                  case rel => exact ⟨j + 1, by omega, by go_num, HC10.out, HB10.out⟩
                  case measure => simp [intOf]; omega
                · obtain rfl := hH hjk he
                  go_wp2_with fail
                  go_roundw
                  case rel => exact ⟨j + 1, by omega, by go_num, HC10.out, HB10.out⟩
                  case measure => simp [intOf]; omega
        · obtain rfl : j = 8 := by omega
          go_wp2_with fail
          refine (awake_calls _).mono ?_
          rintro e w6 ⟨rfl, hb⟩
          have HB6 := Lib.hid (HBr.out.then_ hb)
          clear hb
          go_wp2_with fail
          go_ret
          exact ⟨rfl, HB6.out⟩
end Go.Proofs.Ytfcikigdmecbnaa
