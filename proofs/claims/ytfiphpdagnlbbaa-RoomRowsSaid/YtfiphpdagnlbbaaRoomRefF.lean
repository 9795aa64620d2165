/-
  The reference's File.
-/
import Derived.Test.YtfiphpdagnlbbaaRoomFileM
import Derived.Test.YtfiphpdagnlbbaaRoomRefWith
import Derived.Test.YtfiphpdagnlbbaaRoomPer
namespace Go.Proofs.Ytfiphpdagnlbbaa
open Go.RowKit

theorem Room.inc_adj {l : List Int} (h : ∀ i (hi : i + 1 < l.length), l[i] < l[i + 1]) : Room.Inc l := by
  unfold Room.Inc
  rw [List.pairwise_iff_getElem]
  intro i j hi hj hij
  induction j with
  | zero => omega
  | succ j ih =>
    have a := h j hj
    by_cases e : i = j
    · subst e; exact a
    · have := ih (by omega) (by omega); omega
theorem Room.file_arg {s : Int} {l : List Int} (h : ¬ Ino.Sized s ∨ ¬ Room.Inc l) : Room.file s l = (0, 1) := if_pos h
theorem Room.file_idx {s : Int} {l : List Int} (h : Ino.Sized s) (hi : Room.Inc l) {x : Int} (hx : x ∈ l) (he : Ino.wayE s x ≠ 0) : Room.file s l = (0, 52) := by
  unfold Room.file
  rw [if_neg (by rintro (h1 | h1); exact h1 h; exact h1 hi), if_neg (fun h2 => he (Room.allOk_iff.1 h2 x hx))]
theorem Room.file_ok {s : Int} {l : List Int} (h : Ino.Sized s) (hi : Room.Inc l) (ho : ∀ x ∈ l, Ino.wayE s x = 0) : Room.file s l = (((Room.fileN s l : Nat) : Int), 0) := by
  unfold Room.file
  rw [if_neg (by rintro (h1 | h1); exact h1 h; exact h1 hi), if_pos (Room.allOk_iff.2 ho)]
theorem way3 (a b c : Int) : (#[.int .i64 a, .int .i64 b, .int .i64 c] : Array Value).all (·.oneCell') = true := by simp [Value.oneCell']
theorem rwayInfo : (Try.prog.info? 53).map (·.size) = some 3 := by kernel_rfl
def FileR (r : Int × Int) (w : World) (e : Ending) (w' : World) : Prop := e = .returned (.tuple #[.int .i64 r.1, .int .i64 r.2]) ∧ Below w.heap.size w w'
set_option maxHeartbeats 4000000 in
theorem refFile_calls (s : Int) (a : Option Addr) (n c : Nat) (xs : List Int) (w : World) (hx : Arr intV w w.heap.size a n xs) (hb : ∀ x ∈ xs, -9223372036854775808 ≤ x ∧ x ≤ 9223372036854775807) (hn : n ≤ 4000) :
    Calls Try.prog 13 #[.int .i64 s, .slice a n c] w (FileR (Room.file s xs) w) := by
  have hl := hx.len
  have HX := Lib.hid hx
  have HL := Lib.hid hl
  have HBd := Lib.hid hb
  by_cases hs : Ino.Sized s
  case neg =>
    rw [Room.file_arg (.inl hs)]
    have hd : decide (Ino.Sized s) = false := decide_eq_false hs
    clear hs hx hl hb
    go_enter Try.func13, Try.ntmps13
    go_wp2_with fail
    refine (refSized_calls _ _).mono ?_
    rintro e w_ ⟨rfl, rfl⟩
    rw [hd]
    go_wp2
    go_ret2
    exact ⟨rfl, Below.refl _ _⟩
  have hd : decide (Ino.Sized s) = true := decide_eq_true hs
  have HS := Lib.hid hs
  clear hx hl hs hb
  obtain ⟨r, hr⟩ : ∃ r, r = Room.file s xs := ⟨_, rfl⟩
  rw [← hr]
  have HR := Lib.hid hr
  clear hr
  go_enter Try.func13, Try.ntmps13
  go_wp2_with fail
  refine (refSized_calls _ _).mono ?_
  rintro e w_ ⟨rfl, rfl⟩
  rw [hd]
  clear hd
  go_wp2
  go_loopw [6] (fun i wr => ∃ k : Nat, 1 ≤ k ∧ k ≤ n + 1 ∧ i = .int .i64 k ∧ (∀ j (hj : j + 1 < xs.length), j + 1 < k → xs[j] < xs[j + 1]) ∧ ∃ d, wr = w.drewN d) (fun i _ => n + 1 - (intOf i).toNat)
  case atStart => exact ⟨1, by omega, by omega, rfl, by omega, 0, rfl⟩
  case round =>
    obtain ⟨k, hk1, hk2, rfl, hadj, d, rfl⟩ := hrel
    have HAdj := Lib.hid hadj
    have HDr := Lib.hid (fun e => (show (w.drewN d).drewN e = w.drewN (d + e) from World.drewN_drewN _ _ _))
    clear hadj
    by_cases hlt : k < n
    · obtain ⟨b, o, hj1, rfl, hbb, hc1⟩ := HX.out.atI (k := k) hlt
      obtain ⟨b', o', hj0, hab, _, hc0⟩ := HX.out.atI (k := k - 1) (by omega)
      simp only [Option.some.injEq, Addr.mk.injEq, and_true] at hab
      obtain ⟨rfl, rfl⟩ := hab
      obtain ⟨j, rfl⟩ : ∃ j, k = j + 1 := ⟨k - 1, by omega⟩
      simp only [Nat.add_sub_cancel] at hj0 hc0
      have hc1' : (w.drewN d).cell? ⟨b, o + (j + 1), none⟩ = some (.int .i64 xs[j + 1]) := hc1
      have hc0' : (w.drewN d).cell? ⟨b, o + j, none⟩ = some (.int .i64 xs[j]) := hc0
      have HY := Lib.hid (fun h : xs[j] < xs[j + 1] => (show ∀ i (hi : i + 1 < xs.length), i + 1 < j + 1 + 1 → xs[i] < xs[i + 1] from fun i hi h2 => by
        by_cases e : i = j
        · subst e; exact h
        · exact HAdj.out i hi (by omega)))
      have HNo := Lib.hid (fun h : xs[j + 1] ≤ xs[j] => (show ¬ Room.Inc xs from fun hinc => by
        have := List.pairwise_iff_getElem.1 hinc j (j + 1) hj0 hj1 (by omega); omega))
      generalize xs[j + 1] = y at *
      generalize xs[j] = x at *
      have q1 : IntKind.i64.wrap ((j : Int) + 1 - 1) = (j : Int) := by rw [show (j : Int) + 1 - 1 = j by omega]; exact IntWalk.i64_in _ ⟨by omega, by omega⟩
      have q2 : (0 : Int) ≤ (j : Int) := by omega
      have q3 : (j : Int) < (n : Int) := by omega
      have q4 : (0 : Int) ≤ (j : Int) + 1 := by omega
      have q5 : (j : Int) + 1 < (n : Int) := by omega
      have q6 : ((j : Int) + 1).toNat = j + 1 := by omega
      clear hc1 hc0
      by_cases hyx : y ≤ x
      · have g1 : decide (y ≤ x) = true := decide_eq_true hyx
        have HF := Lib.hid (HR.out.trans (Room.file_arg (s := s) (.inr (HNo.out hyx))))
        clear hyx
        generalize w.drewN d = wz at *
        go_wp2_with fail
        go_quiet (fail)
        go_wp2
        go_ret2
        exact ⟨by rw [HF.out]; rfl, by rw [HDr.out]; exact below_dN _ _⟩
      · have g1 : decide (y ≤ x) = false := decide_eq_false hyx
        have HY2 := Lib.hid (HY.out (by omega))
        clear hyx
        generalize w.drewN d = wz at *
        go_wp2_with fail
        go_quiet (fail)
        go_wp2
        go_roundw
        case rel => exact ⟨j + 1 + 1, by omega, by omega, by go_num, HY2.out, d + nq, HDr.out nq⟩
        case measure => simp [intOf]; omega
    · have hinc := Lib.hid (Room.inc_adj (l := xs) fun i hi => HAdj.out i hi (by have := HL.out; omega))
      have g9 : decide ((k : Int) < (n : Int)) = false := decide_eq_false (by omega)
      have HBw := Lib.hid (show Below w.heap.size w (w.drewN d) from below_dN w d)
      have hsw : (w.drewN d).heap.size = w.heap.size := rfl
      clear HAdj HDr
      generalize w.drewN d = wz at *
      have HB1 := Lib.hid (HBw.out.alloc (Nat.le_of_eq hsw.symm) (.cells #[.int .i64 0, .int .i64 0, .int .i64 0] 53))
      have BW1 := Lib.hid (Blk.new wz 53 #[.int .i64 0, .int .i64 0, .int .i64 0])
      rw [hsw] at BW1
      go_wp2_with fail
      clear hsw HBw hlt g9
      generalize wz.alloc (.cells #[.int .i64 0, .int .i64 0, .int .i64 0] 53) = w1 at *
      obtain ⟨WB, hWB⟩ : ∃ WB, WB = w.heap.size := ⟨_, rfl⟩
      rw [← hWB] at BW1 ⊢
      have HWB := Lib.hid hWB
      clear hWB
      go_loopw [7, 9, 10, 11] (fun cnt i _ _ wr => ∃ q m : Nat, ∃ cc : Int, q ≤ n ∧ i = .int .i64 q ∧ cnt = .int .i64 m ∧ m = q + Room.nd (Room.kl s (xs.take q)) ∧ m ≤ 3 * q ∧ (∀ j (h : j < xs.length), j < q → Ino.wayE s xs[j] = 0) ∧ Blk wr WB 53 #[.int .i64 (Room.wasOf s xs q).1, .int .i64 (Room.wasOf s xs q).2, .int .i64 cc] ∧ Below w.heap.size w wr) (fun _ i _ _ _ => n - (intOf i).toNat)
      case atStart => exact ⟨0, 0, 0, by omega, rfl, rfl, rfl, by omega, by omega, BW1.out, HB1.out⟩
      case round =>
        obtain ⟨q, m, cc, hq, rfl, rfl, hm, hm3, hok, hbw, hb⟩ := hrel
        have HOk := Lib.hid hok
        have HMq := Lib.hid hm
        have BW := Lib.hid hbw
        have HB := Lib.hid hb
        clear hok hm hbw
        by_cases hqn : q < n
        · obtain ⟨b, o, hq', rfl, _, hcx⟩ := (HX.out.on hb).atI (k := q) hqn
          have hbx := HBd.out xs[q] (List.getElem_mem hq')
          have hTo := Lib.hid (refTo_calls s xs[q] wr hbx.1 hbx.2)
          have g0 : (0 : Int) ≤ (q : Int) := by omega
          have g1 : (q : Int) < (n : Int) := by omega
          have g2 : decide ((q : Int) < (n : Int)) = true := decide_eq_true g1
          by_cases he : Ino.wayE s xs[q] = 0
          · have HStep := Lib.hid (Room.ref_step (s := s) hinc.out hq' (fun j h hj => by
              by_cases e : j = q
              · subst e; exact he
              · exact HOk.out j h (by omega)))
            have HOk2 := Lib.hid (show ∀ j (h : j < xs.length), j < q + 1 → Ino.wayE s xs[j] = 0 from fun j h hj => by
              by_cases e : j = q
              · subst e; exact he
              · exact HOk.out j h (by omega))
            have HWas := Lib.hid (show Room.wasOf s xs (q + 1) = (Ino.wayA s xs[q], Ino.wayB s xs[q]) by
              unfold Room.wasOf
              rw [if_neg (by omega), Nat.add_sub_cancel, List.getD_eq_getElem?_getD, List.getElem?_eq_getElem hq']; rfl)
            have hA3 := Room.way_le he he (Int.le_refl _)
            have HWV := Lib.hid (show wayV s xs[q] = .tuple #[.agg #[.int .i64 (Ino.wayA s xs[q]), .int .i64 (Ino.wayB s xs[q]), .int .i64 (Ino.wayC s xs[q])], .int .i64 0] by unfold wayV; rw [he])
            have hmle : Room.nd (Room.kl s (xs.take (q + 1))) ≤ Room.nd (Room.kl s (xs.take q)) + 2 := by rw [HStep.out]; split <;> split <;> omega
            have hA02 : Ino.wayA s xs[q] = 0 ∨ Ino.wayA s xs[q] = 1 ∨ Ino.wayA s xs[q] = 2 := by omega
            clear he hA3 hb
            generalize Ino.wayA s xs[q] = A at *
            generalize Ino.wayB s xs[q] = B at *
            generalize Ino.wayC s xs[q] = C at *
            generalize xs[q] = x at *
            obtain ⟨wa, hwa⟩ : ∃ wa, wa = (Room.wasOf s xs q).1 := ⟨_, rfl⟩
            obtain ⟨wb, hwb⟩ : ∃ wb, wb = (Room.wasOf s xs q).2 := ⟨_, rfl⟩
            rw [← hwa, ← hwb] at BW HStep
            clear hwa hwb
            clear hmle
            rcases hA02 with rfl | rfl | rfl
            · skip
              go_wp2_with fail
              refine hTo.out.mono ?_
              rintro e w2 ⟨rfl, hb2⟩
              rw [HWV.out]
              have hs2 := hb2.size
              have hlt2 : WB < w2.heap.size := Nat.lt_of_lt_of_le BW.out.lt hs2
              have bw := (BW.out.belowHere hb2).alloc (.cells #[.int .i64 0, .int .i64 B, .int .i64 C] 53)
              have bn := Blk.new w2 53 #[.int .i64 0, .int .i64 B, .int .i64 C]
              have HB2 := Lib.hid (HB.out.then_ (hb2.then_ ((Below.refl _ _).alloc (Nat.le_refl _) (.cells #[.int .i64 0, .int .i64 B, .int .i64 C] 53))))
              have b0 := bw.cellv (i := 0) rfl
              have b1 := bw.cellv (i := 1) rfl
              have b2 := bw.cellv (i := 2) rfl
              have f0 := bw.frozen 0
              have f1 := bw.frozen 1
              have f2 := bw.frozen 2
              have n0 := bn.cellv (i := 0) rfl
              have n1 := bn.cellv (i := 1) rfl
              have n2 := bn.cellv (i := 2) rfl
              have BW2 := Lib.hid bw
              clear bw bn hb2
              go_upto_region 20 with fail
              generalize w2.alloc (.cells #[.int .i64 0, .int .i64 B, .int .i64 C] 53) = w3 at *
              generalize w2.heap.size = NB at *
              go_wp2_with (refine wpList_store_blk rfl rfl _ _ _ rfl WB #[.int .i64 0, .int .i64 B, .int .i64 C] rfl rfl 53 #[.int .i64 wa, .int .i64 wb, .int .i64 cc] BW2.out rfl rwayInfo (way3 _ _ _) ?_)
              go_roundw
              case rel => exact ⟨q + 1, m + 1 + 0, C, by omega, by go_num, by go_num, by (have h1 := HStep.out; have h2 := HMq.out; split at h1 <;> split at h1 <;> omega), by omega, HOk2.out, by rw [HWas.out]; exact BW2.out.row _, HB2.out.setRow_ (by rw [HWB.out]; exact Nat.le_refl _) _⟩
              case measure => simp [intOf]; omega
            · by_cases ha : wa = 1
              · have z1 : (wa != 1) = false := by rw [bne_eq_false_iff_eq]; exact ha
                have HH := Lib.hid ha
                clear ha
                go_wp2_with fail
                refine hTo.out.mono ?_
                rintro e w2 ⟨rfl, hb2⟩
                rw [HWV.out]
                have hs2 := hb2.size
                have hlt2 : WB < w2.heap.size := Nat.lt_of_lt_of_le BW.out.lt hs2
                have bw := (BW.out.belowHere hb2).alloc (.cells #[.int .i64 1, .int .i64 B, .int .i64 C] 53)
                have bn := Blk.new w2 53 #[.int .i64 1, .int .i64 B, .int .i64 C]
                have HB2 := Lib.hid (HB.out.then_ (hb2.then_ ((Below.refl _ _).alloc (Nat.le_refl _) (.cells #[.int .i64 1, .int .i64 B, .int .i64 C] 53))))
                have b0 := bw.cellv (i := 0) rfl
                have b1 := bw.cellv (i := 1) rfl
                have b2 := bw.cellv (i := 2) rfl
                have f0 := bw.frozen 0
                have f1 := bw.frozen 1
                have f2 := bw.frozen 2
                have n0 := bn.cellv (i := 0) rfl
                have n1 := bn.cellv (i := 1) rfl
                have n2 := bn.cellv (i := 2) rfl
                have BW2 := Lib.hid bw
                clear bw bn hb2
                go_upto_region 20 with fail
                generalize w2.alloc (.cells #[.int .i64 1, .int .i64 B, .int .i64 C] 53) = w3 at *
                generalize w2.heap.size = NB at *
                go_wp2_with (refine wpList_store_blk rfl rfl _ _ _ rfl WB #[.int .i64 1, .int .i64 B, .int .i64 C] rfl rfl 53 #[.int .i64 wa, .int .i64 wb, .int .i64 cc] BW2.out rfl rwayInfo (way3 _ _ _) ?_)
                go_roundw
                case rel => exact ⟨q + 1, m + 1 + 0, C, by omega, by go_num, by go_num, by (have h1 := HStep.out; have h2 := HMq.out; have h3 := HH.out; split at h1 <;> split at h1 <;> omega), by omega, HOk2.out, by rw [HWas.out]; exact BW2.out.row _, HB2.out.setRow_ (by rw [HWB.out]; exact Nat.le_refl _) _⟩
                case measure => simp [intOf]; omega
              · have z1 : (wa != 1) = true := by rw [bne_iff_ne]; exact ha
                have HH := Lib.hid ha
                clear ha
                go_wp2_with fail
                refine hTo.out.mono ?_
                rintro e w2 ⟨rfl, hb2⟩
                rw [HWV.out]
                have hs2 := hb2.size
                have hlt2 : WB < w2.heap.size := Nat.lt_of_lt_of_le BW.out.lt hs2
                have bw := (BW.out.belowHere hb2).alloc (.cells #[.int .i64 1, .int .i64 B, .int .i64 C] 53)
                have bn := Blk.new w2 53 #[.int .i64 1, .int .i64 B, .int .i64 C]
                have HB2 := Lib.hid (HB.out.then_ (hb2.then_ ((Below.refl _ _).alloc (Nat.le_refl _) (.cells #[.int .i64 1, .int .i64 B, .int .i64 C] 53))))
                have b0 := bw.cellv (i := 0) rfl
                have b1 := bw.cellv (i := 1) rfl
                have b2 := bw.cellv (i := 2) rfl
                have f0 := bw.frozen 0
                have f1 := bw.frozen 1
                have f2 := bw.frozen 2
                have n0 := bn.cellv (i := 0) rfl
                have n1 := bn.cellv (i := 1) rfl
                have n2 := bn.cellv (i := 2) rfl
                have BW2 := Lib.hid bw
                clear bw bn hb2
                go_upto_region 20 with fail
                generalize w2.alloc (.cells #[.int .i64 1, .int .i64 B, .int .i64 C] 53) = w3 at *
                generalize w2.heap.size = NB at *
                go_wp2_with (refine wpList_store_blk rfl rfl _ _ _ rfl WB #[.int .i64 1, .int .i64 B, .int .i64 C] rfl rfl 53 #[.int .i64 wa, .int .i64 wb, .int .i64 cc] BW2.out rfl rwayInfo (way3 _ _ _) ?_)
                go_roundw
                case rel => exact ⟨q + 1, m + 1 + 1, C, by omega, by go_num, by go_num, by (have h1 := HStep.out; have h2 := HMq.out; have h3 := HH.out; split at h1 <;> split at h1 <;> omega), by omega, HOk2.out, by rw [HWas.out]; exact BW2.out.row _, HB2.out.setRow_ (by rw [HWB.out]; exact Nat.le_refl _) _⟩
                case measure => simp [intOf]; omega
            · by_cases ha : wa = 2
              · have z1 : (wa != 2) = false := by rw [bne_eq_false_iff_eq]; exact ha
                have HH := Lib.hid ha
                clear ha
                by_cases hbb : wb = B
                · have z2 : (wb != B) = false := by rw [bne_eq_false_iff_eq]; exact hbb
                  have HG := Lib.hid hbb
                  clear hbb
                  go_wp2_with fail
                  refine hTo.out.mono ?_
                  rintro e w2 ⟨rfl, hb2⟩
                  rw [HWV.out]
                  have hs2 := hb2.size
                  have hlt2 : WB < w2.heap.size := Nat.lt_of_lt_of_le BW.out.lt hs2
                  have bw := (BW.out.belowHere hb2).alloc (.cells #[.int .i64 2, .int .i64 B, .int .i64 C] 53)
                  have bn := Blk.new w2 53 #[.int .i64 2, .int .i64 B, .int .i64 C]
                  have HB2 := Lib.hid (HB.out.then_ (hb2.then_ ((Below.refl _ _).alloc (Nat.le_refl _) (.cells #[.int .i64 2, .int .i64 B, .int .i64 C] 53))))
                  have b0 := bw.cellv (i := 0) rfl
                  have b1 := bw.cellv (i := 1) rfl
                  have b2 := bw.cellv (i := 2) rfl
                  have f0 := bw.frozen 0
                  have f1 := bw.frozen 1
                  have f2 := bw.frozen 2
                  have n0 := bn.cellv (i := 0) rfl
                  have n1 := bn.cellv (i := 1) rfl
                  have n2 := bn.cellv (i := 2) rfl
                  have BW2 := Lib.hid bw
                  clear bw bn hb2
                  go_upto_region 20 with fail
                  generalize w2.alloc (.cells #[.int .i64 2, .int .i64 B, .int .i64 C] 53) = w3 at *
                  generalize w2.heap.size = NB at *
                  go_wp2_with (refine wpList_store_blk rfl rfl _ _ _ rfl WB #[.int .i64 2, .int .i64 B, .int .i64 C] rfl rfl 53 #[.int .i64 wa, .int .i64 wb, .int .i64 cc] BW2.out rfl rwayInfo (way3 _ _ _) ?_)
                  go_roundw
                  case rel => exact ⟨q + 1, m + 1 + 0, C, by omega, by go_num, by go_num, by (have h1 := HStep.out; have h2 := HMq.out; have h3 := HH.out; have h4 := HG.out; split at h1 <;> split at h1 <;> omega), by omega, HOk2.out, by rw [HWas.out]; exact BW2.out.row _, HB2.out.setRow_ (by rw [HWB.out]; exact Nat.le_refl _) _⟩
                  case measure => simp [intOf]; omega
                · have z2 : (wb != B) = true := by rw [bne_iff_ne]; exact hbb
                  have HG := Lib.hid hbb
                  clear hbb
                  go_wp2_with fail
                  refine hTo.out.mono ?_
                  rintro e w2 ⟨rfl, hb2⟩
                  rw [HWV.out]
                  have hs2 := hb2.size
                  have hlt2 : WB < w2.heap.size := Nat.lt_of_lt_of_le BW.out.lt hs2
                  have bw := (BW.out.belowHere hb2).alloc (.cells #[.int .i64 2, .int .i64 B, .int .i64 C] 53)
                  have bn := Blk.new w2 53 #[.int .i64 2, .int .i64 B, .int .i64 C]
                  have HB2 := Lib.hid (HB.out.then_ (hb2.then_ ((Below.refl _ _).alloc (Nat.le_refl _) (.cells #[.int .i64 2, .int .i64 B, .int .i64 C] 53))))
                  have b0 := bw.cellv (i := 0) rfl
                  have b1 := bw.cellv (i := 1) rfl
                  have b2 := bw.cellv (i := 2) rfl
                  have f0 := bw.frozen 0
                  have f1 := bw.frozen 1
                  have f2 := bw.frozen 2
                  have n0 := bn.cellv (i := 0) rfl
                  have n1 := bn.cellv (i := 1) rfl
                  have n2 := bn.cellv (i := 2) rfl
                  have BW2 := Lib.hid bw
                  clear bw bn hb2
                  go_upto_region 20 with fail
                  generalize w2.alloc (.cells #[.int .i64 2, .int .i64 B, .int .i64 C] 53) = w3 at *
                  generalize w2.heap.size = NB at *
                  go_wp2_with (refine wpList_store_blk rfl rfl _ _ _ rfl WB #[.int .i64 2, .int .i64 B, .int .i64 C] rfl rfl 53 #[.int .i64 wa, .int .i64 wb, .int .i64 cc] BW2.out rfl rwayInfo (way3 _ _ _) ?_)
                  go_roundw
                  case rel => exact ⟨q + 1, m + 1 + 1, C, by omega, by go_num, by go_num, by (have h1 := HStep.out; have h2 := HMq.out; have h3 := HH.out; have h4 := HG.out; rw [if_neg (fun h => h.2 h3), if_pos ⟨by trivial, .inr h4⟩] at h1; omega), by omega, HOk2.out, by rw [HWas.out]; exact BW2.out.row _, HB2.out.setRow_ (by rw [HWB.out]; exact Nat.le_refl _) _⟩
                  case measure => simp [intOf]; omega
              · have z1 : (wa != 2) = true := by rw [bne_iff_ne]; exact ha
                have HH := Lib.hid ha
                clear ha
                go_wp2_with fail
                refine hTo.out.mono ?_
                rintro e w2 ⟨rfl, hb2⟩
                rw [HWV.out]
                have hs2 := hb2.size
                have hlt2 : WB < w2.heap.size := Nat.lt_of_lt_of_le BW.out.lt hs2
                have bw := (BW.out.belowHere hb2).alloc (.cells #[.int .i64 2, .int .i64 B, .int .i64 C] 53)
                have bn := Blk.new w2 53 #[.int .i64 2, .int .i64 B, .int .i64 C]
                have HB2 := Lib.hid (HB.out.then_ (hb2.then_ ((Below.refl _ _).alloc (Nat.le_refl _) (.cells #[.int .i64 2, .int .i64 B, .int .i64 C] 53))))
                have b0 := bw.cellv (i := 0) rfl
                have b1 := bw.cellv (i := 1) rfl
                have b2 := bw.cellv (i := 2) rfl
                have f0 := bw.frozen 0
                have f1 := bw.frozen 1
                have f2 := bw.frozen 2
                have n0 := bn.cellv (i := 0) rfl
                have n1 := bn.cellv (i := 1) rfl
                have n2 := bn.cellv (i := 2) rfl
                have BW2 := Lib.hid bw
                clear bw bn hb2
                go_upto_region 20 with fail
                generalize w2.alloc (.cells #[.int .i64 2, .int .i64 B, .int .i64 C] 53) = w3 at *
                generalize w2.heap.size = NB at *
                go_wp2_with (refine wpList_store_blk rfl rfl _ _ _ rfl WB #[.int .i64 2, .int .i64 B, .int .i64 C] rfl rfl 53 #[.int .i64 wa, .int .i64 wb, .int .i64 cc] BW2.out rfl rwayInfo (way3 _ _ _) ?_)
                go_roundw
                case rel => exact ⟨q + 1, m + 1 + 2, C, by omega, by go_num, by go_num, by (have h1 := HStep.out; have h2 := HMq.out; have h3 := HH.out; rw [if_pos ⟨by omega, h3⟩, if_pos ⟨by trivial, .inl h3⟩] at h1; omega), by omega, HOk2.out, by rw [HWas.out]; exact BW2.out.row _, HB2.out.setRow_ (by rw [HWB.out]; exact Nat.le_refl _) _⟩
                case measure => simp [intOf]; omega
          · have HF := Lib.hid (HR.out.trans (Room.file_idx HS.out hinc.out (List.getElem_mem hq') he))
            have hw0 : Ino.wayE s xs[q] = 52 := by
              unfold Ino.wayE at he ⊢
              rw [if_pos HS.out] at he ⊢
              by_cases h : xs[q] < 0 ∨ Ino.pages s ≤ xs[q]
              · rw [if_pos h]
              · rw [if_neg h] at he; exact absurd rfl he
            have HWV := Lib.hid (show wayV s xs[q] = .tuple #[.agg #[.int .i64 0, .int .i64 0, .int .i64 0], .int .i64 52] by simp [wayV, Ino.wayA, Ino.wayB, Ino.wayC, hw0])
            clear he hw0 hb
            generalize xs[q] = x at *
            go_wp2_with fail
            refine hTo.out.mono ?_
            rintro e w2 ⟨rfl, hb2⟩
            rw [HWV.out]
            have HB2 := Lib.hid (HB.out.then_ (hb2.then_ ((Below.refl _ _).alloc (Nat.le_refl _) (.cells #[.int .i64 0, .int .i64 0, .int .i64 0] 53))))
            clear hb2
            go_wp2
            go_ret2
            exact ⟨by rw [HF.out]; rfl, HB2.out⟩
        · obtain rfl : q = n := by omega
          have g2 : decide ((q : Int) < (q : Int)) = false := decide_eq_false (by omega)
          have HF := Lib.hid (HR.out.trans (Room.file_ok HS.out hinc.out (fun y hy => by
            obtain ⟨i, hi, rfl⟩ := List.getElem_of_mem hy
            exact HOk.out i hi (by rw [← HL.out]; exact hi))))
          have HN := Lib.hid (show m = Room.fileN s xs by rw [HMq.out]; unfold Room.fileN; rw [HL.out, List.take_of_length_le (by rw [HL.out]; exact Nat.le_refl _)])
          clear hb
          go_wp2
          go_ret2
          exact ⟨by rw [HF.out, ← HN.out]; rfl, HB.out⟩
end Go.Proofs.Ytfiphpdagnlbbaa
