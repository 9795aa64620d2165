/-
  The reference's Read.
-/
import Derived.Test.YtfcikigdmecbnaaTagRead
import Derived.Test.YtfcikigdmecbnaaTagBeside
import Derived.Test.YtfcikigdmecbnaaTagMath2
import Derived.Test.YtfcikigdmecbnaaNumNum
import Derived.Test.YtfcikigdmecbnaaNumSame
import Derived.Deep.DeepCutAuto
import Derived.StillTailTactics
namespace Go.Proofs.Ytfcikigdmecbnaa
open Go.RowKit

theorem refTRead_wrong (a : Option Addr) (n c : Nat) (xs : List UInt8) (w : World) (hx : Bytes w w.heap.size a n xs) (h : n < 32 ∨ ¬ Tg.Fits (n - 32)) :
    Calls Try.prog 32 #[.slice a n c] w (Rd xs w) := by
  have hroom := hx.room
  have HR := Lib.hid (rd_wrong hx.len h)
  have h2 : ¬ ((n : Int) - 32 = 64 ∨ (n : Int) - 32 = 128 ∨ (n : Int) - 32 = 256 ∨ (n : Int) - 32 = 512) := by
    rcases h with h | h
    · omega
    · intro g; exact h (by unfold Tg.Fits; omega)
  have H2 := Lib.hid h2
  clear h h2 hx
  go_enter Try.func32, Try.ntmps32
  go_wp2_with fail
  refine (refFits_no _ H2.out _).mono ?_
  rintro e w_ ⟨rfl, rfl⟩
  go_wp2
  refine bodyPost_ret (v := .tuple #[tagV Tg.zero, .slice none 0 0, .int .i64 1]) (by simp [results, Try.results32, go_sem, tagV, Tg.zero]) rfl (rd_none HR.out rfl ?_)
  exact (Below.refl _ _).alloc (Nat.le_refl _) _
theorem b255_beq (x : UInt8) : ((x.toNat : Int) == 255) = (x == 255) := by
  rw [Bool.eq_iff_iff, beq_iff_eq, beq_iff_eq, b255]
set_option maxHeartbeats 8000000 in
theorem refTRead_body (a : Option Addr) (m c : Nat) (xs : List UInt8) (w : World) (hx : Bytes w w.heap.size a (m + 32) xs) (hc : m + 32 ≤ c) (hf : Tg.Fits m) :
    Calls Try.prog 32 #[.slice a (m + 32 : Nat) c] w (Rd xs w) := by
  have hb0 : 64 ≤ m ∧ m ≤ 512 := by unfold Tg.Fits at hf; omega
  obtain ⟨hb1, hb2⟩ := hb0
  have HF := Lib.hid hf
  have HL := Lib.hid hx.len
  have bg1 := Blk.new w 40 #[.int .i64 0, .int .u32 0, .int .u64 0, .int .u64 0]
  have hb1' : Below w.heap.size w (w.alloc (.cells #[.int .i64 0, .int .u32 0, .int .u64 0, .int .u64 0] 40)) := (Below.refl _ _).alloc (Nat.le_refl _) _
  have hx1 := hx.on hb1'
  have HX1 := Lib.hid hx1
  have HX0 := Lib.hid hx
  clear hf hx hx1
  go_enter Try.func32, Try.ntmps32
  go_wp2_with fail
  refine (refFits_yes m HF.out _).mono ?_
  rintro e w_ ⟨rfl, rfl⟩
  have HBG1 := Lib.hid bg1
  have HB1 := Lib.hid hb1'
  clear bg1 hb1'
  go_wp2_with fail
  generalize w.alloc (.cells #[.int .i64 0, .int .u32 0, .int .u64 0, .int .u64 0] 40) = w1 at *
  go_loop [6, 7] (fun f i => ∃ k : Nat, k ≤ m + 32 ∧ i = .int .i64 k ∧ f = .bool (Tg.full (xs.take k))) (fun _ i => m + 32 - (intOf i).toNat)
  case atStart => exact ⟨0, by omega, rfl, rfl⟩
  case round =>
    obtain ⟨k, hk, rfl, rfl⟩ := hrel
    by_cases hlt : k < m + 32
    · obtain ⟨b, o, hk', rfl, hb, hcell⟩ := HX1.out.at_ hlt
      have h3 := Lib.hid (full_take_succ xs k hk')
      cases hfl : Tg.full (xs.take k)
      · have HFL := Lib.hid hfl
        clear hfl
        go_wp2
        go_round
        case rel => exact ⟨k + 1, by omega, by go_num, by rw [h3.out, HFL.out]; rfl⟩
        case measure => simp [intOf]; omega
      · have HFL := Lib.hid hfl
        clear hfl
        go_wp2
        go_round
        case rel => exact ⟨k + 1, by omega, by go_num, by rw [h3.out, HFL.out, Bool.true_and]; exact congrArg Value.bool (b255_beq xs[k])⟩
        case measure => simp [intOf]; omega
    · obtain rfl : k = m + 32 := by omega
      have e : xs.take (m + 32) = xs := List.take_of_length_le (by rw [HL.out]; omega)
      rw [e]
      cases hfl : Tg.full xs
      case true =>
        have HR := Lib.hid (rd_full HL.out HF.out hfl)
        have HBG := Lib.hid HBG1.out
        clear hfl e
        go_wp2_with (refine wpList_store_blk rfl rfl _ _ _ rfl w.heap.size #[.int .i64 0, .int .u32 0, .int .u64 0, .int .u64 0] rfl rfl 40 #[.int .i64 0, .int .u32 0, .int .u64 0, .int .u64 0] HBG.out rfl tagInfo (tagOne 0 0 0 0) ?_)
        have q := HBG.out.row #[.int .i64 0, .int .u32 0, .int .u64 0, .int .u64 0]
        have z0 := q.cellv (i := 0) rfl
        have z1 := q.cellv (i := 1) rfl
        have z2 := q.cellv (i := 2) rfl
        have z3 := q.cellv (i := 3) rfl
        refine bodyPost_ret (v := .tuple #[.agg #[.int .i64 0, .int .u32 0, .int .u64 0, .int .u64 0], .slice none 0 0, .int .i64 20]) (by simp [results, Try.results32, go_sem, z0, z1, z2, z3]) rfl (rd_none HR.out rfl (HB1.out.setRow_ (Nat.le_refl _) _))
      case false =>
        have HFL := Lib.hid hfl
        clear hfl e
        obtain ⟨b, o, hk0, rfl, hbb, hc0⟩ := HX1.out.at_ (k := m + 2) (by omega)
        have hnb : Hid (b ≠ w.heap.size) := Lib.hid (by
          obtain ⟨b', o', _, e, hlt, _⟩ := HX0.out.at_ (k := m + 2) (by omega)
          simp only [Option.some.injEq, Addr.mk.injEq, and_true] at e
          obtain ⟨rfl, rfl⟩ := e
          exact Nat.ne_of_lt hlt)
        have hc0' : w1.cell? ⟨b, o + (m + 2), none⟩ = some (.int .u8 (xs[m + 2].toNat : Int)) := hc0
        have hkb := (xs[m + 2]).toNat_lt
        have hK0 : Tg.num (xs.drop m) 2 1 = xs[m + 2].toNat := by
          rw [Tg.num, List.drop_drop, List.drop_eq_getElem_cons hk0, List.take_succ_cons, List.take_zero]; simp only [numL]; omega
        obtain ⟨d, hd⟩ : ∃ d, d = xs.drop m := ⟨_, rfl⟩
        rw [← hd] at hK0
        have HD := Lib.hid hd
        obtain ⟨P, hP⟩ : ∃ P, P = Tg.num d 4 4 := ⟨_, rfl⟩
        obtain ⟨S, hS⟩ : ∃ S, S = Tg.num d 8 8 := ⟨_, rfl⟩
        obtain ⟨E, hE⟩ : ∃ E, E = Tg.num d 16 8 := ⟨_, rfl⟩
        have nP : P < 4294967296 := by rw [hP]; exact Tg.num_lt (d := d) (i := 4) (k := 4)
        have nS : S < 18446744073709551616 := by rw [hS]; exact Tg.num_lt (d := d) (i := 8) (k := 8)
        have nE : E < 18446744073709551616 := by rw [hE]; exact Tg.num_lt (d := d) (i := 16) (k := 8)
        have HNS := Lib.hid nS
        have HNE := Lib.hid nE
        have eP : numL ((xs.drop (m + 4)).take 4) = P := by rw [hP, hd, Tg.num, List.drop_drop]
        have eS : numL ((xs.drop (m + 8)).take 8) = S := by rw [hS, hd, Tg.num, List.drop_drop]
        have eE : numL ((xs.drop (m + 16)).take 8) = E := by rw [hE, hd, Tg.num, List.drop_drop]
        have HEP := Lib.hid eP
        have HES := Lib.hid eS
        have HEE := Lib.hid eE
        have hraw : Tg.raw d = ⟨(xs[m + 2].toNat : Nat), P, S, E⟩ := by simp only [Tg.raw, hK0, hP, hS, hE]
        have HRW := Lib.hid hraw
        clear hd hP hS hE nS nE eP eS eE hraw hK0 hc0
        have hy4 := (HX1.out.drop (l := m + 4) (by omega) hc).take (k := 4) (by omega)
        have hy8 := (HX1.out.drop (l := m + 8) (by omega) hc).take (k := 8) (by omega)
        have hy16 := (HX1.out.drop (l := m + 16) (by omega) hc).take (k := 8) (by omega)
        have HY4 := Lib.hid hy4
        have HY8 := Lib.hid hy8
        have HY16 := Lib.hid hy16
        have cut4 := cutB_mid (some ⟨b, o, none⟩) (m + 32) c (m + 4) (m + 8) (by omega) (by omega)
        have cut8 := cutB_mid (some ⟨b, o, none⟩) (m + 32) c (m + 8) (m + 16) (by omega) (by omega)
        have cut16 := cutB_mid (some ⟨b, o, none⟩) (m + 32) c (m + 16) (m + 24) (by omega) (by omega)
        rw [show ((m + 4 : Nat) : Int) = (m : Int) + 4 by omega, show ((m + 8 : Nat) : Int) = (m : Int) + 8 by omega, show m + 8 - (m + 4) = 4 by omega] at cut4
        rw [show ((m + 8 : Nat) : Int) = (m : Int) + 8 by omega, show ((m + 16 : Nat) : Int) = (m : Int) + 16 by omega, show m + 16 - (m + 8) = 8 by omega] at cut8
        rw [show ((m + 16 : Nat) : Int) = (m : Int) + 16 by omega, show ((m + 24 : Nat) : Int) = (m : Int) + 24 by omega, show m + 24 - (m + 16) = 8 by omega] at cut16
        clear hy4 hy8 hy16
        have b2 : (0 : Int) ≤ (m : Int) + 2 := by omega
        have b2' : (m : Int) + 2 < (m : Int) + 32 := by omega
        have n2 : ((m : Int) + 2).toNat = m + 2 := by omega
        have g2 := IntWalk.i64_in ((m : Int) + 2) ⟨by omega, by omega⟩
        have g4 := IntWalk.i64_in ((m : Int) + 4) ⟨by omega, by omega⟩
        have g8 := IntWalk.i64_in ((m : Int) + 8) ⟨by omega, by omega⟩
        have g16 := IntWalk.i64_in ((m : Int) + 16) ⟨by omega, by omega⟩
        have g24 := IntWalk.i64_in ((m : Int) + 24) ⟨by omega, by omega⟩
        have hwP := IntWalk.u32_in (P : Int) ⟨by omega, by omega⟩
        have hwK := IntWalk.i64_in ((xs[m + 2]).toNat : Int) ⟨by omega, by omega⟩
        go_wp2_with fail
        go_cut [8] (fun s8 wx => s8 = .pointer (some ⟨w1.heap.size, 0, none⟩) ∧ Blk wx w1.heap.size 40 #[.int .i64 (xs[m + 2].toNat : Int), .int .u32 P, .int .u64 S, .int .u64 E] ∧ Below w1.heap.size w1 wx)
        case first =>
          go_region_held3 (fun w' => Below w1.heap.size w1 w' ∧ w'.cell? ⟨b, o + (m + 2), none⟩ = some (.int .u8 (xs[m + 2].toNat : Int)))
            (first
              | exact ⟨(Below.refl _ _).drew, hc0'⟩
              | exact ⟨Below.drew (And.left (by assumption)), And.right (by assumption)⟩
              | exact ⟨((Below.refl _ _).alloc (Nat.le_refl _) _).drew, (World.cell?_alloc_past _ _ _ hbb).trans hc0'⟩
              | exact ⟨Below.drew (Below.alloc (And.left (by assumption)) (Below.size (And.left (by assumption))) _), (World.cell?_alloc_past _ _ _ (Nat.lt_of_lt_of_le hbb (Below.size (And.left (by assumption))))).trans (And.right (by assumption))⟩
              | exact ⟨Below.setCell (And.left (by assumption)) (Below.size (And.left (by assumption))) _, And.right (by assumption)⟩
              | assumption)
            (first
              | (go_at_call 37; ((with_reducible refine (refNum_calls _ 4 _ ((xs.drop (m + 4)).take 4) _ (Arr.on HY4.out (And.left (by assumption))) (by omega)).mono ?_); rintro e w' ⟨rfl, rfl⟩; rw [HEP.out]))
              | (go_at_call 37; ((with_reducible refine (refNum_calls _ 8 _ ((xs.drop (m + 8)).take 8) _ (Arr.on HY8.out (And.left (by assumption))) (by omega)).mono ?_); rintro e w' ⟨rfl, rfl⟩; rw [HES.out]))
              | (go_at_call 37; ((with_reducible refine (refNum_calls _ 8 _ ((xs.drop (m + 16)).take 8) _ (Arr.on HY16.out (And.left (by assumption))) (by omega)).mono ?_); rintro e w' ⟨rfl, rfl⟩; rw [HEE.out])))
          all_goals
            go_wp2_with fail
            go_meet
            exact ⟨rfl, (Blk.new _ _ _).drew, ((Below.refl _ _).alloc (Nat.le_refl _) _).drew⟩
        case rest =>
          obtain ⟨rfl, bi2, hb2⟩ := hcut
          clear hwP hwK g2 g4 g8 g16 g24 n2 b2 b2' cut4 cut8 cut16 HY4 HY8 HY16
          have bg2 := HBG1.out.belowHere hb2
          have hx2 := HX1.out.on hb2
          have hb2w := HB1.out.trans (hb2.mono HB1.out.size)
          have HI2 := Lib.hid bi2
          have HG2 := Lib.hid bg2
          have HX2 := Lib.hid hx2
          have HB2 := Lib.hid hb2w
          have HZ2 := Lib.hid bi2.lt
          have HZ1 := Lib.hid (show w.heap.size < w1.heap.size from HBG1.out.lt)
          clear bi2 bg2 hx2 hb2 hb2w HX1 HBG1 HB1 hbb hc0' HEP HES HEE
          generalize xs[m + 2].toNat = K at *
          generalize w1.heap.size = z1 at *
          by_cases hr : Tg.Right ⟨(K : Nat), P, S, E⟩
          case neg =>
            have hrb := Lib.hid (Tg.rightB_no hr)
            have hrd := Lib.hid (rd_torn HL.out HF.out HFL.out (fun h => hr (by have := h.2.2.2.1; rw [← HD.out, HRW.out] at this; exact this)))
            clear hr
            have y0 := HI2.out.cellv (i := 0) rfl
            have y1 := HI2.out.cellv (i := 1) rfl
            have y2 := HI2.out.cellv (i := 2) rfl
            have y3 := HI2.out.cellv (i := 3) rfl
            go_wp2_with fail
            refine wp_region_noPanic ?_
            refine wp_region_held_drew (S := fun W' => W'.cell? ⟨z1, 0, none⟩ = some (.int .i64 K) ∧ W'.cell? ⟨z1, 1, none⟩ = some (.int .u32 P) ∧ W'.cell? ⟨z1, 2, none⟩ = some (.int .u64 S) ∧ W'.cell? ⟨z1, 3, none⟩ = some (.int .u64 E)) (by kernel_rfl) ⟨y0, y1, y2, y3⟩ (fun hS0 => ?_)
            refine wpAnyH_take (i := 0) (v := .agg #[.int .i64 K, .int .u32 P, .int .u64 S, .int .u64 E]) rfl (by kernel_rfl) (by kernel_rfl) (by kernel_rfl) (fun _ _ _ h => h) (Or.inl ⟨by rfl, fun W hSw => ?_⟩) (by assumption) ?_
            · obtain ⟨e0, e1, e2, e3⟩ := hSw
              go_simp
            try simp only [layR]
            refine wpAnyH_ready (rs := [1]) (by kernel_rfl) (by simp) ?_
            refine AllReadyH.cons rfl (fun K' hK => ?_) AllReadyH.nil
            go_simp
            refine (refTagRight_calls ⟨(K : Nat), P, S, E⟩ nP HNS.out HNE.out _).mono ?_
            rw [hrb.out]
            rintro _ w13 ⟨rfl, hbb⟩
            have HBG3 := Lib.hid (HG2.out.drew.belowHere hbb)
            have HBI3 := Lib.hid (HI2.out.drew.belowHere hbb)
            have HB13 := Lib.hid (HB2.out.drew.trans (hbb.mono HB2.out.size))
            clear hbb y0 y1 y2 y3 hS0
            have x0 := HBI3.out.cellv (i := 0) rfl
            have x1 := HBI3.out.cellv (i := 1) rfl
            have x2 := HBI3.out.cellv (i := 2) rfl
            have x3 := HBI3.out.cellv (i := 3) rfl
            refine hK.out _ _ ⟨x0, x1, x2, x3⟩ (fun hS1 => ?_)
            clear x0 x1 x2 x3
            try simp only [layR]
            refine takeV 2 (v := .bool true) rfl (by kernel_rfl) (by kernel_rfl) (by kernel_rfl) (fun _ _ _ h => h) (by rfl) (fun _ _ => rfl) (by assumption) ?_
            try simp only [layR]
            refine takeV 3 (v := .bool true) rfl (by kernel_rfl) (by kernel_rfl) (by kernel_rfl) (fun _ _ _ h => h) (by rfl) (fun _ _ => rfl) (by assumption) ?_
            try simp only [layR]
            refine takeNo 4 rfl (by kernel_rfl) (by kernel_rfl) (by kernel_rfl) (fun _ _ _ h => h) (by rfl) (by assumption) ?_
            try simp only [layR]
            refine takeNo 5 rfl (by kernel_rfl) (by kernel_rfl) (by kernel_rfl) (fun _ _ _ h => h) (by rfl) (by assumption) ?_
            try simp only [layR]
            refine takeNo 6 rfl (by kernel_rfl) (by kernel_rfl) (by kernel_rfl) (fun _ _ _ h => h) (by rfl) (by assumption) ?_
            try simp only [layR]
            refine takeNo 7 rfl (by kernel_rfl) (by kernel_rfl) (by kernel_rfl) (fun _ _ _ h => h) (by rfl) (by assumption) ?_
            try simp only [layR]
            refine takeNo 8 rfl (by kernel_rfl) (by kernel_rfl) (by kernel_rfl) (fun _ _ _ h => h) (by rfl) (by assumption) ?_
            try simp only [layR]
            refine takeNo 9 rfl (by kernel_rfl) (by kernel_rfl) (by kernel_rfl) (fun _ _ _ h => h) (by rfl) (by assumption) ?_
            try simp only [layR]
            refine takeNo 10 rfl (by kernel_rfl) (by kernel_rfl) (by kernel_rfl) (fun _ _ _ h => h) (by rfl) (by assumption) ?_
            try simp only [layR]
            refine takeNo 11 rfl (by kernel_rfl) (by kernel_rfl) (by kernel_rfl) (fun _ _ _ h => h) (by rfl) (by assumption) ?_
            try simp only [layR]
            refine takeNo 12 rfl (by kernel_rfl) (by kernel_rfl) (by kernel_rfl) (fun _ _ _ h => h) (by rfl) (by assumption) ?_
            try simp only [layR]
            refine takeNo 13 rfl (by kernel_rfl) (by kernel_rfl) (by kernel_rfl) (fun _ _ _ h => h) (by rfl) (by assumption) ?_
            try simp only [layR]
            refine takeNo 14 rfl (by kernel_rfl) (by kernel_rfl) (by kernel_rfl) (fun _ _ _ h => h) (by rfl) (by assumption) ?_
            try simp only [layR]
            refine takeV 15 (v := .bool true) rfl (by kernel_rfl) (by kernel_rfl) (by kernel_rfl) (fun _ _ _ h => h) (by rfl) (fun _ _ => rfl) (by assumption) ?_
            try simp only [layR]
            refine wpAnyH_done (by kernel_rfl) ?_ _
            refine NoPanic.normal ?_
            clear hS1
            go_wp2_with (refine wpList_store_blk rfl rfl _ _ _ rfl w.heap.size #[.int .i64 0, .int .u32 0, .int .u64 0, .int .u64 0] rfl rfl 40 #[.int .i64 0, .int .u32 0, .int .u64 0, .int .u64 0] HBG3.out rfl tagInfo (tagOne 0 0 0 0) ?_)
            have q := HBG3.out.row #[.int .i64 0, .int .u32 0, .int .u64 0, .int .u64 0]
            have z0 := q.cellv (i := 0) rfl
            have z1 := q.cellv (i := 1) rfl
            have z2 := q.cellv (i := 2) rfl
            have z3 := q.cellv (i := 3) rfl
            refine bodyPost_ret (v := .tuple #[.agg #[.int .i64 0, .int .u32 0, .int .u64 0, .int .u64 0], .slice none 0 0, .int .i64 21]) (by simp [results, Try.results32, go_sem, z0, z1, z2, z3]) rfl (rd_none hrd.out rfl (HB13.out.setRow_ (Nat.le_refl _) _))
          have hrb := Lib.hid (Tg.rightB_yes hr)
          have HRR := Lib.hid hr
          clear hr
          have hgi := Lib.hid (Tg.good_iff (pay := xs.take m) (d := d) (by rw [HD.out, List.length_drop, HL.out]; omega))
          have y0 := HI2.out.cellv (i := 0) rfl
          have y1 := HI2.out.cellv (i := 1) rfl
          have y2 := HI2.out.cellv (i := 2) rfl
          have y3 := HI2.out.cellv (i := 3) rfl
          have hxd : Bytes wc.drew wc.drew.heap.size (cutA (some ⟨b, o, none⟩) c m) 32 d := by
            have h := (HX2.out).drop (l := m) (by omega) hc
            rw [show m + 32 - m = 32 by omega, ← HD.out] at h
            exact h
          have hto := cutB_to (some ⟨b, o, none⟩) (m + 32) c m (by omega)
          have hfrom := cutB_from (some ⟨b, o, none⟩) (m + 32) c m (by omega)
          rw [show m + 32 - m = 32 by omega] at hfrom
          go_wp2_with fail
          refine wp_region_noPanic ?_
          refine wp_region_held_drew (S := fun W' => (W'.cell? ⟨z1, 0, none⟩ = some (.int .i64 K) ∧ W'.cell? ⟨z1, 1, none⟩ = some (.int .u32 P) ∧ W'.cell? ⟨z1, 2, none⟩ = some (.int .u64 S) ∧ W'.cell? ⟨z1, 3, none⟩ = some (.int .u64 E)) ∧ Bytes W' W'.heap.size (cutA (some ⟨b, o, none⟩) c m) 32 d) (by kernel_rfl) ⟨⟨y0, y1, y2, y3⟩, hxd⟩ (fun hS0 => ?_)
          refine takeV 0 (v := .agg #[.int .i64 K, .int .u32 P, .int .u64 S, .int .u64 E]) rfl (by kernel_rfl) (by kernel_rfl) (by kernel_rfl) (fun _ _ _ h => h) (by rfl) (fun W hSw => ?_) (by assumption) ?_
          · obtain ⟨⟨e0, e1, e2, e3⟩, _⟩ := hSw
            go_simp
          try simp only [layR]
          refine wpAnyH_ready (rs := [1]) (by kernel_rfl) (by simp) ?_
          refine AllReadyH.cons rfl (fun K' hK => ?_) AllReadyH.nil
          go_simp
          refine (refTagRight_calls ⟨(K : Nat), P, S, E⟩ nP HNS.out HNE.out _).mono ?_
          rw [hrb.out]
          rintro _ w13 ⟨rfl, hbb⟩
          have HBG3 := Lib.hid (HG2.out.drew.belowHere hbb)
          have HBI3 := Lib.hid (HI2.out.drew.belowHere hbb)
          have HB13 := Lib.hid (HB2.out.drew.trans (hbb.mono HB2.out.size))
          have HX3 := Lib.hid (Arr.on (w := wc.drew) HX2.out hbb)
          have hxd3 := Arr.on hxd hbb
          clear hbb y0 y1 y2 y3 hS0 hxd
          have x0 := HBI3.out.cellv (i := 0) rfl
          have x1 := HBI3.out.cellv (i := 1) rfl
          have x2 := HBI3.out.cellv (i := 2) rfl
          have x3 := HBI3.out.cellv (i := 3) rfl
          refine hK.out _ _ ⟨⟨x0, x1, x2, x3⟩, hxd3⟩ (fun hS1 => ?_)
          try simp only [layR]
          refine takeV 2 (v := .bool false) rfl (by kernel_rfl) (by kernel_rfl) (by kernel_rfl) (fun _ _ _ h => h) (by rfl) (fun _ _ => rfl) (by assumption) ?_
          try simp only [layR]
          refine takeV 3 (v := .bool false) rfl (by kernel_rfl) (by kernel_rfl) (by kernel_rfl) (fun _ _ _ h => h) (by rfl) (fun _ _ => rfl) (by assumption) ?_
          try simp only [layR]
          refine takeV 4 (v := .agg #[.int .i64 K, .int .u32 P, .int .u64 S, .int .u64 E]) rfl (by kernel_rfl) (by kernel_rfl) (by kernel_rfl) (fun _ _ _ h => h) (by rfl) (fun W hSw => ?_) (by assumption) ?_
          · obtain ⟨⟨e0, e1, e2, e3⟩, _⟩ := hSw
            go_simp
          try simp only [layR]
          refine takeV 5 (v := .slice (some ⟨b, o, none⟩) (m + 32 : Nat) c) rfl (by kernel_rfl) (by kernel_rfl) (by kernel_rfl) (fun _ _ _ h => h) (by rfl) (fun _ _ => rfl) (by assumption) ?_
          try simp only [layR]
          refine takeV 6 (v := .int .i64 m) rfl (by kernel_rfl) (by kernel_rfl) (by kernel_rfl) (fun _ _ _ h => h) (by rfl) (fun _ _ => rfl) (by assumption) ?_
          try simp only [layR]
          refine takeV 7 (v := .slice (some ⟨b, o, none⟩) m c) rfl (by kernel_rfl) (by kernel_rfl) (by kernel_rfl) (fun _ _ _ h => h) (by rfl) (fun W hSw => ?_) (by assumption) ?_
          · skip
            go_simp
          try simp only [layR]
          refine takeV 10 (v := .slice (some ⟨b, o, none⟩) (m + 32 : Nat) c) rfl (by kernel_rfl) (by kernel_rfl) (by kernel_rfl) (fun _ _ _ h => h) (by rfl) (fun _ _ => rfl) (by assumption) ?_
          try simp only [layR]
          refine takeV 11 (v := .int .i64 m) rfl (by kernel_rfl) (by kernel_rfl) (by kernel_rfl) (fun _ _ _ h => h) (by rfl) (fun _ _ => rfl) (by assumption) ?_
          try simp only [layR]
          refine takeV 12 (v := .slice (cutA (some ⟨b, o, none⟩) c m) 32 (c - m : Nat)) rfl (by kernel_rfl) (by kernel_rfl) (by kernel_rfl) (fun _ _ _ h => h) (by rfl) (fun W hSw => ?_) (by assumption) ?_
          · skip
            go_simp
          try simp only [layR]
          refine takeV 13 (v := .string (strL d)) rfl (by kernel_rfl) (by kernel_rfl) (by kernel_rfl) (fun _ _ _ h => h) (by rfl) (fun W hSw => ?_) (by assumption) ?_
          · have hcv := convB (c := c - m) hSw.2
            go_simp
          try simp only [layR]
          refine wpAnyH_ready (rs := [8]) (by kernel_rfl) (by simp) ?_
          refine AllReadyH.cons rfl (fun K' hK => ?_) AllReadyH.nil
          go_simp
          refine (refBeside_calls ⟨(K : Nat), P, S, E⟩ (some ⟨b, o, none⟩) m c (xs.take m) _ HRR.out (HX3.out.take (k := m) (by omega))).mono ?_
          rintro _ w14 ⟨v14, rfl, hy, hbb⟩
          obtain ⟨a14, c14, rfl, _⟩ := hy.formN (n := 32) (Tg.beside_len _ _)
          have hy14 := hy.arr (by rw [Tg.beside_len]; omega)
          have hcv := convB (c := c14) hy14
          have HBG4 := Lib.hid (HBG3.out.belowHere hbb)
          have HBI4 := Lib.hid (HBI3.out.belowHere hbb)
          have HB14 := Lib.hid (HB13.out.trans (hbb.mono HB13.out.size))
          have HX4 := Lib.hid (Arr.on HX3.out hbb)
          have hxd4 := Arr.on hxd3 hbb
          clear hbb x0 x1 x2 x3 hS1 hxd3 hy hy14
          have x0 := HBI4.out.cellv (i := 0) rfl
          have x1 := HBI4.out.cellv (i := 1) rfl
          have x2 := HBI4.out.cellv (i := 2) rfl
          have x3 := HBI4.out.cellv (i := 3) rfl
          refine hK.out _ _ ⟨⟨x0, x1, x2, x3⟩, hxd4⟩ (fun hS2 => ?_)
          try simp only [layR]
          refine wpAnyH_ready (rs := [9]) (by kernel_rfl) (by simp) ?_
          refine AllReadyH.cons rfl (fun K' hK => ?_) AllReadyH.nil
          go_simp
          refine hK.out _ _ hS2 (fun hS3 => ?_)
          try simp only [layR]
          clear hcv
          by_cases hbd : Tg.beside ⟨(K : Nat), P, S, E⟩ (xs.take m) = d
          case neg =>
            have hq := strL_beq (Tg.beside ⟨(K : Nat), P, S, E⟩ (xs.take m)) d
            rw [decide_eq_false hbd] at hq
            have hrd := Lib.hid (rd_torn HL.out HF.out HFL.out (fun h => hbd (by rw [← HD.out] at h; have := (hgi.out.1 h).2; rw [HRW.out] at this; exact this)))
            have hbd := Lib.hid hbd
            refine takeV 14 (v := .bool true) rfl (by kernel_rfl) (by kernel_rfl) (by kernel_rfl) (fun _ _ _ h => h) (by rfl) (fun W hSw => ?_) (by assumption) ?_
            · skip
              go_simp
            try simp only [layR]
            refine takeV 15 (v := .bool true) rfl (by kernel_rfl) (by kernel_rfl) (by kernel_rfl) (fun _ _ _ h => h) (by rfl) (fun _ _ => rfl) (by assumption) ?_
            try simp only [layR]
            refine wpAnyH_done (by kernel_rfl) ?_ _
            refine NoPanic.normal ?_
            clear hS2 hS3 hxd4 x0 x1 x2 x3 hq
            go_wp2_with (refine wpList_store_blk rfl rfl _ _ _ rfl w.heap.size #[.int .i64 0, .int .u32 0, .int .u64 0, .int .u64 0] rfl rfl 40 #[.int .i64 0, .int .u32 0, .int .u64 0, .int .u64 0] HBG4.out rfl tagInfo (tagOne 0 0 0 0) ?_)
            have q := HBG4.out.row #[.int .i64 0, .int .u32 0, .int .u64 0, .int .u64 0]
            have z0 := q.cellv (i := 0) rfl
            have z1 := q.cellv (i := 1) rfl
            have z2 := q.cellv (i := 2) rfl
            have z3 := q.cellv (i := 3) rfl
            refine bodyPost_ret (v := .tuple #[.agg #[.int .i64 0, .int .u32 0, .int .u64 0, .int .u64 0], .slice none 0 0, .int .i64 21]) (by simp [results, Try.results32, go_sem, z0, z1, z2, z3]) rfl (rd_none hrd.out rfl (HB14.out.setRow_ (Nat.le_refl _) _))
          have hq := strL_beq (Tg.beside ⟨(K : Nat), P, S, E⟩ (xs.take m)) d
          rw [decide_eq_true hbd] at hq
          have hrd := Lib.hid (rd_good HL.out HF.out HFL.out (by rw [← HD.out]; exact hgi.out.2 (by rw [HRW.out]; exact ⟨HRR.out, hbd⟩)))
          have HBD := Lib.hid hbd
          clear hbd
          refine takeV 14 (v := .bool false) rfl (by kernel_rfl) (by kernel_rfl) (by kernel_rfl) (fun _ _ _ h => h) (by rfl) (fun W hSw => ?_) (by assumption) ?_
          · skip
            go_simp
          try simp only [layR]
          refine takeV 15 (v := .bool false) rfl (by kernel_rfl) (by kernel_rfl) (by kernel_rfl) (fun _ _ _ h => h) (by rfl) (fun _ _ => rfl) (by assumption) ?_
          try simp only [layR]
          refine wpAnyH_done (by kernel_rfl) ?_ _
          refine NoPanic.normal ?_
          clear hS2 hS3 hxd4 hq hfrom
          go_wp2_with fail
          have HBG5 := Lib.hid HBG4.out.drew
          have HBI5 := Lib.hid HBI4.out.drew
          have HB5 := Lib.hid HB14.out.drew
          have HX5 : Hid (Bytes w14.drew w14.drew.heap.size (some ⟨b, o, none⟩) (m + 32) xs) := Lib.hid HX4.out
          refine wp_region_noPanic ?_
          refine wp_region_held_drew (S := fun W' => W'.cell? ⟨z1, 0, none⟩ = some (.int .i64 K) ∧ W'.cell? ⟨z1, 1, none⟩ = some (.int .u32 P) ∧ W'.cell? ⟨z1, 2, none⟩ = some (.int .u64 S) ∧ W'.cell? ⟨z1, 3, none⟩ = some (.int .u64 E)) (by kernel_rfl) ⟨x0, x1, x2, x3⟩ (fun hS0 => ?_)
          clear x0 x1 x2 x3 HBG4 HBI4 HB14 HX4
          generalize w14.drew = w15 at *
          refine takeV 0 (v := .agg #[.int .i64 K, .int .u32 P, .int .u64 S, .int .u64 E]) rfl (by kernel_rfl) (by kernel_rfl) (by kernel_rfl) (fun _ _ _ h => h) (by rfl) (fun W hSw => ?_) (by assumption) ?_
          · obtain ⟨e0, e1, e2, e3⟩ := hSw
            go_simp
          try simp only [layR]
          refine takeV 1 (v := .slice (some ⟨b, o, none⟩) (m + 32 : Nat) c) rfl (by kernel_rfl) (by kernel_rfl) (by kernel_rfl) (fun _ _ _ h => h) (by rfl) (fun _ _ => rfl) (by assumption) ?_
          try simp only [layR]
          refine takeV 2 (v := .int .i64 m) rfl (by kernel_rfl) (by kernel_rfl) (by kernel_rfl) (fun _ _ _ h => h) (by rfl) (fun _ _ => rfl) (by assumption) ?_
          try simp only [layR]
          refine takeV 3 (v := .slice (some ⟨b, o, none⟩) m c) rfl (by kernel_rfl) (by kernel_rfl) (by kernel_rfl) (fun _ _ _ h => h) (by rfl) (fun W hSw => ?_) (by assumption) ?_
          · skip
            go_simp
          try simp only [layR]
          have q0 := HBG5.out.cellv (i := 0) rfl
          have q1 := HBG5.out.cellv (i := 1) rfl
          have q2 := HBG5.out.cellv (i := 2) rfl
          have q3 := HBG5.out.cellv (i := 3) rfl
          have f0 := HBG5.out.frozen 0
          have f1 := HBG5.out.frozen 1
          have f2 := HBG5.out.frozen 2
          have f3 := HBG5.out.frozen 3
          refine wpAnyH_ready (rs := [4]) (by kernel_rfl) (by simp) ?_
          refine AllReadyH.cons rfl (fun K' hK => ?_) AllReadyH.nil
          go_simp
          clear q0 q1 q2 q3 f0 f1 f2 f3
          have HBf := Lib.hid ((((HBG5.out.set 0 (.int .i64 K)).set 1 (.int .u32 P)).set 2 (.int .u64 S)).set 3 (.int .u64 E))
          have HBB := Lib.hid ((((HB5.out.setCell (p := ⟨w.heap.size, 0, none⟩) (Nat.le_refl _) (.int .i64 K)).setCell (p := ⟨w.heap.size, 1, none⟩) (Nat.le_refl _) (.int .u32 P)).setCell (p := ⟨w.heap.size, 2, none⟩) (Nat.le_refl _) (.int .u64 S)).setCell (p := ⟨w.heap.size, 3, none⟩) (Nat.le_refl _) (.int .u64 E))
          have hne : z1 ≠ w.heap.size := Nat.ne_of_gt HZ1.out
          have HIf := Lib.hid ((((HBI5.out.far (p := ⟨w.heap.size, 0, none⟩) hne (.int .i64 K)).far (p := ⟨w.heap.size, 1, none⟩) hne (.int .u32 P)).far (p := ⟨w.heap.size, 2, none⟩) hne (.int .u64 S)).far (p := ⟨w.heap.size, 3, none⟩) hne (.int .u64 E))
          have hxb : b ≠ w.heap.size := fun e => hnb.out e
          have HXf := Lib.hid ((((HX5.out.take (k := m) (by omega)).farC (p := ⟨w.heap.size, 0, none⟩) hxb (.int .i64 K)).farC (p := ⟨w.heap.size, 1, none⟩) hxb (.int .u32 P) |>.farC (p := ⟨w.heap.size, 2, none⟩) hxb (.int .u64 S)).farC (p := ⟨w.heap.size, 3, none⟩) hxb (.int .u64 E))
          have HZf := Lib.hid (show w15.heap.size ≤ ((((w15.setCell ⟨w.heap.size, 0, none⟩ (.int .i64 K)).setCell ⟨w.heap.size, 1, none⟩ (.int .u32 P)).setCell ⟨w.heap.size, 2, none⟩ (.int .u64 S)).setCell ⟨w.heap.size, 3, none⟩ (.int .u64 E)).heap.size by simp)
          generalize ((((w15.setCell ⟨w.heap.size, 0, none⟩ (.int .i64 K)).setCell ⟨w.heap.size, 1, none⟩ (.int .u32 P)).setCell ⟨w.heap.size, 2, none⟩ (.int .u64 S)).setCell ⟨w.heap.size, 3, none⟩ (.int .u64 E)) = wf at *
          refine hK.out _ _ ⟨HIf.out.cellv (i := 0) rfl, HIf.out.cellv (i := 1) rfl, HIf.out.cellv (i := 2) rfl, HIf.out.cellv (i := 3) rfl⟩ (fun hS4 => ?_)
          try simp only [layR]
          refine takeV 5 (v := .slice (some ⟨b, o, none⟩) m c) rfl (by kernel_rfl) (by kernel_rfl) (by kernel_rfl) (fun _ _ _ h => h) (by rfl) (fun _ _ => rfl) (by assumption) ?_
          try simp only [layR]
          refine takeV 6 (v := .int .i64 0) rfl (by kernel_rfl) (by kernel_rfl) (by kernel_rfl) (fun _ _ _ h => h) (by rfl) (fun _ _ => rfl) (by assumption) ?_
          try simp only [layR]
          refine wpAnyH_done (by kernel_rfl) ?_ _
          refine NoPanic.normal ?_
          clear hS0 hS4 hto
          have c0 := HBf.out.cellv (i := 0) rfl
          have c1 := HBf.out.cellv (i := 1) rfl
          have c2 := HBf.out.cellv (i := 2) rfl
          have c3 := HBf.out.cellv (i := 3) rfl
          go_wp2
          refine bodyPost_ret (v := .tuple #[.agg #[.int .i64 K, .int .u32 P, .int .u64 S, .int .u64 E], .slice (some ⟨b, o, none⟩) m c, .int .i64 0]) (by simp [results, Try.results32, go_sem, c0, c1, c2, c3]) rfl ⟨some ⟨b, o, none⟩, m, c, ?_, ?_, by omega, HBB.out⟩
          · rw [hrd.out.1, hrd.out.2.2, ← HD.out, HRW.out]
          · rw [hrd.out.2.1]
            exact Arr.mono HXf.out HZf.out
theorem refTRead_calls (a : Option Addr) (n c : Nat) (xs : List UInt8) (w : World) (hx : Bytes w w.heap.size a n xs) (hnc : n ≤ c) :
    Calls Try.prog 32 #[.slice a n c] w (Rd xs w) := by
  by_cases h : n < 32 ∨ ¬ Tg.Fits (n - 32)
  · exact refTRead_wrong a n c xs w hx h
  · obtain ⟨m, rfl⟩ : ∃ m, n = m + 32 := ⟨n - 32, by omega⟩
    rw [Nat.add_sub_cancel] at h
    exact refTRead_body a m c xs w hx hnc (Decidable.byContradiction fun g => h (.inr g))
end Go.Proofs.Ytfcikigdmecbnaa
