/-
  The reference's Read.
-/
import Derived.Test.YtlnomkkamopieaaDirRead
namespace Go.Proofs.Ytlnomkkamopieaa
open Go.RowKit

theorem refRead_len (a : Option Addr) (n c : Nat) (b : List UInt8) (w : World) (hx : Bytes w w.heap.size a n b) (h : n ≠ 16) :
    Calls Try.prog 13 #[.slice a n c] w (ReadR b w) := by
  have h1 : ((n : Int) != 16) = true := by rw [bne_iff_ne]; omega
  have HB := Lib.hid (fun w' => read_bad (w := w) (w' := w') (b := b) (E := 1) (by unfold Dir.readR; rw [if_pos (by rw [hx.len]; exact h)]))
  clear hx h
  go_enter Try.func13, Try.ntmps13
  go_wp2
  refine bodyPost_ret (v := .tuple #[.agg #[.int .i64 0, .string ⟨#[]⟩], .bool false, .int .i64 1]) (by simp [results, Try.results13, go_sem]) rfl (HB.out _ ((Below.refl _ _).alloc (Nat.le_refl _) _))
theorem refRead_zero (a : Option Addr) (c : Nat) (b : List UInt8) (w : World) (hx : Bytes w w.heap.size a 16 b) (h : Dir.isZ b = true) :
    Calls Try.prog 13 #[.slice a 16 c] w (ReadR b w) := by
  have HB := Lib.hid (fun w' => read_bad (w := w) (w' := w') (b := b) (E := 0) (by unfold Dir.readR; rw [if_neg (by rw [hx.len]; omega), if_pos h]))
  have he := Lib.hid (zero_calls a 16 c b _ (hx.alloc (.cells #[.int .i64 0, .string ⟨#[]⟩] 23)))
  rw [h] at he
  have b0 := Blk.new w 23 #[.int .i64 0, .string ⟨#[]⟩]
  have hb1 := (Below.refl w.heap.size w).alloc (Nat.le_refl _) (.cells #[.int .i64 0, .string ⟨#[]⟩] 23)
  clear hx h
  go_enter Try.func13, Try.ntmps13
  go_wp2_with fail
  refine he.out.mono ?_
  rintro e w_ ⟨rfl, rfl⟩
  go_wp2
  refine bodyPost_ret (v := .tuple #[.agg #[.int .i64 0, .string ⟨#[]⟩], .bool false, .int .i64 0]) (by simp [results, Try.results13, go_sem]) rfl (HB.out _ ((Below.refl _ _).alloc (Nat.le_refl _) _))
set_option maxHeartbeats 1000000 in
theorem refRead_big (a : Option Addr) (c : Nat) (b : List UInt8) (w : World) (hx : Bytes w w.heap.size a 16 b) (h : Dir.isZ b = false) (hn : 13 < Dir.lenN b) :
    Calls Try.prog 13 #[.slice a 16 c] w (ReadR b w) := by
  have HB := Lib.hid (fun w' => read_bad (w := w) (w' := w') (b := b) (E := 50) (by unfold Dir.readR; rw [if_neg (by rw [hx.len]; omega), if_neg (by rw [h]; simp), if_pos hn]))
  have he := Lib.hid (zero_calls a 16 c b _ (hx.alloc (.cells #[.int .i64 0, .string ⟨#[]⟩] 23)))
  rw [h] at he
  obtain ⟨g, o, rfl, hlt, hc⟩ := bytes_getD (hx.alloc (.cells #[.int .i64 0, .string ⟨#[]⟩] 23)) (by omega)
  have c2 := hc 2 (by omega)
  have hb2 := (b.getD 2 0).toNat_lt
  unfold Dir.lenN at hn
  generalize (b.getD 2 0).toNat = N at *
  have g1 : decide (13 < (N : Int)) = true := decide_eq_true (by omega)
  clear hx h hc hn
  go_enter Try.func13, Try.ntmps13
  go_wp2_with fail
  refine he.out.mono ?_
  rintro e w_ ⟨rfl, rfl⟩
  go_wp2
  refine bodyPost_ret (v := .tuple #[.agg #[.int .i64 0, .string ⟨#[]⟩], .bool false, .int .i64 50]) (by simp [results, Try.results13, go_sem]) rfl (HB.out _ ((Below.refl _ _).alloc (Nat.le_refl _) _))
set_option maxHeartbeats 4000000 in
theorem refRead_go (a : Option Addr) (c : Nat) (b : List UInt8) (w : World) (hx : Bytes w w.heap.size a 16 b) (hcc : 16 ≤ c) (h : Dir.isZ b = false) (hn : ¬ 13 < Dir.lenN b) :
    Calls Try.prog 13 #[.slice a 16 c] w (ReadR b w) := by
  have HR := Lib.hid (show Dir.readR b = if (Dir.writeE (Dir.entN b) = 0 ∧ Dir.isZ (b.drop (3 + Dir.lenN b)) = true) then (Dir.entN b, true, 0) else (Dir.none_, false, 50) by
    unfold Dir.readR; rw [if_neg (by rw [hx.len]; omega), if_neg (by rw [h]; simp), if_neg hn]; simp only [Dir.slot_iff b hx.len (show Dir.lenN b ≤ 13 by omega)])
  have he := Lib.hid (zero_calls a 16 c b _ (hx.alloc (.cells #[.int .i64 0, .string ⟨#[]⟩] 23)))
  rw [h] at he
  have hb1 := (Below.refl w.heap.size w).alloc (Nat.le_refl _) (.cells #[.int .i64 0, .string ⟨#[]⟩] 23)
  have hx1 := hx.on hb1
  have br := Blk.new w 23 #[.int .i64 0, .string ⟨#[]⟩]
  obtain ⟨w1, hw1⟩ : ∃ w1, w1 = w.alloc (.cells #[.int .i64 0, .string ⟨#[]⟩] 23) := ⟨_, rfl⟩
  rw [← hw1] at he hb1 hx1 br
  have hzz := Lib.hid (zero_calls _ _ (c - (3 + Dir.lenN b)) _ w1 (hx1.drop (l := 3 + Dir.lenN b) (by omega) hcc))
  have hcut0 := hx1.drop (l := 3) (by omega) hcc
  have hcut := hcut0.take (k := Dir.lenN b) (by omega)
  rw [show (b.drop 3).take (Dir.lenN b) = Dir.nameN b from rfl] at hcut
  have hnl : (Dir.nameN b).length = Dir.lenN b := hcut.len
  have hent : Dir.entN b = ⟨((Dir.inN b : Nat) : Int), Dir.nameN b⟩ := rfl
  have hin : Dir.inN b = (b.getD 0 0).toNat + 256 * (b.getD 1 0).toNat := rfl
  obtain ⟨g, o, rfl, hlt, hc⟩ := bytes_getD hx1 (by omega)
  have hl2 : Dir.lenN b = (b.getD 2 0).toNat := rfl
  have y0 := (b.getD 0 0).toNat_lt
  have y1 := (b.getD 1 0).toNat_lt
  have HC := Lib.hid (show ∀ W, Below w1.heap.size w1 W → W.cell? ⟨g, o, none⟩ = some (.int .u8 ((b.getD 0 0).toNat : Int)) ∧ W.cell? ⟨g, o + 1, none⟩ = some (.int .u8 ((b.getD 1 0).toNat : Int)) ∧ W.cell? ⟨g, o + 2, none⟩ = some (.int .u8 ((b.getD 2 0).toNat : Int)) from
    fun W hb => ⟨(hb.cell hlt).trans (hc 0 (by omega)), (hb.cell hlt).trans (hc 1 (by omega)), (hb.cell hlt).trans (hc 2 (by omega))⟩)
  rw [← hl2] at HC
  have HX := Lib.hid hx1
  have HCUT := Lib.hid hcut
  have HN := Lib.hid (fun W => refName_calls (Dir.nameN b) W (by omega))
  have hwe := Lib.hid (Dir.writeE_iff (Dir.entN b))
  rw [hent] at HR hwe
  simp only at hwe
  have hadd := Lib.hid hin
  have hinlt : Dir.inN b < 65536 := by omega
  generalize Dir.lenN b = N at *
  generalize Dir.inN b = I at *
  generalize Dir.nameN b = nm at *
  generalize Dir.isZ (b.drop (3 + N)) = Z at *
  generalize (b.getD 0 0).toNat = x0 at *
  generalize (b.getD 1 0).toNat = x1 at *
  have HBR := Lib.hid br
  have HB1 := Lib.hid hb1
  have HL := Lib.hid hx.len
  have c2 := (HC.out w1 (Below.refl _ _)).2.2
  have g1 : decide (13 < (N : Int)) = false := decide_eq_false (by omega)
  have hnb : N ≤ 13 := by omega
  have q3 : IntKind.i64.wrap (3 + (N : Int)) = 3 + (N : Int) := IntWalk.i64_in _ ⟨by omega, by omega⟩
  have f1 : (0 : Int) ≤ 3 + (N : Int) := by omega
  have f2 : 3 + (N : Int) ≤ (c : Int) := by omega
  have f3 : (3 : Int) ≤ max (3 + (N : Int)) 0 := by omega
  have f4 : (3 + (N : Int)).toNat - 3 = N := by omega
  have f5 : ¬ c = 3 := by omega
  rw [show cutA (some ⟨g, o, none⟩) c 3 = some ⟨g, o + 3, none⟩ by unfold cutA; rw [if_neg f5]; exact congrArg some (Addr.add_mid g o 3)] at HCUT
  have hcz := cutB_from (some ⟨g, o, none⟩) 16 c (3 + N) (by omega)
  rw [show ((3 + N : Nat) : Int) = 3 + (N : Int) by omega] at hcz
  generalize cutA (some ⟨g, o, none⟩) c (3 + N) = ca at *
  clear hx h hc hn hx1 hb1 br hcut0 hcut hent hin hl2
  go_enter Try.func13, Try.ntmps13
  go_wp2_with fail
  rw [← hw1]
  have hsz1 : w.heap.size < w1.heap.size := by rw [hw1]; simp
  clear hw1
  refine he.out.mono ?_
  rintro e w_ ⟨rfl, rfl⟩
  cases Z
  case false =>
    have hr := Lib.hid (fun w9 => read_bad (w := w) (w' := w9) (b := b) (HR.out.trans (if_neg (fun h => by cases h.2))))
    go_wp2_with fail
    refine hzz.out.mono ?_
    rintro e w_ ⟨rfl, rfl⟩
    go_wp2_with (refine wpList_store_blk rfl rfl _ _ _ rfl w.heap.size #[.int .i64 0, .string ⟨#[]⟩] rfl rfl 23 #[.int .i64 0, .string ⟨#[]⟩] HBR.out rfl entInfo (entOne ⟨0, []⟩) ?_)
    have q := HBR.out.row #[.int .i64 0, .string ⟨#[]⟩]
    have z0 := q.cellv (i := 0) rfl
    have z1 := q.cellv (i := 1) rfl
    refine bodyPost_ret (v := .tuple #[.agg #[.int .i64 0, .string ⟨#[]⟩], .bool false, .int .i64 50]) (by simp [results, Try.results13, go_sem, *]) rfl (hr.out _ (HB1.out.setRow_ (Nat.le_refl _) _))
  go_wp2_with fail
  refine hzz.out.mono ?_
  rintro e w_ ⟨rfl, rfl⟩
  go_wp2_with fail
  have q1 : IntKind.i64.wrap (x1 : Int) = (x1 : Int) := IntWalk.i64_in _ ⟨by omega, by omega⟩
  have q0 : IntKind.i64.wrap (x0 : Int) = (x0 : Int) := IntWalk.i64_in _ ⟨by omega, by omega⟩
  have q2 : IntKind.i64.wrap (256 * (x1 : Int)) = 256 * (x1 : Int) := IntWalk.i64_in _ ⟨by omega, by omega⟩
  have q4 : IntKind.i64.wrap ((x0 : Int) + 256 * (x1 : Int)) = (x0 : Int) + 256 * (x1 : Int) := IntWalk.i64_in _ ⟨by omega, by omega⟩
  refine wp_region_noPanic ?_
  refine wp_region_held_drew (S := (fun W' => Below w1.heap.size w1 W')) (by kernel_rfl) (Below.refl _ _).drew (fun hS0 => ?_)
  refine takeV 0 (v := .slice (some ⟨g, o, none⟩) 16 c) rfl (by kernel_rfl) (by kernel_rfl) (by kernel_rfl) (fun _ _ _ h => h) (by rfl) (fun _ _ => rfl) (by assumption) ?_
  try simp only [layR]
  refine takeV 1 (v := .pointer (some ⟨g, o, none⟩)) rfl (by kernel_rfl) (by kernel_rfl) (by kernel_rfl) (fun _ _ _ h => h) (by rfl) (fun W hSw => ?_) (by assumption) ?_
  · go_simp
  try simp only [layR]
  refine takeV 2 (v := .int .u8 (x0 : Int)) rfl (by kernel_rfl) (by kernel_rfl) (by kernel_rfl) (fun _ _ _ h => h) (by rfl) (fun W hSw => ?_) (by assumption) ?_
  · have r := (HC.out W hSw).1
    go_simp
  try simp only [layR]
  refine takeV 3 (v := .int .i64 (x0 : Int)) rfl (by kernel_rfl) (by kernel_rfl) (by kernel_rfl) (fun _ _ _ h => h) (by rfl) (fun W hSw => ?_) (by assumption) ?_
  · go_simp
  try simp only [layR]
  refine takeV 4 (v := .slice (some ⟨g, o, none⟩) 16 c) rfl (by kernel_rfl) (by kernel_rfl) (by kernel_rfl) (fun _ _ _ h => h) (by rfl) (fun _ _ => rfl) (by assumption) ?_
  try simp only [layR]
  refine takeV 5 (v := .pointer (some ⟨g, o + 1, none⟩)) rfl (by kernel_rfl) (by kernel_rfl) (by kernel_rfl) (fun _ _ _ h => h) (by rfl) (fun W hSw => ?_) (by assumption) ?_
  · go_simp
  try simp only [layR]
  refine takeV 6 (v := .int .u8 (x1 : Int)) rfl (by kernel_rfl) (by kernel_rfl) (by kernel_rfl) (fun _ _ _ h => h) (by rfl) (fun W hSw => ?_) (by assumption) ?_
  · have r := (HC.out W hSw).2.1
    go_simp
  try simp only [layR]
  refine takeV 7 (v := .int .i64 (x1 : Int)) rfl (by kernel_rfl) (by kernel_rfl) (by kernel_rfl) (fun _ _ _ h => h) (by rfl) (fun W hSw => ?_) (by assumption) ?_
  · go_simp
  try simp only [layR]
  refine takeV 8 (v := .int .i64 (256 * (x1 : Int))) rfl (by kernel_rfl) (by kernel_rfl) (by kernel_rfl) (fun _ _ _ h => h) (by rfl) (fun W hSw => ?_) (by assumption) ?_
  · go_simp
  try simp only [layR]
  refine takeV 9 (v := .int .i64 ((x0 : Int) + 256 * (x1 : Int))) rfl (by kernel_rfl) (by kernel_rfl) (by kernel_rfl) (fun _ _ _ h => h) (by rfl) (fun W hSw => ?_) (by assumption) ?_
  · go_simp
  try simp only [layR]
  refine takeV 10 (v := .slice (some ⟨g, o, none⟩) 16 c) rfl (by kernel_rfl) (by kernel_rfl) (by kernel_rfl) (fun _ _ _ h => h) (by rfl) (fun _ _ => rfl) (by assumption) ?_
  try simp only [layR]
  refine takeV 11 (v := .int .i64 (N : Int)) rfl (by kernel_rfl) (by kernel_rfl) (by kernel_rfl) (fun _ _ _ h => h) (by rfl) (fun _ _ => rfl) (by assumption) ?_
  try simp only [layR]
  refine takeV 12 (v := .int .i64 (3 + (N : Int))) rfl (by kernel_rfl) (by kernel_rfl) (by kernel_rfl) (fun _ _ _ h => h) (by rfl) (fun W hSw => ?_) (by assumption) ?_
  · go_simp
  try simp only [layR]
  refine takeV 13 (v := .slice (some ⟨g, o + 3, none⟩) N (c - 3 : Nat)) rfl (by kernel_rfl) (by kernel_rfl) (by kernel_rfl) (fun _ _ _ h => h) (by rfl) (fun W hSw => ?_) (by assumption) ?_
  · go_simp
  try simp only [layR]
  refine takeV 14 (v := .string (strL nm)) rfl (by kernel_rfl) (by kernel_rfl) (by kernel_rfl) (fun _ _ _ h => h) (by rfl) (fun W hSw => ?_) (by assumption) ?_
  · have r := convB (c := (c - 3 : Nat)) (HCUT.out.on hSw)
    go_simp
  try simp only [layR]
  refine takeV 15 (v := .agg #[.int .i64 ((x0 : Int) + 256 * (x1 : Int)), .string (strL nm)]) rfl (by kernel_rfl) (by kernel_rfl) (by kernel_rfl) (fun _ _ _ h => h) (by rfl) (fun W hSw => ?_) (by assumption) ?_
  · go_simp
  try simp only [layR]
  refine wpAnyH_ready (rs := [16]) (by kernel_rfl) (by simp) ?_
  refine AllReadyH.cons rfl (fun K' hK => ?_) AllReadyH.nil
  go_simp
  refine hK.out _ _ ((Below.refl _ _).alloc (Nat.le_refl _) _).drew (fun hS1 => ?_)
  try simp only [layR]
  refine wpAnyH_ready (rs := [17]) (by kernel_rfl) (by simp) ?_
  refine AllReadyH.cons rfl (fun K' hK => ?_) AllReadyH.nil
  go_simp
  refine hK.out _ _ ((Below.refl _ _).alloc (Nat.le_refl _) _).drew (fun hS2 => ?_)
  try simp only [layR]
  refine wpAnyH_done (by kernel_rfl) ?_ _
  refine NoPanic.normal ?_
  rw [show (x0 : Int) + 256 * (x1 : Int) = (I : Int) by have := hadd.out; omega]
  obtain ⟨w2, hw2⟩ : ∃ w2, w2 = (w1.alloc (.cells #[.int .i64 (I : Int), .string (strL nm)] 23)).drew := ⟨_, rfl⟩
  rw [← hw2]
  have be2 : Blk w2 w1.heap.size 23 #[.int .i64 (I : Int), .string (strL nm)] := by rw [hw2]; exact (Blk.new _ _ _).drew
  have hb2 : Below w1.heap.size w1 w2 := by rw [hw2]; exact ((Below.refl _ _).alloc (Nat.le_refl _) _).drew
  have br2 := HBR.out.belowHere hb2
  have hx2 := HX.out.on hb2
  have hbb2 := HB1.out.trans (hb2.mono (Nat.le_of_lt hsz1))
  have BE2 := Lib.hid be2
  have BR2 := Lib.hid br2
  have HX2 := Lib.hid hx2
  have HBB2 := Lib.hid hbb2
  have e0 := be2.cellv (i := 0) rfl
  have e1 := be2.cellv (i := 1) rfl
  clear hw2 be2 hb2 br2 hx2 hbb2 hS0 hS1 hS2 c2
  by_cases hI : I = 0
  · have hr := Lib.hid (fun w9 => read_bad (w := w) (w' := w9) (b := b) (HR.out.trans (if_neg (fun h => by have := (hwe.out.1 h.1).1.1; omega))))
    have g2 : ((I : Int) == 0) = true := by rw [hI]; rfl
    clear hI
    go_wp2_with (refine wpList_store_blk rfl rfl _ _ _ rfl w.heap.size #[.int .i64 0, .string ⟨#[]⟩] rfl rfl 23 #[.int .i64 0, .string ⟨#[]⟩] BR2.out rfl entInfo (entOne ⟨0, []⟩) ?_)
    have q := BR2.out.row #[.int .i64 0, .string ⟨#[]⟩]
    have z0 := q.cellv (i := 0) rfl
    have z1 := q.cellv (i := 1) rfl
    refine bodyPost_ret (v := .tuple #[.agg #[.int .i64 0, .string ⟨#[]⟩], .bool false, .int .i64 50]) (by simp [results, Try.results13, go_sem, *]) rfl (hr.out _ (HBB2.out.setRow_ (Nat.le_refl _) _))
  have g2 : ((I : Int) == 0) = false := by rw [beq_eq_false_iff_ne]; omega
  by_cases hE : Pth.nameE nm = 0
  case neg =>
    have hr := Lib.hid (fun w9 => read_bad (w := w) (w' := w9) (b := b) (HR.out.trans (if_neg (fun h => hE (hwe.out.1 h.1).2))))
    clear HR hwe
    generalize Pth.nameE nm = E at *
    have g3 : (E == 0) = false := by simpa using hE
    have g4 : (E != 0) = true := by simpa using hE
    clear hE hI
    go_wp2_with fail
    refine (HN.out _).mono ?_
    rintro e w_ ⟨rfl, rfl⟩
    go_wp2_with (refine wpList_store_blk rfl rfl _ _ _ rfl w.heap.size #[.int .i64 0, .string ⟨#[]⟩] rfl rfl 23 #[.int .i64 0, .string ⟨#[]⟩] BR2.out rfl entInfo (entOne ⟨0, []⟩) ?_)
    have q := BR2.out.row #[.int .i64 0, .string ⟨#[]⟩]
    have z0 := q.cellv (i := 0) rfl
    have z1 := q.cellv (i := 1) rfl
    refine bodyPost_ret (v := .tuple #[.agg #[.int .i64 0, .string ⟨#[]⟩], .bool false, .int .i64 50]) (by simp [results, Try.results13, go_sem, *]) rfl (hr.out _ (HBB2.out.setRow_ (Nat.le_refl _) _))
  case pos =>
    have hr := Lib.hid (HR.out.trans (if_pos ⟨hwe.out.2 ⟨⟨by omega, by omega⟩, hE⟩, by trivial⟩))
    rw [hE] at HN
    clear HR hwe hE hI
    go_wp2_with fail
    refine (HN.out _).mono ?_
    rintro e w_ ⟨rfl, rfl⟩
    go_wp2_with (refine wpList_store_blk rfl rfl _ _ _ rfl w.heap.size #[.int .i64 (I : Int), .string (strL nm)] rfl rfl 23 #[.int .i64 0, .string ⟨#[]⟩] BR2.out rfl entInfo (entOne ⟨(I : Int), nm⟩) ?_)
    have q := BR2.out.row #[.int .i64 (I : Int), .string (strL nm)]
    have z0 := q.cellv (i := 0) rfl
    have z1 := q.cellv (i := 1) rfl
    refine bodyPost_ret (v := .tuple #[.agg #[.int .i64 (I : Int), .string (strL nm)], .bool true, .int .i64 0]) (by simp [results, Try.results13, go_sem, *]) rfl ⟨?_, HBB2.out.setRow_ (Nat.le_refl _) _⟩
    rw [hr.out]
    rfl
theorem refRead_calls (a : Option Addr) (n c : Nat) (b : List UInt8) (w : World) (hx : Bytes w w.heap.size a n b) (hcc : n ≤ c) :
    Calls Try.prog 13 #[.slice a n c] w (ReadR b w) := by
  by_cases h1 : n = 16
  · subst h1
    cases h2 : Dir.isZ b
    · by_cases h3 : 13 < Dir.lenN b
      · exact refRead_big a c b w hx h2 h3
      · exact refRead_go a c b w hx hcc h2 h3
    · exact refRead_zero a c b w hx h2
  · exact refRead_len a n c b w hx h1
end Go.Proofs.Ytlnomkkamopieaa
