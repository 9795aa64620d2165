/-
  dirs.Read.
-/
import Derived.Test.YtlnomkkamopieaaDirWrite
import Derived.Test.YtlnomkkamopieaaDirZero
import Derived.Test.YtlnomkkamopieaaNumSame
namespace Go.Proofs.Ytlnomkkamopieaa
open Go.RowKit

def ReadR (b : List UInt8) (w : World) (x : Ending) (w' : World) : Prop := x = .returned (.tuple #[entV (Dir.readR b).1, .bool (Dir.readR b).2.1, .int .i64 (Dir.readR b).2.2]) ∧ Below w.heap.size w w'
theorem i64_or_hi (x y : Nat) (hx : x < 256) (hy : y < 256) : bits .or .i64 (x : Int) ((y : Int) * 256) = ((x + 256 * y : Nat) : Int) := by
  have h1 : x ||| y * 256 = x + 256 * y := by
    have h := Nat.two_pow_add_eq_or_of_lt (i := 8) (b := x) hx y
    rw [Nat.or_comm, Nat.mul_comm y 256, Nat.add_comm]
    exact h.symm
  have e : (y : Int) * 256 = ((y * 256 : Nat) : Int) := by omega
  rw [e]
  have a1 : (BitVec.ofInt 64 ((y * 256 : Nat) : Int)).toNat = y * 256 := ofInt_i64 _ (by omega)
  have a2 : (BitVec.ofInt 64 (x : Int)).toNat = x := ofInt_i64 _ (by omega)
  show IntKind.i64.wrap ((BitVec.ofInt 64 (x : Int) ||| BitVec.ofInt 64 ((y * 256 : Nat) : Int)).toNat : Int) = _
  rw [BitVec.toNat_or, a1, a2, h1]
  exact IntWalk.i64_in _ ⟨by omega, by omega⟩
theorem entOne (e : Ent) : (#[.int .i64 e.i, .string (strL e.nm)] : Array Value).all (·.oneCell') = true := by simp [Value.oneCell']
theorem entInfo : (Try.prog.info? 23).map (·.size) = some 2 := by kernel_rfl
/-- What a way on which no entry is told leaves. -/
theorem read_bad {b : List UInt8} {E : Int} {w w' : World} (h : Dir.readR b = (Dir.none_, false, E)) (hb : Below w.heap.size w w') : ReadR b w (.returned (.tuple #[.agg #[.int .i64 0, .string ⟨#[]⟩], .bool false, .int .i64 E])) w' := by
  unfold ReadR
  rw [h]
  exact ⟨rfl, hb⟩
theorem read_len (a : Option Addr) (n c : Nat) (b : List UInt8) (w : World) (hx : Bytes w w.heap.size a n b) (h : n ≠ 16) :
    Calls Try.prog 12 #[.slice a n c] w (ReadR b w) := by
  have h1 : ((n : Int) != 16) = true := by rw [bne_iff_ne]; omega
  have HB := Lib.hid (fun w' => read_bad (w := w) (w' := w') (b := b) (E := 1) (by unfold Dir.readR; rw [if_pos (by rw [hx.len]; exact h)]))
  clear hx h
  go_enter Try.func12, Try.ntmps12
  go_wp2
  refine bodyPost_ret (v := .tuple #[.agg #[.int .i64 0, .string ⟨#[]⟩], .bool false, .int .i64 1]) (by simp [results, Try.results12, go_sem]) rfl (HB.out _ ((Below.refl _ _).alloc (Nat.le_refl _) _))
theorem read_zero (a : Option Addr) (c : Nat) (b : List UInt8) (w : World) (hx : Bytes w w.heap.size a 16 b) (h : Dir.isZ b = true) :
    Calls Try.prog 12 #[.slice a 16 c] w (ReadR b w) := by
  have HB := Lib.hid (fun w' => read_bad (w := w) (w' := w') (b := b) (E := 0) (by unfold Dir.readR; rw [if_neg (by rw [hx.len]; omega), if_pos h]))
  have he := Lib.hid (empty_calls a 16 c b _ (hx.alloc (.cells #[.int .i64 0, .string ⟨#[]⟩] 23)))
  rw [h] at he
  have b0 := Blk.new w 23 #[.int .i64 0, .string ⟨#[]⟩]
  have hb1 := (Below.refl w.heap.size w).alloc (Nat.le_refl _) (.cells #[.int .i64 0, .string ⟨#[]⟩] 23)
  clear hx h
  go_enter Try.func12, Try.ntmps12
  go_wp2_with fail
  refine he.out.mono ?_
  rintro e w_ ⟨rfl, rfl⟩
  go_wp2
  refine bodyPost_ret (v := .tuple #[.agg #[.int .i64 0, .string ⟨#[]⟩], .bool false, .int .i64 0]) (by simp [results, Try.results12, go_sem]) rfl (HB.out _ ((Below.refl _ _).alloc (Nat.le_refl _) _))
theorem bytes_getD {w : World} {B : Nat} {a : Option Addr} {n : Nat} {b : List UInt8} (hx : Bytes w B a n b) (hn : 0 < n) : ∃ g o, a = some ⟨g, o, none⟩ ∧ g < B ∧ ∀ k, k < n → w.cell? ⟨g, o + k, none⟩ = some (.int .u8 ((b.getD k 0).toNat : Int)) := by
  obtain ⟨h1, h2, h3⟩ := hx
  obtain ⟨g, o, ha, hlt, hc⟩ := h3 (by omega)
  refine ⟨g, o, ha, hlt, fun k hk => ?_⟩
  rw [hc k (by omega), List.getD_eq_getElem?_getD, List.getElem?_eq_getElem (by omega)]
  rfl
set_option maxHeartbeats 1000000 in
theorem read_big (a : Option Addr) (c : Nat) (b : List UInt8) (w : World) (hx : Bytes w w.heap.size a 16 b) (h : Dir.isZ b = false) (hn : 13 < Dir.lenN b) :
    Calls Try.prog 12 #[.slice a 16 c] w (ReadR b w) := by
  have HB := Lib.hid (fun w' => read_bad (w := w) (w' := w') (b := b) (E := 50) (by unfold Dir.readR; rw [if_neg (by rw [hx.len]; omega), if_neg (by rw [h]; simp), if_pos hn]))
  have he := Lib.hid (empty_calls a 16 c b _ (hx.alloc (.cells #[.int .i64 0, .string ⟨#[]⟩] 23)))
  rw [h] at he
  obtain ⟨g, o, rfl, hlt, hc⟩ := bytes_getD (hx.alloc (.cells #[.int .i64 0, .string ⟨#[]⟩] 23)) (by omega)
  have c2 := hc 2 (by omega)
  have hb2 := (b.getD 2 0).toNat_lt
  unfold Dir.lenN at hn
  generalize (b.getD 2 0).toNat = N at *
  have g1 : decide (13 < (N : Int)) = true := decide_eq_true (by omega)
  clear hx h hc hn
  go_enter Try.func12, Try.ntmps12
  go_wp2_with fail
  refine he.out.mono ?_
  rintro e w_ ⟨rfl, rfl⟩
  go_wp2
  refine bodyPost_ret (v := .tuple #[.agg #[.int .i64 0, .string ⟨#[]⟩], .bool false, .int .i64 50]) (by simp [results, Try.results12, go_sem]) rfl (HB.out _ ((Below.refl _ _).alloc (Nat.le_refl _) _))
set_option maxHeartbeats 4000000 in
theorem read_go (a : Option Addr) (c : Nat) (b : List UInt8) (w : World) (hx : Bytes w w.heap.size a 16 b) (hcc : 16 ≤ c) (h : Dir.isZ b = false) (hn : ¬ 13 < Dir.lenN b) :
    Calls Try.prog 12 #[.slice a 16 c] w (ReadR b w) := by
  have HR := Lib.hid (show Dir.readR b = if Dir.writeE (Dir.entN b) = 0 ∧ b = Dir.slotL (Dir.entN b) then (Dir.entN b, true, 0) else (Dir.none_, false, 50) by
    unfold Dir.readR; rw [if_neg (by rw [hx.len]; omega), if_neg (by rw [h]; simp), if_neg hn])
  have he := Lib.hid (empty_calls a 16 c b _ (hx.alloc (.cells #[.int .i64 0, .string ⟨#[]⟩] 23)))
  rw [h] at he
  have hb1 := (Below.refl w.heap.size w).alloc (Nat.le_refl _) (.cells #[.int .i64 0, .string ⟨#[]⟩] 23)
  have hx1 := hx.on hb1
  have br := Blk.new w 23 #[.int .i64 0, .string ⟨#[]⟩]
  obtain ⟨w1, hw1⟩ : ∃ w1, w1 = w.alloc (.cells #[.int .i64 0, .string ⟨#[]⟩] 23) := ⟨_, rfl⟩
  rw [← hw1] at he hb1 hx1 br
  have hcut0 := hx1.drop (l := 3) (by omega) hcc
  have hcut := hcut0.take (k := Dir.lenN b) (by omega)
  rw [show (b.drop 3).take (Dir.lenN b) = Dir.nameN b from rfl] at hcut
  have hnl : (Dir.nameN b).length = Dir.lenN b := hcut.len
  have hent : Dir.entN b = ⟨((Dir.inN b : Nat) : Int), Dir.nameN b⟩ := rfl
  have hin : Dir.inN b = (b.getD 0 0).toNat + 256 * (b.getD 1 0).toNat := rfl
  obtain ⟨g, o, rfl, hlt, hc⟩ := bytes_getD hx1 (by omega)
  have hl2 : Dir.lenN b = (b.getD 2 0).toNat := rfl
  have y0 := (b.getD 0 0).toNat_lt
  have y1 := (b.getD 1 0).toNat_lt
  have HC := Lib.hid (show ∀ W, Below w1.heap.size w1 W → W.cell? ⟨g, o, none⟩ = some (.int .u8 ((b.getD 0 0).toNat : Int)) ∧ W.cell? ⟨g, o + 1, none⟩ = some (.int .u8 ((b.getD 1 0).toNat : Int)) ∧ W.cell? ⟨g, o + 2, none⟩ = some (.int .u8 ((b.getD 2 0).toNat : Int)) from
    fun W hb => ⟨(hb.cell hlt).trans (hc 0 (by omega)), (hb.cell hlt).trans (hc 1 (by omega)), (hb.cell hlt).trans (hc 2 (by omega))⟩)
  rw [← hl2] at HC
  have HX := Lib.hid hx1
  have HCUT := Lib.hid hcut
  have HW := Lib.hid (fun W => write_calls (Dir.entN b) W (by rw [hent]; simp only [hnl]; omega))
  unfold WriteR at HW
  rw [hent] at HR HW
  have hor := i64_or_hi (b.getD 0 0).toNat (b.getD 1 0).toNat y0 y1
  rw [← hin] at hor
  have hinlt : Dir.inN b < 65536 := by omega
  generalize Dir.lenN b = N at *
  generalize Dir.inN b = I at *
  generalize Dir.nameN b = nm at *
  generalize (b.getD 0 0).toNat = x0 at *
  generalize (b.getD 1 0).toNat = x1 at *
  have HBR := Lib.hid br
  have HB1 := Lib.hid hb1
  have HL := Lib.hid hx.len
  have c2 := (HC.out w1 (Below.refl _ _)).2.2
  have g1 : decide (13 < (N : Int)) = false := decide_eq_false (by omega)
  have hnb : N ≤ 13 := by omega
  have q3 : IntKind.i64.wrap (3 + (N : Int)) = 3 + (N : Int) := IntWalk.i64_in _ ⟨by omega, by omega⟩
  have f1 : (0 : Int) ≤ 3 + (N : Int) := by omega
  have f2 : 3 + (N : Int) ≤ (c : Int) := by omega
  have f3 : (3 : Int) ≤ max (3 + (N : Int)) 0 := by omega
  have f4 : (3 + (N : Int)).toNat - 3 = N := by omega
  have f5 : ¬ c = 3 := by omega
  rw [show cutA (some ⟨g, o, none⟩) c 3 = some ⟨g, o + 3, none⟩ by unfold cutA; rw [if_neg f5]; exact congrArg some (Addr.add_mid g o 3)] at HCUT
  clear hx h hc hn hx1 hb1 br hcut0 hcut hent hin hl2
  go_enter Try.func12, Try.ntmps12
  go_wp2_with fail
  rw [← hw1]
  have hsz1 : w.heap.size < w1.heap.size := by rw [hw1]; simp
  clear hw1
  refine he.out.mono ?_
  rintro e w_ ⟨rfl, rfl⟩
  go_wp2_with fail
  have q1 : IntKind.i64.wrap (x1 : Int) = (x1 : Int) := IntWalk.i64_in _ ⟨by omega, by omega⟩
  have q0 : IntKind.i64.wrap (x0 : Int) = (x0 : Int) := IntWalk.i64_in _ ⟨by omega, by omega⟩
  have q2 : IntKind.i64.wrap ((x1 : Int) * 256) = (x1 : Int) * 256 := IntWalk.i64_in _ ⟨by omega, by omega⟩
  refine wp_region_noPanic ?_
  refine wp_region_held_drew (S := (fun W' => Below w1.heap.size w1 W')) (by kernel_rfl) (Below.refl _ _).drew (fun hS0 => ?_)
  refine takeV 0 (v := .slice (some ⟨g, o, none⟩) 16 c) rfl (by kernel_rfl) (by kernel_rfl) (by kernel_rfl) (fun _ _ _ h => h) (by rfl) (fun _ _ => rfl) (by assumption) ?_
  try simp only [layR]
  refine takeV 1 (v := .pointer (some ⟨g, o, none⟩)) rfl (by kernel_rfl) (by kernel_rfl) (by kernel_rfl) (fun _ _ _ h => h) (by rfl) (fun W hSw => ?_) (by assumption) ?_
  · go_simp
  try simp only [layR]
  refine takeV 2 (v := .int .u8 (x0 : Int)) rfl (by kernel_rfl) (by kernel_rfl) (by kernel_rfl) (fun _ _ _ h => h) (by rfl) (fun W hSw => ?_) (by assumption) ?_
  · have r := (HC.out W hSw).1
    go_simp
  try simp only [layR]
  refine takeV 3 (v := .int .i64 (x0 : Int)) rfl (by kernel_rfl) (by kernel_rfl) (by kernel_rfl) (fun _ _ _ h => h) (by rfl) (fun W hSw => ?_) (by assumption) ?_
  · go_simp
  try simp only [layR]
  refine takeV 4 (v := .slice (some ⟨g, o, none⟩) 16 c) rfl (by kernel_rfl) (by kernel_rfl) (by kernel_rfl) (fun _ _ _ h => h) (by rfl) (fun _ _ => rfl) (by assumption) ?_
  try simp only [layR]
  refine takeV 5 (v := .pointer (some ⟨g, o + 1, none⟩)) rfl (by kernel_rfl) (by kernel_rfl) (by kernel_rfl) (fun _ _ _ h => h) (by rfl) (fun W hSw => ?_) (by assumption) ?_
  · go_simp
  try simp only [layR]
  refine takeV 6 (v := .int .u8 (x1 : Int)) rfl (by kernel_rfl) (by kernel_rfl) (by kernel_rfl) (fun _ _ _ h => h) (by rfl) (fun W hSw => ?_) (by assumption) ?_
  · have r := (HC.out W hSw).2.1
    go_simp
  try simp only [layR]
  refine takeV 7 (v := .int .i64 (x1 : Int)) rfl (by kernel_rfl) (by kernel_rfl) (by kernel_rfl) (fun _ _ _ h => h) (by rfl) (fun W hSw => ?_) (by assumption) ?_
  · go_simp
  try simp only [layR]
  refine takeV 8 (v := .int .i64 ((x1 : Int) * 256)) rfl (by kernel_rfl) (by kernel_rfl) (by kernel_rfl) (fun _ _ _ h => h) (by rfl) (fun W hSw => ?_) (by assumption) ?_
  · go_simp
  try simp only [layR]
  refine takeV 9 (v := .int .i64 (I : Int)) rfl (by kernel_rfl) (by kernel_rfl) (by kernel_rfl) (fun _ _ _ h => h) (by rfl) (fun W hSw => ?_) (by assumption) ?_
  · go_simp
  try simp only [layR]
  refine takeV 10 (v := .slice (some ⟨g, o, none⟩) 16 c) rfl (by kernel_rfl) (by kernel_rfl) (by kernel_rfl) (fun _ _ _ h => h) (by rfl) (fun _ _ => rfl) (by assumption) ?_
  try simp only [layR]
  refine takeV 11 (v := .int .i64 (N : Int)) rfl (by kernel_rfl) (by kernel_rfl) (by kernel_rfl) (fun _ _ _ h => h) (by rfl) (fun _ _ => rfl) (by assumption) ?_
  try simp only [layR]
  refine takeV 12 (v := .int .i64 (3 + (N : Int))) rfl (by kernel_rfl) (by kernel_rfl) (by kernel_rfl) (fun _ _ _ h => h) (by rfl) (fun W hSw => ?_) (by assumption) ?_
  · go_simp
  try simp only [layR]
  refine takeV 13 (v := .slice (some ⟨g, o + 3, none⟩) N (c - 3 : Nat)) rfl (by kernel_rfl) (by kernel_rfl) (by kernel_rfl) (fun _ _ _ h => h) (by rfl) (fun W hSw => ?_) (by assumption) ?_
  · go_simp
  try simp only [layR]
  refine takeV 14 (v := .string (strL nm)) rfl (by kernel_rfl) (by kernel_rfl) (by kernel_rfl) (fun _ _ _ h => h) (by rfl) (fun W hSw => ?_) (by assumption) ?_
  · have r := convB (c := (c - 3 : Nat)) (HCUT.out.on hSw)
    go_simp
  try simp only [layR]
  refine takeV 15 (v := .agg #[.int .i64 (I : Int), .string (strL nm)]) rfl (by kernel_rfl) (by kernel_rfl) (by kernel_rfl) (fun _ _ _ h => h) (by rfl) (fun W hSw => ?_) (by assumption) ?_
  · go_simp
  try simp only [layR]
  refine wpAnyH_ready (rs := [16]) (by kernel_rfl) (by simp) ?_
  refine AllReadyH.cons rfl (fun K' hK => ?_) AllReadyH.nil
  go_simp
  refine hK.out _ _ ((Below.refl _ _).alloc (Nat.le_refl _) _).drew (fun hS1 => ?_)
  try simp only [layR]
  refine wpAnyH_ready (rs := [17]) (by kernel_rfl) (by simp) ?_
  refine AllReadyH.cons rfl (fun K' hK => ?_) AllReadyH.nil
  go_simp
  refine hK.out _ _ ((Below.refl _ _).alloc (Nat.le_refl _) _).drew (fun hS2 => ?_)
  try simp only [layR]
  refine wpAnyH_done (by kernel_rfl) ?_ _
  refine NoPanic.normal ?_
  obtain ⟨w2, hw2⟩ : ∃ w2, w2 = (w1.alloc (.cells #[.int .i64 (I : Int), .string (strL nm)] 23)).drew := ⟨_, rfl⟩
  rw [← hw2]
  have be2 : Blk w2 w1.heap.size 23 #[.int .i64 (I : Int), .string (strL nm)] := by rw [hw2]; exact (Blk.new _ _ _).drew
  have hb2 : Below w1.heap.size w1 w2 := by rw [hw2]; exact ((Below.refl _ _).alloc (Nat.le_refl _) _).drew
  have br2 := HBR.out.belowHere hb2
  have hx2 := HX.out.on hb2
  have hbb2 := HB1.out.trans (hb2.mono (Nat.le_of_lt hsz1))
  have BE2 := Lib.hid be2
  have BR2 := Lib.hid br2
  have HX2 := Lib.hid hx2
  have HBB2 := Lib.hid hbb2
  have e0 := be2.cellv (i := 0) rfl
  have e1 := be2.cellv (i := 1) rfl
  clear hw2 be2 hb2 br2 hx2 hbb2 hS0 hS1 hS2 c2
  go_wp2_with fail
  refine (HW.out _).mono ?_
  rintro e w3 ⟨⟨v, rfl, ho⟩, hb⟩
  have HO := Lib.hid ho
  have be3 := BE2.out.belowHere hb
  have br3 := BR2.out.belowHere hb
  have BE3 := Lib.hid be3
  have BR3 := Lib.hid br3
  have HX3 := Lib.hid (HX2.out.on hb)
  have HBB3 := Lib.hid (HBB2.out.then_ hb)
  have x0 := be3.cellv (i := 0) rfl
  have x1 := be3.cellv (i := 1) rfl
  have hwl := Lib.hid (Dir.writeL_len ⟨(I : Int), nm⟩)
  have hws := Lib.hid (show Dir.writeE ⟨(I : Int), nm⟩ = 0 → Dir.writeL ⟨(I : Int), nm⟩ = Dir.slotL ⟨(I : Int), nm⟩ from fun h => if_pos h)
  clear ho hb be3 br3
  by_cases hE : Dir.writeE ⟨(I : Int), nm⟩ = 0
  case neg =>
    have hr := Lib.hid (fun w9 => read_bad (w := w) (w' := w9) (b := b) (HR.out.trans (if_neg (fun h => hE h.1))))
    generalize Dir.writeE ⟨(I : Int), nm⟩ = E at *
    have g2 : (E == 0) = false := by simpa using hE
    have g3 : (E != 0) = true := by simpa using hE
    clear hE hwl hws
    go_wp2_with (refine wpList_store_blk rfl rfl _ _ _ rfl w.heap.size #[.int .i64 0, .string ⟨#[]⟩] rfl rfl 23 #[.int .i64 0, .string ⟨#[]⟩] BR3.out rfl entInfo (entOne ⟨0, []⟩) ?_)
    have q := BR3.out.row #[.int .i64 0, .string ⟨#[]⟩]
    have z0 := q.cellv (i := 0) rfl
    have z1 := q.cellv (i := 1) rfl
    refine bodyPost_ret (v := .tuple #[.agg #[.int .i64 0, .string ⟨#[]⟩], .bool false, .int .i64 50]) (by simp [results, Try.results12, go_sem, *]) rfl (hr.out _ (HBB3.out.setRow_ (Nat.le_refl _) _))
  case pos =>
    have hlen := hwl.out hE
    have hsl := Lib.hid (hws.out hE)
    have HR2 := Lib.hid (show Dir.readR b = if b = Dir.slotL ⟨(I : Int), nm⟩ then (⟨(I : Int), nm⟩, true, 0) else (Dir.none_, false, 50) by
      rw [HR.out]
      by_cases h : b = Dir.slotL ⟨(I : Int), nm⟩
      · rw [if_pos h, if_pos ⟨hE, h⟩]
      · rw [if_neg h, if_neg (fun g => h g.2)])
    rw [hE]
    rw [hsl.out] at HO hlen
    clear hE hwl hws hsl HR HW
    generalize Dir.slotL ⟨(I : Int), nm⟩ = sl at *
    obtain ⟨a3, c3, rfl, _⟩ := HO.out.formN (n := 16) hlen
    have HY := Lib.hid (HO.out.arr (by omega))
    have HQ := Lib.hid (equal_bytes (some ⟨g, o, none⟩) a3 16 16 c c3 b sl w3 HX3.out HY.out)
    by_cases hD : b = sl
    case neg =>
      have hr := Lib.hid (fun w9 => read_bad (w := w) (w' := w9) (b := b) (HR2.out.trans (if_neg hD)))
      rw [decide_eq_false hD] at HQ
      clear hD HR2 hlen
      go_wp2_with fail
      refine HQ.out.mono ?_
      rintro e w4 ⟨rfl, hb⟩
      have BR4 := Lib.hid (BR3.out.belowHere hb)
      have HBB4 := Lib.hid (HBB3.out.then_ hb)
      clear hb
      go_wp2_with (refine wpList_store_blk rfl rfl _ _ _ rfl w.heap.size #[.int .i64 0, .string ⟨#[]⟩] rfl rfl 23 #[.int .i64 0, .string ⟨#[]⟩] BR4.out rfl entInfo (entOne ⟨0, []⟩) ?_)
      have q := BR4.out.row #[.int .i64 0, .string ⟨#[]⟩]
      have z0 := q.cellv (i := 0) rfl
      have z1 := q.cellv (i := 1) rfl
      refine bodyPost_ret (v := .tuple #[.agg #[.int .i64 0, .string ⟨#[]⟩], .bool false, .int .i64 50]) (by simp [results, Try.results12, go_sem, *]) rfl (hr.out _ (HBB4.out.setRow_ (Nat.le_refl _) _))
    case pos =>
      have hr := Lib.hid (HR2.out.trans (if_pos hD))
      rw [decide_eq_true hD] at HQ
      clear hD HR2 hlen
      go_wp2_with fail
      refine HQ.out.mono ?_
      rintro e w4 ⟨rfl, hb⟩
      have be4 := BE3.out.belowHere hb
      have e40 := be4.cellv (i := 0) rfl
      have e41 := be4.cellv (i := 1) rfl
      have BR4 := Lib.hid (BR3.out.belowHere hb)
      have HBB4 := Lib.hid (HBB3.out.then_ hb)
      clear hb be4
      go_wp2_with (refine wpList_store_blk rfl rfl _ _ _ rfl w.heap.size #[.int .i64 (I : Int), .string (strL nm)] rfl rfl 23 #[.int .i64 0, .string ⟨#[]⟩] BR4.out rfl entInfo (entOne ⟨(I : Int), nm⟩) ?_)
      have q := BR4.out.row #[.int .i64 (I : Int), .string (strL nm)]
      have z0 := q.cellv (i := 0) rfl
      have z1 := q.cellv (i := 1) rfl
      refine bodyPost_ret (v := .tuple #[.agg #[.int .i64 (I : Int), .string (strL nm)], .bool true, .int .i64 0]) (by simp [results, Try.results12, go_sem, *]) rfl ⟨?_, HBB4.out.setRow_ (Nat.le_refl _) _⟩
      rw [hr.out]
      rfl
theorem read_calls (a : Option Addr) (n c : Nat) (b : List UInt8) (w : World) (hx : Bytes w w.heap.size a n b) (hcc : n ≤ c) :
    Calls Try.prog 12 #[.slice a n c] w (ReadR b w) := by
  by_cases h1 : n = 16
  · subst h1
    cases h2 : Dir.isZ b
    · by_cases h3 : 13 < Dir.lenN b
      · exact read_big a c b w hx h2 h3
      · exact read_go a c b w hx hcc h2 h3
    · exact read_zero a c b w hx h2
  · exact read_len a n c b w hx h1
end Go.Proofs.Ytlnomkkamopieaa
