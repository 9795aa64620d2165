/-
  dirs.named and dirs.Add.
-/
import Derived.Test.YtlnomkkamopieaaDirFind
import Derived.Test.YtlnomkkamopieaaDirCopy2
import Derived.Test.YtlnomkkamopieaaSlClone
namespace Go.Proofs.Ytlnomkkamopieaa
open Go.RowKit

namespace Dir
theorem checkE_yes {b : List UInt8} (h : goodB b = true) : checkE b = 0 := by unfold checkE; rw [if_pos h]
theorem entsTo_lt {b : List UInt8} {k : Nat} {x : Nat × Ent} (h : x ∈ entsTo b k) : x.1 < k := by
  induction k with
  | zero => cases h
  | succ k ih =>
    rw [entsTo] at h
    split at h
    · rw [List.mem_append] at h
      rcases h with h | h
      · have := ih h; omega
      · rw [List.mem_singleton] at h; subst h; simp
    · have := ih h; omega
theorem findIn_mem {nm : List UInt8} {l : List (Nat × Ent)} (h : 0 ≤ (findIn nm l).1) : ∃ x ∈ l, findIn nm l = ((x.1 : Int), x.2.i) ∧ x.2.nm = nm := by
  induction l with
  | nil => simp [findIn] at h
  | cons x t ih =>
    rw [findIn] at h ⊢
    split
    · rename_i he
      exact ⟨x, by simp, rfl, he⟩
    · rename_i he
      rw [if_neg he] at h
      obtain ⟨y, hy, h1⟩ := ih h
      exact ⟨y, by simp [hy], h1⟩
theorem findR_nat {b nm : List UInt8} (h : 0 ≤ (findR b nm).1) : ∃ k : Nat, (findR b nm).1 = k ∧ k < cnt b := by
  obtain ⟨x, hx, h1, _⟩ := findIn_mem (l := ents b) h
  exact ⟨x.1, by unfold findR; rw [h1], entsTo_lt hx⟩
theorem findR_neg {b nm : List UInt8} (h : ¬ 0 ≤ (findR b nm).1) : (findR b nm).1 = -1 := by
  unfold findR at h ⊢
  have : ∀ l : List (Nat × Ent), ¬ 0 ≤ (findIn nm l).1 → (findIn nm l).1 = -1 := by
    intro l
    induction l with
    | nil => intro _; rfl
    | cons x t ih =>
      intro h
      rw [findIn] at h ⊢
      split
      · rename_i he; rw [if_pos he] at h; simp at h
      · rename_i he; rw [if_neg he] at h; exact ih h
  exact this _ h
def namedE (b nm : List UInt8) : Int := if goodB b = true then (if 0 ≤ (findR b nm).1 then 0 else 60) else 50
def namedK (b nm : List UInt8) : Nat := if namedE b nm = 0 then (findR b nm).1.toNat else 0
def addE (b : List UInt8) (e : Ent) : Int := if goodB b = true then (if writeE e = 0 then (if 0 ≤ (findR b e.nm).1 then 61 else 0) else writeE e) else 50
def putSlot (b : List UInt8) (k : Nat) (s : List UInt8) : List UInt8 := b.take (16 * k) ++ s ++ b.drop (16 * k + 16)
def addedAt (b : List UInt8) (e : Ent) (r : Nat) : List UInt8 := if r = cnt b then b ++ slotL e else putSlot b r (slotL e)
end Dir
set_option maxHeartbeats 1000000 in
theorem named_calls (a : Option Addr) (n c : Nat) (b nm : List UInt8) (w : World) (hx : Bytes w w.heap.size a n b) (hnc : n ≤ c) :
    Calls Try.prog 35 #[.slice a n c, .string (strL nm)] w fun e w' => e = .returned (.tuple #[.int .i64 (Dir.namedK b nm : Nat), .int .i64 (Dir.namedE b nm)]) ∧ Below w.heap.size w w' := by
  have HC := Lib.hid (check_calls a n c b w hx hnc)
  have HF := Lib.hid (fun W (hb : Below w.heap.size w W) => find_calls a n c b nm W (hx.on hb) hnc)
  cases hg : Dir.goodB b
  · have hE : Dir.namedE b nm = 50 := by unfold Dir.namedE; rw [hg]; rfl
    have hK : Dir.namedK b nm = 0 := by unfold Dir.namedK; rw [hE]; rfl
    have HE := Lib.hid hE
    have HK := Lib.hid hK
    rw [Dir.checkE_no hg] at HC
    clear hx hE hK hg HF
    go_enter Try.func35, Try.ntmps35
    go_wp2_with fail
    refine HC.out.mono ?_
    rintro e w1 ⟨rfl, hb⟩
    have HB := Lib.hid hb
    clear hb
    go_wp2
    go_ret2
    exact ⟨by rw [HE.out, HK.out]; rfl, HB.out⟩
  rw [Dir.checkE_yes hg] at HC
  by_cases hf : 0 ≤ (Dir.findR b nm).1
  · obtain ⟨k, hk, _⟩ := Dir.findR_nat hf
    have hE : Dir.namedE b nm = 0 := by unfold Dir.namedE; rw [if_pos hg, if_pos hf]
    have hK : Dir.namedK b nm = k := by unfold Dir.namedK; rw [if_pos hE, hk]; rfl
    have HE := Lib.hid hE
    have HK := Lib.hid hK
    rw [hk] at HF
    clear hx hE hK hg hk hf
    generalize (Dir.findR b nm).2 = z at *
    go_enter Try.func35, Try.ntmps35
    go_wp2_with fail
    refine HC.out.mono ?_
    rintro e w1 ⟨rfl, hb⟩
    have HB := Lib.hid hb
    clear hb
    go_wp2_with fail
    refine (HF.out _ HB.out).mono ?_
    rintro e w2 ⟨rfl, hb⟩
    have HB2 := Lib.hid (HB.out.then_ hb)
    clear hb
    go_wp2
    go_ret2
    exact ⟨by rw [HE.out, HK.out]; rfl, HB2.out⟩
  · have hk := Dir.findR_neg hf
    have hE : Dir.namedE b nm = 60 := by unfold Dir.namedE; rw [if_pos hg, if_neg hf]
    have hK : Dir.namedK b nm = 0 := by unfold Dir.namedK; rw [hE]; rfl
    have HE := Lib.hid hE
    have HK := Lib.hid hK
    rw [hk] at HF
    clear hx hE hK hg hk hf
    generalize (Dir.findR b nm).2 = z at *
    go_enter Try.func35, Try.ntmps35
    go_wp2_with fail
    refine HC.out.mono ?_
    rintro e w1 ⟨rfl, hb⟩
    have HB := Lib.hid hb
    clear hb
    go_wp2_with fail
    refine (HF.out _ HB.out).mono ?_
    rintro e w2 ⟨rfl, hb⟩
    have HB2 := Lib.hid (HB.out.then_ hb)
    clear hb
    go_wp2
    go_ret2
    exact ⟨by rw [HE.out, HK.out]; rfl, HB2.out⟩
def AddR (b : List UInt8) (e : Ent) (w : World) (x : Ending) (w' : World) : Prop :=
  (∃ v xs, x = .returned (.tuple #[v, .int .i64 (Dir.addE b e)]) ∧ Own byteV 5 w' w.heap.size v xs ∧ (Dir.addE b e = 0 → ∃ r, Dir.IsRoom b r ∧ xs = Dir.addedAt b e r) ∧ (Dir.addE b e ≠ 0 → xs = [])) ∧ Below w.heap.size w w'
theorem addR_bad {b : List UInt8} {e : Ent} {E : Int} {w w' : World} (h : Dir.addE b e = E) (hE : E ≠ 0) (hb : Below w.heap.size w w') : AddR b e w (.returned (.tuple #[.slice none 0 0, .int .i64 E])) w' := by
  subst h
  exact ⟨⟨_, [], rfl, Own.nil _ _, fun h => absurd h hE, fun _ => rfl⟩, hb⟩
set_option maxHeartbeats 4000000 in
theorem add_calls (a : Option Addr) (n c : Nat) (b : List UInt8) (e : Ent) (w : World) (hx : Bytes w w.heap.size a n b) (hnc : n ≤ c) (hn : n ≤ 100000) (hnm : e.nm.length ≤ 140737488351232) :
    Calls Try.prog 15 #[.slice a n c, entV e] w (AddR b e w) := by
  have hb0 := (Below.refl w.heap.size w).alloc (Nat.le_refl _) (entO e)
  have HB0 := Lib.hid hb0
  have HX0 := Lib.hid (hx.on hb0)
  have HE0 := Lib.hid (Blk.new w 23 #[.int .i64 e.i, .string (strL e.nm)])
  unfold entO at HB0 HX0
  have HC := Lib.hid (check_calls a n c b _ HX0.out hnc)
  have HL := Lib.hid hx.len
  clear hb0 hx
  cases hg : Dir.goodB b
  · have hr := Lib.hid (fun w' => addR_bad (w := w) (w' := w') (show Dir.addE b e = 50 by unfold Dir.addE; rw [hg]; rfl) (by decide))
    rw [Dir.checkE_no hg] at HC
    obtain ⟨i, nm⟩ := e
    clear hg
    go_enter Try.func15, Try.ntmps15
    go_wp2_with fail
    refine HC.out.mono ?_
    rintro e w1 ⟨rfl, hb⟩
    have HB := Lib.hid (HB0.out.then_ hb)
    clear hb
    go_wp2
    go_ret2
    exact hr.out _ HB.out
  rw [Dir.checkE_yes hg] at HC
  have HW := Lib.hid (fun W => write_calls e W hnm)
  unfold WriteR at HW
  by_cases hE : Dir.writeE e = 0
  case neg =>
    have hr := Lib.hid (fun w' => addR_bad (w := w) (w' := w') (show Dir.addE b e = Dir.writeE e by unfold Dir.addE; rw [if_pos hg, if_neg hE]) hE)
    generalize Dir.writeE e = E at *
    have g1 : (E == 0) = false := by simpa using hE
    have g2 : (E != 0) = true := by simpa using hE
    obtain ⟨i, nm⟩ := e
    clear hg hE
    go_enter Try.func15, Try.ntmps15
    go_wp2_with fail
    refine HC.out.mono ?_
    rintro e w1 ⟨rfl, hb⟩
    have HB := Lib.hid (HB0.out.then_ hb)
    have e1 := HE0.out.belowHere hb
    have e10 := e1.cellv (i := 0) rfl
    have e11 := e1.cellv (i := 1) rfl
    clear hb e1
    go_wp2_with fail
    refine (HW.out _).mono ?_
    rintro e w2 ⟨⟨v, rfl, _⟩, hb⟩
    have HB2 := Lib.hid (HB.out.then_ hb)
    clear hb
    go_wp2
    go_ret2
    exact hr.out _ HB2.out
  rw [hE] at HW
  rw [show Dir.writeL e = Dir.slotL e from if_pos hE] at HW
  have hsl := Lib.hid (Dir.slotL_len e (Dir.nameE_len ((Dir.writeE_iff e).1 hE).2).2)
  have HF := Lib.hid (fun W (hb : Below (w.alloc (.cells #[.int .i64 e.i, .string (strL e.nm)] 23)).heap.size (w.alloc (.cells #[.int .i64 e.i, .string (strL e.nm)] 23)) W) => find_calls a n c b e.nm W (HX0.out.on hb) hnc)
  by_cases hf : 0 ≤ (Dir.findR b e.nm).1
  · have hr := Lib.hid (fun w' => addR_bad (w := w) (w' := w') (show Dir.addE b e = 61 by unfold Dir.addE; rw [if_pos hg, if_pos hE, if_pos hf]) (by decide))
    obtain ⟨k, hk, _⟩ := Dir.findR_nat hf
    rw [hk] at HF
    obtain ⟨i, nm⟩ := e
    simp only at HF
    generalize (Dir.findR b nm).2 = z at *
    clear hg hE hk hf
    go_enter Try.func15, Try.ntmps15
    go_wp2_with fail
    refine HC.out.mono ?_
    rintro e w1 ⟨rfl, hb⟩
    have HB := Lib.hid (HB0.out.then_ hb)
    have HBB := Lib.hid hb
    have e1 := HE0.out.belowHere hb
    have e10 := e1.cellv (i := 0) rfl
    have e11 := e1.cellv (i := 1) rfl
    have HE1 := Lib.hid e1
    clear hb e1
    go_wp2_with fail
    refine (HW.out _).mono ?_
    rintro e w2 ⟨⟨v, rfl, _⟩, hb⟩
    have HB2 := Lib.hid (HB.out.then_ hb)
    have HBB2 := Lib.hid (HBB.out.then_ hb)
    have e2 := HE1.out.belowHere hb
    have e20 := e2.cellv (i := 0) rfl
    have e21 := e2.cellv (i := 1) rfl
    clear hb e2
    go_wp2_with fail
    refine (HF.out _ HBB2.out).mono ?_
    rintro e w3 ⟨rfl, hb⟩
    have HB3 := Lib.hid (HB2.out.then_ hb)
    clear hb
    go_wp2
    go_ret2
    exact hr.out _ HB3.out
  have hk := Dir.findR_neg hf
  have hr := Lib.hid (show Dir.addE b e = 0 by unfold Dir.addE; rw [if_pos hg, if_pos hE, if_neg hf])
  rw [hk] at HF
  have HCN := Lib.hid (show Dir.cnt b = n / 16 by rw [Dir.cnt, HL.out])
  have HAA := Lib.hid (fun r => (show Dir.addedAt b e r = if r = Dir.cnt b then b ++ Dir.slotL e else Dir.putSlot b r (Dir.slotL e) from rfl))
  unfold AddR
  obtain ⟨i, nm⟩ := e
  simp only at HF
  generalize (Dir.findR b nm).2 = z at *
  generalize Dir.slotL ⟨i, nm⟩ = sl at *
  clear hg hE hk hf
  go_enter Try.func15, Try.ntmps15
  go_wp2_with fail
  refine HC.out.mono ?_
  rintro e w1 ⟨rfl, hb⟩
  have HB := Lib.hid (HB0.out.then_ hb)
  have HBB := Lib.hid hb
  have e1 := HE0.out.belowHere hb
  have e10 := e1.cellv (i := 0) rfl
  have e11 := e1.cellv (i := 1) rfl
  have HE1 := Lib.hid e1
  have HX1 := Lib.hid (HX0.out.on hb)
  clear hb e1
  go_wp2_with fail
  refine (HW.out _).mono ?_
  rintro e w2 ⟨⟨v, rfl, ho⟩, hb⟩
  obtain ⟨a2, c2, rfl, _⟩ := ho.formN (n := 16) hsl.out
  have HS2 := Lib.hid (ho.arr (by rw [hsl.out]; decide))
  have HB2 := Lib.hid (HB.out.then_ hb)
  have HBB2 := Lib.hid (HBB.out.then_ hb)
  have e2 := HE1.out.belowHere hb
  have e20 := e2.cellv (i := 0) rfl
  have e21 := e2.cellv (i := 1) rfl
  have HX2 := Lib.hid (HX1.out.on hb)
  clear hb e2 ho
  go_wp2_with fail
  refine (HF.out _ HBB2.out).mono ?_
  rintro e w3 ⟨rfl, hb⟩
  have HB3 := Lib.hid (HB2.out.then_ hb)
  have HX3 := Lib.hid (HX2.out.on hb)
  have HS3 := Lib.hid (HS2.out.on hb)
  clear hb
  go_wp2_with fail
  refine (clone_calls a n c b _ HX3.out).mono ?_
  rintro e w4 ⟨⟨v4, rfl, ho⟩, hb⟩
  obtain ⟨a4, c4, rfl, hc4⟩ := ho.formN (n := n) HL.out
  have HO4 := Lib.hid ho
  have HB4 := Lib.hid (HB3.out.then_ hb)
  have HX4 := Lib.hid (HX3.out.on hb)
  have HS4 := Lib.hid (HS3.out.on hb)
  have hsz4 := hb.size
  have hszw := HB4.out.size
  have hsz3 := HB3.out.size
  clear hb ho
  go_wp2_with fail
  refine (room_calls a n c b _ HX4.out hnc).mono ?_
  rintro e w_ ⟨⟨r, rfl, hroom⟩, rfl⟩
  have HRM := Lib.hid hroom
  have hr2 := hroom.2.1
  rw [HCN.out] at hr2
  clear hroom
  go_wp2_with fail
  refine (slots_calls a n c _ (by omega)).mono ?_
  rintro e w_ ⟨rfl, rfl⟩
  by_cases hrr : r = n / 16
  · have g1 : ((r : Int) == ((n / 16 : Nat) : Int)) = true := by rw [beq_iff_eq]; omega
    have haa := Lib.hid (show Dir.addedAt b ⟨i, nm⟩ r = b ++ sl by rw [HAA.out, if_pos (by rw [HCN.out]; exact hrr)])
    clear hrr
    go_wp2_with (at_builtin; refine wpList_ontoB rfl _ _ rfl w3.heap.size _ b rfl HO4.out _ a2 16 c2 sl rfl HS4.out (by rw [HL.out]; omega) hsz4 ?_; intro v5 w5 HO5 hb5)
    go_ret2
    exact ⟨⟨v5, _, by rw [hr.out]; rfl, HO5.out.mono hsz3, fun _ => ⟨r, HRM.out, haa.out.symm⟩, fun h => absurd hr.out h⟩, HB4.out.trans (hb5.out.mono hsz3)⟩
  · have g1 : ((r : Int) == ((n / 16 : Nat) : Int)) = false := by rw [beq_eq_false_iff_ne]; omega
    have haa := Lib.hid (show Dir.addedAt b ⟨i, nm⟩ r = Dir.putSlot b r sl by rw [HAA.out, if_neg (by rw [HCN.out]; exact hrr)])
    have hrlt : r < n / 16 := by omega
    obtain ⟨g, rfl, hgb, _⟩ := HO4.out.addr (by rw [HL.out]; omega)
    have hst := Lib.hid (slot_calls (some ⟨g, 0, none⟩) n c4 r b w4 (HO4.out.arr (by rw [HL.out]; omega)) hc4 hrlt)
    clear hrr
    go_wp2_with fail
    refine hst.out.mono ?_
    rintro e w_ ⟨⟨a6, c6, rfl, hc6, ha6, _⟩, rfl⟩
    obtain ⟨w5, hrun, ho5, hb5⟩ := run_copyP (dc := c6) (c := c2) ha6 HO4.out HS4.out (by omega) (by omega)
    have HO5 := Lib.hid ho5
    have hb5 := Lib.hid hb5
    clear ha6 ho5
    go_wp2
    go_ret2
    exact ⟨⟨_, _, by rw [hr.out]; rfl, HO5.out.mono hsz3, fun _ => ⟨r, HRM.out, haa.out.symm⟩, fun h => absurd hr.out h⟩, HB4.out.trans (hb5.out.mono hsz3)⟩
end Go.Proofs.Ytlnomkkamopieaa
