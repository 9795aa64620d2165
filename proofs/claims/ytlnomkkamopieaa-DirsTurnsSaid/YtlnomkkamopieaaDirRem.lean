/-
  dirs.Remove and dirs.Turn.
-/
import Derived.Test.YtlnomkkamopieaaDirAdd
namespace Go.Proofs.Ytlnomkkamopieaa
open Go.RowKit

theorem Own.take {α : Type} {f : α → Value} {e : TypeId} {w : World} {base g n c : Nat} {xs : List α} (h : Own f e w base (.slice (some ⟨g, 0, none⟩) n c) xs) {k : Nat} (hk : k ≤ n) : Own f e w base (.slice (some ⟨g, 0, none⟩) k c) (xs.take k) := by
  rcases h.2 with ⟨hv, _⟩ | ⟨g', cap, cur, hv, hgb, hg, hc, hm, hs, ht⟩
  · cases hv
  · injection hv with h1 h2 h3
    injection h1 with h1
    injection h1 with h1
    subst h1 h3
    have hl : (xs.take k).length = k := by rw [List.length_take]; omega
    refine ⟨by simp, .inr ⟨g, c, cur, by rw [hl], hgb, hg, by omega, hm, hs, ?_⟩⟩
    rw [hl, List.map_take, ← ht, List.take_take]
    congr 1
    omega
theorem cutA_in (g c l : Nat) (h : l < c) : cutA (some ⟨g, 0, none⟩) c l = some ⟨g, l, none⟩ := by
  rw [cutA, if_neg (by omega)]
  show some ((⟨g, 0, none⟩ : Addr).add l) = _
  rw [Addr.add_mid, Nat.zero_add]
namespace Dir
def trimTo (b : List UInt8) : Nat → List UInt8
  | 0 => []
  | m + 1 => if isZ (slotAt b m) = true then trimTo b m else b.take (16 * (m + 1))
def zeros : List UInt8 := List.replicate 16 0
def removedL (b nm : List UInt8) : List UInt8 := trimTo (putSlot b (namedK b nm) zeros) (cnt b)
def turnE (b nm : List UInt8) (to : Int) : Int := if namedE b nm = 0 then (if okI to = true then 0 else 1) else namedE b nm
def turnedL (b nm : List UInt8) (to : Int) : List UInt8 := (b.set (16 * namedK b nm) (UInt8.ofNat to.toNat)).set (16 * namedK b nm + 1) (UInt8.ofNat (to.toNat / 256))
theorem named_ok {b nm : List UInt8} (h : namedE b nm = 0) : goodB b = true ∧ 0 ≤ (findR b nm).1 ∧ (findR b nm).1 = (namedK b nm : Nat) ∧ namedK b nm < cnt b := by
  have h0 := h
  unfold namedE at h
  split at h
  · rename_i hg
    split at h
    · rename_i hf
      obtain ⟨k, hk, hlt⟩ := findR_nat hf
      have : namedK b nm = k := by unfold namedK; rw [if_pos h0, hk]; rfl
      exact ⟨hg, hf, by rw [this, hk], by rw [this]; exact hlt⟩
    · cases h
  · cases h
theorem good_mod {b : List UInt8} (h : goodB b = true) : b.length = 16 * cnt b := by
  rw [goodB, Bool.and_eq_true, Bool.and_eq_true] at h
  have := of_decide_eq_true h.1.1
  unfold cnt
  omega
theorem putSlot_len {b s : List UInt8} {k : Nat} (hk : k < cnt b) (hs : s.length = 16) : (putSlot b k s).length = b.length := by
  unfold cnt at hk
  unfold putSlot
  simp only [List.length_append, List.length_take, List.length_drop, hs]
  omega
theorem slotAt_take {b : List UInt8} {k m : Nat} (h : k < m) : slotAt (b.take (16 * m)) k = slotAt b k := by
  unfold slotAt
  rw [List.drop_take, List.take_take]
  congr 1
  omega
end Dir
def RemoveR (b nm : List UInt8) (w : World) (x : Ending) (w' : World) : Prop :=
  (∃ v xs, x = .returned (.tuple #[v, .int .i64 (Dir.namedE b nm)]) ∧ Own byteV 5 w' w.heap.size v xs ∧ (Dir.namedE b nm = 0 → xs = Dir.removedL b nm) ∧ (Dir.namedE b nm ≠ 0 → xs = [])) ∧ Below w.heap.size w w'
set_option maxHeartbeats 4000000 in
theorem remove_calls (a : Option Addr) (n c : Nat) (b nm : List UInt8) (w : World) (hx : Bytes w w.heap.size a n b) (hnc : n ≤ c) (hn : n ≤ 100000) :
    Calls Try.prog 16 #[.slice a n c, .string (strL nm)] w (RemoveR b nm w) := by
  have HN := Lib.hid (named_calls a n c b nm w hx hnc)
  have HX := Lib.hid hx
  have HL := Lib.hid hx.len
  have hroom := hx.room
  clear hx
  unfold RemoveR
  by_cases hE : Dir.namedE b nm = 0
  case neg =>
    have hr := Lib.hid hE
    generalize Dir.namedE b nm = E at *
    have g1 : (E == 0) = false := by simpa using hE
    have g2 : (E != 0) = true := by simpa using hE
    clear hE
    go_enter Try.func16, Try.ntmps16
    go_wp2_with fail
    refine HN.out.mono ?_
    rintro e w1 ⟨rfl, hb⟩
    have HB := Lib.hid hb
    clear hb
    go_wp2
    go_ret2
    exact ⟨⟨_, [], rfl, Own.nil _ _, fun h => absurd h hr.out, fun _ => rfl⟩, HB.out⟩
  obtain ⟨hg, hf, hk, hlt⟩ := Dir.named_ok hE
  have hlen := Dir.good_mod hg
  have hr := Lib.hid (show Dir.removedL b nm = Dir.trimTo (Dir.putSlot b (Dir.namedK b nm) Dir.zeros) (Dir.cnt b) from rfl)
  have hpl := Dir.putSlot_len (s := Dir.zeros) hlt (by simp [Dir.zeros])
  have hps := Lib.hid (show b.take (16 * Dir.namedK b nm) ++ List.replicate 16 0 ++ b.drop (16 * Dir.namedK b nm + 16) = Dir.putSlot b (Dir.namedK b nm) Dir.zeros from rfl)
  rw [hE] at HN ⊢
  generalize Dir.namedK b nm = k at *
  generalize Dir.removedL b nm = T at *
  generalize Dir.putSlot b k Dir.zeros = b1 at *
  generalize Dir.cnt b = S at *
  have hnS : n = 16 * S := by rw [← HL.out]; exact hlen
  rw [HL.out] at hpl
  have HPL := Lib.hid hpl
  have HNS := Lib.hid hnS
  have hS0 : 0 < S := by omega
  have HSN := Lib.hid (show n / 16 = S by omega)
  have hn16 : 16 ≤ n := by omega
  have hkb := Lib.hid (show k < n / 16 ∧ 16 * k + 16 ≤ n by omega)
  clear hE hg hf hk hlen hpl hnS
  go_enter Try.func16, Try.ntmps16
  go_wp2_with fail
  refine HN.out.mono ?_
  rintro e w1 ⟨rfl, hb⟩
  have HB1 := Lib.hid hb
  have HX1 := Lib.hid (HX.out.on hb)
  clear hb
  go_wp2_with fail
  refine (clone_calls a n c b _ HX1.out).mono ?_
  rintro e w2 ⟨⟨v2, rfl, ho⟩, hb⟩
  obtain ⟨a2, c2, rfl, hc2⟩ := ho.formN (n := n) HL.out
  obtain ⟨g, rfl, hgb, _⟩ := ho.addr (by rw [HL.out]; omega)
  have HB2 := Lib.hid (HB1.out.then_ hb)
  have hsz1 := HB1.out.size
  have hsz2 := hb.size
  have hst := Lib.hid (slot_calls (some ⟨g, 0, none⟩) n c2 k b w2 (ho.arr (by rw [HL.out]; omega)) hc2 hkb.out.1)
  have HO2 := Lib.hid (ho.mono hsz1)
  clear hb ho
  go_wp2_with fail
  refine hst.out.mono ?_
  rintro e w_ ⟨⟨a6, c6, rfl, hc6, ha6, _⟩, rfl⟩
  obtain ⟨w3, hrun, ho3, hb3⟩ := run_clearP (dl := 16) (dc := c6) ha6 HO2.out hkb.out.2 (by omega)
  rw [hps.out] at ho3
  have HO3 := Lib.hid ho3
  have HB3 := Lib.hid (HB2.out.trans hb3)
  clear ha6 ho3 hb3
  go_wp2_with fail
  refine (slots_calls _ n c2 _ (by omega)).mono ?_
  rintro e w_ ⟨rfl, rfl⟩
  rw [HSN.out]
  go_wp2_with fail
  go_loop [8, 9] (fun o i => ∃ m : Nat, m ≤ S ∧ i = .int .i64 m ∧ o = .slice (some ⟨g, 0, none⟩) (16 * m) c2 ∧ T = Dir.trimTo b1 m) (fun _ i => (intOf i).toNat)
  case atStart => exact ⟨S, Nat.le_refl _, rfl, by rw [← HNS.out], hr.out⟩
  case round =>
    obtain ⟨m, hm, rfl, rfl, hT⟩ := hrel
    have HT := Lib.hid hT
    clear hT
    have HOm := Lib.hid (HO3.out.take (k := 16 * m) (by have := HNS.out; omega))
    cases m with
    | zero =>
      go_wp2
      go_ret2
      have h := HOm.out
      rw [Nat.mul_zero, List.take_zero] at h
      have ht := HT.out
      rw [show Dir.trimTo b1 0 = [] from rfl] at ht
      first
        | exact ⟨⟨_, [], rfl, h, fun _ => ht.symm, fun h => absurd rfl h⟩, HB3.out⟩
        | exact ⟨⟨_, rfl, by rw [ht]; exact h⟩, HB3.out⟩
    | succ m =>
      have hl1 : (b1.take (16 * (m + 1))).length = 16 * (m + 1) := by rw [List.length_take, HPL.out]; have := HNS.out; omega
      have hst2 := slot_calls (some ⟨g, 0, none⟩) (16 * (m + 1)) c2 m (b1.take (16 * (m + 1))) w3 (HOm.out.arr (by rw [hl1]; have := HNS.out; omega)) (by have := HNS.out; omega) (by omega)
      rw [Dir.slotAt_take (by omega)] at hst2
      have HST := Lib.hid hst2
      have HTR := Lib.hid (show Dir.trimTo b1 (m + 1) = if Dir.isZ (Dir.slotAt b1 m) = true then Dir.trimTo b1 m else b1.take (16 * (m + 1)) from rfl)
      have hmb : m ≤ 100000 := by have := HNS.out; omega
      have g2 : decide ((0 : Int) < ((m + 1 : Nat) : Int)) = true := decide_eq_true (by omega)
      clear hst2 hl1
      go_wp2_with fail
      refine HST.out.mono ?_
      rintro e w_ ⟨⟨a7, c7, rfl, hc7, ha7, hy⟩, rfl⟩
      have HEM := Lib.hid (empty_calls a7 16 c7 _ w3 hy)
      clear ha7 hy
      cases hz : Dir.isZ (Dir.slotAt b1 m)
      · rw [hz] at HEM HTR
        have htr := Lib.hid (show Dir.trimTo b1 (m + 1) = b1.take (16 * (m + 1)) from HTR.out)
        clear hz
        go_wp2_with fail
        refine HEM.out.mono ?_
        rintro e w_ ⟨rfl, rfl⟩
        go_wp2
        go_ret2
        exact ⟨⟨_, b1.take (16 * (m + 1)), rfl, HOm.out, fun _ => by rw [HT.out, htr.out], fun h => absurd rfl h⟩, HB3.out⟩
      · rw [hz] at HEM HTR
        have htr := Lib.hid (show Dir.trimTo b1 (m + 1) = Dir.trimTo b1 m from HTR.out)
        have hcut := cutB_to (some ⟨g, 0, none⟩) (16 * (m + 1)) c2 (16 * m) (by have := HNS.out; omega)
        rw [show ((16 * m : Nat) : Int) = (m : Int) * 16 by omega] at hcut
        have q1 : IntKind.i64.wrap ((m : Int) * 16) = (m : Int) * 16 := IntWalk.i64_in _ ⟨by omega, by have := HNS.out; omega⟩
        clear hz
        go_wp2_with fail
        refine HEM.out.mono ?_
        rintro e w_ ⟨rfl, rfl⟩
        go_wp2
        exact ⟨⟨m, by omega, rfl, rfl, by rw [HT.out, htr.out]⟩, by simp [intOf]⟩
def TurnR (b nm : List UInt8) (to : Int) (w : World) (x : Ending) (w' : World) : Prop :=
  (∃ v xs, x = .returned (.tuple #[v, .int .i64 (Dir.turnE b nm to)]) ∧ Own byteV 5 w' w.heap.size v xs ∧ (Dir.turnE b nm to = 0 → xs = Dir.turnedL b nm to) ∧ (Dir.turnE b nm to ≠ 0 → xs = [])) ∧ Below w.heap.size w w'
theorem turnR_bad {b nm : List UInt8} {to E : Int} {w w' : World} (h : Dir.turnE b nm to = E) (hE : E ≠ 0) (hb : Below w.heap.size w w') : TurnR b nm to w (.returned (.tuple #[.slice none 0 0, .int .i64 E])) w' := by
  subst h
  exact ⟨⟨_, [], rfl, Own.nil _ _, fun h => absurd h hE, fun _ => rfl⟩, hb⟩
set_option maxHeartbeats 4000000 in
theorem turn_calls (a : Option Addr) (n c : Nat) (b nm : List UInt8) (to : Int) (w : World) (hx : Bytes w w.heap.size a n b) (hnc : n ≤ c) :
    Calls Try.prog 18 #[.slice a n c, .string (strL nm), .int .i64 to] w (TurnR b nm to w) := by
  have HN := Lib.hid (named_calls a n c b nm w hx hnc)
  have HX := Lib.hid hx
  have HL := Lib.hid hx.len
  have hroom := hx.room
  clear hx
  by_cases hE : Dir.namedE b nm = 0
  case neg =>
    have hr := Lib.hid (fun w' => turnR_bad (w := w) (w' := w') (show Dir.turnE b nm to = Dir.namedE b nm from if_neg hE) hE)
    generalize Dir.namedE b nm = E at *
    have g1 : (E == 0) = false := by simpa using hE
    have g2 : (E != 0) = true := by simpa using hE
    clear hE
    go_enter Try.func18, Try.ntmps18
    go_wp2_with fail
    refine HN.out.mono ?_
    rintro e w1 ⟨rfl, hb⟩
    have HB := Lib.hid hb
    clear hb
    go_wp2
    go_ret2
    exact hr.out _ HB.out
  obtain ⟨hg, hf, hk, hlt⟩ := Dir.named_ok hE
  have hlen := Dir.good_mod hg
  by_cases hi : Dir.okI to = true
  case neg =>
    have hr := Lib.hid (fun w' => turnR_bad (w := w) (w' := w') (show Dir.turnE b nm to = 1 by unfold Dir.turnE; rw [if_pos hE, if_neg hi]) (by decide))
    have hi2 : Dir.okI to = false := by simpa using hi
    rw [hE] at HN
    clear hE hg hf hk hlt hlen hi
    go_enter Try.func18, Try.ntmps18
    go_wp2_with fail
    refine HN.out.mono ?_
    rintro e w1 ⟨rfl, hb⟩
    have HB := Lib.hid hb
    clear hb
    go_wp2_with fail
    refine (inode_calls _ _).mono ?_
    rintro e w_ ⟨rfl, rfl⟩
    rw [hi2]
    go_wp2
    go_ret2
    exact hr.out _ HB.out
  have hT := Lib.hid (show Dir.turnE b nm to = 0 by unfold Dir.turnE; rw [if_pos hE, if_pos hi])
  have hr := Lib.hid (show Dir.turnedL b nm to = (b.set (16 * Dir.namedK b nm) (UInt8.ofNat to.toNat)).set (16 * Dir.namedK b nm + 1) (UInt8.ofNat (to.toNat / 256)) from rfl)
  obtain ⟨h3, h4⟩ := (Dir.okI_iff to).1 hi
  obtain ⟨I, rfl⟩ : ∃ I : Nat, to = I := ⟨to.toNat, by omega⟩
  rw [Int.toNat_natCast] at hr
  unfold TurnR
  rw [hE] at HN
  generalize Dir.namedK b nm = k at *
  have hcn : Dir.cnt b = n / 16 := by rw [Dir.cnt, HL.out]
  rw [hcn] at hlt hlen
  rw [HL.out] at hlen
  have hn16 : 16 ≤ n := by omega
  have hkb := Lib.hid (show k < n / 16 ∧ 16 * k + 16 ≤ n by omega)
  have hk1 : 16 * k < n := by omega
  have hk2 : 16 * k + 1 < n := by omega
  have q5 : IntKind.u8.wrap (I : Int) = (I : Int) % 256 := IntKind.wrap_u8 _
  have q6 : IntKind.u8.wrap ((I : Int) / 256) = (I : Int) / 256 := IntWalk.u8_in _ ⟨by omega, by omega⟩
  clear hE hg hf hk hlen hlt hcn
  go_enter Try.func18, Try.ntmps18
  go_wp2_with fail
  refine HN.out.mono ?_
  rintro e w1 ⟨rfl, hb⟩
  have HB1 := Lib.hid hb
  have HX1 := Lib.hid (HX.out.on hb)
  clear hb
  go_wp2_with fail
  refine (inode_calls _ _).mono ?_
  rintro e w_ ⟨rfl, rfl⟩
  rw [hi]
  go_wp2_with fail
  refine (clone_calls a n c b _ HX1.out).mono ?_
  rintro e w2 ⟨⟨v2, rfl, ho⟩, hb⟩
  obtain ⟨a2, c2, rfl, hc2⟩ := ho.formN (n := n) HL.out
  obtain ⟨g, rfl, hgb, _⟩ := ho.addr (by rw [HL.out]; omega)
  have HB2 := Lib.hid (HB1.out.then_ hb)
  have hsz1 := HB1.out.size
  have hst := Lib.hid (slot_calls (some ⟨g, 0, none⟩) n c2 k b w2 (ho.arr (by rw [HL.out]; omega)) hc2 hkb.out.1)
  have HO2 := Lib.hid (ho.mono hsz1)
  obtain ⟨d0, f0⟩ := ho.cellg (k := 16 * k) (by rw [HL.out]; exact hk1)
  obtain ⟨d1, f1⟩ := ho.cellg (k := 16 * k + 1) (by rw [HL.out]; exact hk2)
  have hgw := Lib.hid (show w.heap.size ≤ g by omega)
  clear hb ho
  go_wp2_with fail
  refine hst.out.mono ?_
  rintro e w_ ⟨⟨a6, c6, rfl, hc6, ha6, _⟩, rfl⟩
  rw [cutA_in g c2 (16 * k) (by omega)] at ha6
  subst ha6
  go_wp2
  go_ret2
  have hset := (HO2.out.set (16 * k) (UInt8.ofNat I)).set (16 * k + 1) (UInt8.ofNat (I / 256))
  rw [← byte_mod, ← byte_div I (by omega)] at hset
  rw [hT.out, hr.out]
  exact ⟨⟨_, _, rfl, hset, fun _ => rfl, fun h => absurd rfl h⟩, (HB2.out.setCell (p := ⟨g, 16 * k, none⟩) hgw.out _).setCell (p := ⟨g, 16 * k + 1, none⟩) hgw.out _⟩
end Go.Proofs.Ytlnomkkamopieaa
