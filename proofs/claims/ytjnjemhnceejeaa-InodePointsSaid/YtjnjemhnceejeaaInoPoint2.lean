/-
  inode.Point and the reference's.
-/
import Derived.Test.YtjnjemhnceejeaaInoPoint
import Derived.Test.YtjnjemhnceejeaaNumBig
namespace Go.Proofs.Ytjnjemhnceejeaa
open Go.RowKit

theorem byte_mod (T : Nat) : Value.int .u8 ((T : Int) % 256) = byteV (UInt8.ofNat T) := by
  unfold byteV
  rw [UInt8.toNat_ofNat']
  exact congrArg (Value.int .u8) (by omega)
theorem byte_low (T : Nat) (h : T < 256) : Value.int .u8 (T : Int) = byteV (UInt8.ofNat T) := by
  unfold byteV
  rw [UInt8.toNat_ofNat', Nat.mod_eq_of_lt h]
theorem byte_div (T : Nat) (h : T < 65536) : Value.int .u8 ((T : Int) / 256) = byteV (UInt8.ofNat (T / 256)) := by
  rw [← byte_low (T / 256) (by omega)]
  exact congrArg (Value.int .u8) (by omega)
/-- What setting a pointer leaves. -/
def Pointed (xs : List UInt8) (k tt : Int) (w : World) (e : Ending) (w' : World) : Prop := ∃ v, e = .returned (.tuple #[v, .int .i64 (Pt.pointE xs k tt)]) ∧ Own byteV 5 w' w.heap.size v (Pt.pointL xs k tt) ∧ Below w.heap.size w w'
theorem pointed_none {xs : List UInt8} {k tt : Int} {w w' : World} (h : ¬ (Pt.Has xs.length k ∧ Nod.Pg tt)) (hb : Below w.heap.size w w') : Pointed xs k tt w (.returned (.tuple #[.slice none 0 0, .int .i64 1])) w' := by
  unfold Pointed
  rw [(Pt.pointed_no h).1, (Pt.pointed_no h).2]
  exact ⟨_, rfl, Own.nil _ _, hb⟩
set_option maxHeartbeats 2000000 in
theorem point_calls (a : Option Addr) (n c : Nat) (xs : List UInt8) (k tt : Int) (w : World) (hx : Bytes w w.heap.size a n xs) :
    Calls Try.prog 25 #[.slice a n c, .int .i64 k, .int .i64 tt] w (Pointed xs k tt w) := by
  have hl := hx.len
  have hroom := hx.room
  by_cases h : Pt.Has n k
  case neg =>
    have HN := Lib.hid (fun w' (hb : Below w.heap.size w w') => pointed_none (xs := xs) (k := k) (tt := tt) (fun g => h (by rw [← hl]; exact g.1)) hb)
    have HP := Lib.hid (pointed_no a n c k w hroom h)
    clear h hl hx
    go_enter Try.func25, Try.ntmps25
    go_wp2_with fail
    refine HP.out.mono ?_
    rintro e w_ ⟨rfl, rfl⟩
    go_wp2
    go_ret2
    exact HN.out _ (Below.refl _ _)
  have HP := Lib.hid (pointed_yes a n c k w h)
  by_cases hp : Nod.Pg tt
  case neg =>
    have HN := Lib.hid (fun w' (hb : Below w.heap.size w w') => pointed_none (xs := xs) (k := k) (tt := tt) (fun g => hp g.2) hb)
    have HG := Lib.hid (page_no tt hp w)
    clear h hl hx hp
    go_enter Try.func25, Try.ntmps25
    go_wp2_with fail
    refine HP.out.mono ?_
    rintro e w_ ⟨rfl, rfl⟩
    go_wp2_with fail
    refine HG.out.mono ?_
    rintro e w_ ⟨rfl, rfl⟩
    go_wp2
    go_ret2
    exact HN.out _ (Below.refl _ _)
  have HG := Lib.hid (page_yes tt hp w)
  obtain ⟨r1, r2⟩ := Pt.pointed (xs := xs) (k := k) (tt := tt) ⟨by rw [hl]; exact h, hp⟩
  unfold Nod.Pg at hp
  obtain ⟨T, rfl⟩ : ∃ T : Nat, tt = T := ⟨tt.toNat, by omega⟩
  obtain ⟨q1, q2, q3, q4⟩ := Pt.has_bound h
  obtain ⟨j, rfl⟩ : ∃ j : Nat, k = j := ⟨k.toNat, q3.symm⟩
  rw [Int.toNat_natCast, Int.toNat_natCast] at r1
  rw [Int.toNat_natCast] at q1 q4
  have HR1 := Lib.hid r1
  have HR2 := Lib.hid r2
  have hT : T < 8192 := by omega
  have HX := Lib.hid hx
  have hlen := Lib.hid hl
  clear h q3 hl hx r1 r2 hp
  have b1 : (0 : Int) ≤ 2 * (j : Int) := by omega
  have b2 : 2 * (j : Int) < (n : Int) := by omega
  have b3 : (0 : Int) ≤ 2 * (j : Int) + 1 := by omega
  have b4 : 2 * (j : Int) + 1 < (n : Int) := by omega
  go_enter Try.func25, Try.ntmps25
  go_wp2_with fail
  refine HP.out.mono ?_
  rintro e w_ ⟨rfl, rfl⟩
  go_wp2_with fail
  refine HG.out.mono ?_
  rintro e w_ ⟨rfl, rfl⟩
  go_wp2_with fail
  refine (clone_calls a n c xs _ HX.out).mono ?_
  rintro e w1 ⟨⟨v1, rfl, ho⟩, hb⟩
  obtain ⟨a1, c1, rfl, _⟩ := ho.formN (n := n) hlen.out
  obtain ⟨g, rfl, hgb, _⟩ := ho.addr (by rw [hlen.out]; omega)
  have HO := Lib.hid ho
  have HB := Lib.hid hb
  obtain ⟨hc0, hf0⟩ := ho.cellg (k := 2 * j) (by rw [hlen.out]; omega)
  obtain ⟨hc1, hf1⟩ := ho.cellg (k := 2 * j + 1) (by rw [hlen.out]; omega)
  have HS := Lib.hid (Pt.put_sets (xs := xs) (j := j) (tt := T) (by rw [hlen.out]; omega))
  clear ho hb
  go_wp2
  go_ret2
  have hset := (HO.out.set (2 * j) (UInt8.ofNat T)).set (2 * j + 1) (UInt8.ofNat (T / 256))
  rw [HS.out, ← byte_mod, ← byte_div T (by omega)] at hset
  unfold Pointed
  rw [HR1.out, HR2.out]
  exact ⟨_, rfl, hset, (HB.out.setCell (p := ⟨g, 2 * j, none⟩) hgb _).setCell (p := ⟨g, 2 * j + 1, none⟩) hgb _⟩
theorem refPg_no {q : Int} (h : ¬ Nod.Pg q) : q < 0 ∨ (0 ≤ q ∧ 8191 < q) := by unfold Nod.Pg at h; omega
set_option maxHeartbeats 4000000 in
theorem refPoint_calls (a : Option Addr) (n c : Nat) (xs : List UInt8) (k tt : Int) (w : World) (hx : Bytes w w.heap.size a n xs) (hnc : n ≤ c) :
    Calls Try.prog 28 #[.slice a n c, .int .i64 k, .int .i64 tt] w (Pointed xs k tt w) := by
  have hl := hx.len
  have hroom := hx.room
  by_cases h : Pt.Has n k
  case neg =>
    have HN := Lib.hid (fun w' (hb : Below w.heap.size w w') => pointed_none (xs := xs) (k := k) (tt := tt) (fun g => h (by rw [← hl]; exact g.1)) hb)
    rcases refPtd_no h with hs | ⟨hs, h0⟩ | ⟨hs, h0, h1⟩
    · have hd : decide (Ino.Sized n) = false := decide_eq_false hs
      clear h hl hx hs
      go_enter Try.func28, Try.ntmps28
      go_wp2_with fail
      refine (refSized_calls _ _).mono ?_
      rintro e w_ ⟨rfl, rfl⟩
      rw [hd]
      go_wp2
      go_ret2
      exact HN.out _ (Below.refl _ _)
    · have hd : decide (Ino.Sized n) = true := decide_eq_true hs
      clear h hl hx hs
      go_enter Try.func28, Try.ntmps28
      go_wp2_with fail
      refine (refSized_calls _ _).mono ?_
      rintro e w_ ⟨rfl, rfl⟩
      rw [hd]
      go_wp2
      go_ret2
      exact HN.out _ (Below.refl _ _)
    · have hd : decide (Ino.Sized n) = true := decide_eq_true hs
      clear h hl hx hs
      go_enter Try.func28, Try.ntmps28
      go_wp2_with fail
      refine (refSized_calls _ _).mono ?_
      rintro e w_ ⟨rfl, rfl⟩
      rw [hd]
      go_wp2
      go_ret2
      exact HN.out _ (Below.refl _ _)
  have hd : decide (Ino.Sized n) = true := decide_eq_true h.1
  have g1 : (0 : Int) ≤ k := h.2.1
  have g2 : k < (n : Int) / 2 := h.2.2
  by_cases hp : Nod.Pg tt
  case neg =>
    have HN := Lib.hid (fun w' (hb : Below w.heap.size w w') => pointed_none (xs := xs) (k := k) (tt := tt) (fun g => hp g.2) hb)
    rcases refPg_no hp with h0 | ⟨h0, h1⟩
    all_goals
      clear h hl hx hp
      go_enter Try.func28, Try.ntmps28
      go_wp2_with fail
      refine (refSized_calls _ _).mono ?_
      rintro e w_ ⟨rfl, rfl⟩
      rw [hd]
      go_wp2
      go_ret2
      exact HN.out _ (Below.refl _ _)
  obtain ⟨r1, r2⟩ := Pt.pointed (xs := xs) (k := k) (tt := tt) ⟨by rw [hl]; exact h, hp⟩
  unfold Nod.Pg at hp
  obtain ⟨T, rfl⟩ : ∃ T : Nat, tt = T := ⟨tt.toNat, by omega⟩
  obtain ⟨q1, q2, q3, q4⟩ := Pt.has_bound h
  obtain ⟨j, rfl⟩ : ∃ j : Nat, k = j := ⟨k.toNat, q3.symm⟩
  rw [Int.toNat_natCast, Int.toNat_natCast] at r1
  rw [Int.toNat_natCast] at q1 q4
  have HR1 := Lib.hid r1
  have HR2 := Lib.hid r2
  have hT1 : (0 : Int) ≤ (T : Int) := by omega
  have hT2 : (T : Int) ≤ 8191 := by omega
  have HX := Lib.hid hx
  have hlen := Lib.hid hl
  clear h q3 hl hx r1 r2 hp
  have HC1 := Lib.hid (cutB_to a n c (2 * j) (by omega))
  have HC2 := Lib.hid (cutB_from a n c (2 * j + 2) (by omega))
  have e1 := Lib.hid (show ((2 * j : Nat) : Int) = 2 * (j : Int) by omega)
  have e2 := Lib.hid (show ((2 * j + 2 : Nat) : Int) = 2 * (j : Int) + 2 by omega)
  go_enter Try.func28, Try.ntmps28
  go_wp2_with fail
  refine (refSized_calls _ _).mono ?_
  rintro e w_ ⟨rfl, rfl⟩
  rw [hd]
  go_wp2_with fail
  refine wp_region_noPanic ?_
  refine wp_region_held_drew (S := (fun W' => Below w.heap.size w W')) (by kernel_rfl) (Below.refl _ _).drew (fun hS0 => ?_)
  refine takeV 0 (v := .slice none 0 0) rfl (by kernel_rfl) (by kernel_rfl) (by kernel_rfl) (fun _ _ _ h => h) (by rfl) (fun _ _ => rfl) (by assumption) ?_
  try simp only [layR]
  refine takeV 1 (v := .slice a n c) rfl (by kernel_rfl) (by kernel_rfl) (by kernel_rfl) (fun _ _ _ h => h) (by rfl) (fun _ _ => rfl) (by assumption) ?_
  try simp only [layR]
  refine takeV 2 (v := .int .i64 j) rfl (by kernel_rfl) (by kernel_rfl) (by kernel_rfl) (fun _ _ _ h => h) (by rfl) (fun _ _ => rfl) (by assumption) ?_
  try simp only [layR]
  refine takeV 3 (v := .int .i64 (2 * (j : Int))) rfl (by kernel_rfl) (by kernel_rfl) (by kernel_rfl) (fun _ _ _ h => h) (by rfl) (fun W hSw => ?_) (by assumption) ?_
  · have g := IntWalk.i64_in (2 * (j : Int)) ⟨by omega, by omega⟩
    go_simp
  try simp only [layR]
  refine takeV 4 (v := .slice a (2 * j : Nat) c) rfl (by kernel_rfl) (by kernel_rfl) (by kernel_rfl) (fun _ _ _ h => h) (by rfl) (fun W hSw => ?_) (by assumption) ?_
  · have g := HC1.out; rw [e1.out] at g
    go_simp
  try simp only [layR]
  refine takeV 6 (v := .int .i64 T) rfl (by kernel_rfl) (by kernel_rfl) (by kernel_rfl) (fun _ _ _ h => h) (by rfl) (fun _ _ => rfl) (by assumption) ?_
  try simp only [layR]
  refine takeV 7 (v := .int .u64 T) rfl (by kernel_rfl) (by kernel_rfl) (by kernel_rfl) (fun _ _ _ h => h) (by rfl) (fun W hSw => ?_) (by assumption) ?_
  · have g := IntWalk.u64_in (T : Int) ⟨by omega, by omega⟩
    go_simp
  try simp only [layR]
  refine takeV 10 (v := .slice a n c) rfl (by kernel_rfl) (by kernel_rfl) (by kernel_rfl) (fun _ _ _ h => h) (by rfl) (fun _ _ => rfl) (by assumption) ?_
  try simp only [layR]
  refine takeV 11 (v := .int .i64 j) rfl (by kernel_rfl) (by kernel_rfl) (by kernel_rfl) (fun _ _ _ h => h) (by rfl) (fun _ _ => rfl) (by assumption) ?_
  try simp only [layR]
  refine takeV 12 (v := .int .i64 (2 * (j : Int))) rfl (by kernel_rfl) (by kernel_rfl) (by kernel_rfl) (fun _ _ _ h => h) (by rfl) (fun W hSw => ?_) (by assumption) ?_
  · have g := IntWalk.i64_in (2 * (j : Int)) ⟨by omega, by omega⟩
    go_simp
  try simp only [layR]
  refine takeV 13 (v := .int .i64 (2 * (j : Int) + 2)) rfl (by kernel_rfl) (by kernel_rfl) (by kernel_rfl) (fun _ _ _ h => h) (by rfl) (fun W hSw => ?_) (by assumption) ?_
  · have g := IntWalk.i64_in (2 * (j : Int) + 2) ⟨by omega, by omega⟩
    go_simp
  try simp only [layR]
  refine takeV 14 (v := .slice (cutA a c (2 * j + 2)) (n - (2 * j + 2) : Nat) (c - (2 * j + 2) : Nat)) rfl (by kernel_rfl) (by kernel_rfl) (by kernel_rfl) (fun _ _ _ h => h) (by rfl) (fun W hSw => ?_) (by assumption) ?_
  · have g := HC2.out; rw [e2.out] at g
    go_simp
  try simp only [layR]
  have hx0 := Lib.hid (HX.out.below hS0)
  have hsz0 := hS0.size
  refine wpAnyH_ready (rs := [5]) (by kernel_rfl) (by simp) ?_
  refine AllReadyH.cons rfl (fun K' hK => ?_) AllReadyH.nil
  refine step_appB rfl _ _ rfl w.heap.size _ [] rfl (Own.nil _ _) _ a (2 * j) c (xs.take (2 * j)) rfl (hx0.out.take (by omega)) (by simp; omega) hsz0 ?_
  intro v1 w1 HO1 hb1
  have hS1 := hS0.trans hb1.out
  clear hS0 hsz0
  refine hK.out _ _ hS1 (fun hS0 => ?_)
  try simp only [layR]
  clear hS1
  have hsz1 := hS0.size
  refine wpAnyH_ready (rs := [8]) (by kernel_rfl) (by simp) ?_
  refine AllReadyH.cons rfl (fun K' hK => ?_) AllReadyH.nil
  go_simp
  refine (refBig_calls T 2 _ (by omega) (by omega)).mono ?_
  rintro _ w2 ⟨v2, rfl, hy, hb2⟩
  obtain ⟨a2, c2, rfl, _⟩ := hy.formN (n := 2) (by simp [bigL_len])
  have HY2 := Lib.hid (hy.arr (by simp [bigL_len]))
  have HO2 := Lib.hid (HO1.out.on hb2)
  have hS1 := hS0.trans (hb2.mono hsz1)
  clear hS0 hsz1 hy hb2 hb1 HO1
  refine hK.out _ _ hS1 (fun hS0 => ?_)
  try simp only [layR]
  clear hS1
  have hsz2 := hS0.size
  refine wpAnyH_ready (rs := [9]) (by kernel_rfl) (by simp) ?_
  refine AllReadyH.cons rfl (fun K' hK => ?_) AllReadyH.nil
  refine step_appB rfl _ _ rfl w.heap.size _ ([] ++ xs.take (2 * j)) rfl HO2.out _ a2 2 c2 (bigL T 2) rfl HY2.out (by simp; omega) hsz2 ?_
  intro v3 w3 HO3 hb3
  have hS1 := hS0.trans hb3.out
  clear hS0 hsz2 hb3
  refine hK.out _ _ hS1 (fun hS0 => ?_)
  try simp only [layR]
  clear hS1
  have hsz3 := hS0.size
  have hx3 := Lib.hid ((HX.out.below hS0).drop (l := 2 * j + 2) (by omega) hnc)
  refine wpAnyH_ready (rs := [15]) (by kernel_rfl) (by simp) ?_
  refine AllReadyH.cons rfl (fun K' hK => ?_) AllReadyH.nil
  refine step_appB rfl _ _ rfl w.heap.size _ ([] ++ xs.take (2 * j) ++ bigL T 2) rfl HO3.out _ (cutA a c (2 * j + 2)) (n - (2 * j + 2)) (c - (2 * j + 2)) (xs.drop (2 * j + 2)) rfl hx3.out (by simp [bigL_len]; omega) hsz3 ?_
  intro v4 w4 HO4 hb4
  have hS1 := hS0.trans hb4.out
  clear hS0 hsz3 hb4
  refine hK.out _ _ hS1 (fun hS0 => ?_)
  try simp only [layR]
  clear hS1
  have HS := Lib.hid hS0
  refine takeV 16 (v := v4) rfl (by kernel_rfl) (by kernel_rfl) (by kernel_rfl) (fun _ _ _ h => h) (by rfl) (fun _ _ => rfl) (by assumption) ?_
  refine wpAnyH_done (by kernel_rfl) ?_ _
  refine NoPanic.normal ?_
  clear hS0
  go_wp2
  go_ret2
  unfold Pointed
  rw [HR1.out, HR2.out]
  exact ⟨_, rfl, HO4.out, HS.out⟩
end Go.Proofs.Ytjnjemhnceejeaa
