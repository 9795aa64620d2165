/-
  inode.Put and the reference's.
-/
import Derived.Test.YtjnjemhnceejeaaInoTab
namespace Go.Proofs.Ytjnjemhnceejeaa
open Go.RowKit

/-- What putting leaves. -/
def PutN (xs : List UInt8) (k : Int) (i : Nod) (w : World) (e : Ending) (w' : World) : Prop := ∃ v, e = .returned (.tuple #[v, .int .i64 (Nod.putE xs k i)]) ∧ Own byteV 5 w' w.heap.size v (Nod.putL xs k i) ∧ Below w.heap.size w w'
theorem putN_no {xs : List UInt8} {k : Int} {i : Nod} {w w' : World} (h : ¬ Nod.In xs.length k) (hb : Below w.heap.size w w') : PutN xs k i w (.returned (.tuple #[.slice none 0 0, .int .i64 1])) w' := by
  refine ⟨.slice none 0 0, ?_, ?_, hb⟩
  · unfold Nod.putE; rw [if_neg h]
  · unfold Nod.putL; rw [if_neg (fun g => h g.1)]; exact Own.nil _ _
theorem putN_bad {xs : List UInt8} {k : Int} {i : Nod} {w w' : World} (h : Nod.In xs.length k) (hr : ¬ Nod.Right i) (hb : Below w.heap.size w w') : PutN xs k i w (.returned (.tuple #[.slice none 0 0, .int .i64 51])) w' := by
  refine ⟨.slice none 0 0, ?_, ?_, hb⟩
  · unfold Nod.putE; rw [if_pos h, if_neg hr]
  · unfold Nod.putL; rw [if_neg (fun g => hr g.2)]; exact Own.nil _ _
theorem putN_good {xs : List UInt8} {j : Nat} {i : Nod} {v : Value} {w w' : World} (h : Nod.In xs.length j) (hr : Nod.Right i) (ho : Own byteV 5 w' w.heap.size v (Nod.putAt xs j i)) (hb : Below w.heap.size w w') : PutN xs j i w (.returned (.tuple #[v, .int .i64 0])) w' := by
  refine ⟨v, ?_, ?_, hb⟩
  · unfold Nod.putE; rw [if_pos h, if_pos hr]
  · unfold Nod.putL; rw [if_pos ⟨h, hr⟩, Int.toNat_natCast]; exact ho
set_option maxHeartbeats 4000000 in
theorem put_calls2 (a : Option Addr) (n c : Nat) (xs : List UInt8) (k : Int) (i : Nod) (w : World) (hx : Bytes w w.heap.size a n xs) :
    Calls Try.prog 35 #[.slice a n c, .int .i64 k, nodV i] w (PutN xs k i w) := by
  have hl := hx.len
  have hbl := Lib.hid ((Below.refl w.heap.size w).alloc (Nat.le_refl _) (nodO i))
  by_cases h : Nod.In n k
  case neg =>
    have HN := Lib.hid (fun w' (hb : Below w.heap.size w w') => putN_no (i := i) (show ¬ Nod.In xs.length k by rw [hl]; exact h) hb)
    have HP := Lib.hid (fun w => there_no a n c k w h)
    clear h hl hx
    go_enter Try.func35, Try.ntmps35
    go_wp2_with fail
    refine (HP.out _).mono ?_
    rintro e w_ ⟨rfl, rfl⟩
    go_wp2
    go_ret2
    exact HN.out _ hbl.out
  have HP := Lib.hid (fun w => there_yes a n c k w h)
  by_cases hr : Nod.Right i
  case neg =>
    have HN := Lib.hid (fun w' (hb : Below w.heap.size w w') => putN_bad (show Nod.In xs.length k by rw [hl]; exact h) hr hb)
    have hE := Lib.hid (Nod.write_no hr)
    clear h hl hx hr
    go_enter Try.func35, Try.ntmps35
    go_wp2_with fail
    refine (HP.out _).mono ?_
    rintro e w_ ⟨rfl, rfl⟩
    go_wp2_with fail
    refine (write_calls i _).mono ?_
    rintro e w1 ⟨v1, rfl, ho, hb⟩
    rw [hE.out.2]
    have HB := Lib.hid (Below.then_ hbl.out hb)
    clear ho hb
    go_wp2
    go_ret2
    exact HN.out _ HB.out
  have hE := Lib.hid (Nod.write_yes hr)
  obtain ⟨q3, q1, q2, _⟩ := Nod.in_bound h
  obtain ⟨j, rfl⟩ : ∃ j : Nat, k = j := ⟨k.toNat, q3.symm⟩
  rw [Int.toNat_natCast] at q1
  have HI := Lib.hid (show Nod.In xs.length j by rw [hl]; exact h)
  have HR := Lib.hid hr
  have HX := Lib.hid (hx.alloc (nodO i))
  have hlen := Lib.hid hl
  clear h q3 hl hx hr
  go_enter Try.func35, Try.ntmps35
  go_wp2_with fail
  refine (HP.out _).mono ?_
  rintro e w_ ⟨rfl, rfl⟩
  go_wp2_with fail
  refine (write_calls i _).mono ?_
  rintro e w1 ⟨v1, rfl, ho, hb⟩
  rw [hE.out.2]
  rw [hE.out.1] at ho
  obtain ⟨a1, c1, rfl, _⟩ := ho.formN (n := 24) (Nod.bytes_len i)
  have HB1 := Lib.hid (Below.then_ hbl.out hb)
  have HY1 := Lib.hid (ho.arr (by rw [Nod.bytes_len]; omega))
  have HX1 := Lib.hid (HX.out.on hb)
  have hs1 := HB1.out.size
  clear ho hb hE
  go_wp2_with fail
  refine (clone_calls a n c xs _ HX1.out).mono ?_
  rintro e w2 ⟨⟨v2, rfl, ho⟩, hb⟩
  obtain ⟨a2, c2, rfl, _⟩ := ho.formN (n := n) hlen.out
  obtain ⟨g, rfl, hgb, _⟩ := ho.addr (by rw [hlen.out]; omega)
  have HO2 := Lib.hid ho
  have HB2 := Lib.hid (Below.then_ HB1.out hb)
  have HY2 := Lib.hid (HY1.out.on hb)
  have hcut := cutB_from (some ⟨g, 0, none⟩) n c2 (j * 24) (by omega)
  rw [show ((j * 24 : Nat) : Int) = (j : Int) * 24 by omega] at hcut
  clear ho hb
  go_wp2_with (with_reducible refine wpList_copyB rfl _ _ rfl w1.heap.size g n c2 (j * 24) xs rfl HO2.out _ a1 24 c1 i.bytes rfl HY2.out (by omega) ?_; intro w3 HO3 hb3)
  go_ret2
  have hso := HO3.out.mono hs1
  exact putN_good HI.out HR.out hso (HB2.out.trans (hb3.out.mono hs1))
set_option maxHeartbeats 4000000 in
theorem refPut_calls (a : Option Addr) (n c : Nat) (xs : List UInt8) (k : Int) (i : Nod) (w : World) (hx : Bytes w w.heap.size a n xs) (hnc : n ≤ c) :
    Calls Try.prog 36 #[.slice a n c, .int .i64 k, nodV i] w (PutN xs k i w) := by
  have hl := hx.len
  have hbl := Lib.hid ((Below.refl w.heap.size w).alloc (Nat.le_refl _) (nodO i))
  by_cases h : Nod.In n k
  case neg =>
    have HN := Lib.hid (fun w' (hb : Below w.heap.size w w') => putN_no (i := i) (show ¬ Nod.In xs.length k by rw [hl]; exact h) hb)
    by_cases h0 : k < 0
    · clear h hl hx
      go_enter Try.func36, Try.ntmps36
      go_wp2
      go_ret2
      exact HN.out _ hbl.out
    · have h2 : Ino.perPage n ≤ k := by
        by_cases h2 : k < Ino.perPage n
        · exact absurd ⟨by omega, h2⟩ h
        · omega
      clear h hl hx
      go_enter Try.func36, Try.ntmps36
      go_wp2_with fail
      refine (refPerPage_calls _ _).mono ?_
      rintro e w_ ⟨rfl, rfl⟩
      generalize Ino.perPage n = P at *
      go_wp2
      go_ret2
      exact HN.out _ hbl.out
  have h1 : (0 : Int) ≤ k := h.1
  have h2 : k < Ino.perPage n := h.2
  by_cases hr : Nod.Right i
  case neg =>
    have HN := Lib.hid (fun w' (hb : Below w.heap.size w w') => putN_bad (show Nod.In xs.length k by rw [hl]; exact h) hr hb)
    have hE := Lib.hid (Nod.write_no hr)
    clear h hl hx hr
    go_enter Try.func36, Try.ntmps36
    go_wp2_with fail
    refine (refPerPage_calls _ _).mono ?_
    rintro e w_ ⟨rfl, rfl⟩
    generalize Ino.perPage n = P at *
    go_wp2_with fail
    refine (refWrite_calls i _).mono ?_
    rintro e w1 ⟨v1, rfl, ho, hb⟩
    rw [hE.out.2]
    have HB := Lib.hid (Below.then_ hbl.out hb)
    clear ho hb
    go_wp2
    go_ret2
    exact HN.out _ HB.out
  have hE := Lib.hid (Nod.write_yes hr)
  obtain ⟨q3, q1, q2, _⟩ := Nod.in_bound h
  obtain ⟨j, rfl⟩ : ∃ j : Nat, k = j := ⟨k.toNat, q3.symm⟩
  rw [Int.toNat_natCast] at q1
  have HI := Lib.hid (show Nod.In xs.length j by rw [hl]; exact h)
  have HR := Lib.hid hr
  have HX := Lib.hid (hx.alloc (nodO i))
  have hlen := Lib.hid hl
  have HC1 := Lib.hid (cutB_to a n c (j * 24) (by omega))
  have HC2 := Lib.hid (cutB_from a n c (j * 24 + 24) (by omega))
  have e1 := Lib.hid (show ((j * 24 : Nat) : Int) = 24 * (j : Int) by omega)
  have e2 := Lib.hid (show ((j * 24 + 24 : Nat) : Int) = 24 * (j : Int) + 24 by omega)
  clear h q3 hl hx hr
  go_enter Try.func36, Try.ntmps36
  go_wp2_with fail
  refine (refPerPage_calls _ _).mono ?_
  rintro e w_ ⟨rfl, rfl⟩
  generalize Ino.perPage n = P at *
  go_wp2_with fail
  refine (refWrite_calls i _).mono ?_
  rintro e w1 ⟨v1, rfl, ho, hb⟩
  rw [hE.out.2]
  rw [hE.out.1] at ho
  obtain ⟨a1, c1, rfl, _⟩ := ho.formN (n := 24) (Nod.bytes_len i)
  have HB1 := Lib.hid (Below.then_ hbl.out hb)
  have HY1 := Lib.hid (ho.arr (by rw [Nod.bytes_len]; omega))
  have HX1 := Lib.hid (HX.out.on hb)
  have hs1 := HB1.out.size
  clear ho hb hE
  go_wp2_with fail
  refine wp_region_noPanic ?_
  refine wp_region_held_drew (S := (fun W' => Below w1.heap.size w1 W')) (by kernel_rfl) (Below.refl _ _).drew (fun hS0 => ?_)
  refine takeV 0 (v := .slice none 0 0) rfl (by kernel_rfl) (by kernel_rfl) (by kernel_rfl) (fun _ _ _ h => h) (by rfl) (fun _ _ => rfl) (by assumption) ?_
  try simp only [layR]
  refine takeV 1 (v := .slice a n c) rfl (by kernel_rfl) (by kernel_rfl) (by kernel_rfl) (fun _ _ _ h => h) (by rfl) (fun _ _ => rfl) (by assumption) ?_
  try simp only [layR]
  refine takeV 2 (v := .int .i64 j) rfl (by kernel_rfl) (by kernel_rfl) (by kernel_rfl) (fun _ _ _ h => h) (by rfl) (fun _ _ => rfl) (by assumption) ?_
  try simp only [layR]
  refine takeV 3 (v := .int .i64 (24 * (j : Int))) rfl (by kernel_rfl) (by kernel_rfl) (by kernel_rfl) (fun _ _ _ h => h) (by rfl) (fun W hSw => ?_) (by assumption) ?_
  · have g := IntWalk.i64_in (24 * (j : Int)) ⟨by omega, by omega⟩
    go_simp
  try simp only [layR]
  refine takeV 4 (v := .slice a (j * 24 : Nat) c) rfl (by kernel_rfl) (by kernel_rfl) (by kernel_rfl) (fun _ _ _ h => h) (by rfl) (fun W hSw => ?_) (by assumption) ?_
  · have g := HC1.out; rw [e1.out] at g
    go_simp
  try simp only [layR]
  refine takeV 6 (v := .slice a1 24 c1) rfl (by kernel_rfl) (by kernel_rfl) (by kernel_rfl) (fun _ _ _ h => h) (by rfl) (fun _ _ => rfl) (by assumption) ?_
  try simp only [layR]
  refine takeV 8 (v := .slice a n c) rfl (by kernel_rfl) (by kernel_rfl) (by kernel_rfl) (fun _ _ _ h => h) (by rfl) (fun _ _ => rfl) (by assumption) ?_
  try simp only [layR]
  refine takeV 9 (v := .int .i64 j) rfl (by kernel_rfl) (by kernel_rfl) (by kernel_rfl) (fun _ _ _ h => h) (by rfl) (fun _ _ => rfl) (by assumption) ?_
  try simp only [layR]
  refine takeV 10 (v := .int .i64 (24 * (j : Int))) rfl (by kernel_rfl) (by kernel_rfl) (by kernel_rfl) (fun _ _ _ h => h) (by rfl) (fun W hSw => ?_) (by assumption) ?_
  · have g := IntWalk.i64_in (24 * (j : Int)) ⟨by omega, by omega⟩
    go_simp
  try simp only [layR]
  refine takeV 11 (v := .int .i64 (24 * (j : Int) + 24)) rfl (by kernel_rfl) (by kernel_rfl) (by kernel_rfl) (fun _ _ _ h => h) (by rfl) (fun W hSw => ?_) (by assumption) ?_
  · have g := IntWalk.i64_in (24 * (j : Int) + 24) ⟨by omega, by omega⟩
    go_simp
  try simp only [layR]
  refine takeV 12 (v := .slice (cutA a c (j * 24 + 24)) (n - (j * 24 + 24) : Nat) (c - (j * 24 + 24) : Nat)) rfl (by kernel_rfl) (by kernel_rfl) (by kernel_rfl) (fun _ _ _ h => h) (by rfl) (fun W hSw => ?_) (by assumption) ?_
  · have g := HC2.out; rw [e2.out] at g
    go_simp
  try simp only [layR]
  have hsz0 := hS0.size
  have hx0 := Lib.hid ((HX1.out.below hS0).take (k := j * 24) (by omega))
  refine wpAnyH_ready (rs := [5]) (by kernel_rfl) (by simp) ?_
  refine AllReadyH.cons rfl (fun K' hK => ?_) AllReadyH.nil
  refine step_appB rfl _ _ rfl w1.heap.size _ [] rfl (Own.nil _ _) _ a (j * 24) c (xs.take (j * 24)) rfl hx0.out (by simp; omega) hsz0 ?_
  intro v3 w3 HO3 hb3
  have hS1 := hS0.trans hb3.out
  clear hS0 hsz0 hb3
  refine hK.out _ _ hS1 (fun hS0 => ?_)
  try simp only [layR]
  clear hS1
  have hsz1 := hS0.size
  have hy1 := Lib.hid (HY1.out.below hS0)
  refine wpAnyH_ready (rs := [7]) (by kernel_rfl) (by simp) ?_
  refine AllReadyH.cons rfl (fun K' hK => ?_) AllReadyH.nil
  refine step_appB rfl _ _ rfl w1.heap.size _ ([] ++ xs.take (j * 24)) rfl HO3.out _ a1 24 c1 i.bytes rfl hy1.out (by simp; omega) hsz1 ?_
  intro v4 w4 HO4 hb4
  have hS1 := hS0.trans hb4.out
  clear hS0 hsz1 hb4
  refine hK.out _ _ hS1 (fun hS0 => ?_)
  try simp only [layR]
  clear hS1
  have hsz2 := hS0.size
  have hx2 := Lib.hid ((HX1.out.below hS0).drop (l := j * 24 + 24) (by omega) hnc)
  refine wpAnyH_ready (rs := [13]) (by kernel_rfl) (by simp) ?_
  refine AllReadyH.cons rfl (fun K' hK => ?_) AllReadyH.nil
  refine step_appB rfl _ _ rfl w1.heap.size _ ([] ++ xs.take (j * 24) ++ i.bytes) rfl HO4.out _ (cutA a c (j * 24 + 24)) (n - (j * 24 + 24)) (c - (j * 24 + 24)) (xs.drop (j * 24 + 24)) rfl hx2.out (by simp [Nod.bytes_len]; omega) hsz2 ?_
  intro v5 w5 HO5 hb5
  have hS1 := hS0.trans hb5.out
  clear hS0 hsz2 hb5
  refine hK.out _ _ hS1 (fun hS0 => ?_)
  try simp only [layR]
  clear hS1
  have HS := Lib.hid hS0
  refine takeV 14 (v := v5) rfl (by kernel_rfl) (by kernel_rfl) (by kernel_rfl) (fun _ _ _ h => h) (by rfl) (fun _ _ => rfl) (by assumption) ?_
  refine wpAnyH_done (by kernel_rfl) ?_ _
  refine NoPanic.normal ?_
  clear hS0
  go_wp2
  go_ret2
  exact putN_good HI.out HR.out (HO5.out.mono hs1) (HB1.out.trans (HS.out.mono hs1))
end Go.Proofs.Ytjnjemhnceejeaa
