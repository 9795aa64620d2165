/-
  inode.Pointer, inode.Point and the reference's.
-/
import Derived.Test.YtjnjemhnceejeaaInoPtMath
import Derived.Test.YtjnjemhnceejeaaInoRight
import Derived.Test.YtjnjemhnceejeaaInoTake
import Derived.Test.YtjnjemhnceejeaaInoRead2
import Derived.Test.YtjnjemhnceejeaaSlClone
namespace Go.Proofs.Ytjnjemhnceejeaa
open Go.RowKit

theorem pointed_yes (a : Option Addr) (n c : Nat) (k : Int) (w : World) (h : Pt.Has n k) :
    Calls Try.prog 46 #[.slice a n c, .int .i64 k] w fun e w' => e = .returned (.bool true) ∧ w = w' := by
  have hb := Pt.has_bound h
  have hd : decide (Ino.Sized n) = true := decide_eq_true h.1
  have h1 := h.2.1
  have h2 : k < (n : Int) / 2 := h.2.2
  have hn : n ≤ 512 := hb.2.1
  have h3 : decide (k < (n : Int) / 2) = true := decide_eq_true h2
  clear h hb
  go_enter Try.func46, Try.ntmps46
  go_wp2_with fail
  refine (sized_calls _ _).mono ?_
  rintro e w_ ⟨rfl, rfl⟩
  rw [hd]
  go_wp2
  go_ret
  exact ⟨by first | rfl | simp [h2], rfl⟩
theorem pointed_no (a : Option Addr) (n c : Nat) (k : Int) (w : World) (hn : n ≤ 140737488351232) (h : ¬ Pt.Has n k) :
    Calls Try.prog 46 #[.slice a n c, .int .i64 k] w fun e w' => e = .returned (.bool false) ∧ w = w' := by
  by_cases hs : Ino.Sized n
  · have hd : decide (Ino.Sized n) = true := decide_eq_true hs
    by_cases h1 : 0 ≤ k
    · have h2 : ¬ k < (n : Int) / 2 := fun h2 => h ⟨hs, h1, h2⟩
      have h3 : decide (k < (n : Int) / 2) = false := decide_eq_false h2
      have h4 : (n : Int) / 2 ≤ k := by omega
      clear h hs h2
      go_enter Try.func46, Try.ntmps46
      go_wp2_with fail
      refine (sized_calls _ _).mono ?_
      rintro e w_ ⟨rfl, rfl⟩
      rw [hd]
      go_wp2
      go_ret
      exact ⟨by first | rfl | simp [h4], rfl⟩
    · have h3 : decide (0 ≤ k) = false := decide_eq_false h1
      clear h hs
      go_enter Try.func46, Try.ntmps46
      go_wp2_with fail
      refine (sized_calls _ _).mono ?_
      rintro e w_ ⟨rfl, rfl⟩
      rw [hd]
      go_wp2
      go_ret
      exact ⟨rfl, rfl⟩
  · have hd : decide (Ino.Sized n) = false := decide_eq_false hs
    clear h hs
    go_enter Try.func46, Try.ntmps46
    go_wp2_with fail
    refine (sized_calls _ _).mono ?_
    rintro e w_ ⟨rfl, rfl⟩
    rw [hd]
    go_wp2
    go_ret
    exact ⟨rfl, rfl⟩
theorem i64_or_high (X b : Nat) (hX : X < 36028797018963968) (hb : b < 256) : bits .or .i64 (b : Int) ((X : Int) * 256) = ((X * 256 + b : Nat) : Int) := by
  rw [← i64_or_low X b hX hb]
  unfold bits
  simp only [BitVec.or_comm]
set_option maxHeartbeats 2000000 in
theorem pointer_calls (a : Option Addr) (n c : Nat) (xs : List UInt8) (k : Int) (w : World) (hx : Bytes w w.heap.size a n xs) :
    Calls Try.prog 26 #[.slice a n c, .int .i64 k] w fun e w' => e = .returned (.tuple #[.int .i64 (Pt.ptrV xs k), .int .i64 (Pt.ptrE xs k)]) ∧ Below w.heap.size w w' := by
  have hl := hx.len
  have hroom := hx.room
  by_cases h : Pt.Has n k
  case neg =>
    obtain ⟨r1, r2⟩ := Pt.ptr_no (xs := xs) (k := k) (by rw [hl]; exact h)
    rw [r1, r2]
    have HP := Lib.hid (pointed_no a n c k w hroom h)
    clear r1 r2 h hl hx
    go_enter Try.func26, Try.ntmps26
    go_wp2_with fail
    refine HP.out.mono ?_
    rintro e w_ ⟨rfl, rfl⟩
    go_wp2
    go_ret2
    exact ⟨rfl, Below.refl _ _⟩
  have HP := Lib.hid (pointed_yes a n c k w h)
  have HH := Lib.hid (show Pt.Has xs.length k by rw [hl]; exact h)
  obtain ⟨q1, q2, q3, q4⟩ := Pt.has_bound h
  obtain ⟨j, rfl⟩ : ∃ j : Nat, k = j := ⟨k.toNat, q3.symm⟩
  rw [Int.toNat_natCast] at q1 q4
  obtain ⟨b, o, hk0, rfl, hbb, hc0⟩ := hx.at_ (k := 2 * j) (by omega)
  obtain ⟨b', o', hk1, hab, _, hc1⟩ := hx.at_ (k := 2 * j + 1) (by omega)
  simp only [Option.some.injEq, Addr.mk.injEq, and_true] at hab
  obtain ⟨rfl, rfl⟩ := hab
  have h2 := Lib.hid (Pt.two_eq (xs := xs) (j := j) (by omega))
  have x0l := (xs[2 * j]).toNat_lt
  have x1l := (xs[2 * j + 1]).toNat_lt
  generalize xs[2 * j].toNat = x0 at *
  generalize xs[2 * j + 1].toNat = x1 at *
  have hor := Lib.hid (i64_or_high x1 x0 (by omega) x0l)
  have hn2 : ((2 * j : Nat) : Int) = 2 * (j : Int) := by omega
  have HN2 := Lib.hid hn2
  clear h q3 hl hx hn2
  go_enter Try.func26, Try.ntmps26
  go_wp2_with fail
  refine HP.out.mono ?_
  rintro e w_ ⟨rfl, rfl⟩
  go_wp2_with fail
  have hc0' : w.drew.cell? ⟨b, o + 2 * j, none⟩ = some (.int .u8 (x0 : Int)) := hc0
  have hc1' : w.drew.cell? ⟨b, o + (2 * j + 1), none⟩ = some (.int .u8 (x1 : Int)) := hc1
  refine wp_region_noPanic ?_
  refine wp_region_held_drew (S := (fun W' => W'.cell? ⟨b, o + 2 * j, none⟩ = some (.int .u8 (x0 : Int)) ∧ W'.cell? ⟨b, o + (2 * j + 1), none⟩ = some (.int .u8 (x1 : Int)))) (by kernel_rfl) ⟨hc0', hc1'⟩ (fun hS0 => ?_)
  clear hc0 hc1 hc0' hc1'
  refine takeV 0 (v := .slice (some ⟨b, o, none⟩) n c) rfl (by kernel_rfl) (by kernel_rfl) (by kernel_rfl) (fun _ _ _ h => h) (by rfl) (fun _ _ => rfl) (by assumption) ?_
  try simp only [layR]
  refine takeV 1 (v := .int .i64 j) rfl (by kernel_rfl) (by kernel_rfl) (by kernel_rfl) (fun _ _ _ h => h) (by rfl) (fun _ _ => rfl) (by assumption) ?_
  try simp only [layR]
  refine takeV 2 (v := .int .i64 (2 * (j : Int))) rfl (by kernel_rfl) (by kernel_rfl) (by kernel_rfl) (fun _ _ _ h => h) (by rfl) (fun W hSw => ?_) (by assumption) ?_
  · have g := IntWalk.i64_in (2 * (j : Int)) ⟨by omega, by omega⟩
    go_simp
  try simp only [layR]
  refine takeV 3 (v := .pointer (some ⟨b, o + 2 * j, none⟩)) rfl (by kernel_rfl) (by kernel_rfl) (by kernel_rfl) (fun _ _ _ h => h) (by rfl) (fun W hSw => ?_) (by assumption) ?_
  · have g1 : (0 : Int) ≤ 2 * (j : Int) := (by omega); have g2 : 2 * (j : Int) < (n : Int) := (by omega); have g3 : (2 * (j : Int)).toNat = 2 * j := (by omega)
    go_simp
  try simp only [layR]
  refine takeV 4 (v := .int .u8 x0) rfl (by kernel_rfl) (by kernel_rfl) (by kernel_rfl) (fun _ _ _ h => h) (by rfl) (fun W hSw => ?_) (by assumption) ?_
  · obtain ⟨e0, e1⟩ := hSw
    go_simp
  try simp only [layR]
  refine takeV 5 (v := .int .i64 x0) rfl (by kernel_rfl) (by kernel_rfl) (by kernel_rfl) (fun _ _ _ h => h) (by rfl) (fun W hSw => ?_) (by assumption) ?_
  · have g := IntWalk.i64_in (x0 : Int) ⟨by omega, by omega⟩
    go_simp
  try simp only [layR]
  refine takeV 6 (v := .slice (some ⟨b, o, none⟩) n c) rfl (by kernel_rfl) (by kernel_rfl) (by kernel_rfl) (fun _ _ _ h => h) (by rfl) (fun _ _ => rfl) (by assumption) ?_
  try simp only [layR]
  refine takeV 7 (v := .int .i64 j) rfl (by kernel_rfl) (by kernel_rfl) (by kernel_rfl) (fun _ _ _ h => h) (by rfl) (fun _ _ => rfl) (by assumption) ?_
  try simp only [layR]
  refine takeV 8 (v := .int .i64 (2 * (j : Int))) rfl (by kernel_rfl) (by kernel_rfl) (by kernel_rfl) (fun _ _ _ h => h) (by rfl) (fun W hSw => ?_) (by assumption) ?_
  · have g := IntWalk.i64_in (2 * (j : Int)) ⟨by omega, by omega⟩
    go_simp
  try simp only [layR]
  refine takeV 9 (v := .int .i64 (2 * (j : Int) + 1)) rfl (by kernel_rfl) (by kernel_rfl) (by kernel_rfl) (fun _ _ _ h => h) (by rfl) (fun W hSw => ?_) (by assumption) ?_
  · have g := IntWalk.i64_in (2 * (j : Int) + 1) ⟨by omega, by omega⟩
    go_simp
  try simp only [layR]
  refine takeV 10 (v := .pointer (some ⟨b, o + (2 * j + 1), none⟩)) rfl (by kernel_rfl) (by kernel_rfl) (by kernel_rfl) (fun _ _ _ h => h) (by rfl) (fun W hSw => ?_) (by assumption) ?_
  · have g1 : (0 : Int) ≤ 2 * (j : Int) + 1 := (by omega); have g2 : 2 * (j : Int) + 1 < (n : Int) := (by omega); have g3 : (2 * (j : Int) + 1).toNat = 2 * j + 1 := (by omega)
    go_simp
  try simp only [layR]
  refine takeV 11 (v := .int .u8 x1) rfl (by kernel_rfl) (by kernel_rfl) (by kernel_rfl) (fun _ _ _ h => h) (by rfl) (fun W hSw => ?_) (by assumption) ?_
  · obtain ⟨e0, e1⟩ := hSw
    go_simp
  try simp only [layR]
  refine takeV 12 (v := .int .i64 x1) rfl (by kernel_rfl) (by kernel_rfl) (by kernel_rfl) (fun _ _ _ h => h) (by rfl) (fun W hSw => ?_) (by assumption) ?_
  · have g := IntWalk.i64_in (x1 : Int) ⟨by omega, by omega⟩
    go_simp
  try simp only [layR]
  refine takeV 13 (v := .int .i64 ((x1 : Int) * 256)) rfl (by kernel_rfl) (by kernel_rfl) (by kernel_rfl) (fun _ _ _ h => h) (by rfl) (fun W hSw => ?_) (by assumption) ?_
  · have g := IntWalk.i64_in ((x1 : Int) * 256) ⟨by omega, by omega⟩
    go_simp
  try simp only [layR]
  refine takeV 14 (v := .int .i64 (x1 * 256 + x0 : Nat)) rfl (by kernel_rfl) (by kernel_rfl) (by kernel_rfl) (fun _ _ _ h => h) (by rfl) (fun W hSw => ?_) (by assumption) ?_
  · have g := hor.out
    go_simp
  try simp only [layR]
  refine takeV 15 (v := .int .i64 (x1 * 256 + x0 : Nat)) rfl (by kernel_rfl) (by kernel_rfl) (by kernel_rfl) (fun _ _ _ h => h) (by rfl) (fun _ _ => rfl) (by assumption) ?_
  try simp only [layR]
  refine wpAnyH_done (by kernel_rfl) ?_ _
  refine NoPanic.normal ?_
  clear hS0
  have hv : Hid (Pt.two xs j = x1 * 256 + x0) := Lib.hid (by rw [h2.out]; omega)
  have hlt : x1 * 256 + x0 < 65536 := by omega
  have HT := Lib.hid (Int.toNat_natCast j)
  clear h2 hor HN2
  generalize x1 * 256 + x0 = V at *
  by_cases hp : V < 8192
  · obtain ⟨r1, r2⟩ := Pt.ptr_yes HH.out (by rw [HT.out, hv.out]; exact hp)
    rw [HT.out, hv.out] at r1
    have HR1 := Lib.hid r1
    have HR2 := Lib.hid r2
    have HPg := Lib.hid (page_yes (V : Int) ⟨by omega, by omega⟩ w.drew)
    clear r1 r2 hp
    go_wp2_with fail
    refine HPg.out.mono ?_
    rintro e w_ ⟨rfl, rfl⟩
    go_wp2
    go_ret2
    exact ⟨by rw [HR1.out, HR2.out]; rfl, (Below.refl _ _).drew⟩
  · obtain ⟨r1, r2⟩ := Pt.ptr_big HH.out (by rw [HT.out, hv.out]; exact hp)
    have HR1 := Lib.hid r1
    have HR2 := Lib.hid r2
    have HPg := Lib.hid (page_no (V : Int) (fun h => by unfold Nod.Pg at h; omega) w.drew)
    clear r1 r2 hp
    go_wp2_with fail
    refine HPg.out.mono ?_
    rintro e w_ ⟨rfl, rfl⟩
    go_wp2
    go_ret2
    exact ⟨by rw [HR1.out, HR2.out]; rfl, (Below.refl _ _).drew⟩
theorem refPtd_no {n : Nat} {k : Int} (h : ¬ Pt.Has n k) : ¬ Ino.Sized n ∨ (Ino.Sized n ∧ k < 0) ∨ (Ino.Sized n ∧ 0 ≤ k ∧ (n : Int) / 2 ≤ k) := by
  by_cases hs : Ino.Sized n
  · by_cases h0 : k < 0
    · exact .inr (.inl ⟨hs, h0⟩)
    · refine .inr (.inr ⟨hs, by omega, ?_⟩)
      by_cases h1 : k < (n : Int) / 2
      · exact absurd ⟨hs, by omega, h1⟩ h
      · omega
  · exact .inl hs
set_option maxHeartbeats 2000000 in
theorem refPointer_calls (a : Option Addr) (n c : Nat) (xs : List UInt8) (k : Int) (w : World) (hx : Bytes w w.heap.size a n xs) (hnc : n ≤ c) :
    Calls Try.prog 27 #[.slice a n c, .int .i64 k] w fun e w' => e = .returned (.tuple #[.int .i64 (Pt.ptrV xs k), .int .i64 (Pt.ptrE xs k)]) ∧ Below w.heap.size w w' := by
  have hl := hx.len
  have hroom := hx.room
  by_cases h : Pt.Has n k
  case neg =>
    obtain ⟨r1, r2⟩ := Pt.ptr_no (xs := xs) (k := k) (by rw [hl]; exact h)
    rw [r1, r2]
    rcases refPtd_no h with hs | ⟨hs, h0⟩ | ⟨hs, h0, h1⟩
    · have hd : decide (Ino.Sized n) = false := decide_eq_false hs
      clear r1 r2 h hl hx hs
      go_enter Try.func27, Try.ntmps27
      go_wp2_with fail
      refine (refSized_calls _ _).mono ?_
      rintro e w_ ⟨rfl, rfl⟩
      rw [hd]
      go_wp2
      go_ret2
      exact ⟨rfl, Below.refl _ _⟩
    · have hd : decide (Ino.Sized n) = true := decide_eq_true hs
      clear r1 r2 h hl hx hs
      go_enter Try.func27, Try.ntmps27
      go_wp2_with fail
      refine (refSized_calls _ _).mono ?_
      rintro e w_ ⟨rfl, rfl⟩
      rw [hd]
      go_wp2
      go_ret2
      exact ⟨rfl, Below.refl _ _⟩
    · have hd : decide (Ino.Sized n) = true := decide_eq_true hs
      clear r1 r2 h hl hx hs
      go_enter Try.func27, Try.ntmps27
      go_wp2_with fail
      refine (refSized_calls _ _).mono ?_
      rintro e w_ ⟨rfl, rfl⟩
      rw [hd]
      go_wp2
      go_ret2
      exact ⟨rfl, Below.refl _ _⟩
  have hd : decide (Ino.Sized n) = true := decide_eq_true h.1
  have HH := Lib.hid (show Pt.Has xs.length k by rw [hl]; exact h)
  obtain ⟨q1, q2, q3, q4⟩ := Pt.has_bound h
  obtain ⟨j, rfl⟩ : ∃ j : Nat, k = j := ⟨k.toNat, q3.symm⟩
  rw [Int.toNat_natCast] at q1 q4
  have h2 := h.2.2
  have HX := Lib.hid hx
  have htl : Pt.two xs j < 65536 := numL_lt2 (by rw [List.length_take, List.length_drop, hl]; omega)
  have HT := Lib.hid (Int.toNat_natCast j)
  clear h q3 hl hx
  go_enter Try.func27, Try.ntmps27
  go_wp2_with fail
  refine (refSized_calls _ _).mono ?_
  rintro e w_ ⟨rfl, rfl⟩
  rw [hd]
  go_wp2_with fail
  refine (two_at (2 * (j : Int)) (2 * j) a n c xs _ (by omega) HX.out hnc (by omega)).mono ?_
  rintro e w_ ⟨rfl, rfl⟩
  rw [show numL ((xs.drop (2 * j)).take 2) = Pt.two xs j from rfl]
  generalize hV : Pt.two xs j = V at *
  have HV := Lib.hid hV
  clear hV
  by_cases hp : V < 8192
  · obtain ⟨r1, r2⟩ := Pt.ptr_yes HH.out (by rw [HT.out, HV.out]; exact hp)
    rw [HT.out, HV.out] at r1
    have HR1 := Lib.hid r1
    have HR2 := Lib.hid r2
    clear r1 r2
    go_wp2
    go_ret2
    exact ⟨by rw [HR1.out, HR2.out]; rfl, Below.refl _ _⟩
  · obtain ⟨r1, r2⟩ := Pt.ptr_big HH.out (by rw [HT.out, HV.out]; exact hp)
    have HR1 := Lib.hid r1
    have HR2 := Lib.hid r2
    clear r1 r2
    go_wp2
    go_ret2
    exact ⟨by rw [HR1.out, HR2.out]; rfl, Below.refl _ _⟩
end Go.Proofs.Ytjnjemhnceejeaa
