/-
  The law file's known.
-/
import Derived.Test.YtlnjfnpoabcllaaGlbNew
import Derived.Test.YtlnjfnpoabcllaaGlbMay
import Derived.Test.YtlnjfnpoabcllaaGlbRefP
namespace Go.Proofs.Ytlnjfnpoabcllaa
open Go.RowKit

theorem new_calls (s : List UInt8) (w : World) (hs : s.length ≤ 1000) : Calls Try.prog 11 #[.string (strL s)] w (NewR (Glb.new s) w) := by
  by_cases h : s = [] ∨ 255 < s.length ∨ s.head? ≠ some 47
  · have e : Glb.new s = (none, 30) := if_pos h
    rw [e]
    exact new_bad s w hs h
  · exact new_good s w (fun e => h (.inl e)) (by omega) (Classical.byContradiction fun e => h (.inr (.inr e)))
abbrev knP : List Glb.Prt := [⟨false, [⟨0, 97, false, []⟩, ⟨2, 42, false, []⟩]⟩, ⟨false, [⟨3, 91, false, [(98, 100)]⟩, ⟨1, 63, false, []⟩]⟩]
abbrev knQ : List Glb.Prt := [⟨true, []⟩, ⟨false, [⟨0, 120, false, []⟩]⟩]
theorem kn1 : Glb.new [47, 97, 42, 47, 91, 98, 45, 100, 93, 63] = (some knP, 0) := by decide
theorem kn2 : Glb.new [47, 42, 42, 47, 120] = (some knQ, 0) := by decide
theorem kn3 : Glb.new [47, 91, 93] = (none, 31) := by decide
theorem km1 : Glb.mt (knP.map Glb.abP) [[97], [98, 120]] = true := by decide
theorem km2 : Glb.mt (knP.map Glb.abP) [[97, 98, 99], [100, 100]] = true := by decide
theorem km3 : Glb.mt (knP.map Glb.abP) [[97], [97, 49]] = false := by decide
theorem km4 : Glb.mt (knQ.map Glb.abP) [[120]] = true := by decide
theorem km5 : Glb.mt (knQ.map Glb.abP) [[97], [98], [120]] = true := by decide
theorem short_names {l : List (List UInt8)} (h : (l.all fun x => decide (x.length ≤ 1000)) = true) : ∀ x ∈ l, x.length ≤ 1000 := fun x hx => of_decide_eq_true (List.all_eq_true.1 h x hx)
set_option maxRecDepth 100000 in
set_option maxHeartbeats 8000000 in
theorem known_calls (w : World) :
    Calls Try.prog 10 #[] w fun e w' => e = .returned (.bool true) ∧ Below w.heap.size w w' := by
  have C1 : Calls Try.prog 11 #[.string ⟨#[47, 97, 42, 47, 91, 98, 45, 100, 93, 63]⟩] w (NewR (some knP, 0) w) := by rw [← kn1]; exact new_calls _ w (by decide)
  have C2 : ∀ u, Calls Try.prog 11 #[.string ⟨#[47, 42, 42, 47, 120]⟩] u (NewR (some knQ, 0) u) := fun u => by rw [← kn2]; exact new_calls _ u (by decide)
  have C3 : ∀ u, Calls Try.prog 11 #[.string ⟨#[47, 91, 93]⟩] u (NewR (none, 31) u) := fun u => by rw [← kn3]; exact new_calls _ u (by decide)
  have HC1 := Lib.hid C1
  have HC2 := Lib.hid C2
  have HC3 := Lib.hid C3
  clear C1 C2 C3
  go_enter Try.func10, Try.ntmps10
  go_wp2_with fail
  refine HC1.out.mono ?_
  rintro e w1 ⟨hb1, pb, a, n, c, rfl, hp1⟩
  have HB1 := Lib.hid hb1
  have HP1 := Lib.hid hp1
  clear hb1 hp1
  go_wp2_with fail
  refine (HC2.out _).mono ?_
  rintro e w2 ⟨hb2, pb2, a2, n2, c2, rfl, hp2⟩
  have HB2 := Lib.hid (HB1.out.then_ hb2)
  have HP2 := Lib.hid ((HP1.out.on hb2 (Nat.le_refl _)).mono hb2.size)
  have HQ2 := Lib.hid hp2
  clear hb2 hp2
  go_wp2_with fail
  refine (HC3.out _).mono ?_
  rintro e w3 ⟨hb3, rfl⟩
  have HB3 := Lib.hid (HB2.out.then_ hb3)
  have HP3 := Lib.hid ((HP2.out.on hb3 (Nat.le_refl _)).mono hb3.size)
  have HQ3 := Lib.hid ((HQ2.out.on hb3 (Nat.le_refl _)).mono hb3.size)
  clear hb3
  go_wp2_with fail
  have hy4 := Arr.lit (f := strV) w3 9 [[97], [98,120]] 2 rfl (by decide) (cs := #[.string ⟨#[97]⟩, .string ⟨#[98,120]⟩]) rfl
  have hbm4 := (Below.refl w3.heap.size w3).alloc (Nat.le_refl _) (.cells #[.string ⟨#[97]⟩, .string ⟨#[98,120]⟩] 9)
  have hc4 := match_calls _ pb a n c knP _ 2 2 _ _ (HP3.out.on hbm4 (Nat.le_refl _)) hbm4.size hy4 (short_names (by decide))
  rw [km1] at hc4
  refine hc4.mono ?_
  rintro e w4 ⟨rfl, hb4⟩
  have HB4 := Lib.hid (HB3.out.then_ (hbm4.then_ hb4))
  have HP4 := Lib.hid ((HP3.out.on (hbm4.then_ hb4) (Nat.le_refl _)).mono (hbm4.then_ hb4).size)
  have HQ4 := Lib.hid ((HQ3.out.on (hbm4.then_ hb4) (Nat.le_refl _)).mono (hbm4.then_ hb4).size)
  clear hy4 hbm4 hc4 hb4
  go_wp2_with fail
  have hy5 := Arr.lit (f := strV) w4 9 [[97,98,99], [100,100]] 2 rfl (by decide) (cs := #[.string ⟨#[97,98,99]⟩, .string ⟨#[100,100]⟩]) rfl
  have hbm5 := (Below.refl w4.heap.size w4).alloc (Nat.le_refl _) (.cells #[.string ⟨#[97,98,99]⟩, .string ⟨#[100,100]⟩] 9)
  have hc5 := match_calls _ pb a n c knP _ 2 2 _ _ (HP4.out.on hbm5 (Nat.le_refl _)) hbm5.size hy5 (short_names (by decide))
  rw [km2] at hc5
  refine hc5.mono ?_
  rintro e w5 ⟨rfl, hb5⟩
  have HB5 := Lib.hid (HB4.out.then_ (hbm5.then_ hb5))
  have HP5 := Lib.hid ((HP4.out.on (hbm5.then_ hb5) (Nat.le_refl _)).mono (hbm5.then_ hb5).size)
  have HQ5 := Lib.hid ((HQ4.out.on (hbm5.then_ hb5) (Nat.le_refl _)).mono (hbm5.then_ hb5).size)
  clear hy5 hbm5 hc5 hb5
  go_wp2_with fail
  have hy6 := Arr.lit (f := strV) w5 9 [[97], [97,49]] 2 rfl (by decide) (cs := #[.string ⟨#[97]⟩, .string ⟨#[97,49]⟩]) rfl
  have hbm6 := (Below.refl w5.heap.size w5).alloc (Nat.le_refl _) (.cells #[.string ⟨#[97]⟩, .string ⟨#[97,49]⟩] 9)
  have hc6 := match_calls _ pb a n c knP _ 2 2 _ _ (HP5.out.on hbm6 (Nat.le_refl _)) hbm6.size hy6 (short_names (by decide))
  rw [km3] at hc6
  refine hc6.mono ?_
  rintro e w6 ⟨rfl, hb6⟩
  have HB6 := Lib.hid (HB5.out.then_ (hbm6.then_ hb6))
  have HP6 := Lib.hid ((HP5.out.on (hbm6.then_ hb6) (Nat.le_refl _)).mono (hbm6.then_ hb6).size)
  have HQ6 := Lib.hid ((HQ5.out.on (hbm6.then_ hb6) (Nat.le_refl _)).mono (hbm6.then_ hb6).size)
  clear hy6 hbm6 hc6 hb6
  go_wp2_with fail
  have hy7 := Arr.lit (f := strV) w6 9 [[120]] 1 rfl (by decide) (cs := #[.string ⟨#[120]⟩]) rfl
  have hbm7 := (Below.refl w6.heap.size w6).alloc (Nat.le_refl _) (.cells #[.string ⟨#[120]⟩] 9)
  have hc7 := match_calls _ pb2 a2 n2 c2 knQ _ 1 1 _ _ (HQ6.out.on hbm7 (Nat.le_refl _)) hbm7.size hy7 (short_names (by decide))
  rw [km4] at hc7
  refine hc7.mono ?_
  rintro e w7 ⟨rfl, hb7⟩
  have HB7 := Lib.hid (HB6.out.then_ (hbm7.then_ hb7))
  have HP7 := Lib.hid ((HP6.out.on (hbm7.then_ hb7) (Nat.le_refl _)).mono (hbm7.then_ hb7).size)
  have HQ7 := Lib.hid ((HQ6.out.on (hbm7.then_ hb7) (Nat.le_refl _)).mono (hbm7.then_ hb7).size)
  clear hy7 hbm7 hc7 hb7
  go_wp2_with fail
  have hy8 := Arr.lit (f := strV) w7 9 [[97], [98], [120]] 3 rfl (by decide) (cs := #[.string ⟨#[97]⟩, .string ⟨#[98]⟩, .string ⟨#[120]⟩]) rfl
  have hbm8 := (Below.refl w7.heap.size w7).alloc (Nat.le_refl _) (.cells #[.string ⟨#[97]⟩, .string ⟨#[98]⟩, .string ⟨#[120]⟩] 9)
  have hc8 := match_calls _ pb2 a2 n2 c2 knQ _ 3 3 _ _ (HQ7.out.on hbm8 (Nat.le_refl _)) hbm8.size hy8 (short_names (by decide))
  rw [km5] at hc8
  refine hc8.mono ?_
  rintro e w8 ⟨rfl, hb8⟩
  have HB8 := Lib.hid (HB7.out.then_ (hbm8.then_ hb8))
  have HP8 := Lib.hid ((HP7.out.on (hbm8.then_ hb8) (Nat.le_refl _)).mono (hbm8.then_ hb8).size)
  have HQ8 := Lib.hid ((HQ7.out.on (hbm8.then_ hb8) (Nat.le_refl _)).mono (hbm8.then_ hb8).size)
  clear hy8 hbm8 hc8 hb8
  go_wp2_with fail
  refine (size_calls _ pb a n c knP w8 HP8.out).mono ?_
  rintro e w_ ⟨rfl, rfl⟩
  have hn : n = 2 := HP8.out.len.symm
  subst hn
  go_wp2_with fail
  go_ret
  exact ⟨rfl, HB8.out⟩
end Go.Proofs.Ytlnjfnpoabcllaa
