/-
  The law file's known and long.
-/
import Derived.Test.YtlnomkkamopieaaDirCheck
import Derived.Test.YtlnomkkamopieaaDirRefR
import Derived.Test.YtlnomkkamopieaaDirRefW
import Derived.Test.YtlnomkkamopieaaDirEq
namespace Go.Proofs.Ytlnomkkamopieaa
open Go.RowKit Go.Maps Go.WideMaps

theorem long_calls (a : Option Addr) (n c : Nat) (w : World) : Calls Try.prog 8 #[.slice a n c] w fun e w' => e = .returned (.bool (decide (1500 < n))) ∧ w = w' := by
  cases h : decide (1500 < n)
  · have g : decide (1500 < (n : Int)) = false := decide_eq_false (by have := of_decide_eq_false h; omega)
    clear h
    go_enter Try.func8, Try.ntmps8
    go_wp2
    go_ret
    exact ⟨rfl, rfl⟩
  · have g : decide (1500 < (n : Int)) = true := decide_eq_true (by have := of_decide_eq_true h; omega)
    clear h
    go_enter Try.func8, Try.ntmps8
    go_wp2
    go_ret
    exact ⟨rfl, rfl⟩
theorem kn1 : Dir.writeE ⟨3, [97, 98]⟩ = 0 := by decide
theorem kn2 : Dir.writeL ⟨3, [97, 98]⟩ = [3, 0, 2, 97, 98, 0, 0, 0, 0, 0, 0, 0, 0, 0, 0, 0] := by decide
theorem kn3 : Dir.readR (List.replicate 15 0) = (Dir.none_, false, 1) := by decide
theorem kn4 : Dir.checkE (List.replicate 16 0) = 50 := by decide
set_option maxHeartbeats 4000000 in
theorem known_calls (w : World) :
    Calls Try.prog 9 #[] w fun e w' => e = .returned (.bool true) ∧ Below w.heap.size w w' := by
  have c1 := Lib.hid (write_calls ⟨3, [97, 98]⟩ w (by decide))
  unfold WriteR at c1
  rw [kn1, kn2] at c1
  have mk15 : ∀ u : World, (Instr.makeSlice 24 (.int .i64 15) (.int .i64 15)).run Try.prog u = .ok (.slice (some ⟨u.heap.size, 0, none⟩) 15 15) (u.alloc (.cells (Array.replicate 15 (.int .u8 0)) 5)) := makeZ 15 (by decide)
  have mk16 : ∀ u : World, (Instr.makeSlice 24 (.int .i64 16) (.int .i64 16)).run Try.prog u = .ok (.slice (some ⟨u.heap.size, 0, none⟩) 16 16) (u.alloc (.cells (Array.replicate 16 (.int .u8 0)) 5)) := makeZ 16 (by decide)
  go_enter Try.func9, Try.ntmps9
  go_wp2_with fail
  refine c1.out.mono ?_
  rintro e w1 ⟨⟨v, rfl, ho⟩, hb⟩
  obtain ⟨a1, d1, rfl, _⟩ := ho.formN (n := 16) rfl
  have HX1 := Lib.hid (ho.arr (by decide))
  have HB1 := Lib.hid hb
  clear ho hb
  go_wp2_with fail
  have hb2 := (Below.refl w1.heap.size w1).alloc (Nat.le_refl _) (.cells (Array.replicate 15 (.int .u8 0)) 5)
  have HX2 := Lib.hid (HX1.out.on hb2)
  have HB2 := Lib.hid (HB1.out.then_ hb2)
  have h15 := (ownMadeZ w1 w1.heap.size 15 (Nat.le_refl _) (by decide)).arr (by decide)
  have c2 := Lib.hid (read_calls _ _ _ _ _ h15 (Nat.le_refl _))
  unfold ReadR at c2
  rw [kn3] at c2
  clear hb2 h15
  refine c2.out.mono ?_
  rintro e w3 ⟨rfl, hb⟩
  have HX3 := Lib.hid (HX2.out.on hb)
  have HB3 := Lib.hid (HB2.out.then_ hb)
  clear hb c2
  go_wp2_with fail
  have hbe := (Below.refl w3.heap.size w3).alloc (Nat.le_refl _) (.cells #[.int .i64 Dir.none_.i, .string (strL Dir.none_.nm)] 23)
  have hx4 := HX3.out.on hbe
  have hB4 := HB3.out.then_ hbe
  have he4 : (w3.alloc (.cells #[.int .i64 Dir.none_.i, .string (strL Dir.none_.nm)] 23)).heap.size = w3.heap.size + 1 := by simp
  obtain ⟨w4, hw4⟩ : ∃ w4, w4 = w3.alloc (.cells #[.int .i64 Dir.none_.i, .string (strL Dir.none_.nm)] 23) := ⟨_, rfl⟩
  rw [← hw4] at hx4 hB4 he4 ⊢
  have hy := Arr.lit (f := byteV) w4 5 [3, 0, 2, 97, 98, 0, 0, 0, 0, 0, 0, 0, 0, 0, 0, 0] 16 rfl (by decide) (cs := #[.int .u8 3, .int .u8 0, .int .u8 2, .int .u8 97, .int .u8 98, .int .u8 0, .int .u8 0, .int .u8 0, .int .u8 0, .int .u8 0, .int .u8 0, .int .u8 0, .int .u8 0, .int .u8 0, .int .u8 0, .int .u8 0]) rfl
  have hb5 := (Below.refl w4.heap.size w4).alloc (Nat.le_refl _) (.cells #[.int .u8 3, .int .u8 0, .int .u8 2, .int .u8 97, .int .u8 98, .int .u8 0, .int .u8 0, .int .u8 0, .int .u8 0, .int .u8 0, .int .u8 0, .int .u8 0, .int .u8 0, .int .u8 0, .int .u8 0, .int .u8 0] 5)
  have hx5 := hx4.on hb5
  have HB5 := Lib.hid (hB4.then_ hb5)
  obtain ⟨w5, hw5⟩ : ∃ w5, w5 = w4.alloc (.cells #[.int .u8 3, .int .u8 0, .int .u8 2, .int .u8 97, .int .u8 98, .int .u8 0, .int .u8 0, .int .u8 0, .int .u8 0, .int .u8 0, .int .u8 0, .int .u8 0, .int .u8 0, .int .u8 0, .int .u8 0, .int .u8 0] 5) := ⟨_, rfl⟩
  rw [← hw5] at hx5 hy HB5 ⊢
  rw [he4] at hy
  have HSA := Lib.hid (same_yes a1 _ 16 d1 16 16 _ w5 hx5 hy)
  clear hw5 hw4 hb5 hbe hx4 hB4 he4 hx5 hy
  refine HSA.out.mono ?_
  rintro e w_ ⟨rfl, rfl⟩
  go_wp2_with fail
  refine (room_calls none 0 0 [] _ (Arr.none_ _ _ _) (Nat.le_refl _)).mono ?_
  rintro e w_ ⟨⟨r, rfl, hr⟩, rfl⟩
  obtain rfl : r = 0 := by have := hr.2.1; have e : Dir.cnt [] = 0 := rfl; omega
  clear hr
  go_wp2_with fail
  have hb6 := (Below.refl w5.heap.size w5).alloc (Nat.le_refl _) (.cells (Array.replicate 16 (.int .u8 0)) 5)
  have HB6 := Lib.hid (HB5.out.then_ hb6)
  have h16 := (ownMadeZ w5 w5.heap.size 16 (Nat.le_refl _) (by decide)).arr (by decide)
  have c6 := Lib.hid (check_calls _ _ _ _ _ h16 (Nat.le_refl _))
  rw [kn4] at c6
  clear hb6 h16
  refine c6.out.mono ?_
  rintro e w7 ⟨rfl, hb⟩
  have HB7 := Lib.hid (HB6.out.then_ hb)
  clear hb
  go_wp2
  go_ret
  exact ⟨rfl, HB7.out⟩
end Go.Proofs.Ytlnomkkamopieaa
