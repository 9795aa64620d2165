/-
  More, the program's and the reference's.
-/
import Derived.Test.YtfiphpdagnlbbaaRoomMoreM
import Derived.Test.YtfiphpdagnlbbaaRoomFile
import Derived.Test.YtfiphpdagnlbbaaRoomWith
import Derived.Test.YtfiphpdagnlbbaaRoomRefF
import Derived.Test.YtfiphpdagnlbbaaRoomRefWith
namespace Go.Proofs.Ytfiphpdagnlbbaa
open Go.RowKit

set_option maxHeartbeats 2000000 in
theorem more_calls (s : Int) (a : Option Addr) (n c : Nat) (xs : List Int) (f t : Int) (w : World) (hx : Arr intV w w.heap.size a n xs) (hb : ∀ x ∈ xs, -9223372036854775808 ≤ x ∧ x ≤ 9223372036854775807) (hn : n ≤ 2000) (hm : Room.more f t ≤ 2000) :
    Calls Try.prog 18 #[.int .i64 s, .slice a n c, .int .i64 f, .int .i64 t] w (FileR (Room.moreR s xs f t) w) := by
  have hl := hx.len
  have HX := Lib.hid hx
  have HBd := Lib.hid hb
  have HF := Lib.hid (file_calls s a n c xs w hx hb (by omega))
  have hb1 := Room.file_b s xs
  have hb2 := Room.file_b s (Room.row (Room.all xs f t))
  have hal := Room.all_len (xs := xs) (f := f) (t := t)
  have HAb := Lib.hid (Room.all_bd (f := f) (t := t) hb)
  have hr : Room.moreR s xs f t = if (Room.file s xs).2 ≠ 0 then (0, (Room.file s xs).2) else if (Room.file s (Room.row (Room.all xs f t))).2 ≠ 0 then (0, (Room.file s (Room.row (Room.all xs f t))).2) else ((Room.file s (Room.row (Room.all xs f t))).1 - (Room.file s xs).1, 0) := rfl
  obtain ⟨ys, hy⟩ : ∃ ys, ys = Room.row (Room.all xs f t) := ⟨_, rfl⟩
  have HW := Lib.hid (fun (u : World) (hu : Arr intV u u.heap.size a n xs) => with_calls a n c xs f t u hu hn hm)
  rw [← hy] at hr hb2 hal HAb HW
  obtain ⟨⟨x0, x1⟩, hfx⟩ : ∃ r, r = Room.file s xs := ⟨_, rfl⟩
  obtain ⟨⟨y0, y1⟩, hfy⟩ : ∃ r, r = Room.file s ys := ⟨_, rfl⟩
  have HFy := Lib.hid hfy
  rw [← hfx, ← hfy] at hr
  rw [← hfx] at hb1 HF
  rw [← hfy] at hb2
  simp only at hr hb1 hb2
  obtain ⟨b0, b1⟩ := hb1
  obtain ⟨b2, b3⟩ := hb2
  have hyl : ys.length ≤ 4000 := by omega
  have hx9 : x0 ≤ 100000 := by omega
  have hy9 : y0 ≤ 100000 := by omega
  clear hx hb hfx hfy hy hl b1 b3 hal
  by_cases h1 : x1 = 0
  case neg =>
    rw [if_pos h1] at hr
    rw [hr]
    have g1 : (x1 != 0) = true := by simpa using h1
    clear hr
    go_enter Try.func18, Try.ntmps18
    go_wp2_with fail
    refine (HF.out).mono ?_
    rintro e w1 ⟨rfl, h_⟩
    have HB1 := Lib.hid h_
    clear h_
    go_wp2
    go_ret2
    exact ⟨rfl, HB1.out⟩
  subst h1
  rw [if_neg (by decide)] at hr
  by_cases h2 : y1 = 0
  case neg =>
    rw [if_pos h2] at hr
    rw [hr]
    have g1 : (y1 != 0) = true := by simpa using h2
    clear hr
    go_enter Try.func18, Try.ntmps18
    go_wp2_with fail
    refine (HF.out).mono ?_
    rintro e w1 ⟨rfl, h_⟩
    have HB1 := Lib.hid h_
    clear h_
    go_wp2_with fail
    refine (HW.out _ (HX.out.on HB1.out)).mono ?_
    rintro e w2 ⟨v2, rfl, ho, hb2⟩
    obtain ⟨a2, c2, rfl, _⟩ := ho.formN (n := ys.length) rfl
    have HB2 := Lib.hid (HB1.out.then_ hb2)
    have HF2 := Lib.hid (file_calls s a2 ys.length c2 ys w2 (ho.arr (by omega)) HAb.out hyl)
    rw [← HFy.out] at HF2
    clear ho hb2
    go_wp2_with fail
    refine HF2.out.mono ?_
    rintro e w3 ⟨rfl, hb3⟩
    have HB3 := Lib.hid (HB2.out.then_ hb3)
    clear hb3
    go_wp2
    go_ret2
    exact ⟨rfl, HB3.out⟩
  subst h2
  rw [if_neg (by decide)] at hr
  rw [hr]
  clear hr
  go_enter Try.func18, Try.ntmps18
  go_wp2_with fail
  refine (HF.out).mono ?_
  rintro e w1 ⟨rfl, h_⟩
  have HB1 := Lib.hid h_
  clear h_
  go_wp2_with fail
  refine (HW.out _ (HX.out.on HB1.out)).mono ?_
  rintro e w2 ⟨v2, rfl, ho, hb2⟩
  obtain ⟨a2, c2, rfl, _⟩ := ho.formN (n := ys.length) rfl
  have HB2 := Lib.hid (HB1.out.then_ hb2)
  have HF2 := Lib.hid (file_calls s a2 ys.length c2 ys w2 (ho.arr (by omega)) HAb.out hyl)
  rw [← HFy.out] at HF2
  clear ho hb2
  go_wp2_with fail
  refine HF2.out.mono ?_
  rintro e w3 ⟨rfl, hb3⟩
  have HB3 := Lib.hid (HB2.out.then_ hb3)
  clear hb3
  go_wp2
  go_ret2
  exact ⟨rfl, HB3.out⟩
set_option maxHeartbeats 2000000 in
theorem refMore_calls (s : Int) (a : Option Addr) (n c : Nat) (xs : List Int) (f t : Int) (w : World) (hx : Arr intV w w.heap.size a n xs) (hb : ∀ x ∈ xs, -9223372036854775808 ≤ x ∧ x ≤ 9223372036854775807) (hn : n ≤ 2000) (hm : Room.more f t ≤ 2000) :
    Calls Try.prog 19 #[.int .i64 s, .slice a n c, .int .i64 f, .int .i64 t] w (FileR (Room.moreR s xs f t) w) := by
  have hl := hx.len
  have HX := Lib.hid hx
  have HBd := Lib.hid hb
  have HF := Lib.hid (refFile_calls s a n c xs w hx hb (by omega))
  have hb1 := Room.file_b s xs
  have hb2 := Room.file_b s (Room.row (Room.all xs f t))
  have hal := Room.all_len (xs := xs) (f := f) (t := t)
  have HAb := Lib.hid (Room.all_bd (f := f) (t := t) hb)
  have hr : Room.moreR s xs f t = if (Room.file s xs).2 ≠ 0 then (0, (Room.file s xs).2) else if (Room.file s (Room.row (Room.all xs f t))).2 ≠ 0 then (0, (Room.file s (Room.row (Room.all xs f t))).2) else ((Room.file s (Room.row (Room.all xs f t))).1 - (Room.file s xs).1, 0) := rfl
  obtain ⟨ys, hy⟩ : ∃ ys, ys = Room.row (Room.all xs f t) := ⟨_, rfl⟩
  have HW := Lib.hid (fun (u : World) (hu : Arr intV u u.heap.size a n xs) => refWith_calls a n c xs f t u hu hn hm)
  rw [← hy] at hr hb2 hal HAb HW
  obtain ⟨⟨x0, x1⟩, hfx⟩ : ∃ r, r = Room.file s xs := ⟨_, rfl⟩
  obtain ⟨⟨y0, y1⟩, hfy⟩ : ∃ r, r = Room.file s ys := ⟨_, rfl⟩
  have HFy := Lib.hid hfy
  rw [← hfx, ← hfy] at hr
  rw [← hfx] at hb1 HF
  rw [← hfy] at hb2
  simp only at hr hb1 hb2
  obtain ⟨b0, b1⟩ := hb1
  obtain ⟨b2, b3⟩ := hb2
  have hyl : ys.length ≤ 4000 := by omega
  have hx9 : x0 ≤ 100000 := by omega
  have hy9 : y0 ≤ 100000 := by omega
  clear hx hb hfx hfy hy hl b1 b3 hal
  by_cases h1 : x1 = 0
  case neg =>
    rw [if_pos h1] at hr
    rw [hr]
    have g1 : (x1 != 0) = true := by simpa using h1
    clear hr
    go_enter Try.func19, Try.ntmps19
    go_wp2_with fail
    refine (HF.out).mono ?_
    rintro e w1 ⟨rfl, h_⟩
    have HB1 := Lib.hid h_
    clear h_
    go_wp2
    go_ret2
    exact ⟨rfl, HB1.out⟩
  subst h1
  rw [if_neg (by decide)] at hr
  by_cases h2 : y1 = 0
  case neg =>
    rw [if_pos h2] at hr
    rw [hr]
    have g1 : (y1 != 0) = true := by simpa using h2
    clear hr
    go_enter Try.func19, Try.ntmps19
    go_wp2_with fail
    refine (HF.out).mono ?_
    rintro e w1 ⟨rfl, h_⟩
    have HB1 := Lib.hid h_
    clear h_
    go_wp2_with fail
    refine (HW.out _ (HX.out.on HB1.out)).mono ?_
    rintro e w2 ⟨v2, rfl, ho, hb2⟩
    obtain ⟨a2, c2, rfl, _⟩ := ho.formN (n := ys.length) rfl
    have HB2 := Lib.hid (HB1.out.then_ hb2)
    have HF2 := Lib.hid (refFile_calls s a2 ys.length c2 ys w2 (ho.arr (by omega)) HAb.out hyl)
    rw [← HFy.out] at HF2
    clear ho hb2
    go_wp2_with fail
    refine HF2.out.mono ?_
    rintro e w3 ⟨rfl, hb3⟩
    have HB3 := Lib.hid (HB2.out.then_ hb3)
    clear hb3
    go_wp2
    go_ret2
    exact ⟨rfl, HB3.out⟩
  subst h2
  rw [if_neg (by decide)] at hr
  rw [hr]
  clear hr
  go_enter Try.func19, Try.ntmps19
  go_wp2_with fail
  refine (HF.out).mono ?_
  rintro e w1 ⟨rfl, h_⟩
  have HB1 := Lib.hid h_
  clear h_
  go_wp2_with fail
  refine (HW.out _ (HX.out.on HB1.out)).mono ?_
  rintro e w2 ⟨v2, rfl, ho, hb2⟩
  obtain ⟨a2, c2, rfl, _⟩ := ho.formN (n := ys.length) rfl
  have HB2 := Lib.hid (HB1.out.then_ hb2)
  have HF2 := Lib.hid (refFile_calls s a2 ys.length c2 ys w2 (ho.arr (by omega)) HAb.out hyl)
  rw [← HFy.out] at HF2
  clear ho hb2
  go_wp2_with fail
  refine HF2.out.mono ?_
  rintro e w3 ⟨rfl, hb3⟩
  have HB3 := Lib.hid (HB2.out.then_ hb3)
  clear hb3
  go_wp2
  go_ret2
  exact ⟨rfl, HB3.out⟩
end Go.Proofs.Ytfiphpdagnlbbaa
