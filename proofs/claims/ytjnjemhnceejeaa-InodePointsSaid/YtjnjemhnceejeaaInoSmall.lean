/-
  inode.Most, inode.PerPage, inode.page, inode.Right at a free inode, and the law file's known.
-/
import Derived.Test.YtjnjemhnceejeaaInoWays
namespace Go.Proofs.Ytjnjemhnceejeaa
open Go.RowKit

theorem most_calls (s : Int) (w : World) :
    Calls Try.prog 12 #[.int .i64 s] w fun e w' => e = .returned (.int .i64 (Ino.most s)) ∧ w = w' := by
  by_cases h : Ino.Sized s
  · have hd : decide (Ino.Sized s) = true := decide_eq_true h
    have HS := Lib.hid h
    rcases h with rfl | rfl | rfl | rfl
    ·
      go_enter Try.func12, Try.ntmps12
      go_wp2_with fail
      refine (sized_calls _ _).mono ?_
      rintro e w_ ⟨rfl, rfl⟩
      rw [hd]
      go_wp2_with fail
      refine (pages_calls _ HS.out _).mono ?_
      rintro e w_ ⟨rfl, rfl⟩
      rw [show Ino.pages 64 = 1062 from rfl]
      go_wp2
      go_ret
      exact ⟨rfl, rfl⟩
    ·
      go_enter Try.func12, Try.ntmps12
      go_wp2_with fail
      refine (sized_calls _ _).mono ?_
      rintro e w_ ⟨rfl, rfl⟩
      rw [hd]
      go_wp2_with fail
      refine (pages_calls _ HS.out _).mono ?_
      rintro e w_ ⟨rfl, rfl⟩
      rw [show Ino.pages 128 = 4166 from rfl]
      go_wp2
      go_ret
      exact ⟨rfl, rfl⟩
    ·
      go_enter Try.func12, Try.ntmps12
      go_wp2_with fail
      refine (sized_calls _ _).mono ?_
      rintro e w_ ⟨rfl, rfl⟩
      rw [hd]
      go_wp2_with fail
      refine (pages_calls _ HS.out _).mono ?_
      rintro e w_ ⟨rfl, rfl⟩
      rw [show Ino.pages 256 = 16518 from rfl]
      go_wp2
      go_ret
      exact ⟨rfl, rfl⟩
    ·
      go_enter Try.func12, Try.ntmps12
      go_wp2_with fail
      refine (sized_calls _ _).mono ?_
      rintro e w_ ⟨rfl, rfl⟩
      rw [hd]
      go_wp2_with fail
      refine (pages_calls _ HS.out _).mono ?_
      rintro e w_ ⟨rfl, rfl⟩
      rw [show Ino.pages 512 = 65798 from rfl]
      go_wp2
      go_ret
      exact ⟨rfl, rfl⟩
  · have hd : decide (Ino.Sized s) = false := decide_eq_false h
    have hv : Ino.most s = 0 := by unfold Ino.most; rw [if_neg h]
    rw [hv]
    clear hv h
    go_enter Try.func12, Try.ntmps12
    go_wp2_with fail
    refine (sized_calls _ _).mono ?_
    rintro e w_ ⟨rfl, rfl⟩
    rw [hd]
    go_wp2
    go_ret
    exact ⟨rfl, rfl⟩
theorem refMost_calls (s : Int) (w : World) :
    Calls Try.prog 13 #[.int .i64 s] w fun e w' => e = .returned (.int .i64 (Ino.most s)) ∧ w = w' := by
  by_cases h : Ino.Sized s
  · have hd : decide (Ino.Sized s) = true := decide_eq_true h
    have HS := Lib.hid h
    rcases h with rfl | rfl | rfl | rfl
    ·
      go_enter Try.func13, Try.ntmps13
      go_wp2_with fail
      refine (refSized_calls _ _).mono ?_
      rintro e w_ ⟨rfl, rfl⟩
      rw [hd]
      go_wp2_with fail
      refine (refPages_calls _ HS.out _).mono ?_
      rintro e w_ ⟨rfl, rfl⟩
      rw [show Ino.pages 64 = 1062 from rfl]
      go_wp2
      go_ret
      exact ⟨rfl, rfl⟩
    ·
      go_enter Try.func13, Try.ntmps13
      go_wp2_with fail
      refine (refSized_calls _ _).mono ?_
      rintro e w_ ⟨rfl, rfl⟩
      rw [hd]
      go_wp2_with fail
      refine (refPages_calls _ HS.out _).mono ?_
      rintro e w_ ⟨rfl, rfl⟩
      rw [show Ino.pages 128 = 4166 from rfl]
      go_wp2
      go_ret
      exact ⟨rfl, rfl⟩
    ·
      go_enter Try.func13, Try.ntmps13
      go_wp2_with fail
      refine (refSized_calls _ _).mono ?_
      rintro e w_ ⟨rfl, rfl⟩
      rw [hd]
      go_wp2_with fail
      refine (refPages_calls _ HS.out _).mono ?_
      rintro e w_ ⟨rfl, rfl⟩
      rw [show Ino.pages 256 = 16518 from rfl]
      go_wp2
      go_ret
      exact ⟨rfl, rfl⟩
    ·
      go_enter Try.func13, Try.ntmps13
      go_wp2_with fail
      refine (refSized_calls _ _).mono ?_
      rintro e w_ ⟨rfl, rfl⟩
      rw [hd]
      go_wp2_with fail
      refine (refPages_calls _ HS.out _).mono ?_
      rintro e w_ ⟨rfl, rfl⟩
      rw [show Ino.pages 512 = 65798 from rfl]
      go_wp2
      go_ret
      exact ⟨rfl, rfl⟩
  · have hd : decide (Ino.Sized s) = false := decide_eq_false h
    have hv : Ino.most s = 0 := by unfold Ino.most; rw [if_neg h]
    rw [hv]
    clear hv h
    go_enter Try.func13, Try.ntmps13
    go_wp2_with fail
    refine (refSized_calls _ _).mono ?_
    rintro e w_ ⟨rfl, rfl⟩
    rw [hd]
    go_wp2
    go_ret
    exact ⟨rfl, rfl⟩
theorem perPage_calls (s : Int) (w : World) :
    Calls Try.prog 23 #[.int .i64 s] w fun e w' => e = .returned (.int .i64 (Ino.perPage s)) ∧ w = w' := by
  by_cases h : Ino.Sized s
  · have hd : decide (Ino.Sized s) = true := decide_eq_true h
    rcases h with rfl | rfl | rfl | rfl
    all_goals
      go_enter Try.func23, Try.ntmps23
      go_wp2_with fail
      refine (sized_calls _ _).mono ?_
      rintro e w_ ⟨rfl, rfl⟩
      rw [hd]
      go_wp2
      go_ret
      exact ⟨rfl, rfl⟩
  · have hd : decide (Ino.Sized s) = false := decide_eq_false h
    have hv : Ino.perPage s = 0 := by unfold Ino.perPage; rw [if_neg h]
    rw [hv]
    clear hv h
    go_enter Try.func23, Try.ntmps23
    go_wp2_with fail
    refine (sized_calls _ _).mono ?_
    rintro e w_ ⟨rfl, rfl⟩
    rw [hd]
    go_wp2
    go_ret
    exact ⟨rfl, rfl⟩
theorem refPerPage_calls (s : Int) (w : World) :
    Calls Try.prog 24 #[.int .i64 s] w fun e w' => e = .returned (.int .i64 (Ino.perPage s)) ∧ w = w' := by
  by_cases h : Ino.Sized s
  · have hd : decide (Ino.Sized s) = true := decide_eq_true h
    rcases h with rfl | rfl | rfl | rfl
    all_goals
      go_enter Try.func24, Try.ntmps24
      go_wp2_with fail
      refine (refSized_calls _ _).mono ?_
      rintro e w_ ⟨rfl, rfl⟩
      rw [hd]
      go_wp2
      go_ret
      exact ⟨rfl, rfl⟩
  · have hd : decide (Ino.Sized s) = false := decide_eq_false h
    have hv : Ino.perPage s = 0 := by unfold Ino.perPage; rw [if_neg h]
    rw [hv]
    clear hv h
    go_enter Try.func24, Try.ntmps24
    go_wp2_with fail
    refine (refSized_calls _ _).mono ?_
    rintro e w_ ⟨rfl, rfl⟩
    rw [hd]
    go_wp2
    go_ret
    exact ⟨rfl, rfl⟩
theorem page_calls (p : Int) (w : World) :
    Calls Try.prog 45 #[.int .i64 p] w fun e w' => e = .returned (.bool (decide (0 ≤ p ∧ p < 8192))) ∧ w = w' := by
  by_cases h0 : 0 ≤ p
  · by_cases h1 : p < 8192
    · rw [decide_eq_true ⟨h0, h1⟩]
      go_enter Try.func45, Try.ntmps45
      go_wp2
      go_ret
      exact ⟨rfl, rfl⟩
    · rw [decide_eq_false (fun h => h1 h.2)]
      go_enter Try.func45, Try.ntmps45
      go_wp2
      go_ret
      exact ⟨rfl, rfl⟩
  · rw [decide_eq_false (fun h => h0 h.1)]
    go_enter Try.func45, Try.ntmps45
    go_wp2
    go_ret
    exact ⟨rfl, rfl⟩
theorem rightFree_calls (w : World) :
    Calls Try.prog 20 #[.agg #[.int .i64 0, .int .i64 1, .int .i64 0, .int .i64 0, .int .i64 0, .int .i64 0, .int .i64 0, .int .i64 0, .int .i64 0, .int .i64 0, .int .i64 0]] w fun e w' => e = .returned (.bool false) ∧ Below w.heap.size w w' := by
  go_enter Try.func20, Try.ntmps20
  go_wp2
  go_ret
  exact ⟨rfl, (Below.refl _ _).alloc (Nat.le_refl _) _⟩
theorem writeFree_calls (w : World) :
    Calls Try.prog 16 #[.agg #[.int .i64 0, .int .i64 1, .int .i64 0, .int .i64 0, .int .i64 0, .int .i64 0, .int .i64 0, .int .i64 0, .int .i64 0, .int .i64 0, .int .i64 0]] w fun e w' => e = .returned (.tuple #[.slice none 0 0, .int .i64 51]) ∧ Below w.heap.size w w' := by
  have hb0 : Below w.heap.size w (w.alloc (.cells #[.int .i64 0, .int .i64 1, .int .i64 0, .int .i64 0, .int .i64 0, .int .i64 0, .int .i64 0, .int .i64 0, .int .i64 0, .int .i64 0, .int .i64 0] 36)) := (Below.refl _ _).alloc (Nat.le_refl _) _
  have HB0 := Lib.hid hb0
  clear hb0
  go_enter Try.func16, Try.ntmps16
  go_wp2_with fail
  refine (rightFree_calls _).mono ?_
  rintro e w1 ⟨rfl, h_⟩
  have HB := Lib.hid h_
  clear h_
  go_wp2
  go_ret2
  exact ⟨rfl, HB0.out.trans (HB.out.mono (by simp))⟩
theorem known_calls (w : World) :
    Calls Try.prog 14 #[] w fun e w' => e = .returned (.bool true) ∧ Below w.heap.size w w' := by
  go_enter Try.func14, Try.ntmps14
  go_wp2_with fail
  refine (to_calls 64 38 _ (by omega) (by omega)).mono ?_
  rintro e w1 ⟨rfl, h_⟩
  have HB1 := Lib.hid h_
  clear h_
  rw [show wayV 64 38 = .tuple #[.agg #[.int .i64 2, .int .i64 0, .int .i64 0], .int .i64 0] from rfl]
  have hs1 := HB1.out.size
  have bk0 := Lib.hid (Blk.new w1 23 #[.int .i64 2, .int .i64 0, .int .i64 0])
  go_wp2_with fail
  refine (to_calls 64 1062 _ (by omega) (by omega)).mono ?_
  rw [show wayV 64 1062 = .tuple #[.agg #[.int .i64 0, .int .i64 0, .int .i64 0], .int .i64 52] from rfl]
  rintro e w2 ⟨rfl, hb⟩
  have bk1 := Lib.hid ((bk0.out.belowHere hb).alloc (.cells #[.int .i64 0, .int .i64 0, .int .i64 0] 23))
  have hb1 := Below.then_ ((Below.refl w1.heap.size w1).alloc (Nat.le_refl _) _) hb
  have hb1' := hb1.alloc hb1.size (.cells #[.int .i64 0, .int .i64 0, .int .i64 0] 23)
  have HB2 := Lib.hid (Below.then_ HB1.out hb1')
  clear hb hb1 hb1' bk0 HB1
  go_wp2_with fail
  generalize w2.alloc (.cells #[.int .i64 0, .int .i64 0, .int .i64 0] 23) = w3 at *
  refine (writeFree_calls w3).mono ?_
  rintro e w4 ⟨rfl, hb⟩
  have bk2 := Lib.hid (bk1.out.belowHere hb)
  have HB3 := Lib.hid (Below.then_ HB2.out hb)
  clear hb HB2 bk1
  go_wp2_with fail
  refine (perPage_calls _ _).mono ?_
  rintro e w_ ⟨rfl, rfl⟩
  rw [show Ino.perPage 64 = 2 from rfl]
  go_wp2_with fail
  refine (most_calls _ _).mono ?_
  rintro e w_ ⟨rfl, rfl⟩
  rw [show Ino.most 64 = 67968 from rfl]
  have c0 := bk2.out.cellv (i := 0) rfl
  have c1 := bk2.out.cellv (i := 1) rfl
  have c2 := bk2.out.cellv (i := 2) rfl
  go_wp2
  go_ret
  exact ⟨rfl, HB3.out⟩
end Go.Proofs.Ytjnjemhnceejeaa
