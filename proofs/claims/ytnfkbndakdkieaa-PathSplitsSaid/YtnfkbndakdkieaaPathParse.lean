/-
  path.Parse.
-/
import Derived.Test.YtnfkbndakdkieaaPathParts
import Derived.Test.YtnfkbndakdkieaaStrsIn
import Derived.Test.YtnfkbndakdkieaaPathName
import Derived.WalkMore
import Derived.Deep.QuietTactic
import Derived.BigQuiet
import Derived.Shelf.Abstract
namespace Go.Proofs.Ytnfkbndakdkieaa
open Go.RowKit Go.Shelf

attribute [local go_sem] Oper.semAt_some

namespace Pth
/-- What is wrong with parts, i of which have been read: 0: nothing. -/
def chk : Nat → List (List UInt8) → Int
  | _, [] => 0
  | i, s :: t => if nameB s then (if i = 16 then 30 else chk (i + 1) t) else 31
def parse (l : List UInt8) : List (List UInt8) × Int :=
  if l = [] ∨ 255 < l.length ∨ l.head? ≠ some 47 then ([], 30) else if chk 0 (parts l) = 0 then (parts l, 0) else ([], chk 0 (parts l))
theorem chk_skip (pre rest : List (List UInt8)) (hn : ∀ x ∈ pre, nameB x = true) (i : Nat) (hl : i + pre.length ≤ 16) : chk i (pre ++ rest) = chk (i + pre.length) rest := by
  induction pre generalizing i with
  | nil => rfl
  | cons s t ih =>
    rw [List.length_cons] at hl ⊢
    rw [List.cons_append, chk, if_pos (hn s (by simp)), if_neg (by omega), ih (fun x hx => hn x (by simp [hx])) (i + 1) (by omega)]
    congr 1
    omega
theorem chk_whole (xs : List (List UInt8)) (hn : ∀ x ∈ xs, nameB x = true) (hl : xs.length ≤ 16) : chk 0 xs = 0 := by
  have h := chk_skip xs [] hn 0 (by omega)
  rw [List.append_nil] at h
  rw [h]; rfl
theorem chk_bad {pre xs : List (List UInt8)} {x : List UInt8} (h : (pre ++ [x]) <+: xs) (hn : ∀ y ∈ pre, nameB y = true) (hl : pre.length ≤ 16) (hx : nameB x = false) : chk 0 xs = 31 := by
  obtain ⟨t, rfl⟩ := h
  rw [List.append_assoc, chk_skip pre _ hn 0 (by omega)]
  simp [chk, hx]
theorem chk_many {pre xs : List (List UInt8)} {x : List UInt8} (h : (pre ++ [x]) <+: xs) (hn : ∀ y ∈ pre, nameB y = true) (hl : pre.length = 16) (hx : nameB x = true) : chk 0 xs = 30 := by
  obtain ⟨t, rfl⟩ := h
  rw [List.append_assoc, chk_skip pre _ hn 0 (by omega)]
  simp [chk, hx, hl]
theorem opt_mem {x l : List UInt8} (h : x ∈ opt l) : x = l := by
  unfold opt at h
  split at h
  · simp at h
  · simpa using h
theorem parts_mem {x l : List UInt8} (h : x ∈ parts l) : x.length ≤ l.length := by
  have H : ∀ n (l : List UInt8), l.length ≤ n → x ∈ parts l → x.length ≤ l.length := by
    intro n
    induction n with
    | zero =>
      intro l hl h
      have : l = [] := List.eq_nil_of_length_eq_zero (by omega)
      subst this; simp [parts_nil] at h
    | succ n ih =>
      intro l hl h
      by_cases h0 : l = []
      · subst h0; simp [parts_nil] at h
      · have h1 := behind_lt l h0
        rw [parts_step, List.mem_append] at h
        rcases h with h | h
        · rw [opt_mem h]; exact ahead_le l
        · have := ih (behind l) (by omega) h; omega
  exact H l.length l (Nat.le_refl _) h
end Pth
/-- Between two rounds; and where a round has left the loop. -/
def ParseI (H : Nat) (w : World) (pre : List (List UInt8)) (W : World) : Prop :=
  (∃ v, Blk W H 24 #[v] ∧ Own strV 9 W (H + 1 + 1 + 1) v pre) ∧ Blk W (H + 1) 25 #[.int .i64 0] ∧ Below H w W ∧ H + 1 + 1 + 1 ≤ W.heap.size ∧ ((∀ x ∈ pre, Pth.nameB x = true) ∧ pre.length ≤ 16)
def ParseX (H : Nat) (w : World) (E : Int) (k : Code) (W : World) : Prop :=
  (∃ v, Blk W H 24 #[v]) ∧ Blk W (H + 1) 25 #[.int .i64 E] ∧ Below H w W ∧ (k = .exit 0 ∧ E ≠ 0)
theorem parseI_keeps (H : Nat) (w : World) (hw : H ≤ w.heap.size) (pre : List (List UInt8)) : Keeps2 (H + 1 + 1) (H + 1 + 1 + 1) (ParseI H w pre) :=
  (Keeps2.ex fun v => (Blk.keeps2 (by omega)).and (Own.keeps2 (by omega))).and ((Blk.keeps2 (by omega)).and ((below_keeps2 (by omega) (by omega) hw).and (size_keeps2.and (Keeps2.pure _))))
theorem parseX_keeps (H : Nat) (w : World) (hw : H ≤ w.heap.size) (E : Int) (k : Code) : Keeps2 (H + 1 + 1) (H + 1 + 1 + 1) (ParseX H w E k) :=
  (Keeps2.ex fun v => Blk.keeps2 (by omega)).and ((Blk.keeps2 (by omega)).and ((below_keeps2 (by omega) (by omega) hw).and (Keeps2.pure _)))
theorem partsFn (l : List UInt8) (w : World) :
    Calls Try.prog 21 #[.string (strL l)] w fun e w' => e = .returned (.func (.func 27) #[] #[.pointer (some ⟨w.heap.size, 0, none⟩)]) ∧ w.alloc (.cells #[.string (strL l)] 9) = w' := by
  go_enter Try.func21, Try.ntmps21
  go_wp2
  go_ret
  exact ⟨rfl, rfl⟩
set_option maxRecDepth 100000 in
set_option maxHeartbeats 2000000 in
theorem parse_good (l : List UInt8) (w : World) (h0 : l ≠ []) (h1 : l.length ≤ 255) (h2 : l.head? = some 47) :
    Calls Try.prog 10 #[.string (strL l)] w fun e w' => (∃ v, e = .returned (.tuple #[v, .int .i64 (Pth.parse l).2]) ∧ Own strV 9 w' w.heap.size v (Pth.parse l).1) ∧ Below w.heap.size w w' := by
  have g0 : l.isEmpty = false := by simpa using h0
  have g1 : (l == []) = false := by simpa using h0
  have g2 : decide (255 < (l.length : Int)) = false := decide_eq_false (by omega)
  have g3 : (0 : Nat) < l.length := List.length_pos_iff.2 h0
  have g4 : ((l[0].toNat : Int) == 47) = true := by
    cases l with
    | nil => exact absurd rfl h0
    | cons c r => simp at h2; subst h2; rfl
  refine callsIn_wide (n := 9) |>.1 ?_
  refine callsIn_of_wp_marks Try.func10 rfl trivial ?_ rfl
  refine wpIn_wide.2 ?_
  simp only [Try.ntmps10, List.size_toArray, List.length_cons, List.length_nil, Nat.reduceAdd, Nat.reduceSub, Array.replicate_succ, Array.replicate_zero, List.push_toArray, List.append_toArray, List.nil_append, List.cons_append]
  go_wp2
  go_step3
  go_wp2_with fail
  go_step3
  go_wp2_with fail
  refine (partsFn l _).mono ?_
  rintro e w' ⟨rfl, rfl⟩
  go_wp2
  have b4 := ((Blk.new w 24 #[.slice none 0 0]).alloc (.cells #[.int .i64 0] 25)).alloc (.cells #[.string (strL l)] 9)
  have b5 := (Blk.new (w.alloc (.cells #[.slice none 0 0] 24)) 25 #[.int .i64 0]).alloc (.cells #[.string (strL l)] 9)
  have b6 := Blk.new ((w.alloc (.cells #[.slice none 0 0] 24)).alloc (.cells #[.int .i64 0] 25)) 9 #[.string (strL l)]
  have hb0 : Below w.heap.size w (((w.alloc (.cells #[.slice none 0 0] 24)).alloc (.cells #[.int .i64 0] 25)).alloc (.cells #[.string (strL l)] 9)) := (((Below.refl _ w).alloc (Nat.le_refl _) _).alloc (by simp) _).alloc (by simp; omega) _
  have hsz : (((w.alloc (.cells #[.slice none 0 0] 24)).alloc (.cells #[.int .i64 0] 25)).alloc (.cells #[.string (strL l)] 9)).heap.size = w.heap.size + 1 + 1 + 1 := by simp
  simp only [World.size_alloc] at b4 b5 b6
  generalize ((w.alloc (.cells #[.slice none 0 0] 24)).alloc (.cells #[.int .i64 0] 25)).alloc (.cells #[.string (strL l)] 9) = W0 at *
  have hit := parts_iter l (w.heap.size + 1 + 1) w.heap.size W0 (by omega) (b6.cellv (i := 0) rfl) (b6.frozen 0)
  refine wpIn_wide.1 (range_law (gf := 27) (lb := #[.pointer (some ⟨w.heap.size + 1 + 1, 0, none⟩)]) (encs := partEnc) (xs := Pth.parts l) (c := w.heap.size + 1 + 1) (n0 := w.heap.size) (w0 := W0) rfl (enters_of Try.func27 (by kernel_rfl) rfl) hit (Below.refl _ _) (by omega) (by omega) (fun _ => rfl)
    (ParseI w.heap.size w) (fun k _ => ParseX w.heap.size w (Pth.chk 0 (Pth.parts l)) k) (fun pre => by rw [hsz]; exact parseI_keeps _ w (Nat.le_refl _) pre) (fun k pre => by rw [hsz]; exact parseX_keeps _ w (Nat.le_refl _) _ k)
    ⟨⟨_, b4, Own.nil _ _⟩, b5, hb0, by omega, by simp⟩
    (fun x => { tmps := #[.string (strL l), undef, .slice none 0 0, .int .i64 0, .pointer (some ⟨w.heap.size, 0, none⟩), .pointer (some ⟨w.heap.size + 1, 0, none⟩), .string (strL x), .string (strL l), .bool false, .bool false, .string (strL l), .int .i64 l.length, .bool false, .bool false, .bool false, .string (strL l), .int .u8 l[0].toNat, .bool false, .bool false, .string (strL l), .func (.func 27) #[] #[.pointer (some ⟨w.heap.size + 1 + 1, 0, none⟩)], .string (strL x), undef, undef, undef, undef, undef, undef, undef, undef, undef, undef, undef, undef, undef, undef, undef, undef, undef, undef, undef], defers := [] }) ?assign ?body ?done ?stop)
  case assign =>
    intro lp x W K hK
    unfold partEnc
    gi_wp2
    exact hK
  case body =>
    rintro lp pre x W ⟨⟨v, bv, ho⟩, be, hbel, hsW, hn, hle⟩ hpre
    have hxm : x ∈ Pth.parts l := hpre.subset (by simp)
    have hxl := Pth.parts_mem hxm
    obtain ⟨a1, c1, rfl, _⟩ := ho.formN (n := pre.length) rfl
    have HO := Lib.hid ho
    have HBel := Lib.hid hbel
    have HN := Lib.hid hn
    have BV := Lib.hid bv
    have BE := Lib.hid be
    have hs1 := bv.lt
    have hs2 := be.lt
    have c4 : W.cell? ⟨w.heap.size, 0, none⟩ = some (.slice a1 pre.length c1) := bv.cellv (i := 0) rfl
    have f4 := bv.frozen 0
    have c5 : W.cell? ⟨w.heap.size + 1, 0, none⟩ = some (.int .i64 0) := be.cellv (i := 0) rfl
    have f5 := be.frozen 0
    have hnc := Lib.hid (callsIn_wide (n := 6) |>.2 (name_calls x W (by omega)))
    cases hx : Pth.nameB x
    · have hE := Lib.hid (Pth.chk_bad hpre hn hle hx)
      rw [show Pth.nameE x = 31 by unfold Pth.nameE; rw [hx]; rfl] at hnc
      clear hpre hn hx ho hbel bv be hxm
      gi_wp2_with (refine ⟨trivial, ?_⟩; gi_at_call 22; refine (CallsIn.inRound lp hnc.out).mono ?_; rintro e w' ⟨rfl, rfl⟩)
      refine ⟨others_setCell _ _ _ _, ⟨_, BV.out.far (by simp) _⟩, ?_, HBel.out.setCell (p := ⟨w.heap.size + 1, 0, none⟩) (by simp) _, rfl, by rw [hE.out]; decide⟩
      rw [hE.out]
      exact BE.out.set 0 (.int .i64 31)
    · rw [show Pth.nameE x = 0 by unfold Pth.nameE; rw [hx]; rfl] at hnc
      by_cases h16 : pre.length = 16
      · have hE := Lib.hid (Pth.chk_many hpre hn h16 hx)
        rw [h16] at c4
        clear hpre hn hx ho hbel bv be hxm h16
        gi_wp2_with (refine ⟨trivial, ?_⟩; gi_at_call 22; refine (CallsIn.inRound lp hnc.out).mono ?_; rintro e w' ⟨rfl, rfl⟩)
        refine ⟨(others_setCell _ _ _ _).trans (others_setCell _ _ _ _), ⟨_, (BV.out.far (by simp) _).far (by simp) _⟩, ?_, (HBel.out.setCell (p := ⟨w.heap.size + 1, 0, none⟩) (by simp) _).setCell (p := ⟨w.heap.size + 1, 0, none⟩) (by simp) _, rfl, by rw [hE.out]; decide⟩
        rw [hE.out]
        exact (BE.out.set 0 (.int .i64 0)).set 0 (.int .i64 30)
      · have hn2 : ∀ y ∈ pre ++ [x], Pth.nameB y = true := by
          intro y hy
          rw [List.mem_append] at hy
          rcases hy with h | h
          · exact hn y h
          · rw [List.mem_singleton.1 h]; exact hx
        have HN2 := Lib.hid hn2
        have g16 : ((pre.length : Int) == 16) = false := by rw [beq_eq_false_iff_ne]; omega
        clear hpre hn hn2 hx ho hbel bv be hxm
        gi_wp2_with (first
          | (refine ⟨trivial, ?_⟩; gi_at_call 22; refine (CallsIn.inRound lp hnc.out).mono ?_; rintro e w' ⟨rfl, rfl⟩; have HO2 := Lib.hid ((HO.out.far (p := ⟨w.heap.size + 1, 0, none⟩) (HO.out.notRow (.inl (by simp))) (.int .i64 0))))
          | (gi_at_builtin; refine wpListIn_litS rfl _ _ rfl (w.heap.size + 1 + 1 + 1) _ pre rfl HO2.out 1 _ [x] rfl (by simp) rfl rfl (by omega) (by simp; omega) ?_; intro v2 w2 HO3 HB3 HG3; obtain ⟨a3, c3, rfl, _⟩ := HO3.out.formN (n := pre.length + 1) (by simp); have BV2 := Lib.hid ((BV.out.far (p := ⟨w.heap.size + 1, 0, none⟩) (by simp) (.int .i64 0)).below HB3.out (by omega)); have c42 := BV2.out.cellv (i := 0) rfl; have f42 := BV2.out.frozen 0))
        have BE2 := Lib.hid ((BE.out.set 0 (.int .i64 0)).below HB3.out (by omega))
        have HBel2 := Lib.hid ((HBel.out.setCell (p := ⟨w.heap.size + 1, 0, none⟩) (by simp) (.int .i64 0)).trans (HB3.out.mono (by omega)))
        refine ⟨(((others_setCell _ _ _ _).trans (KeepsOthers.alloc _ _)).trans (KeepsOthers.of_grownBy HG3.out (HO2.out.alloc _).cellsRow)).trans (others_setCell _ _ _ _), ?_, ?_, ⟨.slice a3 (pre.length + 1) c3, BV2.out.set 0 _, HO3.out.far (p := ⟨w.heap.size, 0, none⟩) (HO3.out.notRow (.inl (show w.heap.size < w.heap.size + 1 + 1 + 1 by omega))) _⟩, BE2.out.far (by simp) _, HBel2.out.setCell (p := ⟨w.heap.size, 0, none⟩) (Nat.le_refl _) _, ?_, HN2.out, by simp; omega⟩
        · exact (((Below.refl w.heap.size W).setCell (p := ⟨w.heap.size + 1, 0, none⟩) (by simp) _).trans (HB3.out.mono (by omega))).setCell (p := ⟨w.heap.size, 0, none⟩) (Nat.le_refl _) _
        · rw [heap_setCell_other _ _ _ _ (by simp; omega), HB3.out.block _ (by omega), heap_setCell_other _ _ _ _ (by simp)]
        · have := HB3.out.size
          simp at this ⊢
          omega
  case done =>
    rintro D W hD ⟨⟨v, bv, ho⟩, be, hbel, _, hn, hle⟩ hK
    have hv := Pth.chk_whole _ hn hle
    have HV := Lib.hid (show Pth.parse l = (Pth.parts l, 0) by unfold Pth.parse; rw [if_neg (by simp [h0, h2]; omega), if_pos hv])
    have HO := Lib.hid ho
    have HBel := Lib.hid hbel
    have c4 := bv.cellv (i := 0) rfl
    have c5 := be.cellv (i := 0) rfl
    clear hn hle hv ho hbel
    go_wp2
    rw [Exit.noGoto_ret]
    refine ⟨by simp, .inl ⟨_, _, rfl, run_takeDeferred hK, ?_⟩⟩
    refine ⟨_, by simp [results, Try.results10, go_sem]; rfl, ⟨v, by rw [HV.out], ?_⟩, HBel.out.trans (below_turn _ (by omega))⟩
    rw [HV.out]
    exact ((Own.keeps2 (c := w.heap.size) (B := 0) (by omega)) W _ D HO.out (grownBy_putObj' _ _ _) (.inr ⟨by omega, _, hK, rfl⟩)).mono (by omega)
  case stop =>
    rintro D k pre W hD _ ⟨⟨v, bv⟩, be, hbel, rfl, hne⟩ hK
    have HV := Lib.hid (show Pth.parse l = ([], Pth.chk 0 (Pth.parts l)) by unfold Pth.parse; rw [if_neg (by simp [h0, h2]; omega), if_neg hne])
    have HBel := Lib.hid hbel
    have c4 := bv.cellv (i := 0) rfl
    have c5 := be.cellv (i := 0) rfl
    generalize Pth.chk 0 (Pth.parts l) = E at *
    have g9 : (E == 0) = false := by simpa using hne
    clear hbel hne
    refine wpIn_wide.2 ?_
    go_wp2_with fail
    go_quiet (fail)
    go_wp2
    rw [Exit.noGoto_ret]
    refine ⟨by simp, .inl ⟨_, _, rfl, run_takeDeferred hK, ?_⟩⟩
    refine ⟨_, by simp [results, Try.results10, go_sem]; rfl, ⟨.slice none 0 0, by rw [HV.out], ?_⟩, (HBel.out.trans (below_drewN _ _)).trans (below_turn _ (by omega))⟩
    rw [HV.out]
    exact Own.nil _ _
theorem parse_bad (l : List UInt8) (w : World) (hl : l.length ≤ 140737488351232) (h : l = [] ∨ 255 < l.length ∨ l.head? ≠ some 47) :
    Calls Try.prog 10 #[.string (strL l)] w fun e w' => e = .returned (.tuple #[.slice none 0 0, .int .i64 30]) ∧ w = w' := by
  by_cases h0 : l = []
  · subst h0
    go_enter Try.func10, Try.ntmps10
    go_wp2
    go_step3
    go_wp2
    rw [Exit.noGoto_ret]
    go_ret2
    exact ⟨rfl, rfl⟩
  have g0 : l.isEmpty = false := by simpa using h0
  have g1 : (l == []) = false := by simpa using h0
  have g3 : (0 : Nat) < l.length := List.length_pos_iff.2 h0
  by_cases h1 : 255 < l.length
  · have g2 : decide (255 < (l.length : Int)) = true := decide_eq_true (by omega)
    clear h h0
    go_enter Try.func10, Try.ntmps10
    go_wp2
    go_step3
    go_wp2
    rw [Exit.noGoto_ret]
    go_ret2
    exact ⟨rfl, rfl⟩
  have g2 : decide (255 < (l.length : Int)) = false := decide_eq_false (by omega)
  have g4 : ((l[0].toNat : Int) != 47) = true := by
    have h2 : l.head? ≠ some 47 := by rcases h with h | h | h; exact absurd h h0; omega; exact h
    cases l with
    | nil => exact absurd rfl h0
    | cons c r =>
      rw [bne_iff_ne]
      intro e
      apply h2
      rw [List.head?_cons]
      congr 1
      apply UInt8.toNat_inj.1
      show c.toNat = 47
      rw [List.getElem_cons_zero] at e
      omega
  clear h h0 h1
  go_enter Try.func10, Try.ntmps10
  go_wp2
  go_step3
  go_wp2
  rw [Exit.noGoto_ret]
  go_ret2
  exact ⟨rfl, rfl⟩
def ParseR (l : List UInt8) (w : World) (e : Ending) (w' : World) : Prop :=
  (∃ v, e = .returned (.tuple #[v, .int .i64 (Pth.parse l).2]) ∧ Own strV 9 w' w.heap.size v (Pth.parse l).1) ∧ Below w.heap.size w w'
theorem parse_calls (l : List UInt8) (w : World) (hl : l.length ≤ 140737488351232) :
    Calls Try.prog 10 #[.string (strL l)] w (ParseR l w) := by
  by_cases h : l = [] ∨ 255 < l.length ∨ l.head? ≠ some 47
  · refine (parse_bad l w hl h).mono ?_
    rintro e w' ⟨rfl, rfl⟩
    have hv : Pth.parse l = ([], 30) := by unfold Pth.parse; rw [if_pos h]
    unfold ParseR
    rw [hv]
    exact ⟨⟨_, rfl, Own.nil _ _⟩, Below.refl _ _⟩
  · refine parse_good l w (fun h1 => h (.inl h1)) ?_ ?_
    · rcases Nat.lt_or_ge 255 l.length with h1 | h1
      · exact absurd (.inr (.inl h1)) h
      · exact h1
    · by_cases h1 : l.head? = some 47
      · exact h1
      · exact absurd (.inr (.inr h1)) h
end Go.Proofs.Ytnfkbndakdkieaa
