/-
  The walks of the laws TagNewer and TagBack.
-/
import Derived.Test.YtnahmhjkbdplpaaTagTop
namespace Go.Proofs.Ytnahmhjkbdplpaa
open Go.RowKit

theorem newer_calls (a b : Tg) (w : World) :
    Calls Try.prog 20 #[tagV a, tagV b] w fun e w' => e = .returned (.bool (decide (b.s < a.s))) ∧ Below w.heap.size w w' := by
  have hbl := Lib.hid (((Below.refl w.heap.size w).alloc (Nat.le_refl _) (tagO a)).alloc (by simp) (tagO b))
  have hz : w.heap.size ≠ w.heap.size + 1 := by omega
  go_enter Try.func20, Try.ntmps20
  go_wp2
  go_ret
  exact ⟨congrArg (fun z => Ending.returned (Value.bool z)) (by simp), hbl.out⟩
theorem newer_yes {a b : Tg} (h : b.s < a.s) (w : World) :
    Calls Try.prog 20 #[tagV a, tagV b] w fun e w' => e = .returned (.bool true) ∧ Below w.heap.size w w' := by
  have := newer_calls a b w
  rwa [decide_eq_true h] at this
theorem newer_no {a b : Tg} (h : ¬ b.s < a.s) (w : World) :
    Calls Try.prog 20 #[tagV a, tagV b] w fun e w' => e = .returned (.bool false) ∧ Below w.heap.size w w' := by
  have := newer_calls a b w
  rwa [decide_eq_false h] at this
set_option maxHeartbeats 8000000 in
theorem tagNewer_walk (a b c : Tg) (w : World) (_ : Tg.Ok a) (_ : Tg.Ok b) (_ : Tg.Ok c) :
    Calls Try.prog 8 #[tagV a, tagV b, tagV c] w fun e w' => e = .returned (.bool true) ∧ Below w.heap.size w w' := by
  have hbl := ((((Below.refl w.heap.size w).alloc (Nat.le_refl _) (tagO a)).alloc (by simp) (tagO b)).alloc (by simp; omega) (tagO c))
  have HBL := Lib.hid hbl
  have BA := Lib.hid (((Blk.new w 25 #[.int .i64 a.k, .int .u32 a.p, .int .u64 a.s, .int .u64 a.e]).alloc (tagO b)).alloc (tagO c))
  have hBB := ((Blk.new (w.alloc (tagO a)) 25 #[.int .i64 b.k, .int .u32 b.p, .int .u64 b.s, .int .u64 b.e]).alloc (tagO c))
  rw [show (w.alloc (tagO a)).heap.size = w.heap.size + 1 by simp] at hBB
  have BB := Lib.hid hBB
  have hBC := (Blk.new ((w.alloc (tagO a)).alloc (tagO b)) 25 #[.int .i64 c.k, .int .u32 c.p, .int .u64 c.s, .int .u64 c.e])
  rw [show ((w.alloc (tagO a)).alloc (tagO b)).heap.size = w.heap.size + 2 by simp] at hBC
  have BC := Lib.hid hBC
  clear hbl hBB hBC
  go_enter Try.func8, Try.ntmps8
  go_wp2_with fail
  generalize ((w.alloc (tagO a)).alloc (tagO b)).alloc (tagO c) = w0 at *
  by_cases h1 : b.s < a.s
  case neg =>
    have H1 := Lib.hid h1
    clear h1
    refine wp_region_noPanic ?_
    refine wp_region_held_drew (S := (fun W' => Below w0.heap.size w0 W')) (by kernel_rfl) (Below.refl _ _).drew (fun hS0 => ?_)
    refine takeV 0 (v := (tagV a)) rfl (by kernel_rfl) (by kernel_rfl) (by kernel_rfl) (fun _ _ _ h => h) (by rfl) (fun W hSw => ?_) (by assumption) ?_
    · have q := BA.out.belowHere hSw; have e0 := q.cellv (i := 0) rfl; have e1 := q.cellv (i := 1) rfl; have e2 := q.cellv (i := 2) rfl; have e3 := q.cellv (i := 3) rfl
      go_simp
    try simp only [layR]
    refine takeV 1 (v := (tagV b)) rfl (by kernel_rfl) (by kernel_rfl) (by kernel_rfl) (fun _ _ _ h => h) (by rfl) (fun W hSw => ?_) (by assumption) ?_
    · have q := BB.out.belowHere hSw; have e0 := q.cellv (i := 0) rfl; have e1 := q.cellv (i := 1) rfl; have e2 := q.cellv (i := 2) rfl; have e3 := q.cellv (i := 3) rfl
      go_simp
    try simp only [layR]
    refine takeV 3 (v := .pointer (some ⟨w.heap.size, 2, none⟩)) rfl (by kernel_rfl) (by kernel_rfl) (by kernel_rfl) (fun _ _ _ h => h) (by rfl) (fun _ _ => rfl) (by assumption) ?_
    try simp only [layR]
    refine takeV 4 (v := .int .u64 a.s) rfl (by kernel_rfl) (by kernel_rfl) (by kernel_rfl) (fun _ _ _ h => h) (by rfl) (fun W hSw => ?_) (by assumption) ?_
    · have q := BA.out.belowHere hSw; have e2 := q.cellv (i := 2) rfl
      go_simp
    try simp only [layR]
    refine takeV 5 (v := .pointer (some ⟨w.heap.size + 1, 2, none⟩)) rfl (by kernel_rfl) (by kernel_rfl) (by kernel_rfl) (fun _ _ _ h => h) (by rfl) (fun _ _ => rfl) (by assumption) ?_
    try simp only [layR]
    refine takeV 6 (v := .int .u64 b.s) rfl (by kernel_rfl) (by kernel_rfl) (by kernel_rfl) (fun _ _ _ h => h) (by rfl) (fun W hSw => ?_) (by assumption) ?_
    · have q := BB.out.belowHere hSw; have e2 := q.cellv (i := 2) rfl
      go_simp
    try simp only [layR]
    refine takeV 7 (v := .bool false) rfl (by kernel_rfl) (by kernel_rfl) (by kernel_rfl) (fun _ _ _ h => h) (by rfl) (fun W hSw => ?_) (by assumption) ?_
    · have k1 := Nat.le_of_not_lt H1.out
      go_simp
    try simp only [layR]
    refine wpAnyH_ready (rs := [2]) (by kernel_rfl) (by simp) ?_
    refine AllReadyH.cons rfl (fun K' hK => ?_) AllReadyH.nil
    go_simp
    refine (newer_no H1.out _).mono ?_
    rintro _ wn ⟨rfl, hb⟩
    have hS1 := Below.then_ hS0 hb
    clear hb hS0
    refine hK.out _ _ hS1 (fun hS0 => ?_)
    try simp only [layR]
    clear hS1
    refine takeV 8 (v := .bool false) rfl (by kernel_rfl) (by kernel_rfl) (by kernel_rfl) (fun _ _ _ h => h) (by rfl) (fun W hSw => ?_) (by assumption) ?_
    · go_simp
    try simp only [layR]
    refine takeV 9 (v := .bool false) rfl (by kernel_rfl) (by kernel_rfl) (by kernel_rfl) (fun _ _ _ h => h) (by rfl) (fun _ _ => rfl) (by assumption) ?_
    try simp only [layR]
    refine takeV 10 (v := (tagV a)) rfl (by kernel_rfl) (by kernel_rfl) (by kernel_rfl) (fun _ _ _ h => h) (by rfl) (fun W hSw => ?_) (by assumption) ?_
    · have q := BA.out.belowHere hSw; have e0 := q.cellv (i := 0) rfl; have e1 := q.cellv (i := 1) rfl; have e2 := q.cellv (i := 2) rfl; have e3 := q.cellv (i := 3) rfl
      go_simp
    try simp only [layR]
    refine takeV 11 (v := (tagV b)) rfl (by kernel_rfl) (by kernel_rfl) (by kernel_rfl) (fun _ _ _ h => h) (by rfl) (fun W hSw => ?_) (by assumption) ?_
    · have q := BB.out.belowHere hSw; have e0 := q.cellv (i := 0) rfl; have e1 := q.cellv (i := 1) rfl; have e2 := q.cellv (i := 2) rfl; have e3 := q.cellv (i := 3) rfl
      go_simp
    try simp only [layR]
    refine wpAnyH_ready (rs := [12]) (by kernel_rfl) (by simp) ?_
    refine AllReadyH.cons rfl (fun K' hK => ?_) AllReadyH.nil
    go_simp
    refine (newer_no H1.out _).mono ?_
    rintro _ wn ⟨rfl, hb⟩
    have hS1 := Below.then_ hS0 hb
    clear hb hS0
    refine hK.out _ _ hS1 (fun hS0 => ?_)
    try simp only [layR]
    clear hS1
    refine takeV 13 (v := .bool false) rfl (by kernel_rfl) (by kernel_rfl) (by kernel_rfl) (fun _ _ _ h => h) (by rfl) (fun _ _ => rfl) (by assumption) ?_
    try simp only [layR]
    refine takeNo 14 rfl (by kernel_rfl) (by kernel_rfl) (by kernel_rfl) (fun _ _ _ h => h) (by rfl) (by assumption) ?_
    try simp only [layR]
    refine takeNo 15 rfl (by kernel_rfl) (by kernel_rfl) (by kernel_rfl) (fun _ _ _ h => h) (by rfl) (by assumption) ?_
    try simp only [layR]
    refine takeNo 16 rfl (by kernel_rfl) (by kernel_rfl) (by kernel_rfl) (fun _ _ _ h => h) (by rfl) (by assumption) ?_
    try simp only [layR]
    refine takeV 17 (v := .bool false) rfl (by kernel_rfl) (by kernel_rfl) (by kernel_rfl) (fun _ _ _ h => h) (by rfl) (fun _ _ => rfl) (by assumption) ?_
    try simp only [layR]
    refine takeV 18 (v := .bool false) rfl (by kernel_rfl) (by kernel_rfl) (by kernel_rfl) (fun _ _ _ h => h) (by rfl) (fun _ _ => rfl) (by assumption) ?_
    try simp only [layR]
    refine takeNo 19 rfl (by kernel_rfl) (by kernel_rfl) (by kernel_rfl) (fun _ _ _ h => h) (by rfl) (by assumption) ?_
    try simp only [layR]
    refine takeNo 20 rfl (by kernel_rfl) (by kernel_rfl) (by kernel_rfl) (fun _ _ _ h => h) (by rfl) (by assumption) ?_
    try simp only [layR]
    refine takeNo 21 rfl (by kernel_rfl) (by kernel_rfl) (by kernel_rfl) (fun _ _ _ h => h) (by rfl) (by assumption) ?_
    try simp only [layR]
    refine takeNo 22 rfl (by kernel_rfl) (by kernel_rfl) (by kernel_rfl) (fun _ _ _ h => h) (by rfl) (by assumption) ?_
    try simp only [layR]
    refine takeV 23 (v := .bool false) rfl (by kernel_rfl) (by kernel_rfl) (by kernel_rfl) (fun _ _ _ h => h) (by rfl) (fun _ _ => rfl) (by assumption) ?_
    try simp only [layR]
    refine takeV 24 (v := .bool false) rfl (by kernel_rfl) (by kernel_rfl) (by kernel_rfl) (fun _ _ _ h => h) (by rfl) (fun _ _ => rfl) (by assumption) ?_
    try simp only [layR]
    refine wpAnyH_done (by kernel_rfl) ?_ _
    refine NoPanic.normal ?_
    rename_i wf
    have hSf := hS0
    clear hS0
    have a0 := (BA.out.belowHere hSf).cellv (i := 0) rfl
    have a1 := (BA.out.belowHere hSf).cellv (i := 1) rfl
    have a2 := (BA.out.belowHere hSf).cellv (i := 2) rfl
    have a3 := (BA.out.belowHere hSf).cellv (i := 3) rfl
    have b0 := (BB.out.belowHere hSf).cellv (i := 0) rfl
    have b1 := (BB.out.belowHere hSf).cellv (i := 1) rfl
    have b2 := (BB.out.belowHere hSf).cellv (i := 2) rfl
    have b3 := (BB.out.belowHere hSf).cellv (i := 3) rfl
    go_wp2_with fail
    refine ((newer_no H1.out) _).mono ?_
    rintro _ wg ⟨rfl, hb⟩
    have hSg := Below.then_ hSf hb
    clear hb a0 a1 a2 a3 b0 b1 b2 b3 hSf
    have hSh := hSg
    have HSh := Lib.hid hSh
    clear hSh
    go_wp2_with fail
    refine (tknown_calls _).mono ?_
    rintro _ wk ⟨rfl, hbk⟩
    have HBk := Lib.hid hbk
    clear hbk
    go_wp2
    go_ret
    exact ⟨rfl, Below.then_ (HBL.out.trans (HSh.out.mono HBL.out.size)) HBk.out⟩
  have H1 := Lib.hid h1
  clear h1
  by_cases h2 : c.s < b.s
  case neg =>
    have H2 := Lib.hid h2
    clear h2
    refine wp_region_noPanic ?_
    refine wp_region_held_drew (S := (fun W' => Below w0.heap.size w0 W')) (by kernel_rfl) (Below.refl _ _).drew (fun hS0 => ?_)
    refine takeV 0 (v := (tagV a)) rfl (by kernel_rfl) (by kernel_rfl) (by kernel_rfl) (fun _ _ _ h => h) (by rfl) (fun W hSw => ?_) (by assumption) ?_
    · have q := BA.out.belowHere hSw; have e0 := q.cellv (i := 0) rfl; have e1 := q.cellv (i := 1) rfl; have e2 := q.cellv (i := 2) rfl; have e3 := q.cellv (i := 3) rfl
      go_simp
    try simp only [layR]
    refine takeV 1 (v := (tagV b)) rfl (by kernel_rfl) (by kernel_rfl) (by kernel_rfl) (fun _ _ _ h => h) (by rfl) (fun W hSw => ?_) (by assumption) ?_
    · have q := BB.out.belowHere hSw; have e0 := q.cellv (i := 0) rfl; have e1 := q.cellv (i := 1) rfl; have e2 := q.cellv (i := 2) rfl; have e3 := q.cellv (i := 3) rfl
      go_simp
    try simp only [layR]
    refine takeV 3 (v := .pointer (some ⟨w.heap.size, 2, none⟩)) rfl (by kernel_rfl) (by kernel_rfl) (by kernel_rfl) (fun _ _ _ h => h) (by rfl) (fun _ _ => rfl) (by assumption) ?_
    try simp only [layR]
    refine takeV 4 (v := .int .u64 a.s) rfl (by kernel_rfl) (by kernel_rfl) (by kernel_rfl) (fun _ _ _ h => h) (by rfl) (fun W hSw => ?_) (by assumption) ?_
    · have q := BA.out.belowHere hSw; have e2 := q.cellv (i := 2) rfl
      go_simp
    try simp only [layR]
    refine takeV 5 (v := .pointer (some ⟨w.heap.size + 1, 2, none⟩)) rfl (by kernel_rfl) (by kernel_rfl) (by kernel_rfl) (fun _ _ _ h => h) (by rfl) (fun _ _ => rfl) (by assumption) ?_
    try simp only [layR]
    refine takeV 6 (v := .int .u64 b.s) rfl (by kernel_rfl) (by kernel_rfl) (by kernel_rfl) (fun _ _ _ h => h) (by rfl) (fun W hSw => ?_) (by assumption) ?_
    · have q := BB.out.belowHere hSw; have e2 := q.cellv (i := 2) rfl
      go_simp
    try simp only [layR]
    refine takeV 7 (v := .bool true) rfl (by kernel_rfl) (by kernel_rfl) (by kernel_rfl) (fun _ _ _ h => h) (by rfl) (fun W hSw => ?_) (by assumption) ?_
    · have k1 := H1.out
      go_simp
    try simp only [layR]
    refine wpAnyH_ready (rs := [2]) (by kernel_rfl) (by simp) ?_
    refine AllReadyH.cons rfl (fun K' hK => ?_) AllReadyH.nil
    go_simp
    refine (newer_yes H1.out _).mono ?_
    rintro _ wn ⟨rfl, hb⟩
    have hS1 := Below.then_ hS0 hb
    clear hb hS0
    refine hK.out _ _ hS1 (fun hS0 => ?_)
    try simp only [layR]
    clear hS1
    refine takeV 8 (v := .bool false) rfl (by kernel_rfl) (by kernel_rfl) (by kernel_rfl) (fun _ _ _ h => h) (by rfl) (fun W hSw => ?_) (by assumption) ?_
    · go_simp
    try simp only [layR]
    refine takeV 9 (v := .bool false) rfl (by kernel_rfl) (by kernel_rfl) (by kernel_rfl) (fun _ _ _ h => h) (by rfl) (fun _ _ => rfl) (by assumption) ?_
    try simp only [layR]
    refine takeV 10 (v := (tagV a)) rfl (by kernel_rfl) (by kernel_rfl) (by kernel_rfl) (fun _ _ _ h => h) (by rfl) (fun W hSw => ?_) (by assumption) ?_
    · have q := BA.out.belowHere hSw; have e0 := q.cellv (i := 0) rfl; have e1 := q.cellv (i := 1) rfl; have e2 := q.cellv (i := 2) rfl; have e3 := q.cellv (i := 3) rfl
      go_simp
    try simp only [layR]
    refine takeV 11 (v := (tagV b)) rfl (by kernel_rfl) (by kernel_rfl) (by kernel_rfl) (fun _ _ _ h => h) (by rfl) (fun W hSw => ?_) (by assumption) ?_
    · have q := BB.out.belowHere hSw; have e0 := q.cellv (i := 0) rfl; have e1 := q.cellv (i := 1) rfl; have e2 := q.cellv (i := 2) rfl; have e3 := q.cellv (i := 3) rfl
      go_simp
    try simp only [layR]
    refine wpAnyH_ready (rs := [12]) (by kernel_rfl) (by simp) ?_
    refine AllReadyH.cons rfl (fun K' hK => ?_) AllReadyH.nil
    go_simp
    refine (newer_yes H1.out _).mono ?_
    rintro _ wn ⟨rfl, hb⟩
    have hS1 := Below.then_ hS0 hb
    clear hb hS0
    refine hK.out _ _ hS1 (fun hS0 => ?_)
    try simp only [layR]
    clear hS1
    refine takeV 13 (v := .bool true) rfl (by kernel_rfl) (by kernel_rfl) (by kernel_rfl) (fun _ _ _ h => h) (by rfl) (fun _ _ => rfl) (by assumption) ?_
    try simp only [layR]
    refine takeV 14 (v := (tagV b)) rfl (by kernel_rfl) (by kernel_rfl) (by kernel_rfl) (fun _ _ _ h => h) (by rfl) (fun W hSw => ?_) (by assumption) ?_
    · have q := BB.out.belowHere hSw; have e0 := q.cellv (i := 0) rfl; have e1 := q.cellv (i := 1) rfl; have e2 := q.cellv (i := 2) rfl; have e3 := q.cellv (i := 3) rfl
      go_simp
    try simp only [layR]
    refine takeV 15 (v := (tagV c)) rfl (by kernel_rfl) (by kernel_rfl) (by kernel_rfl) (fun _ _ _ h => h) (by rfl) (fun W hSw => ?_) (by assumption) ?_
    · have q := BC.out.belowHere hSw; have e0 := q.cellv (i := 0) rfl; have e1 := q.cellv (i := 1) rfl; have e2 := q.cellv (i := 2) rfl; have e3 := q.cellv (i := 3) rfl
      go_simp
    try simp only [layR]
    refine wpAnyH_ready (rs := [16]) (by kernel_rfl) (by simp) ?_
    refine AllReadyH.cons rfl (fun K' hK => ?_) AllReadyH.nil
    go_simp
    refine (newer_no H2.out _).mono ?_
    rintro _ wn ⟨rfl, hb⟩
    have hS1 := Below.then_ hS0 hb
    clear hb hS0
    refine hK.out _ _ hS1 (fun hS0 => ?_)
    try simp only [layR]
    clear hS1
    refine takeV 17 (v := .bool false) rfl (by kernel_rfl) (by kernel_rfl) (by kernel_rfl) (fun _ _ _ h => h) (by rfl) (fun _ _ => rfl) (by assumption) ?_
    try simp only [layR]
    refine takeV 18 (v := .bool false) rfl (by kernel_rfl) (by kernel_rfl) (by kernel_rfl) (fun _ _ _ h => h) (by rfl) (fun _ _ => rfl) (by assumption) ?_
    try simp only [layR]
    refine takeNo 19 rfl (by kernel_rfl) (by kernel_rfl) (by kernel_rfl) (fun _ _ _ h => h) (by rfl) (by assumption) ?_
    try simp only [layR]
    refine takeNo 20 rfl (by kernel_rfl) (by kernel_rfl) (by kernel_rfl) (fun _ _ _ h => h) (by rfl) (by assumption) ?_
    try simp only [layR]
    refine takeNo 21 rfl (by kernel_rfl) (by kernel_rfl) (by kernel_rfl) (fun _ _ _ h => h) (by rfl) (by assumption) ?_
    try simp only [layR]
    refine takeNo 22 rfl (by kernel_rfl) (by kernel_rfl) (by kernel_rfl) (fun _ _ _ h => h) (by rfl) (by assumption) ?_
    try simp only [layR]
    refine takeV 23 (v := .bool false) rfl (by kernel_rfl) (by kernel_rfl) (by kernel_rfl) (fun _ _ _ h => h) (by rfl) (fun _ _ => rfl) (by assumption) ?_
    try simp only [layR]
    refine takeV 24 (v := .bool false) rfl (by kernel_rfl) (by kernel_rfl) (by kernel_rfl) (fun _ _ _ h => h) (by rfl) (fun _ _ => rfl) (by assumption) ?_
    try simp only [layR]
    refine wpAnyH_done (by kernel_rfl) ?_ _
    refine NoPanic.normal ?_
    rename_i wf
    have hSf := hS0
    clear hS0
    have a0 := (BA.out.belowHere hSf).cellv (i := 0) rfl
    have a1 := (BA.out.belowHere hSf).cellv (i := 1) rfl
    have a2 := (BA.out.belowHere hSf).cellv (i := 2) rfl
    have a3 := (BA.out.belowHere hSf).cellv (i := 3) rfl
    have b0 := (BB.out.belowHere hSf).cellv (i := 0) rfl
    have b1 := (BB.out.belowHere hSf).cellv (i := 1) rfl
    have b2 := (BB.out.belowHere hSf).cellv (i := 2) rfl
    have b3 := (BB.out.belowHere hSf).cellv (i := 3) rfl
    go_wp2_with fail
    refine ((newer_yes H1.out) _).mono ?_
    rintro _ wg ⟨rfl, hb⟩
    have hSg := Below.then_ hSf hb
    clear hb a0 a1 a2 a3 b0 b1 b2 b3 hSf
    have a0 := (BA.out.belowHere hSg).cellv (i := 0) rfl
    have a1 := (BA.out.belowHere hSg).cellv (i := 1) rfl
    have a2 := (BA.out.belowHere hSg).cellv (i := 2) rfl
    have a3 := (BA.out.belowHere hSg).cellv (i := 3) rfl
    have b0 := (BB.out.belowHere hSg).cellv (i := 0) rfl
    have b1 := (BB.out.belowHere hSg).cellv (i := 1) rfl
    have b2 := (BB.out.belowHere hSg).cellv (i := 2) rfl
    have b3 := (BB.out.belowHere hSg).cellv (i := 3) rfl
    go_wp2_with fail
    refine ((newer_no (a := b) (b := a) (by have := H1.out; omega)) _).mono ?_
    rintro _ wh ⟨rfl, hb⟩
    have hSh := Below.then_ hSg hb
    clear hb a0 a1 a2 a3 b0 b1 b2 b3 hSg
    have HSh := Lib.hid hSh
    clear hSh
    go_wp2_with fail
    refine (tknown_calls _).mono ?_
    rintro _ wk ⟨rfl, hbk⟩
    have HBk := Lib.hid hbk
    clear hbk
    go_wp2
    go_ret
    exact ⟨rfl, Below.then_ (HBL.out.trans (HSh.out.mono HBL.out.size)) HBk.out⟩
  have H2 := Lib.hid h2
  clear h2
  refine wp_region_noPanic ?_
  refine wp_region_held_drew (S := (fun W' => Below w0.heap.size w0 W')) (by kernel_rfl) (Below.refl _ _).drew (fun hS0 => ?_)
  refine takeV 0 (v := (tagV a)) rfl (by kernel_rfl) (by kernel_rfl) (by kernel_rfl) (fun _ _ _ h => h) (by rfl) (fun W hSw => ?_) (by assumption) ?_
  · have q := BA.out.belowHere hSw; have e0 := q.cellv (i := 0) rfl; have e1 := q.cellv (i := 1) rfl; have e2 := q.cellv (i := 2) rfl; have e3 := q.cellv (i := 3) rfl
    go_simp
  try simp only [layR]
  refine takeV 1 (v := (tagV b)) rfl (by kernel_rfl) (by kernel_rfl) (by kernel_rfl) (fun _ _ _ h => h) (by rfl) (fun W hSw => ?_) (by assumption) ?_
  · have q := BB.out.belowHere hSw; have e0 := q.cellv (i := 0) rfl; have e1 := q.cellv (i := 1) rfl; have e2 := q.cellv (i := 2) rfl; have e3 := q.cellv (i := 3) rfl
    go_simp
  try simp only [layR]
  refine takeV 3 (v := .pointer (some ⟨w.heap.size, 2, none⟩)) rfl (by kernel_rfl) (by kernel_rfl) (by kernel_rfl) (fun _ _ _ h => h) (by rfl) (fun _ _ => rfl) (by assumption) ?_
  try simp only [layR]
  refine takeV 4 (v := .int .u64 a.s) rfl (by kernel_rfl) (by kernel_rfl) (by kernel_rfl) (fun _ _ _ h => h) (by rfl) (fun W hSw => ?_) (by assumption) ?_
  · have q := BA.out.belowHere hSw; have e2 := q.cellv (i := 2) rfl
    go_simp
  try simp only [layR]
  refine takeV 5 (v := .pointer (some ⟨w.heap.size + 1, 2, none⟩)) rfl (by kernel_rfl) (by kernel_rfl) (by kernel_rfl) (fun _ _ _ h => h) (by rfl) (fun _ _ => rfl) (by assumption) ?_
  try simp only [layR]
  refine takeV 6 (v := .int .u64 b.s) rfl (by kernel_rfl) (by kernel_rfl) (by kernel_rfl) (fun _ _ _ h => h) (by rfl) (fun W hSw => ?_) (by assumption) ?_
  · have q := BB.out.belowHere hSw; have e2 := q.cellv (i := 2) rfl
    go_simp
  try simp only [layR]
  refine takeV 7 (v := .bool true) rfl (by kernel_rfl) (by kernel_rfl) (by kernel_rfl) (fun _ _ _ h => h) (by rfl) (fun W hSw => ?_) (by assumption) ?_
  · have k1 := H1.out
    go_simp
  try simp only [layR]
  refine wpAnyH_ready (rs := [2]) (by kernel_rfl) (by simp) ?_
  refine AllReadyH.cons rfl (fun K' hK => ?_) AllReadyH.nil
  go_simp
  refine (newer_yes H1.out _).mono ?_
  rintro _ wn ⟨rfl, hb⟩
  have hS1 := Below.then_ hS0 hb
  clear hb hS0
  refine hK.out _ _ hS1 (fun hS0 => ?_)
  try simp only [layR]
  clear hS1
  refine takeV 8 (v := .bool false) rfl (by kernel_rfl) (by kernel_rfl) (by kernel_rfl) (fun _ _ _ h => h) (by rfl) (fun W hSw => ?_) (by assumption) ?_
  · go_simp
  try simp only [layR]
  refine takeV 9 (v := .bool false) rfl (by kernel_rfl) (by kernel_rfl) (by kernel_rfl) (fun _ _ _ h => h) (by rfl) (fun _ _ => rfl) (by assumption) ?_
  try simp only [layR]
  refine takeV 10 (v := (tagV a)) rfl (by kernel_rfl) (by kernel_rfl) (by kernel_rfl) (fun _ _ _ h => h) (by rfl) (fun W hSw => ?_) (by assumption) ?_
  · have q := BA.out.belowHere hSw; have e0 := q.cellv (i := 0) rfl; have e1 := q.cellv (i := 1) rfl; have e2 := q.cellv (i := 2) rfl; have e3 := q.cellv (i := 3) rfl
    go_simp
  try simp only [layR]
  refine takeV 11 (v := (tagV b)) rfl (by kernel_rfl) (by kernel_rfl) (by kernel_rfl) (fun _ _ _ h => h) (by rfl) (fun W hSw => ?_) (by assumption) ?_
  · have q := BB.out.belowHere hSw; have e0 := q.cellv (i := 0) rfl; have e1 := q.cellv (i := 1) rfl; have e2 := q.cellv (i := 2) rfl; have e3 := q.cellv (i := 3) rfl
    go_simp
  try simp only [layR]
  refine wpAnyH_ready (rs := [12]) (by kernel_rfl) (by simp) ?_
  refine AllReadyH.cons rfl (fun K' hK => ?_) AllReadyH.nil
  go_simp
  refine (newer_yes H1.out _).mono ?_
  rintro _ wn ⟨rfl, hb⟩
  have hS1 := Below.then_ hS0 hb
  clear hb hS0
  refine hK.out _ _ hS1 (fun hS0 => ?_)
  try simp only [layR]
  clear hS1
  refine takeV 13 (v := .bool true) rfl (by kernel_rfl) (by kernel_rfl) (by kernel_rfl) (fun _ _ _ h => h) (by rfl) (fun _ _ => rfl) (by assumption) ?_
  try simp only [layR]
  refine takeV 14 (v := (tagV b)) rfl (by kernel_rfl) (by kernel_rfl) (by kernel_rfl) (fun _ _ _ h => h) (by rfl) (fun W hSw => ?_) (by assumption) ?_
  · have q := BB.out.belowHere hSw; have e0 := q.cellv (i := 0) rfl; have e1 := q.cellv (i := 1) rfl; have e2 := q.cellv (i := 2) rfl; have e3 := q.cellv (i := 3) rfl
    go_simp
  try simp only [layR]
  refine takeV 15 (v := (tagV c)) rfl (by kernel_rfl) (by kernel_rfl) (by kernel_rfl) (fun _ _ _ h => h) (by rfl) (fun W hSw => ?_) (by assumption) ?_
  · have q := BC.out.belowHere hSw; have e0 := q.cellv (i := 0) rfl; have e1 := q.cellv (i := 1) rfl; have e2 := q.cellv (i := 2) rfl; have e3 := q.cellv (i := 3) rfl
    go_simp
  try simp only [layR]
  refine wpAnyH_ready (rs := [16]) (by kernel_rfl) (by simp) ?_
  refine AllReadyH.cons rfl (fun K' hK => ?_) AllReadyH.nil
  go_simp
  refine (newer_yes H2.out _).mono ?_
  rintro _ wn ⟨rfl, hb⟩
  have hS1 := Below.then_ hS0 hb
  clear hb hS0
  refine hK.out _ _ hS1 (fun hS0 => ?_)
  try simp only [layR]
  clear hS1
  refine takeV 17 (v := .bool true) rfl (by kernel_rfl) (by kernel_rfl) (by kernel_rfl) (fun _ _ _ h => h) (by rfl) (fun _ _ => rfl) (by assumption) ?_
  try simp only [layR]
  refine takeV 18 (v := .bool true) rfl (by kernel_rfl) (by kernel_rfl) (by kernel_rfl) (fun _ _ _ h => h) (by rfl) (fun _ _ => rfl) (by assumption) ?_
  try simp only [layR]
  refine takeV 19 (v := (tagV a)) rfl (by kernel_rfl) (by kernel_rfl) (by kernel_rfl) (fun _ _ _ h => h) (by rfl) (fun W hSw => ?_) (by assumption) ?_
  · have q := BA.out.belowHere hSw; have e0 := q.cellv (i := 0) rfl; have e1 := q.cellv (i := 1) rfl; have e2 := q.cellv (i := 2) rfl; have e3 := q.cellv (i := 3) rfl
    go_simp
  try simp only [layR]
  refine takeV 20 (v := (tagV c)) rfl (by kernel_rfl) (by kernel_rfl) (by kernel_rfl) (fun _ _ _ h => h) (by rfl) (fun W hSw => ?_) (by assumption) ?_
  · have q := BC.out.belowHere hSw; have e0 := q.cellv (i := 0) rfl; have e1 := q.cellv (i := 1) rfl; have e2 := q.cellv (i := 2) rfl; have e3 := q.cellv (i := 3) rfl
    go_simp
  try simp only [layR]
  refine wpAnyH_ready (rs := [21]) (by kernel_rfl) (by simp) ?_
  refine AllReadyH.cons rfl (fun K' hK => ?_) AllReadyH.nil
  go_simp
  refine (newer_yes (Nat.lt_trans H2.out H1.out) _).mono ?_
  rintro _ wn ⟨rfl, hb⟩
  have hS1 := Below.then_ hS0 hb
  clear hb hS0
  refine hK.out _ _ hS1 (fun hS0 => ?_)
  try simp only [layR]
  clear hS1
  refine takeV 22 (v := .bool false) rfl (by kernel_rfl) (by kernel_rfl) (by kernel_rfl) (fun _ _ _ h => h) (by rfl) (fun _ _ => rfl) (by assumption) ?_
  try simp only [layR]
  refine takeV 23 (v := .bool false) rfl (by kernel_rfl) (by kernel_rfl) (by kernel_rfl) (fun _ _ _ h => h) (by rfl) (fun _ _ => rfl) (by assumption) ?_
  try simp only [layR]
  refine takeV 24 (v := .bool false) rfl (by kernel_rfl) (by kernel_rfl) (by kernel_rfl) (fun _ _ _ h => h) (by rfl) (fun _ _ => rfl) (by assumption) ?_
  try simp only [layR]
  refine wpAnyH_done (by kernel_rfl) ?_ _
  refine NoPanic.normal ?_
  rename_i wf
  have hSf := hS0
  clear hS0
  have a0 := (BA.out.belowHere hSf).cellv (i := 0) rfl
  have a1 := (BA.out.belowHere hSf).cellv (i := 1) rfl
  have a2 := (BA.out.belowHere hSf).cellv (i := 2) rfl
  have a3 := (BA.out.belowHere hSf).cellv (i := 3) rfl
  have b0 := (BB.out.belowHere hSf).cellv (i := 0) rfl
  have b1 := (BB.out.belowHere hSf).cellv (i := 1) rfl
  have b2 := (BB.out.belowHere hSf).cellv (i := 2) rfl
  have b3 := (BB.out.belowHere hSf).cellv (i := 3) rfl
  go_wp2_with fail
  refine ((newer_yes H1.out) _).mono ?_
  rintro _ wg ⟨rfl, hb⟩
  have hSg := Below.then_ hSf hb
  clear hb a0 a1 a2 a3 b0 b1 b2 b3 hSf
  have a0 := (BA.out.belowHere hSg).cellv (i := 0) rfl
  have a1 := (BA.out.belowHere hSg).cellv (i := 1) rfl
  have a2 := (BA.out.belowHere hSg).cellv (i := 2) rfl
  have a3 := (BA.out.belowHere hSg).cellv (i := 3) rfl
  have b0 := (BB.out.belowHere hSg).cellv (i := 0) rfl
  have b1 := (BB.out.belowHere hSg).cellv (i := 1) rfl
  have b2 := (BB.out.belowHere hSg).cellv (i := 2) rfl
  have b3 := (BB.out.belowHere hSg).cellv (i := 3) rfl
  go_wp2_with fail
  refine ((newer_no (a := b) (b := a) (by have := H1.out; omega)) _).mono ?_
  rintro _ wh ⟨rfl, hb⟩
  have hSh := Below.then_ hSg hb
  clear hb a0 a1 a2 a3 b0 b1 b2 b3 hSg
  have HSh := Lib.hid hSh
  clear hSh
  go_wp2_with fail
  refine (tknown_calls _).mono ?_
  rintro _ wk ⟨rfl, hbk⟩
  have HBk := Lib.hid hbk
  clear hbk
  go_wp2
  go_ret
  exact ⟨rfl, Below.then_ (HBL.out.trans (HSh.out.mono HBL.out.size)) HBk.out⟩
end Go.Proofs.Ytnahmhjkbdplpaa
