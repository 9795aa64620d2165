/-
  The reference's Marks: rows of marks.
-/
import Derived.Test.YtlnjfnpoabcllaaGlbGroup
import Derived.Great.BuildSlice
namespace Go.Proofs.Ytlnjfnpoabcllaa
open Go.RowKit

theorem infoRm : (Try.prog.info? 85).map (fun i => (i.zero, i.size, i.bytes)) = some (some (.agg (rmA rm0)), 257, 257) := by kernel_rfl
theorem rm_len (x : Rm) : (rmL x).length = 257 := by simp [rmL, stL]
theorem rm_one : ∀ (x : Rm), ∀ u ∈ rmL x, u.oneCell' = true := fun x u hu => by
  simp only [rmL, stL, List.mem_cons, List.mem_map] at hu
  rcases hu with rfl | ⟨i, _, rfl⟩ <;> rfl
set_option maxRecDepth 100000 in
theorem wpList_litRm {w : World} {ops : Array Oper} {rest : List Oper} {o : Oper} {ac : Act} {Q : Exit → Act → World → Prop} {cs : Array Value} (hgd : o.guard = none) (s x : Operand) (ho : o.op = .call { callee := .builtin .append, args := #[s, x], argTypes := #[54, 54] }) (base : Nat)
    (v : Value) (xs : List Rm) (hs : ac.eval s = v) (hown : OwnM 257 rmL 85 w base v xs) (y : Rm) (g : Nat) (hx : ac.eval x = .slice (some ⟨g, 0, none⟩) 1 1) (hg : g = w.heap.size) (hcs : cs = (rmL y).toArray)
    (hbytes : xs.length ≤ 900000000) (hbase : base ≤ w.heap.size)
    (h : ∀ v' w', Hid (OwnM 257 rmL 85 w' base v' (xs ++ [y])) → Hid (Below base w w') → wpList Try.prog ops Q rest (ac.put o.dst v') w') : wpList Try.prog ops Q (o :: rest) ac (w.alloc (.cells cs 85)) := by
  subst hg
  obtain ⟨i0, hi, hz0, hz1, hz2⟩ := info_parts infoRm
  have hb2 : base ≤ (w.alloc (.cells cs 85)).heap.size := by simp; omega
  exact wpList_append_OwnM hgd s x 54 ho base 85 i0 _ 257 Try.underlying54 hi hz0 hz1 hz2 rfl (by decide) rm_one v xs hs (hown.alloc _) _ _ 1 1 [y] hx (ArrM.lit1 w 85 y hcs) (by omega) (by simp only [maxLen]; omega) hb2 fun v' w' h1 h2 _ =>
    h v' w' (Lib.hid h1) (Lib.hid (((Below.refl base w).alloc hbase _).trans (below_ownM (Below.refl base _) (hown.alloc _) h2 hb2)))
set_option maxRecDepth 100000 in
theorem fill_rm (m : Rm) : Instr.fill (fun i => some (i * 257, 257)) ((Array.range (1 * 257)).map ((Value.agg (rmA rm0)).cells[· % (Value.agg (rmA rm0)).cells.size]!)) [(0, .agg (rmA m))] = some (rmA m) := by kernel_rfl
theorem wpList_buildRm {w : World} {ops : Array Oper} {rest : List Oper} {o : Oper} {ac : Act} {Q : Exit → Act → World → Prop} (hg : o.guard = none) (x : Operand) (ho : o.op = .buildSlice 54 1 #[(0, x)]) (m : Rm) (hx : ac.eval x = .agg (rmA m))
    (h : wpList Try.prog ops Q rest (ac.put o.dst (.slice (some ⟨w.heap.size, 0, none⟩) 1 1)) (w.alloc (.cells (rmA m) 85))) : wpList Try.prog ops Q (o :: rest) ac w := by
  obtain ⟨i0, hi, hz0, hz1, _⟩ := info_parts infoRm
  refine wpList_buildSlice hg 54 85 1 _ ho (rmA m) i0 _ Try.underlying54 hi hz0 (by rw [hz1]; decide) (by rw [hz1]; decide) ?_ h
  rw [hz1]
  refine (congrArg (Instr.fill _ _) ?_).trans (fill_rm m)
  simp [hx]
namespace Glb
def stN (m : Gm) (i : Nat) : Bool := if m.k = 0 then decide (i = m.c.toNat) else if m.k = 3 then inBN m.l i != m.neg else !(m.k == 2)
def toRm (m : Gm) : Rm := ⟨m.k == 2, stN m⟩
end Glb
set_option maxRecDepth 100000 in
theorem run_store_st (w : World) (g : Nat) (m : Rm) (f : Nat → Bool) (h : Blk w g 85 (rmA m)) : (storeCells ⟨g, 1, none⟩ (stA f).toList).run Try.prog w = .ok () (w.setRow g (rmA ⟨m.many, f⟩)) := by
  have h1 := run_storeCells_at (P := Try.prog) g 1 85 (stA f).toList 0 (rmA m) w h (by simp [stA, rmA, rmL, stL]) (fun v hv => by
    simp only [stA, stL, List.mem_map] at hv
    obtain ⟨i, _, rfl⟩ := hv
    rfl)
  have h2 : (stA f).toList = stL f := rfl
  have h3 : (rmA m).toList = .bool m.many :: stL m.st := rfl
  have e : ((rmA m).toList.take (1 + 0) ++ (stA f).toList ++ (rmA m).toList.drop (1 + 0 + (stA f).toList.length)).toArray = rmA ⟨m.many, f⟩ := by
    rw [h2, h3, stL_len, List.drop_of_length_le (by rw [List.length_cons, stL_len]; omega)]
    simp [rmA, rmL]
  rw [h1, e]
theorem rmL_congr {b : Bool} {f g : Nat → Bool} (h : ∀ i, i < 256 → f i = g i) : rmL ⟨b, f⟩ = rmL ⟨b, g⟩ := by
  have h := congrArg Array.toList (rmA_congr (b := b) h)
  simpa only [rmA] using h
theorem rmA_many0 (b b2 : Bool) (f : Nat → Bool) : (rmA ⟨b, f⟩).setIfInBounds 0 (.bool b2) = rmA ⟨b2, f⟩ := by simp [rmA, rmL]
theorem map_push2 {R : Option (List Glb.Gm)} {r r' : List UInt8} {pre : List Glb.Gm} {g : Glb.Gm} (h : R = (Glb.mks r).map (pre ++ ·)) (hs : Glb.mks r = (Glb.mks r').map (g :: ·)) : R = (Glb.mks r').map ((pre ++ [g]) ++ ·) := map_push h hs
theorem Glb.mem_suf : ∀ (n : Nat) (s : List UInt8), s.length ≤ n → ∀ (acc l : List (UInt8 × UInt8)) (r : List UInt8), Glb.mem acc s = some (l, r) → ∃ u, s = u ++ r := by
  intro n
  induction n with
  | zero =>
    intro s hs acc l r h
    have : s = [] := List.eq_nil_of_length_eq_zero (by omega)
    subst this
    rw [Glb.mem_nil] at h; cases h
  | succ n ih =>
    intro s hs acc l r h
    cases s with
    | nil => rw [Glb.mem_nil] at h; cases h
    | cons c t =>
      rw [List.length_cons] at hs
      by_cases hc : c = 93
      · subst hc
        rw [Glb.mem_end] at h
        split at h
        · cases h
        · injection h with h; injection h with h1 h2; subst h1 h2; exact ⟨[93], rfl⟩
      · cases hr : Glb.isR (c :: t)
        · rw [Glb.mem_one acc c t hc hr] at h
          obtain ⟨u, hu⟩ := ih t (by omega) _ _ _ h
          exact ⟨c :: u, by rw [hu]; rfl⟩
        · obtain ⟨d, e, q, rfl, _, _, h2⟩ := Glb.mem_range acc c t hc hr
          rw [h2] at h
          simp only [List.length_cons] at hs
          obtain ⟨u, hu⟩ := ih q (by omega) _ _ _ h
          exact ⟨c :: d :: e :: u, by rw [hu]; rfl⟩
theorem Glb.mem_drop {T r : List UInt8} {l : List (UInt8 × UInt8)} (h : Glb.mem [] (Glb.behindNot T) = some (l, r)) : r.length < T.length ∧ T.drop (T.length - r.length) = r := by
  have h1 := (Glb.mem_len _ _ _ _ h).1
  have h2 := Glb.behindNot_len T
  obtain ⟨u, hu⟩ := Glb.mem_suf _ _ (Nat.le_refl _) _ _ _ h
  have h3 : ∃ x, T = x ++ r := by
    unfold Glb.behindNot at hu
    split at hu
    · cases T with
      | nil => exact ⟨u, hu⟩
      | cons c t => exact ⟨c :: u, by rw [List.tail_cons] at hu; rw [hu]; rfl⟩
    · exact ⟨u, hu⟩
  obtain ⟨x, hx⟩ := h3
  refine ⟨by omega, ?_⟩
  have e : T.length - r.length = x.length := by rw [hx, List.length_append]; omega
  rw [e, hx, List.drop_left]
def MarkJ (s : List UInt8) (R : Option (List Glb.Gm)) (w : World) (v : Value) (k : Nat) (wr : World) : Prop :=
  ∃ pre : List Glb.Gm, R = (Glb.mks (s.drop k)).map (pre ++ ·) ∧ pre.length ≤ k ∧ k ≤ s.length ∧ OwnM 257 rmL 85 wr w.heap.size v (pre.map Glb.toRm) ∧ Below w.heap.size w wr
theorem MarkJ.push {s : List UInt8} {R : Option (List Glb.Gm)} {w wr : World} {v : Value} {pre : List Glb.Gm} {g : Glb.Gm} {k k' : Nat} {y : Rm} (hR : R = (Glb.mks (s.drop k)).map (pre ++ ·)) (hs : Glb.mks (s.drop k) = (Glb.mks (s.drop k')).map (g :: ·))
    (hp : pre.length ≤ k) (hk : k < k') (hk' : k' ≤ s.length) (hy : rmL y = rmL (Glb.toRm g)) (ho : OwnM 257 rmL 85 wr w.heap.size v (pre.map Glb.toRm ++ [y])) (hb : Below w.heap.size w wr) : MarkJ s R w v k' wr := by
  refine ⟨pre ++ [g], map_push hR hs, by simp; omega, hk', ?_, hb⟩
  obtain ⟨h1, h2⟩ := ho
  refine ⟨h1, ?_⟩
  rw [List.map_append, List.map_singleton]
  simpa [hy] using h2
def RMarksR (o : Option (List Glb.Gm)) (w : World) (e : Ending) (w' : World) : Prop :=
  ∃ v, e = .returned (.tuple #[v, .bool o.isSome]) ∧ OwnM 257 rmL 85 w' w.heap.size v ((o.getD []).map Glb.toRm) ∧ Below w.heap.size w w'
attribute [local go_sem] zero85' rmA_size stA_size strL_cut
set_option maxRecDepth 100000 in
set_option maxHeartbeats 8000000 in
theorem rMarks_calls (s : List UInt8) (w : World) (hl : s.length ≤ 1000) :
    Calls Try.prog 29 #[.string (strL s)] w (RMarksR (Glb.marksOf s) w) := by
  by_cases h0 : s = []
  · subst h0
    go_enter Try.func29, Try.ntmps29
    go_wp2
    go_ret2
    exact ⟨.slice none 0 0, rfl, OwnM.nil rm_len _ _, Below.refl _ _⟩
  have hs0 : 0 < s.length := List.length_pos_iff.2 h0
  have q1 : decide ((s.length : Int) < 1) = false := decide_eq_false (by omega)
  by_cases h64 : 64 < s.length
  · have g1 : decide (64 < (s.length : Int)) = true := decide_eq_true (by omega)
    have e : Glb.marksOf s = none := by unfold Glb.marksOf; rw [if_pos (.inr h64)]
    rw [e]
    clear e
    go_enter Try.func29, Try.ntmps29
    go_wp2
    go_ret2
    exact ⟨.slice none 0 0, rfl, OwnM.nil rm_len _ _, Below.refl _ _⟩
  have g1 : decide (64 < (s.length : Int)) = false := decide_eq_false (by omega)
  have e : Glb.marksOf s = Glb.mks s := by unfold Glb.marksOf; rw [if_neg (by rintro (h | h); exact h0 h; exact h64 h)]
  rw [e]
  obtain ⟨R, hR⟩ : ∃ R, R = Glb.mks s := ⟨_, rfl⟩
  have HSt := Lib.hid (show MarkJ s R w (.slice none 0 0) 0 w from ⟨[], by rw [hR]; simp, by simp, by omega, OwnM.nil rm_len _ _, Below.refl _ _⟩)
  rw [← hR]
  clear e hR h0 h64
  go_enter Try.func29, Try.ntmps29
  go_wp2
  clear q1 g1
  go_loopw [4, 5] (fun v i wr => ∃ k : Nat, i = .int .i64 k ∧ MarkJ s R w v k wr) (fun _ i _ => s.length - (intOf i).toNat)
  case atStart => exact ⟨0, rfl, HSt.out⟩
  case round =>
    obtain ⟨k, rfl, pre, hR, hp, hk, ho, hb⟩ := hrel
    obtain ⟨a, cp, rfl, _⟩ := ho.formN (n := pre.length) (by simp)
    have HR := Lib.hid hR
    have HO := Lib.hid ho
    have HB := Lib.hid hb
    have hsz := hb.size
    clear hR ho hb HSt
    by_cases hlt : k < s.length
    · obtain ⟨c, hc⟩ : ∃ c, s[k] = c := ⟨_, rfl⟩
      have g1 : decide ((k : Int) < s.length) = true := decide_eq_true (by omega)
      have HD := Lib.hid (show s.drop k = c :: s.drop (k + 1) by rw [List.drop_eq_getElem_cons hlt, hc])
      have K0 := Lib.hid (Blk.new wr 85 (rmA rm0))
      have K1 := Lib.hid (K0.out.row (rmA rm0))
      by_cases hq : c = 63
      · subst hq
        go_wp2_with (refine wpList_store_blk rfl rfl _ _ _ rfl wr.heap.size _ rfl rfl 85 (rmA rm0) K0.out rfl (by rw [rmA_size]; kernel_rfl) (rmA_one _) ?_)
        refine (all_calls _).mono ?_
        rintro e w2 ⟨rfl, h2⟩
        have K2 := K1.out.belowHere h2
        have hst := run_store_st w2 wr.heap.size rm0 (fun _ => true) K2
        have KW := Lib.hid (K2.row (rmA ⟨false, fun _ => true⟩))
        have HW := Lib.hid (((((Below.refl wr.heap.size wr).alloc (Nat.le_refl _) (.cells (rmA rm0) 85)).setRow_ (Nat.le_refl _) (rmA rm0)).trans (h2.mono (by rw [setRow_size]; simp))).setRow_ (Nat.le_refl _) (rmA ⟨false, fun _ => true⟩))
        clear K2 h2 K0 K1
        have HOW := Lib.hid (HO.out.below HW.out (Nat.le_refl _))
        have hszW := Nat.le_trans hsz HW.out.size
        have hpl : (pre.map Glb.toRm).length ≤ 900000000 := by rw [List.length_map]; omega
        go_wp2_with (first | (refine wpList_load_blk rfl _ _ rfl wr.heap.size rfl 85 _ _ KW.out Try.underlying85 rfl (by rw [rmA_size]; kernel_rfl) ?_; simp only [layR]) | (refine wpList_buildRm rfl _ rfl ⟨false, fun _ => true⟩ rfl ?_; simp only [layR]) | (at_builtin; refine wpList_litRm rfl _ _ rfl w.heap.size _ _ rfl HOW.out ⟨false, fun _ => true⟩ _ rfl rfl rfl hpl hszW ?_; intro v4 w4 HO4 HB4))
        go_roundw
        case rel => exact ⟨k + 1, by go_num, MarkJ.push HR.out (show Glb.mks (s.drop k) = (Glb.mks (s.drop (k + 1))).map (Glb.plainM 63 :: ·) by rw [HD.out, Glb.mks_plain _ _ (by decide)]) hp (by omega) (by omega) (rmL_congr fun i _ => rfl) HO4.out (HB.out.trans ((HW.out.mono hsz).trans HB4.out))⟩
        case measure => simp [intOf]; omega
      · have f63 := u8_ne (c := c) (n := 63) (by decide) hq
        by_cases hq2 : c = 42
        · subst hq2
          have f0 := K1.out.frozen 0
          have c0 := K1.out.cellv (rmA_many rm0)
          have KW := Lib.hid (show Blk _ wr.heap.size 85 (rmA ⟨true, fun _ => false⟩) from rmA_many0 false true (fun _ => false) ▸ K1.out.set 0 (.bool true))
          have HW := Lib.hid ((((Below.refl wr.heap.size wr).alloc (Nat.le_refl _) (.cells (rmA rm0) 85)).setRow_ (Nat.le_refl _) (rmA rm0)).setCell (p := ⟨wr.heap.size, 0, none⟩) (Nat.le_refl _) (.bool true))
          have HOW := Lib.hid (HO.out.below HW.out (Nat.le_refl _))
          have hszW := Nat.le_trans hsz HW.out.size
          have hpl : (pre.map Glb.toRm).length ≤ 900000000 := by rw [List.length_map]; omega
          go_wp2_with (first | refine wpList_store_blk rfl rfl _ _ _ rfl wr.heap.size _ rfl rfl 85 (rmA rm0) K0.out rfl (by rw [rmA_size]; kernel_rfl) (rmA_one _) ?_ | (refine wpList_load_blk rfl _ _ rfl wr.heap.size rfl 85 _ _ KW.out Try.underlying85 rfl (by rw [rmA_size]; kernel_rfl) ?_; simp only [layR]) | (refine wpList_buildRm rfl _ rfl ⟨true, fun _ => false⟩ rfl ?_; simp only [layR]) | (at_builtin; refine wpList_litRm rfl _ _ rfl w.heap.size _ _ rfl HOW.out ⟨true, fun _ => false⟩ _ rfl rfl rfl hpl hszW ?_; intro v4 w4 HO4 HB4))
          go_roundw
          case rel => exact ⟨k + 1, by go_num, MarkJ.push HR.out (show Glb.mks (s.drop k) = (Glb.mks (s.drop (k + 1))).map (Glb.plainM 42 :: ·) by rw [HD.out, Glb.mks_plain _ _ (by decide)]) hp (by omega) (by omega) (rmL_congr fun i _ => rfl) HO4.out (HB.out.trans ((HW.out.mono hsz).trans HB4.out))⟩
          case measure => simp [intOf]; omega
        · have f42 := u8_ne (c := c) (n := 42) (by decide) hq2
          by_cases hq3 : c = 91
          · subst hq3
            have hcut : (s.drop (k + 1)).take (s.length - (k + 1)) = s.drop (k + 1) := List.take_of_length_le (Nat.le_of_eq List.length_drop)
            have HGr := Lib.hid (group_calls (s.drop (k + 1)) ((wr.alloc (.cells (rmA rm0) 85)).setRow wr.heap.size (rmA rm0)) (by rw [List.length_drop]; omega))
            have hdl : (s.drop (k + 1)).length = s.length - (k + 1) := List.length_drop
            have hms : Glb.mks (s.drop k) = match Glb.mem [] (Glb.behindNot (s.drop (k + 1))) with
                | none => none
                | some (l, r) => (Glb.mks r).map (⟨3, 91, Glb.isNot (s.drop (k + 1)), l⟩ :: ·) := by rw [HD.out]; exact Glb.mks_set _
            have hs1 : ((wr.alloc (.cells (rmA rm0) 85)).setRow wr.heap.size (rmA rm0)).heap.size = wr.heap.size + 1 := by rw [setRow_size]; simp
            cases hm : Glb.mem [] (Glb.behindNot (s.drop (k + 1))) with
            | none =>
              have hgv : grpV (s.drop (k + 1)) = .tuple #[.agg (rmA rm0), .int .i64 (-1)] := by unfold grpV Glb.grp; rw [hm]; rfl
              rw [hgv] at HGr
              rw [hm] at hms
              have HN := Lib.hid (show R = none by rw [HR.out, hms]; rfl)
              clear hm hms hgv
              go_wp2_with (first | refine wpList_store_blk rfl rfl _ _ _ rfl wr.heap.size _ rfl rfl 85 (rmA rm0) K0.out rfl (by rw [rmA_size]; kernel_rfl) (rmA_one _) ?_ | fail)
              refine HGr.out.mono ?_
              rintro e w2 ⟨rfl, h2⟩
              have KN := Lib.hid (Blk.new w2 85 (rmA rm0))
              have HW := Lib.hid ((((((Below.refl wr.heap.size wr).alloc (Nat.le_refl _) (.cells (rmA rm0) 85)).setRow_ (Nat.le_refl _) (rmA rm0)).trans (h2.mono (by omega))).alloc (by have := h2.size; omega) (.cells (rmA rm0) 85)).setRow_ (g := w2.heap.size) (by have := h2.size; omega) (rmA rm0))
              clear h2
              go_wp2_with (refine wpList_store_blk rfl rfl _ _ _ rfl w2.heap.size _ rfl rfl 85 (rmA rm0) KN.out rfl (by rw [rmA_size]; kernel_rfl) (rmA_one _) ?_)
              go_ret2
              exact ⟨_, by rw [HN.out]; rfl, by rw [HN.out]; exact OwnM.nil rm_len _ _, HB.out.trans (HW.out.mono hsz)⟩
            | some pr =>
              obtain ⟨sp, r⟩ := pr
              obtain ⟨hr1, hr2⟩ := Glb.mem_drop hm
              obtain ⟨y, hy⟩ : ∃ y : Rm, y = ⟨false, fun i => Glb.inBN sp i != Glb.isNot (s.drop (k + 1))⟩ := ⟨_, rfl⟩
              obtain ⟨n, hn⟩ : ∃ n : Nat, n = (s.drop (k + 1)).length - 1 - r.length := ⟨_, rfl⟩
              have hgv : grpV (s.drop (k + 1)) = .tuple #[.agg (rmA y), .int .i64 n] := by unfold grpV Glb.grp; rw [hm, hy, hn]; rfl
              rw [hgv] at HGr
              rw [hm] at hms
              have hkn : k + 1 + n + 1 ≤ s.length := by omega
              have hrd : s.drop (k + 1 + n + 1) = r := by
                rw [← hr2, List.drop_drop]
                congr 1
                omega
              have HMk := Lib.hid (show Glb.mks (s.drop k) = (Glb.mks (s.drop (k + 1 + n + 1))).map (⟨3, 91, Glb.isNot (s.drop (k + 1)), sp⟩ :: ·) by rw [hms, hrd])
              have HG := Lib.hid (show rmL y = rmL (Glb.toRm ⟨3, 91, Glb.isNot (s.drop (k + 1)), sp⟩) by rw [hy]; rfl)
              have q2 : decide ((n : Int) < 0) = false := decide_eq_false (by omega)
              clear hm hms hgv hrd hr1 hr2 hy hn hdl
              go_wp2_with (first | refine wpList_store_blk rfl rfl _ _ _ rfl wr.heap.size _ rfl rfl 85 (rmA rm0) K0.out rfl (by rw [rmA_size]; kernel_rfl) (rmA_one _) ?_ | fail)
              refine HGr.out.mono ?_
              rintro e w2 ⟨rfl, h2⟩
              have hs2 := h2.size
              have KN := Lib.hid (Blk.new w2 85 (rmA rm0))
              have KM := Lib.hid (KN.out.row (rmA y))
              have K6 := Lib.hid (((K1.out.belowHere h2).alloc (.cells (rmA rm0) 85)).rowFar (g' := w2.heap.size) (by omega) (rmA y))
              have KW := Lib.hid (K6.out.row (rmA y))
              have HW := Lib.hid (((((((Below.refl wr.heap.size wr).alloc (Nat.le_refl _) (.cells (rmA rm0) 85)).setRow_ (Nat.le_refl _) (rmA rm0)).trans (h2.mono (by omega))).alloc (by omega) (.cells (rmA rm0) 85)).setRow_ (g := w2.heap.size) (by omega) (rmA y)).setRow_ (Nat.le_refl _) (rmA y))
              clear h2 HGr
              have HOW := Lib.hid (HO.out.below HW.out (Nat.le_refl _))
              have hszW := Nat.le_trans hsz HW.out.size
              have hpl : (pre.map Glb.toRm).length ≤ 900000000 := by rw [List.length_map]; omega
              go_wp2_with (first | (refine wpList_store_blk rfl rfl _ _ _ rfl w2.heap.size _ rfl rfl 85 (rmA rm0) KN.out (by rw [rmA_size, rmA_size]) (by rw [rmA_size]; kernel_rfl) (rmA_one _) ?_) | (refine wpList_load_blk rfl _ _ rfl w2.heap.size rfl 85 _ _ KM.out Try.underlying85 rfl (by rw [rmA_size]; kernel_rfl) ?_; simp only [layR]) | (refine wpList_store_blk rfl rfl _ _ _ rfl wr.heap.size _ rfl rfl 85 (rmA rm0) K6.out (by rw [rmA_size, rmA_size]) (by rw [rmA_size]; kernel_rfl) (rmA_one _) ?_) | (refine wpList_load_blk rfl _ _ rfl wr.heap.size rfl 85 _ _ KW.out Try.underlying85 rfl (by rw [rmA_size]; kernel_rfl) ?_; simp only [layR]) | (refine wpList_buildRm rfl _ rfl y rfl ?_; simp only [layR]) | (at_builtin; refine wpList_litRm rfl _ _ rfl w.heap.size _ _ rfl HOW.out y _ rfl rfl rfl hpl hszW ?_; intro v4 w4 HO4 HB4))
              go_roundw
              case rel => exact ⟨k + 1 + n + 1, by go_num, MarkJ.push HR.out HMk.out hp (by omega) (by omega) HG.out HO4.out (HB.out.trans ((HW.out.mono hsz).trans HB4.out))⟩
              case measure => simp [intOf]; omega
          · have f91 := u8_ne (c := c) (n := 91) (by decide) hq3
            have hw := Glb.byte_wrap c
            have hct := c.toNat_lt
            have f0 := K1.out.frozen (1 + c.toNat)
            have c0 := K1.out.cellv (rmA_st rm0 c.toNat (by omega))
            have KW := Lib.hid (show Blk _ wr.heap.size 85 (rmA ⟨false, fun i => if i = c.toNat then true else false⟩) from rmA_set false (fun _ => false) c.toNat true ▸ K1.out.set (1 + c.toNat) (.bool true))
            have HW := Lib.hid ((((Below.refl wr.heap.size wr).alloc (Nat.le_refl _) (.cells (rmA rm0) 85)).setRow_ (Nat.le_refl _) (rmA rm0)).setCell (p := ⟨wr.heap.size, 1 + c.toNat, none⟩) (Nat.le_refl _) (.bool true))
            have hg : Glb.plainM c = ⟨0, c, false, []⟩ := by unfold Glb.plainM; rw [if_neg hq, if_neg hq2]
            have HG := Lib.hid (show rmL ⟨false, fun i => if i = c.toNat then true else false⟩ = rmL (Glb.toRm (Glb.plainM c)) by rw [hg]; exact rmL_congr fun i _ => by show _ = decide (i = c.toNat); by_cases h : i = c.toNat <;> simp [h])
            have HMk := Lib.hid (show Glb.mks (s.drop k) = (Glb.mks (s.drop (k + 1))).map (Glb.plainM c :: ·) by rw [HD.out, Glb.mks_plain _ _ hq3])
            clear hg
            have HOW := Lib.hid (HO.out.below HW.out (Nat.le_refl _))
            have hszW := Nat.le_trans hsz HW.out.size
            have hpl : (pre.map Glb.toRm).length ≤ 900000000 := by rw [List.length_map]; omega
            go_wp2_with (first | refine wpList_store_blk rfl rfl _ _ _ rfl wr.heap.size _ rfl rfl 85 (rmA rm0) K0.out rfl (by rw [rmA_size]; kernel_rfl) (rmA_one _) ?_ | (refine wpList_load_blk rfl _ _ rfl wr.heap.size rfl 85 _ _ KW.out Try.underlying85 rfl (by rw [rmA_size]; kernel_rfl) ?_; simp only [layR]) | (refine wpList_buildRm rfl _ rfl ⟨false, fun i => if i = c.toNat then true else false⟩ rfl ?_; simp only [layR]) | (at_builtin; refine wpList_litRm rfl _ _ rfl w.heap.size _ _ rfl HOW.out ⟨false, fun i => if i = c.toNat then true else false⟩ _ rfl rfl rfl hpl hszW ?_; intro v4 w4 HO4 HB4))
            go_roundw
            case rel => exact ⟨k + 1, by go_num, MarkJ.push HR.out HMk.out hp (by omega) (by omega) HG.out HO4.out (HB.out.trans ((HW.out.mono hsz).trans HB4.out))⟩
            case measure => simp [intOf]; omega
    · obtain rfl : k = s.length := by omega
      have g1 : decide ((s.length : Int) < s.length) = false := decide_eq_false (by omega)
      have hN := Lib.hid (show R = some pre by rw [HR.out, List.drop_length, Glb.mks_nil]; simp)
      go_wp2
      go_ret2
      exact ⟨_, by rw [hN.out]; rfl, by rw [hN.out]; exact HO.out, HB.out⟩
end Go.Proofs.Ytlnjfnpoabcllaa
