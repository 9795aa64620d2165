/-
  marks: a part's marks.
-/
import Derived.Test.YtlnjfnpoabcllaaGlbMembers
import Derived.Test.YtlnjfnpoabcllaaGlbStands
namespace Go.Proofs.Ytlnjfnpoabcllaa
open Go.RowKit

attribute [local go_sem] strL_cut
theorem bang_calls (t : List UInt8) (w : World) (hl : t.length ≤ 1000) :
    Calls Try.prog 39 #[.string (strL t), .string ⟨#[33]⟩] w fun e w' => e = .returned (.bool (Glb.isNot t)) ∧ w = w' := by
  have h0 : Calls Try.prog 49 #[.string (strL t), .string ⟨#[33]⟩] w fun e w' => e = .returned (.bool (Glb.isNot t)) ∧ w = w' := by
    cases t with
    | nil =>
      go_enter Try.func49, Try.ntmps49
      go_wp2
      go_ret
      exact ⟨rfl, rfl⟩
    | cons c r =>
      have g0 : decide (1 ≤ (r.length : Int) + 1) = true := decide_eq_true (by omega)
      by_cases hc : c = 33
      · subst hc
        go_enter Try.func49, Try.ntmps49
        go_wp2
        go_ret
        exact ⟨rfl, rfl⟩
      · have e : Glb.isNot (c :: r) = false := decide_eq_false (by simpa using hc)
        have g1 : ([c] == [33]) = false := by simpa using hc
        rw [e]
        clear e
        go_enter Try.func49, Try.ntmps49
        go_wp2
        go_ret
        exact ⟨rfl, rfl⟩
  have H := Lib.hid h0
  clear h0
  go_enter Try.func39, Try.ntmps39
  go_wp2_with fail
  refine (H.out).mono ?_
  rintro e w_ ⟨rfl, rfl⟩
  go_wp2
  go_ret
  exact ⟨rfl, rfl⟩
theorem bang_cases (t : List UInt8) : (∃ t2, t = 33 :: t2 ∧ Glb.isNot t = true ∧ Glb.behindNot t = t2) ∨ (Glb.isNot t = false ∧ Glb.behindNot t = t) := by
  by_cases h : t.head? = some 33
  · left
    cases t with
    | nil => simp at h
    | cons c r =>
      obtain rfl : c = 33 := by simpa using h
      exact ⟨r, rfl, decide_eq_true rfl, if_pos rfl⟩
  · exact .inr ⟨decide_eq_false h, if_neg h⟩
def MarksR (o : Option (List Glb.Gm)) (w : World) (e : Ending) (w' : World) : Prop :=
  ∃ a n c, e = .returned (.tuple #[.slice a n c, .bool o.isSome]) ∧ MarksS (fun b => w.heap.size ≤ b ∧ b < w'.heap.size) w' a n (o.getD []) ∧ Below w.heap.size w w'
def Sx (w wr : World) (v : Value) : Nat → Prop := fun b => w.heap.size ≤ b ∧ b < wr.heap.size ∧ v.ownBlock ≠ some b
def MarkI (l : List UInt8) (R : Option (List Glb.Gm)) (w : World) (v : Value) (r : List UInt8) (wr : World) : Prop :=
  ∃ (pre : List Glb.Gm) (xs : List Mv), R = (Glb.mks r).map (pre ++ ·) ∧ pre.length + r.length ≤ l.length ∧ OwnM 4 mvC 74 wr w.heap.size v xs ∧ xs.length = pre.length ∧ (∀ i (h : i < xs.length) (h' : i < pre.length), MkS (Sx w wr v) wr xs[i] pre[i]) ∧ Below w.heap.size w wr
theorem mark_len (x : Mv) : (mvC x).length = 4 := rfl
theorem MarkI.start (l : List UInt8) (w : World) : MarkI l (Glb.mks l) w (.slice none 0 0) l w :=
  ⟨[], [], by simp, by simp, OwnM.nil mark_len _ _, rfl, fun i h => absurd h (by simp), Below.refl _ _⟩
theorem MarkI.push {l : List UInt8} {R : Option (List Glb.Gm)} {w wr w3 w4 : World} {v v' : Value} {r' : List UInt8} {pre : List Glb.Gm} {xs : List Mv} {x : Mv} {g : Glb.Gm}
    (hR : R = (Glb.mks r').map ((pre ++ [g]) ++ ·)) (hlen : pre.length + 1 + r'.length ≤ l.length) (ho : OwnM 4 mvC 74 wr w.heap.size v xs) (hl : xs.length = pre.length)
    (hm : ∀ i (h : i < xs.length) (h' : i < pre.length), MkS (Sx w wr v) wr xs[i] pre[i]) (hb : Below w.heap.size w wr) (hb3 : Below wr.heap.size wr w3)
    (hx : MkS (fun b => wr.heap.size ≤ b ∧ b < w3.heap.size) w3 x g) (ho4 : OwnM 4 mvC 74 w4 w.heap.size v' (xs ++ [x])) (hg : w3.grownBy w4 v.ownBlock) (hv : v'.ownBlock = v.ownBlock ∨ ∃ k, v'.ownBlock = some k ∧ w3.heap.size ≤ k) :
    MarkI l R w v' r' w4 := by
  have hsz3 := hb3.size
  have hsz4 := hg.size
  have hsz := hb.size
  have hown : ∀ k, v.ownBlock = some k → w.heap.size ≤ k ∧ k < wr.heap.size := fun k hk => ho.blockLt k hk
  refine ⟨pre ++ [g], xs ++ [x], hR, by rw [List.length_append, List.length_singleton]; exact hlen, ho4, by rw [List.length_append, List.length_append, hl]; rfl, ?_, hb.trans ((hb3.mono hsz).trans ⟨hg.os, hg.tape, hg.output, hg.size, fun k hk => hg.block k (by omega) (fun e => by have := (hown k e.symm).1; omega)⟩)⟩
  intro i h h'
  have hne : ∀ b, b < w3.heap.size → v.ownBlock ≠ some b → v'.ownBlock ≠ some b := fun b hlt hne e => by
    rcases hv with hv | ⟨k, hk, hge⟩
    · exact hne (hv.symm.trans e)
    · rw [hk] at e; injection e with e; omega
  have hcell : ∀ b o, b < w3.heap.size → v.ownBlock ≠ some b → w4.cell? ⟨b, o, none⟩ = w3.cell? ⟨b, o, none⟩ := fun b o hlt hnb => World.cell?_of_block (hg.block b hlt fun e => hnb e.symm)
  by_cases hi : i < xs.length
  · rw [List.getElem_append_left hi, List.getElem_append_left (by omega)]
    refine ((hm i hi (by omega)).keep (w' := w4) fun b o hS => ?_).mono fun b hS => ?_
    · exact (hcell b o (by have := hS.2.1; omega) hS.2.2).trans (hb3.cell (p := ⟨b, o, none⟩) hS.2.1)
    · exact ⟨hS.1, by have := hS.2.1; omega, hne b (by have := hS.2.1; omega) hS.2.2⟩
  · rw [List.length_append, List.length_singleton] at h
    obtain rfl : i = xs.length := by omega
    rw [List.getElem_append_right (Nat.le_refl _), List.getElem_append_right (by omega)]
    simp only [Nat.sub_self, hl, List.getElem_singleton]
    have hfar : ∀ b, wr.heap.size ≤ b → v.ownBlock ≠ some b := fun b hle e => by have := (hown b e).2; omega
    refine (hx.keep (w' := w4) fun b o hS => hcell b o hS.2 (hfar b hS.1)).mono fun b hS => ?_
    exact ⟨by have := hS.1; omega, by have := hS.2; omega, hne b hS.2 (hfar b hS.1)⟩
theorem MarkI.done {w wr : World} {a : Option Addr} {n c : Nat} {pre : List Glb.Gm} {xs : List Mv} (hlen : pre.length ≤ 1000) (ho : OwnM 4 mvC 74 wr w.heap.size (.slice a n c) xs) (hl : xs.length = pre.length)
    (hm : ∀ i (h : i < xs.length) (h' : i < pre.length), MkS (Sx w wr (.slice a n c)) wr xs[i] pre[i]) : MarksS (fun b => w.heap.size ≤ b ∧ b < wr.heap.size) wr a n pre := by
  have hr := RowS.of_own ho (by omega)
  refine ⟨xs, hr.mono fun b hb => ⟨hb.1, hb.2.1⟩, by rw [← hl]; exact hr.1, fun i h h' => (hm i h h').mono fun b hb => ⟨hb.1, hb.2.1⟩⟩
theorem map_push {R : Option (List Glb.Gm)} {r r' : List UInt8} {pre : List Glb.Gm} {g : Glb.Gm} (h : R = (Glb.mks r).map (pre ++ ·)) (hs : Glb.mks r = (Glb.mks r').map (g :: ·)) : R = (Glb.mks r').map ((pre ++ [g]) ++ ·) := by
  rw [h, hs, Option.map_map]
  congr 1
  funext x
  simp
set_option maxRecDepth 100000 in
set_option maxHeartbeats 8000000 in
theorem marks_calls (l : List UInt8) (w : World) (hl : l.length ≤ 1000) :
    Calls Try.prog 26 #[.string (strL l)] w (MarksR (Glb.marksOf l) w) := by
  by_cases h0 : l = []
  · subst h0
    go_enter Try.func26, Try.ntmps26
    go_wp2
    go_ret2
    exact ⟨none, 0, 0, rfl, MarksS.none_ _ _, Below.refl _ _⟩
  have e0 : (l == []) = false := by simpa using h0
  have e0' : l.isEmpty = false := by simpa using h0
  by_cases h64 : 64 < l.length
  · have g1 : decide (64 < (l.length : Int)) = true := decide_eq_true (by omega)
    have e : Glb.marksOf l = none := by unfold Glb.marksOf; rw [if_pos (.inr h64)]
    rw [e]
    clear e
    go_enter Try.func26, Try.ntmps26
    go_wp2
    go_ret2
    exact ⟨none, 0, 0, rfl, MarksS.none_ _ _, Below.refl _ _⟩
  have g1 : decide (64 < (l.length : Int)) = false := decide_eq_false (by omega)
  have e : Glb.marksOf l = Glb.mks l := by unfold Glb.marksOf; rw [if_neg (by rintro (h | h); exact h0 h; exact h64 h)]
  rw [e]
  obtain ⟨R, hR⟩ : ∃ R, R = Glb.mks l := ⟨_, rfl⟩
  have hst := MarkI.start l w
  rw [← hR] at hst ⊢
  have HSt := Lib.hid hst
  clear e hR hst h0 h64
  go_enter Try.func26, Try.ntmps26
  go_wp2
  go_loopw [0, 4, 5, 6, 7, 8, 9, 27, 30, 33] (fun s v _ _ _ _ _ _ _ _ wr => ∃ r, s = .string (strL r) ∧ MarkI l R w v r wr) (fun s _ _ _ _ _ _ _ _ _ _ => strOf s)
  case atStart => exact ⟨l, rfl, HSt.out⟩
  case round =>
    obtain ⟨r, rfl, pre, xs, hR, hlen, ho, hxl, hm, hb⟩ := hrel
    have HR := Lib.hid hR
    have HM := Lib.hid hm
    have HB := Lib.hid hb
    obtain ⟨a, cp, rfl, _⟩ := ho.form
    have HO := Lib.hid ho
    have HXL := Lib.hid hxl
    have hsz := hb.size
    have hxb : xs.length ≤ 1000 := by omega
    clear hR ho hb hm HSt e0 e0' g1 hxl
    cases r with
    | nil =>
      have hd := Lib.hid (MarkI.done (by omega) HO.out HXL.out HM.out)
      have hRR := Lib.hid (show R = some pre by rw [HR.out, Glb.mks_nil]; simp)
      go_wp2
      go_ret2
      exact ⟨a, xs.length, cp, by rw [hRR.out]; rfl, by rw [hRR.out]; exact hd.out, HB.out⟩
    | cons c t =>
      rw [List.length_cons] at hlen
      have gq0 : (0 : Int) < (t.length : Int) + 1 := by omega
      by_cases hc : c = 91
      case neg =>
        have HP := Lib.hid (map_push HR.out (Glb.mks_plain c t hc))
        have g91 : ((c.toNat : Int) == 91) = false := u8_ne (by decide) hc
        by_cases hc1 : c = 63
        · subst hc1
          go_wp2_with (at_builtin; refine wpList_litMark rfl _ _ rfl w.heap.size _ xs rfl (HO.out.alloc _) ⟨1, 63, false, none, 0, 0⟩ _ rfl (by simp) rfl (by omega) (by simp; omega) ?_; intro v4 w4 HO4 HG4 HV4)
          go_roundw
          case rel => exact ⟨t, by first | rfl | (simp [strL_cut]; done), MarkI.push (HP.out) (by omega) HO.out HXL.out HM.out HB.out ((Below.refl _ _).alloc (Nat.le_refl _) _) ⟨rfl, rfl, rfl, RowS.none_ _ _⟩ HO4.out HG4.out HV4.out⟩
          case measure => first | (simp [strOf, strL_size]; done) | (simp [strOf, strL_cut, strL_size]; done)
        · have g63 : ((c.toNat : Int) == 63) = false := u8_ne (by decide) hc1
          by_cases hc2 : c = 42
          · subst hc2
            go_wp2_with (at_builtin; refine wpList_litMark rfl _ _ rfl w.heap.size _ xs rfl (HO.out.alloc _) ⟨2, 42, false, none, 0, 0⟩ _ rfl (by simp) rfl (by omega) (by simp; omega) ?_; intro v4 w4 HO4 HG4 HV4)
            go_roundw
            case rel => exact ⟨t, by first | rfl | (simp [strL_cut]; done), MarkI.push (HP.out) (by omega) HO.out HXL.out HM.out HB.out ((Below.refl _ _).alloc (Nat.le_refl _) _) ⟨rfl, rfl, rfl, RowS.none_ _ _⟩ HO4.out HG4.out HV4.out⟩
            case measure => first | (simp [strOf, strL_size]; done) | (simp [strOf, strL_cut, strL_size]; done)
          · have g42 : ((c.toNat : Int) == 42) = false := u8_ne (by decide) hc2
            have e : Glb.plainM c = ⟨0, c, false, []⟩ := by unfold Glb.plainM; rw [if_neg hc1, if_neg hc2]
            rw [e] at HP
            clear e
            go_wp2_with (at_builtin; refine wpList_litMark rfl _ _ rfl w.heap.size _ xs rfl (HO.out.alloc _) ⟨0, c, false, none, 0, 0⟩ _ rfl (by simp) rfl (by omega) (by simp; omega) ?_; intro v4 w4 HO4 HG4 HV4)
            go_roundw
            case rel => exact ⟨t, by first | rfl | (simp [strL_cut]; done), MarkI.push (HP.out) (by omega) HO.out HXL.out HM.out HB.out ((Below.refl _ _).alloc (Nat.le_refl _) _) ⟨rfl, rfl, rfl, RowS.none_ _ _⟩ HO4.out HG4.out HV4.out⟩
            case measure => first | (simp [strOf, strL_size]; done) | (simp [strOf, strL_cut, strL_size]; done)
      · subst hc
        rcases bang_cases t with ⟨t2, rfl, hbn, hbq⟩ | ⟨hbn, hbq⟩
        · have hbn' := hbn
          have hbl := (Below.refl wr.heap.size wr).alloc (Nat.le_refl _) (.cells #[.int .i64 3, .int .u8 91, .bool true, .slice none 0 0] 74)
          have bk := Lib.hid (Blk.new wr 74 #[.int .i64 3, .int .u8 91, .bool true, .slice none 0 0])
          have HMem := Lib.hid (members_calls t2 (wr.alloc (.cells #[.int .i64 3, .int .u8 91, .bool true, .slice none 0 0] 74)) (by (try simp at hlen); omega))
          have hW : (wr.alloc (.cells #[.int .i64 3, .int .u8 91, .bool true, .slice none 0 0] 74)).heap.size = wr.heap.size + 1 := by simp
          have HBl := Lib.hid hbl
          clear hbl
          cases hmem : Glb.mem [] t2 with
          | none =>
            rw [hmem] at HMem
            have HN := Lib.hid (show R = none by rw [HR.out, Glb.mks_set, hbq, hmem]; rfl)
            clear hmem hbq hbn
            go_wp2_with fail
            refine (bang_calls (33 :: t2) _ (by (try simp at hlen ⊢); omega)).mono ?_
            rw [hbn']
            rintro e w_ ⟨rfl, rfl⟩
            go_wp2_with fail
            refine HMem.out.mono ?_
            rintro e w2 ⟨v2, rfl, ho2, hb2⟩
            have HB2 := Lib.hid (HB.out.trans ((HBl.out.trans (hb2.mono (by omega))).mono hsz))
            clear ho2 hb2
            go_wp2
            go_ret2
            exact ⟨none, 0, 0, by rw [HN.out]; rfl, by rw [HN.out]; exact MarksS.none_ _ _, HB2.out⟩
          | some p =>
            obtain ⟨sp, r'⟩ := p
            rw [hmem] at HMem
            have hml := Glb.mem_len _ _ _ _ hmem
            have HP := Lib.hid (map_push HR.out (show Glb.mks (91 :: (33 :: t2)) = (Glb.mks r').map (⟨3, 91, true, sp⟩ :: ·) by rw [Glb.mks_set, hbq, hmem, hbn]))
            have hlen2 : pre.length + 1 + r'.length ≤ l.length := by (try simp at hlen); omega
            have hspl : sp.length ≤ 1000 := by (try simp at hlen); (try simp at hml); omega
            have hrl : r'.length < (33 :: t2).length + 1 := by have := hml.1; (try simp at this ⊢); omega
            clear hmem hbq hbn hml
            go_wp2_with fail
            refine (bang_calls (33 :: t2) _ (by (try simp at hlen ⊢); omega)).mono ?_
            rw [hbn']
            rintro e w_ ⟨rfl, rfl⟩
            go_wp2_with fail
            refine HMem.out.mono ?_
            rintro e w2 ⟨v2, rfl, ho2, hb2⟩
            obtain ⟨a2, c2, rfl, _⟩ := OwnM.formN ho2 (n := sp.length) rfl
            have bk2 := bk.out.belowHere hb2
            have hb3 := HBl.out.trans (hb2.mono (by omega))
            have HS2 := Lib.hid (RowS.of_own ho2 (by show sp.length ≤ _; omega))
            have hs2 := hb2.size
            have hne : (Value.slice a xs.length cp).ownBlock ≠ some wr.heap.size := fun e => by have := (HO.out.blockLt _ e).2; omega
            have HO2 := Lib.hid ((HO.out.on hb3).far (p := ⟨wr.heap.size, 3, none⟩) hne (.slice a2 sp.length c2))
            have hbase : w.heap.size ≤ (w2.setCell ⟨wr.heap.size, 3, none⟩ (.slice a2 sp.length c2)).heap.size := by simp; omega
            have HW3 := Lib.hid (hb3.setCell (p := ⟨wr.heap.size, 3, none⟩) (Nat.le_refl _) (.slice a2 sp.length c2))
            have HB3 := Lib.hid hb3
            have d0 := bk2.cellv (i := 0) rfl
            have d1 := bk2.cellv (i := 1) rfl
            have d2 := bk2.cellv (i := 2) rfl
            have d3 := bk2.cellv (i := 3) rfl
            have f3 := bk2.frozen 3
            have hlt2 := bk2.lt
            clear bk2 hb3 ho2 hb2 hne
            go_wp2_with (at_builtin; refine wpList_litMark rfl _ _ rfl w.heap.size _ xs rfl HO2.out ⟨3, 91, true, a2, sp.length, c2⟩ _ rfl (by simp) rfl (by omega) hbase ?_; intro v4 w4 HO4 HG4 HV4)
            have HMk := Lib.hid (show MkS (fun b => wr.heap.size ≤ b ∧ b < (w2.setCell ⟨wr.heap.size, 3, none⟩ (.slice a2 sp.length c2)).heap.size) (w2.setCell ⟨wr.heap.size, 3, none⟩ (.slice a2 sp.length c2)) ⟨3, 91, true, a2, sp.length, c2⟩ ⟨3, 91, true, sp⟩ from
              ⟨rfl, rfl, rfl, (HS2.out.keep fun b o hS => World.cell?_of_block (heap_setCell_other w2 ⟨wr.heap.size, 3, none⟩ b _ (by have := hS.1; show b ≠ wr.heap.size; omega))).mono fun b hS => ⟨by have := hS.1; omega, by simpa using hS.2.1⟩⟩)
            go_roundw
            case rel => exact ⟨r', rfl, MarkI.push HP.out hlen2 HO.out HXL.out HM.out HB.out HW3.out HMk.out HO4.out HG4.out HV4.out⟩
            case measure => simp [strOf, strL_size]; omega
        · have hbn' := hbn
          have hbl := (Below.refl wr.heap.size wr).alloc (Nat.le_refl _) (.cells #[.int .i64 3, .int .u8 91, .bool false, .slice none 0 0] 74)
          have bk := Lib.hid (Blk.new wr 74 #[.int .i64 3, .int .u8 91, .bool false, .slice none 0 0])
          have HMem := Lib.hid (members_calls t (wr.alloc (.cells #[.int .i64 3, .int .u8 91, .bool false, .slice none 0 0] 74)) (by (try simp at hlen); omega))
          have hW : (wr.alloc (.cells #[.int .i64 3, .int .u8 91, .bool false, .slice none 0 0] 74)).heap.size = wr.heap.size + 1 := by simp
          have HBl := Lib.hid hbl
          clear hbl
          cases hmem : Glb.mem [] t with
          | none =>
            rw [hmem] at HMem
            have HN := Lib.hid (show R = none by rw [HR.out, Glb.mks_set, hbq, hmem]; rfl)
            clear hmem hbq hbn
            go_wp2_with fail
            refine (bang_calls t _ (by (try simp at hlen ⊢); omega)).mono ?_
            rw [hbn']
            rintro e w_ ⟨rfl, rfl⟩
            go_wp2_with fail
            refine HMem.out.mono ?_
            rintro e w2 ⟨v2, rfl, ho2, hb2⟩
            have HB2 := Lib.hid (HB.out.trans ((HBl.out.trans (hb2.mono (by omega))).mono hsz))
            clear ho2 hb2
            go_wp2
            go_ret2
            exact ⟨none, 0, 0, by rw [HN.out]; rfl, by rw [HN.out]; exact MarksS.none_ _ _, HB2.out⟩
          | some p =>
            obtain ⟨sp, r'⟩ := p
            rw [hmem] at HMem
            have hml := Glb.mem_len _ _ _ _ hmem
            have HP := Lib.hid (map_push HR.out (show Glb.mks (91 :: t) = (Glb.mks r').map (⟨3, 91, false, sp⟩ :: ·) by rw [Glb.mks_set, hbq, hmem, hbn]))
            have hlen2 : pre.length + 1 + r'.length ≤ l.length := by (try simp at hlen); omega
            have hspl : sp.length ≤ 1000 := by (try simp at hlen); (try simp at hml); omega
            have hrl : r'.length < t.length + 1 := by have := hml.1; (try simp at this ⊢); omega
            clear hmem hbq hbn hml
            go_wp2_with fail
            refine (bang_calls t _ (by (try simp at hlen ⊢); omega)).mono ?_
            rw [hbn']
            rintro e w_ ⟨rfl, rfl⟩
            go_wp2_with fail
            refine HMem.out.mono ?_
            rintro e w2 ⟨v2, rfl, ho2, hb2⟩
            obtain ⟨a2, c2, rfl, _⟩ := OwnM.formN ho2 (n := sp.length) rfl
            have bk2 := bk.out.belowHere hb2
            have hb3 := HBl.out.trans (hb2.mono (by omega))
            have HS2 := Lib.hid (RowS.of_own ho2 (by show sp.length ≤ _; omega))
            have hs2 := hb2.size
            have hne : (Value.slice a xs.length cp).ownBlock ≠ some wr.heap.size := fun e => by have := (HO.out.blockLt _ e).2; omega
            have HO2 := Lib.hid ((HO.out.on hb3).far (p := ⟨wr.heap.size, 3, none⟩) hne (.slice a2 sp.length c2))
            have hbase : w.heap.size ≤ (w2.setCell ⟨wr.heap.size, 3, none⟩ (.slice a2 sp.length c2)).heap.size := by simp; omega
            have HW3 := Lib.hid (hb3.setCell (p := ⟨wr.heap.size, 3, none⟩) (Nat.le_refl _) (.slice a2 sp.length c2))
            have HB3 := Lib.hid hb3
            have d0 := bk2.cellv (i := 0) rfl
            have d1 := bk2.cellv (i := 1) rfl
            have d2 := bk2.cellv (i := 2) rfl
            have d3 := bk2.cellv (i := 3) rfl
            have f3 := bk2.frozen 3
            have hlt2 := bk2.lt
            clear bk2 hb3 ho2 hb2 hne
            go_wp2_with (at_builtin; refine wpList_litMark rfl _ _ rfl w.heap.size _ xs rfl HO2.out ⟨3, 91, false, a2, sp.length, c2⟩ _ rfl (by simp) rfl (by omega) hbase ?_; intro v4 w4 HO4 HG4 HV4)
            have HMk := Lib.hid (show MkS (fun b => wr.heap.size ≤ b ∧ b < (w2.setCell ⟨wr.heap.size, 3, none⟩ (.slice a2 sp.length c2)).heap.size) (w2.setCell ⟨wr.heap.size, 3, none⟩ (.slice a2 sp.length c2)) ⟨3, 91, false, a2, sp.length, c2⟩ ⟨3, 91, false, sp⟩ from
              ⟨rfl, rfl, rfl, (HS2.out.keep fun b o hS => World.cell?_of_block (heap_setCell_other w2 ⟨wr.heap.size, 3, none⟩ b _ (by have := hS.1; show b ≠ wr.heap.size; omega))).mono fun b hS => ⟨by have := hS.1; omega, by simpa using hS.2.1⟩⟩)
            go_roundw
            case rel => exact ⟨r', rfl, MarkI.push HP.out hlen2 HO.out HXL.out HM.out HB.out HW3.out HMk.out HO4.out HG4.out HV4.out⟩
            case measure => simp [strOf, strL_size]; omega
end Go.Proofs.Ytlnjfnpoabcllaa
