/-
  A new translation, in plain mathematics and in memory.
-/
import Derived.Test.YtiipnpfaaghekaaGreatFtlSld
import Derived.Test.YtiipnpfaaghekaaGreatFtlNew
import Derived.Test.YtiipnpfaaghekaaGreatBlkOpen
namespace Go.Proofs.YtiipnpfaaghekaaGreat
open Go.RowKit Ftl

theorem fmBools (u : World) : (Instr.makeSlice 57 (.int .i64 16) (.int .i64 16)).run Tryz.prog u = .ok (.slice (some ⟨u.heap.size, 0, none⟩) 16 16) (u.alloc (.cells ((List.replicate 16 false).map bolV).toArray 4)) := by
  kernel_rfl
theorem fmInts (u : World) : (Instr.makeSlice 85 (.int .i64 16) (.int .i64 16)).run Tryz.prog u = .ok (.slice (some ⟨u.heap.size, 0, none⟩) 16 16) (u.alloc (.cells ((List.replicate 16 0).map naV).toArray 3)) := by
  kernel_rfl
def truB (k : Nat) : List Bool := List.replicate k true ++ List.replicate (16 - k) false
theorem truB_set {k : Nat} (h : k < 16) : (truB k).set k true = truB (k + 1) := by
  unfold truB
  rw [List.set_append_right _ _ (by simp), List.length_replicate, Nat.sub_self, show 16 - k = (16 - (k + 1)) + 1 by omega, List.replicate_succ, List.set_cons_zero, List.replicate_succ', List.append_assoc]
  rfl
theorem truB_len {k : Nat} (h : k ≤ 16) : (truB k).length = 16 := by unfold truB; simp; omega
/-- The first k blocks were erased once. -/
def once (k : Nat) (j : Nat) : Pb := if j < k then fresh 1 else fresh 0
theorem once_upd (k : Nat) : upd (once k) k (fresh 1) = once (k + 1) := by
  funext j
  unfold upd once
  by_cases h : j = k
  · rw [if_pos h, if_pos (by omega)]
  · rw [if_neg h]
    by_cases h2 : j < k
    · rw [if_pos h2, if_pos (by omega)]
    · rw [if_neg h2, if_neg (by omega)]
theorem once_zero : once 0 = fun _ => fresh 0 := by
  funext j
  exact if_neg (Nat.not_lt_zero _)
theorem once_at (k : Nat) : (once k k).bad = false ∧ (once k k).wear = 0 := by
  unfold once
  rw [if_neg (Nat.lt_irrefl _)]
  exact ⟨rfl, rfl⟩
theorem once_bad (k j : Nat) : (once k j).bad = false := by
  unfold once
  split <;> rfl
theorem once_wear (k j : Nat) : (once k j).wear ≤ 1 := by
  unfold once
  split
  · exact Nat.le_refl 1
  · exact Nat.zero_le 1
theorem openL_once : openL (once 16) (truB 16) (List.replicate 16 0) 16 = List.replicate 16 ⟨0, 0, 1, 0⟩ := by
  apply List.ext_getElem
  · simp [openL]
  · intro i h1 h2
    have hi : i < 16 := by rw [List.length_replicate] at h2; exact h2
    simp only [openL, List.getElem_map, List.getElem_range, List.getElem_replicate]
    unfold openB once truB
    rw [if_pos hi]
    have e : (List.replicate 16 true ++ List.replicate (16 - 16) false).getD i false = true := by
      rw [List.getD_eq_getElem?_getD, List.getElem?_append_left (by rw [List.length_replicate]; exact hi), List.getElem?_replicate, if_pos hi]
      rfl
    rw [e]
    rfl
/-- A manager of blocks that were all erased once. -/
def fmG (M ML C BL cap : Nat) (ps : Nat → Nat) (P : List UInt8 → Prop) : Mg := ⟨M, ML, C, BL, cap, ps, once 16, List.replicate 16 ⟨0, 0, 1, 0⟩, -1, 2, 0, false, P⟩
theorem fmG_of {M ML C BL cap : Nat} {ps : Nat → Nat} {P : List UInt8 → Prop} : (⟨M, ML, C, BL, cap, ps, once 16, openL (once 16) (truB 16) (List.replicate 16 0) 16, -1, 2, 0, decide (4 < (Gc.greatest (openL (once 16) (truB 16) (List.replicate 16 0) 16) : Int) - Gc.least (openL (once 16) (truB 16) (List.replicate 16 0) 16)), P⟩ : Mg) = fmG M ML C BL cap ps P := by
  rw [openL_once]
  rfl
theorem fmG_inv (M ML C BL cap : Nat) (ps : Nat → Nat) (P : List UInt8 → Prop) : Wears.Inv 16 (fmG M ML C BL cap ps P) [] 100000 := by
  have hat : ∀ k, k < 16 → Gc.at_ (List.replicate 16 (⟨0, 0, 1, 0⟩ : Bk)) k = ⟨0, 0, 1, 0⟩ := fun k hk => by
    rw [Gc.at_, List.getD_eq_getElem?_getD, List.getElem?_replicate, if_pos hk]
    rfl
  refine ⟨by simp [fmG], fun k hk => ?_, fun i j hi hj => ?_, .inl rfl, rfl, by simp, by simp⟩
  · unfold fmG
    dsimp only
    rw [hat k hk]
    unfold once
    rw [if_pos hk]
    exact ⟨by decide, rfl, by decide, by decide, fun e => (by cases e), fun _ => ⟨rfl, rfl⟩, fun e => (by cases e), fun e => (by cases e), rfl, by decide, rfl, rfl⟩
  · unfold fmG
    dsimp only
    rw [hat i hi, hat j hj]
    omega
/-- A new translation, before its first seal. -/
def fm0 (F SE NO GO LA : Nat) (g : Mg) : Fm := ⟨F, SE, NO, GO, LA, g, [], [], [], 1, 1, .slice none 0 0, [], false⟩
theorem fm0_fc (F SE NO GO LA M ML C BL cap : Nat) (ps : Nat → Nat) (P : List UInt8 → Prop) : Fc 16 (fm0 F SE NO GO LA (fmG M ML C BL cap ps P)) := by
  refine ⟨⟨⟨by decide, by decide⟩, fmG_inv M ML C BL cap ps P, fun e h => (by cases h), fun e h => (by cases h), rfl, rfl, fun k i L hk hi h => ?_, fun k hk i hi => ?_⟩, ?_, (show (0 : Nat) + 2 ≤ 8 * (16 - 3) by decide), rfl, ⟨Nat.le_refl _, Nat.le_refl _⟩, fun x h => (by cases h), rfl, rfl⟩
  · have h1 : (once 16 k).pgs i = some L := h
    rw [once, if_pos hk] at h1
    cases h1
  · show (once 16 k).pgs i = none ↔ (once 16 k).nx ≤ i
    rw [once, if_pos hk]
    exact ⟨fun _ => Nat.zero_le _, fun _ => rfl⟩
  · show 3 ≤ Gc.count 0 (List.replicate 16 (⟨0, 0, 1, 0⟩ : Bk))
    decide
/-- A new translation, sealed once. -/
structure Fmd (f : Fm) (tx : List UInt8) : Prop where
  fc : Fc 16 f
  no : f.no = []
  go : f.go = []
  sq : f.seq = 2
  ep : f.ep = 2
  tv : f.tx = tx
  se : ∀ q, (getE f.se q).map sk = if q = 0 then some ((⟨2, 0, 1, 1⟩ : Tg), headL tx) else none
/-- The same translation; its pages are told to meet P. -/
def gsF (f : Fm) (P : List UInt8 → Prop) : Fm := { f with g := { f.g with gh := P } }
theorem Ftl.Fc.ghost {NB : Nat} {f : Fm} {P : List UInt8 → Prop} (h : Fc NB f) (hP : ∀ L, f.g.gh L → P L) : Fc NB (gsF f P) := ⟨h.fi.ghost hP, h.fr, h.cap, h.ov, h.sq, h.gk, h.n0, h.g0⟩
theorem Fmd.ghost {f : Fm} {tx : List UInt8} {P : List UInt8 → Prop} (h : Fmd f tx) (hP : ∀ L, f.g.gh L → P L) : Fmd (gsF f P) tx := ⟨h.fc.ghost hP, h.no, h.go, h.sq, h.ep, h.tv, h.se⟩
theorem fmd {F SE NO GO LA M ML C BL cap : Nat} {ps : Nat → Nat} {P : List UInt8 → Prop} {f' : Fm} {tx : List UInt8} (h : Sld 16 (fm0 F SE NO GO LA (fmG M ML C BL cap ps P)) f' tx) : Fmd f' tx ∧ f'.F = F ∧ f'.g.C = C ∧ f'.g.gh = P := by
  refine ⟨⟨h.fc, h.no, h.go, h.sq, h.ep, h.tx, fun q => ?_⟩, h.F, h.C, h.gh⟩
  rw [h.se]
  rfl
section
variable {NB B : Nat} {S T : Nat → Prop} {w : World} {f : Fm}
/-- All parts lie in memory, apart. -/
theorem ft_made (hF : Blk w f.F 59 (fmA NB f)) (hS : MapE w f.SE f.se) (hN : MapE w f.NO f.no) (hG : MapE w f.GO f.go) (hL : Own bolV 4 w 0 (.slice (some ⟨f.LA, 0, none⟩) NB NB) (List.replicate NB false)) (hv : f.tv = .slice none 0 0) (hx : f.tx = []) (hg : MgM NB B S w f.g)
    (nd : [f.F, f.SE, f.NO, f.GO, f.LA].Nodup) (ns : ∀ q, q ∈ [f.F, f.SE, f.NO, f.GO, f.LA] → ¬ Sm f.g S q ∧ B ≤ q ∧ T q) (hT : ∀ q, Sm f.g S q → T q) (hb : ∀ q, T q → B ≤ q ∧ q < w.heap.size) : FtM NB B T w f := by
  have hq : ∀ q, Hb f q → q ∈ [f.F, f.SE, f.NO, f.GO, f.LA] := fun q hq => by
    rcases hq with e | e | e | e | e | e
    · rw [e]; simp
    · rw [e]; simp
    · rw [e]; simp
    · rw [e]; simp
    · rw [e]; simp
    · rw [hv] at e; cases e
  refine ⟨S, ⟨hF, hS, hN, hG, hL, ?_, hg, nd, fun q e => ?_, fun q h => (ns q (hq q h)).1, fun q h => (ns q (hq q h)).2.1⟩, fun q h => ?_, hb⟩
  · rw [hv, hx]; exact .of (B := 0) (Own.nil _ _)
  · rw [hv] at e; cases e
  · rcases h with h | h
    · exact (ns q (hq q h)).2.2
    · exact hT q h
end
end Go.Proofs.YtiipnpfaaghekaaGreat
