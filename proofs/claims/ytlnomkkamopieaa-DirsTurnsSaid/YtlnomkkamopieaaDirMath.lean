/-
  A directory's slots, in plain mathematics.
-/
import Derived.Test.YtlnomkkamopieaaPathName
namespace Go.Proofs.Ytlnomkkamopieaa

structure Ent where
  i : Int
  nm : List UInt8
deriving DecidableEq
namespace Dir
def none_ : Ent := ⟨0, []⟩
def okI (i : Int) : Bool := decide (1 ≤ i) && decide (i ≤ 65535)
def writeE (e : Ent) : Int := if okI e.i = true then Pth.nameE e.nm else 1
def slotL (e : Ent) : List UInt8 := [UInt8.ofNat e.i.toNat, UInt8.ofNat (e.i.toNat / 256), UInt8.ofNat e.nm.length] ++ e.nm ++ List.replicate (13 - e.nm.length) 0
def writeL (e : Ent) : List UInt8 := if writeE e = 0 then slotL e else []
def isZ (b : List UInt8) : Bool := b.all (· == 0)
def inN (b : List UInt8) : Nat := (b.getD 0 0).toNat + 256 * (b.getD 1 0).toNat
def lenN (b : List UInt8) : Nat := (b.getD 2 0).toNat
def nameN (b : List UInt8) : List UInt8 := (b.drop 3).take (lenN b)
def entN (b : List UInt8) : Ent := ⟨(inN b : Nat), nameN b⟩
def readR (b : List UInt8) : Ent × Bool × Int :=
  if b.length ≠ 16 then (none_, false, 1)
  else if isZ b = true then (none_, false, 0)
  else if 13 < lenN b then (none_, false, 50)
  else if writeE (entN b) = 0 ∧ b = slotL (entN b) then (entN b, true, 0)
  else (none_, false, 50)
theorem okI_iff (i : Int) : okI i = true ↔ 1 ≤ i ∧ i ≤ 65535 := by unfold okI; rw [Bool.and_eq_true, decide_eq_true_iff, decide_eq_true_iff]
theorem nameE_len {nm : List UInt8} (h : Pth.nameE nm = 0) : 0 < nm.length ∧ nm.length ≤ 13 := by
  unfold Pth.nameE at h
  split at h
  · rename_i h2
    simp [Pth.nameB] at h2
    have h3 := h2.1.1.1.1
    have h4 := h2.1.1.1.2
    exact ⟨List.length_pos_iff.2 h3, h4⟩
  · omega
theorem writeE_iff (e : Ent) : writeE e = 0 ↔ (1 ≤ e.i ∧ e.i ≤ 65535) ∧ Pth.nameE e.nm = 0 := by
  unfold writeE
  split
  · rename_i h
    rw [okI_iff] at h
    exact ⟨fun g => ⟨h, g⟩, fun g => g.2⟩
  · rename_i h
    rw [okI_iff] at h
    exact ⟨fun g => absurd g (by omega), fun g => absurd g.1 h⟩
theorem slotL_len (e : Ent) (h : e.nm.length ≤ 13) : (slotL e).length = 16 := by
  unfold slotL
  rw [List.length_append, List.length_append, List.length_replicate]
  simp only [List.length_cons, List.length_nil]
  omega
theorem writeL_len (e : Ent) (h : writeE e = 0) : (writeL e).length = 16 := by
  rw [writeL, if_pos h]
  exact slotL_len e (nameE_len ((writeE_iff e).1 h).2).2
theorem isZ_rep (n : Nat) : isZ (List.replicate n 0) = true := by
  unfold isZ
  rw [List.all_eq_true]
  intro x hx
  rw [List.mem_replicate] at hx
  simp [hx.2]
theorem isZ_iff (b : List UInt8) : isZ b = true ↔ b = List.replicate b.length 0 := by
  constructor
  · intro h
    rw [isZ, List.all_eq_true] at h
    rw [List.eq_replicate_iff]
    exact ⟨rfl, fun x hx => by have := h x hx; simpa using this⟩
  · intro h; rw [h]; exact isZ_rep _
theorem ofNat_low (a b : Nat) : UInt8.ofNat (a + 256 * b) = UInt8.ofNat a := by
  apply UInt8.toNat_inj.1
  rw [UInt8.toNat_ofNat', UInt8.toNat_ofNat']
  omega
theorem slot_iff (b : List UInt8) (hl : b.length = 16) (hn : lenN b ≤ 13) : b = slotL (entN b) ↔ isZ (b.drop (3 + lenN b)) = true := by
  match b, hl with
  | x0 :: x1 :: x2 :: r, hl =>
    have hr : r.length = 13 := by simpa using hl
    have e0 : inN (x0 :: x1 :: x2 :: r) = x0.toNat + 256 * x1.toNat := rfl
    have e1 : lenN (x0 :: x1 :: x2 :: r) = x2.toNat := rfl
    rw [e1] at hn ⊢
    have e2 : nameN (x0 :: x1 :: x2 :: r) = r.take x2.toNat := rfl
    have b0 := x0.toNat_lt
    have b1 := x1.toNat_lt
    have e3 : slotL (entN (x0 :: x1 :: x2 :: r)) = x0 :: x1 :: x2 :: (r.take x2.toNat ++ List.replicate (13 - x2.toNat) 0) := by
      unfold slotL entN
      simp only [e0, e2, Int.toNat_natCast]
      have l1 : (r.take x2.toNat).length = x2.toNat := by rw [List.length_take]; omega
      rw [l1, ofNat_low, show (x0.toNat + 256 * x1.toNat) / 256 = x1.toNat by omega]
      simp
    rw [e3, show (x0 :: x1 :: x2 :: r).drop (3 + x2.toNat) = r.drop x2.toNat by rw [Nat.add_comm]; rfl, isZ_iff]
    rw [List.length_drop, hr]
    constructor
    · intro h
      injection h with _ h
      injection h with _ h
      injection h with _ h
      have h2 := congrArg (List.drop x2.toNat) h
      rw [List.drop_left' (by rw [List.length_take]; omega)] at h2
      exact h2
    · intro h
      rw [← h, List.take_append_drop]
theorem readR_used {b : List UInt8} (h : (readR b).2.1 = true) : writeE (readR b).1 = 0 ∧ writeL (readR b).1 = b ∧ (readR b).2.2 = 0 ∧ b.length = 16 := by
  unfold readR at h ⊢
  split at h
  · cases h
  · split at h
    · cases h
    · split at h
      · cases h
      · split at h
        · rename_i h1 h2 h3 h4
          rw [if_neg h1, if_neg h2, if_neg h3, if_pos h4]
          refine ⟨h4.1, ?_, rfl, by omega⟩
          rw [writeL, if_pos h4.1]; exact h4.2.symm
        · cases h
theorem readR_none {b : List UInt8} (h : (readR b).2.1 = false) : (readR b).1 = none_ := by
  unfold readR at h ⊢
  split
  · rfl
  · split
    · rfl
    · split
      · rfl
      · split
        · rename_i h1 h2 h3 h4
          rw [if_neg h1, if_neg h2, if_neg h3, if_pos h4] at h; cases h
        · rfl
theorem readR_slot (e : Ent) (h : writeE e = 0) : readR (slotL e) = (e, true, 0) := by
  obtain ⟨i, nm⟩ := e
  obtain ⟨⟨h1, h2⟩, h3⟩ := (writeE_iff _).1 h
  obtain ⟨h4, h5⟩ := nameE_len h3
  simp only at h1 h2 h4 h5
  have hl := slotL_len ⟨i, nm⟩ h5
  have e1 : lenN (slotL ⟨i, nm⟩) = nm.length := by
    show (UInt8.ofNat nm.length).toNat = _
    rw [UInt8.toNat_ofNat']; omega
  have e2 : nameN (slotL ⟨i, nm⟩) = nm := by
    unfold nameN
    rw [e1]
    show (nm ++ List.replicate (13 - nm.length) 0).take nm.length = nm
    simp
  have e3 : ((inN (slotL ⟨i, nm⟩) : Nat) : Int) = i := by
    show (((UInt8.ofNat i.toNat).toNat + 256 * (UInt8.ofNat (i.toNat / 256)).toNat : Nat) : Int) = i
    rw [UInt8.toNat_ofNat', UInt8.toNat_ofNat']
    omega
  have e4 : entN (slotL ⟨i, nm⟩) = ⟨i, nm⟩ := by unfold entN; rw [e2, e3]
  have hz : ¬ isZ (slotL ⟨i, nm⟩) = true := by
    intro hz
    rw [isZ, List.all_eq_true] at hz
    have := hz (UInt8.ofNat nm.length) (by simp [slotL])
    have h6 : UInt8.ofNat nm.length = 0 := by simpa using this
    have h7 := congrArg UInt8.toNat h6
    rw [UInt8.toNat_ofNat'] at h7
    simp at h7
    omega
  unfold readR
  rw [if_neg (by omega), if_neg hz, if_neg (by omega), e4, if_pos ⟨h, rfl⟩]
end Dir
end Go.Proofs.Ytlnomkkamopieaa
