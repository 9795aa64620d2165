/-
  The finder: at each key (three bytes) the places where it stands, rising.
-/
import Derived.Test.YtpjjfehocibljaaSqzBackw
import Derived.Test.YtpjjfehocibljaaSqzSame
import Derived.Test.YtpjjfehocibljaaMapAt
import Derived.DeepKeys4
namespace Go.Proofs.Ytpjjfehocibljaa
open Go.RowKit Go.Maps

theorem laidOutP : laidOutB Try.prog = true := by kernel_rfl
theorem rowKey : (55 : TypeId) < Try.prog.types.size := of_decide_eq_true (by kernel_rfl)
theorem wideKey : (match Try.prog.underlying 55 with | some (.array _ _) | some (.struct _) => true | _ => false) = true := by rw [Try.underlying55]
theorem keyLaw : Keyed Try.prog 55 := Keyed.of_law (deep_law_laid laidOutP (m := 2) (by omega) rowKey (by kernel_rfl) wideKey)
theorem cellsKey : Try.prog.cellsOf 55 = 3 := by kernel_rfl
abbrev Key3 := UInt8 × UInt8 × UInt8
def kvV (x : Key3) : Value := .agg #[.int .u8 (x.1.toNat : Int), .int .u8 (x.2.1.toNat : Int), .int .u8 (x.2.2.toNat : Int)]
theorem byte_wf (x : UInt8) : (Lit.int .u8 (x.toNat : Int)).wf = true := by
  have := x.toNat_lt
  simp [Lit.wf, IntKind.min, IntKind.max, IntKind.bits, IntKind.signed]
  omega
theorem kvOf (x : Key3) : ∃ l, keyOf Try.prog 55 (kvV x) = some l := by
  have hkt : Try.prog.keyType 55 = true := by kernel_rfl
  have hone : Try.prog.cellsOf 5 = 1 := by kernel_rfl
  obtain ⟨m, hm⟩ : ∃ m, Try.prog.types.size = m + 1 := ⟨_, rfl⟩
  unfold keyOf kvV
  simp only [Try.underlying55]
  rw [if_pos (by simp [hkt, Value.formed, Try.underlying55, cellsKey]), hm]
  unfold Program.keyLits
  simp only [Try.underlying55, Value.cells]
  rw [if_pos (by rw [cellsKey]; rfl), show List.range 3 = [0, 1, 2] from rfl, List.mapM_cons, List.mapM_cons, List.mapM_cons, List.mapM_nil]
  simp [hone, Program.keyLits, Try.underlying5, byte_wf]
theorem kvV_inj {x y : Key3} (h : kvV x = kvV y) : x = y := by
  unfold kvV at h
  simp only [Value.agg.injEq, Array.mk.injEq, List.cons.injEq, Value.int.injEq, true_and, and_true] at h
  obtain ⟨h1, h2, h3⟩ := h
  obtain ⟨a, b, c⟩ := x
  obtain ⟨d, e, f⟩ := y
  simp only at h1 h2 h3
  rw [UInt8.toNat_inj.1 (show a.toNat = d.toNat by omega), UInt8.toNat_inj.1 (show b.toNat = e.toNat by omega), UInt8.toNat_inj.1 (show c.toNat = f.toNat by omega)]
namespace Sqz
def keyAt (b : List UInt8) (p : Nat) : Key3 := (b.getD p 0, b.getD (p + 1) 0, b.getD (p + 2) 0)
def fits (b : List UInt8) (x : Key3) (p : Nat) : Bool := decide (p + 2 < b.length) && (keyAt b p == x)
/-- The places below k at which a key stands. -/
def placesTo (b : List UInt8) (k : Nat) (x : Key3) : List Nat := (List.range k).filter (fits b x)
theorem placesTo_succ (b : List UInt8) (k : Nat) (x : Key3) : placesTo b (k + 1) x = if fits b x k = true then placesTo b k x ++ [k] else placesTo b k x := by
  unfold placesTo
  rw [List.range_succ, List.filter_append]
  by_cases h : fits b x k = true
  · rw [if_pos h]; simp [h]
  · rw [if_neg h]; simp [h]
theorem placesTo_len (b : List UInt8) (k : Nat) (x : Key3) : (placesTo b k x).length ≤ k := by
  have := List.length_filter_le (fits b x) (List.range k)
  unfold placesTo
  simpa using this
theorem mem_placesTo {b : List UInt8} {k p : Nat} {x : Key3} : p ∈ placesTo b k x ↔ p < k ∧ fits b x p = true := by simp [placesTo]
theorem fits_same {b : List UInt8} {k p : Nat} (hk : k + 2 < b.length) (hp : p < k) : fits b (keyAt b k) p = true ↔ 3 ≤ same b p k := by
  unfold fits
  rw [Bool.and_eq_true, decide_eq_true_iff, beq_iff_eq, same_three]
  unfold keyAt
  simp only [List.getD_eq_getElem?_getD, Prod.mk.injEq]
  rw [List.getElem?_eq_getElem (show p < b.length by omega), List.getElem?_eq_getElem (show p + 1 < b.length by omega), List.getElem?_eq_getElem (show p + 2 < b.length by omega), List.getElem?_eq_getElem (show k < b.length by omega), List.getElem?_eq_getElem (show k + 1 < b.length by omega), List.getElem?_eq_getElem (show k + 2 < b.length by omega)]
  simp only [Option.getD_some, Option.some.injEq]
  constructor
  · rintro ⟨_, h1, h2, h3⟩; exact ⟨hk, h1, h2, h3⟩
  · rintro ⟨_, h1, h2, h3⟩; exact ⟨by omega, h1, h2, h3⟩
/-- The places of a key, from the last one down: what they say of distances. -/
theorem best_short {b : List UInt8} {k : Nat} (h : ¬ k + 2 < b.length) : best b k = (0, 0) := by
  unfold best
  refine bestTo_skip b k (Nat.zero_le _) (fun x _ _ => ?_)
  rcases Nat.lt_or_ge (same b (k - x) k) 3 with h2 | h2
  · exact h2
  · exact absurd (same_three.1 h2).1 h
end Sqz
/-- Block M is the map of a finder that has noted the places below k; its rows lie from block base on. -/
def Fnd (b : List UInt8) (k : Nat) (w : World) (M base : Nat) : Prop :=
  ∃ l, MapAt Try.prog 55 w M l ∧ M < base ∧ (∀ x v, (kvV x, v) ∈ l → Sqz.placesTo b k x ≠ [] ∧ Own natV 3 w base v (Sqz.placesTo b k x)) ∧ (∀ x, Sqz.placesTo b k x ≠ [] → ∃ v, (kvV x, v) ∈ l) ∧
    ∀ x y u v, (kvV x, u) ∈ l → (kvV y, v) ∈ l → x ≠ y → u.ownBlock ≠ v.ownBlock
section
variable {b : List UInt8} {k M base : Nat} {w w' : World}
theorem Fnd.keep {r : Option Nat} (h : Fnd b k w M base) (hg : w.grownBy w' r) (hr : ∀ g, r = some g → g ≠ M ∧ (g < base ∨ ∃ cs t fr, w.heap[g]? = some (.cells cs t fr) ∧ t ≠ 3)) : Fnd b k w' M base := by
  obtain ⟨l, h1, h2, h3, h4, h5⟩ := h
  refine ⟨l, h1.grown hg (fun e => (hr M e.symm).1 rfl), h2, fun x v hv => ⟨(h3 x v hv).1, (h3 x v hv).2.grown hg ?_⟩, h4, h5⟩
  by_cases he : v.ownBlock = r
  · cases hvb : v.ownBlock with
    | none => exact .inl rfl
    | some g =>
      exfalso
      rw [hvb] at he
      have ho := (h3 x v hv).2
      rcases (hr g he.symm).2 with h6 | ⟨cs, t, fr, h6, h7⟩
      · have := (ho.blockLt g hvb).1; omega
      · rcases ho.2 with ⟨rfl, _⟩ | ⟨g', cap, cur, rfl, _, hh, _⟩
        · cases hvb
        · have : g' = g := by simpa [Value.ownBlock] using hvb
          subst this
          rw [hh] at h6
          injection h6 with h6
          injection h6 with _ h6
          exact h7 h6.symm
  · exact .inr he
theorem Fnd.on (h : Fnd b k w M base) (hb : Below w.heap.size w w') : Fnd b k w' M base := h.keep (r := none) (grownNone_of_below hb) (fun g e => by cases e)
theorem Fnd.made (w : World) (b : List UInt8) : Fnd b 0 (w.alloc (.map #[] 0)) w.heap.size (w.heap.size + 1) :=
  ⟨[], MapAt.made w, by omega, (fun x v h => by cases h), (fun x h => absurd rfl h), (fun x y u v h => by cases h)⟩
/-- The look-up at a key. -/
theorem Fnd.look (h : Fnd b k w M base) (x : Key3) : ∃ v, (Instr.lookup 40 (.map (some M)) (kvV x) false).run Try.prog w = .ok v w ∧ Own natV 3 w base v (Sqz.placesTo b k x) := by
  obtain ⟨l, h1, h2, h3, h4, h5⟩ := h
  obtain ⟨kl, hkl⟩ := kvOf x
  obtain ⟨v, f, hrun, hv⟩ := h1.look keyLaw Try.underlying40 (z := .slice none 0 0) (by kernel_rfl) hkl false
  refine ⟨v, hrun, ?_⟩
  rcases hv with ⟨_, hv⟩ | ⟨_, rfl, hv⟩
  · exact (h3 x v hv).2
  · have : Sqz.placesTo b k x = [] := by
      by_cases hp : Sqz.placesTo b k x = []
      · exact hp
      · obtain ⟨v, hv2⟩ := h4 x hp
        exact absurd rfl (hv _ hv2)
    rw [this]
    exact Own.nil _ _
theorem Fnd.lookAll (h : Fnd b k w M base) (x : Key3) : ∃ v, Own natV 3 w base v (Sqz.placesTo b k x) ∧ ∀ W, Below w.heap.size w W → (Instr.lookup 40 (.map (some M)) (kvV x) false).run Try.prog W = .ok v W := by
  obtain ⟨l, h1, h2, h3, h4, h5⟩ := h
  obtain ⟨kl, hkl⟩ := kvOf x
  by_cases hp : ∃ v, (kvV x, v) ∈ l
  · obtain ⟨v, hv⟩ := hp
    refine ⟨v, (h3 x v hv).2, fun W hW => ?_⟩
    obtain ⟨v', f, hrun, hv'⟩ := (h1.on hW).look keyLaw Try.underlying40 (z := .slice none 0 0) (by kernel_rfl) hkl false
    rcases hv' with ⟨_, hv'⟩ | ⟨_, _, hv'⟩
    · rw [h1.one hv hv']; exact hrun
    · exact absurd rfl (hv' _ hv)
  · have hpl : Sqz.placesTo b k x = [] := by
      by_cases hq : Sqz.placesTo b k x = []
      · exact hq
      · exact absurd (h4 x hq) hp
    refine ⟨.slice none 0 0, by rw [hpl]; exact Own.nil _ _, fun W hW => ?_⟩
    obtain ⟨v', f, hrun, hv'⟩ := (h1.on hW).look keyLaw Try.underlying40 (z := .slice none 0 0) (by kernel_rfl) hkl false
    rcases hv' with ⟨_, hv'⟩ | ⟨_, rfl, _⟩
    · exact absurd ⟨v', hv'⟩ hp
    · exact hrun
end
end Go.Proofs.Ytpjjfehocibljaa
