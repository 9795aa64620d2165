/-
  The places that the matcher has tried: a map of pairs of numbers.
-/
import Derived.Test.YtlnjfnpoabcllaaGlbMem
import Derived.Test.YtlnjfnpoabcllaaGlbMarks
import Derived.Test.YtlnjfnpoabcllaaMapAt
import Derived.Test.YtlnjfnpoabcllaaStr
import Derived.DeepKeys4
namespace Go.Proofs.Ytlnjfnpoabcllaa
open Go.RowKit Go.Maps Go.ChangeMaps

theorem laidOutP : laidOutB Try.prog = true := by kernel_rfl
theorem rowKey : (80 : TypeId) < Try.prog.types.size := of_decide_eq_true (by kernel_rfl)
theorem wideKey : (match Try.prog.underlying 80 with | some (.array _ _) | some (.struct _) => true | _ => false) = true := by rw [Try.underlying80]
theorem keyLaw : Keyed Try.prog 80 := Keyed.of_law (deep_law_laid laidOutP (m := 2) (by omega) rowKey (by kernel_rfl) wideKey)
theorem cellsKey : Try.prog.cellsOf 80 = 2 := by kernel_rfl
def kP (x : Nat × Nat) : Value := .agg #[.int .i64 (x.1 : Int), .int .i64 (x.2 : Int)]
theorem nat_wf (x : Nat) (h : x ≤ 1000000) : (Lit.int .i64 (x : Int)).wf = true := by
  simp [Lit.wf, IntKind.min, IntKind.max, IntKind.bits, IntKind.signed]
  omega
theorem kPOf (x : Nat × Nat) (h1 : x.1 ≤ 1000000) (h2 : x.2 ≤ 1000000) : ∃ l, keyOf Try.prog 80 (kP x) = some l := by
  have hkt : Try.prog.keyType 80 = true := by kernel_rfl
  have hone : Try.prog.cellsOf 3 = 1 := by kernel_rfl
  obtain ⟨m, hm⟩ : ∃ m, Try.prog.types.size = m + 1 := ⟨_, rfl⟩
  have w1 := nat_wf x.1 h1
  have w2 := nat_wf x.2 h2
  unfold keyOf kP
  simp only [Try.underlying80]
  rw [if_pos (by simp [hkt, Value.formed, Try.underlying80, cellsKey]), hm]
  unfold Program.keyLits
  simp only [Try.underlying80, Value.cells]
  rw [if_pos (by rw [cellsKey]; rfl), show List.range 2 = [0, 1] from rfl, List.mapM_cons, List.mapM_cons, List.mapM_nil]
  simp [hone, Program.keyLits, Try.underlying3, w1, w2]
theorem kP_inj {x y : Nat × Nat} (h : kP x = kP y) : x = y := by
  unfold kP at h
  simp only [Value.agg.injEq, Array.mk.injEq, List.cons.injEq, Value.int.injEq, true_and, and_true] at h
  obtain ⟨a, b⟩ := x
  obtain ⟨d, e⟩ := y
  simp only at h
  rw [show a = d by omega, show b = e by omega]
/-- Block M is a map whose keys are the pairs that T names. -/
def Tr (w : World) (M : Nat) (T : Nat × Nat → Prop) : Prop := ∃ l, MapAt Try.prog 80 w M l ∧ ∀ p, T p ↔ ∃ v, (kP p, v) ∈ l
theorem Tr.lt {w : World} {M : Nat} {T : Nat × Nat → Prop} (h : Tr w M T) : M < w.heap.size := by obtain ⟨l, h, _⟩ := h; exact h.lt
theorem Tr.on {w w' : World} {M : Nat} {T : Nat × Nat → Prop} (h : Tr w M T) (hb : Below w.heap.size w w') : Tr w' M T := by obtain ⟨l, h, h2⟩ := h; exact ⟨l, h.on hb, h2⟩
theorem Tr.made (w : World) : Tr (w.alloc (.map #[] 0)) w.heap.size (fun _ => False) := ⟨[], MapAt.made w, fun p => ⟨fun h => h.elim, fun ⟨_, h⟩ => by cases h⟩⟩
theorem Tr.look {w : World} {M : Nat} {T : Nat × Nat → Prop} (h : Tr w M T) (p : Nat × Nat) (h1 : p.1 ≤ 1000000) (h2 : p.2 ≤ 1000000) :
    ∃ v f, (Instr.lookup 78 (.map (some M)) (kP p) true).run Try.prog w = .ok (.tuple #[v, .bool f]) w ∧ (f = true ↔ T p) := by
  obtain ⟨l, h, hT⟩ := h
  obtain ⟨kl, hkl⟩ := kPOf p h1 h2
  obtain ⟨v, f, hrun, hv⟩ := h.look keyLaw Try.underlying78 (z := .int .i64 0) (by kernel_rfl) hkl true
  refine ⟨v, f, hrun, ?_⟩
  rw [hT]
  rcases hv with ⟨rfl, hv⟩ | ⟨rfl, _, hv⟩
  · exact ⟨fun _ => ⟨v, hv⟩, fun _ => rfl⟩
  · exact ⟨fun h => (by cases h), fun ⟨u, hu⟩ => absurd rfl (hv _ hu)⟩
theorem Tr.put {w : World} {M : Nat} {T : Nat × Nat → Prop} (h : Tr w M T) (p : Nat × Nat) (h1 : p.1 ≤ 1000000) (h2 : p.2 ≤ 1000000) :
    ∃ o, (Instr.mapUpdate 78 (.map (some M)) (kP p) (.int .i64 1)).run Try.prog w = .ok () (setBlock w M o) ∧ Tr (setBlock w M o) M (fun q => T q ∨ q = p) ∧ w.grownBy (setBlock w M o) (some M) := by
  obtain ⟨l, h, hT⟩ := h
  obtain ⟨kl, hkl⟩ := kPOf p h1 h2
  obtain ⟨l', o, hrun, hP, hm, hg⟩ := h.put keyLaw Try.underlying78 hkl (.int .i64 1)
  refine ⟨o, hrun, ⟨l', hm, fun q => ?_⟩, hg⟩
  show (T q ∨ q = p) ↔ _
  rw [hT]
  constructor
  · rintro (⟨v, hv⟩ | rfl)
    · by_cases hq : q = p
      · subst hq; exact ⟨_, (hP.mem h.nodup _ _).2 (.inl ⟨rfl, rfl⟩)⟩
      · exact ⟨v, (hP.mem h.nodup _ _).2 (.inr ⟨fun e => hq (kP_inj e), hv⟩)⟩
    · exact ⟨_, (hP.mem h.nodup _ _).2 (.inl ⟨rfl, rfl⟩)⟩
  · rintro ⟨v, hv⟩
    rcases (hP.mem h.nodup _ _).1 hv with ⟨e, _⟩ | ⟨_, hv⟩
    · exact .inr (kP_inj e)
    · exact .inl ⟨v, hv⟩
theorem grown_trans {w w1 w2 : World} {r : Option Nat} (h : w.grownBy w1 r) (h2 : w1.grownBy w2 r) : w.grownBy w2 r :=
  ⟨h2.os.trans h.os, h2.tape.trans h.tape, h2.output.trans h.output, Nat.le_trans h.size h2.size, fun k hk hr => (h2.block k (Nat.lt_of_lt_of_le hk h.size) hr).trans (h.block k hk hr)⟩
theorem grown_of_belowR {w w' : World} {r : Option Nat} (h : Below w.heap.size w w') : w.grownBy w' r := ⟨h.os, h.tape, h.output, h.size, fun k hk _ => h.block k hk⟩
/-- What the matcher's closure has captured. -/
structure Env (S : Nat → Prop) (gs : List Glb.Gm) (s : List UInt8) (a : Option Addr) (n c TB LB NB CB M : Nat) (w : World) : Prop where
  tb : Blk w TB 78 #[.map (some M)]
  lb : Blk w LB 46 #[.slice a n c]
  nb : Blk w NB 9 #[.string (strL s)]
  cb : Blk w CB 79 #[.func (.func 42) #[] #[.pointer (some ⟨TB, 0, none⟩), .pointer (some ⟨LB, 0, none⟩), .pointer (some ⟨NB, 0, none⟩), .pointer (some ⟨CB, 0, none⟩)]]
  ms : MarksS S w a n gs
  ne : TB ≠ M ∧ LB ≠ M ∧ NB ≠ M ∧ CB ≠ M
  sb : ∀ b, S b → b ≠ M ∧ b < w.heap.size
theorem Env.grown {S : Nat → Prop} {gs : List Glb.Gm} {s : List UInt8} {a : Option Addr} {n c TB LB NB CB M : Nat} {w w' : World} (h : Env S gs s a n c TB LB NB CB M w) (hg : w.grownBy w' (some M)) : Env S gs s a n c TB LB NB CB M w' where
  tb := h.tb.grown hg (fun e => h.ne.1 (Option.some.inj e))
  lb := h.lb.grown hg (fun e => h.ne.2.1 (Option.some.inj e))
  nb := h.nb.grown hg (fun e => h.ne.2.2.1 (Option.some.inj e))
  cb := h.cb.grown hg (fun e => h.ne.2.2.2 (Option.some.inj e))
  ms := h.ms.keep fun b _ hS => World.cell?_of_block (hg.block b (h.sb b hS).2 fun e => (h.sb b hS).1 (Option.some.inj e))
  ne := h.ne
  sb := fun b hS => ⟨(h.sb b hS).1, Nat.lt_of_lt_of_le (h.sb b hS).2 hg.size⟩
theorem Env.on {S : Nat → Prop} {gs : List Glb.Gm} {s : List UInt8} {a : Option Addr} {n c TB LB NB CB M : Nat} {w w' : World} (h : Env S gs s a n c TB LB NB CB M w) (hb : Below w.heap.size w w') : Env S gs s a n c TB LB NB CB M w' := h.grown (grown_of_belowR hb)
namespace Glb
/-- What the matcher asks at a place. -/
def D (gs : List Gm) (s : List UInt8) (p : Nat × Nat) : Bool := mt ((gs.drop p.1).map abG) (s.drop p.2)
variable {gs : List Gm} {s : List UInt8} {i k : Nat}
theorem D_end (hi : i = gs.length) (hk : k ≤ s.length) : D gs s (i, k) = ((k : Int) == (s.length : Int)) := by
  subst hi
  unfold D
  rw [List.drop_length, Bool.eq_iff_iff]
  show mt [] _ = true ↔ _
  rw [mt_nil, List.drop_eq_nil_iff]
  simp only [beq_iff_eq]
  omega
theorem D_many_end (hi : i < gs.length) (hm : gs[i].k = 2) (hk : k = s.length) : D gs s (i, k) = D gs s (i + 1, k) := by
  subst hk
  unfold D
  simp only
  rw [List.drop_eq_getElem_cons hi, List.drop_length, List.map_cons, mt_many_nil (by simp [abG, hm])]
theorem D_many (hi : i < gs.length) (hm : gs[i].k = 2) (hk : k < s.length) : D gs s (i, k) = (D gs s (i + 1, k) || D gs s (i, k + 1)) := by
  unfold D
  simp only
  conv => lhs; rw [List.drop_eq_getElem_cons hi, List.drop_eq_getElem_cons hk, List.map_cons, mt_many_cons (by simp [abG, hm])]
  conv => rhs; rw [List.drop_eq_getElem_cons hi, List.map_cons, List.drop_eq_getElem_cons hk]
theorem D_one_end (hi : i < gs.length) (hm : gs[i].k ≠ 2) (hk : k = s.length) : D gs s (i, k) = false := by
  subst hk
  unfold D
  simp only
  rw [List.drop_eq_getElem_cons hi, List.drop_length, List.map_cons, mt_one_nil (by simpa [abG] using hm)]
theorem D_one (hi : i < gs.length) (hm : gs[i].k ≠ 2) (hk : k < s.length) : D gs s (i, k) = (standsB gs[i] s[k] && D gs s (i + 1, k + 1)) := by
  unfold D
  simp only
  rw [List.drop_eq_getElem_cons hi, List.drop_eq_getElem_cons hk, List.map_cons, mt_one_cons (by simpa [abG] using hm)]
  rfl
theorem stands_many {m : Gm} (hm : m.k = 2) (c : UInt8) : standsB m c = true := by
  unfold standsB
  rw [if_neg (by omega), if_neg (by omega)]
end Glb
/-- What a look at a place leaves. -/
def TryR (gs : List Glb.Gm) (s : List UInt8) (W : World) (M : Nat) (T : Nat × Nat → Prop) (i k : Nat) (e : Ending) (W' : World) : Prop :=
  e = .returned (.bool (Glb.D gs s (i, k))) ∧ W.grownBy W' (some M) ∧ ∃ T', Tr W' M T' ∧ (Glb.D gs s (i, k) = false → ∀ p, T' p → T p ∨ (i ≤ p.1 ∧ k ≤ p.2 ∧ Glb.D gs s p = false))
end Go.Proofs.Ytlnjfnpoabcllaa
