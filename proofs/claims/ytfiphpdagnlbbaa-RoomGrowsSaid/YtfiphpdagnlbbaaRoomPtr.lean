/-
  The map of pointer pages that room.File keeps.
-/
import Derived.Test.YtfiphpdagnlbbaaRoomRises
import Derived.Test.YtfiphpdagnlbbaaMapAt
import Derived.DeepKeys4
namespace Go.Proofs.Ytfiphpdagnlbbaa
open Go.RowKit Go.Maps Go.ChangeMaps

theorem laidOutP : laidOutB Try.prog = true := by kernel_rfl
theorem rowKey : (50 : TypeId) < Try.prog.types.size := of_decide_eq_true (by kernel_rfl)
theorem wideKey : (match Try.prog.underlying 50 with | some (.array _ _) | some (.struct _) => true | _ => false) = true := by rw [Try.underlying50]
theorem keyLaw : Keyed Try.prog 50 := Keyed.of_law (deep_law_laid laidOutP (m := 2) (by omega) rowKey (by kernel_rfl) wideKey)
theorem cellsKey : Try.prog.cellsOf 50 = 3 := by kernel_rfl
def kV (x : Int × Int) : Value := .agg #[.int .i64 x.1, .int .i64 x.2, .int .i64 0]
theorem int_wf (x : Int) (h : -9223372036854775808 ≤ x ∧ x ≤ 9223372036854775807) : (Lit.int .i64 x).wf = true := by
  simp [Lit.wf, IntKind.min, IntKind.max, IntKind.bits, IntKind.signed]
  omega
def i64In (x : Int) : Prop := -9223372036854775808 ≤ x ∧ x ≤ 9223372036854775807
theorem kvOf (x : Int × Int) (h1 : i64In x.1) (h2 : i64In x.2) : ∃ l, keyOf Try.prog 50 (kV x) = some l := by
  have hkt : Try.prog.keyType 50 = true := by kernel_rfl
  have hone : Try.prog.cellsOf 3 = 1 := by kernel_rfl
  obtain ⟨m, hm⟩ : ∃ m, Try.prog.types.size = m + 1 := ⟨_, rfl⟩
  have w1 := int_wf x.1 h1
  have w2 := int_wf x.2 h2
  have w3 := int_wf 0 (by omega)
  unfold keyOf kV
  simp only [Try.underlying50]
  rw [if_pos (by simp [hkt, Value.formed, Try.underlying50, cellsKey]), hm]
  unfold Program.keyLits
  simp only [Try.underlying50, Value.cells]
  simp [hone, cellsKey, Program.keyLits, Try.underlying3, w1, w2, w3]
theorem kV_inj {x y : Int × Int} (h : kV x = kV y) : x = y := by
  unfold kV at h
  simp only [Value.agg.injEq, Array.mk.injEq, List.cons.injEq, Value.int.injEq, true_and, and_true] at h
  obtain ⟨a, b⟩ := x
  obtain ⟨d, e⟩ := y
  simp only at h
  rw [h.1, h.2]
section
variable {P : Program} {k : TypeId} {w : World} {b : Nat} {l : List (Value × Value)} {key : Value} {t e : TypeId} {kl : Lit}
/-- The map behind m[key]'s entry has the key. -/
theorem MapAt.mid (h : MapAt P k w b l) (K : Keyed P k) (ht : P.underlying t = some (.map k e)) {z : Value} (hz : (zeroValue e).run P w = .ok z w) (hkey : keyOf P k key = some kl) {v st : Value} {w1 : World}
    (hrun : (Instr.mapEntry t (.map (some b)) key).run P w = .ok (.tuple #[v, st]) w1) : ∃ l1, MapAt P k w1 b l1 ∧ (key, v) ∈ l1 := by
  obtain ⟨es, clock, hb, rfl, hborn, hnb, hnk, hkeys⟩ := h
  have hk : ∀ x ∈ es.toList, ∃ l, keyOf P k x.key = some l := fun x hx => hkeys (x.key, x.val) (List.mem_map.2 ⟨x, hx, rfl⟩)
  rcases K.find w hkey es.toList hk with ⟨h1, h2⟩ | ⟨j, e0, h1, h2, h3⟩
  · have hP : PutAt (es.toList.map fun e => (e.key, e.val)) key z ((es.toList.map fun e => (e.key, e.val)) ++ [(key, z)]) := .inr ⟨fun p hp => by obtain ⟨x, hx, rfl⟩ := List.mem_map.1 hp; exact h2 x hx, rfl⟩
    have hr : (Instr.mapEntry t (.map (some b)) key).run P w = .ok (.tuple #[z, goInt clock]) (setBlock w b (.map (es.push ⟨key, z, clock⟩) (clock + 1))) := by
      simp [Instr.mapEntry, run_underlying ht, MapKept.run_getObj_map hb, K.check w false hkey, h1, hz, MapKept.run_setObj_map _ hb, Result.andThen, setBlock]
    rw [hr] at hrun
    injection hrun with e1 e2
    simp only [Value.tuple.injEq, Array.mk.injEq, List.cons.injEq, and_true] at e1
    obtain ⟨rfl, _⟩ := e1
    subst e2
    refine ⟨_, ⟨_, _, heap_setBlock_same hb _, rfl, ?_, ?_, ?_, ?_⟩, by simp⟩
    · intro x hx
      simp only [Array.toList_push, List.mem_append, List.mem_singleton] at hx
      rcases hx with hx | rfl
      · have := hborn x hx; omega
      · show clock < clock + 1; omega
    · rw [Array.toList_push, List.map_append, List.nodup_append]
      refine ⟨hnb, by simp, ?_⟩
      rintro a ha c hc rfl
      obtain ⟨x, hx, rfl⟩ := List.mem_map.1 ha
      simp at hc
      have := hborn x hx; omega
    · have := hP.keys hnk
      simpa using this
    · intro p hp
      simp only [Array.toList_push, List.map_append, List.map_cons, List.map_nil, List.mem_append, List.mem_singleton] at hp
      rcases hp with hp | rfl
      · exact hkeys p hp
      · exact ⟨kl, hkey⟩
  · have hj : es[j]? = some e0 := by simpa using h2
    have hsame : es.modify j (fun e => { e with key := key }) = es := by
      apply Array.ext'
      rw [Array.toList_modify, modify_eq_set _ _ _ _ h2]
      have : ({ e0 with key := key } : MapEntry) = e0 := by rw [← h3]
      rw [this]
      exact WideElems.set_self _ _ _ h2
    have hr : (Instr.mapEntry t (.map (some b)) key).run P w = .ok (.tuple #[e0.val, goInt e0.born]) (setBlock w b (.map es clock)) := by
      simp [Instr.mapEntry, run_underlying ht, MapKept.run_getObj_map hb, K.check w false hkey, h1, hj, h3, K.stays w hkey, hsame, MapKept.run_setObj_map _ hb, Result.andThen, setBlock]
    rw [hr] at hrun
    injection hrun with e1 e2
    simp only [Value.tuple.injEq, Array.mk.injEq, List.cons.injEq, and_true] at e1
    obtain ⟨rfl, _⟩ := e1
    subst e2
    exact ⟨_, ⟨_, _, heap_setBlock_same hb _, rfl, hborn, hnb, hnk, hkeys⟩, List.mem_map.2 ⟨e0, List.mem_of_getElem? h2, by rw [h3]⟩⟩
end
/-- Block M is the map: at each of L's keys a count. -/
def Ptr (L : List (Int × Int)) (bd : Int) (w : World) (M : Nat) : Prop :=
  ∃ l, MapAt Try.prog 50 w M l ∧ (∀ p ∈ l, ∃ x v, p = (kV x, .int .i64 v) ∧ x ∈ L ∧ 0 ≤ v ∧ v ≤ bd) ∧ (∀ x ∈ L, ∃ v, (kV x, v) ∈ l) ∧ l.length = Room.nd L
theorem Ptr.made (w : World) : Ptr [] 0 (w.alloc (.map #[] 0)) w.heap.size := ⟨[], MapAt.made w, by simp, by simp, rfl⟩
theorem Ptr.on {L : List (Int × Int)} {bd : Int} {w w' : World} {M : Nat} (h : Ptr L bd w M) (hb : Below w.heap.size w w') : Ptr L bd w' M := by
  obtain ⟨l, h1, h2⟩ := h
  exact ⟨l, h1.on hb, h2⟩
theorem Ptr.lt {L : List (Int × Int)} {bd : Int} {w : World} {M : Nat} (h : Ptr L bd w M) : M < w.heap.size := by obtain ⟨_, h1, _⟩ := h; exact h1.lt
theorem Ptr.size {L : List (Int × Int)} {bd : Int} {w : World} {M : Nat} (h : Ptr L bd w M) : ∃ es clock, w.heap[M]? = some (.map es clock) ∧ es.size = Room.nd L := by
  obtain ⟨l, h1, _, _, h2⟩ := h
  rw [← h2]
  exact h1.size
/-- One more at a key. -/
theorem Ptr.step {L : List (Int × Int)} {bd : Int} {w : World} {M : Nat} (h : Ptr L bd w M) (x : Int × Int) (k1 : i64In x.1) (k2 : i64In x.2) (hbd : 0 ≤ bd) :
    ∃ v st o, 0 ≤ v ∧ v ≤ bd ∧ (Instr.lookup 48 (.map (some M)) (kV x) false).run Try.prog w = .ok (.int .i64 v) w ∧
      (Instr.mapEntry 48 (.map (some M)) (kV x)).run Try.prog w = .ok (.tuple #[.int .i64 v, st]) (setBlock w M o) ∧
      (Instr.lookup 48 (.map (some M)) (kV x) false).run Try.prog (setBlock w M o) = .ok (.int .i64 v) (setBlock w M o) ∧
      w.grownBy (setBlock w M o) (some M) ∧ ∃ o', (Instr.entryStore 48 (.map (some M)) st (.int .i64 (v + 1))).run Try.prog (setBlock w M o) = .ok () (setBlock (setBlock w M o) M o') ∧
        Ptr (L ++ [x]) (bd + 1) (setBlock (setBlock w M o) M o') M ∧ (setBlock w M o).grownBy (setBlock (setBlock w M o) M o') (some M) := by
  obtain ⟨l, h1, h2, h3, h4⟩ := h
  obtain ⟨kl, hkl⟩ := kvOf x k1 k2
  obtain ⟨v, st, o, hrun, hv, hM, _, hg, hback⟩ := h1.entry keyLaw Try.underlying48 (z := .int .i64 0) (by kernel_rfl) hkl
  obtain ⟨l1, hm1, hin⟩ := h1.mid keyLaw Try.underlying48 (z := .int .i64 0) (by kernel_rfl) hkl hrun
  obtain ⟨v2, f2, hl2, hc2⟩ := hm1.look keyLaw Try.underlying48 (z := .int .i64 0) (by kernel_rfl) hkl false
  obtain ⟨v3, f3, hl3, hc3⟩ := h1.look keyLaw Try.underlying48 (z := .int .i64 0) (by kernel_rfl) hkl false
  have e2 : v2 = v := by
    rcases hc2 with ⟨_, hc⟩ | ⟨_, _, hc⟩
    · exact hm1.one hc hin
    · exact absurd rfl (hc _ hin)
  have e3 : v3 = v := by
    rcases hc3 with ⟨_, hc⟩ | ⟨_, rfl, hc⟩ <;> rcases hv with hv | ⟨rfl, hv⟩
    · exact h1.one hc hv
    · exact absurd rfl (hv _ hc)
    · exact absurd rfl (hc _ hv)
    · rfl
  obtain ⟨u, rfl, u0, u1⟩ : ∃ u : Int, v = .int .i64 u ∧ 0 ≤ u ∧ u ≤ bd := by
    rcases hv with hv | ⟨rfl, _⟩
    · obtain ⟨y, u, he, _, hu0, hu1⟩ := h2 _ hv
      injection he with _ he
      exact ⟨u, he, hu0, hu1⟩
    · exact ⟨0, rfl, Int.le_refl _, hbd⟩
  rw [e2] at hl2
  rw [e3] at hl3
  obtain ⟨l', o', hst, hP, hM', hg'⟩ := hback (setBlock w M o) (.int .i64 (u + 1)) hM
  have hmem := hP.mem h1.nodup
  have hxin : x ∈ L ↔ ∃ v, (kV x, v) ∈ l := ⟨fun hx => h3 x hx, fun ⟨v, hv⟩ => by
    obtain ⟨y, u, he, hy, _⟩ := h2 _ hv
    injection he with he _
    rw [kV_inj he]; exact hy⟩
  refine ⟨u, st, o, u0, u1, by simpa using hl3, hrun, by simpa using hl2, hg, o', hst, ⟨l', hM', fun p hp => ?_, fun y hy => ?_, ?_⟩, hg'⟩
  · obtain ⟨pk, pv⟩ := p
    rcases (hmem _ _).1 hp with ⟨rfl, rfl⟩ | ⟨_, hp⟩
    · exact ⟨x, u + 1, rfl, by simp, by omega, by omega⟩
    · obtain ⟨y, u, he, hy, a1, a2⟩ := h2 _ hp
      exact ⟨y, u, he, by simp [hy], a1, by omega⟩
  · by_cases e : y = x
    · subst e
      exact ⟨_, (hmem _ _).2 (.inl ⟨rfl, rfl⟩)⟩
    · have hy' : y ∈ L := by simpa [e] using hy
      obtain ⟨v, hv⟩ := h3 y hy'
      exact ⟨v, (hmem _ _).2 (.inr ⟨fun e2 => e (kV_inj e2), hv⟩)⟩
  · rw [Room.nd_snoc]
    rcases hP.len with ⟨hh, he⟩ | ⟨hh, he⟩
    · rw [if_pos (hxin.2 hh), he, h4]
    · rw [if_neg (fun hx => by obtain ⟨v, hv⟩ := hxin.1 hx; exact hh _ hv rfl), he, h4]
end Go.Proofs.Ytfiphpdagnlbbaa
