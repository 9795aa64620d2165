import Derived.Test.YtcppkaphlcflgaaGreatMem
import Derived.Maps.Keyed
import Derived.WideKeyEntry
import Derived.Maps.OwnRows
namespace Go.Proofs.YtcppkaphlcflgaaGreat
open Lib (hid)
set_option maxRecDepth 100000
set_option maxHeartbeats 16000000
open Go.RowKit Go.Maps Go.ChangeMaps

def MapAt (P : Program) (k : TypeId) (w : World) (b : Nat) (l : List (Value × Value)) : Prop :=
 ∃ es clock, w.heap[b]? = some (.map es clock) ∧ es.toList.map (fun e => (e.key, e.val)) = l ∧ (∀ x ∈ es.toList, x.born < clock) ∧ (es.toList.map (·.born)).Nodup ∧ (l.map (·.1)).Nodup ∧ ∀ p ∈ l, ∃ kl, keyOf P k p.1 = some kl
def PutAt (l : List (Value × Value)) (key val : Value) (l' : List (Value × Value)) : Prop :=
 (∃ l1 v0 l2, l = l1 ++ (key, v0) :: l2 ∧ l' = l1 ++ (key, val) :: l2) ∨ ((∀ p ∈ l, p.1 ≠ key) ∧ l' = l ++ [(key, val)])
section
variable {P : Program} {k : TypeId} {w w' : World} {b : Nat} {l l' : List (Value × Value)} {key val : Value}
theorem MapAt.lt (h : MapAt P k w b l) : b < w.heap.size := by obtain ⟨_, _, hb, _⟩ := h; exact (Array.getElem?_eq_some_iff.1 hb).1
theorem MapAt.same (h : MapAt P k w b l) (hb : w'.heap[b]? = w.heap[b]?) : MapAt P k w' b l := by
 obtain ⟨es, clock, h1, h2⟩ := h
 exact ⟨es, clock, hb.trans h1, h2⟩
theorem MapAt.on (h : MapAt P k w b l) (hb : Below w.heap.size w w') : MapAt P k w' b l := h.same (hb.block b h.lt)
theorem MapAt.alloc (h : MapAt P k w b l) (o : Obj) : MapAt P k (w.alloc o) b l := h.same (Below.heap_alloc w o b h.lt)
theorem MapAt.made (w : World) : MapAt P k (w.alloc (.map #[] 0)) w.heap.size [] := ⟨#[], 0, (MapKept.heap_alloc w _).1, rfl, by simp, by simp, by simp, by simp⟩
theorem MapAt.nodup (h : MapAt P k w b l) : (l.map (·.1)).Nodup := by obtain ⟨_, _, _, _, _, _, h, _⟩ := h; exact h
theorem MapAt.one (h : MapAt P k w b l) {u v : Value} (h1 : (key, u) ∈ l) (h2 : (key, v) ∈ l) : u = v := by
 have hn := h.nodup
 clear h
 induction l with
 | nil => cases h1
 | cons p t ih =>
  rw [List.map_cons, List.nodup_cons] at hn
  rcases List.mem_cons.1 h1 with e1 | e1 <;> rcases List.mem_cons.1 h2 with e2 | e2
  ·rw [← e1] at e2; injection e2 with _ e3; exact e3.symm
  ·exact absurd (List.mem_map.2 ⟨_, e2, by rw [← e1]⟩) hn.1
  ·exact absurd (List.mem_map.2 ⟨_, e1, by rw [← e2]⟩) hn.1
  ·exact ih e1 e2 hn.2
theorem PutAt.mem (h : PutAt l key val l') (hn : (l.map (·.1)).Nodup) (key' v : Value) : (key', v) ∈ l' ↔ (key' = key ∧ v = val) ∨ (key' ≠ key ∧ (key', v) ∈ l) := by
 rcases h with ⟨l1, v0, l2, rfl, rfl⟩ | ⟨h1, rfl⟩
 ·rw [List.map_append, List.map_cons, List.nodup_append, List.nodup_cons] at hn
  obtain ⟨_, ⟨n2, _⟩, n4⟩ := hn
  have m1 : ∀ v, (key, v) ∉ l1 := fun v hv => n4 key (List.mem_map.2 ⟨_, hv, rfl⟩) key (by simp) rfl
  have m2 : ∀ v, (key, v) ∉ l2 := fun v hv => n2 (List.mem_map.2 ⟨_, hv, rfl⟩)
  simp only [List.mem_append, List.mem_cons, Prod.mk.injEq]
  by_cases he : key' = key
  ·subst he
   simp [m1, m2]
  ·simp [he]
 ·simp only [List.mem_append, List.mem_singleton, Prod.mk.injEq]
  by_cases he : key' = key
  ·subst he
   have : (key', v) ∉ l := fun hv => h1 _ hv rfl
   simp [this]
  ·simp [he]
theorem PutAt.len (h : PutAt l key val l') : ((∃ v, (key, v) ∈ l) ∧ l'.length = l.length) ∨ ((∀ p ∈ l, p.1 ≠ key) ∧ l'.length = l.length + 1) := by
 rcases h with ⟨l1, v0, l2, rfl, rfl⟩ | ⟨h1, rfl⟩
 ·exact .inl ⟨⟨v0, by simp⟩, by simp⟩
 ·exact .inr ⟨h1, by simp⟩
theorem PutAt.keys (h : PutAt l key val l') (hn : (l.map (·.1)).Nodup) : (l'.map (·.1)).Nodup := by
 rcases h with ⟨l1, v0, l2, rfl, rfl⟩ | ⟨h1, rfl⟩
 ·simpa using hn
 ·rw [List.map_append, List.nodup_append]
  refine ⟨hn, by simp, ?_⟩
  rintro a ha c hc rfl
  obtain ⟨p, hp, rfl⟩ := List.mem_map.1 ha
  simp at hc
  exact h1 p hp hc

theorem modify_pairs {es : Array MapEntry} {j : Nat} {e0 : MapEntry} (h2 : es.toList[j]? = some e0) (f : MapEntry → MapEntry) : ∃ s1 s2, es.toList = s1 ++ e0 :: s2 ∧ (es.modify j f).toList = s1 ++ f e0 :: s2 := by
 obtain ⟨hj, he⟩ := List.getElem?_eq_some_iff.1 h2
 refine ⟨es.toList.take j, es.toList.drop (j + 1), ?_, ?_⟩
 ·rw [← he, ← List.drop_eq_getElem_cons hj, List.take_append_drop]
 ·rw [Array.toList_modify, modify_eq_set _ _ _ _ h2, List.set_eq_take_append_cons_drop, if_pos hj]
theorem setBlock_grown (h : MapAt P k w b l) (o : Obj) : w.grownBy (setBlock w b o) (some b) := by
 obtain ⟨_, _, hb, _⟩ := h
 exact ⟨rfl, rfl, rfl, by simp [setBlock], fun i _ hi => heap_setBlock_other hb _ (fun e1 => hi (by rw [e1]))⟩
variable {t e : TypeId} {kl : Lit}
theorem MapAt.look (h : MapAt P k w b l) (K : Keyed P k) (ht : P.underlying t = some (.map k e)) {z : Value} (hz : (zeroValue e).run P w = .ok z w) (hkey : keyOf P k key = some kl) (ok : Bool) :
  ∃ v f, (Instr.lookup t (.map (some b)) key ok).run P w = .ok (if ok then .tuple #[v, .bool f] else v) w ∧ ((f = true ∧ (key, v) ∈ l) ∨ (f = false ∧ v = z ∧ ∀ p ∈ l, p.1 ≠ key)) := by
 obtain ⟨es, clock, hb, rfl, hborn, hnb, hnk, hkeys⟩ := h
 have hk : ∀ x ∈ es.toList, ∃ l, keyOf P k x.key = some l := fun x hx => hkeys (x.key, x.val) (List.mem_map.2 ⟨x, hx, rfl⟩)
 rcases K.find w hkey es.toList hk with ⟨h1, h2⟩ | ⟨j, e0, h1, h2, h3⟩
 ·refine ⟨z, false, ?_, .inr ⟨rfl, rfl, ?_⟩⟩
  ·simp [Instr.lookup, run_underlying ht, MapKept.run_getObj_map hb, K.check w _ hkey, h1, hz, Result.andThen]
  ·intro p hp
   obtain ⟨x, hx, rfl⟩ := List.mem_map.1 hp
   exact h2 x hx
 ·refine ⟨e0.val, true, ?_, .inl ⟨rfl, ?_⟩⟩
  ·simp [Instr.lookup, run_underlying ht, MapKept.run_getObj_map hb, K.check w _ hkey, h1, Result.andThen]
  ·exact List.mem_map.2 ⟨e0, List.mem_of_getElem? h2, by rw [h3]⟩
theorem MapAt.put (h : MapAt P k w b l) (K : Keyed P k) (ht : P.underlying t = some (.map k e)) (hkey : keyOf P k key = some kl) (val : Value) :
  ∃ l' o, (Instr.mapUpdate t (.map (some b)) key val).run P w = .ok () (setBlock w b o) ∧ PutAt l key val l' ∧ MapAt P k (setBlock w b o) b l' ∧ w.grownBy (setBlock w b o) (some b) := by
 have hG := fun o => setBlock_grown h o
 obtain ⟨es, clock, hb, rfl, hborn, hnb, hnk, hkeys⟩ := h
 have hk : ∀ x ∈ es.toList, ∃ l, keyOf P k x.key = some l := fun x hx => hkeys (x.key, x.val) (List.mem_map.2 ⟨x, hx, rfl⟩)
 rcases K.find w hkey es.toList hk with ⟨h1, h2⟩ | ⟨j, e0, h1, h2, h3⟩
 ·have hP : PutAt (es.toList.map fun e => (e.key, e.val)) key val ((es.toList.map fun e => (e.key, e.val)) ++ [(key, val)]) := .inr ⟨fun p hp => by obtain ⟨x, hx, rfl⟩ := List.mem_map.1 hp; exact h2 x hx, rfl⟩
  refine ⟨_, .map (es.push ⟨key, val, clock⟩) (clock + 1), ?_, hP, ⟨_, _, heap_setBlock_same hb _, by simp, ?_, ?_, hP.keys hnk, ?_⟩, hG _⟩
  ·simp [Instr.mapUpdate, run_underlying ht, MapKept.run_getObj_map hb, K.check w false hkey, h1, MapKept.run_setObj_map _ hb, Result.andThen, setBlock]
  ·intro x hx
   simp only [Array.toList_push, List.mem_append, List.mem_singleton] at hx
   rcases hx with hx | rfl
   ·have := hborn x hx; omega
   ·show clock < clock + 1; omega
  ·rw [Array.toList_push, List.map_append, List.nodup_append]
   refine ⟨hnb, by simp, ?_⟩
   rintro a ha c hc rfl
   obtain ⟨x, hx, rfl⟩ := List.mem_map.1 ha
   simp at hc
   have := hborn x hx; omega
  ·intro p hp
   rcases List.mem_append.1 hp with hp | hp
   ·exact hkeys p hp
   ·simp at hp; subst hp; exact ⟨kl, hkey⟩
 ·have hj : es[j]? = some e0 := by simpa using h2
  obtain ⟨s1, s2, q1, q2⟩ := modify_pairs h2 (fun e' => { e' with key := key, val := val })
  have hP : PutAt (es.toList.map fun e => (e.key, e.val)) key val ((s1.map fun e => (e.key, e.val)) ++ (key, val) :: (s2.map fun e => (e.key, e.val))) := .inl ⟨_, e0.val, _, by rw [q1, List.map_append, List.map_cons, h3], rfl⟩
  refine ⟨_, .map (es.modify j (fun e' => { e' with key := key, val := val })) clock, ?_, hP, ⟨_, _, heap_setBlock_same hb _, by rw [q2]; simp, ?_, ?_, hP.keys hnk, ?_⟩, hG _⟩
  ·simp [Instr.mapUpdate, run_underlying ht, MapKept.run_getObj_map hb, K.check w false hkey, h1, hj, h3, K.stays w hkey, MapKept.run_setObj_map _ hb, Result.andThen, setBlock]
  ·intro x hx
   rw [q2] at hx
   rw [q1] at hborn
   simp only [List.mem_append, List.mem_cons] at hx
   rcases hx with hx | rfl | hx
   ·exact hborn x (by simp [hx])
   ·exact hborn e0 (by simp)
   ·exact hborn x (by simp [hx])
  ·rw [q2]
   rw [q1] at hnb
   simpa using hnb
  ·intro p hp
   rw [q1] at hkeys
   simp only [List.mem_append, List.mem_cons] at hp
   rcases hp with hp | rfl | hp
   ·exact hkeys p (by simp only [List.map_append, List.map_cons, List.mem_append, List.mem_cons]; exact .inl hp)
   ·exact ⟨kl, hkey⟩
   ·exact hkeys p (by simp only [List.map_append, List.map_cons, List.mem_append, List.mem_cons]; exact .inr (.inr hp))
theorem MapAt.entry (h : MapAt P k w b l) (K : Keyed P k) (ht : P.underlying t = some (.map k e)) {z : Value} (hz : (zeroValue e).run P w = .ok z w) (hkey : keyOf P k key = some kl) :
  ∃ v st o, (Instr.mapEntry t (.map (some b)) key).run P w = .ok (.tuple #[v, st]) (setBlock w b o) ∧ ((key, v) ∈ l ∨ (v = z ∧ ∀ p ∈ l, p.1 ≠ key)) ∧ (setBlock w b o).heap[b]? = some o ∧ (∃ es clock, o = .map es clock) ∧ w.grownBy (setBlock w b o) (some b) ∧
   ∀ w2 val, w2.heap[b]? = some o → ∃ l' o', (Instr.entryStore t (.map (some b)) st val).run P w2 = .ok () (setBlock w2 b o') ∧ PutAt l key val l' ∧ MapAt P k (setBlock w2 b o') b l' ∧ w2.grownBy (setBlock w2 b o') (some b) := by
 have hG := fun o => setBlock_grown h o
 obtain ⟨es, clock, hb, rfl, hborn, hnb, hnk, hkeys⟩ := h
 have hk : ∀ x ∈ es.toList, ∃ l, keyOf P k x.key = some l := fun x hx => hkeys (x.key, x.val) (List.mem_map.2 ⟨x, hx, rfl⟩)
 have hg2 : ∀ (w2 : World) (es : Array MapEntry) (clock : Nat) (o' : Obj), w2.heap[b]? = some (.map es clock) → w2.grownBy (setBlock w2 b o') (some b) := fun w2 _ _ o' h2 =>
  ⟨rfl, rfl, rfl, by simp [setBlock], fun i _ hi => heap_setBlock_other h2 _ (fun e1 => hi (by rw [e1]))⟩
 rcases K.find w hkey es.toList hk with ⟨h1, h2⟩ | ⟨j, e0, h1, h2, h3⟩
 ·have hP : ∀ val, PutAt (es.toList.map fun e => (e.key, e.val)) key val ((es.toList.map fun e => (e.key, e.val)) ++ [(key, val)]) := fun val => .inr ⟨fun p hp => by obtain ⟨x, hx, rfl⟩ := List.mem_map.1 hp; exact h2 x hx, rfl⟩
  refine ⟨z, goInt clock, .map (es.push ⟨key, z, clock⟩) (clock + 1), ?_, .inr ⟨rfl, fun p hp => by obtain ⟨x, hx, rfl⟩ := List.mem_map.1 hp; exact h2 x hx⟩, heap_setBlock_same hb _, ⟨_, _, rfl⟩, hG _, ?_⟩
  ·simp [Instr.mapEntry, run_underlying ht, MapKept.run_getObj_map hb, K.check w false hkey, h1, hz, MapKept.run_setObj_map _ hb, Result.andThen, setBlock]
  ·intro w2 val hw2
   have hidx : (es.push ⟨key, z, clock⟩).findIdx? (fun e => ((e.born : Nat) : Int) == ((clock : Nat) : Int)) = some es.size := by
    rw [WideElems.findIdx_arr]
    have := WideElems.findIdx_born (l := (es.push ⟨key, z, clock⟩).toList) (j := es.size) (e0 := ⟨key, z, clock⟩) (by
     simp only [Array.toList_push, List.map_append, List.map_cons, List.map_nil]
     refine List.nodup_append.2 ⟨hnb, by simp, fun a ha c hc e1 => ?_⟩
     simp only [List.mem_singleton] at hc
     obtain ⟨x, hx, rfl⟩ := List.mem_map.1 ha
     have := hborn x hx
     omega) (by simp)
    exact this
   have hmod : (es.push ⟨key, z, clock⟩).modify es.size (fun e => { e with val := val }) = es.push ⟨key, val, clock⟩ := by
    apply Array.ext'
    rw [Array.toList_modify, Array.toList_push, Array.toList_push, ← Array.length_toList, WideElems.modify_last]
   refine ⟨_, .map (es.push ⟨key, val, clock⟩) (clock + 1), ?_, hP val, ⟨_, _, heap_setBlock_same hw2 _, by simp, ?_, ?_, (hP val).keys hnk, ?_⟩, hg2 w2 _ _ _ hw2⟩
   ·simp [Instr.entryStore, MapKept.run_getObj_map hw2, asInt, asIntOf, goInt, hidx, hmod, MapKept.run_setObj_map _ hw2, Result.andThen, setBlock]
   ·intro x hx
    simp only [Array.toList_push, List.mem_append, List.mem_singleton] at hx
    rcases hx with hx | rfl
    ·have := hborn x hx; omega
    ·show clock < clock + 1; omega
   ·rw [Array.toList_push, List.map_append, List.nodup_append]
    refine ⟨hnb, by simp, ?_⟩
    rintro a ha c hc rfl
    obtain ⟨x, hx, rfl⟩ := List.mem_map.1 ha
    simp at hc
    have := hborn x hx; omega
   ·intro p hp
    rcases List.mem_append.1 hp with hp | hp
    ·exact hkeys p hp
    ·simp at hp; subst hp; exact ⟨kl, hkey⟩
 ·have hj : es[j]? = some e0 := by simpa using h2
  have hsame : es.modify j (fun e => { e with key := key }) = es := by
   apply Array.ext'
   rw [Array.toList_modify, modify_eq_set _ _ _ _ h2]
   have : ({ e0 with key := key } : MapEntry) = e0 := by rw [← h3]
   rw [this]
   exact WideElems.set_self _ _ _ h2
  refine ⟨e0.val, goInt e0.born, .map es clock, ?_, .inl (List.mem_map.2 ⟨e0, List.mem_of_getElem? h2, by rw [h3]⟩), heap_setBlock_same hb _, ⟨_, _, rfl⟩, hG _, ?_⟩
  ·simp [Instr.mapEntry, run_underlying ht, MapKept.run_getObj_map hb, K.check w false hkey, h1, hj, h3, K.stays w hkey, hsame, MapKept.run_setObj_map _ hb, Result.andThen, setBlock]
  ·intro w2 val hw2
   obtain ⟨s1, s2, q1, q2⟩ := modify_pairs h2 (fun e' => { e' with val := val })
   have hP : PutAt (es.toList.map fun e => (e.key, e.val)) key val ((s1.map fun e => (e.key, e.val)) ++ (key, val) :: (s2.map fun e => (e.key, e.val))) := .inl ⟨_, e0.val, _, by rw [q1, List.map_append, List.map_cons, h3], rfl⟩
   have hidx : es.findIdx? (fun e => ((e.born : Nat) : Int) == ((e0.born : Nat) : Int)) = some j := by
    rw [WideElems.findIdx_arr]
    exact WideElems.findIdx_born hnb h2
   refine ⟨_, .map (es.modify j (fun e' => { e' with val := val })) clock, ?_, hP, ⟨_, _, heap_setBlock_same hw2 _, by rw [q2]; simp [h3], ?_, ?_, hP.keys hnk, ?_⟩, hg2 w2 _ _ _ hw2⟩
   ·simp [Instr.entryStore, MapKept.run_getObj_map hw2, asInt, asIntOf, goInt, hidx, MapKept.run_setObj_map _ hw2, Result.andThen, setBlock]
   ·intro x hx
    rw [q2] at hx
    rw [q1] at hborn
    simp only [List.mem_append, List.mem_cons] at hx
    rcases hx with hx | rfl | hx
    ·exact hborn x (by simp [hx])
    ·exact hborn e0 (by simp)
    ·exact hborn x (by simp [hx])
   ·rw [q2]
    rw [q1] at hnb
    simpa using hnb
   ·intro p hp
    rw [q1] at hkeys
    simp only [List.mem_append, List.mem_cons] at hp
    rcases hp with hp | rfl | hp
    ·exact hkeys p (by simp only [List.map_append, List.map_cons, List.mem_append, List.mem_cons]; exact .inl hp)
    ·exact ⟨kl, hkey⟩
    ·exact hkeys p (by simp only [List.map_append, List.map_cons, List.mem_append, List.mem_cons]; exact .inr (.inr hp))
theorem MapAt.size (h : MapAt P k w b l) : ∃ es clock, w.heap[b]? = some (.map es clock) ∧ es.size = l.length := by
 obtain ⟨es, clock, hb, rfl, _⟩ := h
 exact ⟨es, clock, hb, by simp⟩
end
section
variable {P : Program} {ρ : Operand → Value} {o : Oper} {w : World} {v : Value}
theorem exec_mapEntry {w' : World} (t : TypeId) (m x : Operand) (ho : o.op = .mapEntry t m x) (h : (Instr.mapEntry t (ρ m) (ρ x)).run P w = .ok v w') : (execOp ρ o).run P w = .ok (.value v) w' := by
 unfold execOp
 simp only [ho, Sem.run_bind, h, Result.andThen_ok, Sem.run_pure]
theorem exec_entryStore {w' : World} (t : TypeId) (m s x : Operand) (ho : o.op = .entryStore t m s x) (h : (Instr.entryStore t (ρ m) (ρ s) (ρ x)).run P w = .ok () w') : (execOp ρ o).run P w = .ok .skip w' := by
 unfold execOp
 simp only [ho, Sem.run_bind, h, Result.andThen_ok, Sem.run_pure]
theorem step_exec {w' : World} {ops : Array Oper} {a : Act} {K : Act → World → Prop} {Q : Exit → Act → World → Prop} {E : Prop} (hgd : o.guard = none) (hrun : (execOp a.eval o).run P w = .ok (.value v) w') (h : K (a.put o.dst v) w') :
  if Region.wanted o (yielded ops a.tmps) = true then Oper.wp P o a w K Q else E := by
 have hw : Region.wanted o (yielded ops a.tmps) = true := by simp [Region.wanted, hgd]
 rw [if_pos hw]
 unfold Oper.wp
 rw [hrun]
 exact h
theorem step_skip {w' : World} {ops : Array Oper} {a : Act} {K : Act → World → Prop} {Q : Exit → Act → World → Prop} {E : Prop} (hgd : o.guard = none) (hrun : (execOp a.eval o).run P w = .ok .skip w') (h : K (a.put o.dst undef) w') :
  if Region.wanted o (yielded ops a.tmps) = true then Oper.wp P o a w K Q else E := by
 have hw : Region.wanted o (yielded ops a.tmps) = true := by simp [Region.wanted, hgd]
 rw [if_pos hw]
 unfold Oper.wp
 rw [hrun]
 exact h
theorem exec_lookup (t : TypeId) (m x : Operand) (ok : Bool) (ho : o.op = .lookup t m x ok) (h : (Instr.lookup t (ρ m) (ρ x) ok).run P w = .ok v w) : (execOp ρ o).run P w = .ok (.value v) w := by
 unfold execOp
 simp only [ho, Sem.run_bind, h, Result.andThen_ok, Sem.run_pure]
end
end Go.Proofs.YtcppkaphlcflgaaGreat
