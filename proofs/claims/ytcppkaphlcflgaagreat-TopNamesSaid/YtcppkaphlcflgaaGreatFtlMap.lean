import Derived.Test.YtcppkaphlcflgaaGreatMapAt
import Derived.Maps.Range
import Derived.Test.YtcppkaphlcflgaaGreatTagMath
import Derived.Maps.RangeWalk
namespace Go.Proofs.YtcppkaphlcflgaaGreat
open Lib (hid)
set_option maxRecDepth 100000
set_option maxHeartbeats 16000000
section
open Go.RowKit Go.Maps Go.ChangeMaps Go.MapKept

def RngAt (P : Program) (k : TypeId) (w : World) (b r : Nat) (l d : List (Value × Value)) : Prop :=
 ∃ es clock since seen c0, w.heap[b]? = some (.map es clock) ∧ es.toList.map (fun e => (e.key, e.val)) = l ∧ w.heap[r]? = some (.mapIter (some b) since seen c0) ∧ (∀ x ∈ es.toList, x.born < since) ∧ (es.toList.map (·.born)).Nodup ∧ (l.map (·.1)).Nodup ∧
  since ≤ c0 ∧ since ≤ clock ∧ (∀ x ∈ es.toList, seen.contains x.born = true ↔ (x.key, x.val) ∈ d) ∧ (∀ p ∈ d, p ∈ l) ∧ d.Nodup ∧ ∀ p ∈ l, ∃ kl, keyOf P k p.1 = some kl
def DelAt (l : List (Value × Value)) (key : Value) (l' : List (Value × Value)) : Prop :=
 (∃ l1 v0 l2, l = l1 ++ (key, v0) :: l2 ∧ l' = l1 ++ l2) ∨ ((∀ p ∈ l, p.1 ≠ key) ∧ l' = l)
theorem nodup_of_keys {l : List (Value × Value)} (h : (l.map (·.1)).Nodup) : l.Nodup := by
 induction l with
 | nil => simp
 | cons p t ih =>
  rw [List.map_cons, List.nodup_cons] at h
  rw [List.nodup_cons]
  exact ⟨fun hp => h.1 (List.mem_map.2 ⟨p, hp, rfl⟩), ih h.2⟩
section
variable {P : Program} {k : TypeId} {w w' : World} {b r : Nat} {l d : List (Value × Value)}
theorem RngAt.mapAt (h : RngAt P k w b r l d) : MapAt P k w b l := by
 obtain ⟨es, clock, since, seen, c0, h1, h2, h3, h4, h5, h6, h7, h8, h9, h10, h11, h12⟩ := h
 exact ⟨es, clock, h1, h2, fun x hx => Nat.lt_of_lt_of_le (h4 x hx) h8, h5, h6, h12⟩
theorem RngAt.ltr (h : RngAt P k w b r l d) : r < w.heap.size := by obtain ⟨_, _, _, _, _, _, _, h3, _⟩ := h; exact (Array.getElem?_eq_some_iff.1 h3).1
theorem RngAt.ltb (h : RngAt P k w b r l d) : b < w.heap.size := h.mapAt.lt
theorem RngAt.ne (h : RngAt P k w b r l d) : r ≠ b := by
 obtain ⟨es, clock, since, seen, c0, h1, h2, h3, _⟩ := h
 intro e
 rw [e, h1] at h3
 cases h3
theorem RngAt.same (h : RngAt P k w b r l d) (h1 : w'.heap[b]? = w.heap[b]?) (h2 : w'.heap[r]? = w.heap[r]?) : RngAt P k w' b r l d := by
 obtain ⟨es, clock, since, seen, c0, a1, a2, a3, rest⟩ := h
 exact ⟨es, clock, since, seen, c0, h1.trans a1, a2, h2.trans a3, rest⟩
theorem RngAt.on (h : RngAt P k w b r l d) (hb : Below w.heap.size w w') : RngAt P k w' b r l d := h.same (hb.block b h.ltb) (hb.block r h.ltr)
theorem left_same (h1 : w'.heap[b]? = w.heap[b]?) (h2 : w'.heap[r]? = w.heap[r]?) : w'.rangeLeft b r = w.rangeLeft b r := by
 simp only [World.rangeLeft, h1, h2]
theorem RngAt.left_on (h : RngAt P k w b r l d) (hb : Below w.heap.size w w') : w'.rangeLeft b r = w.rangeLeft b r := left_same (hb.block b h.ltb) (hb.block r h.ltr)
theorem MapAt.range {t e : TypeId} (h : MapAt P k w b l) (ht : P.underlying t = some (.map k e)) :
  ∃ w', (Instr.range t (.map (some b))).run P w = .ok (.pointer (some ⟨w.heap.size, 0, none⟩)) w' ∧ RngAt P k w' b w.heap.size l [] ∧ Below w.heap.size w w' ∧ w'.heap.size = w.heap.size + 1 := by
 have hlt := h.lt
 obtain ⟨es, clock, h1, h2, h3, h4, h5, h6⟩ := h
 refine ⟨_, run_range_map w t k e b es clock ht h1, ⟨es, clock, clock, #[], clock, (Below.heap_alloc w _ b hlt).trans h1, h2, heap_alloc_new w _, h3, h4, h5, Nat.le_refl _, Nat.le_refl _, fun x _ => by simp, by simp, by simp, h6⟩, (Below.refl _ _).alloc (Nat.le_refl _) _, by simp⟩
theorem RngAt.next (h : RngAt P k w b r l d) (ty : TypeId) :
  (d.Perm l ∧ (Instr.next (.pointer (some ⟨r, 0, none⟩)) false ty).run P w = .ok (.tuple #[.bool false]) w) ∨
  ∃ p w', p ∈ l ∧ p ∉ d ∧ (Instr.next (.pointer (some ⟨r, 0, none⟩)) false ty).run P w = .ok (.tuple #[.bool true, p.1, p.2]) w' ∧ RngAt P k w' b r l (d ++ [p]) ∧ w.grownBy w' (some r) ∧ w'.heap.size = w.heap.size ∧
   w'.rangeLeft b r < w.rangeLeft b r ∧ (Instr.entry (.pointer (some ⟨r, 0, none⟩))).run P w' = .ok (.tuple #[p.1, p.2]) w' := by
 have hne := h.ne
 obtain ⟨es, clock, since, seen, c0, h1, h2, h3, h4, h5, h6, h7, h8, h9, h10, h11, h12⟩ := h
 rcases run_next_at (P := P) w ty r b since c0 seen es clock h3 h1 h4 h7 with ⟨h0, hrun⟩ | ⟨e, he, w1, hal, hrun⟩
 ·refine .inl ⟨(List.perm_ext_iff_of_nodup h11 (nodup_of_keys h6)).2 fun p => ⟨h10 p, fun hp => ?_⟩, hrun⟩
  rw [← h2] at hp
  obtain ⟨x, hx, rfl⟩ := List.mem_map.1 hp
  exact (h9 x hx).1 (all_seen es seen h0 x hx)
 ·obtain ⟨hem, hes⟩ := mem_left he
  have hr1 : w1.heap[r]? = some (.mapIter (some b) since seen c0) := by rcases hal with rfl | rfl <;> exact h3
  have hb1 : w1.heap[b]? = some (.map es clock) := by rcases hal with rfl | rfl <;> exact h1
  have hset := heap_set (o' := .mapIter (some b) since (seen.push e.born) clock) hr1
  have hb' : (setBlock w1 r (.mapIter (some b) since (seen.push e.born) clock)).heap[b]? = some (.map es clock) := (hset.2 b (fun e1 => hne e1.symm)).trans hb1
  have hpl : (e.key, e.val) ∈ l := by rw [← h2]; exact List.mem_map.2 ⟨e, hem, rfl⟩
  have hpd : (e.key, e.val) ∉ d := fun hd => by
   have := (h9 e hem).2 hd
   rw [hes] at this
   cases this
  refine .inr ⟨(e.key, e.val), _, hpl, hpd, hrun, ⟨es, clock, since, seen.push e.born, clock, hb', h2, hset.1, h4, h5, h6, h8, h8, fun x hx => ?_, fun p hp => ?_, ?_, h12⟩, ?_, ?_, ?_, run_entry_at _ r b since seen es clock e hset.1 hb' hem h5⟩
  ·rw [contains_push, Bool.or_eq_true, h9 x hx, List.mem_append, List.mem_singleton, beq_iff_eq]
   constructor
   ·rintro (h | h)
    ·exact .inl h
    ·obtain rfl := born_inj h5 hx hem h; exact .inr rfl
   ·rintro (h | h)
    ·exact .inl h
    ·have hxl : (x.key, x.val) ∈ l := by rw [← h2]; exact List.mem_map.2 ⟨x, hx, rfl⟩
     refine .inr ?_
     have hk : x.key = e.key := congrArg Prod.fst h
     rw [← h2, List.map_map] at h6
     have : ∀ {m : List MapEntry}, (m.map ((·.1) ∘ fun e => (e.key, e.val))).Nodup → x ∈ m → e ∈ m → x = e := by
      intro m
      induction m with
      | nil => intro _ hx; cases hx
      | cons y t ih =>
       intro hn hx he
       rw [List.map_cons, List.nodup_cons] at hn
       rcases List.mem_cons.1 hx with rfl | hx' <;> rcases List.mem_cons.1 he with rfl | he'
       ·rfl
       ·exact absurd (List.mem_map.2 ⟨e, he', hk.symm⟩) hn.1
       ·exact absurd (List.mem_map.2 ⟨x, hx', hk⟩) hn.1
       ·exact ih hn.2 hx' he'
     rw [this h6 hx hem]
  ·rcases List.mem_append.1 hp with hp | hp
   ·exact h10 p hp
   ·rw [List.mem_singleton] at hp; subst hp; exact hpl
  ·rw [List.nodup_append]
   refine ⟨h11, by simp, ?_⟩
   rintro a ha c hc rfl
   rw [List.mem_singleton] at hc
   subst hc
   exact hpd ha
  ·rcases hal with rfl | rfl <;> exact ⟨rfl, rfl, rfl, by simp [setBlock], fun i _ hi => hset.2 i (fun e1 => hi (by rw [e1]))⟩
  ·rcases hal with rfl | rfl <;> simp [setBlock]
  ·have hs1 : (setBlock w1 r (.mapIter (some b) since (seen.push e.born) clock)).heap[r]? = some (.mapIter (some b) since (seen.push e.born) clock) := hset.1
   unfold World.rangeLeft
   rw [h1, h3, hb', hs1]
   exact left_shrinks es seen e he
theorem MapAt.del {t e : TypeId} {key : Value} {kl : Lit} (h : MapAt P k w b l) (K : Keyed P k) (ht : P.underlying t = some (.map k e)) (hkey : keyOf P k key = some kl) (ty : TypeId) :
  ∃ l' o, (Builtin.delete_ #[t, k] ty #[.map (some b), key]).run P w = .ok (.tuple #[]) (setBlock w b o) ∧ DelAt l key l' ∧ MapAt P k (setBlock w b o) b l' ∧ w.grownBy (setBlock w b o) (some b) := by
 have hG := fun o => setBlock_grown h o
 obtain ⟨es, clock, hb, rfl, hborn, hnb, hnk, hkeys⟩ := h
 have hk : ∀ x ∈ es.toList, ∃ l, keyOf P k x.key = some l := fun x hx => hkeys (x.key, x.val) (List.mem_map.2 ⟨x, hx, rfl⟩)
 rcases K.find w hkey es.toList hk with ⟨h1, h2⟩ | ⟨j, e0, h1, h2, h3⟩
 ·refine ⟨_, .map es clock, ?_, .inr ⟨fun p hp => by obtain ⟨x, hx, rfl⟩ := List.mem_map.1 hp; exact h2 x hx, rfl⟩, ⟨es, clock, heap_setBlock_same hb _, rfl, hborn, hnb, hnk, hkeys⟩, hG _⟩
  simp [Builtin.delete_, run_underlying ht, MapKept.run_getObj_map hb, K.check w _ hkey, h1, MapKept.run_setObj_map _ hb, Result.andThen, setBlock]
 ·have hjl : j < es.toList.length := (List.getElem?_eq_some_iff.1 h2).1
  have hjs : j < es.size := by simpa using hjl
  have hsub : (es.eraseIdxIfInBounds j).toList = es.toList.eraseIdx j := by
   unfold Array.eraseIdxIfInBounds
   rw [dif_pos hjs]
   simp
  have he0 : es.toList[j] = e0 := (List.getElem?_eq_some_iff.1 h2).2
  have q1 : es.toList = es.toList.take j ++ e0 :: es.toList.drop (j + 1) := by rw [← he0, ← List.drop_eq_getElem_cons hjl, List.take_append_drop]
  have q2 : es.toList.eraseIdx j = es.toList.take j ++ es.toList.drop (j + 1) := List.eraseIdx_eq_take_drop_succ ..
  have hs : (es.toList.eraseIdx j).Sublist es.toList := List.eraseIdx_sublist _ _
  refine ⟨(es.toList.eraseIdx j).map fun e => (e.key, e.val), .map (es.eraseIdxIfInBounds j) clock, ?_, .inl ⟨(es.toList.take j).map fun e => (e.key, e.val), e0.val, (es.toList.drop (j + 1)).map fun e => (e.key, e.val), ?_, ?_⟩, ⟨_, clock, heap_setBlock_same hb _, by rw [hsub], fun x hx => ?_, ?_, ?_, fun p hp => ?_⟩, hG _⟩
  ·simp [Builtin.delete_, run_underlying ht, MapKept.run_getObj_map hb, K.check w _ hkey, h1, MapKept.run_setObj_map _ hb, Result.andThen, setBlock]
  ·conv => lhs; rw [q1]
   rw [List.map_append, List.map_cons, h3]
  ·rw [q2, List.map_append]
  ·rw [hsub] at hx; exact hborn x (hs.subset hx)
  ·rw [hsub]; exact List.Sublist.nodup (hs.map _) hnb
  ·rw [List.map_map]
   rw [List.map_map] at hnk
   exact List.Sublist.nodup (hs.map _) hnk
  ·obtain ⟨x, hx, rfl⟩ := List.mem_map.1 hp
   exact hk x (hs.subset hx)
end
section
variable {P : Program} (w : World) {ops : Array Oper} {rest : List Oper} {o : Oper} {a : Act} {Q : Exit → Act → World → Prop}
theorem wpList_range_At (hg : o.guard = none) (m : Operand) (t : TypeId) (hop : o.op = Op.range t m) (k e : TypeId) (ht : P.underlying t = some (.map k e)) (b : Nat) (l : List (Value × Value)) (hm : a.eval m = .map (some b)) (h : MapAt P k w b l)
  (hK : ∀ w', Hid (RngAt P k w' b w.heap.size l []) → Hid (Below w.heap.size w w') → w'.heap.size = w.heap.size + 1 → wpList P ops Q rest (a.put o.dst (.pointer (some ⟨w.heap.size, 0, none⟩))) w') :
  wpList P ops Q (o :: rest) a w := by
 refine wpList_plain hg fun K' hK' => ?_
 obtain ⟨w', hrun, r1, r2, r3⟩ := h.range ht
 unfold Oper.wp
 simp [execOp, hop, hm, hrun, Result.andThen]
 exact hK' _ _ (hK w' (hid r1) (hid r2) r3)
theorem wpList_next_At (hg : o.guard = none) (it : Operand) (hop : o.op = Op.next it false) (k : TypeId) (b r : Nat) (l d : List (Value × Value)) (hit : a.eval it = .pointer (some ⟨r, 0, none⟩)) (h : RngAt P k w b r l d)
  (hDone : Hid (d.Perm l) → wpList P ops Q rest (a.put o.dst (.tuple #[.bool false])) w)
  (hMore : ∀ p w', Hid (p ∈ l ∧ p ∉ d) → Hid (RngAt P k w' b r l (d ++ [p])) → Hid (w.grownBy w' (some r)) → w'.heap.size = w.heap.size → Hid (w'.rangeLeft b r < w.rangeLeft b r) → (Instr.entry (.pointer (some ⟨r, 0, none⟩))).run P w' = .ok (.tuple #[p.1, p.2]) w' → wpList P ops Q rest (a.put o.dst (.tuple #[.bool true, p.1, p.2])) w') :
  wpList P ops Q (o :: rest) a w := by
 refine wpList_plain hg fun K' hK' => ?_
 unfold Oper.wp
 rcases h.next o.type with ⟨h0, hrun⟩ | ⟨p, w', h1, h2, hrun, h3, h4, h5, h6, h7⟩
 ·simp [execOp, hop, hit, hrun, Result.andThen]
  exact hK' _ _ (hDone (hid h0))
 ·simp [execOp, hop, hit, hrun, Result.andThen]
  exact hK' _ _ (hMore p w' (hid ⟨h1, h2⟩) (hid h3) (hid h4) h5 (hid h6) h7)
end
end
section
open Go.RowKit Go.Maps Go.ChangeMaps

structure Enc (α : Type) where
 kf : α → Nat
 kv : Nat → Value
 vf : α → Value
 inj : ∀ p q, kv p = kv q → p = q
namespace Enc
variable {α : Type} (E : Enc α)
def pr (x : α) : Value × Value := (E.kv (E.kf x), E.vf x)
def get (l : List α) (p : Nat) : Option α := l.find? fun e => E.kf e == p
def put (l : List α) (e : α) : List α := if (E.get l (E.kf e)).isSome then l.map (fun x => if E.kf x = E.kf e then e else x) else l ++ [e]
def del (l : List α) (p : Nat) : List α := l.filter fun x => E.kf x != p
def Uq (l : List α) : Prop := (l.map E.kf).Nodup
variable {E} {l : List α} {p : Nat} {e : α}
theorem uq_iff : ((l.map E.pr).map (·.1)).Nodup ↔ E.Uq l := by
 unfold Uq
 have h1 : (l.map E.pr).map (·.1) = (l.map E.kf).map E.kv := by rw [List.map_map, List.map_map]; rfl
 rw [h1]
 unfold List.Nodup
 rw [List.pairwise_map]
 exact ⟨fun h => h.imp fun h e => h (by rw [e]), fun h => h.imp fun h e => h (E.inj _ _ e)⟩
theorem get_mem (h : E.get l p = some e) : e ∈ l ∧ E.kf e = p := by
 unfold get at h
 exact ⟨List.mem_of_find?_eq_some h, by have := List.find?_some h; simpa using this⟩
theorem get_none (h : E.get l p = none) : ∀ e ∈ l, E.kf e ≠ p := fun e he => by
 unfold get at h
 have := (List.find?_eq_none.1 h) e he
 simpa using this
theorem get_not (h : ∀ e ∈ l, E.kf e ≠ p) : E.get l p = none := by
 unfold get
 rw [List.find?_eq_none]
 intro x hx
 simpa using h x hx
theorem uq_one (h : E.Uq l) {x y : α} (hx : x ∈ l) (hy : y ∈ l) (e : E.kf x = E.kf y) : x = y := by
 induction l with
 | nil => cases hx
 | cons z t ih =>
  unfold Uq at h ih
  rw [List.map_cons, List.nodup_cons] at h
  rcases List.mem_cons.1 hx with rfl | hx' <;> rcases List.mem_cons.1 hy with rfl | hy'
  ·rfl
  ·exact absurd (List.mem_map.2 ⟨y, hy', e.symm⟩) h.1
  ·exact absurd (List.mem_map.2 ⟨x, hx', e⟩) h.1
  ·exact ih h.2 hx' hy'
theorem get_of (h : E.Uq l) (he : e ∈ l) : E.get l (E.kf e) = some e := by
 cases hg : E.get l (E.kf e) with
 | none => exact absurd rfl (get_none hg e he)
 | some x =>
  obtain ⟨h1, h2⟩ := get_mem hg
  rw [uq_one h h1 he h2]
theorem uq_app {l1 l2 : List α} {e0 : α} (h : E.Uq (l1 ++ e0 :: l2)) : (∀ x ∈ l1, E.kf x ≠ E.kf e0) ∧ ∀ x ∈ l2, E.kf x ≠ E.kf e0 := by
 unfold Uq at h
 rw [List.map_append, List.map_cons, List.nodup_append, List.nodup_cons] at h
 obtain ⟨_, ⟨n2, _⟩, n4⟩ := h
 exact ⟨fun x hx e => n4 (E.kf x) (List.mem_map.2 ⟨x, hx, rfl⟩) (E.kf e0) (by simp) e, fun x hx e => n2 (List.mem_map.2 ⟨x, hx, e⟩)⟩
theorem put_is {l1 l2 : List α} {e0 : α} (h : E.Uq (l1 ++ e0 :: l2)) (hp : E.kf e0 = E.kf e) : E.put (l1 ++ e0 :: l2) e = l1 ++ e :: l2 := by
 obtain ⟨h1, h2⟩ := uq_app h
 have hg : E.get (l1 ++ e0 :: l2) (E.kf e) = some e0 := by rw [← hp]; exact get_of h (by simp)
 unfold put
 rw [hg, if_pos Option.isSome_some, List.map_append, List.map_cons, if_pos hp]
 have e1 : ∀ m : List α, (∀ x ∈ m, E.kf x ≠ E.kf e0) → m.map (fun x => if E.kf x = E.kf e then e else x) = m := fun m hm => by
  conv => rhs; rw [← List.map_id m]
  exact List.map_congr_left fun x hx => if_neg (by rw [← hp]; exact hm x hx)
 rw [e1 l1 h1, e1 l2 h2]
theorem put_new (h : ∀ x ∈ l, E.kf x ≠ E.kf e) : E.put l e = l ++ [e] := by
 unfold put
 rw [get_not h]
 rfl
theorem del_is {l1 l2 : List α} {e0 : α} (h : E.Uq (l1 ++ e0 :: l2)) : E.del (l1 ++ e0 :: l2) (E.kf e0) = l1 ++ l2 := by
 obtain ⟨h1, h2⟩ := uq_app h
 unfold del
 rw [List.filter_append, List.filter_cons_of_neg (by simp)]
 rw [List.filter_eq_self.2 (fun x hx => by simpa using h1 x hx), List.filter_eq_self.2 (fun x hx => by simpa using h2 x hx)]
theorem del_not (h : ∀ x ∈ l, E.kf x ≠ p) : E.del l p = l := List.filter_eq_self.2 fun x hx => by simpa using h x hx
theorem put_at {L : List (Value × Value)} (h : E.Uq l) (hP : PutAt (l.map E.pr) (E.kv (E.kf e)) (E.vf e) L) : L = (E.put l e).map E.pr := by
 rcases hP with ⟨l1, v0, l2, e1, rfl⟩ | ⟨h1, rfl⟩
 ·obtain ⟨m1, m2, rfl, rfl, e3⟩ := List.map_eq_append_iff.1 e1
  obtain ⟨e0, m3, rfl, e4, rfl⟩ := List.map_eq_cons_iff.1 e3
  have hp : E.kf e0 = E.kf e := E.inj _ _ (congrArg Prod.fst e4)
  rw [put_is h hp, List.map_append, List.map_cons]
  rfl
 ·rw [put_new fun x hx e1 => h1 (E.pr x) (List.mem_map.2 ⟨x, hx, rfl⟩) (by rw [← e1]; rfl), List.map_append]
  rfl
theorem del_at {L : List (Value × Value)} (h : E.Uq l) (hP : DelAt (l.map E.pr) (E.kv p) L) : L = (E.del l p).map E.pr := by
 rcases hP with ⟨l1, v0, l2, e1, rfl⟩ | ⟨h1, rfl⟩
 ·obtain ⟨m1, m2, rfl, rfl, e3⟩ := List.map_eq_append_iff.1 e1
  obtain ⟨e0, m3, rfl, e4, rfl⟩ := List.map_eq_cons_iff.1 e3
  obtain rfl : E.kf e0 = p := E.inj _ _ (congrArg Prod.fst e4)
  rw [del_is h, List.map_append]
 ·rw [del_not fun x hx e1 => h1 (E.pr x) (List.mem_map.2 ⟨x, hx, rfl⟩) (by rw [← e1]; rfl)]
theorem mem_put {x : α} (h : x ∈ E.put l e) : x = e ∨ x ∈ l := by
 unfold put at h
 split at h
 ·obtain ⟨y, hy, e1⟩ := List.mem_map.1 h
  split at e1
  ·exact .inl e1.symm
  ·exact .inr (e1 ▸ hy)
 ·rcases List.mem_append.1 h with h | h
  ·exact .inr h
  ·exact .inl (by simpa using h)
theorem mem_del {x : α} : x ∈ E.del l p ↔ x ∈ l ∧ E.kf x ≠ p := by
 unfold del
 rw [List.mem_filter]
 simp
theorem get_put (q : Nat) : E.get (E.put l e) q = if q = E.kf e then some e else E.get l q := by
 unfold put
 by_cases hs : (E.get l (E.kf e)).isSome = true
 ·rw [if_pos hs]
  have h1 : ∀ m : List α, E.get (m.map fun x => if E.kf x = E.kf e then e else x) q = if q = E.kf e then (if (E.get m q).isSome then some e else none) else E.get m q := fun m => by
   induction m with
   | nil => simp [get]
   | cons z t ih =>
    unfold get at ih ⊢
    rw [List.map_cons, List.find?_cons, List.find?_cons, ih]
    by_cases hz : E.kf z = E.kf e
    ·rw [if_pos hz]
     by_cases hq : q = E.kf e
     ·have b1 : (E.kf e == q) = true := by rw [hq]; exact beq_self_eq_true _
      have b2 : (E.kf z == q) = true := by rw [hz]; exact b1
      rw [b1, b2]
      simp [hq]
     ·have b1 : (E.kf e == q) = false := beq_eq_false_iff_ne.2 (Ne.symm hq)
      have b2 : (E.kf z == q) = false := by rw [hz]; exact b1
      rw [b1, b2]
    ·rw [if_neg hz]
     by_cases hq : q = E.kf e
     ·have b2 : (E.kf z == q) = false := beq_eq_false_iff_ne.2 (by rw [hq]; exact hz)
      rw [b2]
     ·simp [hq]
  rw [h1]
  by_cases hq : q = E.kf e
  ·subst hq
   rw [if_pos rfl, if_pos rfl, if_pos hs]
  ·rw [if_neg hq, if_neg hq]
 ·rw [if_neg hs]
  unfold get at hs ⊢
  rw [List.find?_append]
  by_cases hq : q = E.kf e
  ·subst hq
   have hn : List.find? (fun e_1 => E.kf e_1 == E.kf e) l = none := by
    cases hz : List.find? (fun e_1 => E.kf e_1 == E.kf e) l with
    | none => rfl
    | some x => rw [hz] at hs; exact absurd rfl hs
   rw [hn, if_pos rfl]
   simp
  ·rw [if_neg hq]
   cases hz : List.find? (fun e => E.kf e == q) l with
   | none => simp [Ne.symm hq]
   | some x => rfl
theorem get_del (q : Nat) : E.get (E.del l p) q = if q = p then none else E.get l q := by
 unfold del get
 rw [List.find?_filter]
 by_cases hq : q = p
 ·subst hq
  rw [if_pos rfl, List.find?_eq_none]
  intro x _
  simp
 ·rw [if_neg hq]
  congr 1
  funext x
  by_cases hx : E.kf x = q
  ·simp [hx, hq]
  ·simp [hx]
end Enc
def MapK {α : Type} (E : Enc α) (P : Program) (k : TypeId) (w : World) (b : Nat) (l : List α) : Prop := MapAt P k w b (l.map E.pr)
section
variable {α : Type} {E : Enc α} {P : Program} {k t et : TypeId} {w w' : World} {b p : Nat} {l : List α} {e : α}
theorem MapK.uq (h : MapK E P k w b l) : E.Uq l := Enc.uq_iff.1 (MapAt.nodup h)
theorem MapK.lt (h : MapK E P k w b l) : b < w.heap.size := MapAt.lt h
theorem MapK.on (h : MapK E P k w b l) (hb : Below w.heap.size w w') : MapK E P k w' b l := MapAt.on h hb
theorem MapK.same (h : MapK E P k w b l) (hb : w'.heap[b]? = w.heap[b]?) : MapK E P k w' b l := MapAt.same h hb
theorem MapK.made (w : World) : MapK E P k (w.alloc (.map #[] 0)) w.heap.size [] := MapAt.made w
theorem MapK.look (h : MapK E P k w b l) (K : Keyed P k) (ht : P.underlying t = some (.map k et)) {z : Value} (hz : (zeroValue et).run P w = .ok z w) {kl : Lit} (hkey : keyOf P k (E.kv p) = some kl) (ok : Bool) :
  (Instr.lookup t (.map (some b)) (E.kv p) ok).run P w = .ok (if ok then .tuple #[(E.get l p).elim z E.vf, .bool (E.get l p).isSome] else (E.get l p).elim z E.vf) w := by
 obtain ⟨v, f, hrun, hv⟩ := MapAt.look h K ht hz hkey ok
 have e : v = (E.get l p).elim z E.vf ∧ f = (E.get l p).isSome := by
  rcases hv with ⟨rfl, hv⟩ | ⟨rfl, rfl, hv⟩
  ·obtain ⟨x, hx, e1⟩ := List.mem_map.1 hv
   obtain rfl : E.kf x = p := E.inj _ _ (congrArg Prod.fst e1)
   rw [Enc.get_of h.uq hx]
   exact ⟨(congrArg Prod.snd e1).symm, rfl⟩
  ·rw [Enc.get_not fun x hx e1 => hv (E.pr x) (List.mem_map.2 ⟨x, hx, rfl⟩) (by rw [← e1]; rfl)]
   exact ⟨rfl, rfl⟩
 obtain ⟨rfl, rfl⟩ := e
 exact hrun
theorem MapK.put (h : MapK E P k w b l) (K : Keyed P k) (ht : P.underlying t = some (.map k et)) (e : α) {kl : Lit} (hkey : keyOf P k (E.kv (E.kf e)) = some kl) :
  ∃ o, (Instr.mapUpdate t (.map (some b)) (E.kv (E.kf e)) (E.vf e)).run P w = .ok () (setBlock w b o) ∧ MapK E P k (setBlock w b o) b (E.put l e) ∧ w.grownBy (setBlock w b o) (some b) := by
 obtain ⟨l', o, hrun, hP, hm, hg⟩ := MapAt.put h K ht hkey (E.vf e)
 refine ⟨o, hrun, ?_, hg⟩
 rw [Enc.put_at h.uq hP] at hm
 exact hm
theorem MapK.del (h : MapK E P k w b l) (K : Keyed P k) (ht : P.underlying t = some (.map k et)) {kl : Lit} (hkey : keyOf P k (E.kv p) = some kl) (ty : TypeId) :
  ∃ o, (Builtin.delete_ #[t, k] ty #[.map (some b), E.kv p]).run P w = .ok (.tuple #[]) (setBlock w b o) ∧ MapK E P k (setBlock w b o) b (E.del l p) ∧ w.grownBy (setBlock w b o) (some b) := by
 obtain ⟨l', o, hrun, hP, hm, hg⟩ := MapAt.del h K ht hkey ty
 refine ⟨o, hrun, ?_, hg⟩
 rw [Enc.del_at h.uq hP] at hm
 exact hm
theorem MapK.size (h : MapK E P k w b l) : ∃ es clock, w.heap[b]? = some (.map es clock) ∧ es.size = l.length := by
 obtain ⟨es, clock, h1, h2⟩ := MapAt.size h
 exact ⟨es, clock, h1, by rw [h2, List.length_map]⟩
end
end
section
open Go.RowKit Go.Maps Go.ChangeMaps Go.MapKept

structure En where
 t : Tg
 d : List UInt8
 b : Nat
 i : Nat
def plV (b i : Nat) : Value := .agg #[.int .i64 (b : Int), .int .i64 (i : Int)]
theorem plV_eq (b i : Nat) : plV b i = .agg #[.int .i64 (b : Int), .int .i64 (i : Int)] := rfl
def kyV (p : Nat) : Value := .int .u32 (p : Int)
def encE (e : En) : Value × Value := (kyV e.t.p, plV e.b e.i)
def enL (l : List En) : List (Value × Value) := l.map encE
theorem kyLaw : Keyed Tryz.prog 100 := int_keyed Tryz.underlying100
theorem kyV_inj {p q : Nat} (h : kyV p = kyV q) : p = q := by
 unfold kyV at h
 injection h with _ h
 omega
theorem kyOf {p : Nat} (h : p < 4294967296) : keyOf Tryz.prog 100 (kyV p) = some (.int .u32 (p : Int)) := by
 have hw : (Lit.int .u32 (p : Int)).wf = true := by
  simp [Lit.wf, IntKind.min, IntKind.max, IntKind.bits, IntKind.signed]
  omega
 simp [keyOf, mapKey, Tryz.underlying100, kyV, hw]
theorem kyOf_lt {p : Nat} {kl : Lit} (h : keyOf Tryz.prog 100 (kyV p) = some kl) : p < 4294967296 := by
 obtain ⟨x, h1, _, h3⟩ := Maps.keyOf_int_inv Tryz.underlying100 h
 injection h1 with _ h1
 subst h1
 simp [Lit.wf, IntKind.min, IntKind.max, IntKind.bits, IntKind.signed] at h3
 omega
theorem nodup_of_map {α β : Type} {f : α → β} {l : List α} (h : (l.map f).Nodup) : l.Nodup := by
 unfold List.Nodup at h ⊢
 rw [List.pairwise_map] at h
 exact h.imp fun h e => h (by rw [e])
theorem nodup_map {α β : Type} {f : α → β} {l : List α} (hf : ∀ a b, f a = f b → a = b) (h : l.Nodup) : (l.map f).Nodup := by
 unfold List.Nodup at h ⊢
 rw [List.pairwise_map]
 exact h.imp fun h e => h (hf _ _ e)
def Uq (l : List En) : Prop := (l.map fun e => e.t.p).Nodup
def getE (l : List En) (p : Nat) : Option En := l.find? fun e => e.t.p == p
def putE (l : List En) (e : En) : List En := if (getE l e.t.p).isSome then l.map (fun x => if x.t.p = e.t.p then e else x) else l ++ [e]
def delE (l : List En) (p : Nat) : List En := l.filter fun x => x.t.p != p
theorem uq_iff {l : List En} : ((enL l).map (·.1)).Nodup ↔ Uq l := by
 unfold enL Uq
 rw [List.map_map]
 have e : ∀ l : List En, l.map ((·.1) ∘ encE) = (l.map fun e => e.t.p).map kyV := fun l => by rw [List.map_map]; rfl
 rw [e]
 constructor
 ·intro h
  exact nodup_of_map h
 ·intro h
  exact nodup_map (fun _ _ => kyV_inj) h
theorem getE_mem {l : List En} {p : Nat} {e : En} (h : getE l p = some e) : e ∈ l ∧ e.t.p = p := by
 unfold getE at h
 exact ⟨List.mem_of_find?_eq_some h, by have := List.find?_some h; simpa using this⟩
theorem getE_none {l : List En} {p : Nat} (h : getE l p = none) : ∀ e ∈ l, e.t.p ≠ p := fun e he => by
 unfold getE at h
 have := (List.find?_eq_none.1 h) e he
 simpa using this
theorem uq_one {l : List En} (h : Uq l) {x y : En} (hx : x ∈ l) (hy : y ∈ l) (e : x.t.p = y.t.p) : x = y := by
 induction l with
 | nil => cases hx
 | cons z t ih =>
  unfold Uq at h ih
  rw [List.map_cons, List.nodup_cons] at h
  rcases List.mem_cons.1 hx with rfl | hx' <;> rcases List.mem_cons.1 hy with rfl | hy'
  ·rfl
  ·exact absurd (List.mem_map.2 ⟨y, hy', e.symm⟩) h.1
  ·exact absurd (List.mem_map.2 ⟨x, hx', e⟩) h.1
  ·exact ih h.2 hx' hy'
theorem getE_of {l : List En} (h : Uq l) {e : En} (he : e ∈ l) : getE l e.t.p = some e := by
 cases hg : getE l e.t.p with
 | none => exact absurd rfl (getE_none hg e he)
 | some x =>
  obtain ⟨h1, h2⟩ := getE_mem hg
  rw [uq_one h h1 he h2]
theorem getE_not {l : List En} {p : Nat} (h : ∀ e ∈ l, e.t.p ≠ p) : getE l p = none := by
 unfold getE
 rw [List.find?_eq_none]
 intro x hx
 simpa using h x hx
theorem uq_app {l1 l2 : List En} {e0 : En} (h : Uq (l1 ++ e0 :: l2)) : (∀ x ∈ l1, x.t.p ≠ e0.t.p) ∧ ∀ x ∈ l2, x.t.p ≠ e0.t.p := by
 unfold Uq at h
 rw [List.map_append, List.map_cons, List.nodup_append, List.nodup_cons] at h
 obtain ⟨_, ⟨n2, _⟩, n4⟩ := h
 exact ⟨fun x hx e => n4 x.t.p (List.mem_map.2 ⟨x, hx, rfl⟩) e0.t.p (by simp) e, fun x hx e => n2 (List.mem_map.2 ⟨x, hx, e⟩)⟩
theorem putE_is {l1 l2 : List En} {e0 e : En} (h : Uq (l1 ++ e0 :: l2)) (hp : e0.t.p = e.t.p) : putE (l1 ++ e0 :: l2) e = l1 ++ e :: l2 := by
 obtain ⟨h1, h2⟩ := uq_app h
 have hg : getE (l1 ++ e0 :: l2) e.t.p = some e0 := by rw [← hp]; exact getE_of h (by simp)
 unfold putE
 rw [hg, if_pos Option.isSome_some, List.map_append, List.map_cons, if_pos hp]
 have e1 : ∀ m : List En, (∀ x ∈ m, x.t.p ≠ e0.t.p) → m.map (fun x => if x.t.p = e.t.p then e else x) = m := fun m hm => by
  conv => rhs; rw [← List.map_id m]
  exact List.map_congr_left fun x hx => if_neg (by rw [← hp]; exact hm x hx)
 rw [e1 l1 h1, e1 l2 h2]
theorem putE_new {l : List En} {e : En} (h : ∀ x ∈ l, x.t.p ≠ e.t.p) : putE l e = l ++ [e] := by
 unfold putE
 rw [getE_not h]
 rfl
theorem delE_is {l1 l2 : List En} {e0 : En} (h : Uq (l1 ++ e0 :: l2)) : delE (l1 ++ e0 :: l2) e0.t.p = l1 ++ l2 := by
 obtain ⟨h1, h2⟩ := uq_app h
 unfold delE
 rw [List.filter_append, List.filter_cons_of_neg (by simp)]
 rw [List.filter_eq_self.2 (fun x hx => by simpa using h1 x hx), List.filter_eq_self.2 (fun x hx => by simpa using h2 x hx)]
theorem delE_not {l : List En} {p : Nat} (h : ∀ x ∈ l, x.t.p ≠ p) : delE l p = l := List.filter_eq_self.2 fun x hx => by simpa using h x hx
theorem putE_at {l : List En} {e : En} {L : List (Value × Value)} (h : Uq l) (hP : PutAt (enL l) (kyV e.t.p) (plV e.b e.i) L) : L = enL (putE l e) := by
 rcases hP with ⟨l1, v0, l2, e1, rfl⟩ | ⟨h1, rfl⟩
 ·unfold enL at e1
  obtain ⟨m1, m2, rfl, rfl, e3⟩ := List.map_eq_append_iff.1 e1
  obtain ⟨e0, m3, rfl, e4, rfl⟩ := List.map_eq_cons_iff.1 e3
  have hp : e0.t.p = e.t.p := kyV_inj (congrArg Prod.fst e4)
  rw [putE_is h hp]
  unfold enL
  rw [List.map_append, List.map_cons]
  rfl
 ·rw [putE_new fun x hx e1 => h1 (encE x) (List.mem_map.2 ⟨x, hx, rfl⟩) (by rw [← e1]; rfl)]
  unfold enL
  rw [List.map_append]
  rfl
theorem delE_at {l : List En} {p : Nat} {L : List (Value × Value)} (h : Uq l) (hP : DelAt (enL l) (kyV p) L) : L = enL (delE l p) := by
 rcases hP with ⟨l1, v0, l2, e1, rfl⟩ | ⟨h1, rfl⟩
 ·unfold enL at e1
  obtain ⟨m1, m2, rfl, rfl, e3⟩ := List.map_eq_append_iff.1 e1
  obtain ⟨e0, m3, rfl, e4, rfl⟩ := List.map_eq_cons_iff.1 e3
  obtain rfl : e0.t.p = p := kyV_inj (congrArg Prod.fst e4)
  rw [delE_is h]
  unfold enL
  rw [List.map_append]
 ·rw [delE_not fun x hx e1 => h1 (encE x) (List.mem_map.2 ⟨x, hx, rfl⟩) (by rw [← e1]; rfl)]
theorem putE_len (l : List En) (e : En) : (putE l e).length = l.length + (if (getE l e.t.p).isSome then 0 else 1) := by
 unfold putE
 split <;> simp
def MapE (w : World) (b : Nat) (l : List En) : Prop := MapAt Tryz.prog 100 w b (enL l)
def RngE (w : World) (b r : Nat) (l d : List En) : Prop := RngAt Tryz.prog 100 w b r (enL l) (enL d) ∧ ∀ x ∈ d, x ∈ l
def plO : Option En → Value
 | none => plV 0 0
 | some e => plV e.b e.i
theorem zeroPl (w : World) : (zeroValue 184).run Tryz.prog w = .ok (plV 0 0) w := by kernel_rfl
section
variable {w w' : World} {b r : Nat} {l d : List En}
theorem MapE.uq (h : MapE w b l) : Uq l := uq_iff.1 (MapAt.nodup h)
theorem MapE.lt (h : MapE w b l) : b < w.heap.size := MapAt.lt h
theorem MapE.same (h : MapE w b l) (hb : w'.heap[b]? = w.heap[b]?) : MapE w' b l := MapAt.same h hb
theorem MapE.made (w : World) : MapE (w.alloc (.map #[] 0)) w.heap.size [] := MapAt.made w
theorem MapE.key (h : MapE w b l) {e : En} (he : e ∈ l) : e.t.p < 4294967296 := by
 obtain ⟨_, _, _, _, _, _, _, h7⟩ := h
 obtain ⟨kl, hkl⟩ := h7 (encE e) (List.mem_map.2 ⟨e, he, rfl⟩)
 exact kyOf_lt hkl
theorem MapE.look (h : MapE w b l) {p : Nat} (hp : p < 4294967296) (ok : Bool) :
  (Instr.lookup 135 (.map (some b)) (.int .u32 (p : Int)) ok).run Tryz.prog w = .ok (if ok then .tuple #[plO (getE l p), .bool (getE l p).isSome] else plO (getE l p)) w := by
 obtain ⟨v, f, hrun, hv⟩ := MapAt.look h kyLaw Tryz.underlying135 (zeroPl w) (kyOf hp) ok
 have e : v = plO (getE l p) ∧ f = (getE l p).isSome := by
  rcases hv with ⟨rfl, hv⟩ | ⟨rfl, rfl, hv⟩
  ·obtain ⟨x, hx, e1⟩ := List.mem_map.1 hv
   obtain rfl : x.t.p = p := kyV_inj (congrArg Prod.fst e1)
   rw [getE_of h.uq hx]
   exact ⟨(congrArg Prod.snd e1).symm, rfl⟩
  ·rw [getE_not fun x hx e1 => hv (encE x) (List.mem_map.2 ⟨x, hx, rfl⟩) (by rw [← e1]; rfl)]
   exact ⟨rfl, rfl⟩
 obtain ⟨rfl, rfl⟩ := e
 exact hrun
theorem MapE.put (h : MapE w b l) (e : En) (hp : e.t.p < 4294967296) :
  ∃ o, (Instr.mapUpdate 135 (.map (some b)) (.int .u32 (e.t.p : Int)) (plV e.b e.i)).run Tryz.prog w = .ok () (setBlock w b o) ∧ MapE (setBlock w b o) b (putE l e) ∧ w.grownBy (setBlock w b o) (some b) := by
 obtain ⟨l', o, hrun, hP, hm, hg⟩ := MapAt.put h kyLaw Tryz.underlying135 (kyOf hp) (plV e.b e.i)
 refine ⟨o, hrun, ?_, hg⟩
 rw [putE_at h.uq hP] at hm
 exact hm
theorem MapE.del (h : MapE w b l) {p : Nat} (hp : p < 4294967296) (ty : TypeId) :
  ∃ o, (Builtin.delete_ #[135, 100] ty #[.map (some b), .int .u32 (p : Int)]).run Tryz.prog w = .ok (.tuple #[]) (setBlock w b o) ∧ MapE (setBlock w b o) b (delE l p) ∧ w.grownBy (setBlock w b o) (some b) := by
 obtain ⟨l', o, hrun, hP, hm, hg⟩ := MapAt.del h kyLaw Tryz.underlying135 (kyOf hp) ty
 refine ⟨o, hrun, ?_, hg⟩
 rw [delE_at h.uq hP] at hm
 exact hm
theorem MapE.size (h : MapE w b l) : ∃ es clock, w.heap[b]? = some (.map es clock) ∧ es.size = l.length := by
 obtain ⟨es, clock, h1, h2⟩ := MapAt.size h
 exact ⟨es, clock, h1, by rw [h2]; unfold enL; rw [List.length_map]⟩
theorem RngE.mapE (h : RngE w b r l d) : MapE w b l := h.1.mapAt
theorem RngE.on (h : RngE w b r l d) (hb : Below w.heap.size w w') : RngE w' b r l d := ⟨h.1.on hb, h.2⟩
theorem RngE.same (h : RngE w b r l d) (h1 : w'.heap[b]? = w.heap[b]?) (h2 : w'.heap[r]? = w.heap[r]?) : RngE w' b r l d := ⟨h.1.same h1 h2, h.2⟩
theorem RngE.ltr (h : RngE w b r l d) : r < w.heap.size := h.1.ltr
theorem RngE.ltb (h : RngE w b r l d) : b < w.heap.size := h.1.ltb
theorem RngE.all (h : RngE w b r l d) (hp : (enL d).Perm (enL l)) : d.Perm l := by
 have hl := h.mapE.uq
 have h1 : ∀ {m : List En}, (enL m).Nodup → m.Nodup := fun hm => nodup_of_map hm
 have n1 := nodup_of_keys (uq_iff.2 hl)
 refine (List.perm_ext_iff_of_nodup (h1 (hp.nodup_iff.2 n1)) (h1 n1)).2 fun x => ⟨h.2 x, fun hx => ?_⟩
 have h2 : encE x ∈ enL d := hp.mem_iff.2 (List.mem_map.2 ⟨x, hx, rfl⟩)
 obtain ⟨y, hy, e⟩ := List.mem_map.1 h2
 rw [← uq_one hl (h.2 y hy) hx (kyV_inj (congrArg Prod.fst e))]
 exact hy
theorem RngE.rest (h : RngE w b r l d) : ∃ rest : List En, (d ++ rest).Perm l := by
 classical
 have h1 : ∀ {m : List En}, (enL m).Nodup → m.Nodup := fun hm => nodup_of_map hm
 have nl := h1 (nodup_of_keys (uq_iff.2 h.mapE.uq))
 have nd : d.Nodup := by
  obtain ⟨es, clock, since, seen, c0, _, _, _, _, _, _, _, _, _, _, h11, _⟩ := h.1
  exact h1 h11
 refine ⟨l.filter fun x => decide (x ∉ d), (List.perm_ext_iff_of_nodup ?_ nl).2 fun x => ?_⟩
 ·rw [List.nodup_append]
  refine ⟨nd, nl.filter _, ?_⟩
  rintro a ha c hc rfl
  have := (List.mem_filter.1 hc).2
  simp [ha] at this
 ·rw [List.mem_append, List.mem_filter]
  constructor
  ·rintro (h2 | h2)
   ·exact h.2 x h2
   ·exact h2.1
  ·intro h2
   by_cases h3 : x ∈ d
   ·exact .inl h3
   ·exact .inr ⟨h2, by simpa using h3⟩
end
section
variable (w : World) {ops : Array Oper} {rest : List Oper} {o : Oper} {a : Act} {Q : Exit → Act → World → Prop}
theorem wpList_range_E (hg : o.guard = none) (m : Operand) (hop : o.op = Op.range 135 m) (b : Nat) (l : List En) (hm : a.eval m = .map (some b)) (h : MapE w b l)
  (hK : ∀ w', Hid (RngE w' b w.heap.size l []) → Hid (Below w.heap.size w w') → w'.heap.size = w.heap.size + 1 → wpList Tryz.prog ops Q rest (a.put o.dst (.pointer (some ⟨w.heap.size, 0, none⟩))) w') :
  wpList Tryz.prog ops Q (o :: rest) a w :=
 wpList_range_At w hg m 135 hop 100 184 Tryz.underlying135 b _ hm h fun w' h1 h2 h3 => hK w' (hid ⟨h1.out, by simp⟩) h2 h3
theorem wpList_next_E (hg : o.guard = none) (it : Operand) (hop : o.op = Op.next it false) (b r : Nat) (l d : List En) (hit : a.eval it = .pointer (some ⟨r, 0, none⟩)) (h : RngE w b r l d)
  (hDone : Hid (d.Perm l) → wpList Tryz.prog ops Q rest (a.put o.dst (.tuple #[.bool false])) w)
  (hMore : ∀ e w', Hid (e ∈ l ∧ e ∉ d) → Hid (RngE w' b r l (d ++ [e])) → Hid (w.grownBy w' (some r)) → w'.heap.size = w.heap.size → Hid (w'.rangeLeft b r < w.rangeLeft b r) → (Instr.entry (.pointer (some ⟨r, 0, none⟩))).run Tryz.prog w' = .ok (.tuple #[.int .u32 (e.t.p : Int), plV e.b e.i]) w' → wpList Tryz.prog ops Q rest (a.put o.dst (.tuple #[.bool true, .int .u32 (e.t.p : Int), plV e.b e.i])) w') :
  wpList Tryz.prog ops Q (o :: rest) a w := by
 refine wpList_next_At w hg it hop 100 b r _ _ hit h.1 (fun h1 => hDone (hid (h.all h1.out))) fun p w' h1 h2 h3 h4 h5 h6 => ?_
 obtain ⟨hp, hd⟩ := h1.out
 obtain ⟨e, he, rfl⟩ := List.mem_map.1 hp
 refine hMore e w' (hid ⟨he, fun h7 => hd (List.mem_map.2 ⟨e, h7, rfl⟩)⟩) (hid ⟨?_, fun x hx => ?_⟩) h3 h4 h5 h6
 ·have := h2.out
  unfold enL at this ⊢
  rw [List.map_append]
  exact this
 ·rcases List.mem_append.1 hx with h8 | h8
  ·exact h.2 x h8
  ·rw [List.mem_singleton] at h8; subst h8; exact he
end
end
end Go.Proofs.YtcppkaphlcflgaaGreat
