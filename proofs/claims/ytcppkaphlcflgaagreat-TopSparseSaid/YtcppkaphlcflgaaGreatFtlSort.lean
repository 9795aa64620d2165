import Derived.Test.YtcppkaphlcflgaaGreatSlClone
import Derived.Test.YtcppkaphlcflgaaGreatMapKey
import Derived.Test.YtcppkaphlcflgaaGreatTagMath
import Derived.Maps.RangeWalk
import Derived.Shelf.SlSortCmp.SmallK
import Derived.Ground.SlsfProg
import Derived.Test.YtcppkaphlcflgaaGreatMem
import Derived.Test.YtcppkaphlcflgaaGreatProg
import Derived.Shelf.Small.Bits
import Derived.Test.YtcppkaphlcflgaaGreatMany
namespace Go.Proofs.YtcppkaphlcflgaaGreat
open Go.RowKit Go.Maps Go.ChangeMaps Go.MapKept

structure En where
 t : Tg
 d : List UInt8
 b : Nat
 i : Nat
def plV (b i : Nat) : Value := .agg #[.int .i64 (b : Int), .int .i64 (i : Int)]
theorem plV_eq (b i : Nat) : plV b i = .agg #[.int .i64 (b : Int), .int .i64 (i : Int)] := rfl
def kyV (p : Nat) : Value := .int .u32 (p : Int)
def encE (e : En) : Value × Value := (kyV e.t.p, plV e.b e.i)
def enL (l : List En) : List (Value × Value) := l.map encE
theorem kyLaw : Keyed Tryz.prog 100 := int_keyed Tryz.underlying100
theorem kyV_inj {p q : Nat} (h : kyV p = kyV q) : p = q := by
 unfold kyV at h
 injection h with _ h
 omega
theorem kyOf {p : Nat} (h : p < 4294967296) : keyOf Tryz.prog 100 (kyV p) = some (.int .u32 (p : Int)) := by
 have hw : (Lit.int .u32 (p : Int)).wf = true := by
  simp [Lit.wf, IntKind.min, IntKind.max, IntKind.bits, IntKind.signed]
  omega
 simp [keyOf, mapKey, Tryz.underlying100, kyV, hw]
theorem kyOf_lt {p : Nat} {kl : Lit} (h : keyOf Tryz.prog 100 (kyV p) = some kl) : p < 4294967296 := by
 obtain ⟨x, h1, _, h3⟩ := Maps.keyOf_int_inv Tryz.underlying100 h
 injection h1 with _ h1
 subst h1
 simp [Lit.wf, IntKind.min, IntKind.max, IntKind.bits, IntKind.signed] at h3
 omega
theorem nodup_of_map {α β : Type} {f : α → β} {l : List α} (h : (l.map f).Nodup) : l.Nodup := by
 unfold List.Nodup at h ⊢
 rw [List.pairwise_map] at h
 exact h.imp fun h e => h (by rw [e])
theorem nodup_map {α β : Type} {f : α → β} {l : List α} (hf : ∀ a b, f a = f b → a = b) (h : l.Nodup) : (l.map f).Nodup := by
 unfold List.Nodup at h ⊢
 rw [List.pairwise_map]
 exact h.imp fun h e => h (hf _ _ e)
def Uq (l : List En) : Prop := (l.map fun e => e.t.p).Nodup
def getE (l : List En) (p : Nat) : Option En := l.find? fun e => e.t.p == p
def putE (l : List En) (e : En) : List En := if (getE l e.t.p).isSome then l.map (fun x => if x.t.p = e.t.p then e else x) else l ++ [e]
def delE (l : List En) (p : Nat) : List En := l.filter fun x => x.t.p != p
theorem uq_iff {l : List En} : ((enL l).map (·.1)).Nodup ↔ Uq l := by
 unfold enL Uq
 rw [List.map_map]
 have e : ∀ l : List En, l.map ((·.1) ∘ encE) = (l.map fun e => e.t.p).map kyV := fun l => by rw [List.map_map]; rfl
 rw [e]
 constructor
 ·intro h
  exact nodup_of_map h
 ·intro h
  exact nodup_map (fun _ _ => kyV_inj) h
theorem getE_mem {l : List En} {p : Nat} {e : En} (h : getE l p = some e) : e ∈ l ∧ e.t.p = p := by
 unfold getE at h
 exact ⟨List.mem_of_find?_eq_some h, by have := List.find?_some h; simpa using this⟩
theorem getE_none {l : List En} {p : Nat} (h : getE l p = none) : ∀ e ∈ l, e.t.p ≠ p := fun e he => by
 unfold getE at h
 have := (List.find?_eq_none.1 h) e he
 simpa using this
theorem uq_one {l : List En} (h : Uq l) {x y : En} (hx : x ∈ l) (hy : y ∈ l) (e : x.t.p = y.t.p) : x = y := by
 induction l with
 | nil => cases hx
 | cons z t ih =>
  unfold Uq at h ih
  rw [List.map_cons, List.nodup_cons] at h
  rcases List.mem_cons.1 hx with rfl | hx' <;> rcases List.mem_cons.1 hy with rfl | hy'
  ·rfl
  ·exact absurd (List.mem_map.2 ⟨y, hy', e.symm⟩) h.1
  ·exact absurd (List.mem_map.2 ⟨x, hx', e⟩) h.1
  ·exact ih h.2 hx' hy'
theorem getE_of {l : List En} (h : Uq l) {e : En} (he : e ∈ l) : getE l e.t.p = some e := by
 cases hg : getE l e.t.p with
 | none => exact absurd rfl (getE_none hg e he)
 | some x =>
  obtain ⟨h1, h2⟩ := getE_mem hg
  rw [uq_one h h1 he h2]
theorem getE_not {l : List En} {p : Nat} (h : ∀ e ∈ l, e.t.p ≠ p) : getE l p = none := by
 unfold getE
 rw [List.find?_eq_none]
 intro x hx
 simpa using h x hx
theorem uq_app {l1 l2 : List En} {e0 : En} (h : Uq (l1 ++ e0 :: l2)) : (∀ x ∈ l1, x.t.p ≠ e0.t.p) ∧ ∀ x ∈ l2, x.t.p ≠ e0.t.p := by
 unfold Uq at h
 rw [List.map_append, List.map_cons, List.nodup_append, List.nodup_cons] at h
 obtain ⟨_, ⟨n2, _⟩, n4⟩ := h
 exact ⟨fun x hx e => n4 x.t.p (List.mem_map.2 ⟨x, hx, rfl⟩) e0.t.p (by simp) e, fun x hx e => n2 (List.mem_map.2 ⟨x, hx, e⟩)⟩
theorem putE_is {l1 l2 : List En} {e0 e : En} (h : Uq (l1 ++ e0 :: l2)) (hp : e0.t.p = e.t.p) : putE (l1 ++ e0 :: l2) e = l1 ++ e :: l2 := by
 obtain ⟨h1, h2⟩ := uq_app h
 have hg : getE (l1 ++ e0 :: l2) e.t.p = some e0 := by rw [← hp]; exact getE_of h (by simp)
 unfold putE
 rw [hg, if_pos Option.isSome_some, List.map_append, List.map_cons, if_pos hp]
 have e1 : ∀ m : List En, (∀ x ∈ m, x.t.p ≠ e0.t.p) → m.map (fun x => if x.t.p = e.t.p then e else x) = m := fun m hm => by
  conv => rhs; rw [← List.map_id m]
  exact List.map_congr_left fun x hx => if_neg (by rw [← hp]; exact hm x hx)
 rw [e1 l1 h1, e1 l2 h2]
theorem putE_new {l : List En} {e : En} (h : ∀ x ∈ l, x.t.p ≠ e.t.p) : putE l e = l ++ [e] := by
 unfold putE
 rw [getE_not h]
 rfl
theorem delE_is {l1 l2 : List En} {e0 : En} (h : Uq (l1 ++ e0 :: l2)) : delE (l1 ++ e0 :: l2) e0.t.p = l1 ++ l2 := by
 obtain ⟨h1, h2⟩ := uq_app h
 unfold delE
 rw [List.filter_append, List.filter_cons_of_neg (by simp)]
 rw [List.filter_eq_self.2 (fun x hx => by simpa using h1 x hx), List.filter_eq_self.2 (fun x hx => by simpa using h2 x hx)]
theorem delE_not {l : List En} {p : Nat} (h : ∀ x ∈ l, x.t.p ≠ p) : delE l p = l := List.filter_eq_self.2 fun x hx => by simpa using h x hx
theorem putE_at {l : List En} {e : En} {L : List (Value × Value)} (h : Uq l) (hP : PutAt (enL l) (kyV e.t.p) (plV e.b e.i) L) : L = enL (putE l e) := by
 rcases hP with ⟨l1, v0, l2, e1, rfl⟩ | ⟨h1, rfl⟩
 ·unfold enL at e1
  obtain ⟨m1, m2, rfl, rfl, e3⟩ := List.map_eq_append_iff.1 e1
  obtain ⟨e0, m3, rfl, e4, rfl⟩ := List.map_eq_cons_iff.1 e3
  have hp : e0.t.p = e.t.p := kyV_inj (congrArg Prod.fst e4)
  rw [putE_is h hp]
  unfold enL
  rw [List.map_append, List.map_cons]
  rfl
 ·rw [putE_new fun x hx e1 => h1 (encE x) (List.mem_map.2 ⟨x, hx, rfl⟩) (by rw [← e1]; rfl)]
  unfold enL
  rw [List.map_append]
  rfl
theorem delE_at {l : List En} {p : Nat} {L : List (Value × Value)} (h : Uq l) (hP : DelAt (enL l) (kyV p) L) : L = enL (delE l p) := by
 rcases hP with ⟨l1, v0, l2, e1, rfl⟩ | ⟨h1, rfl⟩
 ·unfold enL at e1
  obtain ⟨m1, m2, rfl, rfl, e3⟩ := List.map_eq_append_iff.1 e1
  obtain ⟨e0, m3, rfl, e4, rfl⟩ := List.map_eq_cons_iff.1 e3
  obtain rfl : e0.t.p = p := kyV_inj (congrArg Prod.fst e4)
  rw [delE_is h]
  unfold enL
  rw [List.map_append]
 ·rw [delE_not fun x hx e1 => h1 (encE x) (List.mem_map.2 ⟨x, hx, rfl⟩) (by rw [← e1]; rfl)]
theorem putE_len (l : List En) (e : En) : (putE l e).length = l.length + (if (getE l e.t.p).isSome then 0 else 1) := by
 unfold putE
 split <;> simp
def MapE (w : World) (b : Nat) (l : List En) : Prop := MapAt Tryz.prog 100 w b (enL l)
def RngE (w : World) (b r : Nat) (l d : List En) : Prop := RngAt Tryz.prog 100 w b r (enL l) (enL d) ∧ ∀ x ∈ d, x ∈ l
def plO : Option En → Value
 | none => plV 0 0
 | some e => plV e.b e.i
theorem zeroPl (w : World) : (zeroValue 184).run Tryz.prog w = .ok (plV 0 0) w := by kernel_rfl
section
variable {w w' : World} {b r : Nat} {l d : List En}
theorem MapE.uq (h : MapE w b l) : Uq l := uq_iff.1 (MapAt.nodup h)
theorem MapE.lt (h : MapE w b l) : b < w.heap.size := MapAt.lt h
theorem MapE.same (h : MapE w b l) (hb : w'.heap[b]? = w.heap[b]?) : MapE w' b l := MapAt.same h hb
theorem MapE.made (w : World) : MapE (w.alloc (.map #[] 0)) w.heap.size [] := MapAt.made w
theorem MapE.key (h : MapE w b l) {e : En} (he : e ∈ l) : e.t.p < 4294967296 := by
 obtain ⟨_, _, _, _, _, _, _, h7⟩ := h
 obtain ⟨kl, hkl⟩ := h7 (encE e) (List.mem_map.2 ⟨e, he, rfl⟩)
 exact kyOf_lt hkl
theorem MapE.look (h : MapE w b l) {p : Nat} (hp : p < 4294967296) (ok : Bool) :
  (Instr.lookup 135 (.map (some b)) (.int .u32 (p : Int)) ok).run Tryz.prog w = .ok (if ok then .tuple #[plO (getE l p), .bool (getE l p).isSome] else plO (getE l p)) w := by
 obtain ⟨v, f, hrun, hv⟩ := MapAt.look h kyLaw Tryz.underlying135 (zeroPl w) (kyOf hp) ok
 have e : v = plO (getE l p) ∧ f = (getE l p).isSome := by
  rcases hv with ⟨rfl, hv⟩ | ⟨rfl, rfl, hv⟩
  ·obtain ⟨x, hx, e1⟩ := List.mem_map.1 hv
   obtain rfl : x.t.p = p := kyV_inj (congrArg Prod.fst e1)
   rw [getE_of h.uq hx]
   exact ⟨(congrArg Prod.snd e1).symm, rfl⟩
  ·rw [getE_not fun x hx e1 => hv (encE x) (List.mem_map.2 ⟨x, hx, rfl⟩) (by rw [← e1]; rfl)]
   exact ⟨rfl, rfl⟩
 obtain ⟨rfl, rfl⟩ := e
 exact hrun
theorem MapE.put (h : MapE w b l) (e : En) (hp : e.t.p < 4294967296) :
  ∃ o, (Instr.mapUpdate 135 (.map (some b)) (.int .u32 (e.t.p : Int)) (plV e.b e.i)).run Tryz.prog w = .ok () (setBlock w b o) ∧ MapE (setBlock w b o) b (putE l e) ∧ w.grownBy (setBlock w b o) (some b) := by
 obtain ⟨l', o, hrun, hP, hm, hg⟩ := MapAt.put h kyLaw Tryz.underlying135 (kyOf hp) (plV e.b e.i)
 refine ⟨o, hrun, ?_, hg⟩
 rw [putE_at h.uq hP] at hm
 exact hm
theorem MapE.del (h : MapE w b l) {p : Nat} (hp : p < 4294967296) (ty : TypeId) :
  ∃ o, (Builtin.delete_ #[135, 100] ty #[.map (some b), .int .u32 (p : Int)]).run Tryz.prog w = .ok (.tuple #[]) (setBlock w b o) ∧ MapE (setBlock w b o) b (delE l p) ∧ w.grownBy (setBlock w b o) (some b) := by
 obtain ⟨l', o, hrun, hP, hm, hg⟩ := MapAt.del h kyLaw Tryz.underlying135 (kyOf hp) ty
 refine ⟨o, hrun, ?_, hg⟩
 rw [delE_at h.uq hP] at hm
 exact hm
theorem MapE.size (h : MapE w b l) : ∃ es clock, w.heap[b]? = some (.map es clock) ∧ es.size = l.length := by
 obtain ⟨es, clock, h1, h2⟩ := MapAt.size h
 exact ⟨es, clock, h1, by rw [h2]; unfold enL; rw [List.length_map]⟩
theorem RngE.mapE (h : RngE w b r l d) : MapE w b l := h.1.mapAt
theorem RngE.on (h : RngE w b r l d) (hb : Below w.heap.size w w') : RngE w' b r l d := ⟨h.1.on hb, h.2⟩
theorem RngE.same (h : RngE w b r l d) (h1 : w'.heap[b]? = w.heap[b]?) (h2 : w'.heap[r]? = w.heap[r]?) : RngE w' b r l d := ⟨h.1.same h1 h2, h.2⟩
theorem RngE.ltr (h : RngE w b r l d) : r < w.heap.size := h.1.ltr
theorem RngE.ltb (h : RngE w b r l d) : b < w.heap.size := h.1.ltb
theorem RngE.all (h : RngE w b r l d) (hp : (enL d).Perm (enL l)) : d.Perm l := by
 have hl := h.mapE.uq
 have h1 : ∀ {m : List En}, (enL m).Nodup → m.Nodup := fun hm => nodup_of_map hm
 have n1 := nodup_of_keys (uq_iff.2 hl)
 refine (List.perm_ext_iff_of_nodup (h1 (hp.nodup_iff.2 n1)) (h1 n1)).2 fun x => ⟨h.2 x, fun hx => ?_⟩
 have h2 : encE x ∈ enL d := hp.mem_iff.2 (List.mem_map.2 ⟨x, hx, rfl⟩)
 obtain ⟨y, hy, e⟩ := List.mem_map.1 h2
 rw [← uq_one hl (h.2 y hy) hx (kyV_inj (congrArg Prod.fst e))]
 exact hy
theorem RngE.rest (h : RngE w b r l d) : ∃ rest : List En, (d ++ rest).Perm l := by
 classical
 have h1 : ∀ {m : List En}, (enL m).Nodup → m.Nodup := fun hm => nodup_of_map hm
 have nl := h1 (nodup_of_keys (uq_iff.2 h.mapE.uq))
 have nd : d.Nodup := by
  obtain ⟨es, clock, since, seen, c0, _, _, _, _, _, _, _, _, _, _, h11, _⟩ := h.1
  exact h1 h11
 refine ⟨l.filter fun x => decide (x ∉ d), (List.perm_ext_iff_of_nodup ?_ nl).2 fun x => ?_⟩
 ·rw [List.nodup_append]
  refine ⟨nd, nl.filter _, ?_⟩
  rintro a ha c hc rfl
  have := (List.mem_filter.1 hc).2
  simp [ha] at this
 ·rw [List.mem_append, List.mem_filter]
  constructor
  ·rintro (h2 | h2)
   ·exact h.2 x h2
   ·exact h2.1
  ·intro h2
   by_cases h3 : x ∈ d
   ·exact .inl h3
   ·exact .inr ⟨h2, by simpa using h3⟩
end
section
variable (w : World) {ops : Array Oper} {rest : List Oper} {o : Oper} {a : Act} {Q : Exit → Act → World → Prop}
theorem wpList_range_E (hg : o.guard = none) (m : Operand) (hop : o.op = Op.range 135 m) (b : Nat) (l : List En) (hm : a.eval m = .map (some b)) (h : MapE w b l)
  (hK : ∀ w', Hid (RngE w' b w.heap.size l []) → Hid (Below w.heap.size w w') → w'.heap.size = w.heap.size + 1 → wpList Tryz.prog ops Q rest (a.put o.dst (.pointer (some ⟨w.heap.size, 0, none⟩))) w') :
  wpList Tryz.prog ops Q (o :: rest) a w :=
 wpList_range_At w hg m 135 hop 100 184 Tryz.underlying135 b _ hm h fun w' h1 h2 h3 => hK w' (Lib.hid ⟨h1.out, by simp⟩) h2 h3
theorem wpList_next_E (hg : o.guard = none) (it : Operand) (hop : o.op = Op.next it false) (b r : Nat) (l d : List En) (hit : a.eval it = .pointer (some ⟨r, 0, none⟩)) (h : RngE w b r l d)
  (hDone : Hid (d.Perm l) → wpList Tryz.prog ops Q rest (a.put o.dst (.tuple #[.bool false])) w)
  (hMore : ∀ e w', Hid (e ∈ l ∧ e ∉ d) → Hid (RngE w' b r l (d ++ [e])) → Hid (w.grownBy w' (some r)) → w'.heap.size = w.heap.size → Hid (w'.rangeLeft b r < w.rangeLeft b r) → (Instr.entry (.pointer (some ⟨r, 0, none⟩))).run Tryz.prog w' = .ok (.tuple #[.int .u32 (e.t.p : Int), plV e.b e.i]) w' → wpList Tryz.prog ops Q rest (a.put o.dst (.tuple #[.bool true, .int .u32 (e.t.p : Int), plV e.b e.i])) w') :
  wpList Tryz.prog ops Q (o :: rest) a w := by
 refine wpList_next_At w hg it hop 100 b r _ _ hit h.1 (fun h1 => hDone (Lib.hid (h.all h1.out))) fun p w' h1 h2 h3 h4 h5 h6 => ?_
 obtain ⟨hp, hd⟩ := h1.out
 obtain ⟨e, he, rfl⟩ := List.mem_map.1 hp
 refine hMore e w' (Lib.hid ⟨he, fun h7 => hd (List.mem_map.2 ⟨e, h7, rfl⟩)⟩) (Lib.hid ⟨?_, fun x hx => ?_⟩) h3 h4 h5 h6
 ·have := h2.out
  unfold enL at this ⊢
  rw [List.map_append]
  exact this
 ·rcases List.mem_append.1 hx with h8 | h8
  ·exact h.2 x h8
  ·rw [List.mem_singleton] at h8; subst h8; exact he
end
end Go.Proofs.YtcppkaphlcflgaaGreat
namespace Go.Proofs.YtcppkaphlcflgaaGreat
open Go.Shelf

def sortH_ren : Go.Shelf.Ren := ⟨fun | 6 => 186 | 15 => 81 | 14 => 200 | 28 => 135 | 29 => 136 | 20 => 219 | 21 => 220 | 22 => 221 | 23 => 222 | 24 => 223 | 25 => 224 | 26 => 225 | 27 => 226 | 46 => 228 | 47 => 164 | 48 => 165 | 49 => 229 | 50 => 230 | 57 => 231 | n => n, fun | 22 => 235 | 24 => 250 | 25 => 252 | 3 => 3 | 39 => 151 | 0 => 0 | 53 => 100 | 55 => 101 | 4 => 4 | 46 => 200 | 45 => 199 | 50 => 75 | 5 => 5 | 9 => 9 | 66 => 222 | 70 => 226 | 76 => 242 | 77 => 115 | n => n, fun | n => n⟩
theorem sortH : Go.Proofs.SlLaysF0.n6 Tryz.prog sortH_ren := {
 mixed := by kernel_rfl
 f6 := ⟨Tryz.f186.name, by decide, Tryz.func186.trans (congrArg some (by kernel_rfl))⟩
 f14 := ⟨Tryz.f200.name, by decide, Tryz.func200.trans (congrArg some (by kernel_rfl))⟩
 f15 := Tryz.func81.trans (congrArg some (by kernel_rfl))
 f20 := ⟨Tryz.f219.name, by decide, Tryz.func219.trans (congrArg some (by kernel_rfl))⟩
 f21 := ⟨Tryz.f220.name, by decide, Tryz.func220.trans (congrArg some (by kernel_rfl))⟩
 f22 := ⟨Tryz.f221.name, by decide, Tryz.func221.trans (congrArg some (by kernel_rfl))⟩
 f23 := ⟨Tryz.f222.name, by decide, Tryz.func222.trans (congrArg some (by kernel_rfl))⟩
 f24 := ⟨Tryz.f223.name, by decide, Tryz.func223.trans (congrArg some (by kernel_rfl))⟩
 f25 := ⟨Tryz.f224.name, by decide, Tryz.func224.trans (congrArg some (by kernel_rfl))⟩
 f26 := ⟨Tryz.f225.name, by decide, Tryz.func225.trans (congrArg some (by kernel_rfl))⟩
 f27 := ⟨Tryz.f226.name, by decide, Tryz.func226.trans (congrArg some (by kernel_rfl))⟩
 f28 := Tryz.func135.trans (congrArg some (by kernel_rfl))
 f29 := Tryz.func136.trans (congrArg some (by kernel_rfl))
 f46 := ⟨Tryz.f228.name, by decide, Tryz.func228.trans (congrArg some (by kernel_rfl))⟩
 f47 := Tryz.func164.trans (congrArg some (by kernel_rfl))
 f48 := Tryz.func165.trans (congrArg some (by kernel_rfl))
 f49 := ⟨Tryz.f229.name, by decide, Tryz.func229.trans (congrArg some (by kernel_rfl))⟩
 f50 := ⟨Tryz.f230.name, by decide, Tryz.func230.trans (congrArg some (by kernel_rfl))⟩
 f57 := ⟨Tryz.f231.name, by decide, Tryz.func231.trans (congrArg some (by kernel_rfl))⟩
 t0 := Tryz.underlying0
 a0 := Tryz.isAgg0
 z0 := Tryz.sizeOf0
 v0 := Tryz.zeroValue0
 t3 := Tryz.underlying3
 a3 := Tryz.isAgg3
 z3 := Tryz.sizeOf3
 v3 := Tryz.zeroValue3
 t4 := Tryz.underlying4
 a4 := Tryz.isAgg4
 z4 := Tryz.sizeOf4
 v4 := Tryz.zeroValue4
 t5 := Tryz.underlying5
 a5 := Tryz.isAgg5
 z5 := Tryz.sizeOf5
 v5 := Tryz.zeroValue5
 t9 := Tryz.underlying9
 a9 := Tryz.isAgg9
 z9 := Tryz.sizeOf9
 v9 := Tryz.zeroValue9
 t22 := Tryz.underlying235
 a22 := Tryz.isAgg235
 z22 := Tryz.sizeOf235
 v22 := Tryz.zeroValue235
 t25 := Tryz.underlying252
 a25 := Tryz.isAgg252
 z25 := Tryz.sizeOf252
 v25 := Tryz.zeroValue252
 t39 := Tryz.underlying151
 a39 := Tryz.isAgg151
 z39 := Tryz.sizeOf151
 v39 := Tryz.zeroValue151
 t45 := Tryz.underlying199
 a45 := Tryz.isAgg199
 z45 := Tryz.sizeOf199
 v45 := Tryz.zeroValue199
 t46 := Tryz.underlying200
 a46 := Tryz.isAgg200
 z46 := Tryz.sizeOf200
 v46 := Tryz.zeroValue200
 t50 := Tryz.underlying75
 a50 := Tryz.isAgg75
 z50 := Tryz.sizeOf75
 v50 := Tryz.zeroValue75
 t53 := Tryz.underlying100
 a53 := Tryz.isAgg100
 z53 := Tryz.sizeOf100
 v53 := Tryz.zeroValue100
 t55 := Tryz.underlying101
 a55 := Tryz.isAgg101
 z55 := Tryz.sizeOf101
 v55 := Tryz.zeroValue101
 t66 := Tryz.underlying222
 a66 := Tryz.isAgg222
 z66 := Tryz.sizeOf222
 v66 := Tryz.zeroValue222
 t70 := Tryz.underlying226
 a70 := Tryz.isAgg226
 z70 := Tryz.sizeOf226
 v70 := Tryz.zeroValue226
 t76 := Tryz.underlying242
 a76 := Tryz.isAgg242
 z76 := Tryz.sizeOf242
 v76 := Tryz.zeroValue242
 t77 := Tryz.underlying115
 a77 := Tryz.isAgg115
 z77 := Tryz.sizeOf115
 v77 := Tryz.zeroValue115 }
end Go.Proofs.YtcppkaphlcflgaaGreat
namespace Go.Proofs.YtcppkaphlcflgaaGreat
open Go.Shelf

def lays125_ren : Go.Shelf.Ren := ⟨fun | 125 => 81 | 128 => 135 | 129 => 136 | n => n, fun | 46 => 151 | 3 => 3 | 51 => 100 | 53 => 101 | 4 => 4 | 5 => 5 | 9 => 9 | n => n, fun | n => n⟩
theorem lays125 : Go.Proofs.Lays.n125 Tryz.prog lays125_ren := {
 mixed := by kernel_rfl
 f125 := Tryz.func81.trans (congrArg some (by kernel_rfl))
 f128 := Tryz.func135.trans (congrArg some (by kernel_rfl))
 f129 := Tryz.func136.trans (congrArg some (by kernel_rfl))
 t3 := Tryz.underlying3
 a3 := Tryz.isAgg3
 z3 := Tryz.sizeOf3
 v3 := Tryz.zeroValue3
 t4 := Tryz.underlying4
 a4 := Tryz.isAgg4
 z4 := Tryz.sizeOf4
 v4 := Tryz.zeroValue4
 t5 := Tryz.underlying5
 a5 := Tryz.isAgg5
 z5 := Tryz.sizeOf5
 v5 := Tryz.zeroValue5
 t9 := Tryz.underlying9
 a9 := Tryz.isAgg9
 z9 := Tryz.sizeOf9
 v9 := Tryz.zeroValue9
 t46 := Tryz.underlying151
 a46 := Tryz.isAgg151
 z46 := Tryz.sizeOf151
 v46 := Tryz.zeroValue151
 t51 := Tryz.underlying100
 a51 := Tryz.isAgg100
 z51 := Tryz.sizeOf100
 v51 := Tryz.zeroValue100
 t53 := Tryz.underlying101
 a53 := Tryz.isAgg101
 z53 := Tryz.sizeOf101
 v53 := Tryz.zeroValue101 }
theorem bitsLen_calls (x : Int) (w : World) (h0 : 0 ≤ x) (h1 : x ≤ 18446744073709551615) :
  Calls Tryz.prog 81 #[.int .u64 x] w fun e w' => e = .returned (.int .i64 (Lib.bitLen x.toNat)) ∧ w' = w := Any.bits_Len lays125 x w h0 h1
end Go.Proofs.YtcppkaphlcflgaaGreat
namespace Go.Proofs.YtcppkaphlcflgaaGreat
open Go.RowKit Go.Shelf Go.Sort

structure Hd where
 n : Bool
 e : En
 h : e.i < 8
instance : Inhabited Hd := ⟨⟨false, ⟨Tg.zero, [], 0, 0⟩, by decide⟩⟩
def hdL (SE NO : Nat) (x : Hd) : List Value := [.map (some (if x.n then NO else SE)), .int .u32 (x.e.t.p : Int), .int .i64 (x.e.b : Int), .int .i64 (x.e.i : Int)]
theorem hd_len (SE NO : Nat) (x : Hd) : (hdL SE NO x).length = 4 := rfl
theorem hd_one (SE NO : Nat) : ∀ (x : Hd), ∀ u ∈ hdL SE NO x, u.oneCell' = true := fun x u hu => by
 simp only [hdL, List.mem_cons, List.not_mem_nil, or_false] at hu
 rcases hu with rfl | rfl | rfl | rfl <;> rfl
def hdC (x y : Hd) : Int := (x.e.i : Int) - (y.e.i : Int)
theorem hdSwo : SWO (ltOf hdC) := by
 refine ⟨fun x => ?_, fun x y z h1 h2 => ?_, fun x y z h1 h2 => ?_⟩
 ·exact decide_eq_false (by unfold hdC; omega)
 ·have a := of_decide_eq_true h1
  have b := of_decide_eq_true h2
  exact decide_eq_true (by unfold hdC at *; omega)
 ·have a := of_decide_eq_false h1
  have b := of_decide_eq_false h2
  exact decide_eq_false (by unfold hdC at *; omega)
theorem heldCells : Tryz.prog.cellsOf 250 = 4 := by kernel_rfl
set_option maxHeartbeats 1000000 in
theorem hdCmp_calls (SE NO : Nat) (x y : Hd) (W : World) :
  Calls Tryz.prog 187 #[.agg #[.map (some (if x.n then NO else SE)), .int .u32 (x.e.t.p : Int), .int .i64 (x.e.b : Int), .int .i64 (x.e.i : Int)], .agg #[.map (some (if y.n then NO else SE)), .int .u32 (y.e.t.p : Int), .int .i64 (y.e.b : Int), .int .i64 (y.e.i : Int)]] W fun e w' => e = .returned (.int .i64 (hdC x y)) ∧ ∃ q os', w' = grow (W.drewN q) os' := by
 have hx := x.h
 have hy := y.h
 have HC := Lib.hid (show (x.e.i : Int) - (y.e.i : Int) = hdC x y from rfl)
 have i1 := IntWalk.i64_in ((x.e.i : Int) - (y.e.i : Int)) ⟨by omega, by omega⟩
 generalize (if x.n = true then NO else SE) = mx at *
 generalize (if y.n = true then NO else SE) = my at *
 generalize x.e = a at *
 generalize y.e = b at *
 generalize hdC x y = r at *
 clear hx hy
 have hcs := heldCells
 go_enter Tryz.func187, Tryz.ntmps187
 go_wp2
 go_ret
 exact ⟨by rw [← HC.out]; rfl, 0, _, by rw [alloc_eq_grow, alloc_eq_grow, grow_grow]; rfl⟩
theorem hdHolds {SE NO P n c base : Nat} {w : World} {e : TypeId} {L : List Hd} (h : OwnM 4 (hdL SE NO) e w base (.slice (some ⟨P, 0, none⟩) n c) L) : HoldsK (hdL SE NO) 4 w P 0 L.toArray := by
 intro j hj
 have hj2 : j < L.toArray.size * 4 := by rw [← size_flatK (hdL SE NO) 4]; exact hj
 rw [List.size_toArray] at hj2
 have hq : j / 4 < L.length := by omega
 have hr : j % 4 < 4 := by omega
 obtain ⟨c1, c2⟩ := h.cellg hq hr
 rw [show j / 4 * 4 + j % 4 = j by omega] at c1 c2
 rw [get_flatK _ _ _ _ (by rw [List.size_toArray]; exact hj2), Nat.zero_add, c1]
 have e1 : L.toArray[j / 4]! = L[j / 4] := by rw [getElem!_pos L.toArray (j / 4) (by rw [List.size_toArray]; exact hq)]; rfl
 refine ⟨?_, c2⟩
 rw [e1, List.getElem?_eq_getElem (by rw [hd_len]; exact hr), getElem!_pos _ _ (by rw [hd_len]; exact hr)]
 rfl
theorem sortW_heap (enc : Hd → List Value) (k : Nat) (w : World) (blk off n : Nat) (d : Array Hd) (os : Array Obj) {q : Nat} (hq : q < w.heap.size) (hne : q ≠ blk) : (sortWorldK enc k w blk off n d os).heap[q]? = w.heap[q]? := by
 show (w.heap.modify blk _ ++ os)[q]? = _
 rw [Array.getElem?_append_left (by rw [Array.size_modify]; exact hq), Array.getElem?_modify, if_neg (Ne.symm hne)]
theorem hdSort_calls (SE NO P n c base : Nat) (w : World) (L : List Hd) (h : OwnM 4 (hdL SE NO) 250 w base (.slice (some ⟨P, 0, none⟩) n c) L) (h12 : L.length ≤ 12) :
  Calls Tryz.prog 186 #[.slice (some ⟨P, 0, none⟩) n c, .func (.func 187) #[] #[]] w fun e w' => e = .returned (.tuple #[]) ∧ (∃ L', L'.Perm L ∧ ArrM 4 (hdL SE NO) w' w'.heap.size (some ⟨P, 0, none⟩) n L') ∧ Below base w w' := by
 obtain ⟨a', c', hv, hc'⟩ := h.form
 injection hv with _ hn _
 subst hn
 obtain ⟨hP1, hP2⟩ := h.blockLt P rfl
 have eg : ∀ args w, (callFunc 187 args).run Tryz.prog w = .ok (.enter 187 args) w := enters_of Tryz.func187 (by kernel_rfl) rfl
 have hH := hdHolds h
 have hcon := AnyQ.slices_SortFunc_small_sorted sortH 4 Tryz.isAgg250 Tryz.sizeOf250 (hdL SE NO) (hd_len SE NO) (hd_one SE NO) hdC 187 #[] hdSwo P 0 c L.toArray w eg (fun _ _ _ _ x y => hdCmp_calls SE NO x y _) hH hP2 (by rw [List.size_toArray]; exact h12)
  (fun m W hm => (bitsLen_calls (m : Int) W (by omega) (by omega)).mono fun _ _ ⟨he, hw⟩ => ⟨⟨_, he⟩, hw⟩)
 change Calls Tryz.prog 186 _ _ _ at hcon
 rw [List.size_toArray] at hcon
 refine hcon.mono ?_
 rintro e w' ⟨rfl, d', m, os, ⟨p1, p2, p3⟩, _, rfl⟩
 have hsz : d'.size = L.length := by rw [p1, List.size_toArray]
 have hH2 := holdsK_sortWorldK_c (hdL SE NO) 4 w P 0 L.toArray d' m os hH hP2 p1
 have hs := size_sortWorldK_c (hdL SE NO) 4 w P 0 m d' os
 refine ⟨rfl, ⟨d'.toList, ?_, ?_⟩, ?_⟩
 ·rw [← hsz, Array.extract_size] at p3
  rw [hsz, show L.length = L.toArray.size from (List.size_toArray ..).symm, Array.extract_size] at p3
  exact p3
 ·refine ⟨by rw [Array.length_toList]; exact hsz, by omega, fun _ => ⟨P, 0, rfl, Nat.lt_of_lt_of_le hP2 hs, fun i hi j v hv => ?_⟩⟩
  have hi2 : i < d'.size := by rw [← Array.length_toList]; exact hi
  have hj : j < 4 := (List.getElem?_eq_some_iff.1 hv).1
  have := (hH2.cell hi2 hj).1
  rw [this]
  have e1 : d'[i]! = d'.toList[i] := by rw [getElem!_pos d' i hi2]; rfl
  rw [e1, getElem!_pos _ _ (by rw [hd_len]; exact hj)]
  rw [List.getElem?_eq_getElem (by rw [hd_len]; exact hj)] at hv
  exact hv
 ·exact ⟨rfl, rfl, rfl, hs, fun q hq => by
   rcases Nat.lt_or_ge q w.heap.size with h1 | h1
   ·exact sortW_heap _ _ _ _ _ _ _ _ h1 (by omega)
   ·omega⟩
end Go.Proofs.YtcppkaphlcflgaaGreat
