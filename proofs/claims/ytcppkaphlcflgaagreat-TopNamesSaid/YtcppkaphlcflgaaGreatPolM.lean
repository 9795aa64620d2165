import Derived.Test.YtcppkaphlcflgaaGreatFtlFmt0
import Derived.Maps.Keyed
namespace Go.Proofs.YtcppkaphlcflgaaGreat
open Lib (hid)
set_option maxRecDepth 100000
set_option maxHeartbeats 16000000
section

namespace Pol
def zeros : List UInt8 := List.replicate 64 0
theorem zeros_len : zeros.length = 64 := List.length_replicate ..
def updN (g : Nat → List UInt8) (n : Nat) (x : List UInt8) : Nat → List UInt8 := fun m => if m = n then x else g m
theorem updN_same (g : Nat → List UInt8) (n : Nat) (x : List UInt8) : updN g n x n = x := if_pos rfl
theorem updN_ne {g : Nat → List UInt8} {n m : Nat} {x : List UInt8} (h : m ≠ n) : updN g n x m = g m := if_neg h
end Pol
open Pol
structure Ps where
 tb : Nat
 np : Nat
 ino : Nat
 us : List Nat
 g : Nat → List UInt8
namespace Ps
def There (s : Ps) (n : Nat) : Prop := (1 ≤ n ∧ n ≤ s.tb) ∨ n ∈ s.us
instance (s : Ps) (n : Nat) : Decidable (s.There n) := by unfold There; infer_instance
def put (s : Ps) (n : Nat) (x : List UInt8) : Ps := { s with g := updN s.g n x }
def addX (s : Ps) (n : Nat) (x : List UInt8) : Ps := { s with us := s.us ++ [n], g := updN s.g n x }
def add (s : Ps) (n : Nat) : Ps := s.addX n zeros
def del (s : Ps) (n : Nat) : Ps := { s with us := s.us.filter (· != n), g := updN s.g n [] }
structure Ok (s : Ps) : Prop where
 us : ∀ n ∈ s.us, s.tb < n ∧ n ≤ s.tb + s.np
 nd : s.us.Nodup
 sz : ∀ n, s.There n → (s.g n).length = 64
 no : ∀ n, ¬ s.There n → s.g n = []
structure Nx (s : Ps) (n : Nat) : Prop where
 lo : s.tb < n
 hi : n ≤ s.tb + s.np
 new : n ∉ s.us
 least : ∀ m, s.tb < m → m < n → m ∈ s.us
variable {s : Ps} {n m : Nat}
theorem Nx.one (h : s.Nx n) (k : s.Nx m) : n = m := by
 rcases Nat.lt_trichotomy n m with h1 | h1 | h1
 ·exact absurd (k.least n h.lo h1) h.new
 ·exact h1
 ·exact absurd (h.least m k.lo h1) k.new
theorem sub_len {α : Type} [DecidableEq α] {l l' : List α} (h : l.Nodup) (hs : ∀ x ∈ l, x ∈ l') : l.length ≤ l'.length := by
 induction l generalizing l' with
 | nil => exact Nat.zero_le _
 | cons x t ih =>
  rw [List.nodup_cons] at h
  have hx := hs x (by simp)
  have h2 := ih (l' := l'.erase x) h.2 fun y hy => (List.mem_erase_of_ne (fun e => h.1 (by rw [← e]; exact hy))).2 (hs y (by simp [hy]))
  rw [List.length_erase_of_mem hx] at h2
  have := List.length_pos_of_mem hx
  rw [List.length_cons]
  omega
theorem Nx.ex (h : s.us.length < s.np) : ∃ n, s.Nx n := by
 suffices h2 : ∀ k, k ≤ s.np → (∃ n, s.Nx n) ∨ ∀ m, s.tb < m → m ≤ s.tb + k → m ∈ s.us by
  rcases h2 s.np (Nat.le_refl _) with h3 | h3
  ·exact h3
  ·have h4 := sub_len (l := (List.range s.np).map fun i => s.tb + 1 + i) (l' := s.us) (by
    unfold List.Nodup
    rw [List.pairwise_map]
    exact List.nodup_range.imp fun h e => h (by omega)) (fun x hx => by
    obtain ⟨i, hi, rfl⟩ := List.mem_map.1 hx
    have := List.mem_range.1 hi
    exact h3 _ (by omega) (by omega))
   rw [List.length_map, List.length_range] at h4
   omega
 intro k
 induction k with
 | zero => intro _; exact .inr fun m h1 h2 => by omega
 | succ k ih =>
  intro hk
  rcases ih (by omega) with h1 | h1
  ·exact .inl h1
  ·by_cases h2 : s.tb + k + 1 ∈ s.us
   ·refine .inr fun m h3 h4 => ?_
    by_cases h5 : m = s.tb + k + 1
    ·rw [h5]; exact h2
    ·exact h1 m h3 (by omega)
   ·exact .inl ⟨s.tb + k + 1, by omega, by omega, h2, fun m h3 h4 => h1 m h3 (by omega)⟩
theorem there_addX {x : List UInt8} : (s.addX n x).There m ↔ s.There m ∨ m = n := by
 unfold There addX
 rw [List.mem_append, List.mem_singleton]
 exact or_assoc.symm
theorem there_add : (s.add n).There m ↔ s.There m ∨ m = n := there_addX
theorem addX_put {x y : List UInt8} : (s.addX n x).put n y = s.addX n y := by
 unfold addX put
 congr 1
 funext m
 show updN (updN s.g n x) n y m = updN s.g n y m
 by_cases e : m = n
 ·subst e; rw [updN_same, updN_same]
 ·rw [updN_ne e, updN_ne e, updN_ne e]
theorem there_del (h : s.tb < n) : (s.del n).There m ↔ s.There m ∧ m ≠ n := by
 unfold There del
 simp only [List.mem_filter, bne_iff_ne, ne_eq]
 constructor
 ·rintro (h1 | h1)
  ·exact ⟨.inl h1, by omega⟩
  ·exact ⟨.inr h1.1, h1.2⟩
 ·rintro ⟨h1 | h1, h2⟩
  ·exact .inl h1
  ·exact .inr ⟨h1, h2⟩
theorem Ok.put (h : s.Ok) {x : List UInt8} (hn : s.There n) (hx : x.length = 64) : (s.put n x).Ok := by
 refine ⟨h.us, h.nd, fun m hm => ?_, fun m hm => ?_⟩
 ·show (updN s.g n x m).length = 64
  by_cases e : m = n
  ·subst e; rw [updN_same]; exact hx
  ·rw [updN_ne e]; exact h.sz m hm
 ·show updN s.g n x m = []
  rw [updN_ne (fun e => hm (by rw [e]; exact hn))]
  exact h.no m hm
theorem Ok.addX (h : s.Ok) (hn : s.Nx n) {x : List UInt8} (hx : x.length = 64) : (s.addX n x).Ok := by
 refine ⟨fun m hm => ?_, ?_, fun m hm => ?_, fun m hm => ?_⟩
 ·rcases List.mem_append.1 hm with h1 | h1
  ·exact h.us m h1
  ·rw [List.mem_singleton.1 h1]; exact ⟨hn.lo, hn.hi⟩
 ·show (s.us ++ [n]).Nodup
  rw [List.nodup_append]
  refine ⟨h.nd, by simp, ?_⟩
  rintro a ha c hc rfl
  rw [List.mem_singleton.1 hc] at ha
  exact hn.new ha
 ·show (updN s.g n x m).length = 64
  by_cases e : m = n
  ·subst e; rw [updN_same]; exact hx
  ·rw [updN_ne e]
   rcases there_addX.1 hm with h1 | h1
   ·exact h.sz m h1
   ·exact absurd h1 e
 ·show updN s.g n x m = []
  have h2 := fun h1 => hm (there_addX.2 h1)
  rw [updN_ne (fun e => h2 (.inr e))]
  exact h.no m fun h1 => h2 (.inl h1)
theorem Ok.add (h : s.Ok) (hn : s.Nx n) : (s.add n).Ok := h.addX hn zeros_len
theorem Ok.del (h : s.Ok) (hn : s.tb < n) : (s.del n).Ok := by
 refine ⟨fun m hm => h.us m (List.mem_filter.1 hm).1, h.nd.filter _, fun m hm => ?_, fun m hm => ?_⟩
 ·obtain ⟨h1, h2⟩ := (there_del hn).1 hm
  show (updN s.g n [] m).length = 64
  rw [updN_ne h2]
  exact h.sz m h1
 ·show updN s.g n [] m = []
  by_cases e : m = n
  ·subst e; rw [updN_same]
  ·rw [updN_ne e]
   exact h.no m fun h1 => hm ((there_del hn).2 ⟨h1, e⟩)
end Ps
end
section
open Go.RowKit Ftl

def vw (f : Fm) (q : Nat) : Option (Tg × List UInt8) := (curE f q).map sk
namespace Ftl
variable {NB B p : Nat} {R : Nat → Prop} {w : World} {f f' : Fm} {pay tx : List UInt8}
theorem vw_eq (f : Fm) (q : Nat) : vw f q = match (getE f.no q).map sk with
  | some x => some x
  | none => if (getE f.go q).isSome then none else (getE f.se q).map sk := by
 unfold vw curE
 cases hz : getE f.no q with
 | some e => rfl
 | none =>
  show Option.map sk (if (getE f.go q).isSome = true then none else getE f.se q) = _
  simp only [Option.map_none]
  split <;> rfl
theorem vw_some {q : Nat} {x : Tg × List UInt8} (h : vw f q = some x) : ∃ e, curE f q = some e ∧ e.d = x.2 ∧ e.t = x.1 := by
 unfold vw at h
 cases hz : curE f q with
 | none => rw [hz] at h; cases h
 | some e => rw [hz] at h; obtain rfl : sk e = x := Option.some.inj h; exact ⟨e, rfl, rfl, rfl⟩
end Ftl
end
section
open Go.RowKit Go.Maps Go.ChangeMaps Ftl

structure Dp where
 n : Nat
 v : Value
 x : List UInt8
namespace Pol
def iV (n : Nat) : Value := .int .i64 (n : Int)
theorem iV_inj (a b : Nat) (h : iV a = iV b) : a = b := by
 unfold iV at h
 injection h with _ h
 omega
def usE : Enc Nat := ⟨id, iV, iV, iV_inj⟩
def diE : Enc Dp := ⟨Dp.n, iV, Dp.v, iV_inj⟩
theorem inLaw : Keyed Tryz.prog 3 := int_keyed Tryz.underlying3
theorem inOf {p : Nat} (h : p < 4294967296) : keyOf Tryz.prog 3 (iV p) = some (.int .i64 (p : Int)) := by
 have hw : (Lit.int .i64 (p : Int)).wf = true := by
  simp [Lit.wf, IntKind.min, IntKind.max, IntKind.bits, IntKind.signed]
  omega
 simp [keyOf, mapKey, Tryz.underlying3, iV, hw]
def pgF (f : Fm) (dl : List Dp) (n : Nat) : List UInt8 := match diE.get dl n with
 | some d => d.x
 | none => match vw f n with
  | some y => y.2
  | none => zeros
theorem zeroIn (w : World) : (zeroValue 3).run Tryz.prog w = .ok (.int .i64 0) w := by kernel_rfl
theorem zeroRw (w : World) : (zeroValue 40).run Tryz.prog w = .ok (.slice none 0 0) w := by kernel_rfl
theorem us_get {us : List Nat} {n : Nat} : (usE.get us n).isSome = true ↔ n ∈ us := by
 constructor
 ·intro h
  cases hg : usE.get us n with
  | none => rw [hg] at h; cases h
  | some x =>
   obtain ⟨h1, h2⟩ := Enc.get_mem hg
   obtain rfl : x = n := h2
   exact h1
 ·intro h
  cases hg : usE.get us n with
  | none => exact absurd rfl (Enc.get_none hg n h)
  | some x => rfl
end Pol
open Pol
def plA (F U D : Nat) (s : Ps) : Array Value := #[.pointer (some ⟨F, 0, none⟩), .int .i64 (s.tb : Int), .int .i64 ((s.tb : Int) + 1), .int .i64 (s.np : Int), .int .i64 (s.ino : Int), .int .i64 64, .map (some U), .map (some D)]
structure PlC (NB B : Nat) (R : Nat → Prop) (w : World) (P U D : Nat) (dl : List Dp) (f : Fm) (s : Ps) : Prop where
 hP : Blk w P 74 (plA f.F U D s)
 hU : MapK usE Tryz.prog 3 w U s.us
 hD : MapK diE Tryz.prog 3 w D dl
 hf : FtM NB B R w f
 fc : Fc NB f
 ok : s.Ok
 bd : s.tb + s.np + 2 < (NB - 3) * 8 ∧ s.tb + s.np < 8192
 dt : ∀ d ∈ dl, s.There d.n
 ow : ∀ d ∈ dl, Own byteV 5 w 0 d.v d.x
 g : ∀ n, s.There n → s.g n = pgF f dl n
 ne : P ≠ U ∧ P ≠ D ∧ U ≠ D
 nr : ¬ R P ∧ ¬ R U ∧ ¬ R D
 nu : ∀ d ∈ dl, ∀ q, d.v.ownBlock = some q → q ≠ P ∧ q ≠ U ∧ q ≠ D ∧ ¬ R q
def Hp (P U D : Nat) (R : Nat → Prop) (dl : List Dp) (q : Nat) : Prop := q = P ∨ q = U ∨ q = D ∨ R q ∨ ∃ d ∈ dl, d.v.ownBlock = some q
def PlM (NB B : Nat) (Q : Nat → Prop) (w : World) (P : Nat) (f : Fm) (s : Ps) : Prop := ∃ U D dl R, PlC NB B R w P U D dl f s ∧ (∀ q, Hp P U D R dl q → Q q) ∧ ∀ q, Q q → B ≤ q ∧ q < w.heap.size
def PlR (NB B : Nat) (Q : Nat → Prop) (w w' : World) (P : Nat) (f : Fm) (s : Ps) : Prop := PlM NB B (Up Q w w') w' P f s ∧ Kq Q w w'
section
variable {NB B P U D : Nat} {R Q T : Nat → Prop} {w w' w1 w2 : World} {f f1 f2 : Fm} {s s1 s2 : Ps} {dl : List Dp}
theorem PlC.kq (h : PlC NB B R w P U D dl f s) (hk : Kq T w w') (hT : ∀ q, Hp P U D R dl q → ¬ T q) : PlC NB B R w' P U D dl f s :=
 ⟨h.hP.kq hk (hT _ (.inl rfl)), h.hU.same (hk.block _ h.hU.lt (hT _ (.inr (.inl rfl)))), h.hD.same (hk.block _ h.hD.lt (hT _ (.inr (.inr (.inl rfl))))), h.hf.kq hk fun q hq => hT q (.inr (.inr (.inr (.inl hq)))), h.fc, h.ok, h.bd, h.dt,
  fun d hd => (h.ow d hd).kq hk fun q hq => hT q (.inr (.inr (.inr (.inr ⟨d, hd, hq⟩)))), h.g, h.ne, h.nr, h.nu⟩
theorem PlM.kq (h : PlM NB B Q w P f s) (hk : Kq T w w') (hT : ∀ q, Q q → ¬ T q) : PlM NB B Q w' P f s := by
 obtain ⟨U, D, dl, R, h1, h2, h3⟩ := h
 exact ⟨U, D, dl, R, h1.kq hk fun q hq => hT q (h2 q hq), h2, fun q hq => ⟨(h3 q hq).1, Nat.lt_of_lt_of_le (h3 q hq).2 hk.size⟩⟩
theorem PlM.on (h : PlM NB B Q w P f s) (hb : Below w.heap.size w w') : PlM NB B Q w' P f s := h.kq (T := fun _ => False) (Kq.of hb) fun _ _ h => h
theorem PlM.more {Q' : Nat → Prop} (h : PlM NB B Q w P f s) (h1 : ∀ q, Q q → Q' q) (h2 : ∀ q, Q' q → B ≤ q ∧ q < w.heap.size) : PlM NB B Q' w P f s := by
 obtain ⟨U, D, dl, R, a1, a2, _⟩ := h
 exact ⟨U, D, dl, R, a1, fun q hq => h1 q (a2 q hq), h2⟩
theorem PlM.bnd (h : PlM NB B Q w P f s) : ∀ q, Q q → B ≤ q ∧ q < w.heap.size := by obtain ⟨_, _, _, _, _, _, h3⟩ := h; exact h3
theorem PlM.inP (h : PlM NB B Q w P f s) : Q P := by obtain ⟨_, _, _, _, _, h2, _⟩ := h; exact h2 _ (.inl rfl)
theorem PlM.base (h : PlM NB B Q w P f s) : B ≤ w.heap.size := by have := h.bnd _ h.inP; omega
theorem PlM.not_new (h : PlM NB B Q w P f s) {q : Nat} (hq : w.heap.size ≤ q) : ¬ Q q := fun h1 => by have := (h.bnd q h1).2; omega
theorem PlM.ok (h : PlM NB B Q w P f s) : s.Ok := by obtain ⟨_, _, _, _, h1, _⟩ := h; exact h1.ok
theorem PlM.bd (h : PlM NB B Q w P f s) : s.tb + s.np < 8192 := by obtain ⟨_, _, _, _, h1, _⟩ := h; exact h1.bd.2
theorem PlM.hP (h : PlM NB B Q w P f s) : ∃ U D, Blk w P 74 (plA f.F U D s) := by obtain ⟨U, D, _, _, h1, _⟩ := h; exact ⟨U, D, h1.hP⟩
theorem PlM.c0 (h : PlM NB B Q w P f s) : w.cell? ⟨P, 0, none⟩ = some (.pointer (some ⟨f.F, 0, none⟩)) := by obtain ⟨U, D, h⟩ := h.hP; exact h.cellv rfl
theorem PlM.c1 (h : PlM NB B Q w P f s) : w.cell? ⟨P, 1, none⟩ = some (.int .i64 (s.tb : Int)) := by obtain ⟨U, D, h⟩ := h.hP; exact h.cellv rfl
theorem PlM.c2 (h : PlM NB B Q w P f s) : w.cell? ⟨P, 2, none⟩ = some (.int .i64 ((s.tb : Int) + 1)) := by obtain ⟨U, D, h⟩ := h.hP; exact h.cellv rfl
theorem PlM.c3 (h : PlM NB B Q w P f s) : w.cell? ⟨P, 3, none⟩ = some (.int .i64 (s.np : Int)) := by obtain ⟨U, D, h⟩ := h.hP; exact h.cellv rfl
theorem PlM.c4 (h : PlM NB B Q w P f s) : w.cell? ⟨P, 4, none⟩ = some (.int .i64 (s.ino : Int)) := by obtain ⟨U, D, h⟩ := h.hP; exact h.cellv rfl
theorem PlM.c5 (h : PlM NB B Q w P f s) : w.cell? ⟨P, 5, none⟩ = some (.int .i64 64) := by obtain ⟨U, D, h⟩ := h.hP; exact h.cellv rfl
theorem plup_refl {Q : Nat → Prop} {w : World} {q : Nat} (h : Up Q w w q) : Q q := by rcases h with h | h; exact h; omega
theorem PlM.refl (h : PlM NB B Q w P f s) : PlR NB B Q w w P f s := ⟨h.more (fun _ hq => .inl hq) fun q hq => h.bnd q (plup_refl hq), Kq.refl _ _⟩
theorem PlR.then_ (h : PlR NB B Q w w1 P f1 s1) (k : PlR NB B (Up Q w w1) w1 w2 P f2 s2) : PlR NB B Q w w2 P f2 s2 := by
 have hs1 := h.2.size
 have hs2 := k.2.size
 refine ⟨k.1.more (fun q hq => up_up hs1 hs2 hq) fun q hq => ?_, h.2.then_ k.2 fun q hq => ?_⟩
 ·rcases hq with hq | hq
  ·exact k.1.bnd q (.inl (.inl hq))
  ·rcases Nat.lt_or_ge q w1.heap.size with h1 | h1
   ·exact k.1.bnd q (.inl (.inr ⟨hq.1, h1⟩))
   ·exact k.1.bnd q (.inr ⟨h1, hq.2⟩)
 ·rcases hq with h1 | h1
  ·exact .inl h1
  ·exact .inr h1.1
theorem PlR.on (h : PlR NB B Q w w1 P f s) (hb : Below w1.heap.size w1 w2) (hB : B ≤ w.heap.size) : PlR NB B Q w w2 P f s := by
 have hs := hb.size
 refine ⟨(h.1.on hb).more (fun q hq => ?_) fun q hq => ?_, h.2.on hb⟩
 ·rcases hq with h1 | h1
  ·exact .inl h1
  ·exact .inr ⟨h1.1, by omega⟩
 ·rcases hq with h1 | h1
  ·have := h.1.bnd q (.inl h1); omega
  ·omega
theorem PlM.on_ (h : PlM NB B Q w P f s) (hb : Below w.heap.size w w1) : PlR NB B Q w w1 P f s := h.refl.on hb h.base
theorem PlM.same_ (h1 : PlM NB B Q w' P f2 s2) (h2 : Kq Q w w') (hB : B ≤ w.heap.size) : PlR NB B Q w w' P f2 s2 := by
 refine ⟨h1.more (fun q hq => .inl hq) fun q hq => ?_, h2⟩
 rcases hq with h3 | h3
 ·exact h1.bnd q h3
 ·omega
theorem PlR.behind (hb : Kq Q w w1) (h : PlR NB B Q w1 w2 P f s) (hB : B ≤ w.heap.size) : PlR NB B Q w w2 P f s := by
 have hs := hb.size
 refine ⟨h.1.more (fun q hq => ?_) fun q hq => ?_, hb.trans h.2⟩
 ·rcases hq with h1 | h1
  ·exact .inl h1
  ·exact .inr ⟨by omega, h1.2⟩
 ·rcases hq with h1 | h1
  ·exact h.1.bnd q (.inl h1)
  ·omega
theorem PlR.from_ (hb : Below w.heap.size w w1) (h : PlR NB B Q w1 w2 P f s) (hB : B ≤ w.heap.size) : PlR NB B Q w w2 P f s := PlR.behind (Kq.of hb) h hB
theorem PlM.fin {U : Nat → Prop} (h : PlM NB B Q w P f s) (h2 : PlM NB B U w' P f2 s2) (hU : ∀ q, U q → Q q ∨ w.heap.size ≤ q) (hk : Kq T w w') (hT : ∀ q, T q → Q q ∨ w.heap.size ≤ q) : PlR NB B Q w w' P f2 s2 := by
 have hs := hk.size
 have hB := h.base
 refine ⟨h2.more (fun q hq => ?_) fun q hq => ?_, ⟨hk.os, hk.tape, hk.output, hk.size, fun k h1 h3 => hk.block k h1 fun h4 => ?_⟩⟩
 ·rcases hU q hq with h1 | h1
  ·exact .inl h1
  ·exact .inr ⟨h1, (h2.bnd q hq).2⟩
 ·rcases hq with h1 | h1
  ·have := h.bnd q h1; omega
  ·omega
 ·rcases hT k h4 with h5 | h5
  ·exact h3 h5
  ·omega
theorem PlR.far (_ : PlR NB B Q w w1 P f s) {q : Nat} (hq : ¬ Q q) (hl : q < w.heap.size) : ¬ Up Q w w1 q := fun h1 => hq (up_of h1 hl)
theorem PlR.size (h : PlR NB B Q w w1 P f s) : w.heap.size ≤ w1.heap.size := h.2.size
end
section
variable {NB B P U D : Nat} {R Q T : Nat → Prop} {w w' w1 w2 : World} {f f1 f2 : Fm} {s s1 s2 : Ps} {dl : List Dp}
theorem PlC.used (h : PlC NB B R w P U D dl f s) {n : Nat} (hn : n < 4294967296) : ∃ v, (Instr.lookup 71 (.map (some U)) (.int .i64 (n : Int)) true).run Tryz.prog w = .ok (.tuple #[.int .i64 v, .bool (decide (n ∈ s.us))]) w := by
 have h1 := h.hU.look (p := n) Pol.inLaw Tryz.underlying71 (zeroIn w) (Pol.inOf hn) true
 have h2 : (usE.get s.us n).isSome = decide (n ∈ s.us) := by
  have := us_get (us := s.us) (n := n)
  cases hb : (usE.get s.us n).isSome with
  | true => rw [hb] at this; exact (decide_eq_true (this.1 rfl)).symm
  | false => rw [hb] at this; exact (decide_eq_false (fun h => by cases this.2 h)).symm
 rw [h2] at h1
 cases hg : usE.get s.us n with
 | none => rw [hg] at h1; exact ⟨0, h1⟩
 | some x => rw [hg] at h1; exact ⟨x, h1⟩
theorem PlC.dirty (h : PlC NB B R w P U D dl f s) {n : Nat} (hn : n < 4294967296) :
  (Instr.lookup 72 (.map (some D)) (.int .i64 (n : Int)) true).run Tryz.prog w = .ok (.tuple #[(diE.get dl n).elim (.slice none 0 0) Dp.v, .bool (diE.get dl n).isSome]) w :=
 h.hD.look (p := n) Pol.inLaw Tryz.underlying72 (zeroRw w) (Pol.inOf hn) true
theorem pgF_put (f : Fm) (dl : List Dp) (d : Dp) (m : Nat) : pgF f (diE.put dl d) m = if m = d.n then d.x else pgF f dl m := by
 unfold pgF
 rw [Enc.get_put]
 by_cases e : m = d.n
 ·rw [if_pos e, if_pos (show m = diE.kf d from e)]
 ·rw [if_neg e, if_neg (show ¬ m = diE.kf d from e)]
theorem pgF_del (f : Fm) (dl : List Dp) {n m : Nat} (h : m ≠ n) : pgF f (diE.del dl n) m = pgF f dl m := by
 unfold pgF
 rw [Enc.get_del, if_neg h]
theorem PlC.put (h : PlC NB B R w P U D dl f s) {n : Nat} (hn : s.There n) (h9 : n < 4294967296) {v : Value} {x : List UInt8} (ho : Own byteV 5 w 0 v x) (hx : x.length = 64) (hq : ∀ q, v.ownBlock = some q → q ≠ P ∧ q ≠ U ∧ q ≠ D ∧ ¬ R q) :
  ∃ o, (Instr.mapUpdate 72 (.map (some D)) (.int .i64 (n : Int)) v).run Tryz.prog w = .ok () (setBlock w D o) ∧ PlC NB B R (setBlock w D o) P U D (diE.put dl ⟨n, v, x⟩) f (s.put n x) ∧ w.grownBy (setBlock w D o) (some D) := by
 obtain ⟨n1, n2, n3⟩ := h.ne
 obtain ⟨o, h1, h3, h4⟩ := h.hD.put Pol.inLaw Tryz.underlying72 ⟨n, v, x⟩ (Pol.inOf h9)
 have hne : ∀ u : Value, (∀ q, u.ownBlock = some q → q ≠ D) → u.ownBlock = none ∨ u.ownBlock ≠ some D := fun u hu => by
  cases hb : u.ownBlock with
  | none => exact .inl rfl
  | some q => exact .inr (fun e => hu q hb (Option.some.inj e))
 refine ⟨o, h1, ⟨h.hP.grown h4 (by intro e; injection e with e; exact n2 e), h.hU.same (h4.block _ h.hU.lt (by intro e; injection e with e; exact n3 e)), h3, h.hf.kq (Kq.grown h4) fun q hq e => h.nr.2.2 (Option.some.inj e ▸ hq), h.fc, h.ok.put hn hx, h.bd, fun d hd => ?_, fun d hd => ?_, fun m hm => ?_, h.ne, h.nr, fun d hd => ?_⟩, h4⟩
 ·rcases Enc.mem_put hd with rfl | hd
  ·exact hn
  ·exact h.dt d hd
 ·rcases Enc.mem_put hd with rfl | hd
  ·exact ho.grown h4 (hne _ fun q e => (hq q e).2.2.1)
  ·exact (h.ow d hd).grown h4 (hne _ fun q e => (h.nu d hd q e).2.2.1)
 ·show updN s.g n x m = _
  rw [pgF_put]
  by_cases e : m = n
  ·subst e
   rw [updN_same, if_pos rfl]
  ·rw [updN_ne e, if_neg e]
   exact h.g m hm
 ·rcases Enc.mem_put hd with rfl | hd
  ·exact hq
  ·exact h.nu d hd
end
end
end Go.Proofs.YtcppkaphlcflgaaGreat
