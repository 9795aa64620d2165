import Derived.Test.YtcppkaphlcflgaaGreatFtlFmt0
import Derived.Test.YtcppkaphlcflgaaGreatFtlMem
import Derived.Test.YtcppkaphlcflgaaGreatMapKey
import Derived.Test.YtcppkaphlcflgaaGreatSlClone
import Derived.Maps.Keyed
import Derived.Test.YtcppkaphlcflgaaGreatFtlRead
import Derived.Test.YtcppkaphlcflgaaGreatFtlAt
import Derived.Deep.DeepCutAuto
namespace Go.Proofs.YtcppkaphlcflgaaGreat

namespace Pol
def zeros : List UInt8 := List.replicate 64 0
theorem zeros_len : zeros.length = 64 := List.length_replicate ..
def updN (g : Nat → List UInt8) (n : Nat) (x : List UInt8) : Nat → List UInt8 := fun m => if m = n then x else g m
theorem updN_same (g : Nat → List UInt8) (n : Nat) (x : List UInt8) : updN g n x n = x := if_pos rfl
theorem updN_ne {g : Nat → List UInt8} {n m : Nat} {x : List UInt8} (h : m ≠ n) : updN g n x m = g m := if_neg h
end Pol
open Pol
structure Ps where
 tb : Nat
 np : Nat
 ino : Nat
 us : List Nat
 g : Nat → List UInt8
namespace Ps
def There (s : Ps) (n : Nat) : Prop := (1 ≤ n ∧ n ≤ s.tb) ∨ n ∈ s.us
instance (s : Ps) (n : Nat) : Decidable (s.There n) := by unfold There; infer_instance
def put (s : Ps) (n : Nat) (x : List UInt8) : Ps := { s with g := updN s.g n x }
def addX (s : Ps) (n : Nat) (x : List UInt8) : Ps := { s with us := s.us ++ [n], g := updN s.g n x }
def add (s : Ps) (n : Nat) : Ps := s.addX n zeros
def del (s : Ps) (n : Nat) : Ps := { s with us := s.us.filter (· != n), g := updN s.g n [] }
structure Ok (s : Ps) : Prop where
 us : ∀ n ∈ s.us, s.tb < n ∧ n ≤ s.tb + s.np
 nd : s.us.Nodup
 sz : ∀ n, s.There n → (s.g n).length = 64
 no : ∀ n, ¬ s.There n → s.g n = []
structure Nx (s : Ps) (n : Nat) : Prop where
 lo : s.tb < n
 hi : n ≤ s.tb + s.np
 new : n ∉ s.us
 least : ∀ m, s.tb < m → m < n → m ∈ s.us
variable {s : Ps} {n m : Nat}
theorem Nx.one (h : s.Nx n) (k : s.Nx m) : n = m := by
 rcases Nat.lt_trichotomy n m with h1 | h1 | h1
 ·exact absurd (k.least n h.lo h1) h.new
 ·exact h1
 ·exact absurd (h.least m k.lo h1) k.new
theorem sub_len {α : Type} [DecidableEq α] {l l' : List α} (h : l.Nodup) (hs : ∀ x ∈ l, x ∈ l') : l.length ≤ l'.length := by
 induction l generalizing l' with
 | nil => exact Nat.zero_le _
 | cons x t ih =>
  rw [List.nodup_cons] at h
  have hx := hs x (by simp)
  have h2 := ih (l' := l'.erase x) h.2 fun y hy => (List.mem_erase_of_ne (fun e => h.1 (by rw [← e]; exact hy))).2 (hs y (by simp [hy]))
  rw [List.length_erase_of_mem hx] at h2
  have := List.length_pos_of_mem hx
  rw [List.length_cons]
  omega
theorem Nx.ex (h : s.us.length < s.np) : ∃ n, s.Nx n := by
 suffices h2 : ∀ k, k ≤ s.np → (∃ n, s.Nx n) ∨ ∀ m, s.tb < m → m ≤ s.tb + k → m ∈ s.us by
  rcases h2 s.np (Nat.le_refl _) with h3 | h3
  ·exact h3
  ·have h4 := sub_len (l := (List.range s.np).map fun i => s.tb + 1 + i) (l' := s.us) (by
    unfold List.Nodup
    rw [List.pairwise_map]
    exact List.nodup_range.imp fun h e => h (by omega)) (fun x hx => by
    obtain ⟨i, hi, rfl⟩ := List.mem_map.1 hx
    have := List.mem_range.1 hi
    exact h3 _ (by omega) (by omega))
   rw [List.length_map, List.length_range] at h4
   omega
 intro k
 induction k with
 | zero => intro _; exact .inr fun m h1 h2 => by omega
 | succ k ih =>
  intro hk
  rcases ih (by omega) with h1 | h1
  ·exact .inl h1
  ·by_cases h2 : s.tb + k + 1 ∈ s.us
   ·refine .inr fun m h3 h4 => ?_
    by_cases h5 : m = s.tb + k + 1
    ·rw [h5]; exact h2
    ·exact h1 m h3 (by omega)
   ·exact .inl ⟨s.tb + k + 1, by omega, by omega, h2, fun m h3 h4 => h1 m h3 (by omega)⟩
theorem there_addX {x : List UInt8} : (s.addX n x).There m ↔ s.There m ∨ m = n := by
 unfold There addX
 rw [List.mem_append, List.mem_singleton]
 exact or_assoc.symm
theorem there_add : (s.add n).There m ↔ s.There m ∨ m = n := there_addX
theorem addX_put {x y : List UInt8} : (s.addX n x).put n y = s.addX n y := by
 unfold addX put
 congr 1
 funext m
 show updN (updN s.g n x) n y m = updN s.g n y m
 by_cases e : m = n
 ·subst e; rw [updN_same, updN_same]
 ·rw [updN_ne e, updN_ne e, updN_ne e]
theorem there_del (h : s.tb < n) : (s.del n).There m ↔ s.There m ∧ m ≠ n := by
 unfold There del
 simp only [List.mem_filter, bne_iff_ne, ne_eq]
 constructor
 ·rintro (h1 | h1)
  ·exact ⟨.inl h1, by omega⟩
  ·exact ⟨.inr h1.1, h1.2⟩
 ·rintro ⟨h1 | h1, h2⟩
  ·exact .inl h1
  ·exact .inr ⟨h1, h2⟩
theorem Ok.put (h : s.Ok) {x : List UInt8} (hn : s.There n) (hx : x.length = 64) : (s.put n x).Ok := by
 refine ⟨h.us, h.nd, fun m hm => ?_, fun m hm => ?_⟩
 ·show (updN s.g n x m).length = 64
  by_cases e : m = n
  ·subst e; rw [updN_same]; exact hx
  ·rw [updN_ne e]; exact h.sz m hm
 ·show updN s.g n x m = []
  rw [updN_ne (fun e => hm (by rw [e]; exact hn))]
  exact h.no m hm
theorem Ok.addX (h : s.Ok) (hn : s.Nx n) {x : List UInt8} (hx : x.length = 64) : (s.addX n x).Ok := by
 refine ⟨fun m hm => ?_, ?_, fun m hm => ?_, fun m hm => ?_⟩
 ·rcases List.mem_append.1 hm with h1 | h1
  ·exact h.us m h1
  ·rw [List.mem_singleton.1 h1]; exact ⟨hn.lo, hn.hi⟩
 ·show (s.us ++ [n]).Nodup
  rw [List.nodup_append]
  refine ⟨h.nd, by simp, ?_⟩
  rintro a ha c hc rfl
  rw [List.mem_singleton.1 hc] at ha
  exact hn.new ha
 ·show (updN s.g n x m).length = 64
  by_cases e : m = n
  ·subst e; rw [updN_same]; exact hx
  ·rw [updN_ne e]
   rcases there_addX.1 hm with h1 | h1
   ·exact h.sz m h1
   ·exact absurd h1 e
 ·show updN s.g n x m = []
  have h2 := fun h1 => hm (there_addX.2 h1)
  rw [updN_ne (fun e => h2 (.inr e))]
  exact h.no m fun h1 => h2 (.inl h1)
theorem Ok.add (h : s.Ok) (hn : s.Nx n) : (s.add n).Ok := h.addX hn zeros_len
theorem Ok.del (h : s.Ok) (hn : s.tb < n) : (s.del n).Ok := by
 refine ⟨fun m hm => h.us m (List.mem_filter.1 hm).1, h.nd.filter _, fun m hm => ?_, fun m hm => ?_⟩
 ·obtain ⟨h1, h2⟩ := (there_del hn).1 hm
  show (updN s.g n [] m).length = 64
  rw [updN_ne h2]
  exact h.sz m h1
 ·show updN s.g n [] m = []
  by_cases e : m = n
  ·subst e; rw [updN_same]
  ·rw [updN_ne e]
   exact h.no m fun h1 => hm ((there_del hn).2 ⟨h1, e⟩)
end Ps
end Go.Proofs.YtcppkaphlcflgaaGreat
namespace Go.Proofs.YtcppkaphlcflgaaGreat
open Go.RowKit Ftl

def vw (f : Fm) (q : Nat) : Option (Tg × List UInt8) := (curE f q).map sk
namespace Ftl
variable {NB B p : Nat} {R : Nat → Prop} {w : World} {f f' : Fm} {pay tx : List UInt8}
theorem vw_some {q : Nat} {x : Tg × List UInt8} (h : vw f q = some x) : ∃ e, curE f q = some e ∧ e.d = x.2 ∧ e.t = x.1 := by
 unfold vw at h
 cases hz : curE f q with
 | none => rw [hz] at h; cases h
 | some e => rw [hz] at h; obtain rfl : sk e = x := Option.some.inj h; exact ⟨e, rfl, rfl, rfl⟩
end Ftl
end Go.Proofs.YtcppkaphlcflgaaGreat
namespace Go.Proofs.YtcppkaphlcflgaaGreat
open Go.RowKit Go.Maps Go.ChangeMaps Ftl

structure Dp where
 n : Nat
 v : Value
 x : List UInt8
namespace Pol
def iV (n : Nat) : Value := .int .i64 (n : Int)
theorem iV_inj (a b : Nat) (h : iV a = iV b) : a = b := by
 unfold iV at h
 injection h with _ h
 omega
def usE : Enc Nat := ⟨id, iV, iV, iV_inj⟩
def diE : Enc Dp := ⟨Dp.n, iV, Dp.v, iV_inj⟩
theorem inLaw : Keyed Tryz.prog 3 := int_keyed Tryz.underlying3
theorem inOf {p : Nat} (h : p < 4294967296) : keyOf Tryz.prog 3 (iV p) = some (.int .i64 (p : Int)) := by
 have hw : (Lit.int .i64 (p : Int)).wf = true := by
  simp [Lit.wf, IntKind.min, IntKind.max, IntKind.bits, IntKind.signed]
  omega
 simp [keyOf, mapKey, Tryz.underlying3, iV, hw]
def pgF (f : Fm) (dl : List Dp) (n : Nat) : List UInt8 := match diE.get dl n with
 | some d => d.x
 | none => match vw f n with
  | some y => y.2
  | none => zeros
theorem zeroIn (w : World) : (zeroValue 3).run Tryz.prog w = .ok (.int .i64 0) w := by kernel_rfl
theorem zeroRw (w : World) : (zeroValue 40).run Tryz.prog w = .ok (.slice none 0 0) w := by kernel_rfl
theorem us_get {us : List Nat} {n : Nat} : (usE.get us n).isSome = true ↔ n ∈ us := by
 constructor
 ·intro h
  cases hg : usE.get us n with
  | none => rw [hg] at h; cases h
  | some x =>
   obtain ⟨h1, h2⟩ := Enc.get_mem hg
   obtain rfl : x = n := h2
   exact h1
 ·intro h
  cases hg : usE.get us n with
  | none => exact absurd rfl (Enc.get_none hg n h)
  | some x => rfl
end Pol
open Pol
def plA (F U D : Nat) (s : Ps) : Array Value := #[.pointer (some ⟨F, 0, none⟩), .int .i64 (s.tb : Int), .int .i64 ((s.tb : Int) + 1), .int .i64 (s.np : Int), .int .i64 (s.ino : Int), .int .i64 64, .map (some U), .map (some D)]
structure PlC (NB B : Nat) (R : Nat → Prop) (w : World) (P U D : Nat) (dl : List Dp) (f : Fm) (s : Ps) : Prop where
 hP : Blk w P 74 (plA f.F U D s)
 hU : MapK usE Tryz.prog 3 w U s.us
 hD : MapK diE Tryz.prog 3 w D dl
 hf : FtM NB B R w f
 fc : Fc NB f
 ok : s.Ok
 bd : s.tb + s.np + 2 < (NB - 3) * 8 ∧ s.tb + s.np < 8192
 dt : ∀ d ∈ dl, s.There d.n
 ow : ∀ d ∈ dl, Own byteV 5 w 0 d.v d.x
 g : ∀ n, s.There n → s.g n = pgF f dl n
 ne : P ≠ U ∧ P ≠ D ∧ U ≠ D
 nr : ¬ R P ∧ ¬ R U ∧ ¬ R D
 nu : ∀ d ∈ dl, ∀ q, d.v.ownBlock = some q → q ≠ P ∧ q ≠ U ∧ q ≠ D ∧ ¬ R q
def Hp (P U D : Nat) (R : Nat → Prop) (dl : List Dp) (q : Nat) : Prop := q = P ∨ q = U ∨ q = D ∨ R q ∨ ∃ d ∈ dl, d.v.ownBlock = some q
def PlM (NB B : Nat) (Q : Nat → Prop) (w : World) (P : Nat) (f : Fm) (s : Ps) : Prop := ∃ U D dl R, PlC NB B R w P U D dl f s ∧ (∀ q, Hp P U D R dl q → Q q) ∧ ∀ q, Q q → B ≤ q ∧ q < w.heap.size
def PlR (NB B : Nat) (Q : Nat → Prop) (w w' : World) (P : Nat) (f : Fm) (s : Ps) : Prop := PlM NB B (Up Q w w') w' P f s ∧ Kq Q w w'
section
variable {NB B P U D : Nat} {R Q T : Nat → Prop} {w w' w1 w2 : World} {f f1 f2 : Fm} {s s1 s2 : Ps} {dl : List Dp}
theorem PlC.kq (h : PlC NB B R w P U D dl f s) (hk : Kq T w w') (hT : ∀ q, Hp P U D R dl q → ¬ T q) : PlC NB B R w' P U D dl f s :=
 ⟨h.hP.kq hk (hT _ (.inl rfl)), h.hU.same (hk.block _ h.hU.lt (hT _ (.inr (.inl rfl)))), h.hD.same (hk.block _ h.hD.lt (hT _ (.inr (.inr (.inl rfl))))), h.hf.kq hk fun q hq => hT q (.inr (.inr (.inr (.inl hq)))), h.fc, h.ok, h.bd, h.dt,
  fun d hd => (h.ow d hd).kq hk fun q hq => hT q (.inr (.inr (.inr (.inr ⟨d, hd, hq⟩)))), h.g, h.ne, h.nr, h.nu⟩
theorem PlM.kq (h : PlM NB B Q w P f s) (hk : Kq T w w') (hT : ∀ q, Q q → ¬ T q) : PlM NB B Q w' P f s := by
 obtain ⟨U, D, dl, R, h1, h2, h3⟩ := h
 exact ⟨U, D, dl, R, h1.kq hk fun q hq => hT q (h2 q hq), h2, fun q hq => ⟨(h3 q hq).1, Nat.lt_of_lt_of_le (h3 q hq).2 hk.size⟩⟩
theorem PlM.on (h : PlM NB B Q w P f s) (hb : Below w.heap.size w w') : PlM NB B Q w' P f s := h.kq (T := fun _ => False) (Kq.of hb) fun _ _ h => h
theorem PlM.more {Q' : Nat → Prop} (h : PlM NB B Q w P f s) (h1 : ∀ q, Q q → Q' q) (h2 : ∀ q, Q' q → B ≤ q ∧ q < w.heap.size) : PlM NB B Q' w P f s := by
 obtain ⟨U, D, dl, R, a1, a2, _⟩ := h
 exact ⟨U, D, dl, R, a1, fun q hq => h1 q (a2 q hq), h2⟩
theorem PlM.bnd (h : PlM NB B Q w P f s) : ∀ q, Q q → B ≤ q ∧ q < w.heap.size := by obtain ⟨_, _, _, _, _, _, h3⟩ := h; exact h3
theorem PlM.inP (h : PlM NB B Q w P f s) : Q P := by obtain ⟨_, _, _, _, _, h2, _⟩ := h; exact h2 _ (.inl rfl)
theorem PlM.base (h : PlM NB B Q w P f s) : B ≤ w.heap.size := by have := h.bnd _ h.inP; omega
theorem PlM.not_new (h : PlM NB B Q w P f s) {q : Nat} (hq : w.heap.size ≤ q) : ¬ Q q := fun h1 => by have := (h.bnd q h1).2; omega
theorem PlM.ok (h : PlM NB B Q w P f s) : s.Ok := by obtain ⟨_, _, _, _, h1, _⟩ := h; exact h1.ok
theorem PlM.bd (h : PlM NB B Q w P f s) : s.tb + s.np < 8192 := by obtain ⟨_, _, _, _, h1, _⟩ := h; exact h1.bd.2
theorem PlM.hP (h : PlM NB B Q w P f s) : ∃ U D, Blk w P 74 (plA f.F U D s) := by obtain ⟨U, D, _, _, h1, _⟩ := h; exact ⟨U, D, h1.hP⟩
theorem PlM.c0 (h : PlM NB B Q w P f s) : w.cell? ⟨P, 0, none⟩ = some (.pointer (some ⟨f.F, 0, none⟩)) := by obtain ⟨U, D, h⟩ := h.hP; exact h.cellv rfl
theorem PlM.c1 (h : PlM NB B Q w P f s) : w.cell? ⟨P, 1, none⟩ = some (.int .i64 (s.tb : Int)) := by obtain ⟨U, D, h⟩ := h.hP; exact h.cellv rfl
theorem PlM.c2 (h : PlM NB B Q w P f s) : w.cell? ⟨P, 2, none⟩ = some (.int .i64 ((s.tb : Int) + 1)) := by obtain ⟨U, D, h⟩ := h.hP; exact h.cellv rfl
theorem PlM.c3 (h : PlM NB B Q w P f s) : w.cell? ⟨P, 3, none⟩ = some (.int .i64 (s.np : Int)) := by obtain ⟨U, D, h⟩ := h.hP; exact h.cellv rfl
theorem PlM.c5 (h : PlM NB B Q w P f s) : w.cell? ⟨P, 5, none⟩ = some (.int .i64 64) := by obtain ⟨U, D, h⟩ := h.hP; exact h.cellv rfl
theorem plup_refl {Q : Nat → Prop} {w : World} {q : Nat} (h : Up Q w w q) : Q q := by rcases h with h | h; exact h; omega
theorem PlM.refl (h : PlM NB B Q w P f s) : PlR NB B Q w w P f s := ⟨h.more (fun _ hq => .inl hq) fun q hq => h.bnd q (plup_refl hq), Kq.refl _ _⟩
theorem PlR.then_ (h : PlR NB B Q w w1 P f1 s1) (k : PlR NB B (Up Q w w1) w1 w2 P f2 s2) : PlR NB B Q w w2 P f2 s2 := by
 have hs1 := h.2.size
 have hs2 := k.2.size
 refine ⟨k.1.more (fun q hq => up_up hs1 hs2 hq) fun q hq => ?_, h.2.then_ k.2 fun q hq => ?_⟩
 ·rcases hq with hq | hq
  ·exact k.1.bnd q (.inl (.inl hq))
  ·rcases Nat.lt_or_ge q w1.heap.size with h1 | h1
   ·exact k.1.bnd q (.inl (.inr ⟨hq.1, h1⟩))
   ·exact k.1.bnd q (.inr ⟨h1, hq.2⟩)
 ·rcases hq with h1 | h1
  ·exact .inl h1
  ·exact .inr h1.1
theorem PlR.on (h : PlR NB B Q w w1 P f s) (hb : Below w1.heap.size w1 w2) (hB : B ≤ w.heap.size) : PlR NB B Q w w2 P f s := by
 have hs := hb.size
 refine ⟨(h.1.on hb).more (fun q hq => ?_) fun q hq => ?_, h.2.on hb⟩
 ·rcases hq with h1 | h1
  ·exact .inl h1
  ·exact .inr ⟨h1.1, by omega⟩
 ·rcases hq with h1 | h1
  ·have := h.1.bnd q (.inl h1); omega
  ·omega
theorem PlM.on_ (h : PlM NB B Q w P f s) (hb : Below w.heap.size w w1) : PlR NB B Q w w1 P f s := h.refl.on hb h.base
theorem PlM.same_ (h1 : PlM NB B Q w' P f2 s2) (h2 : Kq Q w w') (hB : B ≤ w.heap.size) : PlR NB B Q w w' P f2 s2 := by
 refine ⟨h1.more (fun q hq => .inl hq) fun q hq => ?_, h2⟩
 rcases hq with h3 | h3
 ·exact h1.bnd q h3
 ·omega
theorem PlR.behind (hb : Kq Q w w1) (h : PlR NB B Q w1 w2 P f s) (hB : B ≤ w.heap.size) : PlR NB B Q w w2 P f s := by
 have hs := hb.size
 refine ⟨h.1.more (fun q hq => ?_) fun q hq => ?_, hb.trans h.2⟩
 ·rcases hq with h1 | h1
  ·exact .inl h1
  ·exact .inr ⟨by omega, h1.2⟩
 ·rcases hq with h1 | h1
  ·exact h.1.bnd q (.inl h1)
  ·omega
theorem PlR.from_ (hb : Below w.heap.size w w1) (h : PlR NB B Q w1 w2 P f s) (hB : B ≤ w.heap.size) : PlR NB B Q w w2 P f s := PlR.behind (Kq.of hb) h hB
theorem PlM.fin {U : Nat → Prop} (h : PlM NB B Q w P f s) (h2 : PlM NB B U w' P f2 s2) (hU : ∀ q, U q → Q q ∨ w.heap.size ≤ q) (hk : Kq T w w') (hT : ∀ q, T q → Q q ∨ w.heap.size ≤ q) : PlR NB B Q w w' P f2 s2 := by
 have hs := hk.size
 have hB := h.base
 refine ⟨h2.more (fun q hq => ?_) fun q hq => ?_, ⟨hk.os, hk.tape, hk.output, hk.size, fun k h1 h3 => hk.block k h1 fun h4 => ?_⟩⟩
 ·rcases hU q hq with h1 | h1
  ·exact .inl h1
  ·exact .inr ⟨h1, (h2.bnd q hq).2⟩
 ·rcases hq with h1 | h1
  ·have := h.bnd q h1; omega
  ·omega
 ·rcases hT k h4 with h5 | h5
  ·exact h3 h5
  ·omega
theorem PlR.far (_ : PlR NB B Q w w1 P f s) {q : Nat} (hq : ¬ Q q) (hl : q < w.heap.size) : ¬ Up Q w w1 q := fun h1 => hq (up_of h1 hl)
theorem PlR.below (h : PlR NB B Q w w1 P f s) (h0 : PlM NB B Q w P f2 s2) : Below B w w1 := h.2.below (fun q hq => (h0.bnd q hq).1) h0.base
theorem PlR.size (h : PlR NB B Q w w1 P f s) : w.heap.size ≤ w1.heap.size := h.2.size
end
section
variable {NB B P U D : Nat} {R Q T : Nat → Prop} {w w' w1 w2 : World} {f f1 f2 : Fm} {s s1 s2 : Ps} {dl : List Dp}
theorem PlC.used (h : PlC NB B R w P U D dl f s) {n : Nat} (hn : n < 4294967296) : ∃ v, (Instr.lookup 71 (.map (some U)) (.int .i64 (n : Int)) true).run Tryz.prog w = .ok (.tuple #[.int .i64 v, .bool (decide (n ∈ s.us))]) w := by
 have h1 := h.hU.look (p := n) Pol.inLaw Tryz.underlying71 (zeroIn w) (Pol.inOf hn) true
 have h2 : (usE.get s.us n).isSome = decide (n ∈ s.us) := by
  have := us_get (us := s.us) (n := n)
  cases hb : (usE.get s.us n).isSome with
  | true => rw [hb] at this; exact (decide_eq_true (this.1 rfl)).symm
  | false => rw [hb] at this; exact (decide_eq_false (fun h => by cases this.2 h)).symm
 rw [h2] at h1
 cases hg : usE.get s.us n with
 | none => rw [hg] at h1; exact ⟨0, h1⟩
 | some x => rw [hg] at h1; exact ⟨x, h1⟩
theorem PlC.dirty (h : PlC NB B R w P U D dl f s) {n : Nat} (hn : n < 4294967296) :
  (Instr.lookup 72 (.map (some D)) (.int .i64 (n : Int)) true).run Tryz.prog w = .ok (.tuple #[(diE.get dl n).elim (.slice none 0 0) Dp.v, .bool (diE.get dl n).isSome]) w :=
 h.hD.look (p := n) Pol.inLaw Tryz.underlying72 (zeroRw w) (Pol.inOf hn) true
theorem pgF_put (f : Fm) (dl : List Dp) (d : Dp) (m : Nat) : pgF f (diE.put dl d) m = if m = d.n then d.x else pgF f dl m := by
 unfold pgF
 rw [Enc.get_put]
 by_cases e : m = d.n
 ·rw [if_pos e, if_pos (show m = diE.kf d from e)]
 ·rw [if_neg e, if_neg (show ¬ m = diE.kf d from e)]
theorem pgF_del (f : Fm) (dl : List Dp) {n m : Nat} (h : m ≠ n) : pgF f (diE.del dl n) m = pgF f dl m := by
 unfold pgF
 rw [Enc.get_del, if_neg h]
theorem PlC.put (h : PlC NB B R w P U D dl f s) {n : Nat} (hn : s.There n) (h9 : n < 4294967296) {v : Value} {x : List UInt8} (ho : Own byteV 5 w 0 v x) (hx : x.length = 64) (hq : ∀ q, v.ownBlock = some q → q ≠ P ∧ q ≠ U ∧ q ≠ D ∧ ¬ R q) :
  ∃ o, (Instr.mapUpdate 72 (.map (some D)) (.int .i64 (n : Int)) v).run Tryz.prog w = .ok () (setBlock w D o) ∧ PlC NB B R (setBlock w D o) P U D (diE.put dl ⟨n, v, x⟩) f (s.put n x) ∧ w.grownBy (setBlock w D o) (some D) := by
 obtain ⟨n1, n2, n3⟩ := h.ne
 obtain ⟨o, h1, h3, h4⟩ := h.hD.put Pol.inLaw Tryz.underlying72 ⟨n, v, x⟩ (Pol.inOf h9)
 have hne : ∀ u : Value, (∀ q, u.ownBlock = some q → q ≠ D) → u.ownBlock = none ∨ u.ownBlock ≠ some D := fun u hu => by
  cases hb : u.ownBlock with
  | none => exact .inl rfl
  | some q => exact .inr (fun e => hu q hb (Option.some.inj e))
 refine ⟨o, h1, ⟨h.hP.grown h4 (by intro e; injection e with e; exact n2 e), h.hU.same (h4.block _ h.hU.lt (by intro e; injection e with e; exact n3 e)), h3, h.hf.kq (Kq.grown h4) fun q hq e => h.nr.2.2 (Option.some.inj e ▸ hq), h.fc, h.ok.put hn hx, h.bd, fun d hd => ?_, fun d hd => ?_, fun m hm => ?_, h.ne, h.nr, fun d hd => ?_⟩, h4⟩
 ·rcases Enc.mem_put hd with rfl | hd
  ·exact hn
  ·exact h.dt d hd
 ·rcases Enc.mem_put hd with rfl | hd
  ·exact ho.grown h4 (hne _ fun q e => (hq q e).2.2.1)
  ·exact (h.ow d hd).grown h4 (hne _ fun q e => (h.nu d hd q e).2.2.1)
 ·show updN s.g n x m = _
  rw [pgF_put]
  by_cases e : m = n
  ·subst e
   rw [updN_same, if_pos rfl]
  ·rw [updN_ne e, if_neg e]
   exact h.g m hm
 ·rcases Enc.mem_put hd with rfl | hd
  ·exact hq
  ·exact h.nu d hd
end
end Go.Proofs.YtcppkaphlcflgaaGreat
namespace Go.Proofs.YtcppkaphlcflgaaGreat
open Go.RowKit Go.Maps Go.ChangeMaps Pol
variable {NB B P n : Nat} {Q : Nat → Prop} {w w' : World} {f : Fm} {s : Ps}

theorem PlM.drew (h : PlM NB B Q w P f s) : PlM NB B Q w.drew P f s := h.on (below_drew w)
theorem polSize_calls (h : PlM NB B Q w P f s) : Calls Tryz.prog 30 #[.pointer (some ⟨P, 0, none⟩)] w fun e w' => e = .returned (.int .i64 64) ∧ w = w' := by
 have c5 := h.c5
 clear h
 go_enter Tryz.func30, Tryz.ntmps30
 go_wp2
 go_ret
 exact ⟨rfl, rfl⟩
theorem polGiven_calls (h : PlM NB B Q w P f s) (h2 : s.tb < n) (hn : n ≤ s.tb + s.np) : Calls Tryz.prog 28 #[.pointer (some ⟨P, 0, none⟩), .int .i64 (n : Int)] w fun e w' => e = .returned (.bool true) ∧ Below w.heap.size w w' := by
 have HP := Lib.hid h.drew
 have hbd := h.bd
 have g1 : (s.tb : Int) + 1 ≤ (n : Int) := by omega
 have g2 := IntWalk.i64_in ((n : Int) - ((s.tb : Int) + 1)) ⟨by omega, by omega⟩
 have g3 : (n : Int) - ((s.tb : Int) + 1) < (s.np : Int) := by omega
 have HB := Lib.hid (below_drew w)
 clear h hbd
 go_enter Tryz.func28, Tryz.ntmps28
 go_wp2_with fail
 refine wp_region_noPanic ?_
 refine wp_region_held_drew (S := (fun W' => PlM NB B Q W' P f s)) (by kernel_rfl) HP.out (fun hS0 => ?_)
 refine takeV 0 (v := (.int .i64 (n : Int))) rfl (by kernel_rfl) (by kernel_rfl) (by kernel_rfl) (fun _ _ _ h => h) (by rfl) (fun _ _ => rfl) (by assumption) ?_
 try simp only [layR]
 refine takeV 1 (v := (.pointer (some ⟨P, 0, none⟩))) rfl (by kernel_rfl) (by kernel_rfl) (by kernel_rfl) (fun _ _ _ h => h) (by rfl) (fun _ _ => rfl) (by assumption) ?_
 try simp only [layR]
 refine takeV 2 (v := (.pointer (some ⟨P, 0, none⟩))) rfl (by kernel_rfl) (by kernel_rfl) (by kernel_rfl) (fun _ _ _ h => h) (by rfl) (fun W hSw => ?_) (by assumption) ?_
 ·skip
  go_simp
 try simp only [layR]
 refine takeV 3 (v := (.pointer (some ⟨P, 1, none⟩))) rfl (by kernel_rfl) (by kernel_rfl) (by kernel_rfl) (fun _ _ _ h => h) (by rfl) (fun W hSw => ?_) (by assumption) ?_
 ·skip
  go_simp
 try simp only [layR]
 refine takeV 4 (v := (.pointer (some ⟨P, 2, none⟩))) rfl (by kernel_rfl) (by kernel_rfl) (by kernel_rfl) (fun _ _ _ h => h) (by rfl) (fun W hSw => ?_) (by assumption) ?_
 ·skip
  go_simp
 try simp only [layR]
 refine takeV 5 (v := (.int .i64 ((s.tb : Int) + 1))) rfl (by kernel_rfl) (by kernel_rfl) (by kernel_rfl) (fun _ _ _ h => h) (by rfl) (fun W hSw => ?_) (by assumption) ?_
 ·have y9 := hSw.c2
  go_simp
 try simp only [layR]
 refine takeV 6 (v := (.bool true)) rfl (by kernel_rfl) (by kernel_rfl) (by kernel_rfl) (fun _ _ _ h => h) (by rfl) (fun W hSw => ?_) (by assumption) ?_
 ·skip
  go_simp
 try simp only [layR]
 refine takeV 7 (v := (.bool true)) rfl (by kernel_rfl) (by kernel_rfl) (by kernel_rfl) (fun _ _ _ h => h) (by rfl) (fun _ _ => rfl) (by assumption) ?_
 try simp only [layR]
 refine takeV 8 (v := (.int .i64 (n : Int))) rfl (by kernel_rfl) (by kernel_rfl) (by kernel_rfl) (fun _ _ _ h => h) (by rfl) (fun _ _ => rfl) (by assumption) ?_
 try simp only [layR]
 refine takeV 9 (v := (.pointer (some ⟨P, 0, none⟩))) rfl (by kernel_rfl) (by kernel_rfl) (by kernel_rfl) (fun _ _ _ h => h) (by rfl) (fun _ _ => rfl) (by assumption) ?_
 try simp only [layR]
 refine takeV 10 (v := (.pointer (some ⟨P, 0, none⟩))) rfl (by kernel_rfl) (by kernel_rfl) (by kernel_rfl) (fun _ _ _ h => h) (by rfl) (fun W hSw => ?_) (by assumption) ?_
 ·skip
  go_simp
 try simp only [layR]
 refine takeV 11 (v := (.pointer (some ⟨P, 1, none⟩))) rfl (by kernel_rfl) (by kernel_rfl) (by kernel_rfl) (fun _ _ _ h => h) (by rfl) (fun W hSw => ?_) (by assumption) ?_
 ·skip
  go_simp
 try simp only [layR]
 refine takeV 12 (v := (.pointer (some ⟨P, 2, none⟩))) rfl (by kernel_rfl) (by kernel_rfl) (by kernel_rfl) (fun _ _ _ h => h) (by rfl) (fun W hSw => ?_) (by assumption) ?_
 ·skip
  go_simp
 try simp only [layR]
 refine takeV 13 (v := (.int .i64 ((s.tb : Int) + 1))) rfl (by kernel_rfl) (by kernel_rfl) (by kernel_rfl) (fun _ _ _ h => h) (by rfl) (fun W hSw => ?_) (by assumption) ?_
 ·have y9 := hSw.c2
  go_simp
 try simp only [layR]
 refine takeV 14 (v := (.int .i64 ((n : Int) - ((s.tb : Int) + 1)))) rfl (by kernel_rfl) (by kernel_rfl) (by kernel_rfl) (fun _ _ _ h => h) (by rfl) (fun W hSw => ?_) (by assumption) ?_
 ·skip
  go_simp
 try simp only [layR]
 refine takeV 15 (v := (.pointer (some ⟨P, 0, none⟩))) rfl (by kernel_rfl) (by kernel_rfl) (by kernel_rfl) (fun _ _ _ h => h) (by rfl) (fun _ _ => rfl) (by assumption) ?_
 try simp only [layR]
 refine takeV 16 (v := (.pointer (some ⟨P, 0, none⟩))) rfl (by kernel_rfl) (by kernel_rfl) (by kernel_rfl) (fun _ _ _ h => h) (by rfl) (fun W hSw => ?_) (by assumption) ?_
 ·skip
  go_simp
 try simp only [layR]
 refine takeV 17 (v := (.pointer (some ⟨P, 1, none⟩))) rfl (by kernel_rfl) (by kernel_rfl) (by kernel_rfl) (fun _ _ _ h => h) (by rfl) (fun W hSw => ?_) (by assumption) ?_
 ·skip
  go_simp
 try simp only [layR]
 refine takeV 18 (v := (.pointer (some ⟨P, 3, none⟩))) rfl (by kernel_rfl) (by kernel_rfl) (by kernel_rfl) (fun _ _ _ h => h) (by rfl) (fun W hSw => ?_) (by assumption) ?_
 ·skip
  go_simp
 try simp only [layR]
 refine takeV 19 (v := (.int .i64 (s.np : Int))) rfl (by kernel_rfl) (by kernel_rfl) (by kernel_rfl) (fun _ _ _ h => h) (by rfl) (fun W hSw => ?_) (by assumption) ?_
 ·have y9 := hSw.c3
  go_simp
 try simp only [layR]
 refine takeV 20 (v := (.bool true)) rfl (by kernel_rfl) (by kernel_rfl) (by kernel_rfl) (fun _ _ _ h => h) (by rfl) (fun W hSw => ?_) (by assumption) ?_
 ·skip
  go_simp
 try simp only [layR]
 refine takeV 21 (v := (.bool true)) rfl (by kernel_rfl) (by kernel_rfl) (by kernel_rfl) (fun _ _ _ h => h) (by rfl) (fun W hSw => ?_) (by assumption) ?_
 ·skip
  go_simp
 try simp only [layR]
 refine takeV 22 (v := (.bool true)) rfl (by kernel_rfl) (by kernel_rfl) (by kernel_rfl) (fun _ _ _ h => h) (by rfl) (fun _ _ => rfl) (by assumption) ?_
 try simp only [layR]
 refine wpAnyH_done (by kernel_rfl) ?_ _
 refine NoPanic.normal ?_
 clear hS0
 go_wp2
 go_ret
 exact ⟨rfl, HB.out⟩
theorem polThere_tab (h : PlM NB B Q w P f s) (h1 : 1 ≤ n) (hn : n ≤ s.tb) : Calls Tryz.prog 76 #[.pointer (some ⟨P, 0, none⟩), .int .i64 (n : Int)] w fun e w' => e = .returned (.bool true) ∧ w = w' := by
 have c1 := h.c1
 have g1 : (1 : Int) ≤ (n : Int) := by omega
 have g2 : (n : Int) ≤ (s.tb : Int) := by omega
 clear h h1 hn
 go_enter Tryz.func76, Tryz.ntmps76
 go_wp2
 go_ret
 exact ⟨rfl, rfl⟩
theorem polThere_us (h : PlM NB B Q w P f s) (hn : s.tb < n) (h9 : n < 4294967296) : Calls Tryz.prog 76 #[.pointer (some ⟨P, 0, none⟩), .int .i64 (n : Int)] w fun e w' => e = .returned (.bool (decide (n ∈ s.us))) ∧ w = w' := by
 have c1 := h.c1
 obtain ⟨U, D, dl, R, hc, _⟩ := id h
 have c6 : w.cell? ⟨P, 6, none⟩ = some (.map (some U)) := hc.hP.cellv rfl
 obtain ⟨v, hl⟩ := hc.used h9
 obtain ⟨bb, hbb⟩ : ∃ b, b = decide (n ∈ s.us) := ⟨_, rfl⟩
 rw [← hbb] at hl ⊢
 have g1 : (1 : Int) ≤ (n : Int) := by omega
 have g2 : ¬ (n : Int) ≤ (s.tb : Int) := by omega
 clear h hn hc hbb
 go_enter Tryz.func76, Tryz.ntmps76
 go_wp2
 go_ret
 exact ⟨rfl, rfl⟩
theorem polThere_yes (h : PlM NB B Q w P f s) (hn : s.There n) (h9 : n < 4294967296) : Calls Tryz.prog 76 #[.pointer (some ⟨P, 0, none⟩), .int .i64 (n : Int)] w fun e w' => e = .returned (.bool true) ∧ w = w' := by
 rcases hn with ⟨h1, h2⟩ | h1
 ·exact polThere_tab h h1 h2
 ·have := polThere_us h (h.ok.us n h1).1 h9
  rw [decide_eq_true h1] at this
  exact this
theorem there_lt (h : PlM NB B Q w P f s) (hn : s.There n) : 1 ≤ n ∧ n < 8192 ∧ n ≤ s.tb + s.np := by
 have hb := h.bd
 rcases hn with ⟨h1, h2⟩ | h1
 ·omega
 ·have := h.ok.us n h1
  omega
theorem polAsked_calls (h : PlM NB B Q w P f s) (hn : s.There n) : Calls Tryz.prog 78 #[.pointer (some ⟨P, 0, none⟩), .int .i64 (n : Int)] w fun e w' => e = .returned (.int .i64 0) ∧ w = w' := by
 have hT := Lib.hid (polThere_yes h hn (by have := there_lt h hn; omega))
 clear h
 go_enter Tryz.func78, Tryz.ntmps78
 go_wp2_with fail
 refine hT.out.mono ?_
 rintro e w_ ⟨rfl, rfl⟩
 go_wp2
 go_ret
 exact ⟨rfl, rfl⟩
theorem PlM.run_len (h : PlM NB B Q w P f s) : ∃ U, w.cell? ⟨P, 6, none⟩ = some (.map (some U)) ∧ ∀ ty, (Builtin.len_ #[71] ty #[.map (some U)]).run Tryz.prog w = .ok (.int .i64 (s.us.length : Int)) w := by
 obtain ⟨U, D, dl, R, hc, _⟩ := h
 obtain ⟨es, clock, h1, h2⟩ := hc.hU.size
 refine ⟨U, hc.hP.cellv rfl, fun ty => ?_⟩
 rw [← h2]
 simp [Builtin.len_, run_underlying Tryz.underlying71, MapKept.run_getObj_map h1, goInt]
theorem polRoom_calls (h : PlM NB B Q w P f s) : Calls Tryz.prog 11 #[.pointer (some ⟨P, 0, none⟩)] w fun e w' => e = .returned (.int .i64 ((s.np : Int) - (s.us.length : Int))) ∧ Below w.heap.size w w' := by
 obtain ⟨U, c6, hl⟩ := h.drew.run_len
 have hbd := h.bd
 have hul : s.us.length ≤ s.np := by
  have h1 := Ps.sub_len (l := s.us) (l' := (List.range s.np).map fun i => s.tb + 1 + i) h.ok.nd fun x hx => by
   have := h.ok.us x hx
   exact List.mem_map.2 ⟨x - s.tb - 1, List.mem_range.2 (by omega), by omega⟩
  rw [List.length_map, List.length_range] at h1
  exact h1
 have HS := Lib.hid (show w.drew.cell? ⟨P, 3, none⟩ = some (.int .i64 (s.np : Int)) ∧ w.drew.cell? ⟨P, 6, none⟩ = some (.map (some U)) ∧ ∀ ty, (Builtin.len_ #[71] ty #[.map (some U)]).run Tryz.prog w.drew = .ok (.int .i64 (s.us.length : Int)) w.drew from ⟨h.drew.c3, c6, hl⟩)
 have g1 := IntWalk.i64_in ((s.np : Int) - (s.us.length : Int)) ⟨by omega, by omega⟩
 have HB := Lib.hid (below_drew w)
 clear h hbd c6 hl hul
 go_enter Tryz.func11, Tryz.ntmps11
 go_wp2_with fail
 refine wp_region_noPanic ?_
 refine wp_region_held_drew (S := (fun W' => W'.cell? ⟨P, 3, none⟩ = some (.int .i64 (s.np : Int)) ∧ W'.cell? ⟨P, 6, none⟩ = some (.map (some U)) ∧ ∀ ty, (Builtin.len_ #[71] ty #[.map (some U)]).run Tryz.prog W' = .ok (.int .i64 (s.us.length : Int)) W')) (by kernel_rfl) HS.out (fun hS0 => ?_)
 refine takeV 0 (v := (.pointer (some ⟨P, 0, none⟩))) rfl (by kernel_rfl) (by kernel_rfl) (by kernel_rfl) (fun _ _ _ h => h) (by rfl) (fun _ _ => rfl) (by assumption) ?_
 try simp only [layR]
 refine takeV 1 (v := (.pointer (some ⟨P, 0, none⟩))) rfl (by kernel_rfl) (by kernel_rfl) (by kernel_rfl) (fun _ _ _ h => h) (by rfl) (fun W hSw => ?_) (by assumption) ?_
 ·skip
  go_simp
 try simp only [layR]
 refine takeV 2 (v := (.pointer (some ⟨P, 1, none⟩))) rfl (by kernel_rfl) (by kernel_rfl) (by kernel_rfl) (fun _ _ _ h => h) (by rfl) (fun W hSw => ?_) (by assumption) ?_
 ·skip
  go_simp
 try simp only [layR]
 refine takeV 3 (v := (.pointer (some ⟨P, 3, none⟩))) rfl (by kernel_rfl) (by kernel_rfl) (by kernel_rfl) (fun _ _ _ h => h) (by rfl) (fun W hSw => ?_) (by assumption) ?_
 ·skip
  go_simp
 try simp only [layR]
 refine takeV 4 (v := (.int .i64 (s.np : Int))) rfl (by kernel_rfl) (by kernel_rfl) (by kernel_rfl) (fun _ _ _ h => h) (by rfl) (fun W hSw => ?_) (by assumption) ?_
 ·have y9 := hSw.1
  go_simp
 try simp only [layR]
 refine takeV 5 (v := (.pointer (some ⟨P, 0, none⟩))) rfl (by kernel_rfl) (by kernel_rfl) (by kernel_rfl) (fun _ _ _ h => h) (by rfl) (fun _ _ => rfl) (by assumption) ?_
 try simp only [layR]
 refine takeV 6 (v := (.pointer (some ⟨P, 0, none⟩))) rfl (by kernel_rfl) (by kernel_rfl) (by kernel_rfl) (fun _ _ _ h => h) (by rfl) (fun W hSw => ?_) (by assumption) ?_
 ·skip
  go_simp
 try simp only [layR]
 refine takeV 7 (v := (.pointer (some ⟨P, 6, none⟩))) rfl (by kernel_rfl) (by kernel_rfl) (by kernel_rfl) (fun _ _ _ h => h) (by rfl) (fun W hSw => ?_) (by assumption) ?_
 ·skip
  go_simp
 try simp only [layR]
 refine takeV 8 (v := (.map (some U))) rfl (by kernel_rfl) (by kernel_rfl) (by kernel_rfl) (fun _ _ _ h => h) (by rfl) (fun W hSw => ?_) (by assumption) ?_
 ·have y9 := hSw.2.1
  go_simp
 try simp only [layR]
 refine takeV 9 (v := (.int .i64 (s.us.length : Int))) rfl (by kernel_rfl) (by kernel_rfl) (by kernel_rfl) (fun _ _ _ h => h) (by rfl) (fun W hSw => ?_) (by assumption) ?_
 ·have y9 := hSw.2.2
  go_simp
 try simp only [layR]
 refine takeV 10 (v := (.int .i64 ((s.np : Int) - (s.us.length : Int)))) rfl (by kernel_rfl) (by kernel_rfl) (by kernel_rfl) (fun _ _ _ h => h) (by rfl) (fun W hSw => ?_) (by assumption) ?_
 ·skip
  go_simp
 try simp only [layR]
 refine takeV 11 (v := (.int .i64 ((s.np : Int) - (s.us.length : Int)))) rfl (by kernel_rfl) (by kernel_rfl) (by kernel_rfl) (fun _ _ _ h => h) (by rfl) (fun _ _ => rfl) (by assumption) ?_
 try simp only [layR]
 refine wpAnyH_done (by kernel_rfl) ?_ _
 refine NoPanic.normal ?_
 clear hS0
 go_wp2
 go_ret
 exact ⟨rfl, HB.out⟩
end Go.Proofs.YtcppkaphlcflgaaGreat
namespace Go.Proofs.YtcppkaphlcflgaaGreat
open Go.RowKit Ftl

section
variable {NB B n : Nat} {R : Nat → Prop} {w : World} {f : Fm}
def RdpO (NB B : Nat) (R : Nat → Prop) (f : Fm) (d : List UInt8) (w : World) (e : Ending) (w' : World) : Prop :=
 (∃ v, e = .returned (.tuple #[v, .int .i64 0]) ∧ Own byteV 5 w' w.heap.size v d) ∧ FtM NB B R w' f ∧ Kq R w w'
set_option maxRecDepth 100000 in
set_option maxHeartbeats 8000000 in
theorem ftReadO_calls (h : FtM NB B R w f) (hc : Fc NB f) (p : Nat) (hp1 : 1 ≤ p) (hp2 : p + 2 < (NB - 3) * 8) (hp3 : p < 8192) (x : En) (hx : curE f p = some x) :
  Calls Tryz.prog 79 #[.pointer (some ⟨f.F, 0, none⟩), .int .u32 (p : Int)] w (RdpO NB B R f x.d w) := by
 have hnb := hc.fi.nb
 have hlg := flogical_calls h hc.fi p (by omega)
 rw [if_neg (by omega)] at hlg
 have HLg := Lib.hid hlg
 have HH := Lib.hid h
 have HAt := Lib.hid (fun (W : World) (hW : FtM NB B R W f) => fat_calls hW p (by omega))
 rw [hx] at HAt
 have hm := curE_mem hx
 have hgp := hc.fi.pg x hm
 have hok := hc.fi.ok x hm
 have hxb := hc.fi.lt hm
 have hchl : chL ((f.g.bl x.b).pgs x.i) = Tg.page x.t x.d := by rw [hgp.pg]; rfl
 have hrd := fun (W : World) (hW : FtM NB B R W f) => fRead_calls hW hxb hgp.i8
 unfold Rdd at hrd
 rw [hchl] at hrd
 have HRd := Lib.hid hrd
 have HTr := Lib.hid (Tg.read_page hok.rt (pay := x.d) (by rw [hok.len]; decide))
 have HLen := Lib.hid hok.plen
 have HDl := Lib.hid hok.len
 have hcs := placeCells
 have hct := tagCells
 clear h hc hlg hx hm hgp hok hxb hchl hrd hnb hp1 hp2 hp3
 obtain ⟨xb, hxb⟩ : ∃ b, b = x.b := ⟨_, rfl⟩
 obtain ⟨xi, hxi⟩ : ∃ i, i = x.i := ⟨_, rfl⟩
 have hpl : plO (some x) = .agg #[.int .i64 (xb : Int), .int .i64 (xi : Int)] := by rw [hxb, hxi]; rfl
 rw [← hxb, ← hxi] at HRd
 clear hxb hxi
 have HPl := Lib.hid hpl
 clear hpl
 go_enter Tryz.func79, Tryz.ntmps79
 go_wp2_with fail
 refine HLg.out.mono ?_
 rintro e w1 ⟨rfl, hb1⟩
 have H1 := Lib.hid (HH.out.on hb1)
 have HB1 := Lib.hid hb1
 clear hb1
 go_wp2_with fail
 refine (HAt.out w1 H1.out).mono ?_
 rintro e w2 ⟨rfl, hb2⟩
 rw [HPl.out, show (some x).isSome = true from rfl]
 have hb3 := (HB1.out.then_ hb2).alloc (Nat.le_trans HB1.out.size hb2.size) (.cells #[.int .i64 (xb : Int), .int .i64 (xi : Int)] 184)
 have H2 := Lib.hid (HH.out.on hb3)
 have HB2 := Lib.hid hb3
 have HZ := Lib.hid (Blk.new w2 184 #[.int .i64 (xb : Int), .int .i64 (xi : Int)])
 have HZn := Lib.hid (show ¬ R w2.heap.size from (H1.out.on hb2).not_new (Nat.le_refl _))
 clear hb2 hb3
 go_upto_region 7 with fail
 generalize w2.alloc (.cells #[.int .i64 (xb : Int), .int .i64 (xi : Int)] 184) = w3 at *
 generalize w2.heap.size = Z at *
 have HS0 := Lib.hid (show w3.drew.cell? ⟨f.F, 0, none⟩ = some (.pointer (some ⟨f.g.C, 0, none⟩)) ∧ Blk w3.drew Z 184 #[.int .i64 (xb : Int), .int .i64 (xi : Int)] from ⟨(H2.out.on (below_drew w3)).c0, HZ.out.belowHere (below_drew w3)⟩)
 have H3 := Lib.hid (H2.out.on (below_drew w3))
 have HB3 := Lib.hid (HB2.out.then_ (below_drew w3))
 refine wp_region_noPanic ?_
 refine wp_region_held_drew (S := (fun W' => W'.cell? ⟨f.F, 0, none⟩ = some (.pointer (some ⟨f.g.C, 0, none⟩)) ∧ Blk W' Z 184 #[.int .i64 (xb : Int), .int .i64 (xi : Int)])) (by kernel_rfl) HS0.out (fun hS0 => ?_)
 generalize w3.drew = W at *
 clear HS0
 refine takeV 0 (v := (.pointer (some ⟨f.F, 0, none⟩))) rfl (by kernel_rfl) (by kernel_rfl) (by kernel_rfl) (fun _ _ _ h => h) (by rfl) (fun _ _ => rfl) (by assumption) ?_
 try simp only [layR]
 refine takeV 1 (v := (.pointer (some ⟨f.F, 0, none⟩))) rfl (by kernel_rfl) (by kernel_rfl) (by kernel_rfl) (fun _ _ _ h => h) (by rfl) (fun W hSw => ?_) (by assumption) ?_
 ·skip
  go_simp
 try simp only [layR]
 refine takeV 2 (v := (.pointer (some ⟨f.F, 0, none⟩))) rfl (by kernel_rfl) (by kernel_rfl) (by kernel_rfl) (fun _ _ _ h => h) (by rfl) (fun W hSw => ?_) (by assumption) ?_
 ·skip
  go_simp
 try simp only [layR]
 refine takeV 3 (v := (.pointer (some ⟨f.g.C, 0, none⟩))) rfl (by kernel_rfl) (by kernel_rfl) (by kernel_rfl) (fun _ _ _ h => h) (by rfl) (fun W hSw => ?_) (by assumption) ?_
 ·obtain ⟨y8, _⟩ := hSw
  go_simp
 try simp only [layR]
 refine takeV 4 (v := (.pointer (some ⟨Z, 0, none⟩))) rfl (by kernel_rfl) (by kernel_rfl) (by kernel_rfl) (fun _ _ _ h => h) (by rfl) (fun W hSw => ?_) (by assumption) ?_
 ·skip
  go_simp
 try simp only [layR]
 refine takeV 5 (v := (.int .i64 (xb : Int))) rfl (by kernel_rfl) (by kernel_rfl) (by kernel_rfl) (fun _ _ _ h => h) (by rfl) (fun W hSw => ?_) (by assumption) ?_
 ·have y9 := hSw.2.cellv (i := 0) rfl
  go_simp
 try simp only [layR]
 refine takeV 6 (v := (.pointer (some ⟨Z, 1, none⟩))) rfl (by kernel_rfl) (by kernel_rfl) (by kernel_rfl) (fun _ _ _ h => h) (by rfl) (fun W hSw => ?_) (by assumption) ?_
 ·skip
  go_simp
 try simp only [layR]
 refine takeV 7 (v := (.int .i64 (xi : Int))) rfl (by kernel_rfl) (by kernel_rfl) (by kernel_rfl) (fun _ _ _ h => h) (by rfl) (fun W hSw => ?_) (by assumption) ?_
 ·have y9 := hSw.2.cellv (i := 1) rfl
  go_simp
 try simp only [layR]
 refine wpAnyH_ready (rs := [8]) (by kernel_rfl) (by simp) ?_
 refine AllReadyH.cons rfl (fun K' hK => ?_) AllReadyH.nil
 go_simp
 refine (HRd.out W H3.out).mono ?_
 rintro e w4 ⟨⟨a4, c4, rfl, hc4, ho4⟩, hm4, hk4⟩
 have hS4 : w4.cell? ⟨f.F, 0, none⟩ = some (.pointer (some ⟨f.g.C, 0, none⟩)) ∧ Blk w4 Z 184 #[.int .i64 (xb : Int), .int .i64 (xi : Int)] := ⟨hm4.c0, hS0.2.kq hk4 HZn.out⟩
 have H4 := Lib.hid hm4
 have HK4 := Lib.hid ((Kq.of (T := R) HB3.out).trans hk4)
 have HK4s := Lib.hid HK4.out.size
 have HO4 := Lib.hid ho4
 have HC4 := Lib.hid hc4
 clear hm4 hk4 ho4 hc4
 refine hK.out _ _ hS4 (fun hS5 => ?_)
 try simp only [layR]
 refine takeV 9 (v := (.tuple #[.slice a4 96 c4, .int .i64 0])) rfl (by kernel_rfl) (by kernel_rfl) (by kernel_rfl) (fun _ _ _ h => h) (by rfl) (fun W hSw => ?_) (by assumption) ?_
 ·skip
  go_simp
 try simp only [layR]
 refine takeV 10 (v := (.slice a4 96 c4)) rfl (by kernel_rfl) (by kernel_rfl) (by kernel_rfl) (fun _ _ _ h => h) (by rfl) (fun W hSw => ?_) (by assumption) ?_
 ·skip
  go_simp
 try simp only [layR]
 refine takeV 11 (v := (.int .i64 0)) rfl (by kernel_rfl) (by kernel_rfl) (by kernel_rfl) (fun _ _ _ h => h) (by rfl) (fun W hSw => ?_) (by assumption) ?_
 ·skip
  go_simp
 try simp only [layR]
 refine takeV 12 (v := (.slice a4 96 c4)) rfl (by kernel_rfl) (by kernel_rfl) (by kernel_rfl) (fun _ _ _ h => h) (by rfl) (fun _ _ => rfl) (by assumption) ?_
 try simp only [layR]
 refine takeV 13 (v := (.int .i64 0)) rfl (by kernel_rfl) (by kernel_rfl) (by kernel_rfl) (fun _ _ _ h => h) (by rfl) (fun _ _ => rfl) (by assumption) ?_
 try simp only [layR]
 refine wpAnyH_done (by kernel_rfl) ?_ _
 refine NoPanic.normal ?_
 clear hS0 hS4 hS5
 go_wp2_with fail
 refine (tread_own a4 64 c4 _ w4 (HO4.out.arr (by rw [HLen.out]; omega)) HC4.out (.inl rfl) HTr.out.2.2).mono ?_
 rintro e w5 ⟨a5, n5, c5, rfl, _, _, hb5, _, hx5⟩
 rw [HTr.out.1, HTr.out.2.2]
 rw [HTr.out.2.1] at hx5
 have HX5 := Lib.hid (hx5.mono HK4s.out)
 have HB5 := Lib.hid hb5
 clear hx5 hb5
 have hba := (Below.refl w5.heap.size w5).alloc (Nat.le_refl _) (.cells #[.int .i64 x.t.k, .int .u32 (x.t.p : Int), .int .u64 (x.t.s : Int), .int .u64 (x.t.e : Int)] 103)
 have HX6 := Lib.hid (HX5.out.on hba)
 have HB6 := Lib.hid (HB5.out.then_ hba)
 clear hba
 unfold tagV
 go_wp2_with fail
 go_ret2
 exact ⟨⟨_, rfl, HX6.out⟩, H4.out.on HB6.out, HK4.out.on HB6.out⟩
end
end Go.Proofs.YtcppkaphlcflgaaGreat
namespace Go.Proofs.YtcppkaphlcflgaaGreat
open Go.RowKit Ftl Go.ChangeMaps

section
variable {NB B n : Nat} {R : Nat → Prop} {w : World} {f : Fm}
set_option maxRecDepth 100000 in
set_option maxHeartbeats 4000000 in
theorem fReadNone_calls (h : FtM NB B R w f) (hc : Fc NB f) (p : Nat) (hp1 : 1 ≤ p) (hp2 : p + 2 < (NB - 3) * 8) (hp3 : p < 8192) (hx : curE f p = none) :
  Calls Tryz.prog 79 #[.pointer (some ⟨f.F, 0, none⟩), .int .u32 (p : Int)] w fun e w' => e = .returned (.tuple #[.slice none 0 0, .int .i64 60]) ∧ Below w.heap.size w w' := by
 have hnb := hc.fi.nb
 have hlg := flogical_calls h hc.fi p (by omega)
 rw [if_neg (by omega)] at hlg
 have HLg := Lib.hid hlg
 have HH := Lib.hid h
 have HAt := Lib.hid (fun (W : World) (hW : FtM NB B R W f) => fat_calls hW p (by omega))
 rw [hx] at HAt
 have hcs := placeCells
 clear h hc hlg hx
 go_enter Tryz.func79, Tryz.ntmps79
 go_wp2_with fail
 refine HLg.out.mono ?_
 rintro e w1 ⟨rfl, hb1⟩
 have H1 := Lib.hid (HH.out.on hb1)
 have HB1 := Lib.hid hb1
 clear hb1
 go_wp2_with fail
 refine (HAt.out w1 H1.out).mono ?_
 rintro e w2 ⟨rfl, hb2⟩
 rw [show plO none = .agg #[.int .i64 0, .int .i64 0] from rfl, show (none : Option En).isSome = false from rfl]
 have HB2 := Lib.hid ((HB1.out.then_ hb2).alloc (HB1.out.then_ hb2).size (.cells #[.int .i64 0, .int .i64 0] 184))
 clear hb2
 go_wp2_with fail
 go_ret2
 exact ⟨rfl, HB2.out⟩
end
end Go.Proofs.YtcppkaphlcflgaaGreat
namespace Go.Proofs.YtcppkaphlcflgaaGreat
open Go.RowKit Go.Maps Go.ChangeMaps Pol Ftl
variable {NB B P n : Nat} {Q : Nat → Prop} {w w' : World} {f : Fm} {s : Ps}

theorem mkP64 (u : World) : (Instr.makeSlice 40 (.int .i64 64) (.int .i64 64)).run Tryz.prog u = .ok (.slice (some ⟨u.heap.size, 0, none⟩) 64 64) (u.alloc (.cells (Array.replicate 64 (.int .u8 0)) 5)) := makeZ 64 (by omega) u
def PolGot (NB B : Nat) (Q : Nat → Prop) (P : Nat) (f : Fm) (s : Ps) (x : List UInt8) (w : World) (e : Ending) (w' : World) : Prop :=
 (∃ v, e = .returned (.tuple #[v, .int .i64 0]) ∧ Own byteV 5 w' w.heap.size v x) ∧ PlM NB B Q w' P f s ∧ Kq Q w w'
theorem PlC.pl {R : Nat → Prop} {U D : Nat} {dl : List Dp} (h : PlC NB B R w P U D dl f s) (h2 : ∀ q, Hp P U D R dl q → Q q) (h3 : ∀ q, Q q → B ≤ q ∧ q < w.heap.size) : PlM NB B Q w P f s := ⟨U, D, dl, R, h, h2, h3⟩
set_option maxHeartbeats 4000000 in
set_option maxRecDepth 100000 in
theorem polGet_calls (h : PlM NB B Q w P f s) (hn : s.There n) : Calls Tryz.prog 36 #[.pointer (some ⟨P, 0, none⟩), .int .i64 (n : Int)] w (PolGot NB B Q P f s (s.g n) w) := by
 have hlt := there_lt h hn
 have HA := Lib.hid (polAsked_calls h hn)
 have HH := Lib.hid h
 obtain ⟨U, D, dl, R, hc, hq1, hq2⟩ := id h
 have hx := hc.ok.sz n hn
 have c7 : w.cell? ⟨P, 7, none⟩ = some (.map (some D)) := hc.hP.cellv rfl
 have c5 := h.c5
 have c0 := h.c0
 have hl := hc.dirty (n := n) (by omega)
 have hg := hc.g n hn
 unfold pgF at hg
 have hbd := hc.bd
 cases hd : diE.get dl n with
 | some d =>
  obtain ⟨hm, hk⟩ := Enc.get_mem hd
  rw [hd] at hl hg
  simp only at hg
  have ho := hc.ow d hm
  rw [hg] at hx ⊢
  obtain ⟨a, c, hv, hlc⟩ := ho.formN hx
  replace hl : (Instr.lookup 72 (.map (some D)) (.int .i64 (n : Int)) true).run Tryz.prog w = .ok (.tuple #[d.v, .bool true]) w := hl
  obtain ⟨dv, hdv⟩ : ∃ v, v = d.v := ⟨_, rfl⟩
  rw [← hdv] at hv hl ho
  subst hv
  have HC := Lib.hid (clone_calls a 64 c d.x w (ho.arr (by omega)))
  clear h hc hq1 hq2 hx hg hbd hd hm hk hdv ho hlc
  go_enter Tryz.func36, Tryz.ntmps36
  go_wp2_with fail
  refine HA.out.mono ?_
  rintro e w_ ⟨rfl, rfl⟩
  go_wp2_with fail
  refine HC.out.mono ?_
  rintro e w1 ⟨⟨v, rfl, ho⟩, hb⟩
  have HO := Lib.hid ho
  have HB := Lib.hid hb
  clear ho hb
  go_wp2
  go_ret2
  exact ⟨⟨_, rfl, HO.out⟩, HH.out.on HB.out, Kq.of HB.out⟩
 | none =>
  rw [hd] at hl hg
  simp only at hg
  replace hl : (Instr.lookup 72 (.map (some D)) (.int .i64 (n : Int)) true).run Tryz.prog w = .ok (.tuple #[.slice none 0 0, .bool false]) w := hl
  have gw := show IntKind.u32.wrap (n : Int) = (n : Int) from IntWalk.u32_in (n : Int) ⟨by omega, by omega⟩
  have hmk := mkP64
  cases hv : vw f n with
  | some y =>
   rw [hv] at hg
   simp only at hg
   obtain ⟨e0, he, hed, _⟩ := vw_some hv
   have HRd := Lib.hid (ftReadO_calls hc.hf hc.fc n (by omega) (by omega) (by omega) e0 he)
   rw [hg, ← hed]
   have HC := Lib.hid hc
   have HQ1 := Lib.hid hq1
   have HQ2 := Lib.hid hq2
   clear h hc hq1 hq2 hx hg hbd hd hv
   go_enter Tryz.func36, Tryz.ntmps36
   go_wp2_with fail
   refine HA.out.mono ?_
   rintro e w_ ⟨rfl, rfl⟩
   go_wp2_with fail
   refine HRd.out.mono ?_
   rintro e w1 ⟨⟨v, rfl, ho⟩, hm, hk⟩
   have HO := Lib.hid ho
   have hK : Kq R w w1 := hk
   have HK := Lib.hid (hK.mono fun q hq => HQ1.out q (.inr (.inr (.inr (.inl hq)))))
   have HPl := Lib.hid (show PlM NB B Q w1 P f s from by
    have hc := HC.out
    refine PlC.pl (U := U) (D := D) (dl := dl) (R := R) ⟨hc.hP.kq hK hc.nr.1, hc.hU.same (hK.block _ hc.hU.lt hc.nr.2.1), hc.hD.same (hK.block _ hc.hD.lt hc.nr.2.2), hm, hc.fc, hc.ok, hc.bd, hc.dt, fun d hd => (hc.ow d hd).kq hK fun q hq => (hc.nu d hd q hq).2.2.2, hc.g, hc.ne, hc.nr, hc.nu⟩ HQ1.out fun q hq => ⟨(HQ2.out q hq).1, Nat.lt_of_lt_of_le (HQ2.out q hq).2 hK.size⟩)
   clear ho hm hk hK
   go_wp2
   go_ret2
   exact ⟨⟨_, rfl, HO.out⟩, HPl.out, HK.out⟩
  | none =>
   rw [hv] at hg
   simp only at hg
   have hcur : curE f n = none := by
    unfold vw at hv
    cases hz : curE f n with
    | none => rfl
    | some e => rw [hz] at hv; cases hv
   have HRd := Lib.hid (fReadNone_calls hc.hf hc.fc n (by omega) (by omega) (by omega) hcur)
   rw [hg]
   clear hc hq1 hq2 hx hg hbd hd hv hcur h
   go_enter Tryz.func36, Tryz.ntmps36
   go_wp2_with fail
   refine HA.out.mono ?_
   rintro e w_ ⟨rfl, rfl⟩
   go_wp2_with fail
   refine HRd.out.mono ?_
   rintro e w1 ⟨rfl, hb⟩
   have c5' := (HH.out.on hb).c5
   have HB := Lib.hid (hb.alloc hb.size (.cells (Array.replicate 64 (.int .u8 0)) 5))
   have HO := Lib.hid ((ownMadeZ w1 w1.heap.size 64 (Nat.le_refl _) (by omega)).mono hb.size)
   clear hb
   go_wp2
   go_ret2
   exact ⟨⟨_, rfl, HO.out⟩, HH.out.on HB.out, Kq.of HB.out⟩
end Go.Proofs.YtcppkaphlcflgaaGreat
