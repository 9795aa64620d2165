import Derived.Test.YtcppkaphlcflgaaGreatSprAdd
import Derived.Test.YtcppkaphlcflgaaGreatPolAlloc
namespace Go.Proofs.YtcppkaphlcflgaaGreat
open Lib (hid)
set_option maxRecDepth 100000
set_option maxHeartbeats 16000000
section
open Pol Spr

noncomputable def Ps.nx (s : Ps) : Nat := open Classical in if h : ∃ n, s.Nx n then Classical.choose h else 0
theorem Ps.nx_of {s : Ps} {n : Nat} (h : s.Nx n) : s.nx = n := by
 unfold Ps.nx
 rw [dif_pos ⟨n, h⟩]
 exact (Classical.choose_spec (⟨n, h⟩ : ∃ n, s.Nx n)).one h
theorem Ps.nx_is {s : Ps} (h : s.us.length < s.np) : s.Nx s.nx := by
 obtain ⟨n, hn⟩ := Ps.Nx.ex h
 rw [Ps.nx_of hn]
 exact hn
namespace Nod
def ptP (g : Nat → List UInt8) (p k : Nat) : Nat := if p = 0 then 0 else Pt.two (g p) k
def atP (g : Nat → List UInt8) (io : Io) (n : Nat) : Nat := if n < 6 then io.d.getD n 0 else if n < 38 then ptP g io.s (n - 6) else ptP g (ptP g io.b ((n - 38) / 32)) ((n - 38) % 32)
def Gd (s : Ps) (p : Nat) : Prop := p = 0 ∨ p ∈ s.us
structure Wf (s : Ps) (io : Io) : Prop where
 dl : io.d.length = 6
 wd : ∀ n, n < 6 → Gd s (io.d.getD n 0)
 ws : Gd s io.s
 wb : Gd s io.b
 sj : ∀ j, j < 32 → Gd s (ptP s.g io.s j)
 bj : ∀ j, j < 32 → Gd s (ptP s.g io.b j)
 bk : ∀ j k, j < 32 → k < 32 → Gd s (ptP s.g (ptP s.g io.b j) k)
theorem Gd.there {s : Ps} {p : Nat} (h : Gd s p) (h0 : p ≠ 0) : s.There p := by
 rcases h with h | h
 ·exact absurd h h0
 ·exact .inr h
theorem Gd.lt {s : Ps} {p : Nat} (h : Gd s p) (ho : s.Ok) (hb : s.tb + s.np < 8192) : p < 8192 := by
 rcases h with h | h
 ·omega
 ·have := ho.us p h
  omega
theorem Wf.at_ {s : Ps} {io : Io} (h : Wf s io) {n : Nat} (hn : n < 1062) : Gd s (atP s.g io n) := by
 unfold atP
 split
 ·exact h.wd n (by omega)
 ·split
  ·exact h.sj _ (by omega)
  ·exact h.bk _ _ (by omega) (by omega)
noncomputable def pointS (s : Ps) (p k tq : Nat) : Ps × Nat :=
 let q := if p = 0 then s.nx else p
 let t := if p = 0 then s.add s.nx else s
 let x := Pt.put (t.g q) k tq
 if Pt.pts x = [] then (t.del q, 0) else (t.put q x, q)
theorem pointS_eq {s t : Ps} {p k tt q : Nat} (hq : q = if p = 0 then s.nx else p) (ht : t = if p = 0 then s.add s.nx else s) : pointS s p k tt = if Pt.pts (Pt.put (t.g q) k tt) = [] then (t.del q, 0) else (t.put q (Pt.put (t.g q) k tt), q) := by
 subst hq ht
 unfold pointS
 rfl
noncomputable def setS (s : Ps) (io : Io) (n tq : Nat) : Ps × Io :=
 if n < 6 then (s, { io with d := io.d.set n tq })
 else if n < 38 then ((pointS s io.s (n - 6) tq).1, { io with s := (pointS s io.s (n - 6) tq).2 })
 else
  let r := pointS s (ptP s.g io.b ((n - 38) / 32)) ((n - 38) % 32) tq
  let q := pointS r.1 io.b ((n - 38) / 32) r.2
  (q.1, { io with b := q.2 })
end Nod
end
section
open Pol Spr
namespace Nod
def ptrs (g : Nat → List UInt8) : Nat → Nat → Nat → List (Nat × Nat × Nat)
 | 0, p, fr => if p = 0 then [] else [(fr, p, 0)]
 | lv + 1, p, fr => if p = 0 then [] else (fr, p, lv + 1) :: (Pt.pts (g p)).flatMap fun x => ptrs g lv x.2 (fr + x.1 * (if lv = 1 then 32 else 1))
def yl (g : Nat → List UInt8) (io : Io) : List (Nat × Nat × Nat) := (List.range 6).flatMap (fun k => ptrs g 0 (io.d.getD k 0) k) ++ ptrs g 1 io.s 6 ++ ptrs g 2 io.b 38
def GdL (s : Ps) : Nat → Nat → Prop
 | 0, p => Gd s p
 | l + 1, p => Gd s p ∧ ∀ j, j < 32 → GdL s l (ptP s.g p j)
theorem GdL.gd {s : Ps} {l p : Nat} (h : GdL s l p) : Gd s p := by
 cases l with
 | zero => exact h
 | succ l => exact h.1
theorem Wf.gs {s : Ps} {io : Io} (h : Wf s io) : GdL s 1 io.s := ⟨h.ws, fun j hj => h.sj j hj⟩
theorem Wf.gb {s : Ps} {io : Io} (h : Wf s io) : GdL s 2 io.b := ⟨h.wb, fun j hj => ⟨h.bj j hj, fun k hk => h.bk j k hj hk⟩⟩
theorem ptsTo_mem {x : List UInt8} {k j v : Nat} (h : (j, v) ∈ Pt.ptsTo x k) : j < k ∧ v = Pt.two x j ∧ v ≠ 0 := by
 induction k with
 | zero => cases h
 | succ k ih =>
  rw [Pt.ptsTo] at h
  split at h
  ·have := ih h; exact ⟨by omega, this.2⟩
  ·rename_i h0
   rcases List.mem_append.1 h with h1 | h1
   ·have := ih h1; exact ⟨by omega, this.2⟩
   ·obtain ⟨rfl, rfl⟩ := Prod.mk.inj (List.mem_singleton.1 h1)
    exact ⟨by omega, rfl, h0⟩
theorem pts_mem {x : List UInt8} (hx : x.length = 64) {j v : Nat} (h : (j, v) ∈ Pt.pts x) : j < 32 ∧ v = Pt.two x j ∧ v ≠ 0 := by
 unfold Pt.pts at h
 rw [hx, if_pos (show Ino.Sized (64 : Nat) from .inl rfl)] at h
 exact ptsTo_mem h
end Nod
end
section
open Pol Spr
namespace Nod
structure SetOk (s : Ps) (io : Io) (n tt : Nat) : Prop where
 dl : io.d.length = 6
 hn : n < 1062
 ht : tt < 8192
 one : 6 ≤ n → n < 38 → Gd s io.s ∧ (io.s = 0 → s.us.length < s.np)
 two : 38 ≤ n → Gd s io.b ∧ Gd s (ptP s.g io.b ((n - 38) / 32)) ∧ (ptP s.g io.b ((n - 38) / 32) = 0 → s.us.length < s.np) ∧ Gd (pointS s (ptP s.g io.b ((n - 38) / 32)) ((n - 38) % 32) tt).1 io.b ∧
  (io.b = 0 → (pointS s (ptP s.g io.b ((n - 38) / 32)) ((n - 38) % 32) tt).1.us.length < s.np) ∧ (pointS s (ptP s.g io.b ((n - 38) / 32)) ((n - 38) % 32) tt).2 < 8192
noncomputable def ens (s : Ps) (io : Io) (n : Nat) : Ps × Io × Nat :=
 if atP s.g io n = 0 then ((setS (s.add s.nx) io n s.nx).1, (setS (s.add s.nx) io n s.nx).2, s.nx) else (s, io, atP s.g io n)
structure EnsOk (s : Ps) (io : Io) (n : Nat) : Prop where
 wf : Wf s io
 hn : n < 1062
 new : atP s.g io n = 0 → s.us.length < s.np ∧ SetOk (s.add s.nx) io n s.nx
 th : (ens s io n).1.There (ens s io n).2.2
 dl : (ens s io n).2.1.d.length = 6
def wrK (off : Nat) (b : List UInt8) : Nat := min (64 - off % 64) b.length
def wrX (x : List UInt8) (off : Nat) (b : List UInt8) : List UInt8 := x.take (off % 64) ++ b.take (wrK off b) ++ x.drop (off % 64 + wrK off b)
noncomputable def wr1 (s : Ps) (io : Io) (off : Nat) (b : List UInt8) : Ps × Io :=
 ((ens s io (off / 64)).1.put (ens s io (off / 64)).2.2 (wrX ((ens s io (off / 64)).1.g (ens s io (off / 64)).2.2) off b), (ens s io (off / 64)).2.1)
noncomputable def wrS : Nat → Ps → Io → Nat → List UInt8 → Ps × Io
 | 0, s, io, _, _ => (s, io)
 | m + 1, s, io, off, b => if b = [] then (s, io) else wrS m (wr1 s io off b).1 (wr1 s io off b).2 (off + wrK off b) (b.drop (wrK off b))
def WrOk : Nat → Ps → Io → Nat → List UInt8 → Prop
 | 0, _, _, _, b => b = []
 | m + 1, s, io, off, b => b = [] ∨ (EnsOk s io (off / 64) ∧ WrOk m (wr1 s io off b).1 (wr1 s io off b).2 (off + wrK off b) (b.drop (wrK off b)))
theorem wrK_pos {off : Nat} {b : List UInt8} (h : b ≠ []) : 1 ≤ wrK off b ∧ wrK off b ≤ b.length ∧ off % 64 + wrK off b ≤ 64 := by
 have := List.length_pos_iff.2 h
 unfold wrK
 omega
theorem wrX_len {x b : List UInt8} {off : Nat} (hx : x.length = 64) : (wrX x off b).length = 64 := by
 unfold wrX wrK
 simp only [List.length_append, List.length_take, List.length_drop, hx]
 omega
end Nod
end
section
open Pol Spr
namespace Nod
noncomputable def tr1 (s : Ps) (io : Io) (n : Nat) : Ps × Io := setS (s.del (atP s.g io n)) io n 0
noncomputable def trL : List Nat → Ps → Io → Ps × Io
 | [], s, io => (s, io)
 | n :: l, s, io => trL l (tr1 s io n).1 (tr1 s io n).2
structure Tr1Ok (s : Ps) (io : Io) (n : Nat) : Prop where
 wf : Wf s io
 hn : n < 1062
 us : atP s.g io n ∈ s.us
 set : SetOk (s.del (atP s.g io n)) io n 0
def TrOk : List Nat → Ps → Io → Prop
 | [], s, io => Wf s io
 | n :: l, s, io => Tr1Ok s io n ∧ TrOk l (tr1 s io n).1 (tr1 s io n).2
def trX (x : List UInt8) (tt : Nat) : List UInt8 := x.take (tt % 64) ++ List.replicate (64 - tt % 64) 0
def trT (s : Ps) (io : Io) (z tt : Nat) : Ps := if atP s.g io (tt / 64) ≠ 0 ∧ tt % 64 ≠ 0 ∧ tt < z then s.put (atP s.g io (tt / 64)) (trX (s.g (atP s.g io (tt / 64))) tt) else s
theorem trX_len {x : List UInt8} (hx : x.length = 64) (tt : Nat) : (trX x tt).length = 64 := by
 unfold trX
 rw [List.length_append, List.length_take, List.length_replicate]
 omega
theorem TrOk.wf {l : List Nat} {s : Ps} {io : Io} (h : TrOk l s io) : Wf s io := by
 cases l with
 | nil => exact h
 | cons n l => exact h.1.wf
end Nod
end
section
open Go.RowKit

structure Nf where
 k : Int
 l : Int
 s : Int
 io : Spr.Io
def nfL (P : Nat) (f : Nf) : List Value := [.pointer (some ⟨P, 0, none⟩), .int .i64 f.k, .int .i64 f.l, .int .i64 f.s] ++ f.io.d.map Pol.iV ++ [Pol.iV f.io.s, Pol.iV f.io.b]
structure NfM (w : World) (F P : Nat) (f : Nf) : Prop where
 blk : Blk w F 82 (nfL P f).toArray
 dl : f.io.d.length = 6
section
variable {w w' : World} {F P : Nat} {f : Nf}
theorem NfM.on (h : NfM w F P f) (hb : Below w.heap.size w w') : NfM w' F P f := ⟨Blk.belowHere h.blk hb, h.dl⟩
theorem NfM.kq {T : Nat → Prop} (h : NfM w F P f) (hk : Kq T w w') (hF : ¬ T F) : NfM w' F P f := ⟨Blk.kq h.blk hk hF, h.dl⟩
theorem NfM.lt (h : NfM w F P f) : F < w.heap.size := Blk.lt h.blk
theorem NfM.at_ (h : NfM w F P f) {i : Nat} {v : Value} (hv : (nfL P f)[i]? = some v) : w.cell? ⟨F, i, none⟩ = some v := Blk.cellv h.blk (by rw [List.getElem?_toArray]; exact hv)
theorem NfM.p (h : NfM w F P f) : w.cell? ⟨F, 0, none⟩ = some (.pointer (some ⟨P, 0, none⟩)) := h.at_ rfl
theorem NfM.d (h : NfM w F P f) {n : Nat} (hn : n < 6) : w.cell? ⟨F, 4 + n, none⟩ = some (.int .i64 (f.io.d.getD n 0 : Nat)) := h.at_ (by
 have hd := h.dl
 unfold nfL
 rw [List.getElem?_append_left (by simp only [List.length_append, List.length_map, List.length_cons, List.length_nil]; omega), List.getElem?_append_right (by simp only [List.length_cons, List.length_nil]; omega)]
 simp only [List.length_cons, List.length_nil, Nat.zero_add, Nat.reduceAdd, Nat.add_sub_cancel_left, List.getElem?_map, List.getD_eq_getElem?_getD]
 rw [List.getElem?_eq_getElem (by omega)]
 rfl)
theorem NfM.s (h : NfM w F P f) : w.cell? ⟨F, 10, none⟩ = some (.int .i64 (f.io.s : Nat)) := h.at_ (by
 have hd := h.dl
 unfold nfL
 rw [List.getElem?_append_right (by simp only [List.length_append, List.length_map, List.length_cons, List.length_nil]; omega)]
 simp only [List.length_append, List.length_map, List.length_cons, List.length_nil, hd]
 rfl)
theorem NfM.b (h : NfM w F P f) : w.cell? ⟨F, 11, none⟩ = some (.int .i64 (f.io.b : Nat)) := h.at_ (by
 have hd := h.dl
 unfold nfL
 rw [List.getElem?_append_right (by simp only [List.length_append, List.length_map, List.length_cons, List.length_nil]; omega)]
 simp only [List.length_append, List.length_map, List.length_cons, List.length_nil, hd]
 rfl)
end
end
section
open Go.RowKit Pol Nod
variable {NB B P : Nat} {Q : Nat → Prop} {w w' : World} {f : Fm} {s : Ps}

def PolAsked (NB B : Nat) (Q : Nat → Prop) (P : Nat) (f : Fm) (s : Ps) (v : Value) (w : World) (e : Ending) (w' : World) : Prop := e = .returned v ∧ PlM NB B Q w' P f s ∧ Kq Q w w'
theorem nodPointer_zero (h : PlM NB B Q w P f s) (F k : Nat) : Calls Tryz.prog 75 #[.pointer (some ⟨F, 0, none⟩), .int .i64 0, .int .i64 (k : Int)] w (PolAsked NB B Q P f s (.int .i64 0) w) := by
 go_enter Tryz.func75, Tryz.ntmps75
 go_wp2
 go_ret
 exact ⟨rfl, h, Kq.refl _ _⟩
theorem nodPointer_page (h : PlM NB B Q w P f s) {F n k : Nat} (hF : w.cell? ⟨F, 0, none⟩ = some (.pointer (some ⟨P, 0, none⟩))) (hn : s.There n) (hk : k < 32) (h8 : Pt.two (s.g n) k < 8192) :
  Calls Tryz.prog 75 #[.pointer (some ⟨F, 0, none⟩), .int .i64 (n : Int), .int .i64 (k : Int)] w (PolAsked NB B Q P f s (.int .i64 (Pt.two (s.g n) k : Int)) w) := by
 have hG := hid (polGet_calls h hn)
 have hx := h.ok.sz n hn
 have hH : Pt.Has (s.g n).length (k : Int) := by rw [hx]; exact ⟨.inl rfl, by omega, by omega⟩
 have hv := hid (Pt.ptr_yes hH (by rw [Int.toNat_natCast]; exact h8))
 have HX := hid hx
 have hlt := there_lt h hn
 have n0 : (n : Int) ≠ 0 := by omega
 have n1 : ((n : Int) == 0) = false := by rw [beq_eq_false_iff_ne]; omega
 clear h hn hx hH h8 hlt
 go_enter Tryz.func75, Tryz.ntmps75
 go_wp2_with fail
 refine hG.out.mono ?_
 rintro e w1 ⟨⟨v, rfl, ho⟩, hp, hq⟩
 obtain ⟨a, c, rfl, hc⟩ := ho.formN HX.out
 have HA := hid (ho.arr (by have := HX.out; omega))
 have HP := hid hp
 have HQ := hid hq
 clear ho hp hq
 go_wp2_with fail
 refine (pointer_calls a 64 c _ (k : Int) w1 HA.out).mono ?_
 rintro e w2 ⟨rfl, hb2⟩
 obtain ⟨v1, v2⟩ := hv.out
 rw [Int.toNat_natCast] at v1
 rw [v1, v2]
 have HB2 := hid hb2
 clear hb2 v1 v2
 go_wp2
 go_ret
 exact ⟨rfl, HP.out.on HB2.out, HQ.out.on HB2.out⟩
theorem nodPointer_calls (h : PlM NB B Q w P f s) {F n k : Nat} (hF : w.cell? ⟨F, 0, none⟩ = some (.pointer (some ⟨P, 0, none⟩))) (hn : Gd s n) (hk : k < 32) (h8 : ptP s.g n k < 8192) :
  Calls Tryz.prog 75 #[.pointer (some ⟨F, 0, none⟩), .int .i64 (n : Int), .int .i64 (k : Int)] w (PolAsked NB B Q P f s (.int .i64 (ptP s.g n k : Int)) w) := by
 by_cases h0 : n = 0
 ·subst h0
  exact nodPointer_zero h F k
 ·have e : ptP s.g n k = Pt.two (s.g n) k := by unfold ptP; rw [if_neg h0]
  rw [e] at h8 ⊢
  exact nodPointer_page h hF (hn.there h0) hk h8
end
section
open Go.RowKit Pol Nod
variable {NB B P : Nat} {Q : Nat → Prop} {w w' : World} {f : Fm} {s : Ps}

theorem way64 {n : Nat} (hn : n < 1062) : Ino.wayE 64 (n : Int) = 0 := Ino.wayE_of (.inl rfl) (by omega) (by rw [Ino.pages_64]; omega)
theorem nodAt0_calls {fi : Nf} {F : Nat} (h : PlM NB B Q w P f s) (hN : NfM w F P fi) {n : Nat} (hn : n < 6) :
  Calls Tryz.prog 33 #[.pointer (some ⟨F, 0, none⟩), .int .i64 (n : Int)] w (PolAsked NB B Q P f s (.int .i64 (atP s.g fi.io n : Int)) w) := by
 have hS := hid (polSize_calls h)
 have he := way64 (n := n) (by omega)
 obtain ⟨a, b, c⟩ : Ino.wayA 64 (n : Int) = 0 ∧ Ino.wayB 64 (n : Int) = n ∧ Ino.wayC 64 (n : Int) = 0 := by
  rcases Ino.way_forms he with ⟨a, b, c, _⟩ | ⟨_, _, _, d, _⟩ | ⟨_, _, _, d⟩
  ·exact ⟨a, b, c⟩
  ·omega
  ·omega
 have hT := hid (to_calls 64 (n : Int) w (by omega) (by omega))
 have HW := hid (show wayV 64 (n : Int) = .tuple #[.agg #[.int .i64 0, .int .i64 (n : Int), .int .i64 0], .int .i64 0] by unfold wayV; rw [a, b, c, he])
 have HN := hid hN
 have hp := hN.p
 have HL := hid (show fi.io.d.getD n 0 = atP s.g fi.io n from (if_pos hn).symm)
 have HPl := hid h
 clear h hN he a b c
 go_enter Tryz.func33, Tryz.ntmps33
 go_wp2_with fail
 refine hS.out.mono ?_
 rintro e w_ ⟨rfl, rfl⟩
 go_wp2_with fail
 refine hT.out.mono ?_
 rintro e w1 ⟨rfl, hb1⟩
 rw [HW.out]
 have HB1 := hid hb1
 have HN1 := hid (HN.out.on hb1)
 clear hb1
 go_upto_region 6 with fail
 have HB2 := hid (HB1.out.alloc HB1.out.size (.cells #[.int .i64 0, .int .i64 (n : Int), .int .i64 0] 93))
 have hq := Blk.new w1 93 #[.int .i64 0, .int .i64 (n : Int), .int .i64 0]
 have q1 := hq.cellv (i := 1) rfl
 have HQ := hid q1
 have hd := (HN1.out.on ((Below.refl w1.heap.size w1).alloc (Nat.le_refl _) (.cells #[.int .i64 0, .int .i64 (n : Int), .int .i64 0] 93))).d hn
 rw [HL.out] at hd
 have HD := hid hd
 obtain ⟨L, hL⟩ : ∃ L, L = atP s.g fi.io n := ⟨_, rfl⟩
 rw [← hL] at HD
 have HLe := hid hL
 clear hq q1 hd hp hL HL
 generalize w1.alloc (.cells #[.int .i64 0, .int .i64 (n : Int), .int .i64 0] 93) = W2 at *
 generalize w1.heap.size = Q at *
 have g0 : (0 : Int) ≤ (n : Int) := by omega
 have g1 : (n : Int) < 6 := by omega
 refine wp_region_noPanic ?_
 refine wp_region_held_drew (S := (fun W' => W'.cell? ⟨Q, 1, none⟩ = some (.int .i64 (n : Int)) ∧ W'.cell? ⟨F, 4 + n, none⟩ = some (.int .i64 (L : Nat)))) (by kernel_rfl) ⟨HQ.out, HD.out⟩ (fun hS0 => ?_)
 refine tk 0 ((.pointer (some ⟨F, 0, none⟩))) rfl (fun _ _ => rfl) ?_
 try simp only [layR]
 refine tk 1 ((.pointer (some ⟨Q, 1, none⟩))) rfl (fun W hSw => ?_) ?_
 ·skip
  go_simp
 try simp only [layR]
 refine tk 2 ((.int .i64 (n : Int))) rfl (fun W hSw => ?_) ?_
 ·have y9 := hSw.1
  go_simp
 try simp only [layR]
 refine tk 3 ((.pointer (some ⟨F, 0, none⟩))) rfl (fun W hSw => ?_) ?_
 ·skip
  go_simp
 try simp only [layR]
 refine tk 4 ((.pointer (some ⟨F, 1, none⟩))) rfl (fun W hSw => ?_) ?_
 ·skip
  go_simp
 try simp only [layR]
 refine tk 5 ((.pointer (some ⟨F, 4, none⟩))) rfl (fun W hSw => ?_) ?_
 ·skip
  go_simp
 try simp only [layR]
 refine tk 6 ((.pointer (some ⟨F, 4 + n, none⟩))) rfl (fun W hSw => ?_) ?_
 ·skip
  go_simp
 try simp only [layR]
 refine tk 7 ((.int .i64 (L : Nat))) rfl (fun W hSw => ?_) ?_
 ·have y9 := hSw.2
  go_simp
 try simp only [layR]
 refine tk 8 ((.int .i64 (L : Nat))) rfl (fun _ _ => rfl) ?_
 try simp only [layR]
 refine wpAnyH_done (by kernel_rfl) ?_ _
 refine NoPanic.normal ?_
 clear hS0
 go_wp2
 go_ret
 refine ⟨?_, HPl.out.on (HB2.out.then_ (below_drew W2)), Kq.of (HB2.out.then_ (below_drew W2))⟩
 rw [← HLe.out]
 rfl
theorem gd_lt (h : PlM NB B Q w P f s) {p : Nat} (hp : Gd s p) : p < 8192 := hp.lt h.ok h.bd
theorem nodAt1_calls {fi : Nf} {F : Nat} (h : PlM NB B Q w P f s) (hN : NfM w F P fi) (hF : ¬ Q F) (hR : Wf s fi.io) {n : Nat} (hn6 : 6 ≤ n) (hn : n < 38) :
  Calls Tryz.prog 33 #[.pointer (some ⟨F, 0, none⟩), .int .i64 (n : Int)] w (PolAsked NB B Q P f s (.int .i64 (atP s.g fi.io n : Int)) w) := by
 have hS := hid (polSize_calls h)
 have he := way64 (n := n) (by omega)
 obtain ⟨a, b, c⟩ : Ino.wayA 64 (n : Int) = 1 ∧ Ino.wayB 64 (n : Int) = ((n - 6 : Nat) : Int) ∧ Ino.wayC 64 (n : Int) = 0 := by
  rcases Ino.way_forms he with ⟨_, _, _, d⟩ | ⟨a, b, c, d, _⟩ | ⟨_, _, _, d⟩
  ·omega
  ·exact ⟨a, by omega, c⟩
  ·omega
 have hT := hid (to_calls 64 (n : Int) w (by omega) (by omega))
 have HW := hid (show wayV 64 (n : Int) = .tuple #[.agg #[.int .i64 1, .int .i64 ((n - 6 : Nat) : Int), .int .i64 0], .int .i64 0] by unfold wayV; rw [a, b, c, he])
 have hat : ptP s.g fi.io.s (n - 6) = atP s.g fi.io n := by unfold atP; rw [if_neg (by omega), if_pos hn]
 have hgl := gd_lt h (hR.at_ (n := n) (by omega))
 obtain ⟨m, hm⟩ : ∃ m, m = n - 6 := ⟨_, rfl⟩
 rw [← hm] at HW hat
 rw [← hat] at hgl
 rw [← hat]
 have HGl := hid hgl
 have hm32 : m < 32 := by omega
 have HN := hid hN
 have hp := hN.p
 have HP := hid h
 have HR := hid hR
 have HFn := hid hF
 clear h hN hR he a b c hm hat hgl
 go_enter Tryz.func33, Tryz.ntmps33
 go_wp2_with fail
 refine hS.out.mono ?_
 rintro e w_ ⟨rfl, rfl⟩
 go_wp2_with fail
 refine hT.out.mono ?_
 rintro e w1 ⟨rfl, hb1⟩
 rw [HW.out]
 have HB1 := hid hb1
 have HN1 := hid (HN.out.on hb1)
 have HP1 := hid (HP.out.on hb1)
 clear hb1
 go_upto_region 8 with fail
 have hba := (Below.refl w1.heap.size w1).alloc (Nat.le_refl _) (.cells #[.int .i64 1, .int .i64 (m : Int), .int .i64 0] 93)
 have HB2 := hid (HB1.out.then_ hba)
 have HN2 := hid (HN1.out.on hba)
 have HP2 := hid (HP1.out.on hba).drew
 have HQ := hid (Blk.cellv (Blk.new w1 93 #[.int .i64 1, .int .i64 (m : Int), .int .i64 0]) (i := 1) rfl)
 have HD := hid HN2.out.s
 have hQl : w1.heap.size < (w1.alloc (.cells #[.int .i64 1, .int .i64 (m : Int), .int .i64 0] 93)).heap.size := by simp
 have HQn := hid HB1.out.size
 clear hp hba
 generalize w1.alloc (.cells #[.int .i64 1, .int .i64 (m : Int), .int .i64 0] 93) = W2 at *
 generalize w1.heap.size = Z at *
 have HC := hid (nodPointer_calls HP2.out (F := F) (n := fi.io.s) (k := m) (HN2.out.on (below_drew W2)).p HR.out.ws hm32 HGl.out)
 have HZn := hid (HP.out.not_new HQn.out)
 refine wp_region_noPanic ?_
 refine wp_region_held_drew (S := (fun W' => W'.cell? ⟨Z, 1, none⟩ = some (.int .i64 (m : Int)) ∧ W'.cell? ⟨F, 10, none⟩ = some (.int .i64 (fi.io.s : Nat)))) (by kernel_rfl) ⟨HQ.out, HD.out⟩ (fun hS0 => ?_)
 refine tk 0 ((.pointer (some ⟨F, 0, none⟩))) rfl (fun _ _ => rfl) ?_
 try simp only [layR]
 refine tk 1 ((.pointer (some ⟨F, 0, none⟩))) rfl (fun _ _ => rfl) ?_
 try simp only [layR]
 refine tk 2 ((.pointer (some ⟨F, 0, none⟩))) rfl (fun W hSw => ?_) ?_
 ·skip
  go_simp
 try simp only [layR]
 refine tk 3 ((.pointer (some ⟨F, 1, none⟩))) rfl (fun W hSw => ?_) ?_
 ·skip
  go_simp
 try simp only [layR]
 refine tk 4 ((.pointer (some ⟨F, 10, none⟩))) rfl (fun W hSw => ?_) ?_
 ·skip
  go_simp
 try simp only [layR]
 refine tk 5 ((.int .i64 (fi.io.s : Nat))) rfl (fun W hSw => ?_) ?_
 ·have y9 := hSw.2
  go_simp
 try simp only [layR]
 refine tk 6 ((.pointer (some ⟨Z, 1, none⟩))) rfl (fun W hSw => ?_) ?_
 ·skip
  go_simp
 try simp only [layR]
 refine tk 7 ((.int .i64 (m : Int))) rfl (fun W hSw => ?_) ?_
 ·have y9 := hSw.1
  go_simp
 try simp only [layR]
 refine rd 8 rfl (fun K' hK => ?_)
 go_simp
 refine HC.out.mono ?_
 rintro e w3 ⟨rfl, hp3, hk3⟩
 have HK3 := hid ((Kq.of (T := Q) (HB2.out.then_ (below_drew W2))).trans hk3)
 have HP3 := hid hp3
 refine hK.out _ _ (show _ ∧ _ from ⟨(World.cell?_of_block (a := ⟨Z, 1, none⟩) (hk3.block Z hQl HZn.out)).trans HQ.out, (World.cell?_of_block (a := ⟨F, 10, none⟩) (hk3.block F HN2.out.lt HFn.out)).trans HD.out⟩) (fun hS1 => ?_)
 try simp only [layR]
 clear hp3 hk3
 refine tk 9 ((.int .i64 (ptP s.g fi.io.s m : Nat))) rfl (fun _ _ => rfl) ?_
 try simp only [layR]
 refine wpAnyH_done (by kernel_rfl) ?_ _
 refine NoPanic.normal ?_
 clear hS0 hS1
 go_wp2
 go_ret
 exact ⟨rfl, HP3.out, HK3.out⟩
theorem nodAt2_calls {fi : Nf} {F : Nat} (h : PlM NB B Q w P f s) (hN : NfM w F P fi) (hF : ¬ Q F) (hR : Wf s fi.io) {n : Nat} (hn6 : 38 ≤ n) (hn : n < 1062) :
  Calls Tryz.prog 33 #[.pointer (some ⟨F, 0, none⟩), .int .i64 (n : Int)] w (PolAsked NB B Q P f s (.int .i64 (atP s.g fi.io n : Int)) w) := by
 have hS := hid (polSize_calls h)
 have he := way64 (n := n) (by omega)
 obtain ⟨a, b, c⟩ : Ino.wayA 64 (n : Int) = 2 ∧ Ino.wayB 64 (n : Int) = (((n - 38) / 32 : Nat) : Int) ∧ Ino.wayC 64 (n : Int) = (((n - 38) % 32 : Nat) : Int) := by
  rcases Ino.way_forms he with ⟨_, _, _, d⟩ | ⟨_, _, _, _, d⟩ | ⟨a, b, c, d⟩
  ·omega
  ·omega
  ·exact ⟨a, by omega, by omega⟩
 have hT := hid (to_calls 64 (n : Int) w (by omega) (by omega))
 have HW := hid (show wayV 64 (n : Int) = .tuple #[.agg #[.int .i64 2, .int .i64 (((n - 38) / 32 : Nat) : Int), .int .i64 (((n - 38) % 32 : Nat) : Int)], .int .i64 0] by unfold wayV; rw [a, b, c, he])
 have hat : ptP s.g (ptP s.g fi.io.b ((n - 38) / 32)) ((n - 38) % 32) = atP s.g fi.io n := by unfold atP; rw [if_neg (by omega), if_neg (by omega)]
 have hgl := gd_lt h (hR.at_ (n := n) (by omega))
 obtain ⟨m, hm⟩ : ∃ m, m = (n - 38) / 32 := ⟨_, rfl⟩
 obtain ⟨q, hq⟩ : ∃ q, q = (n - 38) % 32 := ⟨_, rfl⟩
 rw [← hm, ← hq] at HW hat
 rw [← hat] at hgl
 rw [← hat]
 have HGl := hid hgl
 have hm32 : m < 32 := by omega
 have hq32 : q < 32 := by omega
 have HN := hid hN
 have hp := hN.p
 have HP := hid h
 have HR := hid hR
 have HFn := hid hF
 clear h hN hR he a b c hm hq hat hgl
 go_enter Tryz.func33, Tryz.ntmps33
 go_wp2_with fail
 refine hS.out.mono ?_
 rintro e w_ ⟨rfl, rfl⟩
 go_wp2_with fail
 refine hT.out.mono ?_
 rintro e w1 ⟨rfl, hb1⟩
 rw [HW.out]
 have HB1 := hid hb1
 have HN1 := hid (HN.out.on hb1)
 have HP1 := hid (HP.out.on hb1)
 clear hb1
 go_upto_region 9 with fail
 have hba := (Below.refl w1.heap.size w1).alloc (Nat.le_refl _) (.cells #[.int .i64 2, .int .i64 (m : Int), .int .i64 (q : Int)] 93)
 have HB2 := hid (HB1.out.then_ hba)
 have HN2 := hid (HN1.out.on hba)
 have HP2 := hid (HP1.out.on hba).drew
 have HQ := hid (Blk.cellv (Blk.new w1 93 #[.int .i64 2, .int .i64 (m : Int), .int .i64 (q : Int)]) (i := 1) rfl)
 have HQ2 := hid (Blk.cellv (Blk.new w1 93 #[.int .i64 2, .int .i64 (m : Int), .int .i64 (q : Int)]) (i := 2) rfl)
 have HQb := hid (Blk.new w1 93 #[.int .i64 2, .int .i64 (m : Int), .int .i64 (q : Int)])
 have HD := hid HN2.out.b
 have HQn := hid HB1.out.size
 clear hp hba
 generalize w1.alloc (.cells #[.int .i64 2, .int .i64 (m : Int), .int .i64 (q : Int)] 93) = W2 at *
 generalize w1.heap.size = Z at *
 have HC := hid (nodPointer_calls HP2.out (F := F) (n := fi.io.b) (k := m) (HN2.out.on (below_drew W2)).p HR.out.wb hm32 (gd_lt HP.out (HR.out.bj m hm32)))
 have HZn := hid (HP.out.not_new HQn.out)
 have hQl : Z < W2.heap.size := (Array.getElem?_eq_some_iff.1 HQb.out).1
 refine wp_region_noPanic ?_
 refine wp_region_held_drew (S := (fun W' => (W'.cell? ⟨Z, 1, none⟩ = some (.int .i64 (m : Int)) ∧ W'.cell? ⟨Z, 2, none⟩ = some (.int .i64 (q : Int))) ∧ W'.cell? ⟨F, 11, none⟩ = some (.int .i64 (fi.io.b : Nat)))) (by kernel_rfl) ⟨⟨HQ.out, HQ2.out⟩, HD.out⟩ (fun hS0 => ?_)
 refine tk 0 ((.pointer (some ⟨F, 0, none⟩))) rfl (fun _ _ => rfl) ?_
 try simp only [layR]
 refine tk 1 ((.pointer (some ⟨F, 0, none⟩))) rfl (fun _ _ => rfl) ?_
 try simp only [layR]
 refine tk 2 ((.pointer (some ⟨F, 0, none⟩))) rfl (fun _ _ => rfl) ?_
 try simp only [layR]
 refine tk 3 ((.pointer (some ⟨F, 0, none⟩))) rfl (fun W hSw => ?_) ?_
 ·skip
  go_simp
 try simp only [layR]
 refine tk 4 ((.pointer (some ⟨F, 1, none⟩))) rfl (fun W hSw => ?_) ?_
 ·skip
  go_simp
 try simp only [layR]
 refine tk 5 ((.pointer (some ⟨F, 11, none⟩))) rfl (fun W hSw => ?_) ?_
 ·skip
  go_simp
 try simp only [layR]
 refine tk 6 ((.int .i64 (fi.io.b : Nat))) rfl (fun W hSw => ?_) ?_
 ·have y9 := hSw.2
  go_simp
 try simp only [layR]
 refine tk 7 ((.pointer (some ⟨Z, 1, none⟩))) rfl (fun W hSw => ?_) ?_
 ·skip
  go_simp
 try simp only [layR]
 refine tk 8 ((.int .i64 (m : Int))) rfl (fun W hSw => ?_) ?_
 ·have y9 := hSw.1.1
  go_simp
 try simp only [layR]
 refine tk 10 ((.pointer (some ⟨Z, 2, none⟩))) rfl (fun W hSw => ?_) ?_
 ·skip
  go_simp
 try simp only [layR]
 refine tk 11 ((.int .i64 (q : Int))) rfl (fun W hSw => ?_) ?_
 ·have y9 := hSw.1.2
  go_simp
 try simp only [layR]
 refine rd 9 rfl (fun K' hK => ?_)
 go_simp
 refine HC.out.mono ?_
 rintro e w3 ⟨rfl, hp3, hk3⟩
 have HK3 := hid ((Kq.of (T := Q) (HB2.out.then_ (below_drew W2))).trans hk3)
 have HP3 := hid hp3
 have HW3 := hid (show W2.heap.size ≤ w3.heap.size from hk3.size)
 have HN3 := hid ((HN2.out.on (below_drew W2)).kq hk3 HFn.out)
 have hS1 : (w3.cell? ⟨Z, 1, none⟩ = some (.int .i64 (m : Int)) ∧ w3.cell? ⟨Z, 2, none⟩ = some (.int .i64 (q : Int))) ∧ w3.cell? ⟨F, 11, none⟩ = some (.int .i64 (fi.io.b : Nat)) :=
  ⟨⟨(World.cell?_of_block (a := ⟨Z, 1, none⟩) (hk3.block Z hQl HZn.out)).trans HQ.out, (World.cell?_of_block (a := ⟨Z, 2, none⟩) (hk3.block Z hQl HZn.out)).trans HQ2.out⟩, (World.cell?_of_block (a := ⟨F, 11, none⟩) (hk3.block F HN2.out.lt HFn.out)).trans HD.out⟩
 refine hK.out _ _ hS1 (fun hS2 => ?_)
 try simp only [layR]
 clear hk3 hp3
 have HC2 := hid (nodPointer_calls HP3.out (F := F) (n := ptP s.g fi.io.b m) (k := q) HN3.out.p (HR.out.bj m hm32) hq32 HGl.out)
 refine rd 12 rfl (fun K' hK => ?_)
 go_simp
 refine HC2.out.mono ?_
 rintro e w4 ⟨rfl, hp4, hk4⟩
 have HK4 := hid (HK3.out.trans hk4)
 have HP4 := hid hp4
 have hS3 : (w4.cell? ⟨Z, 1, none⟩ = some (.int .i64 (m : Int)) ∧ w4.cell? ⟨Z, 2, none⟩ = some (.int .i64 (q : Int))) ∧ w4.cell? ⟨F, 11, none⟩ = some (.int .i64 (fi.io.b : Nat)) := by
  have hQ3 : Z < w3.heap.size := Nat.lt_of_lt_of_le hQl HW3.out
  exact ⟨⟨(World.cell?_of_block (a := ⟨Z, 1, none⟩) (hk4.block Z hQ3 HZn.out)).trans hS1.1.1, (World.cell?_of_block (a := ⟨Z, 2, none⟩) (hk4.block Z hQ3 HZn.out)).trans hS1.1.2⟩, (World.cell?_of_block (a := ⟨F, 11, none⟩) (hk4.block F HN3.out.lt HFn.out)).trans hS1.2⟩
 refine hK.out _ _ hS3 (fun hS4 => ?_)
 try simp only [layR]
 clear hk4 hp4 hS1 hS3
 refine tk 13 ((.int .i64 (ptP s.g (ptP s.g fi.io.b m) q : Nat))) rfl (fun _ _ => rfl) ?_
 try simp only [layR]
 refine wpAnyH_done (by kernel_rfl) ?_ _
 refine NoPanic.normal ?_
 clear hS0 hS2 hS4
 go_wp2
 go_ret
 exact ⟨rfl, HP4.out, HK4.out⟩
theorem nodAt_calls {fi : Nf} {F : Nat} (h : PlM NB B Q w P f s) (hN : NfM w F P fi) (hF : ¬ Q F) (hR : Wf s fi.io) {n : Nat} (hn : n < 1062) :
  Calls Tryz.prog 33 #[.pointer (some ⟨F, 0, none⟩), .int .i64 (n : Int)] w (PolAsked NB B Q P f s (.int .i64 (atP s.g fi.io n : Int)) w) := by
 by_cases h6 : n < 6
 ·exact nodAt0_calls h hN h6
 ·by_cases h38 : n < 38
  ·exact nodAt1_calls h hN hF hR (by omega) h38
  ·exact nodAt2_calls h hN hF hR (by omega) hn
end
end Go.Proofs.YtcppkaphlcflgaaGreat
