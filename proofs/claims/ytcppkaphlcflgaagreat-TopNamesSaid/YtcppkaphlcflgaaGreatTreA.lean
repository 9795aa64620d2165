import Derived.Test.YtcppkaphlcflgaaGreatTreD
import Derived.Test.YtcppkaphlcflgaaGreatNamS
import Derived.Test.YtcppkaphlcflgaaGreatDirKeepM
namespace Go.Proofs.YtcppkaphlcflgaaGreat
open Lib (hid)
set_option maxRecDepth 100000
set_option maxHeartbeats 16000000
section
open Go.RowKit Pol
variable {NB B P T : Nat} {Q : Nat → Prop} {w w' : World} {f : Fm} {s : Ps} {fi : Nf} {n : Nat} {X : List UInt8}

structure DirOk (s : Ps) (n : Nat) (fi : Nf) (X : List UInt8) : Prop where
 lo : 1 ≤ n
 hi : n ≤ s.ino
 big : s.ino ≤ 100000
 pg : (n - 1) / 2 < s.tb
 nd : ind s n = nodOf fi
 er : indE s n = 0
 k2 : fi.k = 2
 z : fi.s = (X.length : Int)
 z2 : X.length ≤ 67968
 wf : Nod.Wf s fi.io
 rd : ∀ off, off < X.length → Nod.rdS 20 s fi.io off (off + min 1024 (X.length - off)) = (X.drop off).take (min 1024 (X.length - off))
theorem treDirO_calls (h : PlM NB B Q w P f s) (hT : TrB w T P) (hTQ : ¬ Q T) (d : DirOk s n fi X) :
  Calls Tryz.prog 49 #[.pointer (some ⟨T, 0, none⟩), .int .i64 (n : Int)] w fun e w' => (∃ v, e = .returned (.tuple #[nfV fi, v, .int .i64 0]) ∧ Own byteV 5 w' w.heap.size v X) ∧ PlM NB B Q w' P f s ∧ Kq Q w w' :=
 treDir_calls h hT hTQ d.lo d.hi d.big d.pg d.nd d.er d.k2 d.z d.z2 d.wf rfl d.rd
theorem treBytes_calls (h : PlM NB B Q w P f s) (hT : TrB w T P) (hTQ : ¬ Q T) (d : DirOk s n fi X) :
  Calls Tryz.prog 55 #[.pointer (some ⟨T, 0, none⟩), .int .i64 (n : Int)] w fun e w' => (∃ v, e = .returned (.tuple #[v, .int .i64 0]) ∧ Own byteV 5 w' w.heap.size v X) ∧ PlM NB B Q w' P f s ∧ Kq Q w w' := by
 have HD := hid (treDirO_calls h hT hTQ d)
 unfold nfV nfC at HD
 clear h hT hTQ d
 go_enter Tryz.func55, Tryz.ntmps55
 go_wp2_with fail
 refine HD.out.mono ?_
 rintro e W2 ⟨⟨v, rfl, ho⟩, hp, hk⟩
 have HO := hid ho
 have HP := hid hp
 have HK := hid hk
 clear ho hp hk HD
 have HN2 := hid (Blk.new W2 35 #[.int .i64 0, .int .i64 0, .int .i64 0, .int .i64 0, .int .i64 0, .int .i64 0, .int .i64 0, .int .i64 0, .int .i64 0, .int .i64 0, .int .i64 0])
 have hb3 : Below W2.heap.size W2 ((W2.alloc (.cells #[.int .i64 0, .int .i64 0, .int .i64 0, .int .i64 0, .int .i64 0, .int .i64 0, .int .i64 0, .int .i64 0, .int .i64 0, .int .i64 0, .int .i64 0] 35)).setRow W2.heap.size #[.int .i64 fi.k, .int .i64 fi.l, .int .i64 fi.s, .int .i64 (nd fi 0), .int .i64 (nd fi 1), .int .i64 (nd fi 2), .int .i64 (nd fi 3), .int .i64 (nd fi 4), .int .i64 (nd fi 5), .int .i64 (fi.io.s : Int), .int .i64 (fi.io.b : Int)]) := ((Below.refl _ W2).alloc (Nat.le_refl _) _).setRow_ (Nat.le_refl _) _
 have HB3 := hid hb3
 clear hb3
 go_wp2_with (refine wpList_store_blk rfl rfl _ _ _ rfl W2.heap.size #[.int .i64 fi.k, .int .i64 fi.l, .int .i64 fi.s, .int .i64 (nd fi 0), .int .i64 (nd fi 1), .int .i64 (nd fi 2), .int .i64 (nd fi 3), .int .i64 (nd fi 4), .int .i64 (nd fi 5), .int .i64 (fi.io.s : Int), .int .i64 (fi.io.b : Int)] rfl rfl 35 #[.int .i64 0, .int .i64 0, .int .i64 0, .int .i64 0, .int .i64 0, .int .i64 0, .int .i64 0, .int .i64 0, .int .i64 0, .int .i64 0, .int .i64 0] HN2.out rfl nodInfo (nfOne fi) ?_)
 go_ret2
 exact ⟨⟨v, rfl, HO.out.on HB3.out⟩, HP.out.on HB3.out, HK.out.on HB3.out⟩
theorem treFind_calls (h : PlM NB B Q w P f s) (hT : TrB w T P) (hTQ : ¬ Q T) (d : DirOk s n fi X) (nm : List UInt8) (hf : 0 ≤ (Dir.findR X nm).1) :
  Calls Tryz.prog 20 #[.pointer (some ⟨T, 0, none⟩), .int .i64 (n : Int), .string (strL nm)] w fun e w' => e = .returned (.tuple #[.int .i64 (Dir.findR X nm).2, .int .i64 0]) ∧ PlM NB B Q w' P f s ∧ Kq Q w w' := by
 have HD := hid (treBytes_calls h hT hTQ d)
 have HZ := hid d.z2
 have g1 : ¬ (Dir.findR X nm).1 < 0 := by omega
 clear h hT hTQ d hf
 go_enter Tryz.func20, Tryz.ntmps20
 go_wp2_with fail
 refine HD.out.mono ?_
 rintro e W2 ⟨⟨v, rfl, ho⟩, hp, hk⟩
 obtain ⟨a, c, rfl, hc⟩ := ho.formN rfl
 have HX := hid (ho.arr (by have := HZ.out; omega))
 have HC := hid hc
 have HP := hid hp
 have HK := hid hk
 clear ho hp hk HD hc
 go_wp2_with fail
 refine (find_calls a _ c X nm W2 HX.out HC.out).mono ?_
 rintro e W3 ⟨rfl, hb⟩
 have HB := hid hb
 clear hb
 obtain ⟨r, hr⟩ : ∃ r, r = Dir.findR X nm := ⟨_, rfl⟩
 rw [← hr] at g1 ⊢
 have HR := hid hr
 clear hr
 go_wp2
 go_ret2
 exact ⟨by rw [← HR.out]; rfl, HP.out.on HB.out, HK.out.on HB.out⟩
end
section
open Go.RowKit Pol
variable {NB B P T : Nat} {Q : Nat → Prop} {w w' : World} {f : Fm} {s : Ps} {n : Nat}

theorem treOpen_calls (w : World) (P : Nat) : Calls Tryz.prog 15 #[.pointer (some ⟨P, 0, none⟩)] w fun e w' => e = .returned (.tuple #[.pointer (some ⟨w.heap.size, 0, none⟩), .int .i64 0]) ∧ TrB w' w.heap.size P ∧ Below w.heap.size w w' := by
 have HN := hid (show TrB (w.alloc (.cells #[.pointer (some ⟨P, 0, none⟩)] 106)) w.heap.size P from Blk.new w _ _)
 have HB := hid ((Below.refl w.heap.size w).alloc (Nat.le_refl _) (.cells #[.pointer (some ⟨P, 0, none⟩)] 106))
 go_enter Tryz.func15, Tryz.ntmps15
 go_wp2
 go_ret2
 exact ⟨rfl, HN.out, HB.out⟩
theorem treFree_calls {m : Nat} (h : PlM NB B Q w P f s) (hT : TrB w T P) (hTQ : ¬ Q T) (h1 : 1 ≤ m) (h2 : m ≤ s.ino) (h3 : s.ino ≤ 100000) (h4 : (m - 1) / 2 < s.tb)
  (hF : ∀ j, 1 ≤ j → j < m → indE s j = 0 ∧ (ind s j).k ≠ 0) (hM : indE s m = 0 ∧ (ind s m).k = 0) :
  Calls Tryz.prog 47 #[.pointer (some ⟨T, 0, none⟩)] w fun e w' => e = .returned (.int .i64 (m : Int)) ∧ PlM NB B Q w' P f s ∧ Kq Q w w' := by
 have HP := hid h
 have HT := hid hT
 have HTQ := hid hTQ
 have HI := hid (show ∀ (W : World) (j : Nat), PlM NB B Q W P f s → TrB W T P → 1 ≤ j → j ≤ m → Calls Tryz.prog 22 #[.pointer (some ⟨T, 0, none⟩), .int .i64 (j : Int)] W fun e w' => e = .returned (.tuple #[nodV (ind s j), .int .i64 0]) ∧ PlM NB B Q w' P f s ∧ Kq Q W w' from fun W j hW hT hj1 hj2 => by
  have h := treInode_calls hW hT hj1 (by omega) h3 (n := j) (by omega)
  have he : indE s j = 0 := by
   by_cases e : j = m
   ·rw [e]; exact hM.1
   ·exact (hF j hj1 (by omega)).1
  rw [he] at h
  exact h)
 have HF := hid hF
 have HM := hid hM
 have HB := hid (show m ≤ s.ino ∧ s.ino ≤ 100000 from ⟨h2, h3⟩)
 have qf := layF3 (.int .i64 (s.tb : Int)) (.int .i64 ((s.tb : Int) + 1)) (.int .i64 (s.np : Int)) (.int .i64 (s.ino : Int))
 clear h hT hTQ hF hM h2 h3 h4
 go_enter Tryz.func47, Tryz.ntmps47
 go_wp2_with fail
 go_loopw [3, 4, 5] (fun v3 _ _ wr => ∃ j : Nat, v3 = .int .i64 (j : Int) ∧ 1 ≤ j ∧ j ≤ m ∧ Hid (PlM NB B Q wr P f s) ∧ Hid (Kq Q w wr)) (fun v3 _ _ _ => m - (intOf v3).toNat)
 case atStart => exact ⟨1, rfl, Nat.le_refl _, h1, HP, hid (Kq.refl _ _)⟩
 case round =>
  obtain ⟨j, rfl, hj1, hj2, HPr, HKr⟩ := hrel
  have hbb := HB.out
  have g1 : (j : Int) ≤ (s.ino : Int) := by omega
  have HTr := hid (HT.out.kq HKr.out HTQ.out)
  have c0 := HTr.out.c0
  have q9 := IntWalk.i64_in ((j : Int) + 1) ⟨by omega, by omega⟩
  clear hbb
  go_wp2_with fail
  refine (polLayout_calls HPr.out).mono ?_
  rintro e W1 ⟨rfl, hb1⟩
  have HP1 := hid (HPr.out.on hb1)
  have HK1 := hid (HKr.out.on hb1)
  have HT1 := hid (HTr.out.on hb1)
  clear hb1 c0
  go_wp2_with fail
  refine (HI.out W1 j HP1.out HT1.out hj1 hj2).mono ?_
  rintro e W2 ⟨rfl, hp2, hk2⟩
  obtain ⟨r, hr⟩ : ∃ r, r = ind s j := ⟨_, rfl⟩
  rw [← hr]
  have HRr := hid hr
  have HN := hid (Blk.new W2 35 #[.int .i64 0, .int .i64 0, .int .i64 0, .int .i64 0, .int .i64 0, .int .i64 0, .int .i64 0, .int .i64 0, .int .i64 0, .int .i64 0, .int .i64 0])
  obtain ⟨W3, hW3⟩ : ∃ W3, W3 = (W2.alloc (.cells #[.int .i64 0, .int .i64 0, .int .i64 0, .int .i64 0, .int .i64 0, .int .i64 0, .int .i64 0, .int .i64 0, .int .i64 0, .int .i64 0, .int .i64 0] 35)).setRow W2.heap.size #[.int .i64 r.k, .int .i64 r.l, .int .i64 r.s, .int .i64 r.d0, .int .i64 r.d1, .int .i64 r.d2, .int .i64 r.d3, .int .i64 r.d4, .int .i64 r.d5, .int .i64 r.a, .int .i64 r.b] := ⟨_, rfl⟩
  have hb3 : Below W2.heap.size W2 W3 := by rw [hW3]; exact ((Below.refl _ W2).alloc (Nat.le_refl _) _).setRow_ (Nat.le_refl _) _
  have hi3 : Blk W3 W2.heap.size 35 #[.int .i64 r.k, .int .i64 r.l, .int .i64 r.s, .int .i64 r.d0, .int .i64 r.d1, .int .i64 r.d2, .int .i64 r.d3, .int .i64 r.d4, .int .i64 r.d5, .int .i64 r.a, .int .i64 r.b] := by rw [hW3]; exact HN.out.row _
  have y0 := hi3.cellv (i := 0) (v := .int .i64 r.k) rfl
  have HW3 := hid hW3
  have HP3 := hid (hp2.on hb3)
  have HK3 := hid ((HK1.out.trans hk2).on hb3)
  clear hr hp2 hk2 hb3 hi3 hW3
  by_cases hjm : j < m
  ·have g2 : (r.k == 0) = false := by rw [beq_eq_false_iff_ne, HRr.out]; exact (HF.out j hj1 hjm).2
   go_wp2_with (refine wpList_store_blk rfl rfl _ _ _ rfl W2.heap.size #[.int .i64 r.k, .int .i64 r.l, .int .i64 r.s, .int .i64 r.d0, .int .i64 r.d1, .int .i64 r.d2, .int .i64 r.d3, .int .i64 r.d4, .int .i64 r.d5, .int .i64 r.a, .int .i64 r.b] rfl rfl 35 #[.int .i64 0, .int .i64 0, .int .i64 0, .int .i64 0, .int .i64 0, .int .i64 0, .int .i64 0, .int .i64 0, .int .i64 0, .int .i64 0, .int .i64 0] HN.out rfl nodInfo (nodOne r) ?_; rw [← HW3.out])
   go_roundw
   case rel => exact ⟨j + 1, by go_num, by omega, by omega, HP3, HK3⟩
   case measure => simp [intOf]; omega
  ·obtain rfl : j = m := by omega
   have g2 : (r.k == 0) = true := by rw [beq_iff_eq, HRr.out]; exact HM.out.2
   go_wp2_with (refine wpList_store_blk rfl rfl _ _ _ rfl W2.heap.size #[.int .i64 r.k, .int .i64 r.l, .int .i64 r.s, .int .i64 r.d0, .int .i64 r.d1, .int .i64 r.d2, .int .i64 r.d3, .int .i64 r.d4, .int .i64 r.d5, .int .i64 r.a, .int .i64 r.b] rfl rfl 35 #[.int .i64 0, .int .i64 0, .int .i64 0, .int .i64 0, .int .i64 0, .int .i64 0, .int .i64 0, .int .i64 0, .int .i64 0, .int .i64 0, .int .i64 0] HN.out rfl nodInfo (nodOne r) ?_; rw [← HW3.out])
   go_ret
   exact ⟨rfl, HP3.out, HK3.out⟩
theorem right_new {kd : Int} (hk : kd = 1 ∨ kd = 2) : Nod.Right ⟨kd, 0, 0, 0, 0, 0, 0, 0, 0, 0, 0⟩ := by
 rw [Nod.right_used (by show kd ≠ 0; omega)]
 unfold Nod.Used Nod.Dirs Nod.Pg
 simp only
 omega
theorem treMake_calls {m : Nat} {kd : Int} (hkd : kd = 1 ∨ kd = 2) (h : PlM NB B Q w P f s) (hT : TrB w T P) (hTQ : ¬ Q T) (h1 : 1 ≤ m) (h2 : m ≤ s.ino) (h3 : s.ino ≤ 100000) (h4 : (m - 1) / 2 < s.tb)
  (hF : ∀ j, 1 ≤ j → j < m → indE s j = 0 ∧ (ind s j).k ≠ 0) (hM : indE s m = 0 ∧ (ind s m).k = 0) :
  Calls Tryz.prog 16 #[.pointer (some ⟨T, 0, none⟩), .int .i64 kd] w fun e w' => e = .returned (.tuple #[.int .i64 (m : Int), .int .i64 0]) ∧ PlR NB B Q w w' P f (setI s m ⟨kd, 0, 0, 0, 0, 0, 0, 0, 0, 0, 0⟩) := by
 have HFr := hid (treFree_calls h hT hTQ h1 h2 h3 h4 hF hM)
 have HSt := hid (show ∀ W : World, PlM NB B Q W P f s → TrB W T P → Calls Tryz.prog 48 #[.pointer (some ⟨T, 0, none⟩), .int .i64 (m : Int), nodV ⟨kd, 0, 0, 0, 0, 0, 0, 0, 0, 0, 0⟩] W fun e w' => e = .returned (.int .i64 0) ∧ PlR NB B Q W w' P f (setI s m ⟨kd, 0, 0, 0, 0, 0, 0, 0, 0, 0, 0⟩) from fun W hW hT => treSet_calls hW hT hTQ h1 h2 h3 h4 _ (right_new hkd))
 have HBs := hid h.base
 have HTQ := hid hTQ
 have HT := hid hT
 have g1 : ((m : Int) == 0) = false := by rw [beq_eq_false_iff_ne]; omega
 have hg : kd = 1 ∨ kd = 2 := hkd
 clear h hT hTQ hF hM h1 h2 h3 h4 hkd
 go_enter Tryz.func16, Tryz.ntmps16
 rcases hg with rfl | rfl
 all_goals
  go_wp2_with fail
  refine HFr.out.mono ?_
  rintro e W2 ⟨rfl, hp, hk⟩
  have HP := hid hp
  have HK := hid hk
  have HT2 := hid (HT.out.kq hk HTQ.out)
  clear hp hk
  go_wp2_with fail
  refine (HSt.out W2 HP.out HT2.out).mono ?_
  rintro e W3 ⟨rfl, hp3⟩
  have HP3 := hid (PlR.behind HK.out hp3 HBs.out)
  clear hp3
  go_wp2
  go_ret2
  exact ⟨rfl, HP3.out⟩
end
section
open Go.RowKit Pol
variable {NB B P T : Nat} {Q : Nat → Prop} {w w' : World} {f : Fm} {s : Ps} {fi : Nf} {n : Nat} {X : List UInt8}

theorem step_storeT {P : Program} {ops : Array Oper} {o : Oper} {a : Act} {w : World} {K : Act → World → Prop} {Q : Exit → Act → World → Prop} {E : Prop} (hgd : o.guard = none) (ty : TypeId) (x y : Operand) (ho : o.op = .store ty x y)
  (g : Nat) (cells : Array Value) (hx : a.eval x = .pointer (some ⟨g, 0, none⟩)) (hy : a.eval y = .agg cells)
  (t : TypeId) (old : Array Value) (hg : Blk w g t old) (hi : (P.info? ty).map (·.size) = some cells.size)
  (hold : old.size = cells.size) (h1 : cells.all (·.oneCell') = true)
  (h : K (a.put o.dst undef) (w.setRow g cells)) : if Region.wanted o (yielded ops a.tmps) = true then Oper.wp P o a w K Q else E := by
 have hw : Region.wanted o (yielded ops a.tmps) = true := by simp [Region.wanted, hgd]
 rw [if_pos hw]
 exact wp_store_row ty x y ho g cells hx hy t old hg hi hold h1 h
theorem treWrite_calls {fi' : Nf} {s' : Ps} {k c : Nat} {sl : List UInt8} {a : Option Addr} {mo : Int} (h : PlM NB B Q w P f s) (hT : TrB w T P) (hTQ : ¬ Q T) (h1 : 1 ≤ n) (h2 : n ≤ s.ino) (h3 : s.ino ≤ 100000) (h4 : (n - 1) / 2 < s.tb)
  (hw : Nod.Wf s fi.io) (hx : Bytes w w.heap.size a 16 sl) (hc : 16 ≤ c) (hk : 16 * k + 16 ≤ 67968) (hmore : Room.moreR 64 (numsI (Nod.yl s.g fi.io)) ((16 * k / 64 : Nat) : Int) (((16 * k + 16 + 63) / 64 : Nat) : Int) = (mo, 0)) (hmo : mo ≤ (s.np : Int) - (s.us.length : Int))
  (hok : Nod.WrOk 1 s fi.io (16 * k) sl) (hqa : ∀ bl o, a = some ⟨bl, o, none⟩ → ¬ Q bl ∧ bl < w.heap.size) (hs : s' = (Nod.wrS 1 s fi.io (16 * k) sl).1) (hf : fi' = withS fi (max fi.s ((16 * k + 16 : Nat) : Int)) (Nod.wrS 1 s fi.io (16 * k) sl).2)
  (htb : s'.tb = s.tb) (hino : s'.ino = s.ino) (hr : Nod.Right (nodOf fi')) :
  Calls Tryz.prog 53 #[.pointer (some ⟨T, 0, none⟩), .int .i64 (n : Int), nfV fi, .int .i64 (k : Int), .slice a 16 c] w fun e w' => e = .returned (.int .i64 0) ∧ PlR NB B Q w w' P f (setI s' n (nodOf fi')) := by
 have hlen := hx.len
 have hb := (Below.refl w.heap.size w).alloc (Nat.le_refl _) (.cells (nfC fi) 35)
 have HP1 := hid (h.on hb)
 have HT0 := hid hT
 have HTl := hid hT.lt
 have HT1 := hid (hT.on hb)
 have HX1 := hid (hx.on hb)
 have HL1 := hid (Blk.new w 35 (nfC fi))
 have HTQ := hid hTQ
 have HH := hid h
 have HBs := hid h.base
 have HB := hid hb
 have HWc := hid (show ∀ W : World, PlM NB B Q W P f s → Bytes W W.heap.size a 16 sl → w.heap.size ≤ W.heap.size → Calls Tryz.prog 7 #[.pointer (some ⟨P, 0, none⟩), .agg (nfC fi), .int .i64 ((k : Int) * 16), .slice a 16 c] W fun e w' => e = .returned (.tuple #[.agg (nfC fi'), .int .i64 0]) ∧ PlR NB B Q W w' P f s' from fun W hW hX hsz => by
  have h := nodWrite_calls (fuel := 1) (off := 16 * k) hW hw hX hc (fun e => by rw [e] at hlen; cases hlen) (by omega) hk hmore hmo hok fun bl o e => ⟨(hqa bl o e).1, by have := (hqa bl o e).2; omega⟩
  rw [← hs, ← hf] at h
  rw [show (k : Int) * 16 = ((16 * k : Nat) : Int) from by omega]
  exact h)
 have HSt := hid (show ∀ (W : World) (U : Nat → Prop), PlM NB B U W P f s' → TrB W T P → ¬ U T → Calls Tryz.prog 48 #[.pointer (some ⟨T, 0, none⟩), .int .i64 (n : Int), .agg (nfC fi')] W fun e w' => e = .returned (.int .i64 0) ∧ PlR NB B U W w' P f (setI s' n (nodOf fi')) from fun W U hW hT hU =>
  treSet_calls hW hT hU h1 (by rw [hino]; exact h2) (by rw [hino]; exact h3) (by rw [htb]; exact h4) (nodOf fi') hr)
 have q1 := IntWalk.i64_in ((k : Int) * 16) ⟨by omega, by omega⟩
 have hone : (nfC fi').all (·.oneCell') = true := nfOne fi'
 clear h hT hTQ hb hx hw hmore hmo hok hqa hs hf htb hino hr hlen h1 h2 h3 h4 hk
 unfold nfV
 go_enter Tryz.func53, Tryz.ntmps53
 go_upto_region 1 with fail
 generalize w.alloc (.cells (nfC fi) 35) = W1 at *
 have HPd := hid (HP1.out.on (below_drew W1))
 have HTd := hid (HT1.out.on (below_drew W1))
 have HLd := hid (HL1.out.belowHere (below_drew W1))
 have HXd := hid (HX1.out.on (below_drew W1))
 have HBd := hid (HB.out.then_ (below_drew W1))
 have HSf := hid (fun W (h1 : TrB W T P) (h2 : Blk W w.heap.size 35 (nfC fi)) => (⟨h1.c0, h2⟩ : W.cell? ⟨T, 0, none⟩ = some (.pointer (some ⟨P, 0, none⟩)) ∧ Blk W w.heap.size 35 (nfC fi)))
 refine wp_region_noPanic ?_
 refine wp_region_held_drew (S := (fun W' => W'.cell? ⟨T, 0, none⟩ = some (.pointer (some ⟨P, 0, none⟩)) ∧ Blk W' w.heap.size 35 (nfC fi))) (by kernel_rfl) (HSf.out _ HTd.out HLd.out) (fun hS0 => ?_)
 generalize W1.drew = W0 at *
 refine tk 0 ((.pointer (some ⟨T, 0, none⟩))) rfl (fun _ _ => rfl) ?_
 try simp only [layR]
 refine tk 1 ((.pointer (some ⟨T, 0, none⟩))) rfl (fun W hSw => ?_) ?_
 ·skip
  go_simp
 try simp only [layR]
 refine tk 2 ((.pointer (some ⟨T, 0, none⟩))) rfl (fun W hSw => ?_) ?_
 ·skip
  go_simp
 try simp only [layR]
 refine tk 3 ((.pointer (some ⟨P, 0, none⟩))) rfl (fun W hSw => ?_) ?_
 ·have y0 := hSw.1
  go_simp
 try simp only [layR]
 refine tk 4 ((.agg (nfC fi))) rfl (fun W hSw => ?_) ?_
 ·obtain ⟨y0, y1, y2, y3, y4, y5, y6, y7, y8, y9, y10⟩ := nfc_cells hSw.2; unfold nfC
  go_simp
 try simp only [layR]
 refine tk 5 ((.int .i64 (k : Int))) rfl (fun _ _ => rfl) ?_
 try simp only [layR]
 refine tk 6 ((.int .i64 ((k : Int) * 16))) rfl (fun W hSw => ?_) ?_
 ·skip
  go_simp
 try simp only [layR]
 refine tk 7 ((.slice a 16 c)) rfl (fun _ _ => rfl) ?_
 try simp only [layR]
 refine wpAnyH_ready (rs := [8, 12]) (by kernel_rfl) (by simp) ?_
 refine AllReadyH.cons rfl (fun K' hK => ?_) (AllReadyH.cons rfl (fun K' hK => ?_) (AllReadyH.nil))
 ·go_simp
  refine (HWc.out W0 HPd.out HXd.out HBd.out.size).mono ?_
  rintro e W2 ⟨rfl, hp2⟩
  have HP2 := hid hp2
  have HT2 := hid (HTd.out.kq hp2.2 HTQ.out)
  have HL2 := hid (HLd.out.kq hp2.2 (HH.out.not_new (Nat.le_refl _)))
  clear hp2
  refine hK.out _ _ (HSf.out _ HT2.out HL2.out) (fun hS2 => ?_)
  try simp only [layR]
  refine tk 9 ((.tuple #[.agg (nfC fi'), .int .i64 0])) rfl (fun _ _ => rfl) ?_
  try simp only [layR]
  refine tk 10 ((.agg (nfC fi'))) rfl (fun _ _ => rfl) ?_
  try simp only [layR]
  refine tk 11 ((.int .i64 0)) rfl (fun _ _ => rfl) ?_
  try simp only [layR]
  refine rd 12 rfl (fun K' hK => ?_)
  go_simp
  have hb3 := (Below.refl W2.heap.size W2).alloc (Nat.le_refl _) (.cells #[.int .i64 0, .int .i64 0, .int .i64 0, .int .i64 0, .int .i64 0, .int .i64 0, .int .i64 0, .int .i64 0, .int .i64 0, .int .i64 0, .int .i64 0] 35)
  have HN3 := hid (Blk.new W2 35 #[.int .i64 0, .int .i64 0, .int .i64 0, .int .i64 0, .int .i64 0, .int .i64 0, .int .i64 0, .int .i64 0, .int .i64 0, .int .i64 0, .int .i64 0])
  have HT3 := hid (HT2.out.on hb3)
  have HL3 := hid (HL2.out.belowHere hb3)
  have HB4 := hid (hb3.setRow_ (Nat.le_refl _) (nfC fi'))
  clear hb3
  refine hK.out _ _ (HSf.out _ HT3.out HL3.out) (fun hS3 => ?_)
  try simp only [layR]
  refine rd 13 rfl (fun K' hK => ?_)
  refine step_storeT rfl _ _ _ rfl (W2.heap.size) (nfC fi') rfl rfl 35 _ HN3.out nfInfo rfl hone ?_
  have HI4 := hid (HN3.out.row (nfC fi'))
  have HT4 := hid (HT2.out.on HB4.out)
  have HL4 := hid (HL2.out.belowHere HB4.out)
  have HP4 := hid (PlR.behind (Kq.of HBd.out) (HP2.out.on HB4.out HPd.out.base) HBs.out)
  generalize (W2.alloc (.cells #[.int .i64 0, .int .i64 0, .int .i64 0, .int .i64 0, .int .i64 0, .int .i64 0, .int .i64 0, .int .i64 0, .int .i64 0, .int .i64 0, .int .i64 0] 35)).setRow W2.heap.size (nfC fi') = W4 at *
  refine hK.out _ _ (HSf.out _ HT4.out HL4.out) (fun hS4 => ?_)
  try simp only [layR]
  refine tk 14 ((.int .i64 0)) rfl (fun _ _ => rfl) ?_
  refine wpAnyH_done (by kernel_rfl) ?_ _
  refine NoPanic.normal ?_
  clear hS0 hS2 hS3 hS4 hone
  obtain ⟨y0, y1, y2, y3, y4, y5, y6, y7, y8, y9, y10⟩ := nfc_cells HI4.out
  have HSt2 := hid (HSt.out W4 _ HP4.out.1 HT4.out fun h => HTQ.out (up_of h HTl.out))
  unfold nfC at HSt2
  go_wp2_with fail
  refine HSt2.out.mono ?_
  rintro e W5 ⟨rfl, hp5⟩
  have HP5 := hid (HP4.out.then_ hp5)
  clear hp5 y0 y1 y2 y3 y4 y5 y6 y7 y8 y9 y10
  go_wp2
  go_ret
  exact ⟨rfl, HP5.out⟩
 ·go_simp
  have hb3 := (Below.refl W0.heap.size W0).alloc (Nat.le_refl _) (.cells #[.int .i64 0, .int .i64 0, .int .i64 0, .int .i64 0, .int .i64 0, .int .i64 0, .int .i64 0, .int .i64 0, .int .i64 0, .int .i64 0, .int .i64 0] 35)
  have HN3 := hid (Blk.new W0 35 #[.int .i64 0, .int .i64 0, .int .i64 0, .int .i64 0, .int .i64 0, .int .i64 0, .int .i64 0, .int .i64 0, .int .i64 0, .int .i64 0, .int .i64 0])
  have HT3 := hid (HTd.out.on hb3)
  have HL3 := hid (HLd.out.belowHere hb3)
  have HP3 := hid (HPd.out.on hb3)
  have HX3 := hid (HXd.out.on hb3)
  have HB3 := hid (HBd.out.then_ hb3)
  have HJQ := hid (HPd.out.not_new (Nat.le_refl _))
  obtain ⟨J, hJ⟩ : ∃ J, J = W0.heap.size := ⟨_, rfl⟩
  have HJw := hid (show w.heap.size ≤ J from by rw [hJ]; exact HBd.out.size)
  rw [← hJ] at HN3 HJQ
  have HJ := hid hJ
  clear hb3
  refine hK.out _ _ (HSf.out _ HT3.out HL3.out) (fun hS3 => ?_)
  try simp only [layR]
  rw [← hJ]
  clear hJ
  generalize W0.alloc (.cells #[.int .i64 0, .int .i64 0, .int .i64 0, .int .i64 0, .int .i64 0, .int .i64 0, .int .i64 0, .int .i64 0, .int .i64 0, .int .i64 0, .int .i64 0] 35) = W3 at *
  refine rd 8 rfl (fun K' hK => ?_)
  go_simp
  refine (HWc.out W3 HP3.out HX3.out HB3.out.size).mono ?_
  rintro e W2 ⟨rfl, hp2⟩
  have HP2 := hid hp2
  have HT2 := hid (HT3.out.kq hp2.2 HTQ.out)
  have HL2 := hid (HL3.out.kq hp2.2 (HH.out.not_new (Nat.le_refl _)))
  have HN2 := hid (HN3.out.kq hp2.2 HJQ.out)
  clear hp2
  refine hK.out _ _ (HSf.out _ HT2.out HL2.out) (fun hS2 => ?_)
  try simp only [layR]
  refine tk 9 ((.tuple #[.agg (nfC fi'), .int .i64 0])) rfl (fun _ _ => rfl) ?_
  try simp only [layR]
  refine tk 10 ((.agg (nfC fi'))) rfl (fun _ _ => rfl) ?_
  try simp only [layR]
  refine tk 11 ((.int .i64 0)) rfl (fun _ _ => rfl) ?_
  try simp only [layR]
  refine rd 13 rfl (fun K' hK => ?_)
  refine step_storeT rfl _ _ _ rfl J (nfC fi') rfl rfl 35 _ HN2.out nfInfo rfl hone ?_
  have hkr := kq_rowOne W2 J (nfC fi')
  have HI4 := hid (HN2.out.row (nfC fi'))
  have HT4 := hid (HT2.out.kq hkr fun e => by have := HTl.out; have := HJw.out; omega)
  have HL4 := hid (show Blk (W2.setRow J (nfC fi')) w.heap.size 35 (nfC fi) from HL2.out.kq hkr fun e => by have := HL1.out.lt; have := HJ.out; have := HLd.out.lt; omega)
  have HP4 := hid (HH.out.fin (HP2.out.1.kq hkr fun q hq e => by
   subst e
   exact HJQ.out (up_of hq HN3.out.lt)) (fun q hq => by
   rcases hq with h1 | h1
   ·exact .inl h1
   ·exact .inr (by have := HB3.out.size; omega)) (((Kq.of (T := Q) HB3.out).trans HP2.out.2).then_ hkr fun q e => .inr (by have := HJw.out; omega)) fun q hq => .inl hq)
  clear hkr
  generalize W2.setRow J (nfC fi') = W4 at *
  refine hK.out _ _ (HSf.out _ HT4.out HL4.out) (fun hS4 => ?_)
  try simp only [layR]
  refine tk 14 ((.int .i64 0)) rfl (fun _ _ => rfl) ?_
  refine wpAnyH_done (by kernel_rfl) ?_ _
  refine NoPanic.normal ?_
  clear hS0 hS2 hS3 hS4 hone
  obtain ⟨y0, y1, y2, y3, y4, y5, y6, y7, y8, y9, y10⟩ := nfc_cells HI4.out
  have HSt2 := hid (HSt.out W4 _ HP4.out.1 HT4.out fun h => HTQ.out (up_of h HTl.out))
  unfold nfC at HSt2
  go_wp2_with fail
  refine HSt2.out.mono ?_
  rintro e W5 ⟨rfl, hp5⟩
  have HP5 := hid (HP4.out.then_ hp5)
  clear hp5 y0 y1 y2 y3 y4 y5 y6 y7 y8 y9 y10
  go_wp2
  go_ret
  exact ⟨rfl, HP5.out⟩
end
section
open Pol Spr
namespace Nam
def fileN : Nod := ⟨1, 0, 0, 0, 0, 0, 0, 0, 0, 0, 0⟩
def pgN (z : Nat) : Nat := (z + 63) / 64
structure Ds (s : Ps) (fi : Nf) (X : List UInt8) : Prop where
 df : Df (s.g 1) s fi.io (pgN X.length) X
 ino : s.ino = 4
 k2 : fi.k = 2
 l0 : fi.l = 0
 z : fi.s = (X.length : Int)
 i1 : ind s 1 = nodOf fi ∧ indE s 1 = 0
 i2 : ind s 2 = fileN ∧ indE s 2 = 0
 mod : X.length % 16 = 0
 le : X.length ≤ 1600
variable {s : Ps} {fi : Nf} {X : List UInt8}
theorem Ds.dirOk (h : Ds s fi X) : DirOk s 1 fi X := by
 have hle := h.le
 refine ⟨by omega, by rw [h.ino]; omega, by rw [h.ino]; omega, by rw [h.df.tb]; omega, h.i1.1, h.i1.2, h.k2, h.z, by omega, h.df.wf, fun off ho => ?_⟩
 have := h.df.rd (by unfold pgN; omega) 20 off (off + min 1024 (X.length - off)) (by omega) (by omega) (by omega)
 rw [this, Nat.add_sub_cancel_left]
theorem Df.right {T1 : List UInt8} {M : Nat} {B : List UInt8} {s : Ps} {fi : Nf} (h : Df T1 s fi.io M B) (hk : fi.k = 2) (hl : fi.l = 0) (hz : 0 ≤ fi.s) (hz2 : fi.s ≤ 2000) : Nod.Right (nodOf fi) := by
 have hM := h.hM
 have hd : ∀ k, k < 6 → 0 ≤ nd fi k ∧ nd fi k < 100 := fun k hk => by
  unfold nd
  rw [h.d k hk]
  split
  ·rename_i h1
   have := adr_hi h1
   unfold cnt at this
   split at this <;> omega
  ·omega
 have hs : fi.io.s ≤ 10 := by rw [h.si]; split <;> omega
 have hb := h.b
 have d0 := hd 0 (by omega)
 have d1 := hd 1 (by omega)
 have d2 := hd 2 (by omega)
 have d3 := hd 3 (by omega)
 have d4 := hd 4 (by omega)
 have d5 := hd 5 (by omega)
 rw [Nod.right_used (i := nodOf fi) (by show fi.k ≠ 0; omega)]
 unfold Nod.Used Nod.Dirs Nod.Pg nodOf
 simp only
 omega
theorem pointS_ino (s : Ps) (p k tt : Nat) : (Nod.pointS s p k tt).1.ino = s.ino := by
 have h := Nod.pointS_eq (s := s) (p := p) (k := k) (tt := tt) rfl rfl
 rw [h]
 by_cases h0 : p = 0
 ·simp only [if_pos h0]
  split <;> rfl
 ·simp only [if_neg h0]
  split <;> rfl
theorem setS_ino (s : Ps) (io : Io) (n tt : Nat) : (Nod.setS s io n tt).1.ino = s.ino := by
 unfold Nod.setS
 split
 ·rfl
 ·split
  ·exact pointS_ino ..
  ·exact (pointS_ino ..).trans (pointS_ino ..)
theorem trL_ino : ∀ (l : List Nat) (s : Ps) (io : Io), (Nod.trL l s io).1.ino = s.ino
 | [], _, _ => rfl
 | _ :: l, _, _ => (trL_ino l _ _).trans (setS_ino ..)
theorem wrS_ino (s : Ps) (io : Io) (off : Nat) (b : List UInt8) : (Nod.wrS 1 s io off b).1.ino = s.ino := by
 show (if b = [] then (s, io) else ((Nod.wr1 s io off b).1, (Nod.wr1 s io off b).2)).1.ino = s.ino
 split
 ·rfl
 ·show (Nod.ens s io (off / 64)).1.ino = s.ino
  unfold Nod.ens
  split
  ·exact setS_ino ..
  ·rfl
def rgI (M : Nat) : List Int := (List.range M).map fun n : Nat => (n : Int)
theorem file_ok : ∀ M, M < 28 → Room.file 64 (rgI M) = ((cnt M : Int), 0) := by decide +kernel
theorem rgI_inc (M : Nat) : Room.Inc (rgI M) := by
 unfold Room.Inc rgI
 rw [List.pairwise_map]
 exact List.pairwise_lt_range.imp fun h => by omega
theorem mem_rgI {M : Nat} {x : Int} : x ∈ rgI M ↔ 0 ≤ x ∧ x < M := by
 unfold rgI
 rw [List.mem_map]
 constructor
 ·rintro ⟨y, hy, rfl⟩
  have := List.mem_range.1 hy
  omega
 ·rintro ⟨h1, h2⟩
  exact ⟨x.toNat, List.mem_range.2 (by omega), by omega⟩
theorem row_rgI {M j : Nat} (h : j ≤ M) (hj : j < 1000) : Room.row (Room.all (rgI M) (j : Int) ((j + 1 : Nat) : Int)) = rgI (max M (j + 1)) := by
 refine Room.row_unique (rgI_inc _) fun x => ?_
 have e : Room.span (j : Int) (Room.more (j : Int) ((j + 1 : Nat) : Int)) = [(j : Int)] := by
  have e1 : Room.more (j : Int) ((j + 1 : Nat) : Int) = 1 := by
   unfold Room.more
   rw [if_pos (by omega)]
   omega
  rw [e1]
  show [(j : Int) + ((0 : Nat) : Int)] = _
  rw [show (j : Int) + ((0 : Nat) : Int) = (j : Int) by omega]
 unfold Room.all
 rw [e, List.mem_append, List.mem_singleton, mem_rgI, mem_rgI]
 omega
theorem more_ok {M j : Nat} (hM : M < 27) (h : j ≤ M) : Room.moreR 64 (rgI M) (j : Int) ((j + 1 : Nat) : Int) = ((cnt (max M (j + 1)) : Int) - (cnt M : Int), 0) := by
 unfold Room.moreR
 rw [row_rgI h (by omega), file_ok _ (by omega), file_ok _ (by omega), if_neg (by simp), if_neg (by simp)]
theorem tab_ok {T1 : List UInt8} {s' : Ps} {fi' : Nf} {M' : Nat} {X' : List UInt8} (h : Ds s fi X) (ht : T1 = s.g 1) (d : Df T1 s' fi'.io M' X') (hr : Nod.Right (nodOf fi')) :
  Df ((setI s' 1 (nodOf fi')).g 1) (setI s' 1 (nodOf fi')) fi'.io M' X' ∧ (ind (setI s' 1 (nodOf fi')) 1 = nodOf fi' ∧ indE (setI s' 1 (nodOf fi')) 1 = 0) ∧ (ind (setI s' 1 (nodOf fi')) 2 = fileN ∧ indE (setI s' 1 (nodOf fi')) 2 = 0) := by
 have h64 : (s'.g 1).length = 64 := d.ok.sz 1 (.inl ⟨by omega, by rw [d.tb]; omega⟩)
 have e : setI s' 1 (nodOf fi') = s'.put 1 (Nod.putAt (s'.g 1) 0 (nodOf fi')) := rfl
 have eg : (setI s' 1 (nodOf fi')).g 1 = Nod.putAt (s'.g 1) 0 (nodOf fi') := by rw [e, put_g, if_pos rfl]
 have hin := in_two h64 (k := 0) (by omega)
 have hl : (Nod.putAt (s'.g 1) 0 (nodOf fi')).length = 64 := by rw [Nod.putAt_len (by omega), h64]
 refine ⟨by rw [eg, e]; exact d.tab hl, ?_, ?_⟩
 ·obtain ⟨a, b⟩ := Nod.get_here (i := nodOf fi') hin hr
  unfold ind indE
  show Nod.getN ((setI s' 1 (nodOf fi')).g 1) ((0 : Nat) : Int) = _ ∧ Nod.getE ((setI s' 1 (nodOf fi')).g 1) ((0 : Nat) : Int) = 0
  rw [eg]
  exact ⟨a, b⟩
 ·obtain ⟨a, b⟩ := Nod.get_other (t := ((1 : Nat) : Int)) (i := nodOf fi') hin (by decide)
  have h2 := h.i2
  unfold ind indE at h2 ⊢
  show Nod.getN ((setI s' 1 (nodOf fi')).g 1) ((1 : Nat) : Int) = _ ∧ Nod.getE ((setI s' 1 (nodOf fi')).g 1) ((1 : Nat) : Int) = 0
  rw [eg]
  have h3 : Nod.getN (s.g 1) ((1 : Nat) : Int) = fileN ∧ Nod.getE (s.g 1) ((1 : Nat) : Int) = 0 := h2
  rw [← ht, ← d.t1] at h3
  exact ⟨a.trans h3.1, b.trans h3.2⟩
structure SlotOk (s : Ps) (fi : Nf) (X : List UInt8) (k : Nat) (sl : List UInt8) (s' : Ps) (fi' : Nf) : Prop where
 more : ∃ mo : Int, Room.moreR 64 (numsI (Nod.yl s.g fi.io)) ((16 * k / 64 : Nat) : Int) (((16 * k + 16 + 63) / 64 : Nat) : Int) = (mo, 0) ∧ mo ≤ (s.np : Int) - (s.us.length : Int)
 ok : Nod.WrOk 1 s fi.io (16 * k) sl
 tb : s'.tb = s.tb
 ino : s'.ino = s.ino
 right : Nod.Right (nodOf fi')
 ds : Ds (setI s' 1 (nodOf fi')) fi' (setB X k sl)
theorem Ds.slot (h : Ds s fi X) {k : Nat} {sl : List UInt8} (hs : sl.length = 16) (hk : 16 * k ≤ X.length) (hle : 16 * k + 16 ≤ 1600) {s' : Ps} {fi' : Nf} (hs' : s' = (Nod.wrS 1 s fi.io (16 * k) sl).1) (hf : fi' = withS fi (max fi.s ((16 * k + 16 : Nat) : Int)) (Nod.wrS 1 s fi.io (16 * k) sl).2) :
  SlotOk s fi X k sl s' fi' := by
 have hX := h.le
 have hB : X.length ≤ 64 * pgN X.length := by unfold pgN; omega
 have hkM : k / 4 ≤ pgN X.length := by unfold pgN; omega
 have hM : pgN X.length ≤ 25 := by unfold pgN; omega
 obtain ⟨h1, h2⟩ := h.df.slot hs hk hB hkM (by omega)
 have hsl := setB_len hs hk
 have hio : fi'.io = (Nod.wrS 1 s fi.io (16 * k) sl).2 := by rw [hf]; rfl
 have hfs : fi'.s = ((setB X k sl).length : Int) := by
  rw [hf, hsl]
  show max fi.s ((16 * k + 16 : Nat) : Int) = _
  rw [h.z]
  omega
 have hpg : max (pgN X.length) (k / 4 + 1) = pgN (setB X k sl).length := by
  rw [hsl]
  have := h.mod
  unfold pgN
  omega
 rw [hpg, ← hs', ← hio] at h2
 have hr : Nod.Right (nodOf fi') := h2.right (by rw [hf]; exact h.k2) (by rw [hf]; exact h.l0) (by rw [hfs]; omega) (by rw [hfs, hsl]; omega)
 obtain ⟨t1, t2, t3⟩ := tab_ok h rfl h2 hr
 have hi : s'.ino = s.ino := by rw [hs']; exact wrS_ino ..
 refine ⟨⟨(cnt (max (pgN X.length) (k / 4 + 1)) : Int) - (cnt (pgN X.length) : Int), ?_, ?_⟩, h1, by rw [h2.tb, h.df.tb], hi, hr, ⟨t1, by show s'.ino = 4; rw [hi, h.ino], by rw [hf]; exact h.k2, by rw [hf]; exact h.l0, hfs, t2, t3, by rw [hsl]; have := h.mod; omega, by rw [hsl]; omega⟩⟩
 ·rw [h.df.nums, show 16 * k / 64 = k / 4 by omega, show (16 * k + 16 + 63) / 64 = k / 4 + 1 by omega]
  exact more_ok (by omega) hkM
 ·rw [h.df.np, h.df.len]
  have : cnt (max (pgN X.length) (k / 4 + 1)) ≤ 30 := by unfold cnt; split <;> omega
  omega
structure TruncOk (s : Ps) (fi : Nf) (X : List UInt8) (tt : Nat) (ns : List Nat) (rs : List Int) (s' : Ps) (fi' : Nf) : Prop where
 hns : (numsI (Nod.yl s.g fi.io)).reverse = (ns.map fun n : Nat => (n : Int)) ++ rs
 hk : ∀ n ∈ ns, (tt + 63) / 64 ≤ n
 hr : ∀ x, rs.head? = some x → x < (((tt + 63) / 64 : Nat) : Int)
 ok : Nod.TrOk ns s fi.io
 tb : s'.tb = s.tb
 ino : s'.ino = s.ino
 right : Nod.Right (nodOf fi')
 ds : Ds (setI s' 1 (nodOf fi')) fi' (X.take tt)
theorem Ds.trunc (h : Ds s fi X) {tt : Nat} (ht : tt ≤ X.length) (hm : tt % 16 = 0) {ns : List Nat} (hns : ns = dn ((tt + 63) / 64) (pgN X.length)) {s' : Ps} {fi' : Nf} (hs' : s' = Nod.trT (Nod.trL ns s fi.io).1 (Nod.trL ns s fi.io).2 X.length tt) (hf : fi' = withS fi (tt : Int) (Nod.trL ns s fi.io).2) :
  ∃ rs, TruncOk s fi X tt ns rs s' fi' := by
 have hX := h.le
 have hK : (tt + 63) / 64 ≤ pgN X.length := by unfold pgN; omega
 obtain ⟨h1, h2⟩ := h.df.down ((tt + 63) / 64)
 rw [← hns, Nat.min_eq_left hK] at h2
 rw [← hns] at h1
 have h3 := h2.cut (z := X.length) rfl ht
 have hio : fi'.io = (Nod.trL ns s fi.io).2 := by rw [hf]; rfl
 have htl : (X.take tt).length = tt := by rw [List.length_take]; omega
 have h4 : Df (s.g 1) s' fi'.io (pgN (X.take tt).length) (X.take tt) := by
  rw [htl, hs', hio]
  exact h3
 have hfs : fi'.s = (((X.take tt).length : Nat) : Int) := by rw [hf, htl]; rfl
 have hr : Nod.Right (nodOf fi') := h4.right (by rw [hf]; exact h.k2) (by rw [hf]; exact h.l0) (by rw [hfs]; omega) (by rw [hfs, htl]; omega)
 obtain ⟨t1, t2, t3⟩ := tab_ok h rfl h4 hr
 have hi : s'.ino = s.ino := by
  rw [hs']
  refine Eq.trans ?_ (trL_ino ns s fi.io)
  unfold Nod.trT
  split <;> rfl
 refine ⟨((List.range ((tt + 63) / 64)).reverse).map fun n : Nat => (n : Int), ?_, fun n hn => ?_, fun x hx => ?_, h1, by rw [h4.tb, h.df.tb], hi, hr, ⟨t1, by show s'.ino = 4; rw [hi, h.ino], by rw [hf]; exact h.k2, by rw [hf]; exact h.l0, hfs, t2, t3, by rw [htl]; exact hm, by rw [htl]; omega⟩⟩
 ·rw [h.df.nums, ← List.map_reverse, rev_range ((tt + 63) / 64), List.map_append, Nat.min_eq_left hK, hns]
 ·rw [hns] at hn
  exact (dn_le hn).1
 ·have := List.mem_of_head? hx
  obtain ⟨y, hy, rfl⟩ := List.mem_map.1 this
  have := List.mem_range.1 (List.mem_reverse.1 hy)
  omega
end Nam
end
section
open Go.RowKit Pol
variable {NB B P T : Nat} {Q : Nat → Prop} {w w' : World} {f : Fm} {s : Ps} {fi : Nf} {n : Nat} {X : List UInt8}

theorem setB_room {X : List UInt8} {e : Ent} {r : Nat} (hX : X.length = 16 * Dir.cnt X) : Nam.setB X r (Dir.slotL e) = Dir.addedAt X e r := by
 unfold Dir.addedAt
 split
 ·rename_i h
  unfold Nam.setB
  rw [List.take_of_length_le (by omega), List.drop_eq_nil_of_le (by omega), List.append_nil]
 ·rfl
theorem treAdd_calls (h : PlM NB B Q w P f s) (hT : TrB w T P) (hTQ : ¬ Q T) (d : Nam.Ds s fi X) (nm : List UInt8) (he : Dir.addE X ⟨2, nm⟩ = 0) (hle : X.length ≤ 1584) :
  Calls Tryz.prog 17 #[.pointer (some ⟨T, 0, none⟩), .int .i64 1, .string (strL nm), .int .i64 2] w fun e w' => e = .returned (.int .i64 0) ∧ ∃ r s' fi', Dir.IsRoom X r ∧ Nam.Ds s' fi' (Dir.addedAt X ⟨2, nm⟩ r) ∧ PlR NB B Q w w' P f s' := by
 obtain ⟨hgood, hwe, hno⟩ := Dir.addE_ok he
 have hsl := Dir.slotL_len ⟨2, nm⟩ (Dir.nameE_len ((Dir.writeE_iff _).1 hwe).2).2
 have hnl := (Dir.nameE_len ((Dir.writeE_iff _).1 hwe).2).2
 have hfn : Dir.findR X nm = (-1, 0) := Dir.find_no hno
 have hwl : Dir.writeL ⟨2, nm⟩ = Dir.slotL ⟨2, nm⟩ := if_pos hwe
 have HD := hid (show Calls Tryz.prog 49 #[.pointer (some ⟨T, 0, none⟩), .int .i64 1] w fun e w' => (∃ v, e = .returned (.tuple #[nfV fi, v, .int .i64 0]) ∧ Own byteV 5 w' w.heap.size v X) ∧ PlM NB B Q w' P f s ∧ Kq Q w w' from treDirO_calls h hT hTQ d.dirOk)
 have HPl := hid (show ∀ W : World, PlM NB B Q W P f s → TrB W T P → Calls Tryz.prog 50 #[.pointer (some ⟨T, 0, none⟩), .int .i64 2] W fun e w' => e = .returned (.tuple #[.int .i64 1, .int .i64 1, .int .i64 0]) ∧ Below W.heap.size W w' from fun W hW hT =>
  trePlace_calls hW hT (n := 2) (by omega) (by rw [d.ino]; omega) (by rw [d.ino]; omega))
 have HWr := hid (show ∀ W : World, Calls Tryz.prog 51 #[.agg #[.int .i64 2, .string (strL nm)]] W fun e w' => (∃ v, e = .returned (.tuple #[v, .int .i64 0]) ∧ Own byteV 5 w' W.heap.size v (Dir.slotL ⟨2, nm⟩)) ∧ Below W.heap.size W w' from fun W => by
  have h := write_calls ⟨2, nm⟩ W (by show nm.length ≤ _; simp only at hnl; omega)
  unfold WriteR at h
  rw [hwe, hwl] at h
  exact h)
 have HTw := hid (show ∀ (W : World) (a : Option Addr) (c r : Nat), PlM NB B Q W P f s → TrB W T P → Bytes W W.heap.size a 16 (Dir.slotL ⟨2, nm⟩) → 16 ≤ c → (∀ bl o, a = some ⟨bl, o, none⟩ → ¬ Q bl ∧ bl < W.heap.size) → Dir.IsRoom X r → Calls Tryz.prog 53 #[.pointer (some ⟨T, 0, none⟩), .int .i64 1, .agg (nfC fi), .int .i64 (r : Int), .slice a 16 c] W fun e w' => e = .returned (.int .i64 0) ∧ ∃ s' fi', Nam.Ds s' fi' (Dir.addedAt X ⟨2, nm⟩ r) ∧ PlR NB B Q W w' P f s' from fun W a c r hW hT hx hc hqa hr => by
  have hXl := hgood.len
  have hrl := hr.2.1
  have o := d.slot (k := r) hsl (by omega) (by omega) rfl rfl
  obtain ⟨mo, m1, m2⟩ := o.more
  refine (treWrite_calls hW hT hTQ (n := 1) (by omega) (by rw [d.ino]; omega) (by rw [d.ino]; omega) (by rw [d.df.tb]; omega) d.df.wf hx hc (by omega) m1 m2 o.ok hqa rfl rfl o.tb o.ino o.right).mono ?_
  rintro e w' ⟨rfl, hp⟩
  exact ⟨rfl, _, _, by rw [← setB_room hXl]; exact o.ds, hp⟩)
 have HZ := hid d.le
 have HG := hid hgood
 have HFn := hid hfn
 have HSl := hid hsl
 have HBs := hid h.base
 have HTQ := hid hTQ
 have HT := hid hT
 have HQb := hid h.bnd
 unfold nfV nfC at HD
 clear h hT hTQ d he hle hgood hwe hno hsl hnl hfn hwl
 go_enter Tryz.func17, Tryz.ntmps17
 go_wp2_with fail
 refine HD.out.mono ?_
 rintro e W2 ⟨⟨v, rfl, ho⟩, hp, hk⟩
 obtain ⟨a2, c2, rfl, hc2⟩ := ho.formN rfl
 have HO2 := hid ho
 have HC2 := hid hc2
 have HP2 := hid hp
 have HK2 := hid hk
 have HT2 := hid (HT.out.kq hk HTQ.out)
 clear ho hp hk HD hc2
 have HN2 := hid (Blk.new W2 35 #[.int .i64 0, .int .i64 0, .int .i64 0, .int .i64 0, .int .i64 0, .int .i64 0, .int .i64 0, .int .i64 0, .int .i64 0, .int .i64 0, .int .i64 0])
 obtain ⟨W3, hW3⟩ : ∃ W3, W3 = (W2.alloc (.cells #[.int .i64 0, .int .i64 0, .int .i64 0, .int .i64 0, .int .i64 0, .int .i64 0, .int .i64 0, .int .i64 0, .int .i64 0, .int .i64 0, .int .i64 0] 35)).setRow W2.heap.size #[.int .i64 fi.k, .int .i64 fi.l, .int .i64 fi.s, .int .i64 (nd fi 0), .int .i64 (nd fi 1), .int .i64 (nd fi 2), .int .i64 (nd fi 3), .int .i64 (nd fi 4), .int .i64 (nd fi 5), .int .i64 (fi.io.s : Int), .int .i64 (fi.io.b : Int)] := ⟨_, rfl⟩
 have hb3 : Below W2.heap.size W2 W3 := by rw [hW3]; exact ((Below.refl _ W2).alloc (Nat.le_refl _) _).setRow_ (Nat.le_refl _) _
 have HI3 := hid (show Blk W3 W2.heap.size 35 (nfC fi) from by rw [hW3]; exact HN2.out.row _)
 have HW3 := hid hW3
 have HP3 := hid (HP2.out.on hb3)
 have HT3 := hid (HT2.out.on hb3)
 have HO3 := hid (HO2.out.on hb3)
 have HK3 := hid (HK2.out.on hb3)
 clear hW3 hb3
 go_wp2_with (refine wpList_store_blk rfl rfl _ _ _ rfl W2.heap.size #[.int .i64 fi.k, .int .i64 fi.l, .int .i64 fi.s, .int .i64 (nd fi 0), .int .i64 (nd fi 1), .int .i64 (nd fi 2), .int .i64 (nd fi 3), .int .i64 (nd fi 4), .int .i64 (nd fi 5), .int .i64 (fi.io.s : Int), .int .i64 (fi.io.b : Int)] rfl rfl 35 #[.int .i64 0, .int .i64 0, .int .i64 0, .int .i64 0, .int .i64 0, .int .i64 0, .int .i64 0, .int .i64 0, .int .i64 0, .int .i64 0, .int .i64 0] HN2.out rfl nodInfo (nfOne fi) ?_; rw [← HW3.out])
 obtain ⟨I9, hI9⟩ : ∃ I, I = W2.heap.size := ⟨_, rfl⟩
 have HI9 := hid hI9
 rw [← hI9] at HI3 ⊢
 clear hI9
 refine (HPl.out W3 HP3.out HT3.out).mono ?_
 rintro e W4 ⟨rfl, hb4⟩
 have HP4 := hid (HP3.out.on hb4)
 have HT4 := hid (HT3.out.on hb4)
 have HO4 := hid (HO3.out.on hb4)
 have HK4 := hid (HK3.out.on hb4)
 have HI4 := hid (HI3.out.belowHere hb4)
 clear hb4
 go_wp2_with fail
 refine (HWr.out W4).mono ?_
 rintro e W5 ⟨⟨v, rfl, ho⟩, hb5⟩
 obtain ⟨a5, c5, rfl, hc5⟩ := ho.formN HSl.out
 have HX5 := hid (ho.arr (by rw [HSl.out]; decide))
 have HC5 := hid hc5
 have HQa := hid (show ∀ bl o, a5 = some ⟨bl, o, none⟩ → ¬ Q bl ∧ bl < W5.heap.size from fun bl o e => by
  obtain ⟨g, rfl, h1, h2⟩ := ho.addr (by rw [HSl.out]; omega)
  injection e with e
  injection e with e
  subst e
  exact ⟨HP4.out.not_new h1, h2⟩)
 have HP5 := hid (HP4.out.on hb5)
 have HT5 := hid (HT4.out.on hb5)
 have HO5 := hid (HO4.out.on hb5)
 have HK5 := hid (HK4.out.on hb5)
 have HI5 := hid (HI4.out.belowHere hb5)
 clear ho hb5 hc5
 have hl := HZ.out
 have HX2 := hid (HO5.out.arr (by omega))
 clear hl
 go_wp2_with fail
 refine (find_calls a2 _ c2 X nm W5 HX2.out HC2.out).mono ?_
 rintro e W6 ⟨rfl, hb6⟩
 rw [HFn.out]
 have HP6 := hid (HP5.out.on hb6)
 have HT6 := hid (HT5.out.on hb6)
 have HX6 := hid (HX2.out.on hb6)
 have HK6 := hid (HK5.out.on hb6)
 have HI6 := hid (HI5.out.belowHere hb6)
 have HY6 := hid (HX5.out.on hb6)
 have HQ6 := hid (fun bl o e => And.intro (HQa.out bl o e).1 (Nat.lt_of_lt_of_le (HQa.out bl o e).2 hb6.size))
 clear hb6
 go_upto_region 13 with fail
 have hbd := below_drew W6
 have HPd := hid (HP6.out.on hbd)
 have HTd := hid (HT6.out.on hbd)
 have HXd := hid (HX6.out.on hbd)
 have HKd := hid (HK6.out.on hbd)
 have HId := hid (HI6.out.belowHere hbd)
 have HYd := hid (HY6.out.on hbd)
 have HQd := hid (fun bl o e => And.intro (HQ6.out bl o e).1 (Nat.lt_of_lt_of_le (HQ6.out bl o e).2 hbd.size))
 clear hbd
 refine wp_region_noPanic ?_
 refine wp_region_held_drew (S := (fun W' => Blk W' I9 35 (nfC fi))) (by kernel_rfl) HId.out (fun hS0 => ?_)
 generalize W6.drew = W7 at *
 refine tk 0 ((.pointer (some ⟨T, 0, none⟩))) rfl (fun _ _ => rfl) ?_
 try simp only [layR]
 refine tk 1 ((.int .i64 1)) rfl (fun _ _ => rfl) ?_
 try simp only [layR]
 refine tk 2 ((.agg (nfC fi))) rfl (fun W hSw => ?_) ?_
 ·obtain ⟨y0, y1, y2, y3, y4, y5, y6, y7, y8, y9, y10⟩ := nfc_cells hSw; unfold nfC
  go_simp
 try simp only [layR]
 refine tk 3 ((.slice a2 X.length c2)) rfl (fun _ _ => rfl) ?_
 try simp only [layR]
 refine tk 5 ((.slice a5 16 c5)) rfl (fun _ _ => rfl) ?_
 try simp only [layR]
 refine rd 4 rfl (fun K' hK => ?_)
 go_simp
 refine (room_calls a2 _ c2 X W7 HXd.out HC2.out).mono ?_
 rintro e w_ ⟨⟨r, rfl, hr⟩, rfl⟩
 have HRm := hid hr
 clear hr
 refine hK.out _ _ (HId.out) (fun hS1 => ?_)
 try simp only [layR]
 refine rd 6 rfl (fun K' hK => ?_)
 go_simp
 refine (HTw.out W7 a5 c5 r HPd.out HTd.out HYd.out HC5.out HQd.out HRm.out).mono ?_
 rintro e W8 ⟨rfl, s', fi', hds, hp8⟩
 have HDs := hid hds
 have HP8 := hid (PlR.behind HKd.out hp8 HBs.out)
 have HI8 := hid (HId.out.kq hp8.2 (by rw [HI9.out]; exact HP2.out.not_new (Nat.le_refl _)))
 clear hds hp8
 refine hK.out _ _ (HI8.out) (fun hS2 => ?_)
 try simp only [layR]
 refine tk 7 ((.int .i64 0)) rfl (fun _ _ => rfl) ?_
 refine wpAnyH_done (by kernel_rfl) ?_ _
 refine NoPanic.normal ?_
 clear hS0 hS1 hS2
 go_wp2
 go_ret
 exact ⟨rfl, r, s', fi', HRm.out, HDs.out, HP8.out⟩
end
end Go.Proofs.YtcppkaphlcflgaaGreat
