import Derived.Test.YtcppkaphlcflgaaGreatNodRead
import Derived.Test.YtcppkaphlcflgaaGreatNodLw
import Derived.Test.YtcppkaphlcflgaaGreatPolOpen
namespace Go.Proofs.YtcppkaphlcflgaaGreat
open Go.RowKit Pol Nod
variable {NB B P : Nat} {Q : Nat → Prop} {w w' : World} {f : Fm} {s : Ps}

attribute [local go_sem] Oper.semAt_some

def owEnc (x : Nat × Nat × Nat) : Array Value := #[.int .i64 (x.2.1 : Int), .int .i64 (x.2.2 : Int)]
def OwJ (Zy l : Nat) (J : List (Nat × Nat × Nat) → (Nat → Prop) → World → Prop) (pre : List (Nat × Nat × Nat)) (X : Nat → Prop) (W : World) : Prop := J pre X W ∧ Blk W Zy 152 #[.func (.yield l) #[] #[]] ∧ ¬ X Zy
theorem owned11_ok {lp n Zy : Nat} {total : List (Nat × Nat × Nat)} {J : List (Nat × Nat × Nat) → (Nat → Prop) → World → Prop} (hJ : JX Q n J) (hZ : Zy < n) (hZQ : ¬ Q Zy)
  (hY : ∀ pre x X1 W1, J pre X1 W1 → (pre ++ [x]) <+: total → YieldAt Fence.wide 7 Tryz.prog lp (owEnc x) W1 (RoundX J (fun _ _ _ => False) (pre ++ [x]) X1 W1)) :
  YieldOk 83 #[.pointer (some ⟨Zy, 0, none⟩)] total Q n (OwJ Zy lp J) := by
 refine ⟨⟨fun pre X W h => hJ.bd _ _ _ h.1, ?_⟩, enters_of Tryz.func83 (by kernel_rfl) rfl, ?_⟩
 ·rintro pre X W W' T' ⟨h1, h2, h3⟩ hk hT
  refine ⟨hJ.kq _ _ _ _ _ h1 hk hT, h2.kq hk fun h => ?_, h3⟩
  rcases (hT _ h).1 with h4 | h4
  ·exact hZQ h4
  ·omega
 ·rintro pre ⟨a, p, lv⟩ X W ⟨h1, h2, h3⟩ hpre
  have HY := Lib.hid (hY pre (a, p, lv) X W h1 hpre)
  have H2 := Lib.hid h2
  have H3 := Lib.hid h3
  have HZl := Lib.hid h2.lt
  have c0 := h2.cellv (i := 0) rfl
  clear h1 h2 h3 hY hpre
  unfold ylV
  refine callsIn_wide (n := 8) |>.1 ?_
  refine callsIn_of_wp Tryz.func83 rfl trivial ?_ rfl
  simp only [Tryz.ntmps83, List.size_toArray, List.length_cons, List.length_nil, Nat.reduceAdd, Nat.reduceSub, Array.replicate_succ, Array.replicate_zero, List.push_toArray, List.append_toArray, List.nil_append, List.cons_append]
  obtain ⟨fn, tmps, assign, body, hy, hR⟩ := HY.out
  unfold owEnc at hy
  gi_wp2_with fail
  refine hR.mono ?_
  rintro ee w4 ⟨⟨rfl, X2, hJ4, hg4⟩ | ⟨rfl, X2, hJx4, hg4⟩, hk4⟩
  ·have HFin := Lib.hid (show (∃ X', OwJ Zy lp J (pre ++ [(a, p, lv)]) X' w4 ∧ Grew X W X') ∧ Kq X W w4 from ⟨⟨X2, ⟨hJ4, H2.out.kq hk4 H3.out, hg4.not H3.out HZl.out⟩, hg4⟩, hk4⟩)
   clear hJ4 hg4 hk4 hy hR
   gi_wp2
   go_ret
   exact ⟨rfl, HFin.out⟩
  ·exact hJx4.elim
def owOwn (Q : Nat → Prop) (Z : Nat) (q : Nat) : Prop := Q q ∨ q = Z ∨ q = Z + 1
set_option maxRecDepth 100000 in
set_option maxHeartbeats 4000000 in
theorem owned_iter {fi : Nf} {Z : Nat} (h : PlM NB B Q w P f s) (hw : Wf s fi.io) (h0 : Blk w Z 27 #[.pointer (some ⟨P, 0, none⟩)]) (h1 : Blk w (Z + 1) 35 (nfC fi)) :
  IterX Tryz.prog 82 #[.pointer (some ⟨Z, 0, none⟩), .pointer (some ⟨Z + 1, 0, none⟩)] owEnc (yl s.g fi.io) False (fun W => PlM NB B Q W P f s) Q (owOwn Q Z) w := by
 intro lp J Jx X W hJ _ hst hW hXo _ hY hj0
 replace hst := hst.resolve_left id
 have hJx0 : Jx = fun _ _ _ => False := by
  funext pre X W
  exact eq_false (hst pre X W)
 subst hJx0
 have hP := h.kq hW fun q hq hn => hn (.inl hq)
 have hb0 := h0.kq hW fun hn => hn (.inr (.inl rfl))
 have hb1 := h1.kq hW fun hn => hn (.inr (.inr rfl))
 have HP := Lib.hid hP
 have HW := Lib.hid hw
 have HJ := Lib.hid hJ
 have HJ0 := Lib.hid hj0
 have HY := Lib.hid hY
 have HXo := Lib.hid hXo
 have HDl := Lib.hid hw.dl
 have hX1 : ∀ q, X q → ¬ Q q := fun q h h2 => (hXo q h).1 h2
 have HX1 := Lib.hid hX1
 have HXb := Lib.hid (hJ.bd _ _ _ hj0)
 obtain ⟨W1, hW1⟩ : ∃ W1, W1 = W.alloc (.cells #[.func (.yield lp) #[] #[]] 152) := ⟨_, rfl⟩
 have hba : Below W.heap.size W W1 := by rw [hW1]; exact (Below.refl _ W).alloc (Nat.le_refl _) _
 have hz1 : Blk W1 W.heap.size 152 #[.func (.yield lp) #[] #[]] := by rw [hW1]; exact Blk.new W _ _
 have hs1 : W1.heap.size = W.heap.size + 1 := by rw [hW1]; simp
 have HB1 := Lib.hid hba
 have HZ1 := Lib.hid hz1
 have HS1 := Lib.hid hs1
 have HW1 := Lib.hid hW1
 have c0 := (hb0.belowHere hba).cellv (i := 0) rfl
 unfold nfC at hb1
 replace hb1 := hb1.belowHere hba
 have e0 := hb1.cellv (i := 0) rfl
 have e1 := hb1.cellv (i := 1) rfl
 have e2 := hb1.cellv (i := 2) rfl
 have e3 := hb1.cellv (i := 3) rfl
 have e4 := hb1.cellv (i := 4) rfl
 have e5 := hb1.cellv (i := 5) rfl
 have e6 := hb1.cellv (i := 6) rfl
 have e7 := hb1.cellv (i := 7) rfl
 have e8 := hb1.cellv (i := 8) rfl
 have e9 := hb1.cellv (i := 9) rfl
 have e10 := hb1.cellv (i := 10) rfl
 clear h h0 h1 hW hXo hY hj0 hst hJ hP hb0 hb1 hw hX1 hba hz1 hs1 hW1
 refine (callsIn_wide (n := 8)).2 ?_
 go_enter Tryz.func82, Tryz.ntmps82
 go_upto_region 1 with fail
 rw [← HW1.out]
 go_wp2_with fail
 have hb2 : Below W1.heap.size W1 (W1.alloc (.cells (nfA P fi) 82)) := (Below.refl _ W1).alloc (Nat.le_refl _) _
 have hs2 : (W1.alloc (.cells (nfA P fi) 82)).heap.size = W.heap.size + 2 := by rw [World.size_alloc, HS1.out]
 have hQb : ∀ q, Q q → q < W.heap.size := fun q h => (HP.out.bnd q h).2
 have hj2 : OwJ W.heap.size lp J [] X (W1.alloc (.cells (nfA P fi) 82)) := ⟨HJ.out.on (HJ.out.on HJ0.out HB1.out) hb2, HZ1.out.belowHere hb2, fun h => by have := HXb.out _ h; omega⟩
 have hcall := nodAll_calls (n := W.heap.size + 2) ((HP.out.on HB1.out).on hb2) (NfM.made W1 HDl.out P) (fun h => by have := hQb _ h; have := HS1.out; omega) HW.out
  (owned11_ok (lp := lp) (n := W.heap.size + 2) (Zy := W.heap.size) (HJ.out.mono (by omega)) (by omega) (fun h => by have := hQb _ h; omega) HY.out) (by omega)
  (fun q h => ⟨HX1.out q h, fun e => by have := HXb.out q h; have := HS1.out; omega⟩) hj2
 refine hcall.mono ?_
 rintro e w4 ⟨⟨v, rfl⟩, ⟨X', ⟨h1, _, _⟩, hg⟩, hp4, hk4⟩
 have HFin := Lib.hid (show (∃ X', J (yl s.g fi.io) X' w4 ∧ Grew X W X') ∧ Kq (fun q => Q q ∨ X q) W w4 ∧ PlM NB B Q w4 P f s from ⟨⟨X', h1, fun q hq => by
  rcases hg q hq with h | h
  ·exact .inl h
  ·exact .inr (by omega)⟩, (Kq.of (HB1.out.then_ hb2)).trans hk4, hp4⟩)
 clear hcall h1 hg hp4 hk4 hj2 hb2
 go_wp2
 go_end0
 exact ⟨⟨_, rfl⟩, .inl HFin.out.1, HFin.out.2⟩
theorem owned_calls (P : Nat) (fi : Nf) (w : World) :
  Calls Tryz.prog 44 #[.pointer (some ⟨P, 0, none⟩), nfV fi] w fun e w' => e = .returned (.func (.func 82) #[] #[.pointer (some ⟨w.heap.size, 0, none⟩), .pointer (some ⟨w.heap.size + 1, 0, none⟩)]) ∧ (w.alloc (.cells #[.pointer (some ⟨P, 0, none⟩)] 27)).alloc (.cells (nfC fi) 35) = w' := by
 unfold nfV nfC
 go_enter Tryz.func44, Tryz.ntmps44
 go_wp2
 go_ret
 exact ⟨rfl, rfl⟩
set_option maxRecDepth 100000 in
set_option maxHeartbeats 4000000 in
theorem nodTakes_calls {fi : Nf} (h : PlM NB B Q w P f s) (hw : Wf s fi.io) :
  Calls Tryz.prog 10 #[.pointer (some ⟨P, 0, none⟩), nfV fi] w (PolAsked NB B Q P f s (.int .i64 ((yl s.g fi.io).length : Int)) w) := by
 have HH := Lib.hid h
 have HW := Lib.hid hw
 obtain ⟨l, hl⟩ : ∃ l, l = yl s.g fi.io := ⟨_, rfl⟩
 have HLl := Lib.hid (show l.length ≤ 2000 from by rw [hl]; exact yl_len h.ok fi.io)
 have HL := Lib.hid hl
 rw [← hl]
 have HOw := Lib.hid (fun w => owned_calls P fi w)
 unfold nfV nfC at HOw ⊢
 clear h hw hl
 refine callsIn_wide (n := 9) |>.1 ?_
 refine callsIn_of_wp_marks Tryz.func10 rfl trivial ?_ rfl
 refine wpIn_wide.2 ?_
 simp only [Tryz.ntmps10, List.size_toArray, List.length_cons, List.length_nil, Nat.reduceAdd, Nat.reduceSub, Array.replicate_succ, Array.replicate_zero, List.push_toArray, List.append_toArray, List.nil_append, List.cons_append]
 have hb2 : Below w.heap.size w ((w.alloc (.cells #[.int .i64 fi.k, .int .i64 fi.l, .int .i64 fi.s, .int .i64 (nd fi 0), .int .i64 (nd fi 1), .int .i64 (nd fi 2), .int .i64 (nd fi 3), .int .i64 (nd fi 4), .int .i64 (nd fi 5), .int .i64 (fi.io.s : Int), .int .i64 (fi.io.b : Int)] 35)).alloc (.cells #[.int .i64 0] 3)) := ((Below.refl _ w).alloc (Nat.le_refl _) _).alloc (by simp) _
 have hn2 := Blk.new (w.alloc (.cells #[.int .i64 fi.k, .int .i64 fi.l, .int .i64 fi.s, .int .i64 (nd fi 0), .int .i64 (nd fi 1), .int .i64 (nd fi 2), .int .i64 (nd fi 3), .int .i64 (nd fi 4), .int .i64 (nd fi 5), .int .i64 (fi.io.s : Int), .int .i64 (fi.io.b : Int)] 35)) 3 #[.int .i64 0]
 have hs2 : ((w.alloc (.cells #[.int .i64 fi.k, .int .i64 fi.l, .int .i64 fi.s, .int .i64 (nd fi 0), .int .i64 (nd fi 1), .int .i64 (nd fi 2), .int .i64 (nd fi 3), .int .i64 (nd fi 4), .int .i64 (nd fi 5), .int .i64 (fi.io.s : Int), .int .i64 (fi.io.b : Int)] 35)).alloc (.cells #[.int .i64 0] 3)).heap.size = w.heap.size + 2 := by simp
 simp only [World.size_alloc] at hn2
 go_wp2_with fail
 generalize (w.alloc (.cells #[.int .i64 fi.k, .int .i64 fi.l, .int .i64 fi.s, .int .i64 (nd fi 0), .int .i64 (nd fi 1), .int .i64 (nd fi 2), .int .i64 (nd fi 3), .int .i64 (nd fi 4), .int .i64 (nd fi 5), .int .i64 (fi.io.s : Int), .int .i64 (fi.io.b : Int)] 35)).alloc (.cells #[.int .i64 0] 3) = w2 at *
 refine (HOw.out w2).mono ?_
 rintro e w' ⟨rfl, rfl⟩
 have hb4 : Below w2.heap.size w2 ((w2.alloc (.cells #[.pointer (some ⟨P, 0, none⟩)] 27)).alloc (.cells (nfC fi) 35)) := ((Below.refl _ w2).alloc (Nat.le_refl _) _).alloc (by simp) _
 have hp4 := (Blk.new w2 27 #[.pointer (some ⟨P, 0, none⟩)]).alloc (.cells (nfC fi) 35)
 have hi4 := Blk.new (w2.alloc (.cells #[.pointer (some ⟨P, 0, none⟩)] 27)) 35 (nfC fi)
 have hs4 : ((w2.alloc (.cells #[.pointer (some ⟨P, 0, none⟩)] 27)).alloc (.cells (nfC fi) 35)).heap.size = w2.heap.size + 2 := by simp
 simp only [World.size_alloc] at hi4
 have HB4 := Lib.hid (hb2.then_ hb4)
 have HN4 := Lib.hid (hn2.belowHere hb4)
 have HP4 := Lib.hid (HH.out.on HB4.out)
 have HPp := Lib.hid hp4
 have HPi := Lib.hid hi4
 have HS4 := Lib.hid (show _ ∧ w2.heap.size = w.heap.size + 2 from ⟨hs4, hs2⟩)
 rw [hs2] at HPp HPi ⊢
 clear hb2 hn2 hs2 hb4 hp4 hi4 hs4 HOw
 rw [show w.heap.size + 2 = w.heap.size + 1 + 1 from rfl]
 go_wp2_with fail
 obtain ⟨w4, hw4⟩ : ∃ w4, w4 = (w2.alloc (.cells #[.pointer (some ⟨P, 0, none⟩)] 27)).alloc (.cells (nfC fi) 35) := ⟨_, rfl⟩
 rw [← hw4] at HB4 HN4 HP4 HPp HPi HS4
 rw [show (w2.alloc (.cells #[.pointer (some ⟨P, 0, none⟩)] 27)).alloc (.cells #[.int .i64 fi.k, .int .i64 fi.l, .int .i64 fi.s, .int .i64 (nd fi 0), .int .i64 (nd fi 1), .int .i64 (nd fi 2), .int .i64 (nd fi 3), .int .i64 (nd fi 4), .int .i64 (nd fi 5), .int .i64 (fi.io.s : Int), .int .i64 (fi.io.b : Int)] 35) = w4 from hw4.symm]
 clear hw4
 refine wpNamed fun T hT => ?_
 have hit := owned_iter (Z := w.heap.size + 2) HP4.out HW.out HPp.out HPi.out
 rw [← HL.out] at hit
 have hs4 : w4.heap.size = w.heap.size + 4 := by have := HS4.out; omega
 have hQb : ∀ q, Q q → q < w.heap.size := fun q h => (HH.out.bnd q h).2
 have hI : JX Q w4.heap.size (fun (pre : List (Nat × Nat × Nat)) (X : Nat → Prop) (W : World) => (∀ q, X q ↔ q = w.heap.size + 1) ∧ Blk W (w.heap.size + 1) 3 #[.int .i64 (pre.length : Int)]) := by
  refine ⟨?_, ?_⟩
  ·rintro pre X W ⟨h1, h2⟩ q hq
   have := h2.lt
   have := (h1 q).1 hq
   omega
  ·rintro pre X W W' T' ⟨h1, h2⟩ hk hT'
   exact ⟨h1, h2.kq hk fun h => (hT' _ h).2 ((h1 _).2 rfl)⟩
 have hIx : ∀ kc : Code, JX Q w4.heap.size (fun (_ : List (Nat × Nat × Nat)) (_ : Nat → Prop) (_ : World) => False) := fun _ => ⟨fun _ _ _ h => h.elim, fun _ _ _ _ _ h => h.elim⟩
 refine wpIn_wide.1 (range_lawX (gf := 82) (lb := #[.pointer (some ⟨w.heap.size + 2, 0, none⟩), .pointer (some ⟨w.heap.size + 2 + 1, 0, none⟩)]) (encs := owEnc) (xs := l) (T := Q) (own := owOwn Q (w.heap.size + 2)) (w0 := w4) (by rw [hT]; rfl) (enters_of Tryz.func82 (by kernel_rfl) rfl) hit (fun W W' q0 h hk hq => h.kq hk fun q h1 e => by have := hQb q h1; omega) (Kq.refl _ _) ?own (fun q h => by have := hQb q h; omega) (fun _ => rfl)
  _ hI _ hIx (.inr fun _ _ _ _ h => h) (fun q => q = w.heap.size + 1) ⟨fun q => Iff.rfl, HN4.out⟩ ?dis (fun x => ⟨(T.setIfInBounds 9 (.int .i64 (x.2.1 : Int))).setIfInBounds 10 (.int .i64 (x.2.2 : Int)), []⟩) ?assign ?body ?done ?stop)
 case own =>
  rintro q (h | h | h)
  ·have := hQb q h; omega
  ·omega
  ·omega
 case dis =>
  rintro q rfl
  refine ⟨fun h => by have := hQb _ h; omega, ?_⟩
  rintro (h | h | h)
  ·have := hQb _ h; omega
  ·omega
  ·omega
 case assign =>
  intro lp y W K hK
  unfold owEnc
  have h9 := zip2 9 10 T (.int .i64 (y.2.1 : Int)) (.int .i64 (y.2.2 : Int))
  rw [h9]
  have HKa := Lib.hid hK
  clear hK hit hI hIx h9
  gi_wp2
  exact HKa.out
 case body =>
  rintro lp pre y X1 W ⟨hX, hb⟩ hg hs hpre
  have hlen : pre.length + 1 ≤ 2000 := by
   have := hpre.length_le
   rw [List.length_append, List.length_singleton] at this
   have := HLl.out
   omega
  obtain ⟨m, hm⟩ : ∃ m, m = pre.length := ⟨_, rfl⟩
  rw [← hm] at hb hlen
  have iv := IntWalk.i64_in ((m : Int) + 1) ⟨by omega, by omega⟩
  have c5 := hb.cellv (i := 0) rfl
  have f5 := hb.frozen 0
  have hst : Kq (fun q => q = w.heap.size + 1) W (W.setCell ⟨w.heap.size + 1, 0, none⟩ (.int .i64 ((m : Int) + 1))) := Kq.one ⟨w.heap.size + 1, 0, none⟩ _
  have HFin := Lib.hid (show LeftX (fun (pre : List (Nat × Nat × Nat)) (X : Nat → Prop) (W : World) => (∀ q, X q ↔ q = w.heap.size + 1) ∧ Blk W (w.heap.size + 1) 3 #[.int .i64 (pre.length : Int)]) (fun (_ : Code) (_ : List (Nat × Nat × Nat)) (_ : Nat → Prop) (_ : World) => False) (pre ++ [y]) X1 W .normal ⟨#[], []⟩ (W.setCell ⟨w.heap.size + 1, 0, none⟩ (.int .i64 ((m : Int) + 1))) from by
   refine ⟨⟨X1, ⟨hX, ?_⟩, Grew.refl _ _⟩, hst.mono fun q h => (hX q).2 h⟩
   have h := hb.set 0 (.int .i64 ((m : Int) + 1))
   rw [List.length_append, List.length_singleton, ← hm]
   exact h)
  clear hX hb hg hs hpre hit hI hIx hst hm
  subst hT
  simp only [List.setIfInBounds_toArray, List.set_cons_succ, List.set_cons_zero]
  gi_wp2
  exact HFin.out
 case done =>
  rintro D X1 W hD ⟨hX, hb⟩ hg hk hnD hpo hK
  have hne : w.heap.size + 1 ≠ D := hnD _ ((hX _).2 rfl)
  have c5 := hb.cellv (i := 0) rfl
  have HFin := Lib.hid (fun o : Obj => (show PlM NB B Q (W.putObj D o) P f s ∧ Kq Q w (W.putObj D o) from ⟨hpo.kq (kq_putObj W D o) fun q h e => by have := hQb q h; omega, ((Kq.of HB4.out).then_ hk fun q h => by rcases h with h | h; exact .inl h; exact .inr (by omega)).then_ (kq_putObj W D o) fun q h => .inr (by omega)⟩))
  have HK := Lib.hid hK
  clear hX hb hg hk hnD hpo hK hit hI hIx
  subst hT
  go_wp2
  refine ⟨by simp, .inl ⟨_, _, rfl, run_takeDeferred HK.out, ?_⟩⟩
  exact ⟨.int .i64 (l.length : Int), by simp [results, Tryz.results10, go_sem], rfl, HFin.out _⟩
 case stop =>
  rintro D kc pre2 X1 W _ _ h
  exact h.elim
end Go.Proofs.YtcppkaphlcflgaaGreat
namespace Go.Proofs.YtcppkaphlcflgaaGreat
namespace Spr
open Rl
variable {rs : List Rl} {L : Rl → Nat} {ds : List (List UInt8)} {io : Io} {s : Ps}

def byF (L : Rl → Nat) (ds : List (List UInt8)) (off : Nat) : UInt8 := (pgD L ds (off / 64)).getD (off % 64) 0
theorem wrX_one {x : List UInt8} (hx : x.length = 64) (off : Nat) (v : UInt8) (j : Nat) : (Nod.wrX x off [v]).getD j 0 = if j = off % 64 then v else x.getD j 0 := by
 have hk : Nod.wrK off [v] = 1 := by
  unfold Nod.wrK
  rw [List.length_singleton]
  omega
 have e : Nod.wrX x off [v] = x.set (off % 64) v := by
  unfold Nod.wrX
  rw [hk, List.set_eq_take_append_cons_drop, if_pos (by omega)]
  simp
 rw [e, List.getD_eq_getElem?_getD, List.getD_eq_getElem?_getD]
 by_cases h : j = off % 64
 ·subst h
  rw [if_pos rfl, List.getElem?_set_self (by omega)]
  rfl
 ·rw [if_neg h, List.getElem?_set_ne (Ne.symm h)]
structure Wrd (s : Ps) (L : Rl → Nat) (ds : List (List UInt8)) (io : Io) (off : Nat) (v : UInt8) (rs' : List Rl) (L' : Rl → Nat) (ds' : List (List UInt8)) : Prop where
 rep : Rep rs' L' ds' (Nod.wrS 1 s io off [v]).2
 lk : Lk (Nod.wrS 1 s io off [v]).1 ds'
 ok : Nod.WrOk 1 s io off [v]
 le : ds.length ≤ ds'.length ∧ ds'.length ≤ ds.length + 3
 np : (Nod.wrS 1 s io off [v]).1.np = s.np
 lk_ : ∀ k, L' (dat k) ≠ 0 ↔ L (dat k) ≠ 0 ∨ k = off / 64
 by_ : ∀ o, byF L' ds' o = if o = off then v else byF L ds o
theorem Rep.wrd (h : Rep rs L ds io) (hl : Lk s ds) {off : Nat} (hn : off < 67968) (v : UInt8) (hd : ds.length ≤ 50) (hp : s.np = 60) : ∃ rs' L' ds', Wrd s L ds io off v rs' L' ds' := by
 obtain ⟨rs', L', ds', h1⟩ := h.ens hl (n := off / 64) (by omega) hd hp
 have e : Nod.wrS 1 s io off [v] = Nod.wr1 s io off [v] := if_neg (by simp)
 have hv := h1.rep.V_ (dat (off / 64))
 have hnz := h1.nz
 have hv2 : 2 ≤ L' (dat (off / 64)) ∧ L' (dat (off / 64)) < ds'.length + 2 := by unfold V at hv; omega
 have hg : (Nod.ens s io (off / 64)).1.g (L' (dat (off / 64))) = pgD L' ds' (off / 64) := by
  unfold pgD
  rw [if_neg hnz]
  exact h1.lk.g _ hv2.1
 have hlen := h1.rep.pgD_len (off / 64)
 obtain ⟨r1, r2⟩ := h1.rep.put_ hnz (x := Nod.wrX (pgD L' ds' (off / 64)) off [v]) (Nod.wrX_len hlen)
 have e1 : Nod.wr1 s io off [v] = ((Nod.ens s io (off / 64)).1.put (L' (dat (off / 64))) (Nod.wrX (pgD L' ds' (off / 64)) off [v]), (Nod.ens s io (off / 64)).2.1) := by
  unfold Nod.wr1
  rw [h1.at_, hg]
 have hk : Nod.wrK off [v] = 1 := by
  unfold Nod.wrK
  rw [List.length_singleton]
  omega
 refine ⟨rs', L', ds'.set (L' (dat (off / 64)) - 2) (Nod.wrX (pgD L' ds' (off / 64)) off [v]), ?_, ?_, .inr ⟨h1.ok, ?_⟩, by rw [List.length_set]; exact h1.le, ?_, h1.lk_, fun o => ?_⟩
 ·rw [e, e1]
  exact r1
 ·rw [e, e1]
  exact h1.lk.put hv2.1 hv2.2 _
 ·show ([v] : List UInt8).drop (Nod.wrK off [v]) = []
  rw [hk]
  rfl
 ·rw [e, e1]
  exact h1.np
 ·unfold byF
  rw [r2]
  by_cases h9 : o / 64 = off / 64
  ·rw [if_pos h9, wrX_one hlen]
   by_cases h8 : o % 64 = off % 64
   ·rw [if_pos h8, if_pos (by omega)]
   ·rw [if_neg h8, if_neg (fun e => h8 (by rw [e])), h1.pg, h9]
  ·rw [if_neg h9, if_neg (fun e => h9 (by rw [e])), h1.pg]
theorem Rep.rd_one (h : Rep rs L ds io) (hl : Lk s ds) {off : Nat} (hn : off < 67968) : Nod.rdS 20 s io off (off + 1) = [byF L ds off] := by
 have e1 : Nod.rdH off (off + 1) = off % 64 + 1 := by unfold Nod.rdH; omega
 have e2 : Nod.rdS 20 s io off (off + 1) = Nod.rdB s io off (off + 1) ++ Nod.rdS 19 s io (off + (Nod.rdH off (off + 1) - off % 64)) (off + 1) := if_pos (by omega)
 have e3 : Nod.rdS 19 s io (off + (Nod.rdH off (off + 1) - off % 64)) (off + 1) = [] := if_neg (by omega)
 rw [e2, e3, List.append_nil]
 unfold Nod.rdB
 rw [h.rdPg_ hl (by omega), e1]
 have hlen := h.pgD_len (off / 64)
 unfold byF
 rw [List.take_add_one, List.getElem?_eq_getElem (by omega), List.drop_append_of_le_length (by rw [List.length_take]; omega), List.drop_eq_nil_of_le (by rw [List.length_take]; omega), List.getD_eq_getElem?_getD, List.getElem?_eq_getElem (by omega)]
 rfl
theorem ptrs_lk1 (hl : Lk s ds) {p : Nat} (hp : V ds.length p) (fr : Nat) : Nod.ptrs s.g 1 p fr = ptrs ds 1 p fr := by
 unfold Nod.ptrs ptrs
 by_cases h0 : p = 0
 ·rw [if_pos h0, if_pos h0]
 ·rw [if_neg h0, if_neg h0, hl.g p (by unfold V at hp; omega)]
  exact congrArg _ (flat_congr fun x _ => rfl)
theorem ptrs_lk2 (hl : Lk s ds) (hs : ∀ x ∈ ds, x.length = 64) {p : Nat} (hp : V ds.length p) (hj : ∀ j, j < 32 → V ds.length (ptP ds p j)) (fr : Nat) : Nod.ptrs s.g 2 p fr = ptrs ds 2 p fr := by
 unfold Nod.ptrs ptrs
 by_cases h0 : p = 0
 ·rw [if_pos h0, if_pos h0]
 ·rw [if_neg h0, if_neg h0, hl.g p (by unfold V at hp; omega)]
  refine congrArg _ (flat_congr fun x hx => ?_)
  obtain ⟨j, v⟩ := x
  have hlen : (pgs ds p).length = 64 := getD_len hs (by unfold V at hp; omega)
  obtain ⟨h1, h2, _⟩ := Nod.pts_mem hlen hx
  have h3 := hj j h1
  unfold ptP at h3
  rw [if_neg h0, ← h2] at h3
  exact ptrs_lk1 hl h3 _
theorem Rep.yl_lk (h : Rep rs L ds io) (hl : Lk s ds) : Nod.yl s.g io = yl ds io := by
 have hb : V ds.length io.b := by rw [h.rp.b]; exact h.V_ _
 have hs : V ds.length io.s := by rw [h.rp.s]; exact h.V_ _
 unfold Nod.yl yl
 rw [ptrs_lk1 hl hs, ptrs_lk2 hl h.rp.sz hb fun j hj => by rw [h.ptP_ hj]; exact h.V_ _]
 rfl
theorem Rep.numsI_ (h : Rep rs L ds io) (hl : Lk s ds) : numsI (Nod.yl s.g io) = dls L := by
 rw [h.yl_lk hl]
 unfold numsI dls
 rw [← h.yl_.1]
 unfold nums
 rw [List.map_map]
 rfl
theorem Wrd.more {off : Nat} {v : UInt8} {rs' : List Rl} {L' : Rl → Nat} {ds' : List (List UInt8)} (k : Wrd s L ds io off v rs' L' ds') (h : Rep rs L ds io) (hl : Lk s ds) (hn : off < 67968) :
  Room.moreR 64 (numsI (Nod.yl s.g io)) ((off / 64 : Nat) : Int) (((off + 1 + 63) / 64 : Nat) : Int) = ((ds'.length : Int) - (ds.length : Int), 0) := by
 rw [h.numsI_ hl, show (((off + 1 + 63) / 64 : Nat) : Int) = ((off / 64 : Nat) : Int) + 1 by omega]
 unfold Room.moreR
 rw [dls_with (L' := L') (by omega) k.lk_, h.file, k.rep.file, if_neg (by simp), if_neg (by simp)]
end Spr
end Go.Proofs.YtcppkaphlcflgaaGreat
namespace Go.Proofs.YtcppkaphlcflgaaGreat
open Spr Pol
namespace Sps
def lw (ws : List Nat) : Nat → Nat → UInt8
 | 0, _ => 0
 | k + 1, off => if ws.getD k 0 = off then UInt8.ofNat (k + 1) else lw ws k off
structure At (ws : List Nat) (k : Nat) (s : Ps) (fi : Nf) (l : List Int) (z : Nat) (rs : List Rl) (L : Rl → Nat) (ds : List (List UInt8)) : Prop where
 rep : Rep rs L ds fi.io
 lk : Lk s ds
 np : s.np = 60
 le : ds.length ≤ 3 * k
 by_ : ∀ o, byF L ds o = lw ws k o
 hl : l = dls L
 fk : fi.k = 1 ∧ fi.l = 0
 fs : fi.s = (z : Int)
 z2 : z ≤ 65536
 z3 : ∀ j, j < k → ws.getD j 0 < z
def St (ws : List Nat) (k : Nat) (s : Ps) (fi : Nf) (l : List Int) : Prop := ∃ z rs L ds, At ws k s fi l z rs L ds
variable {ws : List Nat} {k : Nat} {s : Ps} {fi : Nf} {l : List Int}
def fi0 : Nf := ⟨1, 0, 0, ⟨[0, 0, 0, 0, 0, 0], 0, 0⟩⟩
theorem zeros_at (j : Nat) : Spr.zeros.getD j 0 = 0 := by
 unfold Spr.zeros
 rw [List.getD_eq_getElem?_getD]
 rcases Nat.lt_or_ge j 64 with h | h
 ·rw [List.getElem?_replicate, if_pos h]; rfl
 ·rw [List.getElem?_eq_none (by rw [List.length_replicate]; exact h)]; rfl
theorem St.start (ws : List Nat) (f : Fm) : St ws 0 (Ps.new0 f 1 60 0) fi0 [] := by
 refine ⟨0, [], fun _ => 0, [], Rep.zero, ⟨rfl, rfl, fun n hn => ?_⟩, rfl, by simp, fun o => ?_, ?_, ⟨rfl, rfl⟩, rfl, by omega, fun j hj => by omega⟩
 ·exact if_neg (by omega)
 ·unfold byF pgD
  rw [if_pos rfl, zeros_at]
  rfl
 ·unfold dls
  have e : lst (fD fun _ => 0) 0 1062 = [] := lst_none fun x _ _ => rfl
  rw [e]
  rfl
structure Step (ws : List Nat) (k off : Nat) (v : UInt8) (s : Ps) (fi : Nf) (l : List Int) : Prop where
 wf : Nod.Wf s fi.io
 ok : Nod.WrOk 1 s fi.io off [v]
 more : ∃ mo : Int, Room.moreR 64 (numsI (Nod.yl s.g fi.io)) ((off / 64 : Nat) : Int) (((off + 1 + 63) / 64 : Nat) : Int) = (mo, 0) ∧ mo ≤ (s.np : Int) - (s.us.length : Int)
 ln : l.length ≤ 2000
 st : St ws (k + 1) (Nod.wrS 1 s fi.io off [v]).1 (withS fi (max fi.s ((off + 1 : Nat) : Int)) (Nod.wrS 1 s fi.io off [v]).2) (Room.row (Room.all l ((off / 64 : Nat) : Int) (((off / 64 : Nat) : Int) + 1)))
theorem dls_len {rs : List Rl} {L : Rl → Nat} {ds : List (List UInt8)} {io : Io} (h : Rep rs L ds io) : (dls L).length ≤ ds.length := by
 unfold dls
 rw [List.length_map, h.rp.len, h.count]
 omega
theorem St.step (h : St ws k s fi l) {off : Nat} (hk : k < 8) (ho : off = ws.getD k 0) (h6 : off < 65536) {v : UInt8} (hv : v = UInt8.ofNat (k + 1)) : Step ws k off v s fi l := by
 obtain ⟨z, rs, L, ds, h⟩ := h
 have hle := h.le
 obtain ⟨rs', L', ds', w⟩ := h.rep.wrd h.lk (off := off) (by omega) v (by omega) h.np
 have hle' := w.le
 refine ⟨h.rep.wf h.lk, w.ok, ⟨_, w.more h.rep h.lk (by omega), by rw [h.np, h.lk.len]; omega⟩, ?_, max z (off + 1), rs', L', ds', w.rep, w.lk, w.np.trans h.np, by omega, fun o => ?_, ?_, h.fk, ?_, ?_, fun j hj => ?_⟩
 ·rw [h.hl]
  have := dls_len h.rep
  omega
 ·rw [w.by_, h.by_, lw, ← ho, hv]
  by_cases e : o = off
  ·rw [if_pos e, if_pos e.symm]
  ·rw [if_neg e, if_neg (Ne.symm e)]
 ·rw [h.hl]
  exact dls_with (by omega) w.lk_
 ·show max fi.s ((off + 1 : Nat) : Int) = _
  rw [h.fs]
  omega
 ·have := h.z2
  omega
 ·by_cases e : j = k
  ·rw [e, ← ho]; omega
  ·have := h.z3 j (by omega)
   omega
theorem St.count (h : St ws k s fi l) (hk : k ≤ 8) : ∃ D : Nat, Room.file 64 l = ((D : Int), 0) ∧ (Nod.yl s.g fi.io).length = D ∧ s.np = 60 ∧ s.us.length = D ∧ D ≤ 24 ∧ l.length ≤ 24 ∧ (∀ x ∈ l, -9223372036854775808 ≤ x ∧ x ≤ 9223372036854775807) := by
 obtain ⟨z, rs, L, ds, h⟩ := h
 have hle := h.le
 refine ⟨ds.length, by rw [h.hl]; exact h.rep.file, by rw [h.rep.yl_lk h.lk]; exact h.rep.takes, h.np, h.lk.len, by omega, ?_, fun x hx => ?_⟩
 ·rw [h.hl]
  have := dls_len h.rep
  omega
 ·rw [h.hl] at hx
  obtain ⟨n, rfl, h1, _⟩ := mem_dls.1 hx
  omega
theorem St.wf (h : St ws k s fi l) : Nod.Wf s fi.io := by
 obtain ⟨z, rs, L, ds, h⟩ := h
 exact h.rep.wf h.lk
theorem St.read (h : St ws k s fi l) {n : Nat} (hn : n < k) : ∃ z : Nat, fi.s = (z : Int) ∧ z ≤ 67968 ∧ Nod.rdS 20 s fi.io (ws.getD n 0) (ws.getD n 0 + min 1 (z - ws.getD n 0)) = [lw ws k (ws.getD n 0)] := by
 obtain ⟨z, rs, L, ds, h⟩ := h
 have h1 := h.z3 n hn
 have h2 := h.z2
 refine ⟨z, h.fs, by omega, ?_⟩
 rw [show min 1 (z - ws.getD n 0) = 1 by omega, h.rep.rd_one h.lk (by omega), h.by_]
def La (ws : List Nat) (n m last : Nat) : Prop := last < 8 ∧ (m = n → last = n) ∧ (n < m → lw ws m (ws.getD n 0) = UInt8.ofNat (last + 1))
theorem La.start {n : Nat} (h : n < 8) : La ws n n n := ⟨h, fun _ => rfl, fun h => by omega⟩
theorem La.same {n m last : Nat} (_ : La ws n m last) (hm : m < 8) (_ : n ≤ m) (e : ws.getD m 0 = ws.getD n 0) : La ws n (m + 1) m := ⟨hm, fun h => by omega, fun _ => if_pos e⟩
theorem La.other {n m last : Nat} (h : La ws n m last) (hm : n ≤ m) (e : ws.getD m 0 ≠ ws.getD n 0) : La ws n (m + 1) last := by
 refine ⟨h.1, fun h => by omega, fun _ => ?_⟩
 rw [lw, if_neg e]
 exact h.2.2 (by
  rcases Nat.lt_or_ge n m with h1 | h1
  ·exact h1
  ·have : m = n := by omega
   rw [this] at e
   exact absurd rfl e)
end Sps
end Go.Proofs.YtcppkaphlcflgaaGreat
namespace Go.Proofs.YtcppkaphlcflgaaGreat
open Go.RowKit Pol Spr

structure SpW (w : World) (B I Z : Nat) (f : Fm) (s : Ps) (fi : Nf) (v : Value) (l : List Int) (R : Nat → Prop) (W : World) : Prop where
 p : PlM 16 B R W Z f s
 hB : w.heap.size ≤ B
 i : Blk W I 35 (nfC fi)
 ir : ¬ R I
 iw : w.heap.size ≤ I
 o : Own intV 3 W 0 v l
 vr : ∀ q, v.ownBlock = some q → ¬ R q ∧ q ≠ I ∧ w.heap.size ≤ q
 bel : Below w.heap.size w W
section
variable {w W W' : World} {B I Z : Nat} {f : Fm} {s s' : Ps} {fi fi' : Nf} {v v' : Value} {l l' : List Int} {R : Nat → Prop}
theorem SpW.step_ (h : SpW w B I Z f s fi v l R W) {R' : Nat → Prop} (hp : PlM 16 B R' W' Z f s') (hk : Kq R W W') (hR : ∀ q, R' q → R q ∨ W.heap.size ≤ q) : SpW w B I Z f s' fi v l R' W' :=
 ⟨hp, h.hB, h.i.kq hk h.ir, fun h1 => (hR I h1).elim h.ir fun h2 => by have := h.i.lt; omega, h.iw, h.o.kq hk fun q hq => (h.vr q hq).1,
  fun q hq => ⟨fun h1 => (hR q h1).elim (h.vr q hq).1 fun h2 => by have := (h.o.blockLt q hq).2; omega, (h.vr q hq).2⟩,
  h.bel.trans (hk.below (fun q hq => Nat.le_trans h.hB (h.p.bnd q hq).1) h.bel.size)⟩
theorem SpW.call (h : SpW w B I Z f s fi v l R W) (k : PlR 16 B R W W' Z f s') : SpW w B I Z f s' fi v l (Up R W W') W' := h.step_ k.1 k.2 fun q hq => by
 rcases hq with h1 | h1
 ·exact .inl h1
 ·exact .inr h1.1
theorem SpW.ask (h : SpW w B I Z f s fi v l R W) (hp : PlM 16 B R W' Z f s) (hk : Kq R W W') : SpW w B I Z f s fi v l R W' := h.step_ hp hk fun _ hq => .inl hq
theorem SpW.on (h : SpW w B I Z f s fi v l R W) (hb : Below W.heap.size W W') : SpW w B I Z f s fi v l R W' := h.ask (h.p.on hb) (Kq.of hb)
theorem SpW.far (h : SpW w B I Z f s fi v l R W) {J : Nat} (hJ : ¬ R J) (hI : J ≠ I) (hv : v.ownBlock ≠ some J) (hw : w.heap.size ≤ J) (cs : Array Value) : SpW w B I Z f s fi v l R (W.setRow J cs) := by
 have hk := kq_rowOne W J cs
 exact ⟨h.p.kq hk fun q hq e => hJ (e ▸ hq), h.hB, h.i.kq hk fun e => hI e.symm, h.ir, h.iw, h.o.kq hk fun q hq e => hv (by rw [hq, e]), h.vr, h.bel.trans (hk.below (fun q hq => hq ▸ hw) h.bel.size)⟩
theorem SpW.setI (h : SpW w B I Z f s fi v l R W) (fi' : Nf) : SpW w B I Z f s fi' v l R (W.setRow I (nfC fi')) := by
 have hk := kq_rowOne W I (nfC fi')
 exact ⟨h.p.kq hk fun q hq e => h.ir (e ▸ hq), h.hB, h.i.row _, h.ir, h.iw, h.o.kq hk fun q hq e => (h.vr q hq).2.1 e, h.vr, h.bel.trans (hk.below (fun q hq => hq ▸ h.iw) h.bel.size)⟩
theorem SpW.setV (h : SpW w B I Z f s fi v l R W) (ho : Own intV 3 W' W.heap.size v' l') (hb : Below W.heap.size W W') : SpW w B I Z f s fi v' l' R W' := by
 have h1 := h.on hb
 refine ⟨h1.p, h1.hB, h1.i, h1.ir, h1.iw, ho.mono (Nat.zero_le _), fun q hq => ?_, h1.bel⟩
 have h2 := (ho.blockLt q hq).1
 have h3 := h.i.lt
 have h4 := h.bel.size
 exact ⟨h.p.not_new h2, by omega, by omega⟩
theorem spWrite {ws : List Nat} {k off g : Nat} {vb : UInt8} (h : SpW w B I Z f s fi v l R W) (hst : Sps.Step ws k off vb s fi l) (hx : Bytes W W.heap.size (some ⟨g, 0, none⟩) 1 [vb]) (hg : ¬ R g ∧ g < W.heap.size) (hoff : off < 65536)
  (hs' : s' = (Nod.wrS 1 s fi.io off [vb]).1) (hfi : fi' = withS fi (max fi.s ((off + 1 : Nat) : Int)) (Nod.wrS 1 s fi.io off [vb]).2) :
  Calls Tryz.prog 7 #[.pointer (some ⟨Z, 0, none⟩), .agg (nfC fi), .int .i64 (off : Int), .slice (some ⟨g, 0, none⟩) 1 1] W fun e W' => e = .returned (.tuple #[.agg (nfC fi'), .int .i64 0]) ∧ SpW w B I Z f s' fi v l (Up R W W') W' ∧ Kq R W W' := by
 obtain ⟨mo, h1, h2⟩ := hst.more
 refine (nodWrite_calls (fuel := 1) h.p hst.wf hx (Nat.le_refl _) (by simp) (by omega) (by omega) h1 h2 hst.ok fun bl o e => ?_).mono ?_
 ·injection e with e
  injection e with e
  exact e ▸ hg
 ·rintro e W' ⟨rfl, h3⟩
  subst hs' hfi
  exact ⟨rfl, h.call h3, h3.2⟩
end
section
variable {w W W' : World} {B I Z : Nat} {f : Fm} {s s' : Ps} {fi : Nf} {v : Value} {l : List Int} {R : Nat → Prop} {J : Nat} {cs : Array Value}
def Jb (w : World) (I : Nat) (v : Value) (R : Nat → Prop) (W : World) (J : Nat) (cs : Array Value) : Prop := Blk W J 35 cs ∧ ¬ R J ∧ J ≠ I ∧ v.ownBlock ≠ some J ∧ w.heap.size ≤ J
theorem jb_new (h : SpW w B I Z f s fi v l R W) (cs : Array Value) : Jb w I v R (W.alloc (.cells cs 35)) W.heap.size cs :=
 ⟨Blk.new W _ _, h.p.not_new (Nat.le_refl _), fun e => by have := h.i.lt; omega, fun e => by have := (h.o.blockLt _ e).2; omega, h.bel.size⟩
theorem jb_newAt (h : SpW w B I Z f s fi v l R W) (cs : Array Value) (hJ : J = W.heap.size) : Jb w I v R (W.alloc (.cells cs 35)) J cs := by subst hJ; exact jb_new h cs
theorem g_at (h : SpW w B I Z f s fi v l R W) {g : Nat} (hg : g = W.heap.size) (o : Obj) : ¬ R g ∧ g < (W.alloc o).heap.size := by
 subst hg
 exact ⟨h.p.not_new (Nat.le_refl _), by simp⟩
theorem lit_at (W : World) {g : Nat} (hg : g = W.heap.size) {vb : UInt8} {cs : Array Value} (hcs : cs = ([vb].map byteV).toArray) : Bytes (W.alloc (.cells cs 5)) (W.alloc (.cells cs 5)).heap.size (some ⟨g, 0, none⟩) 1 [vb] := by
 subst hg
 exact Arr.lit W 5 [vb] 1 rfl (by omega) hcs
theorem jb_on (h : Jb w I v R W J cs) (hb : Below W.heap.size W W') : Jb w I v R W' J cs := ⟨h.1.belowHere hb, h.2⟩
theorem jb_call (h : Jb w I v R W J cs) (hk : Kq R W W') : Jb w I v (Up R W W') W' J cs := ⟨h.1.kq hk h.2.1, fun h1 => h.2.1 (up_of h1 h.1.lt), h.2.2⟩
theorem jb_set (h : SpW w B I Z f s fi v l R W) (hj : Jb w I v R W J cs) (cs' : Array Value) : SpW w B I Z f s fi v l R (W.setRow J cs') ∧ Jb w I v R (W.setRow J cs') J cs' :=
 ⟨h.far hj.2.1 hj.2.2.1 hj.2.2.2.1 hj.2.2.2.2 cs', hj.1.row _, hj.2⟩
end
theorem nf_cells {W : World} {I : Nat} {fi : Nf} (h : Blk W I 35 (nfC fi)) : W.cell? ⟨I, 0, none⟩ = some (.int .i64 fi.k) ∧ W.cell? ⟨I, 1, none⟩ = some (.int .i64 fi.l) ∧ W.cell? ⟨I, 2, none⟩ = some (.int .i64 fi.s) ∧ W.cell? ⟨I, 3, none⟩ = some (.int .i64 (nd fi 0)) ∧ W.cell? ⟨I, 4, none⟩ = some (.int .i64 (nd fi 1)) ∧ W.cell? ⟨I, 5, none⟩ = some (.int .i64 (nd fi 2)) ∧ W.cell? ⟨I, 6, none⟩ = some (.int .i64 (nd fi 3)) ∧ W.cell? ⟨I, 7, none⟩ = some (.int .i64 (nd fi 4)) ∧ W.cell? ⟨I, 8, none⟩ = some (.int .i64 (nd fi 5)) ∧ W.cell? ⟨I, 9, none⟩ = some (.int .i64 (fi.io.s : Int)) ∧ W.cell? ⟨I, 10, none⟩ = some (.int .i64 (fi.io.b : Int)) :=
 ⟨h.cellv (i := 0) rfl, h.cellv (i := 1) rfl, h.cellv (i := 2) rfl, h.cellv (i := 3) rfl, h.cellv (i := 4) rfl, h.cellv (i := 5) rfl, h.cellv (i := 6) rfl, h.cellv (i := 7) rfl, h.cellv (i := 8) rfl, h.cellv (i := 9) rfl, h.cellv (i := 10) rfl⟩
theorem step_storeB {P : Program} {ops : Array Oper} {o : Oper} {a : Act} {w : World} {K : Act → World → Prop} {Q : Exit → Act → World → Prop} {E : Prop} (hgd : o.guard = none) (ty : TypeId) (x y : Operand) (ho : o.op = .store ty x y)
  (g : Nat) (cells : Array Value) (hx : a.eval x = .pointer (some ⟨g, 0, none⟩)) (hy : a.eval y = .agg cells)
  (t : TypeId) (old : Array Value) (hg : Blk w g t old) (hi : (P.info? ty).map (·.size) = some cells.size)
  (hold : old.size = cells.size) (h1 : cells.all (·.oneCell') = true)
  (h : K (a.put o.dst undef) (w.setRow g cells)) : if Region.wanted o (yielded ops a.tmps) = true then Oper.wp P o a w K Q else E := by
 have hw : Region.wanted o (yielded ops a.tmps) = true := by simp [Region.wanted, hgd]
 rw [if_pos hw]
 exact wp_store_row ty x y ho g cells hx hy t old hg hi hold h1 h
end Go.Proofs.YtcppkaphlcflgaaGreat
