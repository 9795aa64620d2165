import Derived.Test.YtcppkaphlcflgaaGreatNodRead
import Derived.Test.YtcppkaphlcflgaaGreatNodSet
import Derived.Test.YtcppkaphlcflgaaGreatRoomMore
namespace Go.Proofs.YtcppkaphlcflgaaGreat
open Lib (hid)
set_option maxRecDepth 100000
set_option maxHeartbeats 16000000
open Go.RowKit Pol Nod
variable {NB B P : Nat} {Q : Nat → Prop} {w w' : World} {f : Fm} {s : Ps}

theorem ptsTo_lt {x : List UInt8} {j v : Nat} (h : (j, v) ∈ Pt.pts x) (hx : x.length = 64 ∨ x = []) : j < 32 := by
 rcases hx with hx | hx
 ·exact (pts_mem hx h).1
 ·subst hx
  have e : Pt.pts ([] : List UInt8) = [] := if_neg (by decide)
  rw [e] at h
  cases h
theorem yl_num {s : Ps} (ho : s.Ok) (io : Spr.Io) : ∀ x ∈ yl s.g io, x.1 < 1062 := by
 have hx : ∀ p, (s.g p).length = 64 ∨ s.g p = [] := fun p => by
  by_cases h : s.There p
  ·exact .inl (ho.sz p h)
  ·exact .inr (ho.no p h)
 have h0 : ∀ p fr, ∀ x ∈ ptrs s.g 0 p fr, x.1 = fr := fun p fr x h => by
  unfold ptrs at h
  split at h
  ·cases h
  ·rw [List.mem_singleton.1 h]
 have h1 : ∀ p fr, ∀ x ∈ ptrs s.g 1 p fr, x.1 < fr + 32 := fun p fr x h => by
  rw [ptrs] at h
  split at h
  ·cases h
  ·rcases List.mem_cons.1 h with rfl | h
   ·show fr < fr + 32; omega
   ·obtain ⟨⟨j, v⟩, hy, h⟩ := List.mem_flatMap.1 h
    have := ptsTo_lt hy (hx p)
    rw [h0 _ _ x h]
    simp only [Nat.zero_ne_one, if_false]
    omega
 have h2 : ∀ p fr, ∀ x ∈ ptrs s.g 2 p fr, x.1 < fr + 1024 := fun p fr x h => by
  rw [ptrs] at h
  split at h
  ·cases h
  ·rcases List.mem_cons.1 h with rfl | h
   ·show fr < fr + 1024; omega
   ·obtain ⟨⟨j, v⟩, hy, h⟩ := List.mem_flatMap.1 h
    have := ptsTo_lt hy (hx p)
    have := h1 _ _ x h
    simp only [if_true] at this
    omega
 intro x h
 unfold yl at h
 rcases List.mem_append.1 h with h | h
 ·rcases List.mem_append.1 h with h | h
  ·obtain ⟨k, hk, h⟩ := List.mem_flatMap.1 h
   have := List.mem_range.1 hk
   rw [h0 _ _ x h]
   omega
  ·have := h1 _ _ x h; omega
 ·have := h2 _ _ x h; omega
theorem numsI_bd {s : Ps} (ho : s.Ok) (io : Spr.Io) : ∀ x ∈ numsI (yl s.g io), -9223372036854775808 ≤ x ∧ x ≤ 9223372036854775807 := fun x h => by
 unfold numsI at h
 obtain ⟨y, hy, rfl⟩ := List.mem_map.1 h
 have := yl_num ho io y (List.mem_filter.1 hy).1
 omega
def withS (fi : Nf) (z : Int) (io : Spr.Io) : Nf := { fi with s := z, io := io }
structure Nwr (NB B : Nat) (Q : Nat → Prop) (w1 : World) (F P : Nat) (f : Fm) (s : Ps) (fi : Nf) (io : Spr.Io) (W : World) : Prop where
 p : PlM NB B (Up Q w1 W) W P f s
 n : NfM W F P { fi with io := io }
 k : Kq (fun q => Q q ∨ q = F) w1 W
 q : ∀ q, Q q → q < w1.heap.size
 b : B ≤ w1.heap.size
theorem Nwr.call {w1 W W' : World} {F : Nat} {fi : Nf} {io : Spr.Io} {s' : Ps} (h : Nwr NB B Q w1 F P f s fi io W) (hF : ¬ Q F) (hl : F < w1.heap.size) (k : PlR NB B (Up Q w1 W) W W' P f s') : Nwr NB B Q w1 F P f s' fi io W' := by
 have hs := h.k.size
 have hsk := k.2.size
 refine ⟨k.1.more (fun q hq => up_up hs hsk hq) fun q hq => ?_, h.n.kq k.2 fun hq => ?_, h.k.then_ k.2 fun q hq => ?_, h.q, h.b⟩
 ·rcases hq with h1 | h1
  ·have := h.q q h1; exact k.1.bnd q (.inl (.inl h1))
  ·have := h.b; omega
 ·rcases hq with h1 | h1
  ·exact hF h1
  ·omega
 ·rcases hq with h1 | h1
  ·exact .inl (.inl h1)
  ·exact .inr h1.1
theorem Nwr.on {w1 W W' : World} {F : Nat} {fi : Nf} {io : Spr.Io} (h : Nwr NB B Q w1 F P f s fi io W) (hF : ¬ Q F) (hl : F < w1.heap.size) (hb : Below W.heap.size W W') : Nwr NB B Q w1 F P f s fi io W' := h.call hF hl (h.p.on_ hb)
theorem Nwr.asked {w1 W W' : World} {F : Nat} {fi : Nf} {io : Spr.Io} (h : Nwr NB B Q w1 F P f s fi io W) (hF : ¬ Q F) (hl : F < w1.heap.size) (h1 : PlM NB B (Up Q w1 W) W' P f s) (h2 : Kq (Up Q w1 W) W W') : Nwr NB B Q w1 F P f s fi io W' := h.call hF hl (PlM.same_ h1 h2 h.p.base)
theorem Nwr.set {w1 W W' : World} {F : Nat} {fi : Nf} {io io' : Spr.Io} {s' : Ps} {e : Ending} (h : Nwr NB B Q w1 F P f s fi io W) (hs : NodSet NB B (Up Q w1 W) F P f s' { fi with io := io } io' W e W') : Nwr NB B Q w1 F P f s' fi io' W' := by
 obtain ⟨_, h1, h2, h3⟩ := hs
 have hs := h.k.size
 have hsk := h3.size
 refine ⟨h1.more (fun q hq => up_up hs hsk hq) fun q hq => ?_, h2, h.k.then_ h3 fun q hq => ?_, h.q, h.b⟩
 ·rcases hq with h5 | h5
  ·exact h1.bnd q (.inl (.inl h5))
  ·have := h.b; omega
 ·rcases hq with h5 | h5
  ·rcases h5 with h6 | h6
   ·exact .inl (.inl h6)
   ·exact .inr h6.1
  ·exact .inl (.inr h5)
theorem Nwr.far {w1 W : World} {F q : Nat} {fi : Nf} {io : Spr.Io} (_ : Nwr NB B Q w1 F P f s fi io W) (hF : ¬ Q q) (hl : q < w1.heap.size) : ¬ Up Q w1 W q := fun h1 => hF (up_of h1 hl)
theorem kq_from {B : Nat} {W W' : World} (h : Below B W W') : Kq (fun k => B ≤ k) W W' := ⟨h.os, h.tape, h.output, h.size, fun k _ h1 => h.block k (by omega)⟩
theorem kq_rowOne (W : World) (g : Nat) (cs : Array Value) : Kq (fun q => q = g) W (W.setRow g cs) := ⟨rfl, rfl, rfl, by simp, fun k _ h => setRow_other W g k cs h⟩
theorem Nwr.got {w1 W W5 W6 : World} {F : Nat} {fi : Nf} {io : Spr.Io} (h : Nwr NB B Q w1 F P f s fi io W) (hF : ¬ Q F) (hl : F < w1.heap.size) (h1 : PlM NB B (Up Q w1 W) W5 P f s) (h2 : Kq (Up Q w1 W) W W5) (hb : Below W.heap.size W5 W6) : Nwr NB B Q w1 F P f s fi io W6 :=
 h.asked hF hl ((h1.kq (T := fun k => W.heap.size ≤ k) (kq_from hb) fun q hq h3 => by have := (h.p.bnd q hq).2; omega)) ⟨hb.os.trans h2.os, hb.tape.trans h2.tape, hb.output.trans h2.output, Nat.le_trans h2.size hb.size, fun k hk hn => (hb.block k (by omega)).trans (h2.block k hk hn)⟩
theorem cutA_addr {a : Option Addr} {c l bl o : Nat} {f : Nat → Prop} (h : ∀ bl o, a = some ⟨bl, o, none⟩ → f bl) (ha : ∃ bl o, a = some ⟨bl, o, none⟩) (he : cutA a c l = some ⟨bl, o, none⟩) : f bl := by
 obtain ⟨b1, o1, rfl⟩ := ha
 have h1 := h b1 o1 rfl
 unfold cutA at he
 split at he
 ·injection he with he
  injection he with he
  exact he ▸ h1
 ·have e2 : some (Addr.add ⟨b1, o1, none⟩ l) = some ⟨bl, o, none⟩ := he
  rw [Addr.add_mid] at e2
  injection e2 with e2
  injection e2 with e2
  exact e2 ▸ h1
theorem nfInfo : (Tryz.prog.info? 35).map (·.size) = some 11 := by kernel_rfl
theorem nfOne (fi : Nf) : (nfC fi).all (·.oneCell') = true := by simp [nfC, Value.oneCell']
theorem NfM.cells {F : Nat} {fi : Nf} (h : NfM w F P fi) : Blk w F 82 (nfA P fi) := by rw [nfA_eq h.dl]; exact h.blk
theorem nodWrite_calls {fi : Nf} {off m c fuel : Nat} {b : List UInt8} {mo : Int} {a : Option Addr} (h : PlM NB B Q w P f s) (hw : Wf s fi.io) (hx : Bytes w w.heap.size a m b) (hmc : m ≤ c) (hnb : b ≠ []) (hbl : m ≤ 1024) (hoff : off + m ≤ 67968)
  (hmore : Room.moreR 64 (numsI (yl s.g fi.io)) ((off / 64 : Nat) : Int) (((off + m + 63) / 64 : Nat) : Int) = (mo, 0)) (hmo : mo ≤ (s.np : Int) - (s.us.length : Int)) (hok : WrOk fuel s fi.io off b) (hqa : ∀ bl o, a = some ⟨bl, o, none⟩ → ¬ Q bl ∧ bl < w.heap.size) :
  Calls Tryz.prog 7 #[.pointer (some ⟨P, 0, none⟩), nfV fi, .int .i64 (off : Int), .slice a m c] w fun e w' => e = .returned (.tuple #[nfV (withS fi (max fi.s ((off + m : Nat) : Int)) (wrS fuel s fi.io off b).2), .int .i64 0]) ∧ PlR NB B Q w w' P f (wrS fuel s fi.io off b).1 := by
 have HH := hid h
 have HW := hid hw
 have HX := hid hx
 have HOk := hid hok
 have HQa := hid hqa
 have HMore := hid hmore
 have HMo := hid hmo
 have HDl := hid hw.dl
 have HNb := hid hnb
 have hml := hx.len
 have HMl := hid hml
 have hm1 : 1 ≤ m := by rw [← hml]; exact List.length_pos_iff.2 hnb
 unfold nfV nfC
 have g0 : ¬ (off : Int) < 0 := by omega
 have g1 : ¬ (1024 : Int) < (m : Int) := by omega
 have g2 := IntWalk.i64_in (67968 - (m : Int)) ⟨by omega, by omega⟩
 have g3 : ¬ 67968 - (m : Int) < (off : Int) := by omega
 have g4 : ((m : Int) == 0) = false := by rw [beq_eq_false_iff_ne]; omega
 have g5 := IntWalk.i64_in ((off : Int) + (m : Int)) ⟨by omega, by omega⟩
 have g6 := IntWalk.i64_in (64 : Int) ⟨by omega, by omega⟩
 have HMs := hid (show Ino.most 64 = 67968 from by decide)
 clear h hw hx hok hqa hmore hmo hnb hml
 go_enter Tryz.func7, Tryz.ntmps7
 have hb2 : Below w.heap.size w ((w.alloc (.cells #[.int .i64 fi.k, .int .i64 fi.l, .int .i64 fi.s, .int .i64 (nd fi 0), .int .i64 (nd fi 1), .int .i64 (nd fi 2), .int .i64 (nd fi 3), .int .i64 (nd fi 4), .int .i64 (nd fi 5), .int .i64 (fi.io.s : Int), .int .i64 (fi.io.b : Int)] 35)).alloc (.cells #[.int .i64 0, .int .i64 0, .int .i64 0, .int .i64 0, .int .i64 0, .int .i64 0, .int .i64 0, .int .i64 0, .int .i64 0, .int .i64 0, .int .i64 0] 35)) := ((Below.refl _ w).alloc (Nat.le_refl _) _).alloc (by simp) _
 have hz0 := (Blk.new w 35 #[.int .i64 fi.k, .int .i64 fi.l, .int .i64 fi.s, .int .i64 (nd fi 0), .int .i64 (nd fi 1), .int .i64 (nd fi 2), .int .i64 (nd fi 3), .int .i64 (nd fi 4), .int .i64 (nd fi 5), .int .i64 (fi.io.s : Int), .int .i64 (fi.io.b : Int)]).alloc (.cells #[.int .i64 0, .int .i64 0, .int .i64 0, .int .i64 0, .int .i64 0, .int .i64 0, .int .i64 0, .int .i64 0, .int .i64 0, .int .i64 0, .int .i64 0] 35)
 have hz1 := Blk.new (w.alloc (.cells #[.int .i64 fi.k, .int .i64 fi.l, .int .i64 fi.s, .int .i64 (nd fi 0), .int .i64 (nd fi 1), .int .i64 (nd fi 2), .int .i64 (nd fi 3), .int .i64 (nd fi 4), .int .i64 (nd fi 5), .int .i64 (fi.io.s : Int), .int .i64 (fi.io.b : Int)] 35)) 35 #[.int .i64 0, .int .i64 0, .int .i64 0, .int .i64 0, .int .i64 0, .int .i64 0, .int .i64 0, .int .i64 0, .int .i64 0, .int .i64 0, .int .i64 0]
 have hs2 : ((w.alloc (.cells #[.int .i64 fi.k, .int .i64 fi.l, .int .i64 fi.s, .int .i64 (nd fi 0), .int .i64 (nd fi 1), .int .i64 (nd fi 2), .int .i64 (nd fi 3), .int .i64 (nd fi 4), .int .i64 (nd fi 5), .int .i64 (fi.io.s : Int), .int .i64 (fi.io.b : Int)] 35)).alloc (.cells #[.int .i64 0, .int .i64 0, .int .i64 0, .int .i64 0, .int .i64 0, .int .i64 0, .int .i64 0, .int .i64 0, .int .i64 0, .int .i64 0, .int .i64 0] 35)).heap.size = w.heap.size + 2 := by simp
 simp only [World.size_alloc] at hz1
 have HB2 := hid hb2
 have HZ0 := hid hz0
 have HZ1 := hid hz1
 have HS2 := hid hs2
 clear hb2 hz0 hz1 hs2
 go_wp2_with fail
 generalize (w.alloc (.cells #[.int .i64 fi.k, .int .i64 fi.l, .int .i64 fi.s, .int .i64 (nd fi 0), .int .i64 (nd fi 1), .int .i64 (nd fi 2), .int .i64 (nd fi 3), .int .i64 (nd fi 4), .int .i64 (nd fi 5), .int .i64 (fi.io.s : Int), .int .i64 (fi.io.b : Int)] 35)).alloc (.cells #[.int .i64 0, .int .i64 0, .int .i64 0, .int .i64 0, .int .i64 0, .int .i64 0, .int .i64 0, .int .i64 0, .int .i64 0, .int .i64 0, .int .i64 0] 35) = w2 at *
 have HP2 := hid (HH.out.on HB2.out)
 refine (polSize_calls HP2.out).mono ?_
 rintro e w_ ⟨rfl, rfl⟩
 go_wp2_with fail
 refine (most_calls 64 w2).mono ?_
 rintro e w_ ⟨rfl, rfl⟩
 rw [HMs.out]
 go_wp2_with fail
 refine (polSize_calls HP2.out).mono ?_
 rintro e w_ ⟨rfl, rfl⟩
 go_upto_region 11 with fail
 have HK2 := hid HS2.out
 have HZn := hid (show ∀ k, w.heap.size ≤ k → ¬ Q k from fun k hk => HH.out.not_new hk)
 go_cut [12, 13] (fun v12 v13 wx => v12 = .int .i64 mo ∧ v13 = .int .i64 0 ∧ Hid (PlM NB B Q wx P f s ∧ Kq Q w2 wx))
 case first =>
  have HKd := hid (Kq.of (T := Q) (below_drew w2))
  have HPd := hid (HP2.out.on (below_drew w2))
  have h7 := IntWalk.i64_in ((off : Int) / 64) ⟨by omega, by omega⟩
  have h10 := IntWalk.i64_in ((off : Int) + (m : Int) + 64) ⟨by omega, by omega⟩
  have h11 := IntWalk.i64_in ((off : Int) + (m : Int) + 64 - 1) ⟨by omega, by omega⟩
  have h13 : IntKind.i64.wrap (Int.tdiv ((off : Int) + (m : Int) + 64 - 1) 64) = ((off : Int) + (m : Int) + 64 - 1) / 64 := by
   rw [Int.tdiv_eq_ediv_of_nonneg (by omega)]
   exact IntWalk.i64_in (((off : Int) + (m : Int) + 64 - 1) / 64) ⟨by omega, by omega⟩
  have HPg := hid (fun W (hW : PlM NB B Q W P f s) => nodPages_calls (fi := fi) hW HW.out)
  unfold nfV nfC at HPg
  have HMc := hid (fun (W : World) (a4 : Option Addr) (c4 : Nat) (hW : PlM NB B Q W P f s) (ho : Own intV 3 W 0 (.slice a4 (numsI (yl s.g fi.io)).length c4) (numsI (yl s.g fi.io))) => (show Calls Tryz.prog 31 #[.int .i64 64, .slice a4 (numsI (yl s.g fi.io)).length c4, .int .i64 ((off : Int) / 64), .int .i64 (((off : Int) + (m : Int) + 64 - 1) / 64)] W (fun e w' => e = .returned (.tuple #[.int .i64 mo, .int .i64 0]) ∧ Below W.heap.size W w') from by
   have hln := Nat.le_trans (numsI_len (yl s.g fi.io)) (yl_len hW.ok fi.io)
   have h := rmore_calls 64 a4 _ c4 (numsI (yl s.g fi.io)) ((off : Int) / 64) (((off : Int) + (m : Int) + 64 - 1) / 64) W (ho.arr (by omega)) (numsI_bd hW.ok fi.io) hln (by unfold Room.more; split <;> omega)
   have hm := HMore.out
   rw [show (((off / 64 : Nat)) : Int) = (off : Int) / 64 by omega, show ((((off + m + 63) / 64 : Nat)) : Int) = ((off : Int) + (m : Int) + 64 - 1) / 64 by omega] at hm
   rw [hm] at h
   exact h))
  have HS := hid (fun W (hW : Kq Q w2 W) => (HZ0.out.kq hW (HZn.out _ (Nat.le_refl _)) : Blk W w.heap.size 35 #[.int .i64 fi.k, .int .i64 fi.l, .int .i64 fi.s, .int .i64 (nd fi 0), .int .i64 (nd fi 1), .int .i64 (nd fi 2), .int .i64 (nd fi 3), .int .i64 (nd fi 4), .int .i64 (nd fi 5), .int .i64 (fi.io.s : Int), .int .i64 (fi.io.b : Int)]))
  refine wp_region_noPanic ?_
  refine wp_region_held_drew (S := (fun W' => Blk W' w.heap.size 35 #[.int .i64 fi.k, .int .i64 fi.l, .int .i64 fi.s, .int .i64 (nd fi 0), .int .i64 (nd fi 1), .int .i64 (nd fi 2), .int .i64 (nd fi 3), .int .i64 (nd fi 4), .int .i64 (nd fi 5), .int .i64 (fi.io.s : Int), .int .i64 (fi.io.b : Int)])) (by kernel_rfl) (HS.out _ HKd.out) (fun hS0 => ?_)
  generalize w2.drew = W at *
  refine tk 0 ((.pointer (some ⟨P, 0, none⟩))) rfl (fun _ _ => rfl) ?_
  try simp only [layR]
  refine tk 2 ((.pointer (some ⟨P, 0, none⟩))) rfl (fun _ _ => rfl) ?_
  try simp only [layR]
  refine tk 3 ((.agg #[.int .i64 fi.k, .int .i64 fi.l, .int .i64 fi.s, .int .i64 (nd fi 0), .int .i64 (nd fi 1), .int .i64 (nd fi 2), .int .i64 (nd fi 3), .int .i64 (nd fi 4), .int .i64 (nd fi 5), .int .i64 (fi.io.s : Int), .int .i64 (fi.io.b : Int)])) rfl (fun W hSw => ?_) ?_
  ·have y0 := hSw.cellv (i := 0) rfl; have y1 := hSw.cellv (i := 1) rfl; have y2 := hSw.cellv (i := 2) rfl; have y3 := hSw.cellv (i := 3) rfl; have y4 := hSw.cellv (i := 4) rfl; have y5 := hSw.cellv (i := 5) rfl; have y6 := hSw.cellv (i := 6) rfl; have y7 := hSw.cellv (i := 7) rfl; have y8 := hSw.cellv (i := 8) rfl; have y9 := hSw.cellv (i := 9) rfl; have y10 := hSw.cellv (i := 10) rfl
   go_simp
  try simp only [layR]
  refine tk 5 ((.int .i64 (off : Int))) rfl (fun _ _ => rfl) ?_
  try simp only [layR]
  refine tk 6 ((.int .i64 64)) rfl (fun _ _ => rfl) ?_
  try simp only [layR]
  refine tk 7 ((.int .i64 ((off : Int) / 64))) rfl (fun W hSw => ?_) ?_
  ·skip
   go_simp
  try simp only [layR]
  refine tk 8 ((.int .i64 ((off : Int) + (m : Int)))) rfl (fun _ _ => rfl) ?_
  try simp only [layR]
  refine tk 9 ((.int .i64 64)) rfl (fun _ _ => rfl) ?_
  try simp only [layR]
  refine tk 10 ((.int .i64 ((off : Int) + (m : Int) + 64))) rfl (fun W hSw => ?_) ?_
  ·skip
   go_simp
  try simp only [layR]
  refine tk 11 ((.int .i64 ((off : Int) + (m : Int) + 64 - 1))) rfl (fun W hSw => ?_) ?_
  ·skip
   go_simp
  try simp only [layR]
  refine tk 12 ((.int .i64 64)) rfl (fun _ _ => rfl) ?_
  try simp only [layR]
  refine tk 13 ((.int .i64 (((off : Int) + (m : Int) + 64 - 1) / 64))) rfl (fun W hSw => ?_) ?_
  ·skip
   go_simp
  try simp only [layR]
  refine rd 1 rfl (fun K' hK => ?_)
  go_simp
  refine (polSize_calls HPd.out).mono ?_
  rintro e w_ ⟨rfl, rfl⟩
  refine hK.out _ _ hS0 (fun hS1 => ?_)
  try simp only [layR]
  refine rd 4 rfl (fun K' hK => ?_)
  go_simp
  refine (HPg.out _ HPd.out).mono ?_
  rintro e W4 ⟨⟨v, rfl, ho⟩, hp4, hk4⟩
  obtain ⟨a4, c4, rfl, _⟩ := ho.formN rfl
  have HO4 := hid (ho.mono (Nat.zero_le _))
  have HP4 := hid hp4
  have HK4 := hid (HKd.out.trans hk4)
  clear ho hp4 hk4
  refine hK.out _ _ (HS.out W4 HK4.out) (fun hS2 => ?_)
  try simp only [layR]
  refine rd 14 rfl (fun K' hK => ?_)
  go_simp
  refine (HMc.out W4 a4 c4 HP4.out HO4.out).mono ?_
  rintro e w5 ⟨rfl, hb5⟩
  have HR := hid (show PlM NB B Q w5 P f s ∧ Kq Q w2 w5 from ⟨HP4.out.on hb5, HK4.out.on hb5⟩)
  refine hK.out _ _ (HS.out w5 HR.out.2) (fun hS5 => ?_)
  try simp only [layR]
  clear hb5
  refine tk 15 ((.tuple #[.int .i64 mo, .int .i64 0])) rfl (fun _ _ => rfl) ?_
  try simp only [layR]
  refine tk 16 ((.int .i64 mo)) rfl (fun _ _ => rfl) ?_
  try simp only [layR]
  refine tk 17 ((.int .i64 0)) rfl (fun _ _ => rfl) ?_
  try simp only [layR]
  refine tk 18 ((.int .i64 mo)) rfl (fun _ _ => rfl) ?_
  try simp only [layR]
  refine tk 19 ((.int .i64 0)) rfl (fun _ _ => rfl) ?_
  try simp only [layR]
  refine wpAnyH_done (by kernel_rfl) ?_ _
  refine NoPanic.normal ?_
  clear hS0 hS1 hS2 hS5
  go_wp2_with fail
  go_meet
  case rel => exact ⟨rfl, rfl, HR⟩
 case rest =>
  obtain ⟨rfl, rfl, hr⟩ := hcut
  have HPc := hid hr.out.1
  have HKc := hid hr.out.2
  clear hr
  have hmo' : ¬ (s.np : Int) - (s.us.length : Int) < mo := by have := HMo.out; omega
  go_wp2_with fail
  refine (polRoom_calls HPc.out).mono ?_
  rintro e w3 ⟨rfl, hb3⟩
  have HP3 := hid (HPc.out.on hb3)
  have HK3 := hid (HKc.out.on hb3)
  have HZ3 := hid (HZ0.out.kq HK3.out (HZn.out _ (Nat.le_refl _)))
  have HR3 := hid (HZ1.out.kq HK3.out (HZn.out _ (by omega)))
  obtain ⟨vac, hvac⟩ : ∃ v : Int, v = (s.np : Int) - (s.us.length : Int) := ⟨_, rfl⟩
  rw [← hvac] at hmo'
  rw [← hvac]
  have y0 := HZ3.out.cellv (i := 0) rfl
  have y1 := HZ3.out.cellv (i := 1) rfl
  have y2 := HZ3.out.cellv (i := 2) rfl
  have y3 := HZ3.out.cellv (i := 3) rfl
  have y4 := HZ3.out.cellv (i := 4) rfl
  have y5 := HZ3.out.cellv (i := 5) rfl
  have y6 := HZ3.out.cellv (i := 6) rfl
  have y7 := HZ3.out.cellv (i := 7) rfl
  have y8 := HZ3.out.cellv (i := 8) rfl
  have y9 := HZ3.out.cellv (i := 9) rfl
  have y10 := HZ3.out.cellv (i := 10) rfl
  clear hb3 hvac
  go_upto_region 15 with fail
  obtain ⟨w1, hw1⟩ : ∃ w1, w1 = w3.alloc (.cells (nfA P fi) 82) := ⟨_, rfl⟩
  have hb1 : Below w3.heap.size w3 w1 := by rw [hw1]; exact (Below.refl _ w3).alloc (Nat.le_refl _) _
  have hn1 : NfM w1 w3.heap.size P fi := by rw [hw1]; exact NfM.made w3 HDl.out P
  have hs1 : w1.heap.size = w3.heap.size + 1 := by rw [hw1]; simp
  have HW1 := hid hw1
  obtain ⟨F, hF⟩ : ∃ F, F = w3.heap.size := ⟨_, rfl⟩
  rw [← hF] at hn1 hs1
  have hF3 : w2.heap.size ≤ F := by rw [hF]; exact HK3.out.size
  have HQb := hid (fun q (h : Q q) => (HH.out.bnd q h).2)
  have HNF := hid (show ¬ Q F from HZn.out F (by have := HS2.out; omega))
  have HFl := hid (show F < w1.heap.size by omega)
  have HB1 := hid hb1
  have HI := hid (show Nwr NB B Q w1 F P f s fi fi.io w1 from ⟨(HP3.out.on hb1).more (fun q h => .inl h) fun q h => by
   rcases h with h | h
   ·exact (HP3.out.on hb1).bnd q h
   ·omega, hn1, Kq.refl _ _, fun q h => ((HP3.out.on hb1).bnd q h).2, (HP3.out.on hb1).base⟩)
  obtain ⟨R, hR⟩ : ∃ R, R = wrS fuel s fi.io off b := ⟨_, rfl⟩
  have HR := hid hR
  have HBx := hid (show Bytes w1 w1.heap.size a m b from ((HX.out.kq (Nat.le_refl _) (((Kq.of (T := Q) HB2.out).trans HK3.out).on hb1) fun bl o e => (HQa.out bl o e).1).mono (by have := HK3.out.size; have := HS2.out; omega)))
  rw [← hF, show w3.alloc (.cells #[.pointer (some ⟨P, 0, none⟩), .int .i64 fi.k, .int .i64 fi.l, .int .i64 fi.s, .int .i64 (nd fi 0), .int .i64 (nd fi 1), .int .i64 (nd fi 2), .int .i64 (nd fi 3), .int .i64 (nd fi 4), .int .i64 (nd fi 5), .int .i64 (fi.io.s : Int), .int .i64 (fi.io.b : Int)] 82) = w1 from HW1.out.symm]
  clear y0 y1 y2 y3 y4 y5 y6 y7 y8 y9 y10 hb1 hn1 hw1 hF hmo'
  clear hR
  have HE := hid (show b.length = m from HMl.out)
  go_loopw [2, 3, 15, 16, 17, 18, 19, 20] (fun v2 v3 _ _ _ _ _ _ wr => ∃ (s' : Ps) (io' : Spr.Io) (off' : Nat) (b' : List UInt8) (fuel' : Nat) (a' : Option Addr) (m' c' : Nat), v2 = .int .i64 (off' : Int) ∧ v3 = .slice a' m' c' ∧ m' ≤ c' ∧ Bytes w1 w1.heap.size a' m' b' ∧ (∀ bl o, a' = some ⟨bl, o, none⟩ → ¬ Q bl ∧ bl < w.heap.size) ∧ off' + m' = off + m ∧ WrOk fuel' s' io' off' b' ∧ wrS fuel' s' io' off' b' = R ∧ Nwr NB B Q w1 F P f s' fi io' wr) (fun v2 _ _ _ _ _ _ _ _ => 100000 - (intOf v2).toNat)
  case atStart => exact ⟨s, fi.io, off, b, fuel, a, m, c, rfl, rfl, hmc, HBx.out, HQa.out, rfl, HOk.out, HR.out.symm, HI.out⟩
  case round =>
   obtain ⟨s', io', off', b', fuel', a', m', c', rfl, rfl, hmc', hx', hqa', hom, hok', hR', hn'⟩ := hrel
   have HX' := hid hx'
   have HQ' := hid hqa'
   have HN' := hid hn'
   have HR' := hid hR'
   have hbl' := hx'.len
   by_cases h0 : m' = 0
   ·have gl : ¬ (off' : Int) < (off : Int) + (m : Int) := by omega
    have hb0 : b' = [] := List.eq_nil_of_length_eq_zero (by omega)
    have HRe := hid (show R = (s', io') from by
     rw [← hR', hb0]
     cases fuel' with
     | zero => rfl
     | succ k => exact if_pos rfl)
    have hfc := HN'.out.n.cells
    have e1 : wr.cell? ⟨F, 1, none⟩ = some (.int .i64 fi.k) := hfc.cellv (i := 1) rfl
    have e2 : wr.cell? ⟨F, 2, none⟩ = some (.int .i64 fi.l) := hfc.cellv (i := 2) rfl
    have e3 : wr.cell? ⟨F, 3, none⟩ = some (.int .i64 fi.s) := hfc.cellv (i := 3) rfl
    have e4 : wr.cell? ⟨F, 4, none⟩ = some (.int .i64 (nd (withS fi (max fi.s ((off : Int) + (m : Int))) io') 0)) := hfc.cellv (i := 4) rfl
    have e5 : wr.cell? ⟨F, 5, none⟩ = some (.int .i64 (nd (withS fi (max fi.s ((off : Int) + (m : Int))) io') 1)) := hfc.cellv (i := 5) rfl
    have e6 : wr.cell? ⟨F, 6, none⟩ = some (.int .i64 (nd (withS fi (max fi.s ((off : Int) + (m : Int))) io') 2)) := hfc.cellv (i := 6) rfl
    have e7 : wr.cell? ⟨F, 7, none⟩ = some (.int .i64 (nd (withS fi (max fi.s ((off : Int) + (m : Int))) io') 3)) := hfc.cellv (i := 7) rfl
    have e8 : wr.cell? ⟨F, 8, none⟩ = some (.int .i64 (nd (withS fi (max fi.s ((off : Int) + (m : Int))) io') 4)) := hfc.cellv (i := 8) rfl
    have e9 : wr.cell? ⟨F, 9, none⟩ = some (.int .i64 (nd (withS fi (max fi.s ((off : Int) + (m : Int))) io') 5)) := hfc.cellv (i := 9) rfl
    have e10 : wr.cell? ⟨F, 10, none⟩ = some (.int .i64 (io'.s : Int)) := hfc.cellv (i := 10) rfl
    have e11 : wr.cell? ⟨F, 11, none⟩ = some (.int .i64 (io'.b : Int)) := hfc.cellv (i := 11) rfl
    have f3 := hfc.frozen 3
    have hst : Kq (fun q => q = F) wr (wr.setCell ⟨F, 3, none⟩ (.int .i64 (max fi.s ((off : Int) + (m : Int))))) := Kq.one ⟨F, 3, none⟩ _
    have hF2 : F ≠ w.heap.size + 1 := by have := HS2.out; omega
    have hr1 : Blk wr (w.heap.size + 1) 35 #[.int .i64 0, .int .i64 0, .int .i64 0, .int .i64 0, .int .i64 0, .int .i64 0, .int .i64 0, .int .i64 0, .int .i64 0, .int .i64 0, .int .i64 0] := (HR3.out.belowHere HB1.out).kq HN'.out.k fun h => h.elim (HZn.out _ (by omega)) (fun e => hF2 e.symm)
    have HR9 := hid (hr1.kq hst fun e => hF2 e.symm)
    have HSt := hid hst
    have HP9 := hid (HN'.out.p.kq hst fun q hq e => HN'.out.far HNF.out HFl.out (e ▸ hq))
    have HK9 := hid (((Kq.of (T := fun q => Q q ∨ q = F) HB2.out).trans (HK3.out.mono fun q h => .inl h)).trans (((Kq.of HB1.out).trans HN'.out.k).trans (hst.mono fun q h => .inr h)))
    have HS9 := hid (show w3.heap.size ≤ w1.heap.size from HB1.out.size)
    clear hx' hqa' hn' hR' hok' hbl' hb0 hfc hst hr1
    go_wp2_with (refine wpList_store_blk rfl rfl _ _ _ rfl (w.heap.size + 1) #[.int .i64 fi.k, .int .i64 fi.l, .int .i64 (max fi.s ((off : Int) + (m : Int))), .int .i64 (nd (withS fi (max fi.s ((off : Int) + (m : Int))) io') 0), .int .i64 (nd (withS fi (max fi.s ((off : Int) + (m : Int))) io') 1), .int .i64 (nd (withS fi (max fi.s ((off : Int) + (m : Int))) io') 2), .int .i64 (nd (withS fi (max fi.s ((off : Int) + (m : Int))) io') 3), .int .i64 (nd (withS fi (max fi.s ((off : Int) + (m : Int))) io') 4), .int .i64 (nd (withS fi (max fi.s ((off : Int) + (m : Int))) io') 5), .int .i64 (io'.s : Int), .int .i64 (io'.b : Int)] rfl rfl 35 #[.int .i64 0, .int .i64 0, .int .i64 0, .int .i64 0, .int .i64 0, .int .i64 0, .int .i64 0, .int .i64 0, .int .i64 0, .int .i64 0, .int .i64 0] HR9.out rfl nfInfo (nfOne (withS fi (max fi.s ((off : Int) + (m : Int))) io')) ?_)
    rw [← HR.out, HRe.out]
    obtain ⟨W9, hW9⟩ : ∃ W, W = (wr.setCell ⟨F, 3, none⟩ (.int .i64 (max fi.s ((off : Int) + (m : Int))))).setRow (w.heap.size + 1) #[.int .i64 fi.k, .int .i64 fi.l, .int .i64 (max fi.s ((off : Int) + (m : Int))), .int .i64 (nd (withS fi (max fi.s ((off : Int) + (m : Int))) io') 0), .int .i64 (nd (withS fi (max fi.s ((off : Int) + (m : Int))) io') 1), .int .i64 (nd (withS fi (max fi.s ((off : Int) + (m : Int))) io') 2), .int .i64 (nd (withS fi (max fi.s ((off : Int) + (m : Int))) io') 3), .int .i64 (nd (withS fi (max fi.s ((off : Int) + (m : Int))) io') 4), .int .i64 (nd (withS fi (max fi.s ((off : Int) + (m : Int))) io') 5), .int .i64 (io'.s : Int), .int .i64 (io'.b : Int)] := ⟨_, rfl⟩
    rw [← hW9]
    have hrow : Blk W9 (w.heap.size + 1) 35 #[.int .i64 fi.k, .int .i64 fi.l, .int .i64 (max fi.s ((off : Int) + (m : Int))), .int .i64 (nd (withS fi (max fi.s ((off : Int) + (m : Int))) io') 0), .int .i64 (nd (withS fi (max fi.s ((off : Int) + (m : Int))) io') 1), .int .i64 (nd (withS fi (max fi.s ((off : Int) + (m : Int))) io') 2), .int .i64 (nd (withS fi (max fi.s ((off : Int) + (m : Int))) io') 3), .int .i64 (nd (withS fi (max fi.s ((off : Int) + (m : Int))) io') 4), .int .i64 (nd (withS fi (max fi.s ((off : Int) + (m : Int))) io') 5), .int .i64 (io'.s : Int), .int .i64 (io'.b : Int)] := by rw [hW9]; exact HR9.out.row _
    have hk9 := kq_rowOne (wr.setCell ⟨F, 3, none⟩ (.int .i64 (max fi.s ((off : Int) + (m : Int))))) (w.heap.size + 1) #[.int .i64 fi.k, .int .i64 fi.l, .int .i64 (max fi.s ((off : Int) + (m : Int))), .int .i64 (nd (withS fi (max fi.s ((off : Int) + (m : Int))) io') 0), .int .i64 (nd (withS fi (max fi.s ((off : Int) + (m : Int))) io') 1), .int .i64 (nd (withS fi (max fi.s ((off : Int) + (m : Int))) io') 2), .int .i64 (nd (withS fi (max fi.s ((off : Int) + (m : Int))) io') 3), .int .i64 (nd (withS fi (max fi.s ((off : Int) + (m : Int))) io') 4), .int .i64 (nd (withS fi (max fi.s ((off : Int) + (m : Int))) io') 5), .int .i64 (io'.s : Int), .int .i64 (io'.b : Int)]
    rw [← hW9] at hk9
    have z0 := hrow.cellv (i := 0) rfl
    have z1 := hrow.cellv (i := 1) rfl
    have z2 := hrow.cellv (i := 2) rfl
    have z3 := hrow.cellv (i := 3) rfl
    have z4 := hrow.cellv (i := 4) rfl
    have z5 := hrow.cellv (i := 5) rfl
    have z6 := hrow.cellv (i := 6) rfl
    have z7 := hrow.cellv (i := 7) rfl
    have z8 := hrow.cellv (i := 8) rfl
    have z9 := hrow.cellv (i := 9) rfl
    have z10 := hrow.cellv (i := 10) rfl
    refine bodyPost_ret (v := .tuple #[nfV (withS fi (max fi.s ((off : Int) + (m : Int))) io'), .int .i64 0]) (by simp [results, Tryz.results7, go_sem, nfV, nfC, withS, z0, z1, z2, z3, z4, z5, z6, z7, z8, z9, z10]) rfl ⟨rfl, ?_⟩
    have hs2 := HS2.out
    refine HH.out.fin (HP9.out.kq hk9 fun q hq e => ?_) (fun q hq => ?_) (HK9.out.then_ hk9 fun q e => .inr (by omega)) fun q hq => ?_
    ·have := HN'.out.q
     rcases hq with h1 | h1
     ·have := (HH.out.bnd q h1).2; omega
     ·have := HS9.out; have := HK3.out.size; omega
    ·rcases hq with h1 | h1
     ·exact .inl h1
     ·have := HS9.out; have := HK3.out.size; exact .inr (by omega)
    ·rcases hq with h1 | h1
     ·exact .inl h1
     ·exact .inr (by omega)
   ·have gl : (off' : Int) < (off : Int) + (m : Int) := by omega
    have hb0 : b' ≠ [] := fun e => h0 (by rw [← hbl', e]; rfl)
    obtain ⟨fu, rfl⟩ : ∃ k, fuel' = k + 1 := by
     cases fuel' with
     | zero => exact absurd hok' hb0
     | succ k => exact ⟨k, rfl⟩
    obtain ⟨hen, hok2⟩ := hok'.resolve_left hb0
    have HEn := hid hen
    have HOk2 := hid hok2
    have HKp := hid (wrK_pos (off := off') hb0)
    have HRn := hid (show wrS fu (wr1 s' io' off' b').1 (wr1 s' io' off' b').2 (off' + wrK off' b') (b'.drop (wrK off' b')) = R from by
     rw [← hR']
     exact (if_neg hb0).symm)
    have HBl := hid hbl'
    have q1 := IntWalk.i64_in ((off' : Int) / 64) ⟨by omega, by omega⟩
    have q2 := IntWalk.i64_in ((off' : Int) % 64) ⟨by omega, by omega⟩
    have q3 : Int.tmod (off' : Int) 64 = (off' : Int) % 64 := Int.tmod_eq_emod_of_nonneg (by omega)
    clear hx' hqa' hn' hR' hok' hb0 hen hok2 hbl'
    go_upto_region 16 with fail
    refine wp_region_noPanic ?_
    refine wp_region_held_drew (S := (fun _ => True)) (by kernel_rfl) trivial (fun hS0 => ?_)
    refine tk 0 ((.int .i64 (off' : Int))) rfl (fun _ _ => rfl) ?_
    try simp only [layR]
    refine tk 1 ((.int .i64 64)) rfl (fun _ _ => rfl) ?_
    try simp only [layR]
    refine tk 2 ((.int .i64 ((off' : Int) / 64))) rfl (fun W hSw => ?_) ?_
    ·skip
     go_simp
    try simp only [layR]
    refine tk 3 ((.int .i64 (off' : Int))) rfl (fun _ _ => rfl) ?_
    try simp only [layR]
    refine tk 4 ((.int .i64 64)) rfl (fun _ _ => rfl) ?_
    try simp only [layR]
    refine tk 5 ((.int .i64 ((off' : Int) % 64))) rfl (fun W hSw => ?_) ?_
    ·skip
     go_simp
    try simp only [layR]
    refine tk 6 ((.int .i64 ((off' : Int) / 64))) rfl (fun _ _ => rfl) ?_
    try simp only [layR]
    refine tk 7 ((.int .i64 ((off' : Int) % 64))) rfl (fun _ _ => rfl) ?_
    try simp only [layR]
    refine wpAnyH_done (by kernel_rfl) ?_ _
    refine NoPanic.normal ?_
    clear hS0
    have HNw := hid (HN'.out.on HNF.out HFl.out (below_drew wr))
    obtain ⟨n, hn⟩ : ∃ n, n = off' / 64 := ⟨_, rfl⟩
    obtain ⟨E, hE⟩ : ∃ E, E = ens s' io' n := ⟨_, rfl⟩
    obtain ⟨S1, Io1, T⟩ := E
    obtain ⟨K, hK⟩ : ∃ K, K = wrK off' b' := ⟨_, rfl⟩
    have hth := HEn.out.th
    rw [← hn, ← hE] at hth
    have HTh := hid (show S1.There T from hth)
    have hw1 : wr1 s' io' off' b' = (S1.put T (wrX (S1.g T) off' b'), Io1) := by
     unfold wr1
     rw [← hn, ← hE]
    rw [hw1, ← hK] at HRn HOk2
    rw [← hK] at HKp
    rw [← hn] at HEn
    have HE := hid hE
    have HKe := hid hK
    rw [show ((off' : Int) / 64) = (n : Int) from by omega, show ((off' : Int) % 64) = ((off' % 64 : Nat) : Int) from by omega]
    generalize wr.drew = W at *
    obtain ⟨At, hAt⟩ : ∃ At, At = atP s'.g io' n := ⟨_, rfl⟩
    have HAt := hid hAt
    have HAc := hid (show Calls Tryz.prog 33 #[.pointer (some ⟨F, 0, none⟩), .int .i64 (n : Int)] W (PolAsked NB B (Up Q w1 W) P f s' (.int .i64 (At : Int)) W) from by
     rw [hAt]
     exact nodAt_calls HNw.out.p HNw.out.n (HNw.out.far HNF.out HFl.out) HEn.out.wf HEn.out.hn)
    clear hth hw1 hE hK hn q1 q2 q3 hAt
    go_wp2_with fail
    refine HAc.out.mono ?_
    rintro e W2 ⟨rfl, hp2, hk2⟩
    have HN2 := hid (HNw.out.asked HNF.out HFl.out hp2 hk2)
    clear hp2 hk2
    go_upto_if 99 with fail
    go_cut [17] from 86 to 133 (fun v17 wx => v17 = .int .i64 (T : Int) ∧ Hid (Nwr NB B Q w1 F P f S1 fi Io1 wx))
    case first =>
     by_cases h0 : At = 0
     ·have h1 : atP s'.g io' n = 0 := HAt.out.symm.trans h0
      obtain ⟨hlt, hso⟩ := HEn.out.new h1
      have HNx := hid (Ps.nx_is hlt)
      have HSo := hid hso
      have he : (S1, Io1, T) = ((setS (s'.add s'.nx) io' n s'.nx).1, (setS (s'.add s'.nx) io' n s'.nx).2, s'.nx) := HE.out.trans (if_pos h1)
      injection he with e1 he
      injection he with e2 e3
      have HE1 := hid e1
      have HE2 := hid e2
      rw [← e3] at HNx HSo HE1 HE2
      have gz : ((At : Int) == 0) = true := by rw [beq_iff_eq]; omega
      clear h1 hlt hso e1 e2 e3 h0
      go_wp2_with fail
      refine (polAlloc_calls HN2.out.p HNx.out).mono ?_
      rintro e W3 ⟨rfl, hp3⟩
      have HN3 := hid (HN2.out.call HNF.out HFl.out hp3)
      clear hp3
      go_wp2_with fail
      refine (nodSet_calls HN3.out.p HN3.out.n (HN3.out.far HNF.out HFl.out) HSo.out).mono ?_
      rintro e W4 hs4
      have HN4 := hid (HN3.out.set hs4)
      obtain ⟨⟨_, rfl⟩, _⟩ := hs4
      go_wp2_with fail
      go_meet
      case rel =>
       refine ⟨rfl, hid ?_⟩
       have := HN4.out
       rw [← HE1.out, ← HE2.out] at this
       exact this
     ·have h1 : ¬ atP s'.g io' n = 0 := fun e => h0 (HAt.out.trans e)
      have he : (S1, Io1, T) = (s', io', atP s'.g io' n) := HE.out.trans (if_neg h1)
      injection he with e1 he
      injection he with e2 e3
      rw [← HAt.out] at e3
      subst e1 e2 e3
      have gz : ((T : Int) == 0) = false := by rw [beq_eq_false_iff_ne]; omega
      clear h1 h0
      go_wp2_with fail
      go_meet
      case rel => exact ⟨rfl, HN2⟩
    case rest =>
     obtain ⟨rfl, HC⟩ := hcut
     generalize wc = W5 at *
     have HX5 := hid (HC.out.p.ok.sz T HTh.out)
     go_wp2_with fail
     refine (polGet_calls HC.out.p HTh.out).mono ?_
     rintro e W6 ⟨⟨v, rfl, ho⟩, hp6, hk6⟩
     obtain ⟨a6, c6, rfl, _⟩ := ho.formN HX5.out
     obtain ⟨g, rfl, hgb, _⟩ := ho.addr (by rw [HX5.out]; omega)
     have hcut6 := cutB_from (some ⟨g, 0, none⟩) 64 c6 (off' % 64) (by omega)
     have HO6 := hid ho
     have HP6 := hid hp6
     have HK6 := hid hk6
     have HY6 := hid (HX'.out.kq (Nat.le_refl _) (HC.out.k.then_ hk6 fun q hq => by
      rcases hq with h1 | h1
      ·exact .inl (.inl h1)
      ·exact .inr h1.1) fun bl o e => by
      obtain ⟨h1, h2⟩ := HQ'.out bl o e
      rintro (h3 | h3)
      ·exact h1 h3
      ·have := HS2.out; omega)
     have HKm := hid (show K = min (64 - off' % 64) m' from HKe.out.trans (by unfold wrK; rw [HBl.out]))
     clear ho hp6 hk6 hgb
     go_wp2_with (with_reducible refine wpList_copyAt rfl _ _ rfl W5.heap.size g 64 c6 (off' % 64) (S1.g T) rfl HO6.out w1.heap.size a' m' c' b' rfl HY6.out (by omega) (by omega) K HKm.out ?_; intro W7 HO7 HB7)
     have HN7 := hid (HC.out.got HNF.out HFl.out HP6.out HK6.out HB7.out)
     have hx7 := HO7.out
     rw [HKe.out] at hx7
     replace hx7 : Own byteV 5 W7 W5.heap.size (.slice (some ⟨g, 0, none⟩) 64 c6) (wrX (S1.g T) off' b') := hx7
     refine (polPut_calls HN7.out.p HTh.out (some ⟨g, 0, none⟩) c6 (wrX (S1.g T) off' b') (hx7.arr (by rw [wrX_len HX5.out]; decide))).mono ?_
     rintro e W8 ⟨rfl, hp8⟩
     have HN8 := hid (HN7.out.call HNF.out HFl.out hp8)
     have hk1 : K ≤ m' := by have := HKm.out; omega
     have hcut8 := cutB_from a' m' c' K hk1
     have HGk := hid (IntWalk.i64_in ((off' : Int) + (K : Int)) ⟨by omega, by omega⟩)
     have gk := HGk.out
     clear hp8 hx7 hcut6
     go_wp2_with fail
     go_roundw
     case rel =>
      refine ⟨_, _, off' + K, b'.drop K, fu, cutA a' c' K, m' - K, c' - K, by go_num, by simp, by omega, HX'.out.drop hk1 hmc', fun bl o e => ?_, by omega, HOk2, HRn.out, HN8.out⟩
      exact cutA_addr (f := fun bl => ¬ Q bl ∧ bl < w.heap.size) HQ'.out (by obtain ⟨b1, o1, h1, _⟩ := HX'.out.2.2 (by omega); exact ⟨b1, o1, h1⟩) e
     case measure =>
      have h1 := HKp.out.1
      have h2 := HGk.out
      simp only [intOf]
      omega
end Go.Proofs.YtcppkaphlcflgaaGreat
