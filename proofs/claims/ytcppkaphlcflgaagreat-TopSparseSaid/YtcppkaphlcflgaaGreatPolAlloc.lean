import Derived.Test.YtcppkaphlcflgaaGreatPolAct
namespace Go.Proofs.YtcppkaphlcflgaaGreat
open Go.RowKit Go.Maps Go.ChangeMaps Pol Ftl
variable {NB B P U D n : Nat} {R Q : Nat → Prop} {w w' w1 w2 : World} {f : Fm} {s : Ps} {dl : List Dp}

theorem ow_far {u : Value} {D : Nat} (hu : ∀ q, u.ownBlock = some q → q ≠ D) : u.ownBlock = none ∨ u.ownBlock ≠ some D := by
 cases hb : u.ownBlock with
 | none => exact .inl rfl
 | some q => exact .inr (fun e => hu q hb (Option.some.inj e))
theorem PlC.on (h : PlC NB B R w P U D dl f s) (hb : Below w.heap.size w w') : PlC NB B R w' P U D dl f s := h.kq (T := fun _ => False) (Kq.of hb) fun _ _ h => h
theorem PlC.hi (h : PlC NB B R w P U D dl f s) : P < w.heap.size ∧ U < w.heap.size ∧ D < w.heap.size := ⟨h.hP.lt, h.hU.lt, h.hD.lt⟩
theorem pgF_len (h : PlC NB B R w P U D dl f s) (n : Nat) : (pgF f dl n).length = 64 := by
 unfold pgF
 cases hd : diE.get dl n with
 | some d =>
  obtain ⟨hm, hk⟩ := Enc.get_mem hd
  have h1 := h.g d.n (h.dt d hm)
  unfold pgF at h1
  have hk : d.n = n := hk
  rw [hk, hd] at h1
  simp only at h1 ⊢
  rw [← h1]
  exact h.ok.sz n (hk ▸ h.dt d hm)
 | none =>
  simp only
  cases hv : vw f n with
  | some y =>
   obtain ⟨e, he, h1, _⟩ := vw_some hv
   simp only
   rw [← h1]
   exact (h.fc.fi.ok e (curE_mem he)).len
  | none => exact zeros_len
theorem PlC.putR (h : PlC NB B R w P U D dl f s) (h2 : ∀ q, Hp P U D R dl q → Q q) (h3 : ∀ q, Q q → B ≤ q ∧ q < w.heap.size) (hb : Below w.heap.size w w1) (hn : s.There n) (h9 : n < 4294967296) {v : Value} {x : List UInt8} (ho : Own byteV 5 w1 w.heap.size v x) (hx : x.length = 64) :
  ∃ o, (Instr.mapUpdate 72 (.map (some D)) (.int .i64 (n : Int)) v).run Tryz.prog w1 = .ok () (setBlock w1 D o) ∧ PlR NB B Q w (setBlock w1 D o) P f (s.put n x) := by
 have hh := h.hi
 have hB : B ≤ w.heap.size := by have := h3 P (h2 P (.inl rfl)); omega
 have hRl : ∀ q, R q → q < w.heap.size := fun q hq => (h3 q (h2 q (.inr (.inr (.inr (.inl hq)))))).2
 obtain ⟨o, r1, r2, r3⟩ := (h.on hb).put hn h9 (ho.mono (Nat.zero_le _)) hx fun q hq => by
  have := (ho.blockLt q hq).1
  refine ⟨by omega, by omega, by omega, fun hr => ?_⟩
  have := hRl q hr
  omega
 have hs1 := hb.size
 have hs2 := r3.size
 refine ⟨o, r1, ⟨U, D, _, R, r2, fun q hq => ?_, fun q hq => ?_⟩, (Kq.of hb).trans ((Kq.grown r3).mono fun k hk => Option.some.inj hk ▸ h2 D (.inr (.inr (.inl rfl))))⟩
 ·rcases hq with e | e | e | e | ⟨d, hd, e⟩
  ·exact .inl (h2 q (.inl e))
  ·exact .inl (h2 q (.inr (.inl e)))
  ·exact .inl (h2 q (.inr (.inr (.inl e))))
  ·exact .inl (h2 q (.inr (.inr (.inr (.inl e)))))
  ·rcases Enc.mem_put hd with rfl | hd
   ·have := ho.blockLt q e
    exact .inr ⟨this.1, by omega⟩
   ·exact .inl (h2 q (.inr (.inr (.inr (.inr ⟨d, hd, e⟩)))))
 ·rcases hq with e | e
  ·have := h3 q e; omega
  ·omega
set_option maxRecDepth 100000 in
theorem polPut_calls (h : PlM NB B Q w P f s) (hn : s.There n) (a : Option Addr) (c : Nat) (x : List UInt8) (hx : Bytes w w.heap.size a 64 x) :
  Calls Tryz.prog 37 #[.pointer (some ⟨P, 0, none⟩), .int .i64 (n : Int), .slice a 64 c] w fun e w' => e = .returned (.int .i64 0) ∧ PlR NB B Q w w' P f (s.put n x) := by
 have hlt := there_lt h hn
 have hA := Lib.hid (polAsked_calls h hn)
 have hxl := hx.len
 obtain ⟨U, D, dl, R, hc, hq1, hq2⟩ := id h
 have c5 := h.c5
 have HC0 := Lib.hid (hc.on (below_drew w))
 have HQ1 := Lib.hid hq1
 have HQ2 := Lib.hid hq2
 have HN := Lib.hid hn
 have HLT := Lib.hid hlt
 have hC := Lib.hid (clone_calls a 64 c x w.drew (hx.on (below_drew w)))
 have HXL := Lib.hid hxl
 have c7 : w.drew.cell? ⟨P, 7, none⟩ = some (.map (some D)) := HC0.out.hP.cellv rfl
 have HC7 := Lib.hid c7
 clear h hx hn hc hq1 hq2 hlt hxl c7
 go_enter Tryz.func37, Tryz.ntmps37
 go_wp2_with fail
 refine hA.out.mono ?_
 rintro e w_ ⟨rfl, rfl⟩
 go_wp2_with fail
 refine wp_region_noPanic ?_
 refine wp_region_held_drew (S := (fun W' => W'.cell? ⟨P, 7, none⟩ = some (.map (some D)))) (by kernel_rfl) HC7.out (fun hS0 => ?_)
 refine takeV 0 (v := (.pointer (some ⟨P, 0, none⟩))) rfl (by kernel_rfl) (by kernel_rfl) (by kernel_rfl) (fun _ _ _ h => h) (by rfl) (fun _ _ => rfl) (by assumption) ?_
 try simp only [layR]
 refine takeV 1 (v := (.pointer (some ⟨P, 0, none⟩))) rfl (by kernel_rfl) (by kernel_rfl) (by kernel_rfl) (fun _ _ _ h => h) (by rfl) (fun W hSw => ?_) (by assumption) ?_
 ·skip
  go_simp
 try simp only [layR]
 refine takeV 2 (v := (.pointer (some ⟨P, 7, none⟩))) rfl (by kernel_rfl) (by kernel_rfl) (by kernel_rfl) (fun _ _ _ h => h) (by rfl) (fun W hSw => ?_) (by assumption) ?_
 ·skip
  go_simp
 try simp only [layR]
 refine takeV 3 (v := (.map (some D))) rfl (by kernel_rfl) (by kernel_rfl) (by kernel_rfl) (fun _ _ _ h => h) (by rfl) (fun W hSw => ?_) (by assumption) ?_
 ·skip
  go_simp
 try simp only [layR]
 refine takeV 4 (v := (.int .i64 (n : Int))) rfl (by kernel_rfl) (by kernel_rfl) (by kernel_rfl) (fun _ _ _ h => h) (by rfl) (fun _ _ => rfl) (by assumption) ?_
 try simp only [layR]
 refine takeV 5 (v := (.slice a 64 c)) rfl (by kernel_rfl) (by kernel_rfl) (by kernel_rfl) (fun _ _ _ h => h) (by rfl) (fun _ _ => rfl) (by assumption) ?_
 try simp only [layR]
 refine wpAnyH_ready (rs := [6]) (by kernel_rfl) (by simp) ?_
 refine AllReadyH.cons rfl (fun K' hK => ?_) AllReadyH.nil
 go_simp
 refine hC.out.mono ?_
 rintro e w1 ⟨⟨v, rfl, ho⟩, hb⟩
 have hp1 := HC0.out.on hb
 obtain ⟨o, hrun, hp2⟩ := HC0.out.putR (Q := Q) HQ1.out HQ2.out hb HN.out (by have := HLT.out; omega) ho HXL.out
 have HP2 := Lib.hid (PlR.from_ (below_drew w) hp2 (by have := HQ2.out P (HQ1.out P (.inl rfl)); omega))
 have hS3 := HP2.out.1.hP
 have hS4 : (setBlock w1 D o).cell? ⟨P, 7, none⟩ = some (.map (some D)) := by
  have h1 : Blk (setBlock w1 D o) P 74 (plA f.F U D s) := by
   have hne := HC0.out.ne.2.1
   have h2 := setBlock_grown hp1.hD o
   exact hp1.hP.grown h2 (by intro e; injection e with e; exact hne e)
  exact h1.cellv rfl
 refine hK.out _ _ (hp1.hP.cellv rfl) (fun hS1 => ?_)
 try simp only [layR]
 clear hp1 hp2 ho hb hS3
 refine wpAnyH_ready (rs := [7]) (by kernel_rfl) (by simp) ?_
 refine AllReadyH.cons rfl (fun K' hK => ?_) AllReadyH.nil
 go_simp
 refine hK.out _ _ hS4 (fun hS2 => ?_)
 try simp only [layR]
 refine wpAnyH_done (by kernel_rfl) ?_ _
 refine NoPanic.normal ?_
 clear hS0 hS1 hS2 hrun c5 hS4
 go_wp2
 go_ret
 exact ⟨rfl, HP2.out⟩
theorem PlC.mark (h : PlC NB B R w P U D dl f s) (hn : s.Nx n) : ∃ o, (Instr.mapUpdate 71 (.map (some U)) (.int .i64 (n : Int)) (.int .i64 (n : Int))).run Tryz.prog w = .ok () (setBlock w U o) ∧
  PlC NB B R (setBlock w U o) P U D dl f (s.addX n (pgF f dl n)) ∧ w.grownBy (setBlock w U o) (some U) := by
 have hbd := h.bd
 have hlo := hn.lo
 have hhi := hn.hi
 obtain ⟨n1, n2, n3⟩ := h.ne
 obtain ⟨o, h1, h3, h4⟩ := h.hU.put Pol.inLaw Tryz.underlying71 n (Pol.inOf (show n < 4294967296 by omega))
 rw [Enc.put_new (E := usE) (l := s.us) (e := n) (fun y hy e => hn.new ((show y = n from e) ▸ hy))] at h3
 refine ⟨o, h1, ⟨h.hP.grown h4 (by intro e; injection e with e; exact n1 e), h3, h.hD.same (h4.block _ h.hD.lt (by intro e; injection e with e; exact n3 e.symm)), h.hf.kq (Kq.grown h4) fun q hq e => h.nr.2.1 (Option.some.inj e ▸ hq), h.fc, h.ok.addX hn (pgF_len h n), h.bd, fun d hd => Ps.there_addX.2 (.inl (h.dt d hd)), fun d hd => (h.ow d hd).grown h4 (ow_far fun q e => (h.nu d hd q e).2.1), fun m hm => ?_, h.ne, h.nr, h.nu⟩, h4⟩
 show updN s.g n (pgF f dl n) m = _
 by_cases e : m = n
 ·subst e; rw [updN_same]
 ·rw [updN_ne e]
  rcases Ps.there_addX.1 hm with h5 | h5
  ·exact h.g m h5
  ·exact absurd h5 e
theorem PlC.del (h : PlC NB B R w P U D dl f s) (hn : s.tb < n) (h9 : n < 4294967296) (ty1 ty2 : TypeId) :
  ∃ o1 o2, (Builtin.delete_ #[71, 3] ty1 #[.map (some U), .int .i64 (n : Int)]).run Tryz.prog w = .ok (.tuple #[]) (setBlock w U o1) ∧ (setBlock w U o1).cell? ⟨P, 7, none⟩ = some (.map (some D)) ∧
   (Builtin.delete_ #[72, 3] ty2 #[.map (some D), .int .i64 (n : Int)]).run Tryz.prog (setBlock w U o1) = .ok (.tuple #[]) (setBlock (setBlock w U o1) D o2) ∧
   PlC NB B R (setBlock (setBlock w U o1) D o2) P U D (diE.del dl n) f (s.del n) ∧ Kq (fun q => q = U ∨ q = D) w (setBlock (setBlock w U o1) D o2) := by
 obtain ⟨n1, n2, n3⟩ := h.ne
 obtain ⟨o1, r1, r2, r3⟩ := h.hU.del (p := n) Pol.inLaw Tryz.underlying71 (Pol.inOf h9) ty1
 have hD1 := h.hD.same (w' := setBlock w U o1) (r3.block _ h.hD.lt (by intro e; injection e with e; exact n3 e.symm))
 have hP1 := h.hP.grown r3 (by intro e; injection e with e; exact n1 e)
 obtain ⟨o2, t1, t2, t3⟩ := hD1.del (p := n) Pol.inLaw Tryz.underlying72 (Pol.inOf h9) ty2
 have hk : Kq (fun q => q = U ∨ q = D) w (setBlock (setBlock w U o1) D o2) := ((Kq.grown r3).mono fun k hk => .inl (Option.some.inj hk).symm).trans ((Kq.grown t3).mono fun k hk => .inr (Option.some.inj hk).symm)
 refine ⟨o1, o2, r1, hP1.cellv rfl, t1, ⟨h.hP.kq hk (by rintro (e | e); exact n1 e; exact n2 e), ?_, t2, h.hf.kq hk ?_, h.fc, h.ok.del hn, h.bd, fun d hd => ?_, fun d hd => ?_, fun m hm => ?_, h.ne, h.nr, fun d hd => h.nu d (Enc.mem_del.1 hd).1⟩, hk⟩
 ·have hU2 := r2.same (w' := setBlock (setBlock w U o1) D o2) (t3.block _ r2.lt (by intro e; injection e with e; exact n3 e))
  exact hU2
 ·rintro q hq (e | e)
  ·exact h.nr.2.1 (e ▸ hq)
  ·exact h.nr.2.2 (e ▸ hq)
 ·obtain ⟨h1, h2⟩ := Enc.mem_del.1 hd
  exact (Ps.there_del hn).2 ⟨h.dt d h1, h2⟩
 ·obtain ⟨h1, h2⟩ := Enc.mem_del.1 hd
  exact (h.ow d h1).kq hk fun q hq => by
   have := h.nu d h1 q hq
   rintro (e | e)
   ·exact this.2.1 e
   ·exact this.2.2.1 e
 ·obtain ⟨h1, h2⟩ := (Ps.there_del hn).1 hm
  show updN s.g n [] m = _
  rw [updN_ne h2, pgF_del f dl h2]
  exact h.g m h1
end Go.Proofs.YtcppkaphlcflgaaGreat
namespace Go.Proofs.YtcppkaphlcflgaaGreat
open Go.RowKit Go.Maps Go.ChangeMaps Pol Ftl
variable {NB B P U D n : Nat} {R Q : Nat → Prop} {w w' w1 w2 : World} {f : Fm} {s : Ps} {dl : List Dp}

set_option maxRecDepth 100000 in
set_option maxHeartbeats 4000000 in
theorem polAlloc_calls (h : PlM NB B Q w P f s) (hn : s.Nx n) :
  Calls Tryz.prog 34 #[.pointer (some ⟨P, 0, none⟩)] w fun e w' => e = .returned (.tuple #[.int .i64 (n : Int), .int .i64 0]) ∧ PlR NB B Q w w' P f (s.add n) := by
 have HP := Lib.hid h
 have c2 := h.c2
 have hmk := mkP64
 have hbd := h.bd
 have HBD := Lib.hid hbd
 have hlo := hn.lo
 have hhi := hn.hi
 have HN := Lib.hid hn
 have HB0 := Lib.hid h.base
 clear h hn
 go_enter Tryz.func34, Tryz.ntmps34
 go_wp2_with fail
 go_loopw [4] (fun i wr => ∃ k : Nat, s.tb < k ∧ k ≤ n ∧ i = .int .i64 (k : Int) ∧ PlM NB B Q wr P f s ∧ Below w.heap.size w wr) (fun i _ => n + 1 - (intOf i).toNat)
 case atStart => exact ⟨s.tb + 1, by omega, by omega, by go_num, HP.out, Below.refl _ _⟩
 case round =>
  obtain ⟨k, h2, hk, rfl, hp, hb⟩ := hrel
  have HG := Lib.hid (polGiven_calls hp h2 (by omega))
  have HB := Lib.hid hb
  have HPr := Lib.hid hp
  have iv := IntWalk.i64_in ((k : Int) + 1) ⟨by omega, by omega⟩
  clear hp hb c2
  by_cases hlt : k < n
  ·have HK := Lib.hid (HN.out.least k h2 hlt)
   go_wp2_with fail
   refine HG.out.mono ?_
   rintro e w1 ⟨rfl, hb1⟩
   have HP1 := Lib.hid (HPr.out.on hb1)
   have HB1 := Lib.hid (HB.out.then_ hb1)
   clear hb1
   go_wp2_with fail
   refine (polThere_yes HP1.out (.inr HK.out) (by have := HBD.out; omega)).mono ?_
   rintro e w_ ⟨rfl, rfl⟩
   go_wp2_with fail
   go_roundw
   case rel => exact ⟨k + 1, by omega, by omega, by go_num, HP1.out, HB1.out⟩
   case measure => simp [intOf]; omega
  ·obtain rfl : k = n := by omega
   go_wp2_with fail
   refine HG.out.mono ?_
   rintro e w1 ⟨rfl, hb1⟩
   have hp1 := HPr.out.on hb1
   have hT := polThere_us hp1 h2 (by omega)
   rw [decide_eq_false HN.out.new] at hT
   have HT := Lib.hid hT
   obtain ⟨U, D, dl, R, hc, hq1, hq2⟩ := id hp1
   have c6 : w1.cell? ⟨P, 6, none⟩ = some (.map (some U)) := hc.hP.cellv rfl
   obtain ⟨o, hrun, hm, hg⟩ := hc.mark HN.out
   have HM := Lib.hid hm
   have HK1 := Lib.hid ((Kq.of (T := Q) (HB.out.then_ hb1)).trans ((Kq.grown hg).mono fun q hq => Option.some.inj hq ▸ hq1 U (.inr (.inl rfl))))
   have HS := Lib.hid hg.size
   have HQ1 := Lib.hid hq1
   have HQ2 := Lib.hid hq2
   clear hp1 hT hc hm hg hb1 HG hq1 hq2 iv hlt
   go_wp2_with fail
   refine HT.out.mono ?_
   rintro e w_ ⟨rfl, rfl⟩
   go_upto_region 8 with fail
   generalize setBlock w1 U o = W8 at *
   have hd8 := HM.out.on (below_drew W8)
   have hba : Below W8.drew.heap.size W8.drew (W8.drew.alloc (.cells (Array.replicate 64 (.int .u8 0)) 5)) := (Below.refl _ _).alloc (Nat.le_refl _) _
   have hq3 : ∀ q, Q q → B ≤ q ∧ q < W8.drew.heap.size := fun q hq => ⟨(HQ2.out q hq).1, Nat.lt_of_lt_of_le (HQ2.out q hq).2 HS.out⟩
   obtain ⟨o2, hrun2, hp2⟩ := hd8.putR (Q := Q) HQ1.out hq3 hba (n := k) (Ps.there_addX.2 (.inr rfl)) (by omega) (v := .slice (some ⟨W8.drew.heap.size, 0, none⟩) 64 64) (ownMadeZ W8.drew W8.drew.heap.size 64 (Nat.le_refl _) (by omega)) zeros_len
   rw [Ps.addX_put] at hp2
   have HP2 := Lib.hid (PlR.behind (HK1.out.on (below_drew W8)) hp2 HB0.out)
   have HB8 := Lib.hid (show W8.drew.cell? ⟨P, 7, none⟩ = some (.map (some D)) ∧ W8.drew.cell? ⟨P, 5, none⟩ = some (.int .i64 64) from ⟨hd8.hP.cellv rfl, hd8.hP.cellv rfl⟩)
   have hd9 := hd8.on hba
   have HB9 := Lib.hid (show (W8.drew.alloc (.cells (Array.replicate 64 (.int .u8 0)) 5)).cell? ⟨P, 7, none⟩ = some (.map (some D)) ∧ (W8.drew.alloc (.cells (Array.replicate 64 (.int .u8 0)) 5)).cell? ⟨P, 5, none⟩ = some (.int .i64 64) from ⟨hd9.hP.cellv rfl, hd9.hP.cellv rfl⟩)
   have HB10 := Lib.hid (show (setBlock (W8.drew.alloc (.cells (Array.replicate 64 (.int .u8 0)) 5)) D o2).cell? ⟨P, 7, none⟩ = some (.map (some D)) ∧ (setBlock (W8.drew.alloc (.cells (Array.replicate 64 (.int .u8 0)) 5)) D o2).cell? ⟨P, 5, none⟩ = some (.int .i64 64) from by
    have hne := hd9.ne.2.1
    have h2 := hd9.hP.grown (setBlock_grown hd9.hD o2) (by intro e; injection e with e; exact hne e)
    exact ⟨h2.cellv rfl, h2.cellv rfl⟩)
   clear hp2 hba hrun hd8 hd9 c6 hq3
   refine wp_region_noPanic ?_
   refine wp_region_held_drew (S := (fun W' => W'.cell? ⟨P, 7, none⟩ = some (.map (some D)) ∧ W'.cell? ⟨P, 5, none⟩ = some (.int .i64 64))) (by kernel_rfl) HB8.out (fun hS0 => ?_)
   generalize W8.drew = W9 at *
   refine takeV 0 (v := (.pointer (some ⟨P, 0, none⟩))) rfl (by kernel_rfl) (by kernel_rfl) (by kernel_rfl) (fun _ _ _ h => h) (by rfl) (fun _ _ => rfl) (by assumption) ?_
   try simp only [layR]
   refine takeV 1 (v := (.pointer (some ⟨P, 0, none⟩))) rfl (by kernel_rfl) (by kernel_rfl) (by kernel_rfl) (fun _ _ _ h => h) (by rfl) (fun W hSw => ?_) (by assumption) ?_
   ·skip
    go_simp
   try simp only [layR]
   refine takeV 2 (v := (.pointer (some ⟨P, 7, none⟩))) rfl (by kernel_rfl) (by kernel_rfl) (by kernel_rfl) (fun _ _ _ h => h) (by rfl) (fun W hSw => ?_) (by assumption) ?_
   ·skip
    go_simp
   try simp only [layR]
   refine takeV 3 (v := (.map (some D))) rfl (by kernel_rfl) (by kernel_rfl) (by kernel_rfl) (fun _ _ _ h => h) (by rfl) (fun W hSw => ?_) (by assumption) ?_
   ·have y9 := hSw.1
    go_simp
   try simp only [layR]
   refine takeV 4 (v := (.int .i64 (k : Int))) rfl (by kernel_rfl) (by kernel_rfl) (by kernel_rfl) (fun _ _ _ h => h) (by rfl) (fun _ _ => rfl) (by assumption) ?_
   try simp only [layR]
   refine takeV 5 (v := (.pointer (some ⟨P, 0, none⟩))) rfl (by kernel_rfl) (by kernel_rfl) (by kernel_rfl) (fun _ _ _ h => h) (by rfl) (fun _ _ => rfl) (by assumption) ?_
   try simp only [layR]
   refine takeV 6 (v := (.pointer (some ⟨P, 0, none⟩))) rfl (by kernel_rfl) (by kernel_rfl) (by kernel_rfl) (fun _ _ _ h => h) (by rfl) (fun W hSw => ?_) (by assumption) ?_
   ·skip
    go_simp
   try simp only [layR]
   refine takeV 7 (v := (.pointer (some ⟨P, 5, none⟩))) rfl (by kernel_rfl) (by kernel_rfl) (by kernel_rfl) (fun _ _ _ h => h) (by rfl) (fun W hSw => ?_) (by assumption) ?_
   ·skip
    go_simp
   try simp only [layR]
   refine takeV 8 (v := (.int .i64 64)) rfl (by kernel_rfl) (by kernel_rfl) (by kernel_rfl) (fun _ _ _ h => h) (by rfl) (fun W hSw => ?_) (by assumption) ?_
   ·have y9 := hSw.2
    go_simp
   try simp only [layR]
   refine wpAnyH_ready (rs := [9]) (by kernel_rfl) (by simp) ?_
   refine AllReadyH.cons rfl (fun K' hK => ?_) AllReadyH.nil
   go_simp
   refine hK.out _ _ HB9.out (fun hS1 => ?_)
   try simp only [layR]
   refine wpAnyH_ready (rs := [10]) (by kernel_rfl) (by simp) ?_
   refine AllReadyH.cons rfl (fun K' hK => ?_) AllReadyH.nil
   go_simp
   refine hK.out _ _ HB10.out (fun hS2 => ?_)
   try simp only [layR]
   refine wpAnyH_done (by kernel_rfl) ?_ _
   refine NoPanic.normal ?_
   clear hS0 hS1 hS2 hrun2 hmk
   go_wp2
   go_ret2
   exact ⟨rfl, HP2.out⟩
theorem polFree_calls (h : PlM NB B Q w P f s) (hn : n ∈ s.us) :
  Calls Tryz.prog 103 #[.pointer (some ⟨P, 0, none⟩), .int .i64 (n : Int)] w fun e w' => e = .returned (.int .i64 0) ∧ PlR NB B Q w w' P f (s.del n) := by
 have hr := h.ok.us n hn
 have hbd := h.bd
 have hA := Lib.hid (polAsked_calls h (.inr hn))
 have hG := Lib.hid (polGiven_calls h hr.1 hr.2)
 have HP := Lib.hid h
 have HB0 := Lib.hid h.base
 clear h
 go_enter Tryz.func103, Tryz.ntmps103
 go_wp2_with fail
 refine hA.out.mono ?_
 rintro e w_ ⟨rfl, rfl⟩
 go_wp2_with fail
 refine hG.out.mono ?_
 rintro e w1 ⟨rfl, hb1⟩
 obtain ⟨U, D, dl, R, hc, hq1, hq2⟩ := HP.out.on hb1
 have c6 : w1.cell? ⟨P, 6, none⟩ = some (.map (some U)) := hc.hP.cellv rfl
 obtain ⟨o1, o2, r1, r2, r3, r4, r5⟩ := hc.del hr.1 (show n < 4294967296 by omega) 0 0
 have r1 : ∀ ty, (Builtin.delete_ #[71, 3] ty #[.map (some U), .int .i64 (n : Int)]).run Tryz.prog w1 = .ok (.tuple #[]) (setBlock w1 U o1) := fun _ => r1
 have r3 : ∀ ty, (Builtin.delete_ #[72, 3] ty #[.map (some D), .int .i64 (n : Int)]).run Tryz.prog (setBlock w1 U o1) = .ok (.tuple #[]) (setBlock (setBlock w1 U o1) D o2) := fun _ => r3
 have hs1 := hb1.size
 have HF := Lib.hid (show PlR NB B Q w (setBlock (setBlock w1 U o1) D o2) P f (s.del n) from by
  have hk2 := r5.mono (T' := Q) fun q hq => by
   rcases hq with rfl | rfl
   ·exact hq1 _ (.inr (.inl rfl))
   ·exact hq1 _ (.inr (.inr (.inl rfl)))
  have hsz := r5.size
  have hpl : PlM NB B Q (setBlock (setBlock w1 U o1) D o2) P f (s.del n) := ⟨U, D, _, R, r4, fun q hq => hq1 q (by
   rcases hq with e | e | e | e | ⟨d, hd, e⟩
   ·exact .inl e
   ·exact .inr (.inl e)
   ·exact .inr (.inr (.inl e))
   ·exact .inr (.inr (.inr (.inl e)))
   ·exact .inr (.inr (.inr (.inr ⟨d, (Enc.mem_del.1 hd).1, e⟩)))), fun q hq => ⟨(hq2 q hq).1, by have := (hq2 q hq).2; omega⟩⟩
  exact PlR.from_ hb1 (PlM.same_ hpl hk2 (by have := HB0.out; omega)) HB0.out)
 clear hc hq1 hq2 hb1 r4 r5 hs1
 go_wp2
 go_ret
 exact ⟨rfl, HF.out⟩
end Go.Proofs.YtcppkaphlcflgaaGreat
