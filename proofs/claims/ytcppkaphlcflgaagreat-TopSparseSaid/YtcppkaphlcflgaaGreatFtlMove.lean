import Derived.Test.YtcppkaphlcflgaaGreatFtlMov
import Derived.Test.YtcppkaphlcflgaaGreatFtlCopy
namespace Go.Proofs.YtcppkaphlcflgaaGreat
open Go.RowKit Ftl Go.ChangeMaps

theorem heldCs : Tryz.prog.cellsOf 250 = 4 := by kernel_rfl
theorem hd_at {SE NO : Nat} {w : World} {B : Nat} {a : Option Addr} {n : Nat} {l : List Hd} (h : ArrM 4 (hdL SE NO) w B a n l) {k : Nat} (hk : k < n) : ∃ x, l[k]? = some x ∧ ∃ b o, a = some ⟨b, o, none⟩ ∧ b < B ∧ w.cell? ⟨b, o + k * 4, none⟩ = some (.map (some (if x.n then NO else SE))) ∧ w.cell? ⟨b, o + k * 4 + 1, none⟩ = some (.int .u32 (x.e.t.p : Int)) ∧ w.cell? ⟨b, o + k * 4 + 2, none⟩ = some (.int .i64 (x.e.b : Int)) ∧ w.cell? ⟨b, o + k * 4 + 3, none⟩ = some (.int .i64 (x.e.i : Int)) := by
 obtain ⟨b, o, hk', ha, hb, hc⟩ := h.atv hk
 exact ⟨l[k], List.getElem?_eq_getElem hk', b, o, ha, hb, hc 0 _ rfl, hc 1 _ rfl, hc 2 _ rfl, hc 3 _ rfl⟩
section
variable {NB B n : Nat} {R : Nat → Prop} {w : World} {f : Fm}
def Mvd (NB B : Nat) (R : Nat → Prop) (n : Nat) (f : Fm) (k : Nat) (w : World) (e : Ending) (w' : World) : Prop :=
 e = .returned (.int .i64 0) ∧ ∃ f', FtR NB B R w w' f' ∧ Mvj NB n f f' k (Gc.at_ f.g.l k).live (Gc.at_ f.g.l k).live []
set_option maxRecDepth 100000 in
set_option maxHeartbeats 8000000 in
theorem move_calls (h : FtM NB B R w f) (hi : Fi NB n [] f.g (f.se ++ f.no)) {k : Nat} (hk : k < NB) (ho : f.g.opn = -1) (hf : 0 < Gc.count 0 f.g.l) :
  Calls Tryz.prog 189 #[.pointer (some ⟨f.F, 0, none⟩), .int .i64 (k : Int)] w (Mvd NB B R n f k w) := by
 have hb := hi.w.bk k hk
 have hal : (allIn f k).length = (Gc.at_ f.g.l k).live := by rw [allIn_len]; exact hi.count hk
 have HN := Lib.hid (needed_calls h k (fun e he => (hi.pg e he).i8) (by have := hb.l8; omega))
 have HB0 := h.base
 have HH := Lib.hid h
 have HI := Lib.hid hi
 have HO := Lib.hid ho
 have HF := Lib.hid hf
 have HL8 := Lib.hid hb.l8
 have HAl := Lib.hid hal
 have H01 := Lib.hid (show 0 < (Gc.at_ f.g.l k).live → (Gc.at_ f.g.l k).st ≠ 0 ∧ (Gc.at_ f.g.l k).st ≠ 1 from fun hp => ⟨fun e => by have := (hb.fr e).1; omega, fun e => by have := (hb.op e).1; omega⟩)
 clear h hi ho hf hb hal
 go_enter Tryz.func189, Tryz.ntmps189
 go_wp2_with fail
 refine HN.out.mono ?_
 rintro e w1 ⟨⟨a, m, c, L, rfl, hm, hL, hA, hA2⟩, hb1⟩
 have hmz : m = (Gc.at_ f.g.l k).live := by
  have := hL.length_eq
  rw [List.length_map, hA.len, HAl.out] at this
  exact this
 obtain ⟨M, hM⟩ : ∃ M, M = (Gc.at_ f.g.l k).live := ⟨_, rfl⟩
 rw [← hM] at hmz
 subst hmz
 have HM := Lib.hid hM
 have H1 := Lib.hid (HH.out.on hb1)
 have HB1 := Lib.hid hb1
 have HA := Lib.hid hA
 have HJ0 := Lib.hid (show Mvj NB n f f k m 0 L by rw [HM.out]; exact mvj0 HI.out HH.out.hS.uq HH.out.hN.uq hk HO.out hL)
 have HA2 := Lib.hid hA2
 clear hb1 hL hA hM hA2
 go_wp2_with fail
 go_loopw [4, 6, 7, 8, 9, 10, 11, 16] (fun _ _ _ _ _ _ _ v wr => ∃ j : Nat, j ≤ m ∧ v = .int .i64 (j : Int) ∧ Hid (∃ f', FtR NB B R w1 wr f' ∧ Mvj NB n f f' k m j (L.drop j))) (fun _ _ _ _ _ _ _ v _ => m - (intOf v).toNat)
 case atStart => exact ⟨0, by omega, rfl, ⟨f, H1.out.refl, HJ0.out⟩⟩
 case round =>
  obtain ⟨j, hj, rfl, hX⟩ := hrel
  by_cases hlt : j < m
  ·obtain ⟨f', hf1, hf2⟩ := hX.out
   have hA := HA.out.kq (Nat.le_refl _) hf1.2 fun b o e h1 => by
    have := HA2.out b o e
    have := (HH.out.bnd b h1).2
    omega
   obtain ⟨x, hx, b, o, rfl, hbl, c0, c1, c2, c3⟩ := hd_at hA hlt
   have hdr : L.drop j = x :: L.drop (j + 1) := by
    obtain ⟨hjl, he⟩ := List.getElem?_eq_some_iff.1 hx
    rw [List.drop_eq_getElem_cons hjl, he]
   rw [hdr] at hf2
   have HF1 := Lib.hid hf1
   have HF2 := Lib.hid hf2
   have hcs := heldCs
   have g1 : (0 : Int) ≤ (j : Int) := by omega
   have g2 : (j : Int) < (m : Int) := by omega
   clear hX hf1 hf2 hA hx hdr
   have HFF := Lib.hid HF2.out.same.F
   obtain ⟨MB, hMB⟩ : ∃ MB, MB = if x.n then f.NO else f.SE := ⟨_, rfl⟩
   rw [← hMB] at c0
   have HMB := Lib.hid hMB
   clear hMB
   go_upto_region 4 with fail
   have hal := (Below.refl wr.heap.size wr).alloc (Nat.le_refl _) (.cells #[.map (some MB), .int .u32 (x.e.t.p : Int), .int .i64 (x.e.b : Int), .int .i64 (x.e.i : Int)] 250)
   obtain ⟨R1, hR1⟩ : ∃ R1, R1 = Up R w1 wr := ⟨_, rfl⟩
   have HR1 := Lib.hid hR1
   have HM1 := Lib.hid (show FtM NB B R1 (wr.alloc (.cells #[.map (some MB), .int .u32 (x.e.t.p : Int), .int .i64 (x.e.b : Int), .int .i64 (x.e.i : Int)] 250)) f' by rw [hR1]; exact HF1.out.1.on hal)
   have HQ1 := Lib.hid (Blk.new wr 250 #[.map (some MB), .int .u32 (x.e.t.p : Int), .int .i64 (x.e.b : Int), .int .i64 (x.e.i : Int)])
   have HQn := Lib.hid (show ¬ R1 wr.heap.size by rw [hR1]; exact HF1.out.1.not_new (Nat.le_refl _))
   have HB2 := Lib.hid hal
   clear hR1 hal c0 c1 c2 c3
   generalize wr.alloc (.cells #[.map (some MB), .int .u32 (x.e.t.p : Int), .int .i64 (x.e.b : Int), .int .i64 (x.e.i : Int)] 250) = W1 at *
   have HQz := Lib.hid (show ∀ q : Nat, q < wr.heap.size → q < W1.heap.size from fun q hq => Nat.lt_of_lt_of_le hq HB2.out.size)
   obtain ⟨Q, hQ⟩ : ∃ Q, Q = wr.heap.size := ⟨_, rfl⟩
   rw [← hQ] at HQ1 HQn ⊢
   have HQe := Lib.hid hQ
   clear hQ
   have hc0 := HM1.out.c0
   rw [HFF.out] at hc0
   have hq3 : W1.cell? ⟨Q, 3, none⟩ = some (.int .i64 (x.e.i : Int)) := Blk.cellv (i := 3) HQ1.out rfl
   have HRd := Lib.hid (fRead_calls (HM1.out.on (below_drew W1)) hk x.h)
   refine wp_region_noPanic ?_
   refine wp_region_held_drew (S := (fun W' => W'.cell? ⟨f.F, 0, none⟩ = some (.pointer (some ⟨f'.g.C, 0, none⟩)) ∧ W'.cell? ⟨Q, 3, none⟩ = some (.int .i64 (x.e.i : Int)))) (by kernel_rfl) ⟨hc0, hq3⟩ (fun hS0 => ?_)
   refine takeV 0 (v := (.pointer (some ⟨f.F, 0, none⟩))) rfl (by kernel_rfl) (by kernel_rfl) (by kernel_rfl) (fun _ _ _ h => h) (by rfl) (fun _ _ => rfl) (by assumption) ?_
   try simp only [layR]
   refine takeV 1 (v := (.pointer (some ⟨f.F, 0, none⟩))) rfl (by kernel_rfl) (by kernel_rfl) (by kernel_rfl) (fun _ _ _ h => h) (by rfl) (fun _ _ => rfl) (by assumption) ?_
   try simp only [layR]
   refine takeV 2 (v := (.pointer (some ⟨f.F, 0, none⟩))) rfl (by kernel_rfl) (by kernel_rfl) (by kernel_rfl) (fun _ _ _ h => h) (by rfl) (fun W hSw => ?_) (by assumption) ?_
   ·skip
    go_simp
   try simp only [layR]
   refine takeV 3 (v := (.pointer (some ⟨f'.g.C, 0, none⟩))) rfl (by kernel_rfl) (by kernel_rfl) (by kernel_rfl) (fun _ _ _ h => h) (by rfl) (fun W hSw => ?_) (by assumption) ?_
   ·obtain ⟨y8, y9⟩ := hSw
    go_simp
   try simp only [layR]
   refine takeV 4 (v := (.int .i64 (k : Int))) rfl (by kernel_rfl) (by kernel_rfl) (by kernel_rfl) (fun _ _ _ h => h) (by rfl) (fun _ _ => rfl) (by assumption) ?_
   try simp only [layR]
   refine takeV 5 (v := (.pointer (some ⟨Q, 2, none⟩))) rfl (by kernel_rfl) (by kernel_rfl) (by kernel_rfl) (fun _ _ _ h => h) (by rfl) (fun W hSw => ?_) (by assumption) ?_
   ·skip
    go_simp
   try simp only [layR]
   refine takeV 6 (v := (.pointer (some ⟨Q, 3, none⟩))) rfl (by kernel_rfl) (by kernel_rfl) (by kernel_rfl) (fun _ _ _ h => h) (by rfl) (fun W hSw => ?_) (by assumption) ?_
   ·skip
    go_simp
   try simp only [layR]
   refine takeV 7 (v := (.int .i64 (x.e.i : Int))) rfl (by kernel_rfl) (by kernel_rfl) (by kernel_rfl) (fun _ _ _ h => h) (by rfl) (fun W hSw => ?_) (by assumption) ?_
   ·obtain ⟨y8, y9⟩ := hSw
    go_simp
   try simp only [layR]
   refine wpAnyH_ready (rs := [8]) (by kernel_rfl) (by simp) ?_
   refine AllReadyH.cons rfl (fun K' hK => ?_) AllReadyH.nil
   go_simp
   refine HRd.out.mono ?_
   rintro e W2 ⟨⟨a3, c3, rfl, hc3, ho3⟩, hm2, hk2⟩
   have HM2 := Lib.hid hm2
   have HK2 := Lib.hid hk2
   have HO2 := Lib.hid ho3
   have hS1 : W2.cell? ⟨f.F, 0, none⟩ = some (.pointer (some ⟨f'.g.C, 0, none⟩)) ∧ W2.cell? ⟨Q, 3, none⟩ = some (.int .i64 (x.e.i : Int)) := by
    refine ⟨by rw [← HFF.out]; exact hm2.c0, ?_⟩
    exact (Blk.kq (HQ1.out.drew) hk2 HQn.out).cellv (i := 3) rfl
   clear hm2 hk2 ho3
   refine hK.out _ _ hS1 (fun hS2 => ?_)
   try simp only [layR]
   refine takeV 9 (v := (.tuple #[.slice a3 96 c3, .int .i64 0])) rfl (by kernel_rfl) (by kernel_rfl) (by kernel_rfl) (fun _ _ _ h => h) (by rfl) (fun _ _ => rfl) (by assumption) ?_
   try simp only [layR]
   refine takeV 10 (v := (.slice a3 96 c3)) rfl (by kernel_rfl) (by kernel_rfl) (by kernel_rfl) (fun _ _ _ h => h) (by rfl) (fun _ _ => rfl) (by assumption) ?_
   try simp only [layR]
   refine takeV 11 (v := (.int .i64 0)) rfl (by kernel_rfl) (by kernel_rfl) (by kernel_rfl) (fun _ _ _ h => h) (by rfl) (fun _ _ => rfl) (by assumption) ?_
   try simp only [layR]
   refine takeV 12 (v := (.slice a3 96 c3)) rfl (by kernel_rfl) (by kernel_rfl) (by kernel_rfl) (fun _ _ _ h => h) (by rfl) (fun _ _ => rfl) (by assumption) ?_
   try simp only [layR]
   refine takeV 13 (v := (.int .i64 0)) rfl (by kernel_rfl) (by kernel_rfl) (by kernel_rfl) (fun _ _ _ h => h) (by rfl) (fun _ _ => rfl) (by assumption) ?_
   try simp only [layR]
   refine wpAnyH_done (by kernel_rfl) ?_ _
   refine NoPanic.normal ?_
   clear hS0 hS1 hS2 hc0 hq3
   have hx1 := HF2.out.mem x (by simp)
   have hxe : x.e ∈ f'.se ++ f'.no := by
    obtain ⟨_, hx2⟩ := hx1
    cases hn : x.n
    ·rw [hn] at hx2; exact List.mem_append_left _ hx2
    ·rw [hn] at hx2; exact List.mem_append_right _ hx2
   have hpg : chL ((f'.g.bl k).pgs x.e.i) = Tg.page x.e.t x.e.d := by
    have := (HF2.out.fi.pg x.e hxe).pg
    rw [hx1.1] at this
    rw [this]; rfl
   have hO2 := HO2.out
   rw [hpg] at hO2
   have HO2 := Lib.hid hO2
   have HXk := Lib.hid (HF2.out.fi.ok x.e hxe).key
   have hap : ∀ q, Value.ownBlock (.slice a3 96 c3) = some q → ¬ R1 q := fun q hq => HM1.out.not_new (hO2.blockLt q hq).1
   have hr : f'.g.opn ≠ -1 ∨ 0 < Gc.count 0 f'.g.l := by
    rcases HF2.out.rows with ⟨_, e1, _⟩ | ⟨_, a, _, _, _, _, _, e1, _⟩
    ·rw [e1]; exact .inr HF.out
    ·refine .inl ?_
     have := HL8.out
     have := HM.out
     rw [e1, if_neg (by omega)]
     omega
   have HC := Lib.hid (copied_calls HM2.out HF2.out.fi hr a3 c3 _ (HF2.out.fi.al _ _ _ (HF2.out.fi.lt hxe) (HF2.out.fi.pg x.e hxe).i8 (HF2.out.fi.pg x.e hxe).pg) (HO2.out.mono (Nat.zero_le _)) hap)
   rw [HFF.out] at HC
   have HQ2 := Lib.hid (Blk.kq HQ1.out.drew HK2.out HQn.out)
   clear hx1 hxe hpg hO2 hap hr
   go_wp2_with fail
   refine HC.out.mono ?_
   rintro e W4 ⟨k', i', g1', rfl, h4, hP, hfi⟩
   obtain ⟨R2, hR2⟩ : ∃ R2, R2 = Up R1 W2 W4 := ⟨_, rfl⟩
   have hb5 := (Below.refl W4.heap.size W4).alloc (Nat.le_refl _) (.cells #[.int .i64 (k' : Int), .int .i64 (i' : Int)] 184)
   obtain ⟨W5, hW5⟩ : ∃ W5, W5 = W4.alloc (.cells #[.int .i64 (k' : Int), .int .i64 (i' : Int)] 184) := ⟨_, rfl⟩
   rw [← hW5] at hb5
   have hm5 := h4.1.on hb5
   have HQn2 := Lib.hid (show ¬ R2 Q by rw [hR2]; exact h4.far HQn.out (Blk.lt HQ2.out))
   rw [← hR2] at hm5
   have HQ5 := Lib.hid ((h4.blk HQ2.out HQn.out).belowHere hb5)
   have HZ5 := Lib.hid (show Blk W5 W4.heap.size 184 #[.int .i64 (k' : Int), .int .i64 (i' : Int)] by rw [hW5]; exact Blk.new W4 _ _)
   have HB5 := Lib.hid hb5
   have HW5 := Lib.hid hW5
   obtain ⟨o6, hrun, hm6, hk6⟩ := hm5.putB x.n (MB := MB) (by rw [HMB.out, show ({ f' with g := g1' } : Fm).NO = f.NO from HF2.out.same.NO, show ({ f' with g := g1' } : Fm).SE = f.SE from HF2.out.same.SE]) (nxE x k' i') HXk.out
   have hrun : (Instr.mapUpdate 135 (.map (some MB)) (.int .u32 (x.e.t.p : Int)) (.agg #[.int .i64 (k' : Int), .int .i64 (i' : Int)])).run Tryz.prog W5 = .ok () (setBlock W5 MB o6) := hrun
   have HM6 := Lib.hid hm6
   have HK6 := Lib.hid hk6
   have HR2 := Lib.hid hR2
   have HP := Lib.hid hP
   have HFi := Lib.hid hfi
   have HK4 := Lib.hid h4.2
   have HZs := Lib.hid (show W4.heap.size ≤ W5.heap.size from hb5.size)
   clear hm5 hm6 hk6 hR2 hb5 hP hfi h4
   have q0 := Blk.cellv (i := 0) HQ5.out rfl
   have q1 := Blk.cellv (i := 1) HQ5.out rfl
   have z0 := Blk.cellv (i := 0) HZ5.out rfl
   have z1 := Blk.cellv (i := 1) HZ5.out rfl
   have hcs2 := placeCells
   go_upto_region 10 with fail
   rw [← hW5]
   clear hW5
   go_upto_region 11 with fail
   -- region 11
   have HQ6 := Lib.hid (Blk.kq HQ5.out HK6.out HQn2.out)
   clear hrun q0 q1 z0 z1
   obtain ⟨W6, hW6⟩ : ∃ W6, W6 = setBlock W5 MB o6 := ⟨_, rfl⟩
   rw [← hW6] at HM6 HK6 HQ6 ⊢
   clear hW6
   obtain ⟨f2, hf2⟩ : ∃ f2, f2 = ({ f' with g := g1', se := if x.n then f'.se else putE f'.se (nxE x k' i'), no := if x.n then putE f'.no (nxE x k' i') else f'.no } : Fm) := ⟨_, rfl⟩
   have HM6 : Hid (FtM NB B R2 W6 f2) := by rw [hf2]; exact HM6
   have HS6 := Lib.hid (show Same f' { f2 with g := g1', se := f'.se, no := f'.no } by rw [hf2]; exact ⟨rfl, rfl, rfl, rfl, rfl, HP.out.M, HP.out.ML, HP.out.C, rfl, rfl, rfl, rfl, rfl, rfl, rfl, rfl, HP.out.gh⟩)
   have HSe6 := Lib.hid (show f2.se = if x.n then f'.se else putE f'.se (nxE x k' i') by rw [hf2])
   have HNo6 := Lib.hid (show f2.no = if x.n then putE f'.no (nxE x k' i') else f'.no by rw [hf2])
   have HG6 := Lib.hid (show f2.g = g1' by rw [hf2])
   have HFF6 := Lib.hid (show f2.F = f.F by rw [hf2]; exact HFF.out)
   clear hf2
   obtain ⟨gb, gi, hgv⟩ : ∃ gb gi : Nat, plO (getE f2.go x.e.t.p) = .agg #[.int .i64 (gb : Int), .int .i64 (gi : Int)] := by
    cases getE f2.go x.e.t.p with
    | none => exact ⟨0, 0, rfl⟩
    | some e => exact ⟨e.b, e.i, rfl⟩
   obtain ⟨gf, hgf⟩ : ∃ gf, gf = (getE f2.go x.e.t.p).isSome := ⟨_, rfl⟩
   have HGf := Lib.hid hgf
   have HLk := Lib.hid (fun (W' : World) (hW : Below W6.heap.size W6 W') => show (Instr.lookup 135 (.map (some f2.GO)) (.int .u32 (x.e.t.p : Int)) true).run Tryz.prog W' = .ok (.tuple #[.agg #[.int .i64 (gb : Int), .int .i64 (gi : Int)], .bool gf]) W' by
    have := (HM6.out.on hW).hG.look HXk.out true
    rw [hgv, ← hgf] at this
    exact this)
   have HC7 := Lib.hid (fun (W' : World) (hW : Below W6.heap.size W6 W') => show W'.cell? ⟨f.F, 7, none⟩ = some (.map (some f2.GO)) by rw [← HFF6.out]; exact (HM6.out.on hW).c7)
   have HC1 := Lib.hid (fun (W' : World) (hW : Below W6.heap.size W6 W') => show W'.cell? ⟨Q, 1, none⟩ = some (.int .u32 (x.e.t.p : Int)) from (HQ6.out.belowHere hW).cellv (i := 1) rfl)
   clear hgv hgf
   have HS0 := Lib.hid (show Below W6.heap.size W6 W6.drew from below_drew W6)
   refine wp_region_noPanic ?_
   refine wp_region_held_drew (S := (fun W' => Below W6.heap.size W6 W')) (by kernel_rfl) HS0.out (fun hS0 => ?_)
   generalize W6.drew = W7 at *
   refine takeV 0 (v := (.pointer (some ⟨f.F, 0, none⟩))) rfl (by kernel_rfl) (by kernel_rfl) (by kernel_rfl) (fun _ _ _ h => h) (by rfl) (fun _ _ => rfl) (by assumption) ?_
   try simp only [layR]
   refine takeV 1 (v := (.pointer (some ⟨f.F, 0, none⟩))) rfl (by kernel_rfl) (by kernel_rfl) (by kernel_rfl) (fun _ _ _ h => h) (by rfl) (fun _ _ => rfl) (by assumption) ?_
   try simp only [layR]
   refine takeV 2 (v := (.pointer (some ⟨f.F, 7, none⟩))) rfl (by kernel_rfl) (by kernel_rfl) (by kernel_rfl) (fun _ _ _ h => h) (by rfl) (fun W hSw => ?_) (by assumption) ?_
   ·skip
    go_simp
   try simp only [layR]
   refine takeV 3 (v := (.map (some f2.GO))) rfl (by kernel_rfl) (by kernel_rfl) (by kernel_rfl) (fun _ _ _ h => h) (by rfl) (fun W hSw => ?_) (by assumption) ?_
   ·have y9 := HC7.out _ hSw
    go_simp
   try simp only [layR]
   refine takeV 4 (v := (.pointer (some ⟨Q, 1, none⟩))) rfl (by kernel_rfl) (by kernel_rfl) (by kernel_rfl) (fun _ _ _ h => h) (by rfl) (fun W hSw => ?_) (by assumption) ?_
   ·skip
    go_simp
   try simp only [layR]
   refine takeV 5 (v := (.int .u32 (x.e.t.p : Int))) rfl (by kernel_rfl) (by kernel_rfl) (by kernel_rfl) (fun _ _ _ h => h) (by rfl) (fun W hSw => ?_) (by assumption) ?_
   ·have y9 := HC1.out _ hSw
    go_simp
   try simp only [layR]
   refine takeV 6 (v := (.tuple #[.agg #[.int .i64 (gb : Int), .int .i64 (gi : Int)], .bool gf])) rfl (by kernel_rfl) (by kernel_rfl) (by kernel_rfl) (fun _ _ _ h => h) (by rfl) (fun W hSw => ?_) (by assumption) ?_
   ·have y9 := HLk.out _ hSw
    go_simp
   try simp only [layR]
   refine takeV 7 (v := (.tuple #[.agg #[.int .i64 (gb : Int), .int .i64 (gi : Int)], .bool gf])) rfl (by kernel_rfl) (by kernel_rfl) (by kernel_rfl) (fun _ _ _ h => h) (by rfl) (fun _ _ => rfl) (by assumption) ?_
   try simp only [layR]
   refine takeV 8 (v := (.agg #[.int .i64 (gb : Int), .int .i64 (gi : Int)])) rfl (by kernel_rfl) (by kernel_rfl) (by kernel_rfl) (fun _ _ _ h => h) (by rfl) (fun _ _ => rfl) (by assumption) ?_
   try simp only [layR]
   refine takeV 9 (v := (.bool gf)) rfl (by kernel_rfl) (by kernel_rfl) (by kernel_rfl) (fun _ _ _ h => h) (by rfl) (fun _ _ => rfl) (by assumption) ?_
   try simp only [layR]
   refine wpAnyH_ready (rs := [10]) (by kernel_rfl) (by simp) ?_
   refine AllReadyH.cons rfl (fun K' hK => ?_) AllReadyH.nil
   go_simp
   have hS1 := hS0.alloc hS0.size (.cells #[.int .i64 0, .int .i64 0] 184)
   have hbT := Blk.new W7 184 #[.int .i64 0, .int .i64 0]
   have HT0 := Lib.hid hS0.size
   refine hK.out _ _ hS1 (fun hS2 => ?_)
   try simp only [layR]
   refine wpAnyH_ready (rs := [11]) (by kernel_rfl) (by simp) ?_
   refine AllReadyH.cons rfl (fun K' hK => ?_) AllReadyH.nil
   go_simp
   have hS3 := hS0.alloc hS0.size (.cells #[.int .i64 (gb : Int), .int .i64 (gi : Int)] 184)
   refine hK.out _ _ hS3 (fun hS4 => ?_)
   try simp only [layR]
   refine takeV 12 (v := (.bool gf)) rfl (by kernel_rfl) (by kernel_rfl) (by kernel_rfl) (fun _ _ _ h => h) (by rfl) (fun _ _ => rfl) (by assumption) ?_
   try simp only [layR]
   refine wpAnyH_done (by kernel_rfl) ?_ _
   refine NoPanic.normal ?_
   have HM7 := Lib.hid (HM6.out.on hS3)
   have HQ7 := Lib.hid (HQ6.out.belowHere hS3)
   have HB7 := Lib.hid hS3
   clear hS0 hS1 hS2 hS3 hS4 hbT HS0
   generalize W7.alloc (.cells #[.int .i64 (gb : Int), .int .i64 (gi : Int)] 184) = W8 at *
   have q1 := Blk.cellv (i := 1) HQ7.out rfl
   cases gf
   ·have HM8 := HM7
    have HS8 := HS6
    have HSe8 := HSe6
    have HNo8 := HNo6
    have HG8 := HG6
    have HK8 := Lib.hid (Kq.of (T := R2) HB7.out)
    clear HM7 HS6 HSe6 HNo6 HG6
    obtain ⟨f3, hf3⟩ : ∃ f3, f3 = f2 := ⟨_, rfl⟩
    rw [← hf3] at HM8 HS8 HSe8 HNo8 HG8
    clear hf3
    have hc8 := HM8.out.c1
    have eF8 : f3.F = f.F := HS8.out.F.trans HFF.out
    rw [eF8] at hc8
    have hfx : Fi NB (n + 2 * j + 1) (k :: []) f3.g (f3.se ++ f3.no) := by
     rw [HG8.out, HSe8.out, HNo8.out]
     exact HF2.out.mid HP.out HFi.out
    have HDr := Lib.hid (fDrop_calls HM8.out hfx)
    have HFd := Lib.hid (Mvj.step (f4 := { f3 with g := { f3.g with l := f3.g.l.set k (dropB (Gc.at_ f3.g.l k)) } }) HF2.out hk (by have := HL8.out; have := HM.out; omega) (H01.out (by have := HM.out; omega)) HP.out HFi.out HS8.out HSe8.out HNo8.out (by rw [HG8.out]))
    clear hfx eF8
    go_wp2_with fail
    refine HDr.out.mono ?_
    rintro e W9 ⟨rfl, hm9, hk9⟩
    have HM9 := Lib.hid hm9
    have HK9 := Lib.hid hk9
    clear hm9 hk9 hc8
    go_wp2_with fail
    go_roundw
    case rel =>
     refine ⟨j + 1, by omega, by go_num, ⟨_, ?_, HFd.out⟩⟩
     have hk49 : Kq R2 W4 W9 := (((Kq.of HB5.out).trans HK6.out).trans HK8.out).trans HK9.out
     have hkA : Kq R1 wr W4 := ((Kq.of HB2.out).on (below_drew W1)).trans (HK2.out.trans HK4.out)
     have hz1 : wr.heap.size ≤ W2.heap.size := Nat.le_trans HB2.out.size HK2.out.size
     have hz2 := HK4.out.size
     have hz3 := hk49.size
     have hkE : Kq R1 wr W9 := hkA.then_ hk49 fun q hq => by
      rw [HR2.out] at hq
      rcases hq with h1 | h1
      ·exact .inl h1
      ·exact .inr (by omega)
     have hmE : FtM NB B (Up R1 wr W9) W9 _ := HM9.out.more (fun q hq => by
      rw [HR2.out] at hq
      rcases hq with h1 | h1
      ·exact .inl h1
      ·exact .inr (by omega)) fun q hq => by
      rcases hq with h1 | h1
      ·exact HM9.out.bnd q (by rw [HR2.out]; exact .inl h1)
      ·exact ⟨by have := HB0; have := HB1.out.size; have := HF1.out.2.size; omega, h1.2⟩
     have := HF1.out.then_ (f2 := _) ⟨by rw [HR1.out] at hmE; exact hmE, by rw [HR1.out] at hkE; exact hkE⟩
     exact this
    case measure => simp [intOf]; omega
   ·by_cases hp : 0 < x.e.t.p
    ·have hpi : (0 : Int) < (x.e.t.p : Int) := by omega
     have HPk := Lib.hid hp
     go_upto_region 13 with fail
     clear q1 hpi hp
     obtain ⟨sb, si, hsv⟩ : ∃ sb si : Nat, plO (getE f2.se x.e.t.p) = .agg #[.int .i64 (sb : Int), .int .i64 (si : Int)] := by
      cases getE f2.se x.e.t.p with
      | none => exact ⟨0, 0, rfl⟩
      | some e => exact ⟨e.b, e.i, rfl⟩
     obtain ⟨S7, hS7⟩ : ∃ S7 : World → Prop, S7 = fun W' => (∃ f5, FtM NB B R2 W' f5 ∧ f5.F = f.F ∧ f5.GO = f2.GO ∧ f5.SE = f2.SE ∧ f5.se = f2.se) ∧ Blk W' Q 250 #[.map (some MB), .int .u32 (x.e.t.p : Int), .int .i64 (x.e.b : Int), .int .i64 (x.e.i : Int)] := ⟨_, rfl⟩
     have HLs := Lib.hid (fun (W' : World) (hW : S7 W') => show (Instr.lookup 135 (.map (some f2.SE)) (.int .u32 (x.e.t.p : Int)) false).run Tryz.prog W' = .ok (.agg #[.int .i64 (sb : Int), .int .i64 (si : Int)]) W' by
      rw [hS7] at hW
      obtain ⟨⟨f5, e1, e2, e3, e4, e5⟩, _⟩ := hW
      have := e1.hS.look HXk.out false
      rw [e5, e4, hsv] at this
      exact this)
     have HD7 := Lib.hid (fun (W' : World) (hW : S7 W') => show W'.cell? ⟨f.F, 7, none⟩ = some (.map (some f2.GO)) by
      rw [hS7] at hW
      obtain ⟨⟨f5, e1, e2, e3, e4, e5⟩, _⟩ := hW
      rw [← e2, ← e3]; exact e1.c7)
     have HD5 := Lib.hid (fun (W' : World) (hW : S7 W') => show W'.cell? ⟨f.F, 5, none⟩ = some (.map (some f2.SE)) by
      rw [hS7] at hW
      obtain ⟨⟨f5, e1, e2, e3, e4, e5⟩, _⟩ := hW
      rw [← e2, ← e4]; exact e1.c5)
     have HD1 := Lib.hid (fun (W' : World) (hW : S7 W') => show W'.cell? ⟨Q, 1, none⟩ = some (.int .u32 (x.e.t.p : Int)) by
      rw [hS7] at hW
      exact hW.2.cellv (i := 1) rfl)
     have HS0 := Lib.hid (show Below W8.heap.size W8 W8.drew from below_drew W8)
     have hpg := (HM7.out.on HS0.out).putG { x.e with b := sb, i := si } HXk.out
     obtain ⟨o9, hrun9, hm9, hk9⟩ := hpg
     have hrun9 : (Instr.mapUpdate 135 (.map (some f2.GO)) (.int .u32 (x.e.t.p : Int)) (.agg #[.int .i64 (sb : Int), .int .i64 (si : Int)])).run Tryz.prog W8.drew = .ok () (setBlock W8.drew f2.GO o9) := hrun9
     have HM9 := Lib.hid hm9
     have HK9 := Lib.hid ((Kq.of (T := R2) HB7.out).trans ((Kq.of (T := R2) HS0.out).trans hk9))
     have hQ7 := HQ7.out.belowHere HS0.out
     have hS80 : S7 W8.drew := by rw [hS7]; exact ⟨⟨f2, HM7.out.on HS0.out, HFF6.out, rfl, rfl, rfl⟩, hQ7⟩
     have hS81 : S7 (setBlock W8.drew f2.GO o9) := by rw [hS7]; exact ⟨⟨_, hm9, HFF6.out, rfl, rfl, rfl⟩, hQ7.kq hk9 HQn2.out⟩
     have HS81 := Lib.hid hS81
     clear hm9 hk9 hsv hS7 hS81 hQ7
     refine wp_region_noPanic ?_
     refine wp_region_held_drew (S := S7) (by kernel_rfl) hS80 (fun hS0 => ?_)
     refine takeV 0 (v := (.pointer (some ⟨f.F, 0, none⟩))) rfl (by kernel_rfl) (by kernel_rfl) (by kernel_rfl) (fun _ _ _ h => h) (by rfl) (fun _ _ => rfl) (by assumption) ?_
     try simp only [layR]
     refine takeV 1 (v := (.pointer (some ⟨f.F, 0, none⟩))) rfl (by kernel_rfl) (by kernel_rfl) (by kernel_rfl) (fun _ _ _ h => h) (by rfl) (fun _ _ => rfl) (by assumption) ?_
     try simp only [layR]
     refine takeV 2 (v := (.pointer (some ⟨f.F, 7, none⟩))) rfl (by kernel_rfl) (by kernel_rfl) (by kernel_rfl) (fun _ _ _ h => h) (by rfl) (fun W hSw => ?_) (by assumption) ?_
     ·skip
      go_simp
     try simp only [layR]
     refine takeV 3 (v := (.map (some f2.GO))) rfl (by kernel_rfl) (by kernel_rfl) (by kernel_rfl) (fun _ _ _ h => h) (by rfl) (fun W hSw => ?_) (by assumption) ?_
     ·have y9 := HD7.out _ hSw
      go_simp
     try simp only [layR]
     refine takeV 4 (v := (.pointer (some ⟨Q, 1, none⟩))) rfl (by kernel_rfl) (by kernel_rfl) (by kernel_rfl) (fun _ _ _ h => h) (by rfl) (fun W hSw => ?_) (by assumption) ?_
     ·skip
      go_simp
     try simp only [layR]
     refine takeV 5 (v := (.int .u32 (x.e.t.p : Int))) rfl (by kernel_rfl) (by kernel_rfl) (by kernel_rfl) (fun _ _ _ h => h) (by rfl) (fun W hSw => ?_) (by assumption) ?_
     ·have y9 := HD1.out _ hSw
      go_simp
     try simp only [layR]
     refine takeV 6 (v := (.pointer (some ⟨f.F, 0, none⟩))) rfl (by kernel_rfl) (by kernel_rfl) (by kernel_rfl) (fun _ _ _ h => h) (by rfl) (fun _ _ => rfl) (by assumption) ?_
     try simp only [layR]
     refine takeV 7 (v := (.pointer (some ⟨f.F, 0, none⟩))) rfl (by kernel_rfl) (by kernel_rfl) (by kernel_rfl) (fun _ _ _ h => h) (by rfl) (fun _ _ => rfl) (by assumption) ?_
     try simp only [layR]
     refine takeV 8 (v := (.pointer (some ⟨f.F, 5, none⟩))) rfl (by kernel_rfl) (by kernel_rfl) (by kernel_rfl) (fun _ _ _ h => h) (by rfl) (fun W hSw => ?_) (by assumption) ?_
     ·skip
      go_simp
     try simp only [layR]
     refine takeV 9 (v := (.map (some f2.SE))) rfl (by kernel_rfl) (by kernel_rfl) (by kernel_rfl) (fun _ _ _ h => h) (by rfl) (fun W hSw => ?_) (by assumption) ?_
     ·have y9 := HD5.out _ hSw
      go_simp
     try simp only [layR]
     refine takeV 10 (v := (.pointer (some ⟨Q, 1, none⟩))) rfl (by kernel_rfl) (by kernel_rfl) (by kernel_rfl) (fun _ _ _ h => h) (by rfl) (fun W hSw => ?_) (by assumption) ?_
     ·skip
      go_simp
     try simp only [layR]
     refine takeV 11 (v := (.int .u32 (x.e.t.p : Int))) rfl (by kernel_rfl) (by kernel_rfl) (by kernel_rfl) (fun _ _ _ h => h) (by rfl) (fun W hSw => ?_) (by assumption) ?_
     ·have y9 := HD1.out _ hSw
      go_simp
     try simp only [layR]
     refine takeV 12 (v := (.agg #[.int .i64 (sb : Int), .int .i64 (si : Int)])) rfl (by kernel_rfl) (by kernel_rfl) (by kernel_rfl) (fun _ _ _ h => h) (by rfl) (fun W hSw => ?_) (by assumption) ?_
     ·have y9 := HLs.out _ hSw
      go_simp
     try simp only [layR]
     refine wpAnyH_ready (rs := [13]) (by kernel_rfl) (by simp) ?_
     refine AllReadyH.cons rfl (fun K' hK => ?_) AllReadyH.nil
     go_simp
     refine hK.out _ _ HS81.out (fun hS9 => ?_)
     refine wpAnyH_done (by kernel_rfl) ?_ _
     refine NoPanic.normal ?_
     obtain ⟨W9', hW9'⟩ : ∃ W9', W9' = setBlock W8.drew f2.GO o9 := ⟨_, rfl⟩
     rw [← hW9'] at HM9 HK9 ⊢
     clear hrun9 hS80 hS0 hS9 hW9' HS81 HD1 HD5 HD7 HLs
     obtain ⟨f3, hf3⟩ : ∃ f3, f3 = ({ f2 with go := putE f2.go { x.e with b := sb, i := si } } : Fm) := ⟨_, rfl⟩
     have hgk : f3.go.map (fun e => e.t.p) = f2.go.map fun e => e.t.p := by
      rw [hf3]
      exact putE_keys (e := { x.e with b := sb, i := si }) HGf.out.symm
     have HM8 : Hid (FtM NB B R2 W9' f3) := by rw [hf3]; exact HM9
     have HS8 : Hid (Same f' { f3 with g := g1', se := f'.se, no := f'.no }) := Lib.hid (by
      have h6 := HS6.out
      rw [hf3] at hgk ⊢
      exact ⟨h6.F, h6.SE, h6.NO, h6.GO, h6.LA, h6.M, h6.ML, h6.C, h6.seq, h6.ep, h6.tv, h6.tx, h6.ov, h6.se, h6.no, hgk.trans h6.go, h6.gh⟩)
     have HSe8 : Hid (f3.se = if x.n then f'.se else putE f'.se (nxE x k' i')) := by rw [hf3]; exact HSe6
     have HNo8 : Hid (f3.no = if x.n then putE f'.no (nxE x k' i') else f'.no) := by rw [hf3]; exact HNo6
     have HG8 : Hid (f3.g = g1') := by rw [hf3]; exact HG6
     have HK8 := HK9
     clear HM7 HM9 HK9 HS6 HSe6 HNo6 HG6 hgk hf3 HB7 HQ7
     generalize W8 = W8o at *
     generalize W9' = W8 at *
     have hc8 := HM8.out.c1
     have eF8 : f3.F = f.F := HS8.out.F.trans HFF.out
     rw [eF8] at hc8
     have hfx : Fi NB (n + 2 * j + 1) (k :: []) f3.g (f3.se ++ f3.no) := by
      rw [HG8.out, HSe8.out, HNo8.out]
      exact HF2.out.mid HP.out HFi.out
     have HDr := Lib.hid (fDrop_calls HM8.out hfx)
     have HFd := Lib.hid (Mvj.step (f4 := { f3 with g := { f3.g with l := f3.g.l.set k (dropB (Gc.at_ f3.g.l k)) } }) HF2.out hk (by have := HL8.out; have := HM.out; omega) (H01.out (by have := HM.out; omega)) HP.out HFi.out HS8.out HSe8.out HNo8.out (by rw [HG8.out]))
     clear hfx eF8
     go_wp2_with fail
     refine HDr.out.mono ?_
     rintro e W9 ⟨rfl, hm9, hk9⟩
     have HM9 := Lib.hid hm9
     have HK9 := Lib.hid hk9
     clear hm9 hk9 hc8
     go_wp2_with fail
     go_roundw
     case rel =>
      refine ⟨j + 1, by omega, by go_num, ⟨_, ?_, HFd.out⟩⟩
      have hk49 : Kq R2 W4 W9 := (((Kq.of HB5.out).trans HK6.out).trans HK8.out).trans HK9.out
      have hkA : Kq R1 wr W4 := ((Kq.of HB2.out).on (below_drew W1)).trans (HK2.out.trans HK4.out)
      have hz1 : wr.heap.size ≤ W2.heap.size := Nat.le_trans HB2.out.size HK2.out.size
      have hz2 := HK4.out.size
      have hz3 := hk49.size
      have hkE : Kq R1 wr W9 := hkA.then_ hk49 fun q hq => by
       rw [HR2.out] at hq
       rcases hq with h1 | h1
       ·exact .inl h1
       ·exact .inr (by omega)
      have hmE : FtM NB B (Up R1 wr W9) W9 _ := HM9.out.more (fun q hq => by
       rw [HR2.out] at hq
       rcases hq with h1 | h1
       ·exact .inl h1
       ·exact .inr (by omega)) fun q hq => by
       rcases hq with h1 | h1
       ·exact HM9.out.bnd q (by rw [HR2.out]; exact .inl h1)
       ·exact ⟨by have := HB0; have := HB1.out.size; have := HF1.out.2.size; omega, h1.2⟩
      have := HF1.out.then_ (f2 := _) ⟨by rw [HR1.out] at hmE; exact hmE, by rw [HR1.out] at hkE; exact hkE⟩
      exact this
     case measure => simp [intOf]; omega
    ·have hpi : ¬ (0 : Int) < (x.e.t.p : Int) := by omega
     have HM8 := HM7
     have HS8 := HS6
     have HSe8 := HSe6
     have HNo8 := HNo6
     have HG8 := HG6
     have HK8 := Lib.hid (Kq.of (T := R2) HB7.out)
     clear HM7 HS6 HSe6 HNo6 HG6
     obtain ⟨f3, hf3⟩ : ∃ f3, f3 = f2 := ⟨_, rfl⟩
     rw [← hf3] at HM8 HS8 HSe8 HNo8 HG8
     clear hf3
     have hc8 := HM8.out.c1
     have eF8 : f3.F = f.F := HS8.out.F.trans HFF.out
     rw [eF8] at hc8
     have hfx : Fi NB (n + 2 * j + 1) (k :: []) f3.g (f3.se ++ f3.no) := by
      rw [HG8.out, HSe8.out, HNo8.out]
      exact HF2.out.mid HP.out HFi.out
     have HDr := Lib.hid (fDrop_calls HM8.out hfx)
     have HFd := Lib.hid (Mvj.step (f4 := { f3 with g := { f3.g with l := f3.g.l.set k (dropB (Gc.at_ f3.g.l k)) } }) HF2.out hk (by have := HL8.out; have := HM.out; omega) (H01.out (by have := HM.out; omega)) HP.out HFi.out HS8.out HSe8.out HNo8.out (by rw [HG8.out]))
     clear hfx eF8
     go_wp2_with fail
     refine HDr.out.mono ?_
     rintro e W9 ⟨rfl, hm9, hk9⟩
     have HM9 := Lib.hid hm9
     have HK9 := Lib.hid hk9
     clear hm9 hk9 hc8
     go_wp2_with fail
     go_roundw
     case rel =>
      refine ⟨j + 1, by omega, by go_num, ⟨_, ?_, HFd.out⟩⟩
      have hk49 : Kq R2 W4 W9 := (((Kq.of HB5.out).trans HK6.out).trans HK8.out).trans HK9.out
      have hkA : Kq R1 wr W4 := ((Kq.of HB2.out).on (below_drew W1)).trans (HK2.out.trans HK4.out)
      have hz1 : wr.heap.size ≤ W2.heap.size := Nat.le_trans HB2.out.size HK2.out.size
      have hz2 := HK4.out.size
      have hz3 := hk49.size
      have hkE : Kq R1 wr W9 := hkA.then_ hk49 fun q hq => by
       rw [HR2.out] at hq
       rcases hq with h1 | h1
       ·exact .inl h1
       ·exact .inr (by omega)
      have hmE : FtM NB B (Up R1 wr W9) W9 _ := HM9.out.more (fun q hq => by
       rw [HR2.out] at hq
       rcases hq with h1 | h1
       ·exact .inl h1
       ·exact .inr (by omega)) fun q hq => by
       rcases hq with h1 | h1
       ·exact HM9.out.bnd q (by rw [HR2.out]; exact .inl h1)
       ·exact ⟨by have := HB0; have := HB1.out.size; have := HF1.out.2.size; omega, h1.2⟩
      have := HF1.out.then_ (f2 := _) ⟨by rw [HR1.out] at hmE; exact hmE, by rw [HR1.out] at hkE; exact hkE⟩
      exact this
     case measure => simp [intOf]; omega
  ·obtain rfl : j = m := by omega
   have HX := Lib.hid hX.out
   clear hX
   go_wp2_with fail
   go_ret
   obtain ⟨f', h1, h2⟩ := HX.out
   rw [List.drop_eq_nil_of_le (by have := HJ0.out.len; omega)] at h2
   rw [HM.out] at h2
   exact ⟨rfl, f', h1.from_ HB1.out HB0, h2⟩
end
end Go.Proofs.YtcppkaphlcflgaaGreat
