/-
  slices.Clone at blocks; what the manager does next.
-/
import Derived.Test.YtiipnpfaaghekaaGreatBlkNext
import Derived.Lib.SliceRun
import Derived.Deep.CutBlock
namespace Go.Proofs.YtiipnpfaaghekaaGreat
open Go.RowKit

theorem infoBk : (Tryz.prog.info? 99).map (fun i => (i.zero, i.size, i.bytes)) = some (some (.agg #[.int .i64 0, .int .i64 0, .int .i64 0, .int .i64 0]), 4, 32) := by kernel_rfl
theorem bkEmpty (w : World) : OwnM 4 bkL 99 (w.alloc (.cells #[] 99)) w.heap.size (.slice (some ⟨w.heap.size, 0, none⟩) 0 0) [] :=
  ⟨bk_len, rfl, .inr ⟨w.heap.size, 0, #[], rfl, Nat.le_refl _, heap_alloc_new w _, Nat.le_refl _, by decide, rfl, rfl⟩⟩
theorem wpList_ontoBk {w : World} {ops : Array Oper} {rest : List Oper} {o : Oper} {ac : Act} {Q : Exit → Act → World → Prop} (hgd : o.guard = none) (s x : Operand)
    (ho : o.op = .call { callee := .builtin .append, args := #[s, x], argTypes := #[100, 100] }) (base : Nat)
    (v : Value) (xs : List Bk) (hs : ac.eval s = v) (hown : OwnM 4 bkL 99 w base v xs) (B : Nat) (a : Option Addr) (m c : Nat) (ys : List Bk) (hx : ac.eval x = .slice a m c) (hy : ArrM 4 bkL w B a m ys)
    (hlen : xs.length + m ≤ 1000000) (hbase : base ≤ w.heap.size)
    (h : ∀ v' w', Hid (OwnM 4 bkL 99 w' base v' (xs ++ ys)) → Hid (Below base w w') → wpList Tryz.prog ops Q rest (ac.put o.dst v') w') : wpList Tryz.prog ops Q (o :: rest) ac w := by
  obtain ⟨i0, hi, hz0, hz1, hz2⟩ := info_parts infoBk
  exact wpList_append_OwnM hgd s x 100 ho base 99 i0 _ 32 Tryz.underlying100 hi hz0 hz1 hz2 rfl (by decide) bk_one v xs hs hown B a m c ys hx hy (by omega) (by simp only [maxLen]; omega) hbase fun v' w' h1 h2 _ =>
    h v' w' (Lib.hid h1) (Lib.hid (below_ownM (Below.refl base _) hown h2 hbase))
theorem gclone_calls (p : Addr) (n c : Nat) (l : List Bk) (w : World) (hx : ArrM 4 bkL w w.heap.size (some p) n l) (hn : n ≤ 1000) :
    Calls Tryz.prog 98 #[.slice (some p) n c] w fun e w' => (∃ v, e = .returned v ∧ OwnM 4 bkL 99 w' w.heap.size v l) ∧ Below w.heap.size w w' := by
  have hnil := fun w => Lib.run_eql_slice_nil (P := Tryz.prog) w 100 99 (some p) n c 0 0 Tryz.underlying100
  simp only [Option.isNone_some] at hnil
  have ho := Lib.hid (bkEmpty w)
  have hx1 := Lib.hid (hx.alloc (.cells #[] 99))
  have hb1 := Lib.hid ((Below.refl w.heap.size w).alloc (Nat.le_refl _) (.cells #[] 99))
  clear hx
  go_enter Tryz.func98, Tryz.ntmps98
  go_wp2_with (at_builtin; refine wpList_ontoBk rfl _ _ rfl w.heap.size _ [] rfl ho.out _ _ n _ l rfl hx1.out (by simp only [List.length_nil]; omega) (by simp) ?_; intro v1 w1 HO1 hb2)
  go_ret
  refine ⟨⟨_, rfl, ?_⟩, hb1.out.trans hb2.out⟩
  have h := HO1.out
  rw [List.nil_append] at h
  exact h
section
variable {NB B : Nat} {S : Nat → Prop} {w : World} {g : Mg}
set_option maxRecDepth 100000 in
set_option maxHeartbeats 4000000 in
theorem bNext_calls (h : MgM NB B S w g) (he : g.even = false) (hok : ∀ k, k < NB → Gc.Ok 8 (Gc.at_ g.l k)) (ho : g.opn = -1 ∨ (0 ≤ g.opn ∧ g.opn < NB)) (hx : (Gc.at_ g.l g.opn.toNat).nx ≤ 8) (hN : 0 < NB) :
    Calls Tryz.prog 80 #[.pointer (some ⟨g.M, 0, none⟩)] w fun e w' => e = .returned (acV (Gc.next g.l 8 (decide (8 ≤ roomOf g)))) ∧ Below w.heap.size w w' := by
  have hnb := h.nb
  have hlen := h.len
  have hb0 := (Below.refl w.heap.size w).alloc (Nat.le_refl _) (.cells #[.int .i64 0, .int .i64 0] 131)
  have hk0 := Blk.new w 131 #[.int .i64 0, .int .i64 0]
  have hg0 := h.on hb0
  have m1 := hg0.m1
  have HK0 := Lib.hid hk0
  have HB0 := Lib.hid hb0
  have HG0 := Lib.hid hg0
  have HE := Lib.hid he
  have HOk := Lib.hid hok
  have HO := Lib.hid ho
  have HX := Lib.hid hx
  clear h hb0 hk0 hg0 he hok ho hx
  go_enter Tryz.func80, Tryz.ntmps80
  go_wp2_with fail
  generalize w.alloc (.cells #[.int .i64 0, .int .i64 0] 131) = w1 at *
  refine (gclone_calls _ NB g.cap g.l w1 HG0.out.arr hnb).mono ?_
  rintro e w2 ⟨⟨v, rfl, hv⟩, hb⟩
  have HB2 := Lib.hid (HB0.out.trans (hb.mono HB0.out.size))
  have HG2 := Lib.hid (HG0.out.on hb)
  have HK2 := Lib.hid (HK0.out.belowHere hb)
  obtain ⟨a2, c2, rfl, hc2⟩ := hv.formN hlen
  have HV2 := Lib.hid (hv.arr (by omega))
  clear hb hv m1
  go_wp2_with fail
  go_loopw [4, 15] (fun _ i wr => ∃ k : Nat, k ≤ NB ∧ i = .int .i64 (k : Int) ∧ wr = w2) (fun _ i _ => NB - (intOf i).toNat)
  case atStart => exact ⟨0, by omega, rfl, rfl⟩
  case round =>
    obtain ⟨k, hk, rfl, hw⟩ := hrel
    subst hw
    by_cases hlt : k < NB
    · have m5 := HG2.out.m5
      rw [HE.out] at m5
      have hk1 : (k : Int) < (NB : Int) := by omega
      go_wp2_with fail
      go_roundw
      case rel => exact ⟨k + 1, by omega, by go_num, trivial⟩
      case measure => simp [intOf]; omega
    · obtain rfl : k = NB := by omega
      go_wp2_with fail
      refine (bpages_calls HG2.out).mono ?_
      rintro e w3 ⟨rfl, hb⟩
      have HB3 := Lib.hid (HB2.out.then_ hb)
      have HG3 := Lib.hid (HG2.out.on hb)
      have HK3 := Lib.hid (HK2.out.belowHere hb)
      have HV3 := Lib.hid (HV2.out.on hb)
      clear hb
      go_wp2_with fail
      refine (bRoom_calls HG3.out HO.out HX.out).mono ?_
      rintro e w4 ⟨rfl, hb⟩
      have HB4 := Lib.hid (HB3.out.then_ hb)
      have HG4 := Lib.hid (HG3.out.on hb)
      have HK4 := Lib.hid (HK3.out.belowHere hb)
      have HV4 := Lib.hid (HV3.out.on hb)
      clear hb
      generalize hrm : roomOf g = rm at *
      have HRm := Lib.hid hrm
      clear hrm
      go_wp2_with fail
      refine (bpages_calls HG4.out).mono ?_
      rintro e w5 ⟨rfl, hb⟩
      have HB5 := Lib.hid (HB4.out.then_ hb)
      have HK5 := Lib.hid (HK4.out.belowHere hb)
      have HV5 := Lib.hid (HV4.out.on hb)
      clear hb
      go_wp2_with fail
      refine (gnext_calls (decide (8 ≤ rm)) 8 a2 k c2 g.l w5 HV5.out hnb (by omega) (by omega) HOk.out).mono ?_
      rintro e w6 ⟨rfl, hb⟩
      have HB6 := Lib.hid (HB5.out.then_ hb)
      have HK6 := Lib.hid (HK5.out.belowHere hb)
      clear hb
      generalize hac : Gc.next g.l 8 (decide (8 ≤ rm)) = ac at *
      obtain ⟨kd, bn⟩ := ac
      have HAc := Lib.hid hac
      clear hac
      rw [show acV (kd, bn) = .agg #[.int .i64 kd, .int .i64 bn] from rfl]
      have k0 := HK6.out.cellv (i := 0) rfl
      have k1 := HK6.out.cellv (i := 1) rfl
      have f0 := HK6.out.frozen 0
      have f1 := HK6.out.frozen 1
      have hs := (HK6.out.set 0 (.int .i64 kd)).set 1 (.int .i64 bn)
      have q0 := hs.cellv (i := 0) (v := .int .i64 kd) rfl
      have q1 := hs.cellv (i := 1) (v := .int .i64 bn) rfl
      have HBf := Lib.hid ((HB6.out.setCell (p := ⟨w.heap.size, 0, none⟩) (Nat.le_refl _) (.int .i64 kd)).setCell (p := ⟨w.heap.size, 1, none⟩) (Nat.le_refl _) (.int .i64 bn))
      clear hs
      go_wp2_with fail
      refine bodyPost_ret (v := .agg #[.int .i64 kd, .int .i64 bn]) (by simp [results, Tryz.results80, go_sem, q0, q1]) rfl ⟨?_, HBf.out⟩
      rw [HRm.out, HAc.out]
      rfl
end
end Go.Proofs.YtiipnpfaaghekaaGreat
