/-
  squeeze.Squeeze.
-/
import Derived.Test.YtpjjfehocibljaaSqzPut
import Derived.Test.YtpjjfehocibljaaSqzLaw
import Derived.Test.YtpjjfehocibljaaSqzOpen
namespace Go.Proofs.Ytpjjfehocibljaa
open Go.RowKit

namespace Sqz
def sqzR (b : List UInt8) : List UInt8 × Nat := if 65536 < b.length then ([], 2) else (squeeze b, 0)
end Sqz
theorem Own.notMap {α : Type} {f : α → Value} {e : TypeId} {w : World} {base M : Nat} {v : Value} {xs : List α} {P : Program} {kt : TypeId} {l : List (Value × Value)} (h : Own f e w base v xs) (hm : MapAt P kt w M l) : v.ownBlock ≠ some M := by
  obtain ⟨es, cl, hm, _⟩ := hm
  rcases h.2 with ⟨rfl, _⟩ | ⟨g, cap, cur, rfl, _, hg, _⟩
  · simp [Value.ownBlock]
  · intro e
    have : g = M := by simpa [Value.ownBlock] using e
    subst this
    rw [hg] at hm
    cases hm
theorem Fnd.notOut {b : List UInt8} {k : Nat} {w : World} {M base B : Nat} {v : Value} {xs : List UInt8} (h : Fnd b k w M base) (ho : Own byteV 5 w B v xs) : v.ownBlock ≠ some M := by
  obtain ⟨l, h1, _⟩ := h
  exact ho.notMap h1
/-- A finder abides what is put behind the squeezed bytes. -/
theorem Fnd.rowTo {b : List UInt8} {k : Nat} {w w' : World} {M base B : Nat} {v v' : Value} {xs : List UInt8} (h : Fnd b k w M base) (ho : Own byteV 5 w B v xs) (hr : RowTo w v w' v') : Fnd b k w' M base :=
  h.keep hr.1 fun g hg => ⟨fun e => h.notOut ho (by rw [hg, e]), .inr (by
    rcases ho.2 with ⟨rfl, _⟩ | ⟨g', cap, cur, rfl, _, hh, _⟩
    · cases hg
    · have : g' = g := by simpa [Value.ownBlock] using hg
      subst this
      exact ⟨_, _, _, hh, by decide⟩)⟩
theorem RowTo.belowB {w w' : World} {v v' : Value} {B : Nat} {xs : List UInt8} (h : RowTo w v w' v') (ho : Own byteV 5 w B v xs) (hB : B ≤ w.heap.size) : Below B w w' :=
  (Below.refl B w).grown h.1 hB (fun k hk => (ho.blockLt k hk).1)
theorem RowTo.blk {w w' : World} {v v' : Value} {B g : Nat} {t : TypeId} {cs : Array Value} {xs : List UInt8} (h : RowTo w v w' v') (ho : Own byteV 5 w B v xs) (hb : Blk w g t cs) (ht : 5 ≠ t) : Blk w' g t cs :=
  hb.grown h.1 (fun e => Blk.notOwn ho hb ht e.symm)
/-- append of three bytes onto bytes of the call's own. -/
theorem wpList_litTo {w : World} {cs : Array Value} {ops : Array Oper} {rest : List Oper} {o : Oper} {ac : Act} {Q : Exit → Act → World → Prop} (hgd : o.guard = none) (s x : Operand)
    (ho : o.op = .call { callee := .builtin .append, args := #[s, x], argTypes := #[22, 22] }) (base : Nat)
    (v : Value) (xs : List UInt8) (hs : ac.eval s = v) (hown : Own byteV 5 w base v xs) (m : Nat) (ys : List UInt8) (hx : ac.eval x = .slice (some ⟨w.heap.size, 0, none⟩) m m) (hm : ys.length = m) (hcs : cs = (ys.map byteV).toArray)
    (hbytes : xs.length + m ≤ 140737488351232) (hbase : base ≤ w.heap.size)
    (h : ∀ v' w', Hid (Own byteV 5 w' base v' (xs ++ ys)) → Hid (RowTo w v w' v') → wpList Try.prog ops Q rest (ac.put o.dst v') w') : wpList Try.prog ops Q (o :: rest) ac (w.alloc (.cells cs 5)) :=
  wpList_appB hgd s x ho base v xs hs (hown.alloc _) _ _ m m ys hx (Arr.lit w 5 ys m hm (by omega) hcs) (by omega) (by simp; omega) fun v' w' h1 h2 h3 =>
    h v' w' (Lib.hid h1) (Lib.hid ((RowTo.below v ((Below.refl _ w).alloc (Nat.le_refl _) _)).step (RowTo.of h2 h3)))
set_option maxRecDepth 100000 in
set_option maxHeartbeats 8000000 in
theorem squeeze_calls (a : Option Addr) (n c : Nat) (b : List UInt8) (w : World) (hx : Bytes w w.heap.size a n b) (hnc : n ≤ c) (hc : c ≤ 140737488351232) :
    Calls Try.prog 10 #[.slice a n c] w (OpenR (Sqz.sqzR b) w) := by
  have hl := hx.len
  by_cases h1 : 65536 < n
  · have hr : Sqz.sqzR b = ([], 2) := by unfold Sqz.sqzR; rw [if_pos (by omega)]
    rw [hr]
    have g1 : decide ((65536 : Int) < (n : Int)) = true := decide_eq_true (by omega)
    clear hr hx hl
    go_enter Try.func10, Try.ntmps10
    go_wp2
    go_ret2
    exact openR_err (Below.refl _ _)
  have HR := Lib.hid (show Sqz.sqzR b = (Sqz.sqz b 0 0, 0) by unfold Sqz.sqzR; rw [if_neg (by omega)]; rfl)
  have g1 : decide ((65536 : Int) < (n : Int)) = false := decide_eq_false (by omega)
  have hmm := @run_makeMap Try.prog
  have HX := Lib.hid hx
  have HL := Lib.hid hl
  have HF0 := Lib.hid (Fnd.made w b)
  generalize Sqz.sqzR b = R at *
  clear hx hl
  go_enter Try.func10, Try.ntmps10
  go_wp2_with fail
  have hb0 := ((Below.refl w.heap.size w).alloc (Nat.le_refl _) (.map #[] 0)).alloc (by simp) (.cells #[.slice a n c, .map (some w.heap.size)] 42)
  have HC0 := Lib.hid (Blk.new (w.alloc (.map #[] 0)) 42 #[.slice a n c, .map (some w.heap.size)])
  have HF1 := Lib.hid (HF0.out.on ((Below.refl _ (w.alloc (.map #[] 0))).alloc (Nat.le_refl _) (.cells #[.slice a n c, .map (some w.heap.size)] 42)))
  rw [World.size_alloc] at HC0
  have HB0 := Lib.hid hb0
  clear hb0 hmm
  go_loopw [5, 6, 7] (fun s5 s6 s7 wr => ∃ (k fr : Nat) (out : List UInt8), fr ≤ k ∧ k ≤ n ∧ s7 = .int .i64 (k : Int) ∧ s6 = .int .i64 (fr : Int) ∧ Own byteV 5 wr w.heap.size s5 out ∧ R = (out ++ Sqz.sqz b k fr, 0) ∧ out.length ≤ 2 * fr ∧ Fnd b k wr w.heap.size (w.heap.size + 1) ∧ Blk wr (w.heap.size + 1) 42 #[.slice a n c, .map (some w.heap.size)] ∧ Below w.heap.size w wr) (fun _ _ s _ => n - (intOf s).toNat)
  case atStart => exact ⟨0, 0, [], by omega, by omega, rfl, rfl, Own.nil _ _, HR.out, by simp, HF1.out, HC0.out, HB0.out⟩
  case round =>
    obtain ⟨k, fr, out, hfk, hkn, rfl, rfl, hown, hR, hol, hF, hC, hb⟩ := hrel
    obtain ⟨q, hq⟩ : ∃ q, q = out.length := ⟨_, rfl⟩
    obtain ⟨ao, co, rfl, hco⟩ := hown.formN hq.symm
    rw [← hq] at hol
    have HQ := Lib.hid hq
    have HRR := Lib.hid hR
    have HO := Lib.hid hown
    have HF := Lib.hid hF
    have HC := Lib.hid hC
    have HB := Lib.hid hb
    have hsw := hb.size
    have hCl := hC.lt
    clear hown hR hF hC hb hq
    by_cases hlt : k < n
    · have hbest := Lib.hid (best_calls (w.heap.size + 1) w.heap.size (w.heap.size + 1) a n c k b wr ((HX.out.below HB.out).mono hsw) hnc HC.out HF.out hlt)
      have hbl := Sqz.best_le b k
      have hbr := Sqz.best_room (b := b) (k := k) (by rw [HL.out]; omega)
      rw [HL.out] at hbr
      have hbs := Sqz.best_spec b k
      have HOwn := Lib.hid (fun h => Sqz.sqz_own (b := b) (k := k) (fr := fr) (by rw [HL.out]; exact hlt) h)
      have HCopy := Lib.hid (fun h => Sqz.sqz_copy (b := b) (k := k) (fr := fr) (by rw [HL.out]; exact hlt) h)
      generalize Sqz.best b k = nf at *
      obtain ⟨nn, far⟩ := nf
      dsimp only at *
      by_cases h0 : nn = 0
      · have q1 : ((nn : Int) == 0) = true := by rw [beq_iff_eq]; omega
        have hso := Lib.hid (HOwn.out h0)
        clear hbs HOwn HCopy
        go_wp2_with fail
        refine hbest.out.mono ?_
        rintro e w2 ⟨rfl, hb2⟩
        have HB2 := Lib.hid (HB.out.trans (hb2.mono hsw))
        have HO2 := Lib.hid (HO.out.on hb2)
        have HF2 := Lib.hid (HF.out.on hb2)
        have HC2 := Lib.hid (HC.out.belowHere hb2)
        have hs2 := HB2.out.size
        have hs3 := hb2.size
        clear hb2
        go_wp2_with fail
        refine (put_calls (w.heap.size + 1) w.heap.size (w.heap.size + 1) a n c k b w2 ((HX.out.below HB2.out).mono hs2) hnc (by omega) HC2.out HF2.out (by omega) hlt).mono ?_
        rintro e w3 ⟨⟨v3, rfl⟩, hF3, hN3⟩
        have HF3 := Lib.hid hF3
        have HO3 := Lib.hid (hN3.own HO2.out (HF2.out.notOut HO2.out) (by decide))
        have HC3 := Lib.hid (hN3.blk HC2.out (by omega) (by decide))
        have HB3 := Lib.hid (HB2.out.trans (hN3.below (Nat.le_refl _) (by omega) hs2))
        clear hF3 hN3
        go_wp2
        go_roundw
        case rel => exact ⟨k + 1, fr, out, by omega, by omega, by go_num, rfl, HO3.out, by rw [HRR.out, hso.out], by rw [← HQ.out]; omega, HF3.out, HC3.out, HB3.out⟩
        case measure => simp [intOf]; omega
      · have q1 : ((nn : Int) == 0) = false := by rw [beq_eq_false_iff_ne]; omega
        have hcp := Lib.hid (HCopy.out h0)
        obtain ⟨n3, f1, f2⟩ : 3 ≤ nn ∧ far ≤ 4096 ∧ nn ≤ 130 := by
          rcases hbs with e | ⟨e1, _, e3, _⟩
          · injection e with e _; exact absurd e h0
          · exact ⟨e1, e3, hbl⟩
        have hcut := cutB_mid a n c fr k hfk (by omega)
        have HSrc := Lib.hid (fun (W : World) (h : Below w.heap.size w W) => ((HX.out.below h).drop (l := fr) (by omega) hnc).take (k := k - fr) (by omega))
        have y0 := Lib.hid (show (128 : Int) + (nn : Int) - 3 = ((UInt8.ofNat (nn + 125)).toNat : Int) by rw [UInt8.toNat_ofNat']; omega)
        have y1 := Lib.hid (show (far : Int) % 256 = ((UInt8.ofNat far).toNat : Int) by rw [UInt8.toNat_ofNat']; omega)
        have y2 := Lib.hid (show (far : Int) / 256 = ((UInt8.ofNat (far / 256)).toNat : Int) by rw [UInt8.toNat_ofNat']; omega)
        clear hbs HOwn HCopy
        go_wp2_with fail
        refine hbest.out.mono ?_
        rintro e w2 ⟨rfl, hb2⟩
        have HB2 := Lib.hid (HB.out.trans (hb2.mono hsw))
        have HO2 := Lib.hid (HO.out.on hb2)
        have HF2 := Lib.hid (HF.out.on hb2)
        have HC2 := Lib.hid (HC.out.belowHere hb2)
        have hs2 := HB2.out.size
        have hs3 := hb2.size
        clear hb2
        go_wp2_with fail
        refine (run_calls (.slice ao q co) out w.heap.size (cutA a c fr) (k - fr) (c - fr) ((b.drop fr).take (k - fr)) w2 HO2.out hs2 (HSrc.out w2 HB2.out) (by omega) (by omega) (by rw [← HQ.out]; omega)).mono ?_
        rintro e w3 ⟨v3, rfl, hO3, hR3⟩
        obtain ⟨q3, hq3⟩ : ∃ q3, q3 = (out ++ Sqz.runs ((b.drop fr).take (k - fr))).length := ⟨_, rfl⟩
        obtain ⟨a3, c3, rfl, _⟩ := hO3.formN hq3.symm
        have HQ3 := Lib.hid hq3
        have hq3l : q3 ≤ 2 * k := by
          rw [hq3, List.length_append, ← HQ.out, Sqz.runs_len, List.length_take, List.length_drop, HL.out]; omega
        have HO3 := Lib.hid hO3
        have HF3 := Lib.hid (HF2.out.rowTo HO2.out hR3)
        have HC3 := Lib.hid (hR3.blk HO2.out HC2.out (by decide))
        have HB3 := Lib.hid (HB2.out.trans (hR3.belowB HO2.out hs2))
        have hs4 := HB3.out.size
        clear hO3 hR3 hq3
        go_wp2_with (at_builtin; refine wpList_litTo rfl (.tmp 40) (.tmp 50) rfl w.heap.size (.slice a3 q3 c3) _ rfl HO3.out 3 [UInt8.ofNat (nn + 125), UInt8.ofNat far, UInt8.ofNat (far / 256)] rfl rfl (by rw [y0.out, y1.out, y2.out]; rfl) (by rw [← HQ3.out]; omega) hs4 ?_; intro v4 w4 HO4 HR4)
        obtain ⟨q4, hq4⟩ : ∃ q4, q4 = (out ++ Sqz.runs ((b.drop fr).take (k - fr)) ++ [UInt8.ofNat (nn + 125), UInt8.ofNat far, UInt8.ofNat (far / 256)]).length := ⟨_, rfl⟩
        obtain ⟨a4, c4, rfl, _⟩ := HO4.out.formN hq4.symm
        have hq4l : q4 ≤ 2 * (k + nn) := by rw [hq4, List.length_append, ← HQ3.out]; simp; omega
        have HQ4 := Lib.hid hq4
        have HF4 := Lib.hid (HF3.out.rowTo HO3.out HR4.out)
        have HC4 := Lib.hid (HR4.out.blk HO3.out HC3.out (by decide))
        have HB4 := Lib.hid (HB3.out.trans (HR4.out.belowB HO3.out hs4))
        have HRN := Lib.hid (show R = ((out ++ Sqz.runs ((b.drop fr).take (k - fr)) ++ [UInt8.ofNat (nn + 125), UInt8.ofNat far, UInt8.ofNat (far / 256)]) ++ Sqz.sqz b (k + nn) (k + nn), 0) by rw [HRR.out, hcp.out]; simp [List.append_assoc])
        generalize out ++ Sqz.runs ((b.drop fr).take (k - fr)) ++ [UInt8.ofNat (nn + 125), UInt8.ofNat far, UInt8.ofNat (far / 256)] = out4 at *
        clear hq4 hcut
        go_loopw [7, 53] (fun s7 s53 wq => ∃ i : Nat, i ≤ nn ∧ s53 = .int .i64 (i : Int) ∧ s7 = .int .i64 ((k + i : Nat) : Int) ∧ Own byteV 5 wq w.heap.size (.slice a4 q4 c4) out4 ∧ Fnd b (k + i) wq w.heap.size (w.heap.size + 1) ∧ Blk wq (w.heap.size + 1) 42 #[.slice a n c, .map (some w.heap.size)] ∧ Below w.heap.size w wq) (fun _ s _ => nn - (intOf s).toNat)
        case atStart => exact ⟨0, by omega, rfl, rfl, HO4.out, HF4.out, HC4.out, HB4.out⟩
        case round =>
          obtain ⟨i, hi, rfl, rfl, hoi, hfi, hci, hbi⟩ := hrel
          have HOi := Lib.hid hoi
          have HFi := Lib.hid hfi
          have HCi := Lib.hid hci
          have HBi := Lib.hid hbi
          have hsi := hbi.size
          have hcl := hci.lt
          clear hoi hfi hci hbi
          by_cases hin : i < nn
          · go_wp2_with fail
            refine (put_calls (w.heap.size + 1) w.heap.size (w.heap.size + 1) a n c (k + i) b _ ((HX.out.below HBi.out).mono hsi) hnc (by omega) HCi.out HFi.out (by omega) (by omega)).mono ?_
            rintro e w5 ⟨⟨v5, rfl⟩, hF5, hN5⟩
            have HF5 := Lib.hid hF5
            have HO5 := Lib.hid (hN5.own HOi.out (HFi.out.notOut HOi.out) (by decide))
            have HC5 := Lib.hid (hN5.blk HCi.out (by omega) (by decide))
            have HB5 := Lib.hid (HBi.out.trans (hN5.below (Nat.le_refl _) (by omega) hsi))
            clear hF5 hN5
            go_wp2
            go_roundw
            case rel => exact ⟨i + 1, by omega, by go_num, by go_num, HO5.out, HF5.out, HC5.out, HB5.out⟩
            case measure => simp [intOf]; omega
          · obtain rfl : i = nn := by omega
            go_wp2
            go_roundw
            case rel => exact ⟨k + i, k + i, out4, by omega, by omega, rfl, rfl, HOi.out, HRN.out, by rw [← HQ4.out]; omega, HFi.out, HCi.out, HBi.out⟩
            case measure => simp [intOf]; omega
    · obtain rfl : k = n := by omega
      have hcut := cutB_from a k c fr hfk
      have hend := Lib.hid (Sqz.sqz_end (b := b) (k := k) (fr := fr) (by rw [HL.out]; exact hlt))
      have HSrc := Lib.hid ((HX.out.below HB.out).drop (l := fr) (by omega) hnc)
      go_wp2_with fail
      refine (run_calls (.slice ao q co) out w.heap.size (cutA a c fr) (k - fr) (c - fr) (b.drop fr) wr HO.out hsw HSrc.out (by omega) (by omega) (by rw [← HQ.out]; omega)).mono ?_
      rintro e w3 ⟨v3, rfl, hO3, hR3⟩
      have HO3 := Lib.hid hO3
      have HB3 := Lib.hid (HB.out.trans (hR3.belowB HO.out hsw))
      clear hO3 hR3
      go_wp2
      go_ret2
      exact ⟨⟨_, by rw [HRR.out]; rfl, by rw [HRR.out, hend.out]; exact HO3.out⟩, HB3.out⟩
end Go.Proofs.Ytpjjfehocibljaa
