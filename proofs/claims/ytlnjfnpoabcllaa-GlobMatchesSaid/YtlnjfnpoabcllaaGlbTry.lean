/-
  The matcher: its closure, which calls itself.
-/
import Derived.Test.YtlnjfnpoabcllaaGlbTried
import Derived.Test.YtlnjfnpoabcllaaGlbStands
import Derived.Deep.Cut
namespace Go.Proofs.Ytlnjfnpoabcllaa
open Go.RowKit Go.Maps Go.ChangeMaps

theorem TryR.yes {gs : List Glb.Gm} {s : List UInt8} {W W' : World} {M : Nat} {T T' : Nat × Nat → Prop} {i k : Nat} {e : Ending} (he : e = .returned (.bool true)) (hD : Glb.D gs s (i, k) = true) (hg : W.grownBy W' (some M)) (hT : Tr W' M T') : TryR gs s W M T i k e W' :=
  ⟨by rw [hD]; exact he, hg, T', hT, fun h => by rw [hD] at h; cases h⟩
theorem TryR.no {gs : List Glb.Gm} {s : List UInt8} {W W' : World} {M : Nat} {T T' : Nat × Nat → Prop} {i k : Nat} {e : Ending} (he : e = .returned (.bool false)) (hD : Glb.D gs s (i, k) = false) (hg : W.grownBy W' (some M)) (hT : Tr W' M T')
    (h : ∀ p, T' p → (T p ∨ p = (i, k)) ∨ (i ≤ p.1 ∧ k ≤ p.2 ∧ Glb.D gs s p = false)) : TryR gs s W M T i k e W' :=
  ⟨by rw [hD]; exact he, hg, T', hT, fun _ p hp => by
    rcases h p hp with (h | rfl) | h
    · exact .inl h
    · exact .inr ⟨Nat.le_refl _, Nat.le_refl _, hD⟩
    · exact .inr h⟩
/-- What is known behind the first look onwards: the pairs tried. -/
def Seen (gs : List Glb.Gm) (s : List UInt8) (T : Nat × Nat → Prop) (i k : Nat) (T' : Nat × Nat → Prop) : Prop := ∀ p, T' p → (T p ∨ p = (i, k)) ∨ (i ≤ p.1 ∧ k ≤ p.2 ∧ Glb.D gs s p = false)
theorem Seen.pre {gs : List Glb.Gm} {s : List UInt8} {T T' : Nat × Nat → Prop} {i k i' k' : Nat} (h : Seen gs s T i k T') (hF : ∀ p, T p → i ≤ p.1 → k ≤ p.2 → Glb.D gs s p = false) (h1 : i ≤ i') (h2 : k ≤ k') (h3 : i < i' ∨ k < k') :
    ∀ p, T' p → i' ≤ p.1 → k' ≤ p.2 → Glb.D gs s p = false := fun p hp a b => by
  rcases h p hp with (h | rfl) | h
  · exact hF p h (by omega) (by omega)
  · exfalso; dsimp only at a b; omega
  · exact h.2.2
theorem Seen.more {gs : List Glb.Gm} {s : List UInt8} {T T' T2 : Nat × Nat → Prop} {i k i' k' : Nat} (h : Seen gs s T i k T') (h1 : i ≤ i') (h2 : k ≤ k') (hn : ∀ p, T2 p → T' p ∨ (i' ≤ p.1 ∧ k' ≤ p.2 ∧ Glb.D gs s p = false)) : Seen gs s T i k T2 := fun p hp => by
  rcases hn p hp with hp | ⟨a, b, c⟩
  · exact h p hp
  · exact .inr ⟨by omega, by omega, c⟩
theorem TryR.last {gs : List Glb.Gm} {s : List UInt8} {W W3 W' : World} {M : Nat} {T T3 : Nat × Nat → Prop} {i k i' k' : Nat} {e : Ending} (hS : Seen gs s T i k T3) (h1 : i ≤ i') (h2 : k ≤ k') (hg : W.grownBy W3 (some M)) (hD : Glb.D gs s (i, k) = Glb.D gs s (i', k')) (h : TryR gs s W3 M T3 i' k' e W') : TryR gs s W M T i k e W' := by
  obtain ⟨he, hg2, T', hT', hF⟩ := h
  refine ⟨by rw [hD]; exact he, grown_trans hg hg2, T', hT', fun hd p hp => ?_⟩
  rcases hS.more h1 h2 (hF (hD ▸ hd)) p hp with (h | rfl) | h
  · exact .inl h
  · exact .inr ⟨Nat.le_refl _, Nat.le_refl _, hd⟩
  · exact .inr h
set_option maxRecDepth 100000 in
set_option maxHeartbeats 16000000 in
theorem try_calls (S : Nat → Prop) (gs : List Glb.Gm) (s : List UInt8) (a : Option Addr) (n c TB LB NB CB M : Nat) (hn : n ≤ 1000) (hs : s.length ≤ 1000) :
    ∀ (d i k : Nat) (W : World) (T : Nat × Nat → Prop), (n - i) + (s.length - k) = d → i ≤ n → k ≤ s.length → Env S gs s a n c TB LB NB CB M W → Tr W M T → (∀ p, T p → i ≤ p.1 → k ≤ p.2 → Glb.D gs s p = false) →
      Calls Try.prog 42 #[.int .i64 (i : Int), .int .i64 (k : Int), .pointer (some ⟨TB, 0, none⟩), .pointer (some ⟨LB, 0, none⟩), .pointer (some ⟨NB, 0, none⟩), .pointer (some ⟨CB, 0, none⟩)] W (TryR gs s W M T i k) := by
  intro d
  induction d using Nat.strongRecOn with
  | ind d ih =>
    intro i k W T hd hi hk hE hT hF
    have HEn := Lib.hid hE
    have HTr := Lib.hid hT
    have HFa := Lib.hid hF
    have hih : ∀ (i' k' : Nat) (W' : World) (T' : Nat × Nat → Prop), i ≤ i' → k ≤ k' → (i < i' ∨ k < k') → i' ≤ n → k' ≤ s.length → Env S gs s a n c TB LB NB CB M W' → Tr W' M T' → Seen gs s T i k T' →
        Calls Try.prog 42 #[.int .i64 (i' : Int), .int .i64 (k' : Int), .pointer (some ⟨TB, 0, none⟩), .pointer (some ⟨LB, 0, none⟩), .pointer (some ⟨NB, 0, none⟩), .pointer (some ⟨CB, 0, none⟩)] W' (TryR gs s W' M T' i' k') :=
      fun i' k' W' T' a1 a2 a3 a4 a5 a6 a7 a8 => ih _ (by omega) i' k' W' T' rfl a4 a5 a6 a7 (a8.pre hF a1 a2 a3)
    have HIh := Lib.hid hih
    have hgl := hE.ms.len
    have HGL := Lib.hid hgl
    have hd0 := Lib.hid hd
    clear ih hih hd hd0
    go_enter Try.func42, Try.ntmps42
    go_upto_region 2 with fail
    have hb1 := (Below.refl W.heap.size W).alloc (Nat.le_refl _) (.cells #[.int .i64 (i : Int), .int .i64 (k : Int)] 80)
    have HE1 := Lib.hid (hE.on hb1)
    have HT1 := Lib.hid (hT.on hb1)
    have bk := Lib.hid (Blk.new W 80 #[.int .i64 (i : Int), .int .i64 (k : Int)])
    have HB1 := Lib.hid (grown_of_belowR (r := some M) hb1)
    clear hE hT hF hb1 hgl
    generalize W.alloc (.cells #[.int .i64 (i : Int), .int .i64 (k : Int)] 80) = W1 at *
    generalize W.heap.size = AB at *
    have t0 := HE1.out.tb.cellv (i := 0) rfl
    have k0 := bk.out.cellv (i := 0) rfl
    have k1 := bk.out.cellv (i := 1) rfl
    obtain ⟨v, f, hlk, hf⟩ := HT1.out.look (i, k) (by omega) (by omega)
    simp only [kP] at hlk
    have HF2 := Lib.hid hf
    clear hf
    cases f with
    | true =>
      have hD := HFa.out _ (HF2.out.1 rfl) (Nat.le_refl _) (Nat.le_refl _)
      have HD := Lib.hid hD
      clear hD
      go_wp2_with fail
      go_ret
      exact TryR.no rfl HD.out HB1.out HT1.out fun p hp => .inl (.inl hp)
    | false =>
      obtain ⟨o, hput, hT2, hg2⟩ := HT1.out.put (i, k) (by omega) (by omega)
      simp only [kP] at hput
      have HT2 := Lib.hid hT2
      have HG2 := Lib.hid (grown_trans HB1.out hg2)
      have HE2 := Lib.hid (HE1.out.grown hg2)
      have HSn := Lib.hid (show Seen gs s T i k (fun q => T q ∨ q = (i, k)) from fun p hp => .inl hp)
      clear hT2 hg2
      go_upto_region 6 with fail
      clear hlk hput t0 k0 k1 bk
      generalize setBlock W1 M o = W2 at *
      obtain ⟨T2, hTe⟩ : ∃ T2, T2 = (fun q => T q ∨ q = (i, k)) := ⟨_, rfl⟩
      rw [← hTe] at HT2 HSn
      clear hTe HE1 HT1 HB1 HF2 HEn HTr HFa
      have l0 := HE2.out.lb.cellv (i := 0) rfl
      have n0 := HE2.out.nb.cellv (i := 0) rfl
      have c0 := HE2.out.cb.cellv (i := 0) rfl
      by_cases hin : i = n
      · subst hin
        have HD := Lib.hid (Glb.D_end (s := s) (by rw [HGL.out]) hk)
        cases hkk : ((k : Int) == (s.length : Int))
        · rw [hkk] at HD
          go_wp2_with fail
          go_ret
          exact TryR.no rfl HD.out HG2.out HT2.out HSn.out
        · rw [hkk] at HD
          go_wp2_with fail
          go_ret
          exact TryR.yes rfl HD.out HG2.out HT2.out
      have hin' : i < n := by omega
      have hii : ((i : Int) == (n : Int)) = false := by rw [beq_eq_false_iff_ne]; omega
      obtain ⟨b, off, x, hig, rfl, hSb, hmk, m0, m1, m2, m3⟩ := HE2.out.ms.at_ hin'
      have g0 : (0 : Int) ≤ (i : Int) := by omega
      have g1 : (i : Int) < (n : Int) := by omega
      have hxk := hmk.1
      have HMk := Lib.hid hmk
      clear hmk
      by_cases hm : gs[i].k = 2
      · have hx2 : (x.k == 2) = true := by rw [hxk, hm]; rfl
        have hcall := HIh.out (i + 1) k W2 T2 (by omega) (Nat.le_refl _) (by omega) (by omega) hk HE2.out HT2.out HSn.out
        have e1 : ((i + 1 : Nat) : Int) = (i : Int) + 1 := by omega
        rw [e1] at hcall
        have HCall := Lib.hid hcall
        have HM := Lib.hid hm
        have HM1 := Lib.hid (fun (h : k = s.length) => Glb.D_many_end hig hm h)
        have HM2 := Lib.hid (fun (h : k < s.length) => Glb.D_many hig hm h)
        clear hcall e1 hm hxk
        go_wp2_with fail
        go_simp
        go_wp2_with fail
        refine HCall.out.mono ?_
        rintro e W3 ⟨rfl, hg3, T3, hT3, hF3⟩
        have HG3 := Lib.hid (grown_trans HG2.out hg3)
        have HT3 := Lib.hid hT3
        have HE3 := Lib.hid (HE2.out.grown hg3)
        have HKp := Lib.hid (fun b' o' hS => (World.cell?_of_block (hg3.block b' (HE2.out.sb b' hS).2 (fun e => (HE2.out.sb b' hS).1 (Option.some.inj e))) : W3.cell? ⟨b', o', none⟩ = W2.cell? ⟨b', o', none⟩))
        cases hD1 : Glb.D gs s (i + 1, k)
        case true =>
          have HY := Lib.hid (show Glb.D gs s (i, k) = true by
            by_cases hkl : k = s.length
            · rw [HM1.out hkl, hD1]
            · rw [HM2.out (by omega), hD1]; rfl)
          clear hF3 hD1 hg3 hT3
          go_wp2_with fail
          go_ret
          exact TryR.yes rfl HY.out HG3.out HT3.out
        rw [hD1] at hF3
        have HS3 := Lib.hid (HSn.out.more (by omega) (Nat.le_refl _) (hF3 rfl))
        clear hF3 hg3 hT3
        go_upto_region 10 with fail
        by_cases hkl : k = s.length
        · have HNo := Lib.hid (show Glb.D gs s (i, k) = false by rw [HM1.out hkl, hD1])
          clear hD1
          subst hkl
          have hbd : Below W3.heap.size W3 W3.drew := ⟨rfl, rfl, rfl, Nat.le_refl _, fun _ _ => rfl⟩
          have hkp : ∀ b' o', S b' → W3.drew.cell? ⟨b', o', none⟩ = W2.cell? ⟨b', o', none⟩ := fun b' o' hS => (hbd.cell (p := ⟨b', o', none⟩) (HE3.out.sb b' hS).2).trans (HKp.out b' o' hS)
          have HEd := Lib.hid (HE3.out.on hbd)
          have HTd := Lib.hid (HT3.out.on hbd)
          have HGd := Lib.hid (grown_trans HG3.out (grown_of_belowR (r := some M) hbd))
          have HSc := Lib.hid HS3.out
          have HMd := Lib.hid ((HMk.out.keep hkp).mono fun b' hS => (HEd.out.sb b' hS).2)
          have M0 := Lib.hid ((hkp b _ hSb).trans m0)
          have M1 := Lib.hid ((hkp b _ hSb).trans m1)
          have M2 := Lib.hid ((hkp b _ hSb).trans m2)
          have M3 := Lib.hid ((hkp b _ hSb).trans m3)
          have l0 := HE3.out.lb.cellv (i := 0) rfl
          have n0 := HE3.out.nb.cellv (i := 0) rfl
          have c0 := HE3.out.cb.cellv (i := 0) rfl
          clear hbd hkp
          clear M0 M1 M2 M3 HMd
          refine wp_region_noPanic ?_
          refine wp_region_held_drew (S := (fun W' => Below W3.drew.heap.size W3.drew W')) (by kernel_rfl) (Below.refl _ _) (fun hS0 => ?_)
          refine takeV 0 (v := (.int .i64 (s.length : Int))) rfl (by kernel_rfl) (by kernel_rfl) (by kernel_rfl) (fun _ _ _ h => h) (by rfl) (fun _ _ => rfl) (by assumption) ?_
          try simp only [layR]
          refine takeV 1 (v := (.string (strL s))) rfl (by kernel_rfl) (by kernel_rfl) (by kernel_rfl) (fun _ _ _ h => h) (by rfl) (fun W hSw => ?_) (by assumption) ?_
          · have c9 := (HEd.out.on hSw).nb.cellv (i := 0) rfl
            go_simp
          try simp only [layR]
          refine takeV 2 (v := (.int .i64 (s.length : Int))) rfl (by kernel_rfl) (by kernel_rfl) (by kernel_rfl) (fun _ _ _ h => h) (by rfl) (fun W hSw => ?_) (by assumption) ?_
          · skip
            go_simp
          try simp only [layR]
          refine takeV 3 (v := (.bool true)) rfl (by kernel_rfl) (by kernel_rfl) (by kernel_rfl) (fun _ _ _ h => h) (by rfl) (fun W hSw => ?_) (by assumption) ?_
          · skip
            go_simp
          try simp only [layR]
          refine takeV 4 (v := (.bool true)) rfl (by kernel_rfl) (by kernel_rfl) (by kernel_rfl) (fun _ _ _ h => h) (by rfl) (fun _ _ => rfl) (by assumption) ?_
          try simp only [layR]
          refine takeNo 5 rfl (by kernel_rfl) (by kernel_rfl) (by kernel_rfl) (fun _ _ _ h => h) (by rfl) (by assumption) ?_
          try simp only [layR]
          refine takeNo 6 rfl (by kernel_rfl) (by kernel_rfl) (by kernel_rfl) (fun _ _ _ h => h) (by rfl) (by assumption) ?_
          try simp only [layR]
          refine takeNo 7 rfl (by kernel_rfl) (by kernel_rfl) (by kernel_rfl) (fun _ _ _ h => h) (by rfl) (by assumption) ?_
          try simp only [layR]
          refine takeNo 8 rfl (by kernel_rfl) (by kernel_rfl) (by kernel_rfl) (fun _ _ _ h => h) (by rfl) (by assumption) ?_
          try simp only [layR]
          refine takeNo 9 rfl (by kernel_rfl) (by kernel_rfl) (by kernel_rfl) (fun _ _ _ h => h) (by rfl) (by assumption) ?_
          try simp only [layR]
          refine takeNo 10 rfl (by kernel_rfl) (by kernel_rfl) (by kernel_rfl) (fun _ _ _ h => h) (by rfl) (by assumption) ?_
          try simp only [layR]
          refine takeNo 11 rfl (by kernel_rfl) (by kernel_rfl) (by kernel_rfl) (fun _ _ _ h => h) (by rfl) (by assumption) ?_
          try simp only [layR]
          refine takeNo 12 rfl (by kernel_rfl) (by kernel_rfl) (by kernel_rfl) (fun _ _ _ h => h) (by rfl) (by assumption) ?_
          try simp only [layR]
          refine takeNo 13 rfl (by kernel_rfl) (by kernel_rfl) (by kernel_rfl) (fun _ _ _ h => h) (by rfl) (by assumption) ?_
          try simp only [layR]
          refine takeV 14 (v := (.bool true)) rfl (by kernel_rfl) (by kernel_rfl) (by kernel_rfl) (fun _ _ _ h => h) (by rfl) (fun W hSw => ?_) (by assumption) ?_
          · skip
            go_simp
          try simp only [layR]
          refine wpAnyH_done (by kernel_rfl) ?_ _
          refine NoPanic.normal ?_
          clear hS0
          go_wp2_with fail
          go_ret
          exact TryR.no rfl HNo.out HGd.out HTd.out HSc.out
        · have hkl' : k < s.length := by omega
          have hkk : ((k : Int) == (s.length : Int)) = false := by rw [beq_eq_false_iff_ne]; omega
          have HDD := Lib.hid (show Glb.D gs s (i, k) = Glb.D gs s (i, k + 1) by rw [HM2.out hkl', hD1]; rfl)
          have hst := Glb.stands_many HM.out s[k]
          have gk0 : (0 : Int) ≤ (k : Int) := by omega
          have gk1 : (k : Int) < (s.length : Int) := by omega
          clear hD1 hkl
          have hbd : Below W3.heap.size W3 W3.drew := ⟨rfl, rfl, rfl, Nat.le_refl _, fun _ _ => rfl⟩
          have hkp : ∀ b' o', S b' → W3.drew.cell? ⟨b', o', none⟩ = W2.cell? ⟨b', o', none⟩ := fun b' o' hS => (hbd.cell (p := ⟨b', o', none⟩) (HE3.out.sb b' hS).2).trans (HKp.out b' o' hS)
          have HEd := Lib.hid (HE3.out.on hbd)
          have HTd := Lib.hid (HT3.out.on hbd)
          have HGd := Lib.hid (grown_trans HG3.out (grown_of_belowR (r := some M) hbd))
          have HSc := Lib.hid HS3.out
          have HMd := Lib.hid ((HMk.out.keep hkp).mono fun b' hS => (HEd.out.sb b' hS).2)
          have M0 := Lib.hid ((hkp b _ hSb).trans m0)
          have M1 := Lib.hid ((hkp b _ hSb).trans m1)
          have M2 := Lib.hid ((hkp b _ hSb).trans m2)
          have M3 := Lib.hid ((hkp b _ hSb).trans m3)
          have l0 := HE3.out.lb.cellv (i := 0) rfl
          have n0 := HE3.out.nb.cellv (i := 0) rfl
          have c0 := HE3.out.cb.cellv (i := 0) rfl
          clear hbd hkp
          have HSt := Lib.hid (stands_calls x gs[i] s[k] W3.drew HMd.out)
          rw [hst] at HSt
          refine wp_region_noPanic ?_
          refine wp_region_held_drew (S := (fun W' => Below W3.drew.heap.size W3.drew W')) (by kernel_rfl) (Below.refl _ _) (fun hS0 => ?_)
          refine takeV 0 (v := (.int .i64 (k : Int))) rfl (by kernel_rfl) (by kernel_rfl) (by kernel_rfl) (fun _ _ _ h => h) (by rfl) (fun _ _ => rfl) (by assumption) ?_
          try simp only [layR]
          refine takeV 1 (v := (.string (strL s))) rfl (by kernel_rfl) (by kernel_rfl) (by kernel_rfl) (fun _ _ _ h => h) (by rfl) (fun W hSw => ?_) (by assumption) ?_
          · have c9 := (HEd.out.on hSw).nb.cellv (i := 0) rfl
            go_simp
          try simp only [layR]
          refine takeV 2 (v := (.int .i64 (s.length : Int))) rfl (by kernel_rfl) (by kernel_rfl) (by kernel_rfl) (fun _ _ _ h => h) (by rfl) (fun W hSw => ?_) (by assumption) ?_
          · skip
            go_simp
          try simp only [layR]
          refine takeV 3 (v := (.bool false)) rfl (by kernel_rfl) (by kernel_rfl) (by kernel_rfl) (fun _ _ _ h => h) (by rfl) (fun W hSw => ?_) (by assumption) ?_
          · skip
            go_simp
          try simp only [layR]
          refine takeV 4 (v := (.bool false)) rfl (by kernel_rfl) (by kernel_rfl) (by kernel_rfl) (fun _ _ _ h => h) (by rfl) (fun _ _ => rfl) (by assumption) ?_
          try simp only [layR]
          refine takeV 5 (v := (.slice (some ⟨b, off, none⟩) n c)) rfl (by kernel_rfl) (by kernel_rfl) (by kernel_rfl) (fun _ _ _ h => h) (by rfl) (fun W hSw => ?_) (by assumption) ?_
          · have c9 := (HEd.out.on hSw).lb.cellv (i := 0) rfl
            go_simp
          try simp only [layR]
          refine takeV 6 (v := (.int .i64 (i : Int))) rfl (by kernel_rfl) (by kernel_rfl) (by kernel_rfl) (fun _ _ _ h => h) (by rfl) (fun _ _ => rfl) (by assumption) ?_
          try simp only [layR]
          refine takeV 7 (v := (.pointer (some ⟨b, off + i * 4, none⟩))) rfl (by kernel_rfl) (by kernel_rfl) (by kernel_rfl) (fun _ _ _ h => h) (by rfl) (fun W hSw => ?_) (by assumption) ?_
          · skip
            go_simp
          try simp only [layR]
          refine takeV 8 (v := (mvV x)) rfl (by kernel_rfl) (by kernel_rfl) (by kernel_rfl) (fun _ _ _ h => h) (by rfl) (fun W hSw => ?_) (by assumption) ?_
          · unfold mvV; have c9 := (hSw.cell (p := ⟨b, off + i * 4, none⟩) (HEd.out.sb b hSb).2).trans M0.out; have c8 := (hSw.cell (p := ⟨b, off + i * 4 + 1, none⟩) (HEd.out.sb b hSb).2).trans M1.out; have c7 := (hSw.cell (p := ⟨b, off + i * 4 + 2, none⟩) (HEd.out.sb b hSb).2).trans M2.out; have c6 := (hSw.cell (p := ⟨b, off + i * 4 + 3, none⟩) (HEd.out.sb b hSb).2).trans M3.out
            go_simp
          try simp only [layR]
          refine takeV 9 (v := (.string (strL s))) rfl (by kernel_rfl) (by kernel_rfl) (by kernel_rfl) (fun _ _ _ h => h) (by rfl) (fun W hSw => ?_) (by assumption) ?_
          · have c9 := (HEd.out.on hSw).nb.cellv (i := 0) rfl
            go_simp
          try simp only [layR]
          refine takeV 10 (v := (.int .i64 (k : Int))) rfl (by kernel_rfl) (by kernel_rfl) (by kernel_rfl) (fun _ _ _ h => h) (by rfl) (fun _ _ => rfl) (by assumption) ?_
          try simp only [layR]
          refine takeV 11 (v := (.int .u8 (s[k].toNat : Int))) rfl (by kernel_rfl) (by kernel_rfl) (by kernel_rfl) (fun _ _ _ h => h) (by rfl) (fun W hSw => ?_) (by assumption) ?_
          · skip
            go_simp
          try simp only [layR]
          refine wpAnyH_ready (rs := [12]) (by kernel_rfl) (by simp) ?_
          refine AllReadyH.cons rfl (fun K' hK => ?_) AllReadyH.nil
          go_simp
          refine HSt.out.mono ?_
          rintro e W4 ⟨rfl, hb4⟩
          refine hK.out _ _ hb4 (fun hS1 => ?_)
          try simp only [layR]
          refine takeV 13 (v := (.bool false)) rfl (by kernel_rfl) (by kernel_rfl) (by kernel_rfl) (fun _ _ _ h => h) (by rfl) (fun W hSw => ?_) (by assumption) ?_
          · skip
            go_simp
          try simp only [layR]
          refine takeV 14 (v := (.bool false)) rfl (by kernel_rfl) (by kernel_rfl) (by kernel_rfl) (fun _ _ _ h => h) (by rfl) (fun W hSw => ?_) (by assumption) ?_
          · skip
            go_simp
          try simp only [layR]
          refine wpAnyH_done (by kernel_rfl) ?_ _
          refine NoPanic.normal ?_
          have HE4 := Lib.hid (HEd.out.on hS1)
          have HT4 := Lib.hid (HTd.out.on hS1)
          have HG4 := Lib.hid (grown_trans HGd.out (grown_of_belowR (r := some M) hS1))
          have m0 := (hS1.cell (p := ⟨b, off + i * 4, none⟩) (HEd.out.sb b hSb).2).trans M0.out
          have l0 := HE4.out.lb.cellv (i := 0) rfl
          have c0 := HE4.out.cb.cellv (i := 0) rfl
          clear hS0 hS1 hb4 HSt n0
          clear hst
          have hcall := HIh.out i (k + 1) W4 _ (by omega) (by omega) (by omega) (by omega) (by omega) HE4.out HT4.out HSc.out
          have e1 : ((k + 1 : Nat) : Int) = (k : Int) + 1 := by omega
          rw [e1] at hcall
          clear e1
          have HCall := Lib.hid hcall
          clear hcall
          go_wp2_with fail
          go_simp
          go_wp2_with fail
          refine HCall.out.mono ?_
          rintro e W5 ⟨rfl, hr5⟩
          have HR5 := Lib.hid hr5
          clear hr5
          go_wp2_with fail
          go_ret
          exact TryR.last HSc.out (by omega) (by omega) HG4.out HDD.out ⟨rfl, HR5.out.1, HR5.out.2⟩
      · have hx2 : (x.k == 2) = false := by rw [hxk]; simpa using hm
        have HM1 := Lib.hid (fun (h : k = s.length) => Glb.D_one_end hig hm h)
        have HM2 := Lib.hid (fun (h : k < s.length) => Glb.D_one hig hm h)
        clear hm hxk
        go_wp2_with fail
        go_simp
        go_upto_region 10 with fail
        by_cases hkl : k = s.length
        · have HNo := Lib.hid (HM1.out hkl)
          subst hkl
          have hbd : Below W2.heap.size W2 W2.drew := ⟨rfl, rfl, rfl, Nat.le_refl _, fun _ _ => rfl⟩
          have hkp : ∀ b' o', S b' → W2.drew.cell? ⟨b', o', none⟩ = W2.cell? ⟨b', o', none⟩ := fun b' o' hS => (hbd.cell (p := ⟨b', o', none⟩) (HE2.out.sb b' hS).2).trans (rfl)
          have HEd := Lib.hid (HE2.out.on hbd)
          have HTd := Lib.hid (HT2.out.on hbd)
          have HGd := Lib.hid (grown_trans HG2.out (grown_of_belowR (r := some M) hbd))
          have HSc := Lib.hid HSn.out
          have HMd := Lib.hid ((HMk.out.keep hkp).mono fun b' hS => (HEd.out.sb b' hS).2)
          have M0 := Lib.hid ((hkp b _ hSb).trans m0)
          have M1 := Lib.hid ((hkp b _ hSb).trans m1)
          have M2 := Lib.hid ((hkp b _ hSb).trans m2)
          have M3 := Lib.hid ((hkp b _ hSb).trans m3)
          have l0 := HE2.out.lb.cellv (i := 0) rfl
          have n0 := HE2.out.nb.cellv (i := 0) rfl
          have c0 := HE2.out.cb.cellv (i := 0) rfl
          clear hbd hkp
          clear M0 M1 M2 M3 HMd
          refine wp_region_noPanic ?_
          refine wp_region_held_drew (S := (fun W' => Below W2.drew.heap.size W2.drew W')) (by kernel_rfl) (Below.refl _ _) (fun hS0 => ?_)
          refine takeV 0 (v := (.int .i64 (s.length : Int))) rfl (by kernel_rfl) (by kernel_rfl) (by kernel_rfl) (fun _ _ _ h => h) (by rfl) (fun _ _ => rfl) (by assumption) ?_
          try simp only [layR]
          refine takeV 1 (v := (.string (strL s))) rfl (by kernel_rfl) (by kernel_rfl) (by kernel_rfl) (fun _ _ _ h => h) (by rfl) (fun W hSw => ?_) (by assumption) ?_
          · have c9 := (HEd.out.on hSw).nb.cellv (i := 0) rfl
            go_simp
          try simp only [layR]
          refine takeV 2 (v := (.int .i64 (s.length : Int))) rfl (by kernel_rfl) (by kernel_rfl) (by kernel_rfl) (fun _ _ _ h => h) (by rfl) (fun W hSw => ?_) (by assumption) ?_
          · skip
            go_simp
          try simp only [layR]
          refine takeV 3 (v := (.bool true)) rfl (by kernel_rfl) (by kernel_rfl) (by kernel_rfl) (fun _ _ _ h => h) (by rfl) (fun W hSw => ?_) (by assumption) ?_
          · skip
            go_simp
          try simp only [layR]
          refine takeV 4 (v := (.bool true)) rfl (by kernel_rfl) (by kernel_rfl) (by kernel_rfl) (fun _ _ _ h => h) (by rfl) (fun _ _ => rfl) (by assumption) ?_
          try simp only [layR]
          refine takeNo 5 rfl (by kernel_rfl) (by kernel_rfl) (by kernel_rfl) (fun _ _ _ h => h) (by rfl) (by assumption) ?_
          try simp only [layR]
          refine takeNo 6 rfl (by kernel_rfl) (by kernel_rfl) (by kernel_rfl) (fun _ _ _ h => h) (by rfl) (by assumption) ?_
          try simp only [layR]
          refine takeNo 7 rfl (by kernel_rfl) (by kernel_rfl) (by kernel_rfl) (fun _ _ _ h => h) (by rfl) (by assumption) ?_
          try simp only [layR]
          refine takeNo 8 rfl (by kernel_rfl) (by kernel_rfl) (by kernel_rfl) (fun _ _ _ h => h) (by rfl) (by assumption) ?_
          try simp only [layR]
          refine takeNo 9 rfl (by kernel_rfl) (by kernel_rfl) (by kernel_rfl) (fun _ _ _ h => h) (by rfl) (by assumption) ?_
          try simp only [layR]
          refine takeNo 10 rfl (by kernel_rfl) (by kernel_rfl) (by kernel_rfl) (fun _ _ _ h => h) (by rfl) (by assumption) ?_
          try simp only [layR]
          refine takeNo 11 rfl (by kernel_rfl) (by kernel_rfl) (by kernel_rfl) (fun _ _ _ h => h) (by rfl) (by assumption) ?_
          try simp only [layR]
          refine takeNo 12 rfl (by kernel_rfl) (by kernel_rfl) (by kernel_rfl) (fun _ _ _ h => h) (by rfl) (by assumption) ?_
          try simp only [layR]
          refine takeNo 13 rfl (by kernel_rfl) (by kernel_rfl) (by kernel_rfl) (fun _ _ _ h => h) (by rfl) (by assumption) ?_
          try simp only [layR]
          refine takeV 14 (v := (.bool true)) rfl (by kernel_rfl) (by kernel_rfl) (by kernel_rfl) (fun _ _ _ h => h) (by rfl) (fun W hSw => ?_) (by assumption) ?_
          · skip
            go_simp
          try simp only [layR]
          refine wpAnyH_done (by kernel_rfl) ?_ _
          refine NoPanic.normal ?_
          clear hS0
          go_wp2_with fail
          go_ret
          exact TryR.no rfl HNo.out HGd.out HTd.out HSc.out
        · have hkl' : k < s.length := by omega
          have hkk : ((k : Int) == (s.length : Int)) = false := by rw [beq_eq_false_iff_ne]; omega
          have gk0 : (0 : Int) ≤ (k : Int) := by omega
          have gk1 : (k : Int) < (s.length : Int) := by omega
          clear hkl
          have hbd : Below W2.heap.size W2 W2.drew := ⟨rfl, rfl, rfl, Nat.le_refl _, fun _ _ => rfl⟩
          have hkp : ∀ b' o', S b' → W2.drew.cell? ⟨b', o', none⟩ = W2.cell? ⟨b', o', none⟩ := fun b' o' hS => (hbd.cell (p := ⟨b', o', none⟩) (HE2.out.sb b' hS).2).trans (rfl)
          have HEd := Lib.hid (HE2.out.on hbd)
          have HTd := Lib.hid (HT2.out.on hbd)
          have HGd := Lib.hid (grown_trans HG2.out (grown_of_belowR (r := some M) hbd))
          have HSc := Lib.hid HSn.out
          have HMd := Lib.hid ((HMk.out.keep hkp).mono fun b' hS => (HEd.out.sb b' hS).2)
          have M0 := Lib.hid ((hkp b _ hSb).trans m0)
          have M1 := Lib.hid ((hkp b _ hSb).trans m1)
          have M2 := Lib.hid ((hkp b _ hSb).trans m2)
          have M3 := Lib.hid ((hkp b _ hSb).trans m3)
          have l0 := HE2.out.lb.cellv (i := 0) rfl
          have n0 := HE2.out.nb.cellv (i := 0) rfl
          have c0 := HE2.out.cb.cellv (i := 0) rfl
          clear hbd hkp
          cases hst : Glb.standsB gs[i] s[k]
          · have HNo := Lib.hid (show Glb.D gs s (i, k) = false by rw [HM2.out hkl', hst]; rfl)
            have HSt := Lib.hid (stands_calls x gs[i] s[k] W2.drew HMd.out)
            rw [hst] at HSt
            refine wp_region_noPanic ?_
            refine wp_region_held_drew (S := (fun W' => Below W2.drew.heap.size W2.drew W')) (by kernel_rfl) (Below.refl _ _) (fun hS0 => ?_)
            refine takeV 0 (v := (.int .i64 (k : Int))) rfl (by kernel_rfl) (by kernel_rfl) (by kernel_rfl) (fun _ _ _ h => h) (by rfl) (fun _ _ => rfl) (by assumption) ?_
            try simp only [layR]
            refine takeV 1 (v := (.string (strL s))) rfl (by kernel_rfl) (by kernel_rfl) (by kernel_rfl) (fun _ _ _ h => h) (by rfl) (fun W hSw => ?_) (by assumption) ?_
            · have c9 := (HEd.out.on hSw).nb.cellv (i := 0) rfl
              go_simp
            try simp only [layR]
            refine takeV 2 (v := (.int .i64 (s.length : Int))) rfl (by kernel_rfl) (by kernel_rfl) (by kernel_rfl) (fun _ _ _ h => h) (by rfl) (fun W hSw => ?_) (by assumption) ?_
            · skip
              go_simp
            try simp only [layR]
            refine takeV 3 (v := (.bool false)) rfl (by kernel_rfl) (by kernel_rfl) (by kernel_rfl) (fun _ _ _ h => h) (by rfl) (fun W hSw => ?_) (by assumption) ?_
            · skip
              go_simp
            try simp only [layR]
            refine takeV 4 (v := (.bool false)) rfl (by kernel_rfl) (by kernel_rfl) (by kernel_rfl) (fun _ _ _ h => h) (by rfl) (fun _ _ => rfl) (by assumption) ?_
            try simp only [layR]
            refine takeV 5 (v := (.slice (some ⟨b, off, none⟩) n c)) rfl (by kernel_rfl) (by kernel_rfl) (by kernel_rfl) (fun _ _ _ h => h) (by rfl) (fun W hSw => ?_) (by assumption) ?_
            · have c9 := (HEd.out.on hSw).lb.cellv (i := 0) rfl
              go_simp
            try simp only [layR]
            refine takeV 6 (v := (.int .i64 (i : Int))) rfl (by kernel_rfl) (by kernel_rfl) (by kernel_rfl) (fun _ _ _ h => h) (by rfl) (fun _ _ => rfl) (by assumption) ?_
            try simp only [layR]
            refine takeV 7 (v := (.pointer (some ⟨b, off + i * 4, none⟩))) rfl (by kernel_rfl) (by kernel_rfl) (by kernel_rfl) (fun _ _ _ h => h) (by rfl) (fun W hSw => ?_) (by assumption) ?_
            · skip
              go_simp
            try simp only [layR]
            refine takeV 8 (v := (mvV x)) rfl (by kernel_rfl) (by kernel_rfl) (by kernel_rfl) (fun _ _ _ h => h) (by rfl) (fun W hSw => ?_) (by assumption) ?_
            · unfold mvV; have c9 := (hSw.cell (p := ⟨b, off + i * 4, none⟩) (HEd.out.sb b hSb).2).trans M0.out; have c8 := (hSw.cell (p := ⟨b, off + i * 4 + 1, none⟩) (HEd.out.sb b hSb).2).trans M1.out; have c7 := (hSw.cell (p := ⟨b, off + i * 4 + 2, none⟩) (HEd.out.sb b hSb).2).trans M2.out; have c6 := (hSw.cell (p := ⟨b, off + i * 4 + 3, none⟩) (HEd.out.sb b hSb).2).trans M3.out
              go_simp
            try simp only [layR]
            refine takeV 9 (v := (.string (strL s))) rfl (by kernel_rfl) (by kernel_rfl) (by kernel_rfl) (fun _ _ _ h => h) (by rfl) (fun W hSw => ?_) (by assumption) ?_
            · have c9 := (HEd.out.on hSw).nb.cellv (i := 0) rfl
              go_simp
            try simp only [layR]
            refine takeV 10 (v := (.int .i64 (k : Int))) rfl (by kernel_rfl) (by kernel_rfl) (by kernel_rfl) (fun _ _ _ h => h) (by rfl) (fun _ _ => rfl) (by assumption) ?_
            try simp only [layR]
            refine takeV 11 (v := (.int .u8 (s[k].toNat : Int))) rfl (by kernel_rfl) (by kernel_rfl) (by kernel_rfl) (fun _ _ _ h => h) (by rfl) (fun W hSw => ?_) (by assumption) ?_
            · skip
              go_simp
            try simp only [layR]
            refine wpAnyH_ready (rs := [12]) (by kernel_rfl) (by simp) ?_
            refine AllReadyH.cons rfl (fun K' hK => ?_) AllReadyH.nil
            go_simp
            refine HSt.out.mono ?_
            rintro e W4 ⟨rfl, hb4⟩
            refine hK.out _ _ hb4 (fun hS1 => ?_)
            try simp only [layR]
            refine takeV 13 (v := (.bool true)) rfl (by kernel_rfl) (by kernel_rfl) (by kernel_rfl) (fun _ _ _ h => h) (by rfl) (fun W hSw => ?_) (by assumption) ?_
            · skip
              go_simp
            try simp only [layR]
            refine takeV 14 (v := (.bool true)) rfl (by kernel_rfl) (by kernel_rfl) (by kernel_rfl) (fun _ _ _ h => h) (by rfl) (fun W hSw => ?_) (by assumption) ?_
            · skip
              go_simp
            try simp only [layR]
            refine wpAnyH_done (by kernel_rfl) ?_ _
            refine NoPanic.normal ?_
            have HE4 := Lib.hid (HEd.out.on hS1)
            have HT4 := Lib.hid (HTd.out.on hS1)
            have HG4 := Lib.hid (grown_trans HGd.out (grown_of_belowR (r := some M) hS1))
            have m0 := (hS1.cell (p := ⟨b, off + i * 4, none⟩) (HEd.out.sb b hSb).2).trans M0.out
            have l0 := HE4.out.lb.cellv (i := 0) rfl
            have c0 := HE4.out.cb.cellv (i := 0) rfl
            clear hS0 hS1 hb4 HSt n0
            clear hst
            go_wp2_with fail
            go_ret
            exact TryR.no rfl HNo.out HG4.out HT4.out HSc.out
          · have HDD := Lib.hid (show Glb.D gs s (i, k) = Glb.D gs s (i + 1, k + 1) by rw [HM2.out hkl', hst]; rfl)
            have HSt := Lib.hid (stands_calls x gs[i] s[k] W2.drew HMd.out)
            rw [hst] at HSt
            refine wp_region_noPanic ?_
            refine wp_region_held_drew (S := (fun W' => Below W2.drew.heap.size W2.drew W')) (by kernel_rfl) (Below.refl _ _) (fun hS0 => ?_)
            refine takeV 0 (v := (.int .i64 (k : Int))) rfl (by kernel_rfl) (by kernel_rfl) (by kernel_rfl) (fun _ _ _ h => h) (by rfl) (fun _ _ => rfl) (by assumption) ?_
            try simp only [layR]
            refine takeV 1 (v := (.string (strL s))) rfl (by kernel_rfl) (by kernel_rfl) (by kernel_rfl) (fun _ _ _ h => h) (by rfl) (fun W hSw => ?_) (by assumption) ?_
            · have c9 := (HEd.out.on hSw).nb.cellv (i := 0) rfl
              go_simp
            try simp only [layR]
            refine takeV 2 (v := (.int .i64 (s.length : Int))) rfl (by kernel_rfl) (by kernel_rfl) (by kernel_rfl) (fun _ _ _ h => h) (by rfl) (fun W hSw => ?_) (by assumption) ?_
            · skip
              go_simp
            try simp only [layR]
            refine takeV 3 (v := (.bool false)) rfl (by kernel_rfl) (by kernel_rfl) (by kernel_rfl) (fun _ _ _ h => h) (by rfl) (fun W hSw => ?_) (by assumption) ?_
            · skip
              go_simp
            try simp only [layR]
            refine takeV 4 (v := (.bool false)) rfl (by kernel_rfl) (by kernel_rfl) (by kernel_rfl) (fun _ _ _ h => h) (by rfl) (fun _ _ => rfl) (by assumption) ?_
            try simp only [layR]
            refine takeV 5 (v := (.slice (some ⟨b, off, none⟩) n c)) rfl (by kernel_rfl) (by kernel_rfl) (by kernel_rfl) (fun _ _ _ h => h) (by rfl) (fun W hSw => ?_) (by assumption) ?_
            · have c9 := (HEd.out.on hSw).lb.cellv (i := 0) rfl
              go_simp
            try simp only [layR]
            refine takeV 6 (v := (.int .i64 (i : Int))) rfl (by kernel_rfl) (by kernel_rfl) (by kernel_rfl) (fun _ _ _ h => h) (by rfl) (fun _ _ => rfl) (by assumption) ?_
            try simp only [layR]
            refine takeV 7 (v := (.pointer (some ⟨b, off + i * 4, none⟩))) rfl (by kernel_rfl) (by kernel_rfl) (by kernel_rfl) (fun _ _ _ h => h) (by rfl) (fun W hSw => ?_) (by assumption) ?_
            · skip
              go_simp
            try simp only [layR]
            refine takeV 8 (v := (mvV x)) rfl (by kernel_rfl) (by kernel_rfl) (by kernel_rfl) (fun _ _ _ h => h) (by rfl) (fun W hSw => ?_) (by assumption) ?_
            · unfold mvV; have c9 := (hSw.cell (p := ⟨b, off + i * 4, none⟩) (HEd.out.sb b hSb).2).trans M0.out; have c8 := (hSw.cell (p := ⟨b, off + i * 4 + 1, none⟩) (HEd.out.sb b hSb).2).trans M1.out; have c7 := (hSw.cell (p := ⟨b, off + i * 4 + 2, none⟩) (HEd.out.sb b hSb).2).trans M2.out; have c6 := (hSw.cell (p := ⟨b, off + i * 4 + 3, none⟩) (HEd.out.sb b hSb).2).trans M3.out
              go_simp
            try simp only [layR]
            refine takeV 9 (v := (.string (strL s))) rfl (by kernel_rfl) (by kernel_rfl) (by kernel_rfl) (fun _ _ _ h => h) (by rfl) (fun W hSw => ?_) (by assumption) ?_
            · have c9 := (HEd.out.on hSw).nb.cellv (i := 0) rfl
              go_simp
            try simp only [layR]
            refine takeV 10 (v := (.int .i64 (k : Int))) rfl (by kernel_rfl) (by kernel_rfl) (by kernel_rfl) (fun _ _ _ h => h) (by rfl) (fun _ _ => rfl) (by assumption) ?_
            try simp only [layR]
            refine takeV 11 (v := (.int .u8 (s[k].toNat : Int))) rfl (by kernel_rfl) (by kernel_rfl) (by kernel_rfl) (fun _ _ _ h => h) (by rfl) (fun W hSw => ?_) (by assumption) ?_
            · skip
              go_simp
            try simp only [layR]
            refine wpAnyH_ready (rs := [12]) (by kernel_rfl) (by simp) ?_
            refine AllReadyH.cons rfl (fun K' hK => ?_) AllReadyH.nil
            go_simp
            refine HSt.out.mono ?_
            rintro e W4 ⟨rfl, hb4⟩
            refine hK.out _ _ hb4 (fun hS1 => ?_)
            try simp only [layR]
            refine takeV 13 (v := (.bool false)) rfl (by kernel_rfl) (by kernel_rfl) (by kernel_rfl) (fun _ _ _ h => h) (by rfl) (fun W hSw => ?_) (by assumption) ?_
            · skip
              go_simp
            try simp only [layR]
            refine takeV 14 (v := (.bool false)) rfl (by kernel_rfl) (by kernel_rfl) (by kernel_rfl) (fun _ _ _ h => h) (by rfl) (fun W hSw => ?_) (by assumption) ?_
            · skip
              go_simp
            try simp only [layR]
            refine wpAnyH_done (by kernel_rfl) ?_ _
            refine NoPanic.normal ?_
            have HE4 := Lib.hid (HEd.out.on hS1)
            have HT4 := Lib.hid (HTd.out.on hS1)
            have HG4 := Lib.hid (grown_trans HGd.out (grown_of_belowR (r := some M) hS1))
            have m0 := (hS1.cell (p := ⟨b, off + i * 4, none⟩) (HEd.out.sb b hSb).2).trans M0.out
            have l0 := HE4.out.lb.cellv (i := 0) rfl
            have c0 := HE4.out.cb.cellv (i := 0) rfl
            clear hS0 hS1 hb4 HSt n0
            clear hst
            have hcall := HIh.out (i + 1) (k + 1) W4 _ (by omega) (by omega) (by omega) (by omega) (by omega) HE4.out HT4.out HSc.out
            have e1 : ((k + 1 : Nat) : Int) = (k : Int) + 1 := by omega
            have e2 : ((i + 1 : Nat) : Int) = (i : Int) + 1 := by omega
            rw [e1, e2] at hcall
            clear e1 e2
            have HCall := Lib.hid hcall
            clear hcall
            go_wp2_with fail
            go_simp
            go_wp2_with fail
            refine HCall.out.mono ?_
            rintro e W5 ⟨rfl, hr5⟩
            have HR5 := Lib.hid hr5
            clear hr5
            go_wp2_with fail
            go_ret
            exact TryR.last HSc.out (by omega) (by omega) HG4.out HDD.out ⟨rfl, HR5.out.1, HR5.out.2⟩
end Go.Proofs.Ytlnjfnpoabcllaa
