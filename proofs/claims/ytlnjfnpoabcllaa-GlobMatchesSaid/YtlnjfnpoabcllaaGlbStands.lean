/-
  stands, some and open: what a mark, or a part, stands for.
-/
import Derived.Test.YtlnjfnpoabcllaaGlbMem
namespace Go.Proofs.Ytlnjfnpoabcllaa
open Go.RowKit

namespace Glb
theorem inB_yes {l : List (UInt8 × UInt8)} {c : UInt8} {k : Nat} (hk : k < l.length) (h1 : decide (l[k].1.toNat ≤ c.toNat) = true) (h2 : decide (c.toNat ≤ l[k].2.toNat) = true) : inB l c = true := by
  unfold inB
  rw [List.any_eq_true]
  refine ⟨l[k], List.getElem_mem hk, ?_⟩
  rw [Bool.and_eq_true]
  have h1 := of_decide_eq_true h1
  have h2 := of_decide_eq_true h2
  exact ⟨decide_eq_true (UInt8.le_iff_toNat_le.2 (by omega)), decide_eq_true (UInt8.le_iff_toNat_le.2 (by omega))⟩
def outK (l : List (UInt8 × UInt8)) (c : UInt8) (k : Nat) : Prop := ∀ j (h : j < l.length), j < k → ¬ (l[j].1 ≤ c ∧ c ≤ l[j].2)
theorem outK_succ {l : List (UInt8 × UInt8)} {c : UInt8} {k : Nat} (hk : k < l.length) (h : outK l c k) (h1 : decide (l[k].1.toNat ≤ c.toNat) = false ∨ decide (c.toNat ≤ l[k].2.toNat) = false) : outK l c (k + 1) := fun j hj hlt => by
  by_cases e : j = k
  · subst e
    rintro ⟨a1, a2⟩
    have a1 := UInt8.le_iff_toNat_le.1 a1
    have a2 := UInt8.le_iff_toNat_le.1 a2
    rcases h1 with h1 | h1
    · have := of_decide_eq_false h1; omega
    · have := of_decide_eq_false h1; omega
  · exact h j hj (by omega)
theorem inB_no {l : List (UInt8 × UInt8)} {c : UInt8} {k : Nat} (hk : l.length ≤ k) (h : outK l c k) : inB l c = false := by
  rw [Bool.eq_false_iff]
  intro hh
  unfold inB at hh
  rw [List.any_eq_true] at hh
  obtain ⟨x, hx, h2⟩ := hh
  obtain ⟨i, hi, rfl⟩ := List.getElem_of_mem hx
  rw [Bool.and_eq_true] at h2
  exact h i hi (by omega) ⟨of_decide_eq_true h2.1, of_decide_eq_true h2.2⟩
end Glb
theorem RowS.spans {S : Nat → Prop} {w : World} {a : Option Addr} {n : Nat} {l : List (UInt8 × UInt8)} (h : RowS S 2 spanC w a n l) {k : Nat} (hk : k < n) :
    ∃ b o, ∃ h' : k < l.length, a = some ⟨b, o, none⟩ ∧ S b ∧ w.cell? ⟨b, o + k * 2, none⟩ = some (.int .u8 (l[k].1.toNat : Int)) ∧ w.cell? ⟨b, o + k * 2 + 1, none⟩ = some (.int .u8 (l[k].2.toNat : Int)) := by
  obtain ⟨b, o, hx, ha, hS, hr⟩ := h.atv hk
  exact ⟨b, o, hx, ha, hS, by have h0 := hr 0 _ rfl; rw [Nat.add_zero] at h0; exact h0, hr 1 _ rfl⟩
set_option maxHeartbeats 2000000 in
theorem stands_calls (x : Mv) (g : Glb.Gm) (c : UInt8) (w : World) (h : MkS (allB w) w x g) :
    Calls Try.prog 43 #[mvV x, .int .u8 (c.toNat : Int)] w fun e w' => e = .returned (.bool (Glb.standsB g c)) ∧ Below w.heap.size w w' := by
  obtain ⟨k, d, neg, l⟩ := g
  obtain ⟨xk, xc, xn, a, n, cp⟩ := x
  obtain ⟨e1, e2, e3, hr⟩ := h
  dsimp only at e1 e2 e3 hr
  subst e1 e2 e3
  show Calls Try.prog 43 #[.agg #[.int .i64 xk, .int .u8 (xc.toNat : Int), .bool xn, .slice a n cp], .int .u8 (c.toNat : Int)] w _
  have HR := Lib.hid hr
  have HL := Lib.hid hr.1
  have hroom := hr.2.1
  have hcr : (0 : Int) ≤ (c.toNat : Int) := by omega
  obtain ⟨r, hres⟩ : ∃ r, r = Glb.standsB ⟨xk, xc, xn, l⟩ c := ⟨_, rfl⟩
  rw [← hres]
  unfold Glb.standsB at hres
  dsimp only at hres
  clear hr
  by_cases h0 : xk = 0
  · subst h0
    rw [if_pos rfl] at hres
    have he : ((xc.toNat : Int) == (c.toNat : Int)) = r := by
      rw [hres, Bool.eq_iff_iff]
      simp only [beq_iff_eq]
      constructor
      · intro h; exact UInt8.toNat_inj.1 (by omega)
      · rintro rfl; rfl
    clear hres
    go_enter Try.func43, Try.ntmps43
    go_wp2
    go_ret
    exact ⟨rfl, (Below.refl _ _).alloc (Nat.le_refl _) _⟩
  rw [if_neg h0] at hres
  have g0 : (xk == 0) = false := by simpa using h0
  by_cases h3 : xk = 3
  case neg =>
    rw [if_neg h3] at hres
    subst hres
    have g3 : (xk == 3) = false := by simpa using h3
    go_enter Try.func43, Try.ntmps43
    go_wp2
    go_ret
    exact ⟨rfl, (Below.refl _ _).alloc (Nat.le_refl _) _⟩
  subst h3
  rw [if_pos rfl] at hres
  have HRes := Lib.hid hres
  clear hres h0
  go_enter Try.func43, Try.ntmps43
  go_wp2
  go_loopw [6, 20] (fun _ i wr => ∃ k : Nat, k ≤ n ∧ i = .int .i64 k ∧ Glb.outK l c k ∧ Blk wr w.heap.size 74 #[.int .i64 3, .int .u8 (xc.toNat : Int), .bool xn, .slice a n cp] ∧ Below w.heap.size w wr) (fun _ i _ => n - (intOf i).toNat)
  case atStart => exact ⟨0, by omega, rfl, fun j _ h => absurd h (by omega), Blk.new _ _ _, (Below.refl _ _).alloc (Nat.le_refl _) _⟩
  case round =>
    obtain ⟨k, hk, rfl, ho, hbk, hb⟩ := hrel
    have HO := Lib.hid ho
    have HBk := Lib.hid hbk
    have HB := Lib.hid hb
    have hszr := hbk.lt
    by_cases hlt : k < n
    · obtain ⟨b, o, hk', rfl, _, k0, k1⟩ := (HR.out.keep (kept_below hb)).spans hlt
      have b0 := (l[k]).1.toNat_lt
      have b1 := (l[k]).2.toNat_lt
      have g1 : (0 : Int) ≤ (k : Int) := by omega
      have g2 : (k : Int) < (n : Int) := by omega
      have c2 := (hbk.alloc (.cells #[.int .u8 (l[k].1.toNat : Int), .int .u8 (l[k].2.toNat : Int)] 91)).cellv (i := 2) rfl
      have HY := Lib.hid (fun a1 a2 => Glb.inB_yes (c := c) hk' a1 a2)
      have HN := Lib.hid (fun a => Glb.outK_succ hk' HO.out a)
      have HB2 := Lib.hid (hb.alloc (by omega) (.cells #[.int .u8 (l[k].1.toNat : Int), .int .u8 (l[k].2.toNat : Int)] 91))
      have HBk2 := Lib.hid (hbk.alloc (.cells #[.int .u8 (l[k].1.toNat : Int), .int .u8 (l[k].2.toNat : Int)] 91))
      clear ho hbk hb
      generalize l[k].1 = p at *
      generalize l[k].2 = q at *
      clear hk'
      cases hp : decide (p.toNat ≤ c.toNat)
      · go_wp2
        go_simp
        go_wp2
        go_roundw
        case rel => exact ⟨k + 1, by omega, by go_num, HN.out (.inl hp), HBk2.out, HB2.out⟩
        case measure => simp [intOf]; omega
      · cases hq : decide (c.toNat ≤ q.toNat)
        · go_wp2
          go_simp
          go_wp2
          go_roundw
          case rel => exact ⟨k + 1, by omega, by go_num, HN.out (.inr hq), HBk2.out, HB2.out⟩
          case measure => simp [intOf]; omega
        · have HT := Lib.hid (HY.out hp hq)
          go_wp2
          go_simp
          go_wp2
          go_ret
          exact ⟨by rw [HRes.out, HT.out]; rfl, HB2.out⟩
    · obtain rfl : k = n := by omega
      have HT := Lib.hid (Glb.inB_no (by rw [HL.out]; exact Nat.le_refl _) HO.out)
      have g2 : decide ((k : Int) < (k : Int)) = false := decide_eq_false (by omega)
      have c2 := hbk.cellv (i := 2) rfl
      clear ho hbk hb
      go_wp2
      go_ret
      exact ⟨by rw [HRes.out, HT.out]; rfl, HB.out⟩
end Go.Proofs.Ytlnjfnpoabcllaa
