/-
  Rows of entries: what they read as, append; the reference's Find.
-/
import Derived.Test.YtlnomkkamopieaaDirTurnM
import Derived.Test.YtlnomkkamopieaaDirTop
import Derived.Test.YtlnomkkamopieaaMany
import Derived.Deep.QuietTactic
import Derived.BigQuiet
namespace Go.Proofs.Ytlnomkkamopieaa
open Go.RowKit

def encE (e : Ent) : List Value := [.int .i64 e.i, .string (strL e.nm)]
theorem encE_len (e : Ent) : (encE e).length = 2 := rfl
abbrev EntsA := ArrM 2 encE
abbrev EntsO := OwnM 2 encE 23
theorem infoEnt : (Try.prog.info? 23).map (fun i => (i.zero, i.size, i.bytes)) = some (some (.agg #[.int .i64 0, .string ByteArray.empty]), 2, 24) := by kernel_rfl
theorem encE_one : ∀ (x : Ent), ∀ u ∈ encE x, u.oneCell' = true := fun x u hu => by
  simp only [encE, List.mem_cons, List.not_mem_nil, or_false] at hu
  rcases hu with rfl | rfl <;> rfl
theorem EntsA.cells {w : World} {B : Nat} {a : Option Addr} {n : Nat} {l : List Ent} (h : EntsA w B a n l) {k : Nat} (hk : k < n) :
    ∃ b o, ∃ h' : k < l.length, a = some ⟨b, o, none⟩ ∧ b < B ∧ w.cell? ⟨b, o + k * 2, none⟩ = some (.int .i64 l[k].i) ∧ w.cell? ⟨b, o + k * 2 + 1, none⟩ = some (.string (strL l[k].nm)) := by
  obtain ⟨b, o, h', ha, hb, hr⟩ := h.atv hk
  exact ⟨b, o, h', ha, hb, hr 0 _ rfl, hr 1 _ rfl⟩
section
variable {w : World} {ops : Array Oper} {rest : List Oper} {o : Oper} {ac : Act} {Q : Exit → Act → World → Prop}
/-- append of a row of entries onto a row of the call's own. -/
theorem wpList_ontoE (hgd : o.guard = none) (s x : Operand) (ho : o.op = .call { callee := .builtin .append, args := #[s, x], argTypes := #[37, 37] }) (base : Nat)
    (v : Value) (xs : List Ent) (hs : ac.eval s = v) (hown : EntsO w base v xs) (B : Nat) (a : Option Addr) (m c : Nat) (ys : List Ent) (hx : ac.eval x = .slice a m c) (hy : EntsA w B a m ys)
    (hbytes : xs.length + m ≤ 1000000000) (hbase : base ≤ w.heap.size)
    (h : ∀ v' w', Hid (EntsO w' base v' (xs ++ ys)) → Hid (Below base w w') → Hid (∀ g t cs', Blk w g t cs' → v.ownBlock ≠ some g → Blk w' g t cs') → wpList Try.prog ops Q rest (ac.put o.dst v') w') : wpList Try.prog ops Q (o :: rest) ac w := by
  obtain ⟨i0, hi, hz0, hz1, hz2⟩ := info_parts infoEnt
  exact wpList_append_OwnM hgd s x 37 ho base 23 i0 _ 24 Try.underlying37 hi hz0 hz1 hz2 rfl (by decide) encE_one v xs hs hown B a m c ys hx hy (by omega) (by simp only [maxLen]; omega) hbase fun v' w' h1 h2 _ =>
    h v' w' (Lib.hid h1) (Lib.hid (below_ownM (Below.refl base _) hown h2 hbase)) (Lib.hid (fun g t cs' hb hne => hb.grown h2 (fun e => hne e.symm)))
theorem wpList_litE {cs : Array Value} (hgd : o.guard = none) (s x : Operand) (ho : o.op = .call { callee := .builtin .append, args := #[s, x], argTypes := #[37, 37] }) (base : Nat)
    (v : Value) (xs : List Ent) (hs : ac.eval s = v) (hown : EntsO w base v xs) (y : Ent) (g : Nat) (hx : ac.eval x = .slice (some ⟨g, 0, none⟩) 1 1) (hg : g = w.heap.size) (hcs : cs = (encE y).toArray)
    (hbytes : xs.length ≤ 900000000) (hbase : base ≤ w.heap.size)
    (h : ∀ v' w', Hid (EntsO w' base v' (xs ++ [y])) → Hid (Below base w w') → wpList Try.prog ops Q rest (ac.put o.dst v') w') : wpList Try.prog ops Q (o :: rest) ac (w.alloc (.cells cs 23)) := by
  subst hg
  exact wpList_ontoE hgd s x ho base v xs hs (hown.alloc _) _ _ 1 1 [y] hx (ArrM.lit1 w 23 y hcs) (by omega) (by simp; omega) fun v' w' h1 h2 _ =>
    h v' w' h1 (Lib.hid (((Below.refl base w).alloc hbase _).trans h2.out))
end
set_option maxHeartbeats 1000000 in
theorem refFind_calls (a : Option Addr) (n c : Nat) (l : List Ent) (nm : List UInt8) (w : World) (hx : EntsA w w.heap.size a n l) :
    Calls Try.prog 36 #[.slice a n c, .string (strL nm)] w fun e w' => e = .returned (.int .i64 (Dir.findA l nm)) ∧ w = w' := by
  have hroom := hx.room
  have hl := hx.len
  have HX := Lib.hid hx
  have HL := Lib.hid hl
  have HF := Lib.hid (show Dir.findA l nm = Dir.findL l nm (n - 0) by unfold Dir.findA; rw [hl]; rfl)
  generalize Dir.findA l nm = F at *
  clear hx hl
  go_enter Try.func36, Try.ntmps36
  go_wp2
  go_loop [5] (fun s => ∃ k : Nat, k ≤ n ∧ s = .int .i64 (k : Int) ∧ F = Dir.findL l nm (n - k)) (fun s => n - (intOf s).toNat)
  case atStart => exact ⟨0, by omega, rfl, HF.out⟩
  case round =>
    obtain ⟨k, hk, rfl, hf⟩ := hrel
    have HFk := Lib.hid hf
    clear hf
    by_cases hlt : k < n
    · obtain ⟨b1, o1, hk1, rfl, _, k1, k2⟩ := HX.out.cells hlt
      have hfa := Dir.findL_at (nm := nm) hk1
      rw [HL.out] at hfa
      have HFA := Lib.hid (HFk.out.trans hfa)
      clear hfa
      generalize l[k] = e at *
      obtain ⟨ei, en⟩ := e
      dsimp only at *
      by_cases h0 : 0 < ei
      · have g1 : decide (0 < ei) = true := decide_eq_true h0
        by_cases hn : en = nm
        · subst hn
          have g2 : (en == en) = true := by simp
          rw [if_pos ⟨h0, rfl⟩] at HFA
          clear h0
          go_wp2
          go_ret
          exact ⟨by rw [HFA.out]; rfl, rfl⟩
        · have g2 : (en == nm) = false := by simpa using hn
          rw [if_neg (fun h => hn h.2)] at HFA
          clear h0 hn
          go_wp2
          go_round
          case rel => exact ⟨k + 1, by omega, by go_num, HFA.out⟩
          case measure => simp [intOf]; omega
      · have g1 : decide (0 < ei) = false := decide_eq_false h0
        rw [if_neg (fun h => h0 h.1)] at HFA
        clear h0
        go_wp2
        go_round
        case rel => exact ⟨k + 1, by omega, by go_num, HFA.out⟩
        case measure => simp [intOf]; omega
    · obtain rfl : k = n := by omega
      have hr := Lib.hid (show F = -1 by rw [HFk.out, Nat.sub_self]; rfl)
      go_wp2
      go_ret
      exact ⟨by rw [hr.out]; rfl, rfl⟩
end Go.Proofs.Ytlnomkkamopieaa
