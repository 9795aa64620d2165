/-
  The reference's Write.
-/
import Derived.Test.YtlnomkkamopieaaDirWrite
namespace Go.Proofs.Ytlnomkkamopieaa
open Go.RowKit

/-- A slice value's length. -/
def lenV : Value → Nat
  | .slice _ n _ => n
  | _ => 0
set_option maxHeartbeats 2000000 in
theorem refWrite_calls (e : Ent) (w : World) (hn : e.nm.length ≤ 140737488351232) :
    Calls Try.prog 11 #[entV e] w (WriteR e w) := by
  have hbl := Lib.hid ((Below.refl w.heap.size w).alloc (Nat.le_refl _) (entO e))
  by_cases hi : Dir.okI e.i = true
  case neg =>
    have hE : Dir.writeE e = 1 := if_neg hi
    have HB := Lib.hid (fun w' => writeR_bad (w := w) (w' := w') (e := e) (by omega))
    rw [hE] at HB
    rw [Dir.okI_iff] at hi
    obtain ⟨i, nm⟩ := e
    simp only at hi
    clear hE
    have hc : decide (i < 1) = true ∨ (decide (i < 1) = false ∧ decide (65535 < i) = true) := by
      by_cases h : i < 1
      · exact .inl (decide_eq_true h)
      · exact .inr ⟨decide_eq_false h, decide_eq_true (by omega)⟩
    clear hi
    rcases hc with g1 | ⟨g1, g2⟩
    all_goals
      go_enter Try.func11, Try.ntmps11
      go_wp2
      go_ret2
      exact HB.out _ hbl.out
  have hE : Dir.writeE e = Pth.nameE e.nm := if_pos hi
  have hi' := (Dir.okI_iff e.i).1 hi
  have g1 : decide (e.i < 1) = false := decide_eq_false (by omega)
  have g2 : decide (65535 < e.i) = false := decide_eq_false (by omega)
  by_cases hnm : Pth.nameE e.nm = 0
  case neg =>
    have h31 : Pth.nameE e.nm = 31 := by
      unfold Pth.nameE at hnm ⊢
      split
      · rename_i h; rw [if_pos h] at hnm; exact absurd rfl hnm
      · rfl
    have HB := Lib.hid (fun w' => writeR_bad (w := w) (w' := w') (e := e) (by rw [hE]; exact hnm))
    rw [hE, h31] at HB
    obtain ⟨i, nm⟩ := e
    have HN := Lib.hid (fun w => refName_calls nm w hn)
    simp only at hnm HB hi h31 g1 g2
    rw [h31] at HN
    clear hE hnm hi' hi h31
    go_enter Try.func11, Try.ntmps11
    go_wp2_with fail
    refine (HN.out _).mono ?_
    rintro e w_ ⟨rfl, rfl⟩
    go_wp2
    go_ret2
    exact HB.out _ hbl.out
  rw [hnm] at hE
  have HW := Lib.hid (show Dir.writeL e = Dir.slotL e from if_pos hE)
  have HE := Lib.hid hE
  have HN := Lib.hid (fun w => refName_calls e.nm w hn)
  rw [hnm] at HN
  obtain ⟨i, nm⟩ := e
  obtain ⟨h1, h2⟩ := Dir.nameE_len hnm
  obtain ⟨h3, h4⟩ := (Dir.okI_iff i).1 hi
  obtain ⟨I, rfl⟩ : ∃ I : Nat, i = I := ⟨i.toNat, by omega⟩
  simp only at h1 h2 h3 h4 hi HN g1 g2
  have b0 := Lib.hid (Blk.new w 23 #[.int .i64 (I : Int), .string (strL nm)])
  have q5 : IntKind.u8.wrap ((I : Int) % 256) = (I : Int) % 256 := IntWalk.u8_in _ ⟨by omega, by omega⟩
  have q6 : IntKind.u8.wrap ((I : Int) / 256) = (I : Int) / 256 := IntWalk.u8_in _ ⟨by omega, by omega⟩
  have q7 : IntKind.u8.wrap (nm.length : Int) = (nm.length : Int) := IntWalk.u8_in _ ⟨by omega, by omega⟩
  have q8 : (I : Int).tmod 256 = (I : Int) % 256 := Int.tmod_eq_emod_of_nonneg (by omega)
  have q9 : (I : Int).tdiv 256 = (I : Int) / 256 := Int.tdiv_eq_ediv_of_nonneg (by omega)
  have hlit := Lib.hid (show #[Value.int .u8 ((I : Int) % 256), Value.int .u8 ((I : Int) / 256), Value.int .u8 (nm.length : Int)] = ([UInt8.ofNat I, UInt8.ofNat (I / 256), UInt8.ofNat nm.length].map byteV).toArray by
    rw [byte_mod, byte_div I (by omega), byte_low nm.length (by omega)]; rfl)
  unfold WriteR
  clear hE hnm hn
  go_enter Try.func11, Try.ntmps11
  go_wp2_with fail
  refine (HN.out _).mono ?_
  rintro e w_ ⟨rfl, rfl⟩
  go_wp2_with fail
  rw [hlit.out]
  go_loopw [4, 5] (fun o i wr => ∃ k : Nat, k ≤ nm.length ∧ i = .int .i64 k ∧ Own byteV 5 wr (w.heap.size + 1) o ([UInt8.ofNat I, UInt8.ofNat (I / 256), UInt8.ofNat nm.length] ++ nm.take k) ∧ Blk wr w.heap.size 23 #[.int .i64 (I : Int), .string (strL nm)] ∧ Below w.heap.size w wr) (fun _ i _ => nm.length - (intOf i).toNat)
  case atStart =>
    refine ⟨0, by omega, rfl, ?_, b0.out.alloc _, hbl.out.alloc (by simp [entO]) _⟩
    rw [List.take_zero, List.append_nil]
    exact Own.made_at (f := byteV) (by simp) rfl (by simp) (by decide)
  case round =>
    obtain ⟨k, hk, rfl, ho, bk, hb⟩ := hrel
    have HO := Lib.hid ho
    have BK := Lib.hid bk
    have HB := Lib.hid hb
    have e1 := bk.cellv (i := 1) rfl
    have hlt := bk.lt
    clear ho bk hb
    by_cases hlt2 : k < nm.length
    · have hbyte := Lib.hid (show #[Value.int .u8 (nm[k].toNat : Int)] = ([nm[k]].map byteV).toArray from rfl)
      have hsn := Lib.hid (List.take_succ_eq_append_getElem hlt2)
      go_wp2_with (at_builtin; refine wpList_litB rfl _ _ rfl (w.heap.size + 1) _ _ rfl HO.out 1 [nm[k]] rfl rfl hbyte.out (by simp; omega) (by omega) ?_; intro v2 w2 HO2 hb2)
      go_roundw
      case rel =>
        refine ⟨k + 1, by omega, by go_num, ?_, BK.out.below hb2.out (by omega), HB.out.trans (hb2.out.mono (by omega))⟩
        rw [hsn.out, ← List.append_assoc]
        exact HO2.out
      case measure => simp [intOf]; omega
    · obtain rfl : k = nm.length := by omega
      rw [List.take_length] at HO
      obtain ⟨a1, c1, rfl, _⟩ := HO.out.formN (n := 3 + nm.length) (by simp; omega)
      go_wp2_with fail
      go_loopw [4] (fun o wr2 => ∃ k : Nat, k ≤ 13 - nm.length ∧ Own byteV 5 wr2 (w.heap.size + 1) o ([UInt8.ofNat I, UInt8.ofNat (I / 256), UInt8.ofNat nm.length] ++ nm ++ List.replicate k 0) ∧ Below w.heap.size w wr2 ∧ w.heap.size < wr2.heap.size) (fun o _ => 16 - lenV o)
      case atStart => exact ⟨0, by omega, by simpa using HO.out, HB.out, hlt⟩
      case round =>
        obtain ⟨k, hk, ho, hb, hlt3⟩ := hrel
        obtain ⟨a2, c2, rfl, _⟩ := ho.formN (n := 3 + nm.length + k) (by simp; omega)
        have HO3 := Lib.hid ho
        have HB3 := Lib.hid hb
        clear ho hb
        by_cases hlt4 : k < 13 - nm.length
        · have g3 : decide (((3 + nm.length + k : Nat) : Int) < 16) = true := decide_eq_true (by omega)
          go_wp2_with (at_builtin; refine wpList_litB rfl _ _ rfl (w.heap.size + 1) _ _ rfl HO3.out 1 [0] rfl rfl rfl (by simp; omega) (by omega) ?_; intro v2 w2 HO2 hb2)
          go_roundw
          case rel =>
            refine ⟨k + 1, by omega, ?_, HB3.out.trans (hb2.out.mono (by omega)), Nat.lt_of_lt_of_le hlt3 hb2.out.size⟩
            have h := HO2.out
            rw [List.append_assoc, ← List.replicate_succ'] at h
            exact h
          case measure =>
            obtain ⟨a3, c3, rfl, _⟩ := HO2.out.formN (n := 3 + nm.length + k + 1) (by simp; omega)
            simp [lenV]; omega
        · obtain rfl : k = 13 - nm.length := by omega
          have g3 : decide (((3 + nm.length + (13 - nm.length) : Nat) : Int) < 16) = false := decide_eq_false (by omega)
          go_wp2
          go_ret2
          rw [HE.out, HW.out]
          exact ⟨⟨_, rfl, HO3.out.mono (by omega)⟩, HB3.out⟩
end Go.Proofs.Ytlnomkkamopieaa
