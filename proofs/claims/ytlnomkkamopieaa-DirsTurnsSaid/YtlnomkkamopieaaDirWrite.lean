/-
  dirs.Write.
-/
import Derived.Test.YtlnomkkamopieaaDirMath
import Derived.Test.YtlnomkkamopieaaDirCopy
import Derived.Test.YtlnomkkamopieaaPathRefN
namespace Go.Proofs.Ytlnomkkamopieaa
open Go.RowKit

def entV (e : Ent) : Value := .agg #[.int .i64 e.i, .string (strL e.nm)]
theorem entV_eq (e : Ent) : entV e = .agg #[.int .i64 e.i, .string (strL e.nm)] := rfl
def entO (e : Ent) : Obj := .cells #[.int .i64 e.i, .string (strL e.nm)] 23
attribute [go_sem] entV_eq
def WriteR (e : Ent) (w : World) (x : Ending) (w' : World) : Prop := (∃ v, x = .returned (.tuple #[v, .int .i64 (Dir.writeE e)]) ∧ Own byteV 5 w' w.heap.size v (Dir.writeL e)) ∧ Below w.heap.size w w'
theorem inode_calls (i : Int) (w : World) : Calls Try.prog 26 #[.int .i64 i] w fun e w' => e = .returned (.bool (Dir.okI i)) ∧ w = w' := by
  unfold Dir.okI
  cases h1 : decide (1 ≤ i)
  all_goals
    go_enter Try.func26, Try.ntmps26
    go_wp2
    go_ret
    exact ⟨rfl, rfl⟩
theorem writeR_bad {e : Ent} {w w' : World} (he : ¬ Dir.writeE e = 0) (hb : Below w.heap.size w w') : WriteR e w (.returned (.tuple #[.slice none 0 0, .int .i64 (Dir.writeE e)])) w' := by
  unfold WriteR Dir.writeL
  rw [if_neg he]
  exact ⟨⟨_, rfl, Own.nil _ _⟩, hb⟩
theorem byte_mod (T : Nat) : Value.int .u8 ((T : Int) % 256) = byteV (UInt8.ofNat T) := by
  unfold byteV
  rw [UInt8.toNat_ofNat']
  exact congrArg (Value.int .u8) (by omega)
theorem byte_low (T : Nat) (h : T < 256) : Value.int .u8 (T : Int) = byteV (UInt8.ofNat T) := by
  unfold byteV
  rw [UInt8.toNat_ofNat', Nat.mod_eq_of_lt h]
theorem byte_div (T : Nat) (h : T < 65536) : Value.int .u8 ((T : Int) / 256) = byteV (UInt8.ofNat (T / 256)) := by
  rw [← byte_low (T / 256) (by omega)]
  exact congrArg (Value.int .u8) (by omega)
set_option maxHeartbeats 2000000 in
theorem write_calls (e : Ent) (w : World) (hn : e.nm.length ≤ 140737488351232) :
    Calls Try.prog 10 #[entV e] w (WriteR e w) := by
  have hbl := Lib.hid ((Below.refl w.heap.size w).alloc (Nat.le_refl _) (entO e))
  by_cases hi : Dir.okI e.i = true
  case neg =>
    have hE : Dir.writeE e = 1 := if_neg hi
    have HB := Lib.hid (fun w' => writeR_bad (w := w) (w' := w') (e := e) (by omega))
    rw [hE] at HB
    have hi2 : Dir.okI e.i = false := by simpa using hi
    obtain ⟨i, nm⟩ := e
    clear hi hE
    go_enter Try.func10, Try.ntmps10
    go_wp2_with fail
    refine (inode_calls i _).mono ?_
    rintro e w_ ⟨rfl, rfl⟩
    rw [hi2]
    go_wp2
    go_ret2
    exact HB.out _ hbl.out
  have hE : Dir.writeE e = Pth.nameE e.nm := if_pos hi
  by_cases hnm : Pth.nameE e.nm = 0
  case neg =>
    have HB := Lib.hid (fun w' => writeR_bad (w := w) (w' := w') (e := e) (by rw [hE]; exact hnm))
    rw [hE] at HB
    obtain ⟨i, nm⟩ := e
    have HN := Lib.hid (fun w => name_calls nm w hn)
    simp only at hnm HB hi
    generalize Pth.nameE nm = E at *
    have g1 : (E == 0) = false := by simpa using hnm
    have g2 : (E != 0) = true := by simpa using hnm
    clear hE hnm
    go_enter Try.func10, Try.ntmps10
    go_wp2_with fail
    refine (inode_calls i _).mono ?_
    rintro e w_ ⟨rfl, rfl⟩
    rw [hi]
    go_wp2_with fail
    refine (HN.out _).mono ?_
    rintro e w_ ⟨rfl, rfl⟩
    go_wp2
    go_ret2
    exact HB.out _ hbl.out
  rw [hnm] at hE
  have HW := Lib.hid (show Dir.writeL e = Dir.slotL e from if_pos hE)
  have HE := Lib.hid hE
  have HN := Lib.hid (fun w => name_calls e.nm w hn)
  rw [hnm] at HN
  obtain ⟨i, nm⟩ := e
  obtain ⟨h1, h2⟩ := Dir.nameE_len hnm
  obtain ⟨h3, h4⟩ := (Dir.okI_iff i).1 hi
  obtain ⟨I, rfl⟩ : ∃ I : Nat, i = I := ⟨i.toNat, by omega⟩
  simp only at h1 h2 h3 h4 hi HN
  have b0 := Lib.hid (Blk.new w 23 #[.int .i64 (I : Int), .string (strL nm)])
  unfold WriteR
  clear hE hnm hn
  have hmk : ∀ u : World, (Instr.makeSlice 24 (.int .i64 16) (.int .i64 16)).run Try.prog u = .ok (.slice (some ⟨u.heap.size, 0, none⟩) 16 16) (u.alloc (.cells (Array.replicate 16 (.int .u8 0)) 5)) := makeZ 16 (by decide)
  go_enter Try.func10, Try.ntmps10
  go_wp2_with fail
  refine (inode_calls _ _).mono ?_
  rintro e w_ ⟨rfl, rfl⟩
  rw [hi]
  go_wp2_with fail
  refine (HN.out _).mono ?_
  rintro e w_ ⟨rfl, rfl⟩
  go_wp2_with fail
  obtain ⟨w1, hw1⟩ : ∃ w1, w1 = (w.alloc (.cells #[.int .i64 (I : Int), .string (strL nm)] 23)).alloc (.cells (Array.replicate 16 (.int .u8 0)) 5) := ⟨_, rfl⟩
  obtain ⟨g, hg⟩ : ∃ g, g = w.heap.size + 1 := ⟨_, rfl⟩
  have b1 := b0.out.alloc (.cells (Array.replicate 16 (.int .u8 0)) 5)
  have ho := ownMadeZ (w.alloc (.cells #[.int .i64 (I : Int), .string (strL nm)] 23)) (w.alloc (.cells #[.int .i64 (I : Int), .string (strL nm)] 23)).heap.size 16 (Nat.le_refl _) (by decide)
  have hb := hbl.out.alloc (by simp [entO]) (.cells (Array.replicate 16 (.int .u8 0)) 5)
  unfold entO at hb
  have hgz : (w.alloc (.cells #[.int .i64 (I : Int), .string (strL nm)] 23)).heap.size = g := by rw [hg]; simp
  rw [hgz] at ho
  rw [← hw1] at b1 ho hb ⊢
  rw [← hg]
  have hne : w.heap.size ≠ g := by omega
  have hgb : w.heap.size ≤ g := by omega
  have hlt := Lib.hid (show w.heap.size < g by omega)
  have e0 := b1.cellv (i := 0) rfl
  have e1 := b1.cellv (i := 1) rfl
  obtain ⟨c0, f0⟩ := ho.cellg (k := 0) (by simp)
  obtain ⟨c1, f1⟩ := ho.cellg (k := 1) (by simp)
  obtain ⟨c2, f2⟩ := ho.cellg (k := 2) (by simp)
  have HO := Lib.hid ho
  have HB := Lib.hid hb
  have B1 := Lib.hid b1
  clear hw1 hg hgz ho hb b1 b0 hbl
  have q3 : (1 : Int) ≤ (I : Int) := h3
  have q4 : (I : Int) ≤ 65535 := h4
  have q5 : IntKind.u8.wrap (I : Int) = (I : Int) % 256 := IntKind.wrap_u8 _
  have q6 : IntKind.u8.wrap ((I : Int) / 256) = (I : Int) / 256 := IntWalk.u8_in _ ⟨by omega, by omega⟩
  have q7 : IntKind.u8.wrap (nm.length : Int) = (nm.length : Int) := IntWalk.u8_in _ ⟨by omega, by omega⟩
  refine wp_region_noPanic ?_
  refine wp_region_held_drew (S := (fun W' => Blk W' w.heap.size 23 #[.int .i64 (I : Int), .string (strL nm)])) (by kernel_rfl) B1.out (fun hS0 => ?_)
  refine takeV 0 (v := .slice (some ⟨g, 0, none⟩) 16 16) rfl (by kernel_rfl) (by kernel_rfl) (by kernel_rfl) (fun _ _ _ h => h) (by rfl) (fun _ _ => rfl) (by assumption) ?_
  try simp only [layR]
  refine takeV 1 (v := .slice (some ⟨g, 0, none⟩) 16 16) rfl (by kernel_rfl) (by kernel_rfl) (by kernel_rfl) (fun _ _ _ h => h) (by rfl) (fun _ _ => rfl) (by assumption) ?_
  try simp only [layR]
  refine takeV 2 (v := .slice (some ⟨g, 0, none⟩) 16 16) rfl (by kernel_rfl) (by kernel_rfl) (by kernel_rfl) (fun _ _ _ h => h) (by rfl) (fun _ _ => rfl) (by assumption) ?_
  try simp only [layR]
  refine takeV 3 (v := .pointer (some ⟨w.heap.size, 0, none⟩)) rfl (by kernel_rfl) (by kernel_rfl) (by kernel_rfl) (fun _ _ _ h => h) (by rfl) (fun W hSw => ?_) (by assumption) ?_
  · go_simp
  try simp only [layR]
  refine takeV 4 (v := .int .i64 (I : Int)) rfl (by kernel_rfl) (by kernel_rfl) (by kernel_rfl) (fun _ _ _ h => h) (by rfl) (fun W hSw => ?_) (by assumption) ?_
  · have r0 := hSw.cellv (i := 0) rfl
    go_simp
  try simp only [layR]
  refine takeV 5 (v := .int .u8 ((I : Int) % 256)) rfl (by kernel_rfl) (by kernel_rfl) (by kernel_rfl) (fun _ _ _ h => h) (by rfl) (fun W hSw => ?_) (by assumption) ?_
  · go_simp
  try simp only [layR]
  refine takeV 6 (v := .pointer (some ⟨w.heap.size, 0, none⟩)) rfl (by kernel_rfl) (by kernel_rfl) (by kernel_rfl) (fun _ _ _ h => h) (by rfl) (fun W hSw => ?_) (by assumption) ?_
  · go_simp
  try simp only [layR]
  refine takeV 7 (v := .int .i64 (I : Int)) rfl (by kernel_rfl) (by kernel_rfl) (by kernel_rfl) (fun _ _ _ h => h) (by rfl) (fun W hSw => ?_) (by assumption) ?_
  · have r0 := hSw.cellv (i := 0) rfl
    go_simp
  try simp only [layR]
  refine takeV 8 (v := .int .i64 ((I : Int) / 256)) rfl (by kernel_rfl) (by kernel_rfl) (by kernel_rfl) (fun _ _ _ h => h) (by rfl) (fun W hSw => ?_) (by assumption) ?_
  · go_simp
  try simp only [layR]
  refine takeV 9 (v := .int .u8 ((I : Int) / 256)) rfl (by kernel_rfl) (by kernel_rfl) (by kernel_rfl) (fun _ _ _ h => h) (by rfl) (fun W hSw => ?_) (by assumption) ?_
  · go_simp
  try simp only [layR]
  refine takeV 10 (v := .pointer (some ⟨w.heap.size, 1, none⟩)) rfl (by kernel_rfl) (by kernel_rfl) (by kernel_rfl) (fun _ _ _ h => h) (by rfl) (fun W hSw => ?_) (by assumption) ?_
  · go_simp
  try simp only [layR]
  refine takeV 11 (v := .string (strL nm)) rfl (by kernel_rfl) (by kernel_rfl) (by kernel_rfl) (fun _ _ _ h => h) (by rfl) (fun W hSw => ?_) (by assumption) ?_
  · have r1 := hSw.cellv (i := 1) rfl
    go_simp
  try simp only [layR]
  refine takeV 12 (v := .int .i64 nm.length) rfl (by kernel_rfl) (by kernel_rfl) (by kernel_rfl) (fun _ _ _ h => h) (by rfl) (fun W hSw => ?_) (by assumption) ?_
  · go_simp
  try simp only [layR]
  refine takeV 13 (v := .int .u8 nm.length) rfl (by kernel_rfl) (by kernel_rfl) (by kernel_rfl) (fun _ _ _ h => h) (by rfl) (fun W hSw => ?_) (by assumption) ?_
  · go_simp
  try simp only [layR]
  refine takeV 14 (v := .pointer (some ⟨g, 0, none⟩)) rfl (by kernel_rfl) (by kernel_rfl) (by kernel_rfl) (fun _ _ _ h => h) (by rfl) (fun W hSw => ?_) (by assumption) ?_
  · go_simp
  try simp only [layR]
  refine wpAnyH_ready (rs := [15]) (by kernel_rfl) (by simp) ?_
  refine AllReadyH.cons rfl (fun K' hK => ?_) AllReadyH.nil
  go_simp
  have bs1 := B1.out.far (p := ⟨g, 0, none⟩) hne (.int .u8 ((I : Int) % 256))
  refine hK.out _ _ bs1 (fun hS1 => ?_)
  try simp only [layR]
  refine takeV 16 (v := .pointer (some ⟨g, 1, none⟩)) rfl (by kernel_rfl) (by kernel_rfl) (by kernel_rfl) (fun _ _ _ h => h) (by rfl) (fun W hSw => ?_) (by assumption) ?_
  · go_simp
  try simp only [layR]
  refine wpAnyH_ready (rs := [17]) (by kernel_rfl) (by simp) ?_
  refine AllReadyH.cons rfl (fun K' hK => ?_) AllReadyH.nil
  go_simp
  have bs2 := bs1.far (p := ⟨g, 1, none⟩) hne (.int .u8 ((I : Int) / 256))
  refine hK.out _ _ bs2 (fun hS2 => ?_)
  try simp only [layR]
  refine takeV 18 (v := .pointer (some ⟨g, 2, none⟩)) rfl (by kernel_rfl) (by kernel_rfl) (by kernel_rfl) (fun _ _ _ h => h) (by rfl) (fun W hSw => ?_) (by assumption) ?_
  · go_simp
  try simp only [layR]
  refine wpAnyH_ready (rs := [19]) (by kernel_rfl) (by simp) ?_
  refine AllReadyH.cons rfl (fun K' hK => ?_) AllReadyH.nil
  go_simp
  have bs3 := bs2.far (p := ⟨g, 2, none⟩) hne (.int .u8 (nm.length : Int))
  refine hK.out _ _ bs3 (fun hS3 => ?_)
  try simp only [layR]
  refine wpAnyH_done (by kernel_rfl) ?_ _
  refine NoPanic.normal ?_
  have hset := ((HO.out.set 0 (UInt8.ofNat I)).set 1 (UInt8.ofNat (I / 256))).set 2 (UInt8.ofNat nm.length)
  rw [← byte_mod, ← byte_div I (by omega), ← byte_low nm.length (by omega)] at hset
  have hb3 := ((HB.out.setCell (p := ⟨g, 0, none⟩) hgb (.int .u8 ((I : Int) % 256))).setCell (p := ⟨g, 1, none⟩) hgb (.int .u8 ((I : Int) / 256))).setCell (p := ⟨g, 2, none⟩) hgb (.int .u8 (nm.length : Int))
  obtain ⟨w2, hw2⟩ : ∃ w2, w2 = (((w1.setCell ⟨g, 0, none⟩ (.int .u8 ((I : Int) % 256))).setCell ⟨g, 1, none⟩ (.int .u8 ((I : Int) / 256))).setCell ⟨g, 2, none⟩ (.int .u8 (nm.length : Int))).drew := ⟨_, rfl⟩
  rw [← hw2]
  have HO2 : Own byteV 5 w2 g (.slice (some ⟨g, 0, none⟩) 16 16) (UInt8.ofNat I :: UInt8.ofNat (I / 256) :: UInt8.ofNat nm.length :: List.replicate 13 0) := by rw [hw2]; exact hset
  have HB2 : Below w.heap.size w w2 := by rw [hw2]; exact hb3.drew
  have BS2 : Blk w2 w.heap.size 23 #[.int .i64 (I : Int), .string (strL nm)] := by rw [hw2]; exact bs3
  have H2 := Lib.hid HO2
  have HB2' := Lib.hid HB2
  have BS2' := Lib.hid BS2
  clear hw2 hset hb3 bs1 bs2 bs3 hS1 hS2 hS3 hS0 c0 c1 c2 f0 f1 f2 e0 e1 HO HB B1 HO2 HB2 BS2
  go_wp2_with fail
  refine wp_region_noPanic ?_
  refine wp_region_held_drew (S := (fun W' => Blk W' w.heap.size 23 #[.int .i64 (I : Int), .string (strL nm)])) (by kernel_rfl) BS2'.out (fun hS0 => ?_)
  refine takeV 0 (v := .slice (some ⟨g, 0, none⟩) 16 16) rfl (by kernel_rfl) (by kernel_rfl) (by kernel_rfl) (fun _ _ _ h => h) (by rfl) (fun _ _ => rfl) (by assumption) ?_
  try simp only [layR]
  refine takeV 1 (v := .slice (some ⟨g, 3, none⟩) 13 13) rfl (by kernel_rfl) (by kernel_rfl) (by kernel_rfl) (fun _ _ _ h => h) (by rfl) (fun W hSw => ?_) (by assumption) ?_
  · go_simp
  try simp only [layR]
  refine takeV 2 (v := .pointer (some ⟨w.heap.size, 1, none⟩)) rfl (by kernel_rfl) (by kernel_rfl) (by kernel_rfl) (fun _ _ _ h => h) (by rfl) (fun W hSw => ?_) (by assumption) ?_
  · go_simp
  try simp only [layR]
  refine takeV 3 (v := .string (strL nm)) rfl (by kernel_rfl) (by kernel_rfl) (by kernel_rfl) (fun _ _ _ h => h) (by rfl) (fun W hSw => ?_) (by assumption) ?_
  · have r1 := hSw.cellv (i := 1) rfl
    go_simp
  try simp only [layR]
  refine wpAnyH_ready (rs := [4]) (by kernel_rfl) (by simp) ?_
  refine AllReadyH.cons rfl (fun K' hK => ?_) AllReadyH.nil
  refine step_copyS rfl (.tmp 35) (.tmp 37) rfl g g 16 16 3 13 13 _ rfl H2.out nm rfl (by omega) (by omega) ?_
  intro w3 HO3 HB3
  refine hK.out _ _ (BS2'.out.drew.below HB3.out hlt.out) (fun hS4 => ?_)
  try simp only [layR]
  refine wpAnyH_done (by kernel_rfl) ?_ _
  refine NoPanic.normal ?_
  go_wp2
  go_ret2
  rw [HE.out]
  refine ⟨⟨_, rfl, ?_⟩, ?_⟩
  · rw [HW.out]
    have ho3 := HO3.out.mono hgb
    have e : (UInt8.ofNat I :: UInt8.ofNat (I / 256) :: UInt8.ofNat nm.length :: List.replicate 13 (0 : UInt8)).take 3 ++ nm ++ (UInt8.ofNat I :: UInt8.ofNat (I / 256) :: UInt8.ofNat nm.length :: List.replicate 13 (0 : UInt8)).drop (3 + nm.length) = Dir.slotL ⟨(I : Int), nm⟩ := by
      have hd : (UInt8.ofNat I :: UInt8.ofNat (I / 256) :: UInt8.ofNat nm.length :: List.replicate 13 (0 : UInt8)).drop (3 + nm.length) = List.replicate (13 - nm.length) 0 := by
        rw [← List.drop_drop]
        show (List.replicate 13 (0 : UInt8)).drop nm.length = _
        rw [List.drop_replicate]
      rw [hd]
      rfl
    rw [e] at ho3
    exact ho3
  · exact HB2'.out.drew.trans (HB3.out.mono hgb)
end Go.Proofs.Ytlnomkkamopieaa
