/-
  The law file's long and known.
-/
import Derived.Test.YtnahmhjkbdplpaaTagWrite2
import Derived.Test.YtnahmhjkbdplpaaTagRead
import Derived.Test.YtnahmhjkbdplpaaTagMath2
import Derived.Test.YtnahmhjkbdplpaaNumSame
namespace Go.Proofs.Ytnahmhjkbdplpaa
open Go.RowKit

theorem tlong_calls (a : Option Addr) (n c : Nat) (w : World) :
    Calls Try.prog 9 #[.slice a n c] w fun e w' => e = .returned (.bool (decide (2000 < n))) ∧ w = w' := by
  go_enter Try.func9, Try.ntmps9
  go_wp2
  go_ret
  exact ⟨congrArg (fun z => Ending.returned (Value.bool z)) (by simp; omega), rfl⟩
namespace Tg
def one : Tg := ⟨1, 3, 5, 2⟩
theorem one_right : Right one := by decide
theorem pay_fits : Fits (List.replicate 64 (0 : UInt8)).length := by decide
theorem one_E : writeE one (List.replicate 64 0) = 0 := by unfold writeE; rw [if_pos ⟨one_right, pay_fits⟩]
theorem one_L : writeL one (List.replicate 64 0) = page one (List.replicate 64 0) := by unfold writeL; rw [if_pos ⟨one_right, pay_fits⟩]
theorem one_len : (page one (List.replicate 64 0)).length = 96 := by rw [page_len]; rfl
theorem one_64 (h : 64 < (page one (List.replicate 64 0)).length) : (page one (List.replicate 64 0))[64] = 67 := by
  have h1 := page_at (t := one) (pay := List.replicate 64 0) 0 (by omega)
  rw [beside_first, List.length_replicate, Nat.add_zero, List.getElem?_eq_getElem h] at h1
  exact Option.some.inj h1
theorem one_68 (h : 68 < (page one (List.replicate 64 0)).length) : (page one (List.replicate 64 0))[68] = 3 := by
  have h1 := page_at (t := one) (pay := List.replicate 64 0) 4 (by omega)
  have h2 : (beside one (List.replicate 64 0))[4]? = some 3 := by
    rw [beside, List.append_assoc, List.getElem?_append_left (by rw [head_len]; omega)]
    decide
  rw [h2, List.length_replicate, List.getElem?_eq_getElem h] at h1
  exact Option.some.inj h1
theorem zeros_torn : readT (List.replicate 96 0) = zero ∧ readP (List.replicate 96 0) = [] ∧ readE (List.replicate 96 0) = 21 := by
  refine rd_torn (m := 64) (by simp) (by decide) (by decide) (fun h => ?_)
  have h1 := h.1
  rw [List.drop_replicate, num, List.drop_zero, List.take_replicate] at h1
  exact absurd h1 (by decide)
end Tg
theorem tmake64 (u : World) : (Instr.makeSlice 26 (.int .i64 64) (.int .i64 64)).run Try.prog u = .ok (.slice (some ⟨u.heap.size, 0, none⟩) 64 64) (u.alloc (.cells (Array.replicate 64 (.int .u8 0)) 5)) := makeZ 64 (by omega) u
theorem tmake96 (u : World) : (Instr.makeSlice 26 (.int .i64 96) (.int .i64 96)).run Try.prog u = .ok (.slice (some ⟨u.heap.size, 0, none⟩) 96 96) (u.alloc (.cells (Array.replicate 96 (.int .u8 0)) 5)) := makeZ 96 (by omega) u
set_option maxHeartbeats 4000000 in
theorem tknown_calls (w : World) :
    Calls Try.prog 10 #[] w fun e w' => e = .returned (.bool true) ∧ Below w.heap.size w w' := by
  have hm1 := tmake64
  have hm2 := tmake96
  have ho1 := ownMadeZ w w.heap.size 64 (Nat.le_refl _) (by omega)
  have hx1 := Lib.hid (ho1.arr (by simp))
  have hb1 := Lib.hid ((Below.refl w.heap.size w).alloc (Nat.le_refl _) (.cells (Array.replicate 64 (.int .u8 0)) 5))
  clear ho1
  go_enter Try.func10, Try.ntmps10
  go_wp2_with fail
  refine (twrite_calls Tg.one _ 64 64 (List.replicate 64 0) _ ⟨by decide, by decide, by decide⟩ hx1.out).mono ?_
  rintro e w2 ⟨v, rfl, ho, hb⟩
  rw [Tg.one_E]
  rw [Tg.one_L] at ho
  obtain ⟨g2, c2, rfl, hc2, _, hg2⟩ := ho.form_some (by rw [Tg.one_len]; omega)
  rw [Tg.one_len] at hc2 ⊢
  rw [show (.slice (some ⟨g2, 0, none⟩) (Tg.page Tg.one (List.replicate 64 0)).length c2 : Value) = .slice (some ⟨g2, 0, none⟩) 96 c2 by rw [Tg.one_len]] at ho
  have HO2 := Lib.hid ho
  have HB2 := Lib.hid (Below.then_ hb1.out hb)
  have q64 := Lib.hid (ho.cellg (k := 64) (by rw [Tg.one_len]; omega)).1
  have q68 := Lib.hid (ho.cellg (k := 68) (by rw [Tg.one_len]; omega)).1
  have HX2 := Lib.hid (ho.arr (by rw [Tg.one_len]; omega))
  clear ho hb hm1
  go_wp2_with fail
  refine (tread_calls _ 96 c2 _ _ HX2.out hc2).mono ?_
  rintro e w3 ⟨a3, n3, c3, rfl, hx3, hc3, hb⟩
  obtain ⟨r1, r2, r3⟩ := Tg.read_page Tg.one_right Tg.pay_fits
  have e1 : tagV (Tg.readT (Tg.page Tg.one (List.replicate 64 0))) = .agg #[.int .i64 1, .int .u32 3, .int .u64 5, .int .u64 2] := by rw [r1]; rfl
  rw [e1, r3]
  rw [r2] at hx3
  have hn3 := hx3.len
  rw [List.length_replicate] at hn3
  subst hn3
  have HB3 := Lib.hid (Below.then_ HB2.out hb)
  have p64 := Lib.hid ((hb.cell (p := ⟨g2, 64, none⟩) hg2).trans q64.out)
  have p68 := Lib.hid ((hb.cell (p := ⟨g2, 68, none⟩) hg2).trans q68.out)
  have hs3 := hb.size
  clear hb r1 r2 r3 hx3 e1 hc3
  have bt4 := Blk.new w3 25 #[.int .i64 1, .int .u32 3, .int .u64 5, .int .u64 2]
  have hb4 := (Below.refl w3.heap.size w3).alloc (Nat.le_refl _) (.cells #[.int .i64 1, .int .u32 3, .int .u64 5, .int .u64 2] 25)
  have ho5 := ownMadeZ (w3.alloc (.cells #[.int .i64 1, .int .u32 3, .int .u64 5, .int .u64 2] 25)) w3.heap.size 96 (by simp) (by omega)
  have bt5 := bt4.alloc (.cells (Array.replicate 96 (.int .u8 0)) 5)
  have hb5 := hb4.alloc hb4.size (.cells (Array.replicate 96 (.int .u8 0)) 5)
  have hx5 := ho5.arr (by simp)
  rw [show (w3.alloc (.cells #[.int .i64 1, .int .u32 3, .int .u64 5, .int .u64 2] 25)).heap.size = w3.heap.size + 1 by simp] at hx5
  have HX5 := Lib.hid hx5
  have BT5 := Lib.hid bt5
  have HB5 := Lib.hid (hb5)
  clear bt4 hb4 ho5 bt5 hb5 hx5
  go_wp2_with fail
  refine (tread_calls _ 96 96 _ _ HX5.out (Nat.le_refl _)).mono ?_
  rintro e w6 ⟨a6, n6, c6, rfl, _, _, hb⟩
  have e6 : tagV (Tg.readT (List.replicate 96 0)) = .agg #[.int .i64 0, .int .u32 0, .int .u64 0, .int .u64 0] := by rw [Tg.zeros_torn.1]; rfl
  rw [e6, Tg.zeros_torn.2.2]
  clear e6
  have BT6 := Lib.hid (BT5.out.belowHere hb)
  have HB6 := Lib.hid (HB5.out.trans (hb.mono HB5.out.size))
  have r64 := (HB6.out.cell (p := ⟨g2, 64, none⟩) (show g2 < w3.heap.size by omega)).trans p64.out
  have r68 := (HB6.out.cell (p := ⟨g2, 68, none⟩) (show g2 < w3.heap.size by omega)).trans p68.out
  rw [Tg.one_64] at r64
  rw [Tg.one_68] at r68
  have r64' : w6.cell? ⟨g2, 64, none⟩ = some (.int .u8 67) := r64
  have r68' : w6.cell? ⟨g2, 68, none⟩ = some (.int .u8 3) := r68
  have c0 := BT6.out.cellv (i := 0) rfl
  have c1 := BT6.out.cellv (i := 1) rfl
  have c2 := BT6.out.cellv (i := 2) rfl
  have c3 := BT6.out.cellv (i := 3) rfl
  have hlt := BT6.out.lt
  have hg6 : g2 < w6.heap.size := by have := HB6.out.size; omega
  have HFIN := Lib.hid (Below.then_ HB3.out HB6.out)
  clear hb r64 r68 hm2 hs3
  go_wp2
  go_ret
  exact ⟨rfl, HFIN.out.alloc (by have := HFIN.out.size; omega) _⟩
end Go.Proofs.Ytnahmhjkbdplpaa
