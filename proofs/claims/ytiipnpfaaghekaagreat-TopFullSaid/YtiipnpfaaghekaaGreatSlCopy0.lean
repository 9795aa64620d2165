/-
  copy at bytes, into a slice of the call's own.
-/
/-
  copy at bytes, to the beginning of a slice of the call's own, however long the source.
-/
import Derived.Test.YtiipnpfaaghekaaGreatBytes
import Derived.Laws.CopyOwn
namespace Go.Proofs.YtiipnpfaaghekaaGreat
open Go.RowKit

theorem splice_take {α : Type} (L : List α) (off n : Nat) (cs : List α) (h : off + cs.length ≤ n) (hn : n ≤ L.length) : (splice L off cs).take n = (L.take n).take off ++ cs ++ (L.take n).drop (off + cs.length) := by
  have hX : (L.take n).length = n := by rw [List.length_take]; omega
  have hL : L = L.take n ++ L.drop n := (List.take_append_drop n L).symm
  have h1 : L.take off = (L.take n).take off := by rw [List.take_take, Nat.min_eq_left (by omega)]
  have h2 : L.drop (off + cs.length) = (L.take n).drop (off + cs.length) ++ L.drop n := by
    conv => lhs; rw [hL]
    rw [List.drop_append_of_le_length (by omega)]
  unfold splice
  rw [h1, h2]
  generalize L.take n = X at *
  generalize L.drop n = R at *
  rw [← List.append_assoc, ← List.append_assoc, List.take_append_of_le_length (by simp only [List.length_append, List.length_take, List.length_drop]; omega),
    List.take_of_length_le (by simp only [List.length_append, List.length_take, List.length_drop]; omega)]
theorem u8size : (Tryz.prog.info? 5).map (·.size) = some 1 := by kernel_rfl
theorem wpList_copyB {w : World} {ops : Array Oper} {rest : List Oper} {o : Oper} {ac : Act} {Q : Exit → Act → World → Prop} (hgd : o.guard = none) (d s : Operand)
    (ho : o.op = .call { callee := .builtin .copy, args := #[d, s], argTypes := #[22, 22] }) (base g L C off : Nat) (xs : List UInt8)
    (hd : ac.eval d = .slice (cutA (some ⟨g, 0, none⟩) C off) (L - off : Nat) (C - off : Nat)) (hown : Own byteV 5 w base (.slice (some ⟨g, 0, none⟩) L C) xs)
    (B : Nat) (a : Option Addr) (m c : Nat) (ys : List UInt8) (hs : ac.eval s = .slice a m c) (hy : Bytes w B a m ys) (hm : off + m ≤ L)
    (h : ∀ w', Hid (Own byteV 5 w' base (.slice (some ⟨g, 0, none⟩) L C) (xs.take off ++ ys ++ xs.drop (off + m))) → Hid (Below base w w') → wpList Tryz.prog ops Q rest (ac.put o.dst (goInt m)) w') : wpList Tryz.prog ops Q (o :: rest) ac w := by
  have hl := hy.len
  rcases hown.2 with ⟨hv, _⟩ | ⟨g', cap, cur, hv, hgb, hg, hcap, hmx, hsz, ht⟩
  · cases hv
  · injection hv with e1 e2 e3
    injection e1 with e1
    injection e1 with e1
    subst e1 e3
    have hxl : xs.length = L := e2.symm
    have hcl : cur.toList.length = C := by simpa using hsz
    rw [hxl] at hcap ht
    have hcs : (ys.map byteV).length = m := by rw [List.length_map, hl]
    refine wpList_copy_splice hgd d s _ _ ho 5 Tryz.underlying22 u8size _ a _ _ m c hd hs g off cur.toList 5 (by simpa using hg) (ys.map byteV) (by rw [hcs]; exact (Nat.min_eq_left (by omega)).symm) ?_ (by rw [hcs, hcl]; omega)
      (fun v hv => by obtain ⟨x, _, rfl⟩ := List.mem_map.1 hv; exact byteV_one x) base w (Below.refl _ _) hgb ?_
    · intro hp
      rw [hcs] at hp
      obtain ⟨b, o', ha, _, hc⟩ := hy.2.2 (by omega)
      refine ⟨?_, ⟨b, o', none⟩, ha, fun j v hj => ?_⟩
      · rw [cutA, if_neg (by omega)]
        show some ((⟨g, 0, none⟩ : Addr).add off) = _
        rw [Addr.add_mid, Nat.zero_add]
      · rw [List.getElem?_map] at hj
        cases hk : ys[j]? with
        | none => rw [hk] at hj; cases hj
        | some y =>
          rw [hk] at hj
          injection hj with hj
          subst hj
          obtain ⟨hjl, hje⟩ := List.getElem?_eq_some_iff.1 hk
          rw [Addr.add_mid, hc j hjl, hje]
    · intro w' hg' hb
      rw [hcs]
      refine h w' (Lib.hid ?_) (Lib.hid hb)
      have hlen : (xs.take off ++ ys ++ xs.drop (off + m)).length = L := by simp only [List.length_append, List.length_take, List.length_drop, hl, hxl]; omega
      refine ⟨by rw [List.length_map, Nat.mul_one], .inr ⟨g, C, (splice cur.toList off (ys.map byteV)).toArray, by rw [hlen], hgb, hg'.out, by rw [hlen]; exact hcap, hmx, ?_, ?_⟩⟩
      · rw [List.size_toArray, length_splice _ _ _ (by rw [hcs, hcl]; omega), hcl, Nat.mul_one]
      · rw [hlen]
        show (splice cur.toList off (ys.map byteV)).take (L * 1) = _
        rw [Nat.mul_one, splice_take _ _ _ _ (by rw [hcs]; omega) (by rw [hcl]; omega)]
        have ht' : cur.toList.take L = xs.map byteV := by simpa using ht
        rw [ht', hcs, List.map_append, List.map_append, List.map_take, List.map_drop]
end Go.Proofs.YtiipnpfaaghekaaGreat
namespace Go.Proofs.YtiipnpfaaghekaaGreat
open Go.RowKit

theorem wpList_copy0 {w : World} {ops : Array Oper} {rest : List Oper} {o : Oper} {ac : Act} {Q : Exit → Act → World → Prop} (hgd : o.guard = none) (d s : Operand)
    (ho : o.op = .call { callee := .builtin .copy, args := #[d, s], argTypes := #[22, 22] }) (base g L C : Nat) (xs : List UInt8)
    (hd : ac.eval d = .slice (some ⟨g, 0, none⟩) L C) (hown : Own byteV 5 w base (.slice (some ⟨g, 0, none⟩) L C) xs)
    (B : Nat) (a : Option Addr) (m c : Nat) (ys : List UInt8) (hs : ac.eval s = .slice a m c) (hy : Bytes w B a m ys)
    (h : ∀ w', Hid (Own byteV 5 w' base (.slice (some ⟨g, 0, none⟩) L C) (ys.take L ++ xs.drop m)) → Hid (Below base w w') → wpList Tryz.prog ops Q rest (ac.put o.dst (goInt (Nat.min m L))) w') : wpList Tryz.prog ops Q (o :: rest) ac w := by
  have hl := hy.len
  rcases hown.2 with ⟨hv, _⟩ | ⟨g', cap, cur, hv, hgb, hg, hcap, hmx, hsz, ht⟩
  · cases hv
  · injection hv with e1 e2 e3
    injection e1 with e1
    injection e1 with e1
    subst e1 e3
    have hxl : xs.length = L := e2.symm
    have hcl : cur.toList.length = C := by simpa using hsz
    rw [hxl] at hcap ht
    obtain ⟨k, hk⟩ : ∃ k, k = Nat.min m L := ⟨_, rfl⟩
    have hkm : k ≤ m := by rw [hk]; exact Nat.min_le_left _ _
    have hkL : k ≤ L := by rw [hk]; exact Nat.min_le_right _ _
    have htk : ys.take L = ys.take k := by
      rcases Nat.le_total m L with hml | hml
      · have : k = m := by rw [hk]; exact Nat.min_eq_left hml
        rw [this, List.take_of_length_le (by omega), List.take_of_length_le (by omega)]
      · have : k = L := by rw [hk]; exact Nat.min_eq_right hml
        rw [this]
    have hdr : xs.drop m = xs.drop k := by
      rcases Nat.le_total m L with hml | hml
      · have : k = m := by rw [hk]; exact Nat.min_eq_left hml
        rw [this]
      · have : k = L := by rw [hk]; exact Nat.min_eq_right hml
        rw [this, List.drop_of_length_le (by omega), List.drop_of_length_le (by omega)]
    have hyk : (ys.take k).length = k := by rw [List.length_take]; omega
    have hcs : ((ys.take k).map byteV).length = k := by rw [List.length_map, hyk]
    rw [← hk] at h
    refine wpList_copy_splice hgd d s _ _ ho 5 Tryz.underlying22 u8size _ a _ _ m c hd hs g 0 cur.toList 5 (by simpa using hg) ((ys.take k).map byteV) (by rw [hcs, hk]) ?_ (by rw [hcs, hcl]; omega)
      (fun v hv => by obtain ⟨x, _, rfl⟩ := List.mem_map.1 hv; exact byteV_one x) base w (Below.refl _ _) hgb ?_
    · intro hp
      rw [hcs] at hp
      obtain ⟨b, o', ha, _, hc⟩ := hy.2.2 (by omega)
      refine ⟨rfl, ⟨b, o', none⟩, ha, fun j v hj => ?_⟩
      rw [List.getElem?_map] at hj
      cases hq : (ys.take k)[j]? with
      | none => rw [hq] at hj; cases hj
      | some y =>
        rw [hq] at hj
        injection hj with hj
        subst hj
        obtain ⟨hjl, hje⟩ := List.getElem?_eq_some_iff.1 hq
        rw [hyk] at hjl
        rw [Addr.add_mid, hc j (by omega), ← hje, List.getElem_take]
    · intro w' hg' hb
      rw [hcs]
      refine h w' (Lib.hid ?_) (Lib.hid hb)
      have hlen : (ys.take L ++ xs.drop m).length = L := by rw [htk, hdr, List.length_append, List.length_drop, hyk, hxl]; omega
      refine ⟨by rw [List.length_map, Nat.mul_one], .inr ⟨g, C, (splice cur.toList 0 ((ys.take k).map byteV)).toArray, by rw [hlen], hgb, hg'.out, by rw [hlen]; exact hcap, hmx, ?_, ?_⟩⟩
      · rw [List.size_toArray, length_splice _ _ _ (by rw [hcs, hcl]; omega), hcl, Nat.mul_one]
      · rw [hlen]
        show (splice cur.toList 0 ((ys.take k).map byteV)).take (L * 1) = _
        rw [Nat.mul_one, splice_take _ _ _ _ (by rw [hcs]; omega) (by rw [hcl]; omega)]
        have ht' : cur.toList.take L = xs.map byteV := by simpa using ht
        rw [ht', hcs, List.take_zero, List.nil_append, Nat.zero_add, htk, hdr, List.map_append, List.map_drop]
end Go.Proofs.YtiipnpfaaghekaaGreat
