/-
  room.With.
-/
import Derived.Test.YtfiphpdagnlbbaaRoomRefWith
namespace Go.Proofs.Ytfiphpdagnlbbaa
open Go.RowKit

set_option maxHeartbeats 4000000 in
theorem with_calls (a : Option Addr) (n c : Nat) (xs : List Int) (f t : Int) (w : World) (hx : Arr intV w w.heap.size a n xs) (hn : n ≤ 2000) (hm : Room.more f t ≤ 2000) :
    Calls Try.prog 21 #[.slice a n c, .int .i64 f, .int .i64 t] w (FreshI (Room.row (Room.all xs f t)) w) := by
  have HCl := Lib.hid (cloneI_calls a n c xs w hx (by omega))
  have HL := Lib.hid hx.len
  have HM := Lib.hid (show Room.more f t = if 0 ≤ f ∧ t ≤ 131072 then (t - f).toNat else 0 from rfl)
  have HAll := Lib.hid (show Room.all xs f t = xs ++ Room.span f (Room.more f t) from rfl)
  obtain ⟨al, hal⟩ : ∃ al, al = Room.all xs f t := ⟨_, rfl⟩
  rw [← hal] at HAll ⊢
  generalize Room.more f t = m at *
  have hall : al.length = n + m := by rw [HAll.out, List.length_append, Room.span_len, HL.out]
  have HLen := Lib.hid hall
  clear hx hal hall
  go_enter Try.func21, Try.ntmps21
  go_wp2_with fail
  refine HCl.out.mono ?_
  rintro e w1 ⟨⟨v1, rfl, ho1⟩, hb1⟩
  have HO1 := Lib.hid ho1
  have HB1 := Lib.hid hb1
  have hs1 := hb1.size
  clear ho1 hb1
  by_cases h3 : 0 ≤ f
  case neg =>
    have h6 : decide (0 ≤ f) = false := decide_eq_false h3
    have h7 : m = 0 := by rw [HM.out, if_neg (fun h => h3 h.1)]
    have HZ := Lib.hid (show al = xs by rw [HAll.out, h7]; simp [Room.span])
    clear h7 h3
    have HS := Lib.hid (sort_calls _ al w.heap.size _ (by rw [HZ.out]; exact HO1.out) (by rw [HLen.out]; omega))
    have HB7 := Lib.hid (HB1.out)
    go_wp2_with fail
    refine HS.out.mono ?_
    rintro e w3 ⟨rfl, ho3, hb3⟩
    have HB3 := Lib.hid (HB7.out.trans hb3)
    have HC := Lib.hid (compact_calls _ (sortL al) w.heap.size w3 ho3 (by rw [sortL_len, HLen.out]; omega))
    clear ho3 hb3
    go_wp2_with fail
    refine HC.out.mono ?_
    rintro e w4 ⟨v4, rfl, ho4, hb4⟩
    have HO4 := Lib.hid ho4
    have HB4 := Lib.hid (HB3.out.trans hb4)
    clear ho4 hb4
    go_wp2
    go_ret
    exact ⟨_, rfl, HO4.out, HB4.out⟩
  by_cases h4 : t ≤ 131072
  case neg =>
    have h6 : decide (t ≤ 131072) = false := decide_eq_false h4
    have h7 : m = 0 := by rw [HM.out, if_neg (fun h => h4 h.2)]
    have HZ := Lib.hid (show al = xs by rw [HAll.out, h7]; simp [Room.span])
    clear h7 h4
    have HS := Lib.hid (sort_calls _ al w.heap.size _ (by rw [HZ.out]; exact HO1.out) (by rw [HLen.out]; omega))
    have HB7 := Lib.hid (HB1.out)
    go_wp2_with fail
    refine HS.out.mono ?_
    rintro e w3 ⟨rfl, ho3, hb3⟩
    have HB3 := Lib.hid (HB7.out.trans hb3)
    have HC := Lib.hid (compact_calls _ (sortL al) w.heap.size w3 ho3 (by rw [sortL_len, HLen.out]; omega))
    clear ho3 hb3
    go_wp2_with fail
    refine HC.out.mono ?_
    rintro e w4 ⟨v4, rfl, ho4, hb4⟩
    have HO4 := Lib.hid ho4
    have HB4 := Lib.hid (HB3.out.trans hb4)
    clear ho4 hb4
    go_wp2
    go_ret
    exact ⟨_, rfl, HO4.out, HB4.out⟩
  have h7 : m = (t - f).toNat := by rw [HM.out, if_pos ⟨h3, h4⟩]
  have HM2 := Lib.hid h7
  clear h7
  go_wp2_with fail
  go_loopw [7, 8] (fun v i wr => ∃ k : Nat, k ≤ m ∧ i = .int .i64 (f + k) ∧ Own intV 3 wr w.heap.size v (xs ++ Room.span f k) ∧ Below w.heap.size w wr) (fun _ i _ => (f + m - intOf i).toNat)
  case atStart => exact ⟨0, by omega, by simp, by simpa [Room.span] using HO1.out, HB1.out⟩
  case round =>
    obtain ⟨k, hk, rfl, ho, hb⟩ := hrel
    have HO := Lib.hid ho
    have HB := Lib.hid hb
    have hsz := hb.size
    have hlen : (xs ++ Room.span f k).length = n + k := by rw [List.length_append, Room.span_len, HL.out]
    have HLn := Lib.hid hlen
    clear ho hb hlen
    by_cases hlt : k < m
    · have h2 : f + k < t := by have := HM2.out; omega
      go_wp2_with (at_builtin; refine wpList_litI rfl _ _ rfl w.heap.size _ _ rfl HO.out (f + (k : Int)) rfl rfl (by rw [HLn.out]; omega) hsz ?_; intro v2 w2 HO2 HB2)
      go_roundw
      case rel => exact ⟨k + 1, by omega, by congr 1; omega, by rw [Room.span_snoc, ← List.append_assoc]; exact HO2.out, HB.out.trans HB2.out⟩
      case measure => simp [intOf]; omega
    · obtain rfl : k = m := by omega
      have h5 : ¬ f + (k : Int) < t := by have := HM2.out; omega
      have h6 : decide (f + (k : Int) < t) = false := decide_eq_false h5
      have HS := Lib.hid (sort_calls _ al w.heap.size _ (by rw [HAll.out]; exact HO.out) (by rw [HLen.out]; omega))
      have HB7 := Lib.hid (HB.out)
      go_wp2_with fail
      refine HS.out.mono ?_
      rintro e w3 ⟨rfl, ho3, hb3⟩
      have HB3 := Lib.hid (HB7.out.trans hb3)
      have HC := Lib.hid (compact_calls _ (sortL al) w.heap.size w3 ho3 (by rw [sortL_len, HLen.out]; omega))
      clear ho3 hb3
      go_wp2_with fail
      refine HC.out.mono ?_
      rintro e w4 ⟨v4, rfl, ho4, hb4⟩
      have HO4 := Lib.hid ho4
      have HB4 := Lib.hid (HB3.out.trans hb4)
      clear ho4 hb4
      go_wp2
      go_ret
      exact ⟨_, rfl, HO4.out, HB4.out⟩
end Go.Proofs.Ytfiphpdagnlbbaa
