/-
  The walk of the law InodePointed.
-/
import Derived.Test.YtjnjemhnceejeaaInoPoint2
import Derived.Test.YtjnjemhnceejeaaInoBytes
namespace Go.Proofs.Ytjnjemhnceejeaa
open Go.RowKit

set_option maxHeartbeats 4000000 in
theorem inodePointed_walk (a : Option Addr) (n c : Nat) (xs : List UInt8) (k q other : Int) (w : World) (hx : Bytes w w.heap.size a n xs) (hnc : n ≤ c) (_ : c ≤ 140737488351232) (_ : -9223372036854775808 ≤ k) (_ : k ≤ 9223372036854775807) (_ : -9223372036854775808 ≤ q) (_ : q ≤ 9223372036854775807) (_ : -9223372036854775808 ≤ other) (_ : other ≤ 9223372036854775807) :
    Calls Try.prog 6 #[.slice a n c, .int .i64 k, .int .i64 q, .int .i64 other] w fun e w' => e = .returned (.bool true) ∧ Below w.heap.size w w' := by
  by_cases hl : 1500 < n
  · have hd : decide (1500 < n) = true := decide_eq_true hl
    go_enter Try.func6, Try.ntmps6
    go_wp2_with fail
    refine (ilong_calls _ _ _ _).mono ?_
    rintro e w_ ⟨rfl, rfl⟩
    rw [hd]
    go_wp2_with fail
    refine (known_calls _).mono ?_
    rintro e wk ⟨rfl, hbk⟩
    go_wp2
    go_ret
    exact ⟨rfl, hbk⟩
  have hd : decide (1500 < n) = false := decide_eq_false hl
  have HX := Lib.hid hx
  have hlen := Lib.hid hx.len
  clear hx hl
  by_cases h : Pt.Has xs.length k ∧ Nod.Pg q
  case neg =>
    have h1 := Lib.hid (Pt.pointed_no h)
    clear h
    go_enter Try.func6, Try.ntmps6
    go_wp2_with fail
    refine (ilong_calls _ _ _ _).mono ?_
    rintro e w_ ⟨rfl, rfl⟩
    rw [hd]
    clear hd
    go_wp2_with fail
    refine (point_calls a n c xs k q _ HX.out).mono ?_
    rintro e w1 ⟨v1, rfl, ho, hb⟩
    rw [h1.out.2]
    rw [h1.out.1] at ho
    obtain ⟨a1, c1, rfl, _⟩ := ho.formN (n := 0) rfl
    have HB1 := Lib.hid hb
    clear ho hb
    go_wp2_with fail
    refine (known_calls _).mono ?_
    rintro e wk ⟨rfl, hbk⟩
    have HBk := Lib.hid hbk
    clear hbk
    go_wp2
    go_ret
    exact ⟨rfl, Below.then_ HB1.out HBk.out⟩
  have h1 := Lib.hid (Pt.pointed h)
  have h2 := Lib.hid (Pt.point_here h)
  have h3 := Lib.hid (fun (hne : other ≠ k) => Pt.point_other h hne)
  obtain ⟨q1, q2, _, _⟩ := Pt.has_bound h.1
  have h4 := Lib.hid (Pt.put_len (xs := xs) (j := k.toNat) (tt := q.toNat) q1)
  rw [hlen.out] at h4 q2
  clear h q1
  generalize Pt.put xs k.toNat q.toNat = ps at *
  go_enter Try.func6, Try.ntmps6
  go_wp2_with fail
  refine (ilong_calls _ _ _ _).mono ?_
  rintro e w_ ⟨rfl, rfl⟩
  rw [hd]
  clear hd
  go_wp2_with fail
  refine (point_calls a n c xs k q _ HX.out).mono ?_
  rintro e w1 ⟨v1, rfl, ho, hb⟩
  rw [h1.out.2]
  rw [h1.out.1] at ho
  obtain ⟨a1, c1, rfl, hc1⟩ := ho.formN (n := n) h4.out
  have HB1 := Lib.hid hb
  have HP1 := Lib.hid (ho.arr (by rw [h4.out]; omega))
  have HX1 := Lib.hid (HX.out.on hb)
  clear ho hb h1
  go_wp2_with fail
  refine (pointer_calls a1 n c1 ps k _ HP1.out).mono ?_
  rintro e w2 ⟨rfl, hb⟩
  rw [h2.out.1, h2.out.2]
  have HB2 := Lib.hid (Below.then_ HB1.out hb)
  have HP2 := Lib.hid (HP1.out.on hb)
  have HX2 := Lib.hid (HX1.out.on hb)
  clear hb h2 HP1 HX1 HB1
  go_wp2_with fail
  refine (pointer_calls a n c xs other _ HX2.out).mono ?_
  rintro e w3 ⟨rfl, hb⟩
  have HB3 := Lib.hid (Below.then_ HB2.out hb)
  have HP3 := Lib.hid (HP2.out.on hb)
  clear hb HP2 HX2 HB2
  go_wp2_with fail
  refine (pointer_calls a1 n c1 ps other _ HP3.out).mono ?_
  rintro e w4 ⟨rfl, hb⟩
  have HB4 := Lib.hid (Below.then_ HB3.out hb)
  clear hb HP3 HB3
  by_cases hne : other = k
  · subst hne
    generalize Pt.ptrV ps other = v1 at *
    generalize Pt.ptrE ps other = e1 at *
    generalize Pt.ptrV xs other = v2 at *
    generalize Pt.ptrE xs other = e2 at *
    clear h3
    go_wp2_with fail
    refine (known_calls _).mono ?_
    rintro e wk ⟨rfl, hbk⟩
    have HBk := Lib.hid hbk
    clear hbk
    go_wp2
    go_ret
    exact ⟨rfl, Below.then_ HB4.out HBk.out⟩
  · have h5 := h3.out hne
    rw [h5.1, h5.2]
    have hkb : (other == k) = false := by rw [beq_eq_false_iff_ne]; exact hne
    clear h3 h5 hne
    generalize Pt.ptrV xs other = v2 at *
    generalize Pt.ptrE xs other = e2 at *
    go_wp2_with fail
    refine (known_calls _).mono ?_
    rintro e wk ⟨rfl, hbk⟩
    have HBk := Lib.hid hbk
    clear hbk
    go_wp2
    go_ret
    exact ⟨rfl, Below.then_ HB4.out HBk.out⟩
end Go.Proofs.Ytjnjemhnceejeaa
