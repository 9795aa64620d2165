/-
  The law GlobPlain, walked.
-/
import Derived.Test.YtlnjfnpoabcllaaGlbLaws1
import Derived.Test.YtlnjfnpoabcllaaGlbPlainM
namespace Go.Proofs.Ytlnjfnpoabcllaa
open Go.RowKit

/-- The names ahead of the k-th are plain; the bytes ahead of the m-th are. -/
def PlainK (xs : List (List UInt8)) (k : Nat) : Prop := ∀ x ∈ xs.take k, Glb.plainS x
def PlainM (x : List UInt8) (m : Nat) : Prop := ∀ j (h : j < x.length), j < m → Glb.plainC x[j]
theorem PlainM.all {x : List UInt8} (h : PlainM x x.length) : ∀ c ∈ x, Glb.plainC c := fun c hc => by
  obtain ⟨i, hi, rfl⟩ := List.getElem_of_mem hc
  exact h i hi hi
theorem PlainM.succ {x : List UInt8} {m : Nat} (h : PlainM x m) (hm : m < x.length) (hc : Glb.plainC x[m]) : PlainM x (m + 1) := fun j hj hlt => by
  by_cases e : j = m
  · subst e; exact hc
  · exact h j hj (by omega)
theorem PlainK.succ {xs : List (List UInt8)} {k : Nat} (h : PlainK xs k) (hk : k < xs.length) (hc : Glb.plainS xs[k]) : PlainK xs (k + 1) := fun x hx => by
  rw [List.take_succ_eq_append_getElem hk, List.mem_append, List.mem_singleton] at hx
  rcases hx with hx | rfl
  · exact h x hx
  · exact hc
theorem pathL_len (l : List (List UInt8)) : (Glb.pathL l).length = 1 + Pth.total l := by
  unfold Glb.pathL
  rw [List.length_cons, Nat.add_comm]
  congr 1
  induction l with
  | nil => rfl
  | cons x t ih =>
    rw [List.flatMap_cons, List.length_append, List.length_append, List.length_singleton, ih, Pth.total]
    omega
theorem total_take (xs : List (List UInt8)) (k : Nat) : Pth.total (xs.take k) ≤ Pth.total xs := by
  induction xs generalizing k with
  | nil => simp
  | cons x t ih =>
    cases k with
    | zero => simp [Pth.total]
    | succ k => rw [List.take_succ_cons, Pth.total, Pth.total]; have := ih k; omega
set_option maxRecDepth 100000 in
set_option maxHeartbeats 8000000 in
theorem globPlain_walk (a : Option Addr) (n c : Nat) (xs : List (List UInt8)) (b : Option Addr) (nb cb : Nat) (ys : List (List UInt8)) (w : World) (hx : Arr strV w w.heap.size a n xs) (_nc : n ≤ c) (_cm : c ≤ 8796093022000) (hm : ∀ x ∈ xs, x.length ≤ 140737488351232)
    (hy : Arr strV w w.heap.size b nb ys) (_nd : nb ≤ cb) (_dm : cb ≤ 8796093022000) (hn : ∀ x ∈ ys, x.length ≤ 140737488351232) :
    Calls Try.prog 3 #[.slice a n c, .slice b nb cb] w fun e w' => e = .returned (.bool true) ∧ Below w.heap.size w w' := by
  have HMx := Lib.hid (many_calls a n c xs w hx hm)
  have HMy := Lib.hid (many_calls b nb cb ys w hy hn)
  have HX := Lib.hid hx
  have HY := Lib.hid hy
  have HXL := Lib.hid hx.len
  clear hx hy hm hn
  go_enter Try.func3, Try.ntmps3
  go_wp2_with fail
  refine HMx.out.mono ?_
  rintro e w_ ⟨t, rfl, ht, rfl⟩
  cases t with
  | true =>
    clear ht
    go_wp2_with fail
    refine (known_calls _).mono ?_
    rintro e wk_ ⟨rfl, h_⟩
    have HBk_ := Lib.hid h_
    clear h_
    go_wp2
    go_ret
    exact ⟨rfl, HBk_.out⟩
  | false =>
    obtain ⟨tx, nx⟩ := ht rfl
    clear ht
    go_wp2_with fail
    refine HMy.out.mono ?_
    rintro e w_ ⟨t, rfl, ht, rfl⟩
    cases t with
    | true =>
      clear ht
      go_wp2_with fail
      refine (known_calls _).mono ?_
      rintro e wk_ ⟨rfl, h_⟩
      have HBk_ := Lib.hid h_
      clear h_
      go_wp2
      go_ret
      exact ⟨rfl, HBk_.out⟩
    | false =>
      obtain ⟨ty, ny⟩ := ht rfl
      clear ht
      have HSx := Lib.hid (short_of tx)
      have HSy := Lib.hid (short_of ty)
      by_cases h16 : 16 < n
      · have g1 : decide (16 < (n : Int)) = true := decide_eq_true (by omega)
        go_wp2_with fail
        refine (known_calls _).mono ?_
        rintro e wk_ ⟨rfl, h_⟩
        have HBk_ := Lib.hid h_
        clear h_
        go_wp2
        go_ret
        exact ⟨rfl, HBk_.out⟩
      have g1 : decide (16 < (n : Int)) = false := decide_eq_false (by omega)
      have HTx := Lib.hid tx
      have HBR := Lib.hid (Below.refl w.heap.size w)
      clear tx ty
      go_wp2_with fail
      go_loop [5, 6, 7, 8] (fun s i _ _ => ∃ k : Nat, k ≤ n ∧ i = .int .i64 k ∧ s = .string (strL (Glb.pathL (xs.take k))) ∧ PlainK xs k) (fun _ i _ _ => n - (intOf i).toNat)
      case atStart => exact ⟨0, by omega, rfl, rfl, fun x hx => by simp at hx⟩
      case round =>
        obtain ⟨k, hk, rfl, rfl, hp⟩ := hrel
        have HP := Lib.hid hp
        clear hp
        by_cases hlt : k < n
        · obtain ⟨ba, o, hk', rfl, _, hcx⟩ := HX.out.atS hlt
          have g2 : (0 : Int) ≤ (k : Int) := by omega
          have g3 : (k : Int) < (n : Int) := by omega
          have HT := Lib.hid (show Glb.pathL (xs.take (k + 1)) = Glb.pathL (xs.take k) ++ xs[k] ++ [47] by rw [List.take_succ_eq_append_getElem hk', Glb.pathL_snoc])
          have HPs := Lib.hid (fun h => HP.out.succ hk' h)
          have hxs := HSx.out xs[k] (List.getElem_mem hk')
          have hPb : (Glb.pathL (xs.take k)).length ≤ 1000 := by
            have q1 := pathL_len (xs.take k)
            have q2 := total_take xs k
            have := HTx.out
            omega
          generalize xs[k] = x at *
          generalize Glb.pathL (xs.take k) = P at *
          clear hk'
          go_wp2_with fail
          go_loop [7, 8] (fun i _ => ∃ m : Nat, m ≤ x.length ∧ i = .int .i64 m ∧ PlainM x m) (fun i _ => x.length - (intOf i).toNat)
          case atStart => exact ⟨0, by omega, rfl, fun j _ h => absurd h (by omega)⟩
          case round =>
            obtain ⟨m, hm, rfl, hpm⟩ := hrel
            have HPM := Lib.hid hpm
            clear hpm
            by_cases hlm : m < x.length
            · have g4 : (0 : Int) ≤ (m : Int) := by omega
              have g5 : (m : Int) < (x.length : Int) := by omega
              have HS2 := Lib.hid (fun h => HPM.out.succ hlm h)
              by_cases hc : Glb.plainC x[m]
              · have HS3 := Lib.hid (HS2.out hc)
                obtain ⟨c1, c2, c3, c4⟩ := hc
                have k1 : ((x[m].toNat : Int) == 63) = false := u8_ne (by decide) c1
                have k2 : ((x[m].toNat : Int) == 42) = false := u8_ne (by decide) c2
                have k3 : ((x[m].toNat : Int) == 91) = false := u8_ne (by decide) c3
                have k4 : ((x[m].toNat : Int) == 47) = false := u8_ne (by decide) c4
                clear c1 c2 c3 c4
                go_wp2_with fail
                go_round
                case rel => exact ⟨m + 1, by omega, by go_num, HS3.out⟩
                case measure => simp [intOf]; omega
              · clear HS2
                have hor : x[m] = 63 ∨ (x[m] ≠ 63 ∧ x[m] = 42) ∨ (x[m] ≠ 63 ∧ x[m] ≠ 42 ∧ x[m] = 91) ∨ (x[m] ≠ 63 ∧ x[m] ≠ 42 ∧ x[m] ≠ 91 ∧ x[m] = 47) := by
                  unfold Glb.plainC at hc
                  by_cases c1 : x[m] = 63
                  · exact .inl c1
                  by_cases c2 : x[m] = 42
                  · exact .inr (.inl ⟨c1, c2⟩)
                  by_cases c3 : x[m] = 91
                  · exact .inr (.inr (.inl ⟨c1, c2, c3⟩))
                  · exact .inr (.inr (.inr ⟨c1, c2, c3, Classical.byContradiction fun h => hc ⟨c1, c2, c3, h⟩⟩))
                clear hc
                rcases hor with c1 | ⟨c1, c2⟩ | ⟨c1, c2, c3⟩ | ⟨c1, c2, c3, c4⟩
                · have k1 : ((x[m].toNat : Int) == 63) = true := by rw [c1]; rfl
                  clear c1
                  go_wp2_with fail
                  refine (known_calls _).mono ?_
                  rintro e wk_ ⟨rfl, h_⟩
                  have HBk_ := Lib.hid h_
                  clear h_
                  go_wp2
                  go_ret
                  exact ⟨rfl, HBk_.out⟩
                · have k1 : ((x[m].toNat : Int) == 63) = false := u8_ne (by decide) c1
                  have k2 : ((x[m].toNat : Int) == 42) = true := by rw [c2]; rfl
                  clear c1 c2
                  go_wp2_with fail
                  refine (known_calls _).mono ?_
                  rintro e wk_ ⟨rfl, h_⟩
                  have HBk_ := Lib.hid h_
                  clear h_
                  go_wp2
                  go_ret
                  exact ⟨rfl, HBk_.out⟩
                · have k1 : ((x[m].toNat : Int) == 63) = false := u8_ne (by decide) c1
                  have k2 : ((x[m].toNat : Int) == 42) = false := u8_ne (by decide) c2
                  have k3 : ((x[m].toNat : Int) == 91) = true := by rw [c3]; rfl
                  clear c1 c2 c3
                  go_wp2_with fail
                  refine (known_calls _).mono ?_
                  rintro e wk_ ⟨rfl, h_⟩
                  have HBk_ := Lib.hid h_
                  clear h_
                  go_wp2
                  go_ret
                  exact ⟨rfl, HBk_.out⟩
                · have k1 : ((x[m].toNat : Int) == 63) = false := u8_ne (by decide) c1
                  have k2 : ((x[m].toNat : Int) == 42) = false := u8_ne (by decide) c2
                  have k3 : ((x[m].toNat : Int) == 91) = false := u8_ne (by decide) c3
                  have k4 : ((x[m].toNat : Int) == 47) = true := by rw [c4]; rfl
                  clear c1 c2 c3 c4
                  go_wp2_with fail
                  refine (known_calls _).mono ?_
                  rintro e wk_ ⟨rfl, h_⟩
                  have HBk_ := Lib.hid h_
                  clear h_
                  go_wp2
                  go_ret
                  exact ⟨rfl, HBk_.out⟩
            · obtain ⟨q, hq⟩ : ∃ q, q = x.length := ⟨_, rfl⟩
              have hmq : m = q := by omega
              have HPa := Lib.hid (show ∀ c ∈ x, Glb.plainC c from PlainM.all (by have h := HPM.out; rw [show x.length = m by omega]; exact h))
              have HQ := Lib.hid hq
              have hgt : decide ((m : Int) < (x.length : Int)) = false := decide_eq_false (by omega)
              by_cases hz : x = []
              · subst hz
                clear hq hmq
                go_wp2_with fail
                refine (known_calls _).mono ?_
                rintro e wk_ ⟨rfl, h_⟩
                have HBk_ := Lib.hid h_
                clear h_
                go_wp2
                go_ret
                exact ⟨rfl, HBk_.out⟩
              · have hzl : 0 < x.length := List.length_pos_iff.2 hz
                have k1 : ((x.length : Int) == 0) = false := by rw [beq_eq_false_iff_ne]; omega
                by_cases h64 : 64 < x.length
                · have k2 : decide (64 < (x.length : Int)) = true := decide_eq_true (by omega)
                  clear hq hmq hz
                  go_wp2_with fail
                  refine (known_calls _).mono ?_
                  rintro e wk_ ⟨rfl, h_⟩
                  have HBk_ := Lib.hid h_
                  clear h_
                  go_wp2
                  go_ret
                  exact ⟨rfl, HBk_.out⟩
                · have k2 : decide (64 < (x.length : Int)) = false := decide_eq_false (by omega)
                  have HPn := Lib.hid (HPs.out ⟨hz, by omega, HPa.out⟩)
                  clear hq hmq hz
                  go_wp2_with fail
                  go_round
                  case rel => exact ⟨k + 1, by omega, by go_num, by rw [HT.out]; exact congrArg Value.string (strL_append _ [47]), HPn.out⟩
                  case measure => simp [intOf]; omega
        · obtain rfl : k = n := by omega
          have g3 : decide ((k : Int) < (k : Int)) = false := decide_eq_false (by omega)
          have htk : xs.take k = xs := List.take_of_length_le (by rw [HXL.out]; exact Nat.le_refl _)
          have HPl := Lib.hid (show ∀ x ∈ xs, Glb.plainS x by have h := HP.out; unfold PlainK at h; rw [htk] at h; exact h)
          rw [htk]
          have hpl := pathL_len xs
          have hp401 : (Glb.pathL xs).length ≤ 1000 := by have := HTx.out; omega
          have HNew := Lib.hid (new_calls (Glb.pathL xs) w hp401)
          clear htk hpl
          by_cases h255 : 255 < (Glb.pathL xs).length
          · have hn := Glb.new_long h255
            rw [hn] at HNew
            have g4 : decide (255 < ((Glb.pathL xs).length : Int)) = true := decide_eq_true (by omega)
            generalize Glb.pathL xs = P at *
            clear hn
            go_wp2_with fail
            refine HNew.out.mono ?_
            rintro e w1 ⟨hb1, rfl⟩
            have HB1 := Lib.hid hb1
            clear hb1
            go_wp2_with fail
            refine (known_calls _).mono ?_
            rintro e wk_ ⟨rfl, h_⟩
            have HBk_ := Lib.hid h_
            clear h_
            go_wp2
            go_ret
            exact ⟨rfl, Below.then_ (HB1.out) HBk_.out⟩
          · have hn := Glb.new_plain HPl.out (by rw [HXL.out]; omega) (by omega)
            rw [hn] at HNew
            have g4 : decide (255 < ((Glb.pathL xs).length : Int)) = false := decide_eq_false (by omega)
            generalize Glb.pathL xs = P at *
            clear hn
            have HM1 := Lib.hid ((Glb.mt_plain HPl.out xs).trans (decide_eq_true rfl))
            have HM2 := Lib.hid (Glb.mt_plain HPl.out ys)
            go_wp2_with fail
            refine HNew.out.mono ?_
            rintro e w1 ⟨hb1, pb, a2, n2, c2, rfl, hp1⟩
            have HB1 := Lib.hid hb1
            have HP1 := Lib.hid hp1
            have hc1 := match_calls _ pb a2 n2 c2 _ _ k c xs w1 hp1 (Nat.le_refl _) (HX.out.on hb1) HSx.out
            rw [HM1.out] at hc1
            have HC1 := Lib.hid hc1
            clear hb1 hp1 hc1
            go_wp2_with fail
            refine (HC1.out).mono ?_
            rintro e w2 ⟨rfl, h_⟩
            have HD2 := Lib.hid h_
            clear h_
            have HB2 := Lib.hid (HB1.out.then_ HD2.out)
            have hc2 := match_calls _ pb a2 n2 c2 _ _ nb cb ys w2 ((HP1.out.on HD2.out (Nat.le_refl _)).mono HD2.out.size) (Nat.le_refl _) (HY.out.on HB2.out) HSy.out
            rw [HM2.out] at hc2
            have HC2 := Lib.hid hc2
            clear hc2
            have HSm := Lib.hid (fun (u : World) (hu : Below w.heap.size w u) => same_texts _ _ k nb c cb xs ys u (HX.out.on hu) (HY.out.on hu))
            generalize decide (xs = ys) = D at *
            go_wp2_with fail
            refine (HC2.out).mono ?_
            rintro e w3 ⟨rfl, h_⟩
            have HD3 := Lib.hid h_
            clear h_
            have HB3 := Lib.hid (HB2.out.then_ HD3.out)
            go_wp2_with fail
            refine (HSm.out _ HB3.out).mono ?_
            rintro e w4 ⟨rfl, h_⟩
            have HD4 := Lib.hid h_
            clear h_
            have HB4 := Lib.hid (HB3.out.then_ HD4.out)
            go_wp2_with fail
            refine (known_calls _).mono ?_
            rintro e wk_ ⟨rfl, h_⟩
            have HBk_ := Lib.hid h_
            clear h_
            go_wp2
            go_ret
            exact ⟨rfl, Below.then_ (HB4.out) HBk_.out⟩
end Go.Proofs.Ytlnjfnpoabcllaa
