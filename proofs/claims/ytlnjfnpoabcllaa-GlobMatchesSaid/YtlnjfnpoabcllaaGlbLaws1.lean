/-
  The laws GlobAll and GlobBegins, walked.
-/
import Derived.Test.YtlnjfnpoabcllaaGlbTop
namespace Go.Proofs.Ytlnjfnpoabcllaa
open Go.RowKit

namespace Glb
theorem mt_star {α : Type} (m : Ab α) (hm : m.many = true) (s : List α) : mt [m] s = true := (mt_cons _ _ _).2 ⟨s, [], by simp, .inl hm, rfl⟩
theorem part_star (nm : List UInt8) : part [42] nm = (true, 0) := by
  have h : marksOf [42] = some [⟨2, 42, false, []⟩] := by decide
  unfold part
  rw [h]
  show (if ([42] : List UInt8) = [42, 42] then (false, 31) else (matchesB [⟨2, 42, false, []⟩] nm, 0)) = _
  rw [if_neg (by decide)]
  unfold matchesB
  rw [List.map_cons, List.map_nil, mt_star _ rfl]
theorem someB_of {m : Gm} {c : UInt8} (h : standsB m c = true) : someB m = true := by
  unfold someB
  rw [List.any_eq_true]
  refine ⟨c.toNat, List.mem_range.2 c.toNat_lt, ?_⟩
  rw [UInt8.ofNat_toNat]
  exact h
theorem openB_of {l : List Gm} {s : List UInt8} (h : matchesB l s = true) : openB l = true := by
  unfold matchesB at h
  induction l generalizing s with
  | nil => rfl
  | cons m t ih =>
    rw [List.map_cons] at h
    obtain ⟨u, v, rfl, h1, h2⟩ := (mt_cons _ _ _).1 h
    have h3 := ih h2
    unfold openB at h3 ⊢
    rw [List.all_cons, h3, Bool.and_true]
    by_cases hk : m.k = 3
    · rcases h1 with h1 | ⟨c, rfl, hc⟩
      · exfalso
        have : (m.k == 2) = true := h1
        rw [hk] at this
        cases this
      · rw [someB_of hc]; simp
    · have : (m.k == 3) = false := by simpa using hk
      rw [this]; rfl
theorem may_of {ps : List Prt} {u v : List (List UInt8)} (h : mt (ps.map abP) (u ++ v) = true) : mayB ps u = true := by
  refine mt_begins (ps.map abP) (·.op) (fun m hm c h1 h2 => ?_) u v h
  obtain ⟨p, _, rfl⟩ := List.mem_map.1 hm
  exact openB_of h2
end Glb
theorem kq : Glb.new [47, 42, 42] = (some [⟨true, []⟩], 0) := by decide
theorem all_match (ns : List (List UInt8)) : Glb.mt ([(⟨true, []⟩ : Glb.Prt)].map Glb.abP) ns = true := Glb.mt_star _ rfl ns
theorem all_may (ns : List (List UInt8)) : mayB [(⟨true, []⟩ : Glb.Prt)] ns = true := mayB_yes (n := 1) (i := 1) rfl (Nat.le_refl _) (by rw [plF_end (n := 1) rfl]; exact all_match ns) (okF_end rfl)
theorem short_of {xs : List (List UInt8)} (h : Pth.total xs ≤ 400) : ∀ x ∈ xs, x.length ≤ 1000 := fun x hx => by have := Pth.total_mem hx; omega
set_option maxHeartbeats 4000000 in
theorem globAll_walk (s : ByteArray) (a : Option Addr) (n c : Nat) (xs : List (List UInt8)) (w : World) (hs : s.size ≤ 140737488351232) (hx : Arr strV w w.heap.size a n xs) (_nc : n ≤ c) (_cm : c ≤ 8796093022000) (hm : ∀ x ∈ xs, x.length ≤ 140737488351232) :
    Calls Try.prog 7 #[.string s, .slice a n c] w fun e w' => e = .returned (.bool true) ∧ Below w.heap.size w w' := by
  obtain ⟨l, rfl⟩ := strL_of s
  rw [strL_size] at hs
  have HMany := Lib.hid (many_calls a n c xs w hx hm)
  have HX := Lib.hid hx
  clear hx hm
  by_cases h3 : 300 < l.length
  · have g1 : decide (300 < (l.length : Int)) = true := decide_eq_true (by omega)
    go_enter Try.func7, Try.ntmps7
    go_wp2_with fail
    refine (known_calls _).mono ?_
    rintro e wk_ ⟨rfl, h_⟩
    have HBk_ := Lib.hid h_
    clear h_
    go_wp2
    go_ret
    exact ⟨rfl, HBk_.out⟩
  have g1 : decide (300 < (l.length : Int)) = false := decide_eq_false (by omega)
  have HPart := Lib.hid (show ∀ u : World, Calls Try.prog 14 #[.string ⟨#[42]⟩, .string (strL l)] u (fun e w' => e = .returned (.tuple #[.bool true, .int .i64 0]) ∧ Below u.heap.size u w') from fun u => by
    have h := part_calls [42] l u (by decide) (by omega)
    rw [Glb.part_star] at h
    exact h)
  have HNew := Lib.hid (show ∀ u : World, Calls Try.prog 11 #[.string ⟨#[47, 42, 42]⟩] u (NewR (some [⟨true, []⟩], 0) u) from fun u => by rw [← kq]; exact new_calls _ u (by decide))
  go_enter Try.func7, Try.ntmps7
  go_wp2_with fail
  refine HMany.out.mono ?_
  rintro e w_ ⟨b, rfl, hb, rfl⟩
  cases b with
  | true =>
    clear hb
    go_wp2_with fail
    refine (known_calls _).mono ?_
    rintro e wk_ ⟨rfl, h_⟩
    have HBk_ := Lib.hid h_
    clear h_
    go_wp2
    go_ret
    exact ⟨rfl, HBk_.out⟩
  | false =>
    obtain ⟨ht, hn⟩ := hb rfl
    have HS := Lib.hid (short_of ht)
    clear hb
    go_wp2_with fail
    refine (HPart.out _).mono ?_
    rintro e w1 ⟨rfl, h_⟩
    have HB1 := Lib.hid h_
    clear h_
    go_wp2_with fail
    refine (HNew.out _).mono ?_
    rintro e w2 ⟨hb2, pb, a2, n2, c2, rfl, hp2⟩
    have HB2 := Lib.hid (HB1.out.then_ hb2)
    have HP2 := Lib.hid hp2
    have HX2 := Lib.hid (HX.out.on HB2.out)
    clear hb2 hp2
    have hc3 := match_calls _ pb a2 n2 c2 _ a n c xs w2 HP2.out (Nat.le_refl _) HX2.out HS.out
    rw [all_match] at hc3
    have HC3 := Lib.hid hc3
    clear hc3
    go_wp2_with fail
    refine (HC3.out).mono ?_
    rintro e w3 ⟨rfl, h_⟩
    have HD3 := Lib.hid h_
    clear h_
    have HB3 := Lib.hid (HB2.out.then_ HD3.out)
    have HP3 := Lib.hid ((HP2.out.on HD3.out (Nat.le_refl _)).mono HD3.out.size)
    have HX3 := Lib.hid (HX.out.on HB3.out)
    have hc4 := may_calls _ pb a2 n2 c2 _ a n c xs w3 HP3.out (Nat.le_refl _) HX3.out HS.out
    rw [all_may] at hc4
    have HC4 := Lib.hid hc4
    clear hc4
    go_wp2_with fail
    refine (HC4.out).mono ?_
    rintro e w4 ⟨rfl, h_⟩
    have HD4 := Lib.hid h_
    clear h_
    have HB4 := Lib.hid (HB3.out.then_ HD4.out)
    go_wp2_with fail
    refine (match_nil a n c _).mono ?_
    rintro e w5 ⟨rfl, h_⟩
    have HD5 := Lib.hid h_
    clear h_
    have HB5 := Lib.hid (HB4.out.then_ HD5.out)
    go_wp2_with fail
    refine (may_nil a n c _).mono ?_
    rintro e w6 ⟨rfl, h_⟩
    have HD6 := Lib.hid h_
    clear h_
    have HB6 := Lib.hid (HB5.out.then_ HD6.out)
    go_wp2_with fail
    refine (size_nil _).mono ?_
    rintro e w_ ⟨rfl, rfl⟩
    go_wp2_with fail
    refine (known_calls _).mono ?_
    rintro e wk_ ⟨rfl, h_⟩
    have HBk_ := Lib.hid h_
    clear h_
    go_wp2
    go_ret
    exact ⟨rfl, Below.then_ (HB6.out) HBk_.out⟩
/-- Beginnings of names may be some: up to k. -/
def MayK (ps : List Glb.Prt) (xs : List (List UInt8)) : Prop := ∀ k, mayB ps (xs.take k) = true
set_option maxHeartbeats 4000000 in
theorem globBegins_walk (s : ByteArray) (a : Option Addr) (n c : Nat) (xs : List (List UInt8)) (w : World) (hs : s.size ≤ 140737488351232) (hx : Arr strV w w.heap.size a n xs) (hnc : n ≤ c) (_cm : c ≤ 8796093022000) (hm : ∀ x ∈ xs, x.length ≤ 140737488351232) :
    Calls Try.prog 6 #[.string s, .slice a n c] w fun e w' => e = .returned (.bool true) ∧ Below w.heap.size w w' := by
  obtain ⟨l, rfl⟩ := strL_of s
  rw [strL_size] at hs
  have HMany := Lib.hid (many_calls a n c xs w hx hm)
  have HX := Lib.hid hx
  have HXL := Lib.hid hx.len
  clear hx hm
  by_cases h3 : 300 < l.length
  · have g1 : decide (300 < (l.length : Int)) = true := decide_eq_true (by omega)
    go_enter Try.func6, Try.ntmps6
    go_wp2_with fail
    refine (known_calls _).mono ?_
    rintro e wk_ ⟨rfl, h_⟩
    have HBk_ := Lib.hid h_
    clear h_
    go_wp2
    go_ret
    exact ⟨rfl, HBk_.out⟩
  have g1 : decide (300 < (l.length : Int)) = false := decide_eq_false (by omega)
  have HNew := Lib.hid (new_calls l w (by omega))
  have herr : (Glb.new l).1 = none → (Glb.new l).2 ≠ 0 := by
    unfold Glb.new
    split
    · intro _; decide
    · split
      · intro _; decide
      · split
        · intro _; decide
        · intro h; cases h
  have hok : ∀ ps, (Glb.new l).1 = some ps → (Glb.new l).2 = 0 := by
    intro ps
    unfold Glb.new
    split
    · intro h; cases h
    · split
      · intro h; cases h
      · split
        · intro h; cases h
        · intro _; rfl
  obtain ⟨⟨r, er⟩, hr⟩ : ∃ r, r = Glb.new l := ⟨_, rfl⟩
  rw [← hr] at HNew herr hok
  clear hr
  dsimp only at herr hok
  go_enter Try.func6, Try.ntmps6
  go_wp2_with fail
  refine HMany.out.mono ?_
  rintro e w_ ⟨b, rfl, hb, rfl⟩
  cases b with
  | true =>
    clear hb herr hok
    go_wp2_with fail
    refine (known_calls _).mono ?_
    rintro e wk_ ⟨rfl, h_⟩
    have HBk_ := Lib.hid h_
    clear h_
    go_wp2
    go_ret
    exact ⟨rfl, HBk_.out⟩
  | false =>
    obtain ⟨ht, hn⟩ := hb rfl
    have HS := Lib.hid (short_of ht)
    clear hb
    cases r with
    | none =>
      have g2 : (er != 0) = true := by simpa using herr rfl
      clear herr hok
      go_wp2_with fail
      refine HNew.out.mono ?_
      rintro e w1 ⟨hb1, rfl⟩
      have HB1 := Lib.hid hb1
      clear hb1
      go_wp2_with fail
      refine (known_calls _).mono ?_
      rintro e wk_ ⟨rfl, h_⟩
      have HBk_ := Lib.hid h_
      clear h_
      go_wp2
      go_ret
      exact ⟨rfl, Below.then_ (HB1.out) HBk_.out⟩
    | some ps =>
      obtain rfl : er = 0 := hok ps rfl
      clear herr hok
      go_wp2_with fail
      refine HNew.out.mono ?_
      rintro e w1 ⟨hb1, pb, a2, n2, c2, rfl, hp1⟩
      have HB1 := Lib.hid hb1
      have HP1 := Lib.hid hp1
      have HX1 := Lib.hid (HX.out.on hb1)
      clear hb1 hp1
      have HC2 := Lib.hid (match_calls _ pb a2 n2 c2 _ a n c xs w1 HP1.out (Nat.le_refl _) HX1.out HS.out)
      go_wp2_with fail
      refine (HC2.out).mono ?_
      rintro e w2 ⟨rfl, h_⟩
      have HD2 := Lib.hid h_
      clear h_
      have HB2 := Lib.hid (HB1.out.then_ HD2.out)
      have HP2 := Lib.hid ((HP1.out.on HD2.out (Nat.le_refl _)).mono HD2.out.size)
      cases hmt : Glb.mt (ps.map Glb.abP) xs
      · go_wp2_with fail
        refine (known_calls _).mono ?_
        rintro e wk_ ⟨rfl, h_⟩
        have HBk_ := Lib.hid h_
        clear h_
        go_wp2
        go_ret
        exact ⟨rfl, Below.then_ (HB2.out) HBk_.out⟩
      · have HK := Lib.hid (show MayK ps xs from fun k => Glb.may_of (v := xs.drop k) (by rw [List.take_append_drop]; exact hmt))
        clear hmt
        go_wp2_with fail
        go_loop [7] (fun i => ∃ k : Nat, k ≤ n ∧ i = .int .i64 k) (fun i => n - (intOf i).toNat)
        case atStart => exact ⟨0, by omega, rfl⟩
        case round =>
          obtain ⟨k, hk, rfl⟩ := hrel
          by_cases hlt : k < n
          · obtain ⟨b, o, hk', rfl, _, hcx⟩ := (HX.out.on HB2.out).atS hlt
            have g2 : (0 : Int) ≤ (k : Int) := by omega
            have g3 : (k : Int) < (n : Int) := by omega
            generalize xs[k] = x at *
            by_cases hx0 : x = []
            · subst hx0
              clear hk'
              go_wp2_with fail
              refine (known_calls _).mono ?_
              rintro e wk_ ⟨rfl, h_⟩
              have HBk_ := Lib.hid h_
              clear h_
              go_wp2
              go_ret
              exact ⟨rfl, Below.then_ (HB2.out) HBk_.out⟩
            · have g4 : (x == []) = false := by simpa using hx0
              have g5 : x.isEmpty = false := by simpa using hx0
              clear hx0 hk'
              go_wp2_with fail
              go_round
              case rel => exact ⟨k + 1, by omega, by go_num⟩
              case measure => simp [intOf]; omega
          · obtain rfl : k = n := by omega
            have g3 : decide ((k : Int) < (k : Int)) = false := decide_eq_false (by omega)
            go_wp2_with fail
            go_loopw [8] (fun i wr => ∃ q : Nat, q ≤ k + 1 ∧ i = .int .i64 q ∧ Below w2.heap.size w2 wr) (fun i _ => k + 1 - (intOf i).toNat)
            case atStart => exact ⟨0, by omega, rfl, Below.refl _ _⟩
            case round =>
              obtain ⟨q, hq, rfl, hb⟩ := hrel
              have HB := Lib.hid hb
              have hsz := hb.size
              clear hb
              by_cases hlq : q ≤ k
              · have g4 : decide ((q : Int) ≤ (k : Int)) = true := decide_eq_true (by omega)
                have hct := fun u => cutS_to a k c q (by omega) u
                have hc := may_calls _ pb a2 n2 c2 ps a q c (xs.take q) wr (HP2.out.on HB.out (Nat.le_refl _)) hsz ((HX.out.on (HB2.out.then_ HB.out)).take hlq) (fun x hx => HS.out x (List.mem_of_mem_take hx))
                rw [HK.out q] at hc
                have HC := Lib.hid hc
                clear hc
                go_wp2_with fail
                refine HC.out.mono ?_
                rintro e w3 ⟨rfl, hb3⟩
                have HB3 := Lib.hid (HB.out.then_ hb3)
                clear hb3
                go_wp2_with fail
                go_roundw
                case rel => exact ⟨q + 1, by omega, by go_num, HB3.out⟩
                case measure => simp [intOf]; omega
              · have g4 : decide ((q : Int) ≤ (k : Int)) = false := decide_eq_false (by omega)
                go_wp2_with fail
                refine (known_calls _).mono ?_
                rintro e wk_ ⟨rfl, h_⟩
                have HBk_ := Lib.hid h_
                clear h_
                go_wp2
                go_ret
                exact ⟨rfl, Below.then_ ((HB2.out.then_ HB.out)) HBk_.out⟩
end Go.Proofs.Ytlnjfnpoabcllaa
