/-
  The reference's blocks: bytes cut into blocks; the reference's Codes.
-/
import Derived.Test.YtceoogpmcijlaaaBytes
import Derived.Test.YtceoogpmcijlaaaEccRowsM
import Derived.Test.YtceoogpmcijlaaaEccTop
import Derived.Test.YtceoogpmcijlaaaNumBig
namespace Go.Proofs.Ytceoogpmcijlaaa
open Go.RowKit

def slV (s : Option Addr × Nat × Nat) : Value := .slice s.1 s.2.1 s.2.2
theorem slV_one (s : Option Addr × Nat × Nat) : (slV s).oneCell' = true := rfl
theorem infoS : (Try.prog.info? 22).map (fun i => (i.zero, i.size, i.bytes)) = some (some (.slice none 0 0), 1, 24) := by kernel_rfl
/-- A literal of one slice, appended. -/
theorem wpList_litS {w : World} {ops : Array Oper} {rest : List Oper} {o : Oper} {ac : Act} {Q : Exit → Act → World → Prop} (hgd : o.guard = none) (s x : Operand)
    (ho : o.op = .call { callee := .builtin .append, args := #[s, x], argTypes := #[68, 68] }) (base : Nat)
    (v : Value) (xs : List (Option Addr × Nat × Nat)) (hs : ac.eval s = v) (hown : Own slV 22 w base v xs) (y : Option Addr × Nat × Nat) (hx : ac.eval x = .slice (some ⟨w.heap.size, 0, none⟩) 1 1)
    (cs : Array Value) (hcs : cs = #[slV y]) (hbytes : xs.length ≤ 1000000) (hbase : base ≤ w.heap.size)
    (h : ∀ v' w', Hid (Own slV 22 w' base v' (xs ++ [y])) → Hid (Below base w w') → wpList Try.prog ops Q rest (ac.put o.dst v') w') : wpList Try.prog ops Q (o :: rest) ac (w.alloc (.cells cs 22)) := by
  obtain ⟨i0, hi, hz0, hz1, hz2⟩ := info_parts infoS
  exact wpList_append_Own hgd s x 68 ho base 22 i0 _ 24 Try.underlying68 hi hz0 hz1 hz2 rfl slV_one v xs hs (hown.alloc _) _ _ 1 1 [y] hx (Arr.lit w 22 [y] 1 rfl (by omega) hcs) (by omega) (by simp only [maxLen]; omega) (by simp; omega) fun v' w' h1 h2 _ =>
    h v' w' (Lib.hid h1) (Lib.hid (((Below.refl base w).alloc hbase _).trans (below_own (Below.refl base _) (hown.alloc _) h2 (by simp; omega))))
def blkEl (b o n c k j : Nat) : Option Addr × Nat × Nat := (some ⟨b, o + k * j, none⟩, min k (n - k * j), c - k * j)
def blkRow (b o n c k m : Nat) : List (Option Addr × Nat × Nat) := (List.range m).map (blkEl b o n c k)
theorem blkRow_len (b o n c k m : Nat) : (blkRow b o n c k m).length = m := by simp [blkRow]
theorem blkRow_snoc (b o n c k m : Nat) : blkRow b o n c k (m + 1) = blkRow b o n c k m ++ [blkEl b o n c k m] := by simp [blkRow, List.range_succ]
theorem blkRow_at {b o n c k m j : Nat} (h : j < (blkRow b o n c k m).length) : (blkRow b o n c k m)[j] = blkEl b o n c k j := by simp [blkRow]
def lenV : Value → Nat
  | .slice _ n _ => n
  | _ => 0
def RowS (b o n c k : Nat) (w : World) (e : Ending) (w' : World) : Prop := (∃ v, e = .returned v ∧ Own slV 22 w' w.heap.size v (blkRow b o n c k (Ecc.blks n k))) ∧ Below w.heap.size w w'
set_option maxHeartbeats 1000000 in
theorem blocks_calls (a : Option Addr) (b o n c k : Nat) (w : World) (ha : n ≠ 0 → a = some ⟨b, o, none⟩) (hk : 1 ≤ k) (hk2 : k ≤ 4096) (hn : n ≤ 900) (hnc : n ≤ c) (hc : c ≤ 140737488351232) :
    Calls Try.prog 36 #[.slice a n c, .int .i64 k] w (RowS b o n c k w) := by
  by_cases hn0 : n = 0
  · subst hn0
    have hm := Ecc.blks_eq (l := 0) (n := k) (j := 0) hk (by omega) (.inl rfl)
    have HM := Lib.hid hm
    clear ha hm
    have hd : decide ((k : Int) < 0) = false := decide_eq_false (by omega)
    have hd2 : decide (k < 0) = false := decide_eq_false (by omega)
    go_enter Try.func36, Try.ntmps36
    go_wp2
    go_loopw [0, 5] (fun s v wr => s = .slice a 0 c ∧ v = .slice none 0 0 ∧ wr = w) (fun _ _ _ => 0)
    case atStart => exact ⟨rfl, rfl, rfl⟩
    case round =>
      obtain ⟨rfl, rfl, rfl⟩ := hrel
      go_wp2
      go_ret
      exact ⟨⟨_, rfl, by rw [HM.out]; exact Own.nil _ _⟩, Below.refl _ _⟩
  · obtain rfl := ha hn0
    have HBL := Lib.hid (fun j h1 h2 => Ecc.blks_eq (l := n) (n := k) (j := j) hk h1 h2)
    clear ha
    go_enter Try.func36, Try.ntmps36
    go_wp2
    go_loopw [0, 5] (fun s v wr => ∃ j n' c' o' : Nat, n' + k * j = n ∧ c' + k * j = c ∧ o' = o + k * j ∧ 1 ≤ n' ∧ s = .slice (some ⟨b, o', none⟩) n' c' ∧ Own slV 22 wr w.heap.size v (blkRow b o n c k j) ∧ Below w.heap.size w wr) (fun s _ _ => lenV s)
    case atStart => exact ⟨0, n, c, o, by simp, by simp, by simp, by omega, rfl, Own.nil _ _, Below.refl _ _⟩
    case round =>
      obtain ⟨j, n', c', o', h1, h2, h3, h4, rfl, ho, hb⟩ := hrel
      have hsz := hb.size
      have HO := Lib.hid ho
      have HB := Lib.hid hb
      have hjn : j ≤ 900 := by
        have : j * 1 ≤ k * j := by rw [Nat.mul_comm k]; exact Nat.mul_le_mul_left j hk
        omega
      have hlen := blkRow_len b o n c k j
      have HL := Lib.hid hlen
      obtain ⟨q, hq⟩ : ∃ q, q = k * j := ⟨_, rfl⟩
      have HQ1 := Lib.hid (show k * (j + 1) = q + k by rw [Nat.mul_succ, hq])
      rw [← hq] at h1 h2 h3
      have HEl := Lib.hid (show blkEl b o n c k j = (some ⟨b, o', none⟩, min k n', c') by
        unfold blkEl; rw [← hq, show n - q = n' by omega, show c - q = c' by omega, h3])
      have HQ := Lib.hid hq
      have H1 := Lib.hid h1
      have H2 := Lib.hid h2
      have H3 := Lib.hid h3
      clear ho hb hlen hq h1 h2 h3
      by_cases hlt : k < n'
      · have hcut1 := cutB_to (some ⟨b, o', none⟩) n' c' k (by have := H1.out; have := H2.out; omega)
        have hcut2 := cutB_from (some ⟨b, o', none⟩) n' c' k (by omega)
        rw [show cutA (some ⟨b, o', none⟩) c' k = some ⟨b, o' + k, none⟩ by rw [cutA, if_neg (by have := H1.out; have := H2.out; omega)]; exact congrArg some (Addr.add_mid b o' k)] at hcut2
        obtain ⟨n2, hn2⟩ : ∃ n2, n2 = n' - k := ⟨_, rfl⟩
        obtain ⟨c2, hc2⟩ : ∃ c2, c2 = c' - k := ⟨_, rfl⟩
        rw [← hn2, ← hc2] at hcut2
        have HN2 := Lib.hid hn2
        have HC2 := Lib.hid hc2
        clear hn2 hc2
        go_wp2_with (at_builtin; refine wpList_litS rfl _ _ rfl w.heap.size _ (blkRow b o n c k j) rfl HO.out (some ⟨b, o', none⟩, k, c') rfl _ rfl (by rw [HL.out]; omega) hsz ?_; intro v1 w1 HO1 HB1)
        go_roundw
        case rel =>
          refine ⟨j + 1, n2, c2, o' + k, ?_, ?_, ?_, ?_, rfl, ?_, HB.out.trans HB1.out⟩
          · rw [HQ1.out, HN2.out]; have := H1.out; omega
          · rw [HQ1.out, HC2.out]; have := H1.out; have := H2.out; omega
          · rw [HQ1.out, H3.out]; omega
          · rw [HN2.out]; omega
          · rw [blkRow_snoc, HEl.out, Nat.min_eq_left (by omega)]; exact HO1.out
        case measure => simp [lenV]; rw [HN2.out]; omega
      · have HM := Lib.hid (HBL.out (j + 1) (by rw [HQ1.out]; have := H1.out; omega) (.inr (by rw [Nat.add_sub_cancel, ← HQ.out]; have := H1.out; omega)))
        have hpos : 0 < n' := h4
        go_wp2_with (at_builtin; refine wpList_litS rfl _ _ rfl w.heap.size _ (blkRow b o n c k j) rfl HO.out (some ⟨b, o', none⟩, n', c') rfl _ rfl (by rw [HL.out]; omega) hsz ?_; intro v1 w1 HO1 HB1)
        go_ret
        refine ⟨⟨_, rfl, ?_⟩, HB.out.trans HB1.out⟩
        rw [HM.out, blkRow_snoc, HEl.out, Nat.min_eq_right (by omega)]
        exact HO1.out
def Ecc.codesE (xs : List UInt8) (k : Int) : List UInt8 × Int := if 1 ≤ k ∧ k ≤ 4096 then (Ecc.codesOf xs k.toNat (List.range (Ecc.blks xs.length k.toNat)), 0) else ([], 1)
theorem Ecc.codesE_bad {xs : List UInt8} {k : Int} (h : ¬ (1 ≤ k ∧ k ≤ 4096)) : Ecc.codesE xs k = ([], 1) := if_neg h
theorem Ecc.codesE_good {xs : List UInt8} {k : Nat} (h : 1 ≤ k ∧ k ≤ 4096) : Ecc.codesE xs (k : Int) = (Ecc.codesOf xs k (List.range (Ecc.blks xs.length k)), 0) := if_pos (by omega)
def CodesR (r : List UInt8 × Int) (w : World) (e : Ending) (w' : World) : Prop :=
  ∃ a n c, e = .returned (.tuple #[.slice a n c, .int .i64 r.2]) ∧ Bytes w' w'.heap.size a n r.1 ∧ Below w.heap.size w w'
/-- Block j, as it lies. -/
theorem chunk_arr {w : World} {b o n k j : Nat} {c : Nat} {B : Nat} {xs : List UInt8} (h : Bytes w B (some ⟨b, o, none⟩) n xs) (hj : k * j < n) (hnc : n ≤ c) : Bytes w B (some ⟨b, o + k * j, none⟩) (min k (n - k * j)) (Ecc.chunk xs k j) := by
  have hl := h.len
  have h1 := (h.drop (l := k * j) (by omega) hnc).take (k := min k (n - k * j)) (by omega)
  rw [cutA, if_neg (by omega), Option.map_some, Addr.add_mid] at h1
  have e : (xs.drop (k * j)).take (min k (n - k * j)) = Ecc.chunk xs k j := by
    unfold Ecc.chunk
    by_cases h9 : n - k * j ≤ k
    · rw [Nat.min_eq_right h9, List.take_of_length_le (by rw [List.length_drop]; omega), List.take_of_length_le (by rw [List.length_drop]; omega)]
    · rw [Nat.min_eq_left (by omega)]
  rw [e] at h1
  exact h1
set_option maxHeartbeats 1000000 in
theorem refCodes_calls (a : Option Addr) (n c : Nat) (xs : List UInt8) (k : Int) (w : World) (hx : Bytes w w.heap.size a n xs) (hn : n ≤ 900) (hnc : n ≤ c) (hc : c ≤ 140737488351232) :
    Calls Try.prog 20 #[.slice a n c, .int .i64 k] w (CodesR (Ecc.codesE xs k) w) := by
  have HX := Lib.hid hx
  have HLX := Lib.hid hx.len
  clear hx
  by_cases hk1 : k < 1
  · rw [Ecc.codesE_bad (by omega)]
    go_enter Try.func20, Try.ntmps20
    go_wp2
    go_ret2
    exact ⟨_, _, _, rfl, Arr.none_ _ _ _, Below.refl _ _⟩
  by_cases hk2 : 4096 < k
  · rw [Ecc.codesE_bad (by omega)]
    go_enter Try.func20, Try.ntmps20
    go_wp2
    go_ret2
    exact ⟨_, _, _, rfl, Arr.none_ _ _ _, Below.refl _ _⟩
  obtain ⟨k, rfl⟩ : ∃ m : Nat, k = m := ⟨k.toNat, by omega⟩
  rw [Ecc.codesE_good (by omega)]
  have h1 : 1 ≤ k := by omega
  have h2 : k ≤ 4096 := by omega
  have g1 : decide ((k : Int) < 1) = false := decide_eq_false (by omega)
  have g2 : decide (4096 < (k : Int)) = false := decide_eq_false (by omega)
  obtain ⟨b, o, hbo⟩ : ∃ b o, n ≠ 0 → a = some ⟨b, o, none⟩ := by
    by_cases h0 : n = 0
    · exact ⟨0, 0, fun h => absurd h0 h⟩
    · obtain ⟨b, o, _, ha, _⟩ := HX.out.atv (k := 0) (by omega)
      exact ⟨b, o, fun _ => ha⟩
  rw [HLX.out]
  obtain ⟨m, hm⟩ : ∃ m, m = Ecc.blks n k := ⟨_, rfl⟩
  have hmn : m ≤ n := by rw [hm]; exact Ecc.blks_le h1
  have HLT := Lib.hid (fun j => (show j < m ↔ k * j < n by rw [hm]; exact Ecc.lt_blks h1))
  have hbl := Lib.hid (blocks_calls a b o n c k w hbo h1 h2 hn hnc hc)
  rw [← hm]
  unfold RowS at hbl
  rw [← hm] at hbl
  have HBO := Lib.hid hbo
  clear hm hbo hk1 hk2
  go_enter Try.func20, Try.ntmps20
  go_wp2_with fail
  refine hbl.out.mono ?_
  rintro e w1 ⟨⟨v0, rfl, ho⟩, hb⟩
  have hsz := hb.size
  have HR := Lib.hid ho
  have HB0 := Lib.hid hb
  obtain ⟨a0, c0, rfl, hc0⟩ := ho.formN (blkRow_len b o n c k m)
  clear ho hb
  go_wp2
  go_loopw [6, 8, 9, 10] (fun v i _ _ wr => ∃ j : Nat, j ≤ m ∧ i = .int .i64 j ∧ Own byteV 5 wr w1.heap.size v (Ecc.codesOf xs k (List.range j)) ∧ Below w1.heap.size w1 wr) (fun _ i _ _ _ => m - (intOf i).toNat)
  case atStart => exact ⟨0, by omega, rfl, Own.nil _ _, Below.refl _ _⟩
  case round =>
    obtain ⟨j, hj, rfl, ho, hb⟩ := hrel
    have hszr := hb.size
    have HO := Lib.hid ho
    have HB := Lib.hid hb
    have hl := Ecc.codesOf_len xs k (List.range j)
    rw [List.length_range] at hl
    have HL := Lib.hid hl
    clear ho hb hl
    by_cases hlt : j < m
    · have hkj := (HLT.out j).1 hlt
      obtain rfl := HBO.out (by omega)
      have hrow := HR.out.on HB.out
      obtain ⟨g, rfl, hgb, hgl⟩ := hrow.addr (by rw [blkRow_len]; omega)
      obtain ⟨hcell, _⟩ := hrow.cellg (k := j) (by rw [blkRow_len]; omega)
      rw [blkRow_at] at hcell
      have hch := chunk_arr (c := c) (HX.out.on (HB0.out.then_ HB.out)) hkj hnc
      obtain ⟨o', ho'⟩ : ∃ o', o' = o + k * j := ⟨_, rfl⟩
      obtain ⟨m', hm'⟩ : ∃ m', m' = min k (n - k * j) := ⟨_, rfl⟩
      obtain ⟨c', hc'⟩ : ∃ c', c' = c - k * j := ⟨_, rfl⟩
      have hcell2 : wr.cell? ⟨g, j, none⟩ = some (.slice (some ⟨b, o', none⟩) m' c') := by rw [ho', hm', hc']; exact hcell
      rw [← ho', ← hm'] at hch
      have hm1 : 1 ≤ m' ∧ m' ≤ 4096 := by omega
      have HCH := Lib.hid hch
      have HKJ := Lib.hid hkj
      clear hcell hch ho' hm' hc' hrow hkj
      have hxl : (Ecc.chunk xs k j).length ≤ 4096 := by rw [HCH.out.len]; exact hm1.2
      have hcl := Ecc.code_lt (Ecc.chunk xs k j) hxl
      go_wp2_with fail
      refine (refCode_calls _ m' c' (Ecc.chunk xs k j) _ HCH.out).mono ?_
      rintro e w2 ⟨rfl, hb2⟩
      rw [show Ecc.codeE (Ecc.chunk xs k j) m' = #[.int .u32 (Ecc.code (Ecc.chunk xs k j) : Nat), .int .i64 0] from if_pos hm1]
      have hs2 := hb2.size
      have HB2 := Lib.hid hb2
      clear hb2
      go_wp2_with fail
      refine (refBig_calls (Ecc.code (Ecc.chunk xs k j)) 4 _ (by omega) (by omega)).mono ?_
      rintro e w3 ⟨v3, rfl, ho3, hb3⟩
      have hs3 := hb3.size
      obtain ⟨a3, c3, rfl, _⟩ := ho3.formN (bigL_len _ _)
      have HX3 := Lib.hid (ho3.arr (by rw [bigL_len]; omega))
      have HB3 := Lib.hid (HB2.out.then_ hb3)
      have HO3 := Lib.hid (HO.out.on HB3.out)
      have HSn := Lib.hid (show Ecc.codesOf xs k (List.range (j + 1)) = Ecc.codesOf xs k (List.range j) ++ bigL (Ecc.code (Ecc.chunk xs k j)) 4 by rw [List.range_succ, Ecc.codesOf_snoc])
      clear ho3 hb3
      go_wp2_with (at_builtin; refine wpList_ontoB rfl _ _ rfl w1.heap.size _ _ rfl HO3.out _ a3 4 c3 _ rfl HX3.out (by rw [HL.out]; omega) (by omega) ?_; intro v4 w4 HO4 HB4)
      go_roundw
      case rel => exact ⟨j + 1, by omega, by go_num, by rw [HSn.out]; exact HO4.out, (HB.out.trans (HB3.out.mono hszr)).trans HB4.out⟩
      case measure => simp [intOf]; omega
    · obtain rfl : j = m := by omega
      obtain ⟨a4, c4, rfl, _⟩ := HO.out.formN HL.out
      go_wp2
      go_ret2
      exact ⟨_, _, _, rfl, HO.out.arr (by rw [HL.out]; omega), HB0.out.then_ HB.out⟩
end Go.Proofs.Ytceoogpmcijlaaa
