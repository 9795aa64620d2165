/-
  The reference's group: a set's mark.
-/
import Derived.Test.YtlnjfnpoabcllaaGlbRm
import Derived.StillTailTactics
import Derived.Deep.QuietTactic
import Derived.BigQuiet
namespace Go.Proofs.Ytlnjfnpoabcllaa
open Go.RowKit

theorem results_cell_tmp {P : Program} {fn : Func} {p q : Tmp} {ty : TypeId} (h : fn.results = #[.cell p ty, .tmp q]) (tmps : Array Value) (w : World) (g : Nat) (t : TypeId) (cs : Array Value) (fr : Nat × Nat) (d : TypeDesc)
    (hp : tmps.getD p undef = .pointer (some ⟨g, 0, none⟩)) (hg : w.heap[g]? = some (.cells cs t fr))
    (hu : P.underlying ty = some d) (hd : (match d with | .struct _ | .array _ _ => true | _ => false) = true) (hi : (P.info? ty).map (·.size) = some cs.size) (v : Value) (hv : tmps.getD q undef = v) :
    (results fn tmps).run P w = .ok (.tuple #[.agg cs, v]) w := by
  have hp' : tmps[p]?.getD undef = .pointer (some ⟨g, 0, none⟩) := by simpa using hp
  have hv' : tmps[q]?.getD undef = v := by simpa using hv
  simp [results, h, hp', hv', asAddr, run_loadVar_row w g t ty cs fr d hg hu hd hi]
theorem rmA_size (m : Rm) : (rmA m).size = 257 := by simp [rmA, rmL, stL]
theorem rmA_st (m : Rm) (i : Nat) (h : i < 256) : (rmA m)[1 + i]? = some (.bool (m.st i)) := by rw [Nat.add_comm]; simp [rmA, rmL, stL, h]
theorem rmA_many (m : Rm) : (rmA m)[0]? = some (.bool m.many) := by simp [rmA, rmL]
theorem rmA_set (b : Bool) (f : Nat → Bool) (k : Nat) (x : Bool) : (rmA ⟨b, f⟩).setIfInBounds (1 + k) (.bool x) = rmA ⟨b, fun i => if i = k then x else f i⟩ := by
  have h := congrArg Array.toList (stA_set f k x)
  rw [Nat.add_comm]
  simp only [rmA, rmL, List.setIfInBounds_toArray, List.set_cons_succ]
  simp only [stA, List.setIfInBounds_toArray] at h
  rw [h]
theorem rmA_congr {b : Bool} {f g : Nat → Bool} (h : ∀ i, i < 256 → f i = g i) : rmA ⟨b, f⟩ = rmA ⟨b, g⟩ := by
  have h := congrArg Array.toList (stA_congr h)
  simp only [stA] at h
  simp only [rmA, rmL]
  rw [h]
theorem rmA_one (m : Rm) : (rmA m).all (·.oneCell') = true := by
  rw [Array.all_eq_true_iff_forall_mem]
  intro v hv
  simp only [rmA, rmL, stL, List.mem_toArray, List.mem_cons, List.mem_map] at hv
  rcases hv with rfl | ⟨i, _, rfl⟩ <;> rfl
def rm0 : Rm := ⟨false, fun _ => false⟩
namespace Glb
def inBN (l : List (UInt8 × UInt8)) (i : Nat) : Bool := l.any fun x => decide (x.1.toNat ≤ i) && decide (i ≤ x.2.toNat)
theorem inBN_snoc (l : List (UInt8 × UInt8)) (c e : UInt8) (i : Nat) : inBN (l ++ [(c, e)]) i = (inBN l i || (decide (c.toNat ≤ i) && decide (i ≤ e.toNat))) := by simp [inBN]
theorem grp_one {s : List UInt8} {acc : List (UInt8 × UInt8)} {k : Nat} (h : k < s.length) (hc : s[k] ≠ 93) (hr : ∀ h2 : k + 2 < s.length, s[k + 1] = 45 → s[k + 2] = 93) : mem acc (s.drop k) = mem (acc ++ [(s[k], s[k])]) (s.drop (k + 1)) := by
  rw [List.drop_eq_getElem_cons h]
  refine mem_one acc s[k] _ hc ?_
  by_cases h2 : k + 2 < s.length
  · rw [List.drop_eq_getElem_cons (by omega : k + 1 < s.length), List.drop_eq_getElem_cons h2]
    exact decide_eq_false fun e => e.2 (hr h2 e.1)
  · have hlen : (s.drop (k + 1)).length ≤ 1 := by rw [List.length_drop]; omega
    match hq : s.drop (k + 1) with
    | [] => rfl
    | [_] => rfl
    | _ :: _ :: _ => rw [hq] at hlen; simp at hlen
theorem grp_range {s : List UInt8} {acc : List (UInt8 × UInt8)} {k : Nat} (h2 : k + 2 < s.length) (hc : s[k] ≠ 93) (h45 : s[k + 1] = 45) (he : s[k + 2] ≠ 93) : mem acc (s.drop k) = mem (acc ++ [(s[k], s[k + 2])]) (s.drop (k + 2 + 1)) := by
  rw [List.drop_eq_getElem_cons (by omega : k < s.length), List.drop_eq_getElem_cons (by omega : k + 1 < s.length), List.drop_eq_getElem_cons h2]
  obtain ⟨d, e, r, h, _, _, hm⟩ := mem_range acc s[k] (s[k + 1] :: s[k + 2] :: s.drop (k + 2 + 1)) hc (decide_eq_true ⟨h45, he⟩)
  injection h with h3 h4
  injection h4 with h4 h5
  rw [hm, ← h4, ← h5]
theorem byte_wrap (c : UInt8) : wrap64 ((c.toNat : Nat) : Int) = c.toNat := by
  have := c.toNat_lt
  unfold wrap64
  omega
/-- A set's mark and how long it is. -/
def grp (s : List UInt8) : Option (Rm × Nat) := (mem [] (behindNot s)).map fun p => (⟨false, fun i => inBN p.1 i != isNot s⟩, s.length - 1 - p.2.length)
end Glb
theorem flip0 (f : Nat → Bool) (a : Nat) : rmA ⟨false, fun i => f i || (decide (a ≤ i) && decide (i < a))⟩ = rmA ⟨false, f⟩ := rmA_congr fun i _ => by
  have h : (decide (a ≤ i) && decide (i < a)) = false := by
    by_cases h : a ≤ i
    · rw [decide_eq_false (show ¬ i < a by omega), Bool.and_false]
    · rw [decide_eq_false h, Bool.false_and]
  rw [h, Bool.or_false]
theorem stepj (f : Nat → Bool) (a j : Nat) (ha : a ≤ j) : rmA ⟨false, fun i => if i = j then true else (f i || (decide (a ≤ i) && decide (i < j)))⟩ = rmA ⟨false, fun i => f i || (decide (a ≤ i) && decide (i < j + 1))⟩ := rmA_congr fun i _ => by
  by_cases h : i = j
  · rw [if_pos h, decide_eq_true (show a ≤ i by omega), decide_eq_true (show i < j + 1 by omega)]; simp
  · rw [if_neg h]
    by_cases h2 : i < j
    · rw [decide_eq_true h2, decide_eq_true (show i < j + 1 by omega)]
    · rw [decide_eq_false h2, decide_eq_false (show ¬ i < j + 1 by omega)]
theorem endj (acc : List (UInt8 × UInt8)) (c e : UInt8) (j : Nat) (_h1 : c.toNat ≤ j) (h2 : j = c.toNat ∨ j ≤ e.toNat + 1) (h3 : ¬ j ≤ e.toNat) : rmA ⟨false, fun i => Glb.inBN acc i || (decide (c.toNat ≤ i) && decide (i < j))⟩ = rmA ⟨false, Glb.inBN (acc ++ [(c, e)])⟩ := rmA_congr fun i _ => by
  rw [Glb.inBN_snoc]
  congr 1
  rw [Bool.eq_iff_iff, Bool.and_eq_true, Bool.and_eq_true, decide_eq_true_iff, decide_eq_true_iff, decide_eq_true_iff]
  omega
theorem flipS (f : Nat → Bool) (j : Nat) : rmA ⟨false, fun i => if i = j then !(f j) else (if i < j then !(f i) else f i)⟩ = rmA ⟨false, fun i => if i < j + 1 then !(f i) else f i⟩ := rmA_congr fun i _ => by
  by_cases h : i = j
  · subst h; rw [if_pos rfl, if_pos (by omega)]
  · rw [if_neg h]
    by_cases h2 : i < j
    · rw [if_pos h2, if_pos (by omega)]
    · rw [if_neg h2, if_neg (by omega)]
theorem flipE (f : Nat → Bool) : rmA ⟨false, fun i => if i < 256 then !(f i) else f i⟩ = rmA ⟨false, fun i => f i != true⟩ := rmA_congr fun i hi => by rw [if_pos hi]; cases f i <;> rfl
theorem flipN (f : Nat → Bool) : rmA ⟨false, f⟩ = rmA ⟨false, fun i => f i != false⟩ := rmA_congr fun i _ => by cases f i <;> rfl
def grpV (s : List UInt8) : Value := match Glb.grp s with
  | none => .tuple #[.agg (rmA rm0), .int .i64 (-1)]
  | some (m, n) => .tuple #[.agg (rmA m), .int .i64 n]
def GrpI (s : List UInt8) (fr : Nat) (R : Option (List (UInt8 × UInt8) × List UInt8)) (w wr : World) (k : Nat) (acc : List (UInt8 × UInt8)) : Prop :=
  fr ≤ k ∧ k ≤ s.length ∧ (acc = [] → k = fr) ∧ (acc ≠ [] → fr < k) ∧ R = Glb.mem acc (s.drop k) ∧ Blk wr w.heap.size 85 (rmA rm0) ∧ Blk wr (w.heap.size + 1) 85 (rmA ⟨false, Glb.inBN acc⟩) ∧ Below w.heap.size w wr
theorem zero85' (w : World) : (zeroValue 85).run Try.prog w = .ok (.agg (rmA rm0)) w := zero85 w
attribute [local go_sem] zero85' rmA_size strL_cut
set_option maxRecDepth 100000 in
set_option maxHeartbeats 8000000 in
theorem group_calls (s : List UInt8) (w : World) (hl : s.length ≤ 1000) :
    Calls Try.prog 45 #[.string (strL s)] w fun e w' => e = .returned (grpV s) ∧ Below w.heap.size w w' := by
  obtain ⟨R, hR⟩ : ∃ R, R = Glb.mem [] (Glb.behindNot s) := ⟨_, rfl⟩
  obtain ⟨ng, hng⟩ : ∃ b, b = Glb.isNot s := ⟨_, rfl⟩
  obtain ⟨fr, hfr⟩ : ∃ n : Nat, n = if Glb.isNot s then 1 else 0 := ⟨_, rfl⟩
  have HV := Lib.hid (show grpV s = match R.map (fun p => ((⟨false, fun i => Glb.inBN p.1 i != ng⟩, s.length - 1 - p.2.length) : Rm × Nat)) with | none => .tuple #[.agg (rmA rm0), .int .i64 (-1)] | some (m, n) => .tuple #[.agg (rmA m), .int .i64 n] by rw [hR, hng]; rfl)
  have H0 := Lib.hid (((Blk.new w 85 (rmA rm0)).alloc (.cells (rmA rm0) 85)).rowFar (g' := w.heap.size + 1) (by omega) (rmA rm0))
  have H1 := Lib.hid (Blk.two w 85 85 (rmA rm0) (rmA rm0))
  have H2 := Lib.hid (H1.out.row (rmA rm0))
  have HB := Lib.hid ((((Below.refl w.heap.size w).alloc (Nat.le_refl _) (.cells (rmA rm0) 85)).alloc (by simp) (.cells (rmA rm0) 85)).setRow_ (show w.heap.size ≤ w.heap.size + 1 by omega) (rmA rm0))
  have hcase : ((¬ 0 < s.length) ∧ ng = false ∧ fr = 0 ∧ Glb.behindNot s = s.drop fr) ∨ (0 < s.length ∧ (∀ h : 0 < s.length, s[0] = 33) ∧ ng = true ∧ fr = 1 ∧ Glb.behindNot s = s.drop fr) ∨ (0 < s.length ∧ (∀ h : 0 < s.length, ((s[0].toNat : Int) == 33) = false) ∧ ng = false ∧ fr = 0 ∧ Glb.behindNot s = s.drop fr) := by
    cases s with
    | nil => subst hfr; exact .inl ⟨by simp, hng, rfl, rfl⟩
    | cons c t =>
      by_cases hc : c = 33
      · subst hc; subst hfr; exact .inr (.inl ⟨by simp, fun _ => rfl, hng, rfl, rfl⟩)
      · have h0 : ¬ (c :: t).head? = some 33 := by simpa using hc
        have e : Glb.isNot (c :: t) = false := decide_eq_false h0
        rw [e] at hng hfr
        subst hfr
        exact .inr (.inr ⟨by simp, fun _ => u8_ne (by decide) hc, hng, rfl, if_neg h0⟩)
  have HS : Hid (GrpI s fr R w (((w.alloc (.cells (rmA rm0) 85)).alloc (.cells (rmA rm0) 85)).setRow (w.heap.size + 1) (rmA rm0)) fr []) := by
    have hfl : fr ≤ s.length ∧ Glb.behindNot s = s.drop fr := by
      rcases hcase with ⟨_, _, h3, h4⟩ | ⟨h1, _, _, h3, h4⟩ | ⟨_, _, _, h3, h4⟩
      · exact ⟨by omega, h4⟩
      · exact ⟨by omega, h4⟩
      · exact ⟨by omega, h4⟩
    exact ⟨Nat.le_refl _, hfl.1, fun _ => rfl, fun h => absurd rfl h, by rw [hR, hfl.2], H0.out, H2.out, HB.out⟩
  have hl2 : (s.length : Int) ≤ 1000 := by omega
  clear hR hng hfr H0 H2 HB
  go_enter Try.func45, Try.ntmps45
  rcases hcase with ⟨g0, rfl, rfl, _⟩ | ⟨g0, h33, rfl, rfl, _⟩ | ⟨g0, h33, rfl, rfl, _⟩
  · have h33 := trivial
    go_wp2_with (refine wpList_store_blk rfl rfl _ _ _ rfl (w.heap.size + 1) _ rfl rfl 85 (rmA rm0) H1.out rfl (by rw [rmA_size]; kernel_rfl) (rmA_one _) ?_)
    clear H1
    generalize World.setRow _ (w.heap.size + 1) (rmA rm0) = w1 at *
    go_loopw [5] (fun i wr => ∃ (k : Nat) (acc : List (UInt8 × UInt8)), i = .int .i64 k ∧ GrpI s 0 R w wr k acc) (fun i _ => s.length - (intOf i).toNat)
    case atStart => exact ⟨0, [], rfl, HS.out⟩
    case round =>
      obtain ⟨k, acc, rfl, hk1, hk2, ha1, ha2, hR, h0, h1, hb⟩ := hrel
      have HH0 := Lib.hid h0
      have HH1 := Lib.hid h1
      have HHB := Lib.hid hb
      have hsz := hb.size
      have HA1 := Lib.hid ha1
      have HA2 := Lib.hid ha2
      clear h0 h1 hb HS ha1 ha2 h33 g0
      by_cases hlt : k < s.length
      · obtain ⟨c, hc⟩ : ∃ c, s[k] = c := ⟨_, rfl⟩
        have g1 : decide ((k : Int) < s.length) = true := decide_eq_true (by omega)
        have f2 : ((k : Int) == (s.length : Int)) = false := by rw [beq_eq_false_iff_ne]; omega
        by_cases h93 : c = 93
        · have f1 : ((c.toNat : Int) == 93) = true := by subst h93; rfl
          have HD := Lib.hid (show s.drop k = 93 :: s.drop (k + 1) by rw [List.drop_eq_getElem_cons hlt, hc, h93])
          by_cases ha : acc = []
          · have f3 : ((k : Int) == 0) = true := by rw [HA1.out ha]; rfl
            have HN := Lib.hid (show R = none by rw [hR, HD.out, Glb.mem_end, if_pos ha])
            clear hR
            go_wp2_with (refine wpList_store_blk rfl rfl _ _ _ rfl w.heap.size _ rfl rfl 85 (rmA rm0) HH0.out rfl (by rw [rmA_size]; kernel_rfl) (rmA_one _) ?_)
            refine bodyPost_ret (results_cell_tmp rfl _ _ w.heap.size _ _ _ _ rfl (HH0.out.row _) Try.underlying85 rfl (by rw [rmA_size]; kernel_rfl) _ rfl) rfl ⟨by rw [HV.out, HN.out]; rfl, HHB.out.setRow_ (Nat.le_refl _) _⟩
          · have f3 : ((k : Int) == 0) = false := by rw [beq_eq_false_iff_ne]; have := HA2.out ha; omega
            have HN := Lib.hid (show R = some (acc, s.drop (k + 1)) by rw [hR, HD.out, Glb.mem_end, if_neg ha])
            clear hR
            have PP0 := HH0
            have PP1 := Lib.hid (show Blk wr (w.heap.size + 1) 85 (rmA ⟨false, fun i => Glb.inBN acc i != false⟩) by rw [← flipN]; exact HH1.out)
            have PPB := HHB
            clear HH0 HH1 HHB
            go_wp2_with fail
            go_loopw [11] (fun x wr' => x = .int .i64 0 ∧ wr' = wr) (fun x _ => 256 - (intOf x).toNat)
            case atStart => exact ⟨rfl, rfl⟩
            case round =>
              obtain ⟨rfl, rfl⟩ := hrel
              go_wp2_with (first | refine wpList_load_blk rfl _ _ rfl (w.heap.size + 1) rfl 85 _ _ PP1.out Try.underlying85 rfl (by rw [rmA_size]; kernel_rfl) ?_ | refine wpList_store_blk rfl rfl _ _ _ rfl w.heap.size _ rfl rfl 85 (rmA rm0) PP0.out (by rw [rmA_size, rmA_size]) (by rw [rmA_size]; kernel_rfl) (rmA_one _) ?_)
              refine bodyPost_ret (results_cell_tmp rfl _ _ w.heap.size _ _ _ _ rfl (PP0.out.row _) Try.underlying85 rfl (by rw [rmA_size]; kernel_rfl) _ rfl) rfl ⟨?_, PPB.out.setRow_ (Nat.le_refl _) _⟩
              rw [HV.out, HN.out]
              refine congrArg Ending.returned (congrArg Value.tuple ?_)
              have e9 : s.length - 1 - (s.drop (k + 1)).length = k := by rw [List.length_drop]; omega
              have e8 : rmA ⟨false, fun i => Glb.inBN acc i != false⟩ = rmA ⟨false, fun i => Glb.inBN acc i⟩ := rmA_congr fun i _ => by cases Glb.inBN acc i <;> rfl
              show #[_, Value.int .i64 (k : Int)] = #[Value.agg (rmA ⟨false, fun i => Glb.inBN acc i != false⟩), Value.int .i64 ((s.length - 1 - (s.drop (k + 1)).length : Nat) : Int)]
              rw [e9]
              first
                | rfl
                | (rw [e8]; done)
                | (rw [e8]; rfl)
        · have f1 := u8_ne (c := c) (n := 93) (by decide) h93
          have hw := Glb.byte_wrap c
          have hct := c.toNat_lt
          have hca : s[k] ≠ 93 := by rw [hc]; exact h93
          have hcase : (∃ gA : decide ((k : Int) + 2 < s.length) = false, R = Glb.mem (acc ++ [(c, c)]) (s.drop (k + 1))) ∨ (∃ d, ∃ h : k + 2 < s.length, s[k + 1] = d ∧ ((d.toNat : Int) == 45) = false ∧ R = Glb.mem (acc ++ [(c, c)]) (s.drop (k + 1))) ∨ (∃ h : k + 2 < s.length, s[k + 1] = 45 ∧ s[k + 2] = 93 ∧ R = Glb.mem (acc ++ [(c, c)]) (s.drop (k + 1))) ∨ (∃ e, ∃ h : k + 2 < s.length, s[k + 1] = 45 ∧ s[k + 2] = e ∧ ((e.toNat : Int) == 93) = false ∧ R = Glb.mem (acc ++ [(c, e)]) (s.drop (k + 2 + 1))) := by
            rw [hR, ← hc]
            by_cases h2 : k + 2 < s.length
            · by_cases hd : s[k + 1] = 45
              · by_cases he : s[k + 2] = 93
                · exact .inr (.inr (.inl ⟨h2, hd, he, Glb.grp_one hlt hca fun _ _ => he⟩))
                · exact .inr (.inr (.inr ⟨_, h2, hd, rfl, u8_ne (by decide) he, Glb.grp_range h2 hca hd he⟩))
              · exact .inr (.inl ⟨_, h2, rfl, u8_ne (by decide) hd, Glb.grp_one hlt hca fun _ h => absurd h hd⟩)
            · exact .inl ⟨decide_eq_false (by omega), Glb.grp_one hlt hca fun h => absurd h h2⟩
          clear hR hca h93
          go_wp2_with fail
          go_quiet (fail)
          have HD0 := Lib.hid (HH0.out.drewN nq)
          have HD1 := Lib.hid (HH1.out.drewN nq)
          have HDB := Lib.hid (HHB.out.trans (show Below w.heap.size wr (wr.drewN nq) from ⟨rfl, rfl, rfl, Nat.le_refl _, fun _ _ => rfl⟩))
          have hszd : w.heap.size ≤ (wr.drewN nq).heap.size := hsz
          clear HH0 HH1 HHB hsz
          generalize wr.drewN nq = w2 at *
          rcases hcase with ⟨gA, hN⟩ | ⟨d, h2, hd, fB, hN⟩ | ⟨h2, hd, he, hN⟩ | ⟨e, h2, hd, he, fE, hN⟩
          · have HN := Lib.hid hN
            clear hN
            go_wp2
            go_loopw [10] (fun x wr => ∃ j : Nat, c.toNat ≤ j ∧ (j = c.toNat ∨ j ≤ c.toNat + 1) ∧ x = .int .i64 j ∧ Blk wr w.heap.size 85 (rmA rm0) ∧ Blk wr (w.heap.size + 1) 85 (rmA ⟨false, fun i => Glb.inBN acc i || (decide (c.toNat ≤ i) && decide (i < j))⟩) ∧ Below w.heap.size w wr) (fun x _ => 256 - (intOf x).toNat)
            case atStart => exact ⟨c.toNat, Nat.le_refl _, .inl rfl, rfl, HD0.out, by rw [flip0]; exact HD1.out, HDB.out⟩
            case round =>
              obtain ⟨j, hj1, hj2, rfl, p0, p1, pb⟩ := hrel
              have P0 := Lib.hid p0
              have P1 := Lib.hid p1
              have PB := Lib.hid pb
              clear p0 p1 pb HD0 HD1 HDB
              by_cases hj : j ≤ c.toNat
              · have hf := P1.out.frozen (1 + j)
                have hcl := P1.out.cellv (rmA_st _ j (by omega))
                go_wp2
                go_roundw
                case rel =>
                  refine ⟨j + 1, by omega, .inr (by omega), by go_num, P0.out.far (by simp) _, ?_, PB.out.setCell (by simp) _⟩
                  have h3 := P1.out.set (1 + j) (.bool true)
                  rw [rmA_set, stepj _ _ _ hj1] at h3
                  exact h3
                case measure => simp [intOf]; omega
              · have P2 := Lib.hid (show Blk _ (w.heap.size + 1) 85 (rmA ⟨false, Glb.inBN (acc ++ [(c, c)])⟩) by rw [← endj acc c c j hj1 hj2 hj]; exact P1.out)
                go_wp2
                go_roundw
                case rel => exact ⟨k + 1, acc ++ [(c, c)], by go_num, by omega, by omega, fun h => absurd h (by simp), fun _ => by omega, HN.out, P0.out, P2.out, PB.out⟩
                case measure => simp [intOf]; omega
          · have gA : decide ((k : Int) + 2 < s.length) = true := decide_eq_true (by omega)
            have HN := Lib.hid hN
            clear hN
            go_wp2
            go_loopw [10] (fun x wr => ∃ j : Nat, c.toNat ≤ j ∧ (j = c.toNat ∨ j ≤ c.toNat + 1) ∧ x = .int .i64 j ∧ Blk wr w.heap.size 85 (rmA rm0) ∧ Blk wr (w.heap.size + 1) 85 (rmA ⟨false, fun i => Glb.inBN acc i || (decide (c.toNat ≤ i) && decide (i < j))⟩) ∧ Below w.heap.size w wr) (fun x _ => 256 - (intOf x).toNat)
            case atStart => exact ⟨c.toNat, Nat.le_refl _, .inl rfl, rfl, HD0.out, by rw [flip0]; exact HD1.out, HDB.out⟩
            case round =>
              obtain ⟨j, hj1, hj2, rfl, p0, p1, pb⟩ := hrel
              have P0 := Lib.hid p0
              have P1 := Lib.hid p1
              have PB := Lib.hid pb
              clear p0 p1 pb HD0 HD1 HDB
              by_cases hj : j ≤ c.toNat
              · have hf := P1.out.frozen (1 + j)
                have hcl := P1.out.cellv (rmA_st _ j (by omega))
                go_wp2
                go_roundw
                case rel =>
                  refine ⟨j + 1, by omega, .inr (by omega), by go_num, P0.out.far (by simp) _, ?_, PB.out.setCell (by simp) _⟩
                  have h3 := P1.out.set (1 + j) (.bool true)
                  rw [rmA_set, stepj _ _ _ hj1] at h3
                  exact h3
                case measure => simp [intOf]; omega
              · have P2 := Lib.hid (show Blk _ (w.heap.size + 1) 85 (rmA ⟨false, Glb.inBN (acc ++ [(c, c)])⟩) by rw [← endj acc c c j hj1 hj2 hj]; exact P1.out)
                go_wp2
                go_roundw
                case rel => exact ⟨k + 1, acc ++ [(c, c)], by go_num, by omega, by omega, fun h => absurd h (by simp), fun _ => by omega, HN.out, P0.out, P2.out, PB.out⟩
                case measure => simp [intOf]; omega
          · have gA : decide ((k : Int) + 2 < s.length) = true := decide_eq_true (by omega)
            have HN := Lib.hid hN
            clear hN
            go_wp2
            go_loopw [10] (fun x wr => ∃ j : Nat, c.toNat ≤ j ∧ (j = c.toNat ∨ j ≤ c.toNat + 1) ∧ x = .int .i64 j ∧ Blk wr w.heap.size 85 (rmA rm0) ∧ Blk wr (w.heap.size + 1) 85 (rmA ⟨false, fun i => Glb.inBN acc i || (decide (c.toNat ≤ i) && decide (i < j))⟩) ∧ Below w.heap.size w wr) (fun x _ => 256 - (intOf x).toNat)
            case atStart => exact ⟨c.toNat, Nat.le_refl _, .inl rfl, rfl, HD0.out, by rw [flip0]; exact HD1.out, HDB.out⟩
            case round =>
              obtain ⟨j, hj1, hj2, rfl, p0, p1, pb⟩ := hrel
              have P0 := Lib.hid p0
              have P1 := Lib.hid p1
              have PB := Lib.hid pb
              clear p0 p1 pb HD0 HD1 HDB
              by_cases hj : j ≤ c.toNat
              · have hf := P1.out.frozen (1 + j)
                have hcl := P1.out.cellv (rmA_st _ j (by omega))
                go_wp2
                go_roundw
                case rel =>
                  refine ⟨j + 1, by omega, .inr (by omega), by go_num, P0.out.far (by simp) _, ?_, PB.out.setCell (by simp) _⟩
                  have h3 := P1.out.set (1 + j) (.bool true)
                  rw [rmA_set, stepj _ _ _ hj1] at h3
                  exact h3
                case measure => simp [intOf]; omega
              · have P2 := Lib.hid (show Blk _ (w.heap.size + 1) 85 (rmA ⟨false, Glb.inBN (acc ++ [(c, c)])⟩) by rw [← endj acc c c j hj1 hj2 hj]; exact P1.out)
                go_wp2
                go_roundw
                case rel => exact ⟨k + 1, acc ++ [(c, c)], by go_num, by omega, by omega, fun h => absurd h (by simp), fun _ => by omega, HN.out, P0.out, P2.out, PB.out⟩
                case measure => simp [intOf]; omega
          · have gA : decide ((k : Int) + 2 < s.length) = true := decide_eq_true (by omega)
            have hwe := Glb.byte_wrap e
            have hct := e.toNat_lt
            have HN := Lib.hid hN
            clear hN
            go_wp2
            go_loopw [10] (fun x wr => ∃ j : Nat, c.toNat ≤ j ∧ (j = c.toNat ∨ j ≤ e.toNat + 1) ∧ x = .int .i64 j ∧ Blk wr w.heap.size 85 (rmA rm0) ∧ Blk wr (w.heap.size + 1) 85 (rmA ⟨false, fun i => Glb.inBN acc i || (decide (c.toNat ≤ i) && decide (i < j))⟩) ∧ Below w.heap.size w wr) (fun x _ => 256 - (intOf x).toNat)
            case atStart => exact ⟨c.toNat, Nat.le_refl _, .inl rfl, rfl, HD0.out, by rw [flip0]; exact HD1.out, HDB.out⟩
            case round =>
              obtain ⟨j, hj1, hj2, rfl, p0, p1, pb⟩ := hrel
              have P0 := Lib.hid p0
              have P1 := Lib.hid p1
              have PB := Lib.hid pb
              clear p0 p1 pb HD0 HD1 HDB
              by_cases hj : j ≤ e.toNat
              · have hf := P1.out.frozen (1 + j)
                have hcl := P1.out.cellv (rmA_st _ j (by omega))
                go_wp2
                go_roundw
                case rel =>
                  refine ⟨j + 1, by omega, .inr (by omega), by go_num, P0.out.far (by simp) _, ?_, PB.out.setCell (by simp) _⟩
                  have h3 := P1.out.set (1 + j) (.bool true)
                  rw [rmA_set, stepj _ _ _ hj1] at h3
                  exact h3
                case measure => simp [intOf]; omega
              · have P2 := Lib.hid (show Blk _ (w.heap.size + 1) 85 (rmA ⟨false, Glb.inBN (acc ++ [(c, e)])⟩) by rw [← endj acc c e j hj1 hj2 hj]; exact P1.out)
                go_wp2
                go_roundw
                case rel => exact ⟨k + 2 + 1, acc ++ [(c, e)], by go_num, by omega, by omega, fun h => absurd h (by simp), fun _ => by omega, HN.out, P0.out, P2.out, PB.out⟩
                case measure => simp [intOf]; omega
      · have g1 : decide ((k : Int) < s.length) = false := decide_eq_false (by omega)
        obtain rfl : k = s.length := by omega
        have HN := Lib.hid (show R = none by rw [hR, List.drop_length, Glb.mem_nil])
        clear hR
        have f2 : ((s.length : Int) == (s.length : Int)) = true := by simp
        go_wp2_with (refine wpList_store_blk rfl rfl _ _ _ rfl w.heap.size _ rfl rfl 85 (rmA rm0) HH0.out rfl (by rw [rmA_size]; kernel_rfl) (rmA_one _) ?_)
        refine bodyPost_ret (results_cell_tmp rfl _ _ w.heap.size _ _ _ _ rfl (HH0.out.row _) Try.underlying85 rfl (by rw [rmA_size]; kernel_rfl) _ rfl) rfl ⟨by rw [HV.out, HN.out]; rfl, HHB.out.setRow_ (Nat.le_refl _) _⟩
  · replace h33 := h33 g0
    go_wp2_with (refine wpList_store_blk rfl rfl _ _ _ rfl (w.heap.size + 1) _ rfl rfl 85 (rmA rm0) H1.out rfl (by rw [rmA_size]; kernel_rfl) (rmA_one _) ?_)
    clear H1
    generalize World.setRow _ (w.heap.size + 1) (rmA rm0) = w1 at *
    go_loopw [5] (fun i wr => ∃ (k : Nat) (acc : List (UInt8 × UInt8)), i = .int .i64 k ∧ GrpI s 1 R w wr k acc) (fun i _ => s.length - (intOf i).toNat)
    case atStart => exact ⟨1, [], rfl, HS.out⟩
    case round =>
      obtain ⟨k, acc, rfl, hk1, hk2, ha1, ha2, hR, h0, h1, hb⟩ := hrel
      have HH0 := Lib.hid h0
      have HH1 := Lib.hid h1
      have HHB := Lib.hid hb
      have hsz := hb.size
      have HA1 := Lib.hid ha1
      have HA2 := Lib.hid ha2
      clear h0 h1 hb HS ha1 ha2 h33 g0
      by_cases hlt : k < s.length
      · obtain ⟨c, hc⟩ : ∃ c, s[k] = c := ⟨_, rfl⟩
        have g1 : decide ((k : Int) < s.length) = true := decide_eq_true (by omega)
        have f2 : ((k : Int) == (s.length : Int)) = false := by rw [beq_eq_false_iff_ne]; omega
        by_cases h93 : c = 93
        · have f1 : ((c.toNat : Int) == 93) = true := by subst h93; rfl
          have HD := Lib.hid (show s.drop k = 93 :: s.drop (k + 1) by rw [List.drop_eq_getElem_cons hlt, hc, h93])
          by_cases ha : acc = []
          · have f3 : ((k : Int) == 1) = true := by rw [HA1.out ha]; rfl
            have HN := Lib.hid (show R = none by rw [hR, HD.out, Glb.mem_end, if_pos ha])
            clear hR
            go_wp2_with (refine wpList_store_blk rfl rfl _ _ _ rfl w.heap.size _ rfl rfl 85 (rmA rm0) HH0.out rfl (by rw [rmA_size]; kernel_rfl) (rmA_one _) ?_)
            refine bodyPost_ret (results_cell_tmp rfl _ _ w.heap.size _ _ _ _ rfl (HH0.out.row _) Try.underlying85 rfl (by rw [rmA_size]; kernel_rfl) _ rfl) rfl ⟨by rw [HV.out, HN.out]; rfl, HHB.out.setRow_ (Nat.le_refl _) _⟩
          · have f3 : ((k : Int) == 1) = false := by rw [beq_eq_false_iff_ne]; have := HA2.out ha; omega
            have HN := Lib.hid (show R = some (acc, s.drop (k + 1)) by rw [hR, HD.out, Glb.mem_end, if_neg ha])
            clear hR
            go_wp2_with fail
            go_loopw [11] (fun x wr => ∃ j : Nat, j ≤ 256 ∧ x = .int .i64 j ∧ Blk wr w.heap.size 85 (rmA rm0) ∧ Blk wr (w.heap.size + 1) 85 (rmA ⟨false, fun i => if i < j then !(Glb.inBN acc i) else Glb.inBN acc i⟩) ∧ Below w.heap.size w wr) (fun x _ => 256 - (intOf x).toNat)
            case atStart => exact ⟨0, by omega, rfl, HH0.out, by simpa using HH1.out, HHB.out⟩
            case round =>
              obtain ⟨j, hj2, rfl, p0, p1, pb⟩ := hrel
              have P0 := Lib.hid p0
              have P1 := Lib.hid p1
              have PB := Lib.hid pb
              clear p0 p1 pb HH0 HH1 HHB
              by_cases hj : j < 256
              · have hf := P1.out.frozen (1 + j)
                have hcl := P1.out.cellv (rmA_st _ j hj)
                have hcl2 := hcl.trans (congrArg (fun b => some (Value.bool b)) (if_neg (Nat.lt_irrefl j)))
                clear hcl
                generalize hv : Glb.inBN acc j = v at hcl2
                have q1 : decide ((j : Int) < 256) = true := decide_eq_true (by omega)
                go_wp2
                go_roundw
                case rel =>
                  refine ⟨j + 1, by omega, by go_num, P0.out.far (by simp) _, ?_, PB.out.setCell (by simp) _⟩
                  have h3 := P1.out.set (1 + j) (.bool (!v))
                  rw [rmA_set, ← hv, flipS] at h3
                  rw [← hv]
                  exact h3
                case measure => simp [intOf]; omega
              · obtain rfl : j = 256 := by omega
                have PP0 := P0
                have PPB := PB
                have PP1 := P1.out
                rw [flipE] at PP1
                replace PP1 := Lib.hid PP1
                clear P0 P1 PB
                go_wp2_with (first | refine wpList_load_blk rfl _ _ rfl (w.heap.size + 1) rfl 85 _ _ PP1.out Try.underlying85 rfl (by rw [rmA_size]; kernel_rfl) ?_ | refine wpList_store_blk rfl rfl _ _ _ rfl w.heap.size _ rfl rfl 85 (rmA rm0) PP0.out (by rw [rmA_size, rmA_size]) (by rw [rmA_size]; kernel_rfl) (rmA_one _) ?_)
                refine bodyPost_ret (results_cell_tmp rfl _ _ w.heap.size _ _ _ _ rfl (PP0.out.row _) Try.underlying85 rfl (by rw [rmA_size]; kernel_rfl) _ rfl) rfl ⟨?_, PPB.out.setRow_ (Nat.le_refl _) _⟩
                rw [HV.out, HN.out]
                refine congrArg Ending.returned (congrArg Value.tuple ?_)
                have e9 : s.length - 1 - (s.drop (k + 1)).length = k := by rw [List.length_drop]; omega
                have e8 : rmA ⟨false, fun i => Glb.inBN acc i != true⟩ = rmA ⟨false, fun i => !Glb.inBN acc i⟩ := rmA_congr fun i _ => by cases Glb.inBN acc i <;> rfl
                show #[_, Value.int .i64 (k : Int)] = #[Value.agg (rmA ⟨false, fun i => Glb.inBN acc i != true⟩), Value.int .i64 ((s.length - 1 - (s.drop (k + 1)).length : Nat) : Int)]
                rw [e9]
                first
                  | rfl
                  | (rw [e8]; done)
                  | (rw [e8]; rfl)
        · have f1 := u8_ne (c := c) (n := 93) (by decide) h93
          have hw := Glb.byte_wrap c
          have hct := c.toNat_lt
          have hca : s[k] ≠ 93 := by rw [hc]; exact h93
          have hcase : (∃ gA : decide ((k : Int) + 2 < s.length) = false, R = Glb.mem (acc ++ [(c, c)]) (s.drop (k + 1))) ∨ (∃ d, ∃ h : k + 2 < s.length, s[k + 1] = d ∧ ((d.toNat : Int) == 45) = false ∧ R = Glb.mem (acc ++ [(c, c)]) (s.drop (k + 1))) ∨ (∃ h : k + 2 < s.length, s[k + 1] = 45 ∧ s[k + 2] = 93 ∧ R = Glb.mem (acc ++ [(c, c)]) (s.drop (k + 1))) ∨ (∃ e, ∃ h : k + 2 < s.length, s[k + 1] = 45 ∧ s[k + 2] = e ∧ ((e.toNat : Int) == 93) = false ∧ R = Glb.mem (acc ++ [(c, e)]) (s.drop (k + 2 + 1))) := by
            rw [hR, ← hc]
            by_cases h2 : k + 2 < s.length
            · by_cases hd : s[k + 1] = 45
              · by_cases he : s[k + 2] = 93
                · exact .inr (.inr (.inl ⟨h2, hd, he, Glb.grp_one hlt hca fun _ _ => he⟩))
                · exact .inr (.inr (.inr ⟨_, h2, hd, rfl, u8_ne (by decide) he, Glb.grp_range h2 hca hd he⟩))
              · exact .inr (.inl ⟨_, h2, rfl, u8_ne (by decide) hd, Glb.grp_one hlt hca fun _ h => absurd h hd⟩)
            · exact .inl ⟨decide_eq_false (by omega), Glb.grp_one hlt hca fun h => absurd h h2⟩
          clear hR hca h93
          go_wp2_with fail
          go_quiet (fail)
          have HD0 := Lib.hid (HH0.out.drewN nq)
          have HD1 := Lib.hid (HH1.out.drewN nq)
          have HDB := Lib.hid (HHB.out.trans (show Below w.heap.size wr (wr.drewN nq) from ⟨rfl, rfl, rfl, Nat.le_refl _, fun _ _ => rfl⟩))
          have hszd : w.heap.size ≤ (wr.drewN nq).heap.size := hsz
          clear HH0 HH1 HHB hsz
          generalize wr.drewN nq = w2 at *
          rcases hcase with ⟨gA, hN⟩ | ⟨d, h2, hd, fB, hN⟩ | ⟨h2, hd, he, hN⟩ | ⟨e, h2, hd, he, fE, hN⟩
          · have HN := Lib.hid hN
            clear hN
            go_wp2
            go_loopw [10] (fun x wr => ∃ j : Nat, c.toNat ≤ j ∧ (j = c.toNat ∨ j ≤ c.toNat + 1) ∧ x = .int .i64 j ∧ Blk wr w.heap.size 85 (rmA rm0) ∧ Blk wr (w.heap.size + 1) 85 (rmA ⟨false, fun i => Glb.inBN acc i || (decide (c.toNat ≤ i) && decide (i < j))⟩) ∧ Below w.heap.size w wr) (fun x _ => 256 - (intOf x).toNat)
            case atStart => exact ⟨c.toNat, Nat.le_refl _, .inl rfl, rfl, HD0.out, by rw [flip0]; exact HD1.out, HDB.out⟩
            case round =>
              obtain ⟨j, hj1, hj2, rfl, p0, p1, pb⟩ := hrel
              have P0 := Lib.hid p0
              have P1 := Lib.hid p1
              have PB := Lib.hid pb
              clear p0 p1 pb HD0 HD1 HDB
              by_cases hj : j ≤ c.toNat
              · have hf := P1.out.frozen (1 + j)
                have hcl := P1.out.cellv (rmA_st _ j (by omega))
                go_wp2
                go_roundw
                case rel =>
                  refine ⟨j + 1, by omega, .inr (by omega), by go_num, P0.out.far (by simp) _, ?_, PB.out.setCell (by simp) _⟩
                  have h3 := P1.out.set (1 + j) (.bool true)
                  rw [rmA_set, stepj _ _ _ hj1] at h3
                  exact h3
                case measure => simp [intOf]; omega
              · have P2 := Lib.hid (show Blk _ (w.heap.size + 1) 85 (rmA ⟨false, Glb.inBN (acc ++ [(c, c)])⟩) by rw [← endj acc c c j hj1 hj2 hj]; exact P1.out)
                go_wp2
                go_roundw
                case rel => exact ⟨k + 1, acc ++ [(c, c)], by go_num, by omega, by omega, fun h => absurd h (by simp), fun _ => by omega, HN.out, P0.out, P2.out, PB.out⟩
                case measure => simp [intOf]; omega
          · have gA : decide ((k : Int) + 2 < s.length) = true := decide_eq_true (by omega)
            have HN := Lib.hid hN
            clear hN
            go_wp2
            go_loopw [10] (fun x wr => ∃ j : Nat, c.toNat ≤ j ∧ (j = c.toNat ∨ j ≤ c.toNat + 1) ∧ x = .int .i64 j ∧ Blk wr w.heap.size 85 (rmA rm0) ∧ Blk wr (w.heap.size + 1) 85 (rmA ⟨false, fun i => Glb.inBN acc i || (decide (c.toNat ≤ i) && decide (i < j))⟩) ∧ Below w.heap.size w wr) (fun x _ => 256 - (intOf x).toNat)
            case atStart => exact ⟨c.toNat, Nat.le_refl _, .inl rfl, rfl, HD0.out, by rw [flip0]; exact HD1.out, HDB.out⟩
            case round =>
              obtain ⟨j, hj1, hj2, rfl, p0, p1, pb⟩ := hrel
              have P0 := Lib.hid p0
              have P1 := Lib.hid p1
              have PB := Lib.hid pb
              clear p0 p1 pb HD0 HD1 HDB
              by_cases hj : j ≤ c.toNat
              · have hf := P1.out.frozen (1 + j)
                have hcl := P1.out.cellv (rmA_st _ j (by omega))
                go_wp2
                go_roundw
                case rel =>
                  refine ⟨j + 1, by omega, .inr (by omega), by go_num, P0.out.far (by simp) _, ?_, PB.out.setCell (by simp) _⟩
                  have h3 := P1.out.set (1 + j) (.bool true)
                  rw [rmA_set, stepj _ _ _ hj1] at h3
                  exact h3
                case measure => simp [intOf]; omega
              · have P2 := Lib.hid (show Blk _ (w.heap.size + 1) 85 (rmA ⟨false, Glb.inBN (acc ++ [(c, c)])⟩) by rw [← endj acc c c j hj1 hj2 hj]; exact P1.out)
                go_wp2
                go_roundw
                case rel => exact ⟨k + 1, acc ++ [(c, c)], by go_num, by omega, by omega, fun h => absurd h (by simp), fun _ => by omega, HN.out, P0.out, P2.out, PB.out⟩
                case measure => simp [intOf]; omega
          · have gA : decide ((k : Int) + 2 < s.length) = true := decide_eq_true (by omega)
            have HN := Lib.hid hN
            clear hN
            go_wp2
            go_loopw [10] (fun x wr => ∃ j : Nat, c.toNat ≤ j ∧ (j = c.toNat ∨ j ≤ c.toNat + 1) ∧ x = .int .i64 j ∧ Blk wr w.heap.size 85 (rmA rm0) ∧ Blk wr (w.heap.size + 1) 85 (rmA ⟨false, fun i => Glb.inBN acc i || (decide (c.toNat ≤ i) && decide (i < j))⟩) ∧ Below w.heap.size w wr) (fun x _ => 256 - (intOf x).toNat)
            case atStart => exact ⟨c.toNat, Nat.le_refl _, .inl rfl, rfl, HD0.out, by rw [flip0]; exact HD1.out, HDB.out⟩
            case round =>
              obtain ⟨j, hj1, hj2, rfl, p0, p1, pb⟩ := hrel
              have P0 := Lib.hid p0
              have P1 := Lib.hid p1
              have PB := Lib.hid pb
              clear p0 p1 pb HD0 HD1 HDB
              by_cases hj : j ≤ c.toNat
              · have hf := P1.out.frozen (1 + j)
                have hcl := P1.out.cellv (rmA_st _ j (by omega))
                go_wp2
                go_roundw
                case rel =>
                  refine ⟨j + 1, by omega, .inr (by omega), by go_num, P0.out.far (by simp) _, ?_, PB.out.setCell (by simp) _⟩
                  have h3 := P1.out.set (1 + j) (.bool true)
                  rw [rmA_set, stepj _ _ _ hj1] at h3
                  exact h3
                case measure => simp [intOf]; omega
              · have P2 := Lib.hid (show Blk _ (w.heap.size + 1) 85 (rmA ⟨false, Glb.inBN (acc ++ [(c, c)])⟩) by rw [← endj acc c c j hj1 hj2 hj]; exact P1.out)
                go_wp2
                go_roundw
                case rel => exact ⟨k + 1, acc ++ [(c, c)], by go_num, by omega, by omega, fun h => absurd h (by simp), fun _ => by omega, HN.out, P0.out, P2.out, PB.out⟩
                case measure => simp [intOf]; omega
          · have gA : decide ((k : Int) + 2 < s.length) = true := decide_eq_true (by omega)
            have hwe := Glb.byte_wrap e
            have hct := e.toNat_lt
            have HN := Lib.hid hN
            clear hN
            go_wp2
            go_loopw [10] (fun x wr => ∃ j : Nat, c.toNat ≤ j ∧ (j = c.toNat ∨ j ≤ e.toNat + 1) ∧ x = .int .i64 j ∧ Blk wr w.heap.size 85 (rmA rm0) ∧ Blk wr (w.heap.size + 1) 85 (rmA ⟨false, fun i => Glb.inBN acc i || (decide (c.toNat ≤ i) && decide (i < j))⟩) ∧ Below w.heap.size w wr) (fun x _ => 256 - (intOf x).toNat)
            case atStart => exact ⟨c.toNat, Nat.le_refl _, .inl rfl, rfl, HD0.out, by rw [flip0]; exact HD1.out, HDB.out⟩
            case round =>
              obtain ⟨j, hj1, hj2, rfl, p0, p1, pb⟩ := hrel
              have P0 := Lib.hid p0
              have P1 := Lib.hid p1
              have PB := Lib.hid pb
              clear p0 p1 pb HD0 HD1 HDB
              by_cases hj : j ≤ e.toNat
              · have hf := P1.out.frozen (1 + j)
                have hcl := P1.out.cellv (rmA_st _ j (by omega))
                go_wp2
                go_roundw
                case rel =>
                  refine ⟨j + 1, by omega, .inr (by omega), by go_num, P0.out.far (by simp) _, ?_, PB.out.setCell (by simp) _⟩
                  have h3 := P1.out.set (1 + j) (.bool true)
                  rw [rmA_set, stepj _ _ _ hj1] at h3
                  exact h3
                case measure => simp [intOf]; omega
              · have P2 := Lib.hid (show Blk _ (w.heap.size + 1) 85 (rmA ⟨false, Glb.inBN (acc ++ [(c, e)])⟩) by rw [← endj acc c e j hj1 hj2 hj]; exact P1.out)
                go_wp2
                go_roundw
                case rel => exact ⟨k + 2 + 1, acc ++ [(c, e)], by go_num, by omega, by omega, fun h => absurd h (by simp), fun _ => by omega, HN.out, P0.out, P2.out, PB.out⟩
                case measure => simp [intOf]; omega
      · have g1 : decide ((k : Int) < s.length) = false := decide_eq_false (by omega)
        obtain rfl : k = s.length := by omega
        have HN := Lib.hid (show R = none by rw [hR, List.drop_length, Glb.mem_nil])
        clear hR
        have f2 : ((s.length : Int) == (s.length : Int)) = true := by simp
        go_wp2_with (refine wpList_store_blk rfl rfl _ _ _ rfl w.heap.size _ rfl rfl 85 (rmA rm0) HH0.out rfl (by rw [rmA_size]; kernel_rfl) (rmA_one _) ?_)
        refine bodyPost_ret (results_cell_tmp rfl _ _ w.heap.size _ _ _ _ rfl (HH0.out.row _) Try.underlying85 rfl (by rw [rmA_size]; kernel_rfl) _ rfl) rfl ⟨by rw [HV.out, HN.out]; rfl, HHB.out.setRow_ (Nat.le_refl _) _⟩
  · replace h33 := h33 g0
    go_wp2_with (refine wpList_store_blk rfl rfl _ _ _ rfl (w.heap.size + 1) _ rfl rfl 85 (rmA rm0) H1.out rfl (by rw [rmA_size]; kernel_rfl) (rmA_one _) ?_)
    clear H1
    generalize World.setRow _ (w.heap.size + 1) (rmA rm0) = w1 at *
    go_loopw [5] (fun i wr => ∃ (k : Nat) (acc : List (UInt8 × UInt8)), i = .int .i64 k ∧ GrpI s 0 R w wr k acc) (fun i _ => s.length - (intOf i).toNat)
    case atStart => exact ⟨0, [], rfl, HS.out⟩
    case round =>
      obtain ⟨k, acc, rfl, hk1, hk2, ha1, ha2, hR, h0, h1, hb⟩ := hrel
      have HH0 := Lib.hid h0
      have HH1 := Lib.hid h1
      have HHB := Lib.hid hb
      have hsz := hb.size
      have HA1 := Lib.hid ha1
      have HA2 := Lib.hid ha2
      clear h0 h1 hb HS ha1 ha2 h33
      by_cases hlt : k < s.length
      · obtain ⟨c, hc⟩ : ∃ c, s[k] = c := ⟨_, rfl⟩
        have g1 : decide ((k : Int) < s.length) = true := decide_eq_true (by omega)
        have f2 : ((k : Int) == (s.length : Int)) = false := by rw [beq_eq_false_iff_ne]; omega
        by_cases h93 : c = 93
        · have f1 : ((c.toNat : Int) == 93) = true := by subst h93; rfl
          have HD := Lib.hid (show s.drop k = 93 :: s.drop (k + 1) by rw [List.drop_eq_getElem_cons hlt, hc, h93])
          by_cases ha : acc = []
          · have f3 : ((k : Int) == 0) = true := by rw [HA1.out ha]; rfl
            have HN := Lib.hid (show R = none by rw [hR, HD.out, Glb.mem_end, if_pos ha])
            clear hR
            go_wp2_with (refine wpList_store_blk rfl rfl _ _ _ rfl w.heap.size _ rfl rfl 85 (rmA rm0) HH0.out rfl (by rw [rmA_size]; kernel_rfl) (rmA_one _) ?_)
            refine bodyPost_ret (results_cell_tmp rfl _ _ w.heap.size _ _ _ _ rfl (HH0.out.row _) Try.underlying85 rfl (by rw [rmA_size]; kernel_rfl) _ rfl) rfl ⟨by rw [HV.out, HN.out]; rfl, HHB.out.setRow_ (Nat.le_refl _) _⟩
          · have f3 : ((k : Int) == 0) = false := by rw [beq_eq_false_iff_ne]; have := HA2.out ha; omega
            have HN := Lib.hid (show R = some (acc, s.drop (k + 1)) by rw [hR, HD.out, Glb.mem_end, if_neg ha])
            clear hR
            have PP0 := HH0
            have PP1 := Lib.hid (show Blk wr (w.heap.size + 1) 85 (rmA ⟨false, fun i => Glb.inBN acc i != false⟩) by rw [← flipN]; exact HH1.out)
            have PPB := HHB
            clear HH0 HH1 HHB
            go_wp2_with fail
            go_loopw [11] (fun x wr' => x = .int .i64 0 ∧ wr' = wr) (fun x _ => 256 - (intOf x).toNat)
            case atStart => exact ⟨rfl, rfl⟩
            case round =>
              obtain ⟨rfl, rfl⟩ := hrel
              go_wp2_with (first | refine wpList_load_blk rfl _ _ rfl (w.heap.size + 1) rfl 85 _ _ PP1.out Try.underlying85 rfl (by rw [rmA_size]; kernel_rfl) ?_ | refine wpList_store_blk rfl rfl _ _ _ rfl w.heap.size _ rfl rfl 85 (rmA rm0) PP0.out (by rw [rmA_size, rmA_size]) (by rw [rmA_size]; kernel_rfl) (rmA_one _) ?_)
              refine bodyPost_ret (results_cell_tmp rfl _ _ w.heap.size _ _ _ _ rfl (PP0.out.row _) Try.underlying85 rfl (by rw [rmA_size]; kernel_rfl) _ rfl) rfl ⟨?_, PPB.out.setRow_ (Nat.le_refl _) _⟩
              rw [HV.out, HN.out]
              refine congrArg Ending.returned (congrArg Value.tuple ?_)
              have e9 : s.length - 1 - (s.drop (k + 1)).length = k := by rw [List.length_drop]; omega
              have e8 : rmA ⟨false, fun i => Glb.inBN acc i != false⟩ = rmA ⟨false, fun i => Glb.inBN acc i⟩ := rmA_congr fun i _ => by cases Glb.inBN acc i <;> rfl
              show #[_, Value.int .i64 (k : Int)] = #[Value.agg (rmA ⟨false, fun i => Glb.inBN acc i != false⟩), Value.int .i64 ((s.length - 1 - (s.drop (k + 1)).length : Nat) : Int)]
              rw [e9]
              first
                | rfl
                | (rw [e8]; done)
                | (rw [e8]; rfl)
        · have f1 := u8_ne (c := c) (n := 93) (by decide) h93
          have hw := Glb.byte_wrap c
          have hct := c.toNat_lt
          have hca : s[k] ≠ 93 := by rw [hc]; exact h93
          have hcase : (∃ gA : decide ((k : Int) + 2 < s.length) = false, R = Glb.mem (acc ++ [(c, c)]) (s.drop (k + 1))) ∨ (∃ d, ∃ h : k + 2 < s.length, s[k + 1] = d ∧ ((d.toNat : Int) == 45) = false ∧ R = Glb.mem (acc ++ [(c, c)]) (s.drop (k + 1))) ∨ (∃ h : k + 2 < s.length, s[k + 1] = 45 ∧ s[k + 2] = 93 ∧ R = Glb.mem (acc ++ [(c, c)]) (s.drop (k + 1))) ∨ (∃ e, ∃ h : k + 2 < s.length, s[k + 1] = 45 ∧ s[k + 2] = e ∧ ((e.toNat : Int) == 93) = false ∧ R = Glb.mem (acc ++ [(c, e)]) (s.drop (k + 2 + 1))) := by
            rw [hR, ← hc]
            by_cases h2 : k + 2 < s.length
            · by_cases hd : s[k + 1] = 45
              · by_cases he : s[k + 2] = 93
                · exact .inr (.inr (.inl ⟨h2, hd, he, Glb.grp_one hlt hca fun _ _ => he⟩))
                · exact .inr (.inr (.inr ⟨_, h2, hd, rfl, u8_ne (by decide) he, Glb.grp_range h2 hca hd he⟩))
              · exact .inr (.inl ⟨_, h2, rfl, u8_ne (by decide) hd, Glb.grp_one hlt hca fun _ h => absurd h hd⟩)
            · exact .inl ⟨decide_eq_false (by omega), Glb.grp_one hlt hca fun h => absurd h h2⟩
          clear hR hca h93
          go_wp2_with fail
          go_quiet (fail)
          have HD0 := Lib.hid (HH0.out.drewN nq)
          have HD1 := Lib.hid (HH1.out.drewN nq)
          have HDB := Lib.hid (HHB.out.trans (show Below w.heap.size wr (wr.drewN nq) from ⟨rfl, rfl, rfl, Nat.le_refl _, fun _ _ => rfl⟩))
          have hszd : w.heap.size ≤ (wr.drewN nq).heap.size := hsz
          clear HH0 HH1 HHB hsz
          generalize wr.drewN nq = w2 at *
          rcases hcase with ⟨gA, hN⟩ | ⟨d, h2, hd, fB, hN⟩ | ⟨h2, hd, he, hN⟩ | ⟨e, h2, hd, he, fE, hN⟩
          · have HN := Lib.hid hN
            clear hN
            go_wp2
            go_loopw [10] (fun x wr => ∃ j : Nat, c.toNat ≤ j ∧ (j = c.toNat ∨ j ≤ c.toNat + 1) ∧ x = .int .i64 j ∧ Blk wr w.heap.size 85 (rmA rm0) ∧ Blk wr (w.heap.size + 1) 85 (rmA ⟨false, fun i => Glb.inBN acc i || (decide (c.toNat ≤ i) && decide (i < j))⟩) ∧ Below w.heap.size w wr) (fun x _ => 256 - (intOf x).toNat)
            case atStart => exact ⟨c.toNat, Nat.le_refl _, .inl rfl, rfl, HD0.out, by rw [flip0]; exact HD1.out, HDB.out⟩
            case round =>
              obtain ⟨j, hj1, hj2, rfl, p0, p1, pb⟩ := hrel
              have P0 := Lib.hid p0
              have P1 := Lib.hid p1
              have PB := Lib.hid pb
              clear p0 p1 pb HD0 HD1 HDB
              by_cases hj : j ≤ c.toNat
              · have hf := P1.out.frozen (1 + j)
                have hcl := P1.out.cellv (rmA_st _ j (by omega))
                go_wp2
                go_roundw
                case rel =>
                  refine ⟨j + 1, by omega, .inr (by omega), by go_num, P0.out.far (by simp) _, ?_, PB.out.setCell (by simp) _⟩
                  have h3 := P1.out.set (1 + j) (.bool true)
                  rw [rmA_set, stepj _ _ _ hj1] at h3
                  exact h3
                case measure => simp [intOf]; omega
              · have P2 := Lib.hid (show Blk _ (w.heap.size + 1) 85 (rmA ⟨false, Glb.inBN (acc ++ [(c, c)])⟩) by rw [← endj acc c c j hj1 hj2 hj]; exact P1.out)
                go_wp2
                go_roundw
                case rel => exact ⟨k + 1, acc ++ [(c, c)], by go_num, by omega, by omega, fun h => absurd h (by simp), fun _ => by omega, HN.out, P0.out, P2.out, PB.out⟩
                case measure => simp [intOf]; omega
          · have gA : decide ((k : Int) + 2 < s.length) = true := decide_eq_true (by omega)
            have HN := Lib.hid hN
            clear hN
            go_wp2
            go_loopw [10] (fun x wr => ∃ j : Nat, c.toNat ≤ j ∧ (j = c.toNat ∨ j ≤ c.toNat + 1) ∧ x = .int .i64 j ∧ Blk wr w.heap.size 85 (rmA rm0) ∧ Blk wr (w.heap.size + 1) 85 (rmA ⟨false, fun i => Glb.inBN acc i || (decide (c.toNat ≤ i) && decide (i < j))⟩) ∧ Below w.heap.size w wr) (fun x _ => 256 - (intOf x).toNat)
            case atStart => exact ⟨c.toNat, Nat.le_refl _, .inl rfl, rfl, HD0.out, by rw [flip0]; exact HD1.out, HDB.out⟩
            case round =>
              obtain ⟨j, hj1, hj2, rfl, p0, p1, pb⟩ := hrel
              have P0 := Lib.hid p0
              have P1 := Lib.hid p1
              have PB := Lib.hid pb
              clear p0 p1 pb HD0 HD1 HDB
              by_cases hj : j ≤ c.toNat
              · have hf := P1.out.frozen (1 + j)
                have hcl := P1.out.cellv (rmA_st _ j (by omega))
                go_wp2
                go_roundw
                case rel =>
                  refine ⟨j + 1, by omega, .inr (by omega), by go_num, P0.out.far (by simp) _, ?_, PB.out.setCell (by simp) _⟩
                  have h3 := P1.out.set (1 + j) (.bool true)
                  rw [rmA_set, stepj _ _ _ hj1] at h3
                  exact h3
                case measure => simp [intOf]; omega
              · have P2 := Lib.hid (show Blk _ (w.heap.size + 1) 85 (rmA ⟨false, Glb.inBN (acc ++ [(c, c)])⟩) by rw [← endj acc c c j hj1 hj2 hj]; exact P1.out)
                go_wp2
                go_roundw
                case rel => exact ⟨k + 1, acc ++ [(c, c)], by go_num, by omega, by omega, fun h => absurd h (by simp), fun _ => by omega, HN.out, P0.out, P2.out, PB.out⟩
                case measure => simp [intOf]; omega
          · have gA : decide ((k : Int) + 2 < s.length) = true := decide_eq_true (by omega)
            have HN := Lib.hid hN
            clear hN
            go_wp2
            go_loopw [10] (fun x wr => ∃ j : Nat, c.toNat ≤ j ∧ (j = c.toNat ∨ j ≤ c.toNat + 1) ∧ x = .int .i64 j ∧ Blk wr w.heap.size 85 (rmA rm0) ∧ Blk wr (w.heap.size + 1) 85 (rmA ⟨false, fun i => Glb.inBN acc i || (decide (c.toNat ≤ i) && decide (i < j))⟩) ∧ Below w.heap.size w wr) (fun x _ => 256 - (intOf x).toNat)
            case atStart => exact ⟨c.toNat, Nat.le_refl _, .inl rfl, rfl, HD0.out, by rw [flip0]; exact HD1.out, HDB.out⟩
            case round =>
              obtain ⟨j, hj1, hj2, rfl, p0, p1, pb⟩ := hrel
              have P0 := Lib.hid p0
              have P1 := Lib.hid p1
              have PB := Lib.hid pb
              clear p0 p1 pb HD0 HD1 HDB
              by_cases hj : j ≤ c.toNat
              · have hf := P1.out.frozen (1 + j)
                have hcl := P1.out.cellv (rmA_st _ j (by omega))
                go_wp2
                go_roundw
                case rel =>
                  refine ⟨j + 1, by omega, .inr (by omega), by go_num, P0.out.far (by simp) _, ?_, PB.out.setCell (by simp) _⟩
                  have h3 := P1.out.set (1 + j) (.bool true)
                  rw [rmA_set, stepj _ _ _ hj1] at h3
                  exact h3
                case measure => simp [intOf]; omega
              · have P2 := Lib.hid (show Blk _ (w.heap.size + 1) 85 (rmA ⟨false, Glb.inBN (acc ++ [(c, c)])⟩) by rw [← endj acc c c j hj1 hj2 hj]; exact P1.out)
                go_wp2
                go_roundw
                case rel => exact ⟨k + 1, acc ++ [(c, c)], by go_num, by omega, by omega, fun h => absurd h (by simp), fun _ => by omega, HN.out, P0.out, P2.out, PB.out⟩
                case measure => simp [intOf]; omega
          · have gA : decide ((k : Int) + 2 < s.length) = true := decide_eq_true (by omega)
            have hwe := Glb.byte_wrap e
            have hct := e.toNat_lt
            have HN := Lib.hid hN
            clear hN
            go_wp2
            go_loopw [10] (fun x wr => ∃ j : Nat, c.toNat ≤ j ∧ (j = c.toNat ∨ j ≤ e.toNat + 1) ∧ x = .int .i64 j ∧ Blk wr w.heap.size 85 (rmA rm0) ∧ Blk wr (w.heap.size + 1) 85 (rmA ⟨false, fun i => Glb.inBN acc i || (decide (c.toNat ≤ i) && decide (i < j))⟩) ∧ Below w.heap.size w wr) (fun x _ => 256 - (intOf x).toNat)
            case atStart => exact ⟨c.toNat, Nat.le_refl _, .inl rfl, rfl, HD0.out, by rw [flip0]; exact HD1.out, HDB.out⟩
            case round =>
              obtain ⟨j, hj1, hj2, rfl, p0, p1, pb⟩ := hrel
              have P0 := Lib.hid p0
              have P1 := Lib.hid p1
              have PB := Lib.hid pb
              clear p0 p1 pb HD0 HD1 HDB
              by_cases hj : j ≤ e.toNat
              · have hf := P1.out.frozen (1 + j)
                have hcl := P1.out.cellv (rmA_st _ j (by omega))
                go_wp2
                go_roundw
                case rel =>
                  refine ⟨j + 1, by omega, .inr (by omega), by go_num, P0.out.far (by simp) _, ?_, PB.out.setCell (by simp) _⟩
                  have h3 := P1.out.set (1 + j) (.bool true)
                  rw [rmA_set, stepj _ _ _ hj1] at h3
                  exact h3
                case measure => simp [intOf]; omega
              · have P2 := Lib.hid (show Blk _ (w.heap.size + 1) 85 (rmA ⟨false, Glb.inBN (acc ++ [(c, e)])⟩) by rw [← endj acc c e j hj1 hj2 hj]; exact P1.out)
                go_wp2
                go_roundw
                case rel => exact ⟨k + 2 + 1, acc ++ [(c, e)], by go_num, by omega, by omega, fun h => absurd h (by simp), fun _ => by omega, HN.out, P0.out, P2.out, PB.out⟩
                case measure => simp [intOf]; omega
      · have g1 : decide ((k : Int) < s.length) = false := decide_eq_false (by omega)
        obtain rfl : k = s.length := by omega
        have HN := Lib.hid (show R = none by rw [hR, List.drop_length, Glb.mem_nil])
        clear hR
        have f2 : ((s.length : Int) == (s.length : Int)) = true := by simp
        go_wp2_with (refine wpList_store_blk rfl rfl _ _ _ rfl w.heap.size _ rfl rfl 85 (rmA rm0) HH0.out rfl (by rw [rmA_size]; kernel_rfl) (rmA_one _) ?_)
        refine bodyPost_ret (results_cell_tmp rfl _ _ w.heap.size _ _ _ _ rfl (HH0.out.row _) Try.underlying85 rfl (by rw [rmA_size]; kernel_rfl) _ rfl) rfl ⟨by rw [HV.out, HN.out]; rfl, HHB.out.setRow_ (Nat.le_refl _) _⟩
end Go.Proofs.Ytlnjfnpoabcllaa
