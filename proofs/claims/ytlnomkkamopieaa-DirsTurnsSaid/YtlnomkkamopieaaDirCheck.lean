/-
  dirs.Check and dirs.Room.
-/
import Derived.Test.YtlnomkkamopieaaDirSet
import Derived.WalkMore
import Derived.Carry
namespace Go.Proofs.Ytlnomkkamopieaa
open Go.RowKit Go.Maps Go.WideMaps

namespace Dir
def checkE (b : List UInt8) : Int := if goodB b = true then 0 else 50
theorem checkE_no {b : List UInt8} (h : goodB b = false) : checkE b = 50 := by unfold checkE; rw [h]; rfl
end Dir
set_option maxHeartbeats 4000000 in
theorem check_calls (a : Option Addr) (n c : Nat) (b : List UInt8) (w : World) (hx : Bytes w w.heap.size a n b) (hnc : n ≤ c) :
    Calls Try.prog 24 #[.slice a n c] w fun e w' => e = .returned (.int .i64 (Dir.checkE b)) ∧ Below w.heap.size w w' := by
  have hl := hx.len
  have hroom := hx.room
  have HX := Lib.hid hx
  obtain ⟨S, hS⟩ : ∃ S, S = Dir.cnt b := ⟨_, rfl⟩
  have hSn : S = n / 16 := by rw [hS, Dir.cnt, hl]
  have HS := Lib.hid hSn
  have hsl := Lib.hid (fun W => slots_calls a n c W (by omega))
  rw [← hSn] at hsl
  have hSle : S ≤ 140737488351232 := by omega
  have HGA := Lib.hid (fun k (h : k < S) (hn : Dir.okAt b k = false) => Dir.checkE_no (Dir.good_at (by rw [← hS]; exact h) hn))
  have HGL := Lib.hid (fun k (h : k + 1 = S) (hn : (Dir.rd b k).2.1 = false) => Dir.checkE_no (Dir.good_last (by rw [← hS]; exact h) hn))
  have HGE := Lib.hid (fun (h : Dir.okTo b S = true) (h2 : S = 0 ∨ (Dir.rd b (S - 1)).2.1 = true) => (show Dir.checkE b = if n % 16 = 0 then 0 else 50 by
    unfold Dir.checkE
    rw [hS] at h h2
    rw [Dir.good_end h h2, hl]
    simp only [decide_eq_true_eq]))
  have hmod : (n : Int).tmod 16 = ((n % 16 : Nat) : Int) := by rw [Int.tmod_eq_emod_of_nonneg (by omega)]; omega
  have hmod2 : (n : Int) % 16 = ((n % 16 : Nat) : Int) := by omega
  obtain ⟨M, hM⟩ : ∃ M, M = n % 16 := ⟨_, rfl⟩
  rw [← hM] at hmod hmod2 HGE
  have hMl : M < 16 := by omega
  clear hx hS hSn hl hM
  have hmm := @run_makeMap Try.prog
  go_enter Try.func24, Try.ntmps24
  go_wp2
  go_step3
  go_wp2
  go_step3
  go_wp2_with fail
  refine (hsl.out _).mono ?_
  rintro e w_ ⟨rfl, rfl⟩
  go_wp2_with fail
  go_loopw [4, 18] (fun g i wr => ∃ k : Nat, k ≤ S ∧ i = .int .i64 k ∧ g = .bool ((M : Int) == 0) ∧ Dir.okTo b k = true ∧ (k = 0 ∨ k < S ∨ (Dir.rd b (k - 1)).2.1 = true) ∧ NameSet wr w.heap.size k (Dir.seen b k) ∧ Below w.heap.size w wr) (fun _ i _ => S - (intOf i).toNat)
  case atStart => exact ⟨0, by omega, rfl, rfl, rfl, .inl rfl, NameSet.made w, (Below.refl _ _).alloc (Nat.le_refl _) _⟩
  case round =>
    obtain ⟨k, hk, rfl, rfl, hok, hlast, hns, hb⟩ := hrel
    have HOK := Lib.hid hok
    have HLA := Lib.hid hlast
    have HNS := Lib.hid hns
    have HB := Lib.hid hb
    clear hok hlast hns hb
    by_cases hlt : k < S
    · have hsc := Lib.hid (slot_calls a n c k b wr (HX.out.on HB.out) (by have := hnc; omega) (by have := HS.out; omega))
      go_wp2_with fail
      refine hsc.out.mono ?_
      rintro e w_ ⟨⟨a1, c1, rfl, hc1, ha1, hy⟩, rfl⟩
      clear ha1
      have HY := Lib.hid hy
      clear hy
      go_wp2_with fail
      have hrd := Lib.hid (read_calls a1 16 c1 (Dir.slotAt b k) wr HY.out hc1)
      unfold ReadR at hrd
      rw [show Dir.readR (Dir.slotAt b k) = Dir.rd b k from rfl] at hrd
      have hnl : (Dir.rd b k).1.nm.length ≤ maxLen := Nat.le_trans (Dir.rd_len _) (by simp [maxLen])
      have hat := Lib.hid (show Dir.okAt b k = (decide ((Dir.rd b k).2.2 = 0) && !((Dir.rd b k).2.1 && (Dir.seen b k).contains (Dir.rd b k).1.nm)) from rfl)
      have hsn := Lib.hid (show Dir.seen b (k + 1) = if (Dir.rd b k).2.1 = true then Dir.seen b k ++ [(Dir.rd b k).1.nm] else Dir.seen b k from rfl)
      have hto := Lib.hid (show Dir.okTo b (k + 1) = (Dir.okTo b k && Dir.okAt b k) from rfl)
      have hbad := Lib.hid (fun h => HGA.out k hlt h)
      have hend := Lib.hid (fun h => HGL.out k h)
      have hus := Lib.hid (show (Dir.rd b (k + 1 - 1)).2.1 = (Dir.rd b k).2.1 by rw [Nat.add_sub_cancel])
      generalize Dir.rd b k = R at *
      obtain ⟨⟨i, nm⟩, u, er⟩ := R
      simp only at hnl
      refine hrd.out.mono ?_
      rintro e w2 ⟨rfl, hb2⟩
      have HNS3 := Lib.hid (((HNS.out.on hb2)).on ((Below.refl w2.heap.size w2).alloc (Nat.le_refl _) (.cells #[.int .i64 i, .string (strL nm)] 23)))
      have HB3 := Lib.hid ((HB.out.then_ hb2).then_ ((Below.refl w2.heap.size w2).alloc (Nat.le_refl _) (.cells #[.int .i64 i, .string (strL nm)] 23)))
      clear hb2
      by_cases her : er = 0
      case neg =>
        have g1 : (er == 0) = false := by simpa using her
        have g2 : (er != 0) = true := by simpa using her
        have hf := Lib.hid (hbad.out (by rw [hat.out]; simp [her]))
        clear her
        go_wp2_with (at_lookup; refine wpList_lookup_name rfl _ _ rfl rfl HNS3.out nm hnl rfl ?_; intro cc)
        rw [Exit.noGoto_ret]
        go_ret
        exact ⟨by rw [hf.out]; rfl, HB3.out⟩
      subst her
      cases u
      · have hokn := Lib.hid (show Dir.okTo b (k + 1) = true by rw [hto.out, HOK.out, hat.out]; simp)
        have hsn2 := Lib.hid (show Dir.seen b (k + 1) = Dir.seen b k from hsn.out)
        by_cases hk1 : k + 1 = S
        · have hf := Lib.hid (hend.out hk1 rfl)
          have g1 : ((k : Int) == (S : Int) - 1) = true := by rw [beq_iff_eq]; omega
          clear hk1
          go_wp2_with (first
            | (at_lookup; refine wpList_lookup_name rfl _ _ rfl rfl HNS3.out nm hnl rfl ?_; intro cc)
            | (go_at_call 33; refine (hsl.out _).mono ?_; rintro e w_ ⟨rfl, rfl⟩))
          rw [Exit.noGoto_ret]
          go_ret
          exact ⟨by rw [hf.out]; rfl, HB3.out⟩
        · have g1 : ((k : Int) == (S : Int) - 1) = false := by rw [beq_eq_false_iff_ne]; omega
          go_wp2_with (first
            | (at_lookup; refine wpList_lookup_name rfl _ _ rfl rfl HNS3.out nm hnl rfl ?_; intro cc)
            | (go_at_call 33; refine (hsl.out _).mono ?_; rintro e w_ ⟨rfl, rfl⟩))
          go_roundw
          case rel => exact ⟨k + 1, by omega, by go_num, rfl, hokn.out, .inr (.inl (by omega)), by rw [hsn2.out]; exact HNS3.out.mono (by omega), HB3.out⟩
          case measure => simp [intOf]; omega
      · obtain ⟨T, hT⟩ : ∃ T, T = (Dir.seen b k).contains nm := ⟨_, rfl⟩
        cases T
        · have hTT := Lib.hid hT.symm
          have hokn := Lib.hid (show Dir.okTo b (k + 1) = true by rw [hto.out, HOK.out, hat.out]; simp only [← hT]; rfl)
          have hsn2 := Lib.hid (show Dir.seen b (k + 1) = Dir.seen b k ++ [nm] from hsn.out)
          have hi64 : (Lit.int .i64 (k : Int)).wf = true := WalkArith.wf_i64 (by omega)
          have hsz0 := HB3.out.size
          clear hT
          go_wp2_with (first
            | (at_lookup; refine wpList_lookup_name rfl _ _ rfl rfl HNS3.out nm hnl rfl ?_; intro cc; rw [hTT.out])
            | (at_mapUpdate; refine wpList_add_name rfl _ _ _ rfl rfl HNS3.out (by simp only [maxLen]; omega) nm hnl (k : Int) hi64 rfl rfl ?_; intro w5 HN5 hg5))
          go_roundw
          case rel => exact ⟨k + 1, by omega, by go_num, rfl, hokn.out, .inr (.inr hus.out), by rw [hsn2.out]; exact HN5.out, HB3.out.grown hg5.out HB3.out.size (fun j hj => by cases hj; exact Nat.le_refl _)⟩
          case measure => simp [intOf]; omega
        · have hf := Lib.hid (hbad.out (by rw [hat.out]; simp only [← hT]; rfl))
          have hTT := Lib.hid hT.symm
          clear hT
          go_wp2_with (at_lookup; refine wpList_lookup_name rfl _ _ rfl rfl HNS3.out nm hnl rfl ?_; intro cc; rw [hTT.out])
          rw [Exit.noGoto_ret]
          go_ret
          exact ⟨by rw [hf.out]; rfl, HB3.out⟩
    · obtain rfl : k = S := by omega
      have hfin := Lib.hid (HGE.out HOK.out (by have h := HLA.out; rcases h with h | h | h <;> first | exact .inl h | exact .inr h | (exfalso; omega)))
      by_cases hM0 : M = 0
      · have g1 : ((M : Int) == 0) = true := by rw [hM0]; rfl
        have hf := Lib.hid (hfin.out.trans (if_pos hM0))
        clear hM0
        go_wp2
        rw [Exit.noGoto_ret]
        go_ret
        exact ⟨by rw [hf.out]; rfl, HB.out⟩
      · have g1 : ((M : Int) == 0) = false := by rw [beq_eq_false_iff_ne]; omega
        have hf := Lib.hid (hfin.out.trans (if_neg hM0))
        clear hM0
        go_wp2
        rw [Exit.noGoto_ret]
        go_ret
        exact ⟨by rw [hf.out]; rfl, HB.out⟩

namespace Dir
/-- The first empty slot, of k on. -/
def roomTo (b : List UInt8) (k : Nat) : Prop := ∀ j, j < k → isZ (slotAt b j) = false
def IsRoom (b : List UInt8) (r : Nat) : Prop := roomTo b r ∧ r ≤ cnt b ∧ (r < cnt b → isZ (slotAt b r) = true)
end Dir
theorem room_calls (a : Option Addr) (n c : Nat) (b : List UInt8) (w : World) (hx : Bytes w w.heap.size a n b) (hnc : n ≤ c) :
    Calls Try.prog 25 #[.slice a n c] w fun e w' => (∃ r : Nat, e = .returned (.int .i64 r) ∧ Dir.IsRoom b r) ∧ w = w' := by
  have hl := hx.len
  have hroom := hx.room
  have HX := Lib.hid hx
  obtain ⟨S, hS⟩ : ∃ S, S = Dir.cnt b := ⟨_, rfl⟩
  have hSn : S = n / 16 := by rw [hS, Dir.cnt, hl]
  have HS := Lib.hid hSn
  have HC := Lib.hid hS
  have hsl := Lib.hid (fun W => slots_calls a n c W (by omega))
  rw [← hSn] at hsl
  have hSle : S ≤ 140737488351232 := by omega
  clear hx hS hSn hl
  go_enter Try.func25, Try.ntmps25
  go_wp2_with fail
  refine (hsl.out _).mono ?_
  rintro e w_ ⟨rfl, rfl⟩
  go_wp2_with fail
  go_loop [6] (fun i => ∃ k : Nat, k ≤ S ∧ i = .int .i64 k ∧ Dir.roomTo b k) (fun i => S - (intOf i).toNat)
  case atStart => exact ⟨0, by omega, rfl, fun j hj => by omega⟩
  case round =>
    obtain ⟨k, hk, rfl, hz⟩ := hrel
    have HZ := Lib.hid hz
    clear hz
    by_cases hlt : k < S
    · have hsc := Lib.hid (slot_calls a n c k b w HX.out hnc (by have := HS.out; omega))
      go_wp2_with fail
      refine hsc.out.mono ?_
      rintro e w_ ⟨⟨a1, c1, rfl, hc1, ha1, hy⟩, rfl⟩
      have HE := Lib.hid (empty_calls a1 16 c1 _ w hy)
      clear ha1 hy
      cases hb : Dir.isZ (Dir.slotAt b k)
      · rw [hb] at HE
        have hnx := Lib.hid (show Dir.roomTo b (k + 1) from fun j hj => by
          by_cases h : j = k
          · rw [h]; exact hb
          · exact HZ.out j (by omega))
        clear hb
        go_wp2_with fail
        refine HE.out.mono ?_
        rintro e w_ ⟨rfl, rfl⟩
        go_wp2
        go_round
        case rel => exact ⟨k + 1, by omega, by go_num, hnx.out⟩
        case measure => simp [intOf]; omega
      · rw [hb] at HE
        have hfin := Lib.hid (show Dir.IsRoom b k from ⟨HZ.out, by have := HC.out; omega, fun _ => hb⟩)
        clear hb
        go_wp2_with fail
        refine HE.out.mono ?_
        rintro e w_ ⟨rfl, rfl⟩
        go_wp2
        go_ret
        exact ⟨⟨k, rfl, hfin.out⟩, rfl⟩
    · obtain rfl : k = S := by omega
      have hfin := Lib.hid (show Dir.IsRoom b k from ⟨HZ.out, by have := HC.out; omega, fun h => by have := HC.out; omega⟩)
      go_wp2_with fail
      refine (hsl.out _).mono ?_
      rintro e w_ ⟨rfl, rfl⟩
      go_wp2
      go_ret
      exact ⟨⟨k, rfl, hfin.out⟩, rfl⟩
end Go.Proofs.Ytlnomkkamopieaa
