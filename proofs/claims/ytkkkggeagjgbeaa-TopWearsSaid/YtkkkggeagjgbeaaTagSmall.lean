/-
  The reference's Big: a number in so many bytes, the least one first.
-/
/-
  The small functions of tags: sized, Right, put, erased.
-/
import Derived.Test.YtkkkggeagjgbeaaBytes
import Derived.Test.YtkkkggeagjgbeaaNumMath
import Derived.Test.YtkkkggeagjgbeaaTagMath
import Derived.Test.YtkkkggeagjgbeaaCrcMore
namespace Go.Proofs.Ytkkkggeagjgbeaa
open Go.RowKit

def Fresh (l : List UInt8) (w : World) (e : Ending) (w' : World) : Prop := ∃ v, e = .returned v ∧ Own byteV 5 w' w.heap.size v l ∧ Below w.heap.size w w'

end Go.Proofs.Ytkkkggeagjgbeaa
namespace Go.Proofs.Ytkkkggeagjgbeaa
open Go.RowKit

abbrev tagV (t : Tg) : Value := .agg #[.int .i64 t.k, .int .u32 (t.p : Int), .int .u64 (t.s : Int), .int .u64 (t.e : Int)]
abbrev tagO (t : Tg) : Obj := .cells #[.int .i64 t.k, .int .u32 (t.p : Int), .int .u64 (t.s : Int), .int .u64 (t.e : Int)] 79

theorem fits_yes (n : Nat) (h : Tg.Fits n) (w : World) : Calls Try.prog 68 #[.int .i64 n] w fun e w' => e = .returned (.bool true) ∧ w = w' := by
  rcases h with rfl | rfl | rfl | rfl
  all_goals
    go_enter Try.func68, Try.ntmps68
    go_wp2
    go_ret
    exact ⟨rfl, rfl⟩
theorem fits_no (n : Int) (h : ¬ (n = 64 ∨ n = 128 ∨ n = 256 ∨ n = 512)) (w : World) : Calls Try.prog 68 #[.int .i64 n] w fun e w' => e = .returned (.bool false) ∧ w = w' := by
  have h1 : (n == 64) = false := by rw [beq_eq_false_iff_ne]; omega
  have h2 : (n == 128) = false := by rw [beq_eq_false_iff_ne]; omega
  have h3 : (n == 256) = false := by rw [beq_eq_false_iff_ne]; omega
  have h4 : (n == 512) = false := by rw [beq_eq_false_iff_ne]; omega
  clear h
  go_enter Try.func68, Try.ntmps68
  go_wp2
  go_ret
  exact ⟨rfl, rfl⟩
set_option maxHeartbeats 1000000 in
theorem tput_calls (v0 : Value) (xs : List UInt8) (X n base : Nat) (w : World) (hX : X < 18446744073709551616) (hn : n ≤ 1000) (hl : xs.length ≤ 1000000) (h0 : Own byteV 5 w base v0 xs) (hbase : base ≤ w.heap.size) :
    Calls Try.prog 69 #[v0, .int .u64 X, .int .i64 n] w fun e w' => (∃ v, e = .returned v ∧ Own byteV 5 w' base v (xs ++ bigL X n)) ∧ Below base w w' := by
  have H0 := Lib.hid h0
  clear h0
  go_enter Try.func69, Try.ntmps69
  go_wp2
  go_loopw [0, 1, 8] (fun v x i wr => ∃ k : Nat, k ≤ n ∧ i = .int .i64 k ∧ x = .int .u64 (X / 256 ^ k : Nat) ∧ Own byteV 5 wr base v (xs ++ bigL X k) ∧ Below base w wr) (fun _ _ i _ => n - (intOf i).toNat)
  case atStart =>
    exact ⟨0, by omega, rfl, by simp, by simpa [bigL] using H0.out, Below.refl _ _⟩
  case round =>
    obtain ⟨k, hk, rfl, rfl, ho, hb⟩ := hrel
    have HO := Lib.hid ho
    have HB := Lib.hid hb
    have hsz := hb.size
    have hlt0 : X / 256 ^ k < 18446744073709551616 := Nat.lt_of_le_of_lt (Nat.div_le_self _ _) hX
    have hnext := Lib.hid (show X / 256 ^ k / 256 = X / 256 ^ (k + 1) by rw [Nat.div_div_eq_div_mul, Nat.pow_succ])
    have hbyte := Lib.hid (show (UInt8.ofNat (X / 256 ^ k)).toNat = X / 256 ^ k % 256 by rw [UInt8.toNat_ofNat'])
    generalize hY : X / 256 ^ k = Y at *
    have HY := Lib.hid hY
    clear ho hb hY
    by_cases hlt : k < n
    · have hlit := Lib.hid (show #[Value.int .u8 ((Y : Int) % 256)] = ([UInt8.ofNat Y].map byteV).toArray by
        rw [show ((Y : Int) % 256) = ((Y % 256 : Nat) : Int) by omega, ← hbyte.out]; rfl)
      go_wp2_with (at_builtin; refine wpList_appB rfl _ _ rfl base _ (xs ++ bigL X k) rfl (HO.out.alloc _) _ _ _ _ [UInt8.ofNat Y] rfl (Arr.lit wr 5 [UInt8.ofNat Y] 1 rfl (by omega) hlit.out) (by rw [List.length_append, bigL_len]; omega) (by simp; omega) ?_; intro v1 w1 hown1 hg1 hat1)
      go_roundw
      case rel =>
        refine ⟨k + 1, by omega, by go_num, ?_, ?_, ?_⟩
        · rw [← hnext.out]; exact congrArg (Value.int .u64) (by omega)
        · rw [bigL_snoc, HY.out, ← List.append_assoc]; exact hown1
        · exact below_own (HB.out.alloc (by omega) _) (HO.out.alloc _) hg1 (by simp; omega)
      case measure => simp [intOf]; omega
    · obtain rfl : k = n := by omega
      go_wp2
      go_ret
      exact ⟨⟨_, rfl, HO.out⟩, HB.out⟩

theorem full_take_succ (xs : List UInt8) (k : Nat) (h : k < xs.length) : Tg.full (xs.take (k + 1)) = (Tg.full (xs.take k) && xs[k] == 255) := by
  unfold Tg.full
  rw [List.take_succ_eq_append_getElem h, List.all_append]
  simp only [List.all_cons, List.all_nil, Bool.and_true]
theorem full_no {xs : List UInt8} {k : Nat} (h : k < xs.length) (hne : xs[k] ≠ 255) : Tg.full xs = false := by
  rw [← Bool.not_eq_true]
  intro hf
  rw [Tg.full, List.all_eq_true] at hf
  have := hf xs[k] (List.getElem_mem h)
  simp at this
  exact hne this
theorem b255 (x : UInt8) : ((x.toNat : Int) = 255) ↔ x = 255 := by
  constructor
  · intro h; apply UInt8.toNat_inj.1; have : (255 : UInt8).toNat = 255 := rfl; omega
  · rintro rfl; rfl
end Go.Proofs.Ytkkkggeagjgbeaa
