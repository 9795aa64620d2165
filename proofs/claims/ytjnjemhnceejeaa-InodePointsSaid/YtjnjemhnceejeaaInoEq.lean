/-
  Two inodes, as struct values, are the same when their numbers are.
-/
import Derived.Test.YtjnjemhnceejeaaInoRec
import Derived.Test.YtjnjemhnceejeaaBytes
import Derived.ChangeKeysEq
namespace Go.Proofs.Ytjnjemhnceejeaa
open Go.RowKit Go

abbrev nodV (i : Nod) : Value := .agg #[.int .i64 i.k, .int .i64 i.l, .int .i64 i.s, .int .i64 i.d0, .int .i64 i.d1, .int .i64 i.d2, .int .i64 i.d3, .int .i64 i.d4, .int .i64 i.d5, .int .i64 i.a, .int .i64 i.b]
abbrev nodO (i : Nod) : Obj := .cells #[.int .i64 i.k, .int .i64 i.l, .int .i64 i.s, .int .i64 i.d0, .int .i64 i.d1, .int .i64 i.d2, .int .i64 i.d3, .int .i64 i.d4, .int .i64 i.d5, .int .i64 i.a, .int .i64 i.b] 36
def nodEq (i j : Nod) : Bool := i.k == j.k && (i.l == j.l && (i.s == j.s && ((i.d0 == j.d0 && (i.d1 == j.d1 && (i.d2 == j.d2 && (i.d3 == j.d3 && (i.d4 == j.d4 && i.d5 == j.d5))))) && (i.a == j.a && i.b == j.b))))
theorem nodEq_iff (i j : Nod) : nodEq i j = true ↔ i = j := by
  obtain ⟨k, l, s, d0, d1, d2, d3, d4, d5, a, b⟩ := i
  obtain ⟨k', l', s', d0', d1', d2', d3', d4', d5', a', b'⟩ := j
  simp [nodEq]
  intro _ _ _
  constructor <;> (intro h; simp [h])
theorem nodEq_self (i : Nod) : nodEq i i = true := (nodEq_iff i i).2 rfl
theorem nodEq_ne {i j : Nod} (h : i ≠ j) : nodEq i j = false := by
  cases e : nodEq i j
  · rfl
  · exact absurd ((nodEq_iff i j).1 e) h
theorem eqItems_int (d i : Nat) (is : List Nat) (xs ys : Array Value) (a b : Int) (w : World) (hx : xs[i]? = some (.int .i64 a)) (hy : ys[i]? = some (.int .i64 b)) :
    (Op.eqItems (d + 1) 3 1 xs ys (i :: is)).run Try.prog w = if (a == b) = true then (Op.eqItems (d + 1) 3 1 xs ys is).run Try.prog w else .ok false w := by
  have hp : Try.prog.plainKey 3 = true := by kernel_rfl
  have p1 := run_part_plain (P := Try.prog) w hp (xs := xs) (off := i * 1) (by rw [Nat.mul_one]; exact hx)
  have p2 := run_part_plain (P := Try.prog) w hp (xs := ys) (off := i * 1) (by rw [Nat.mul_one]; exact hy)
  have p3 := run_equalIn_int (P := Try.prog) w d 3 .i64 .i64 a b Try.underlying3
  simp only [Op.eqItems, Sem.run_bind, p1, p2, p3, Result.andThen_ok]
  cases hab : (a == b) <;> simp
theorem eqSix (d : Nat) (a0 a1 a2 a3 a4 a5 b0 b1 b2 b3 b4 b5 : Int) (w : World) :
    (Op.equalIn (d + 2) 34 (.agg #[.int .i64 a0, .int .i64 a1, .int .i64 a2, .int .i64 a3, .int .i64 a4, .int .i64 a5]) (.agg #[.int .i64 b0, .int .i64 b1, .int .i64 b2, .int .i64 b3, .int .i64 b4, .int .i64 b5])).run Try.prog w
      = .ok (a0 == b0 && (a1 == b1 && (a2 == b2 && (a3 == b3 && (a4 == b4 && a5 == b5))))) w := by
  have u3 := Try.underlying3
  obtain ⟨i, hi⟩ := info_of_underlying u3
  have hc : Try.prog.cellsOf 3 = 1 := by kernel_rfl
  rw [run_equalIn_array w (d + 1) _ _ Try.underlying34 hi, hc]
  rw [show List.range 6 = [0, 1, 2, 3, 4, 5] from rfl]
  rw [eqItems_int _ _ _ _ _ a0 b0 w rfl rfl, eqItems_int _ _ _ _ _ a1 b1 w rfl rfl, eqItems_int _ _ _ _ _ a2 b2 w rfl rfl, eqItems_int _ _ _ _ _ a3 b3 w rfl rfl, eqItems_int _ _ _ _ _ a4 b4 w rfl rfl, eqItems_int _ _ _ _ _ a5 b5 w rfl rfl]
  rw [show (Op.eqItems (d + 1) 3 1 _ _ []).run Try.prog w = .ok true w from rfl]
  cases (a0 == b0) <;> cases (a1 == b1) <;> cases (a2 == b2) <;> cases (a3 == b3) <;> cases (a4 == b4) <;> cases (a5 == b5) <;> rfl
theorem eqNod (i j : Nod) (w : World) : (Op.equalIn 10000 36 (nodV i) (nodV j)).run Try.prog w = .ok (nodEq i j) w := by
  have u3 := Try.underlying3
  have a3 := Try.isAgg3
  have z3 := Try.sizeOf3
  have hS : Try.prog.underlying 36 = some (.struct (Try.prog.fieldsOf 36)) := by kernel_rfl
  have hp : Try.prog.stoodInHeld 36 = false := by kernel_rfl
  have h6 := fun a0 a1 a2 a3 a4 a5 b0 b1 b2 b3 b4 b5 => eqSix 9997 a0 a1 a2 a3 a4 a5 b0 b1 b2 b3 b4 b5
  rw [show (10000 : Nat) = 9999 + 1 from rfl, run_equalIn_agg w 9999 36 _ _ hS hp]
  simp only [Program.fieldsOf, Try.underlying36]
  go_simp
  have hd : (i.d0 = j.d0 → i.d1 = j.d1 → i.d2 = j.d2 → i.d3 = j.d3 → i.d4 = j.d4 → ¬i.d5 = j.d5) ↔ ¬ ((i.d0 == j.d0 && (i.d1 == j.d1 && (i.d2 == j.d2 && (i.d3 == j.d3 && (i.d4 == j.d4 && i.d5 == j.d5))))) = true) := by
    simp
  simp only [hd, nodEq]
  by_cases h1 : i.k = j.k
  · by_cases h2 : i.l = j.l
    · by_cases h3 : i.s = j.s
      · by_cases h4 : (i.d0 == j.d0 && (i.d1 == j.d1 && (i.d2 == j.d2 && (i.d3 == j.d3 && (i.d4 == j.d4 && i.d5 == j.d5))))) = true
        · by_cases h5 : i.a = j.a
          · by_cases h6 : i.b = j.b
            · simp only [h1, h2, h3, h4, h5, h6]; simp
            · simp only [h1, h2, h3, h4, h5]; simp [h6]
          · simp only [h1, h2, h3, h4]; simp [h5]
        · rw [Bool.not_eq_true] at h4
          simp only [h1, h2, h3, h4]; simp
      · simp only [h1, h2]; simp [h3]
    · simp only [h1]; simp [h2]
  · simp [h1]
@[go_sem high] theorem eqNod_ (k l s d0 d1 d2 d3 d4 d5 a b k' l' s' d0' d1' d2' d3' d4' d5' a' b' : Int) (w : World) : (Op.equalIn 10000 36 (.agg #[.int .i64 k, .int .i64 l, .int .i64 s, .int .i64 d0, .int .i64 d1, .int .i64 d2, .int .i64 d3, .int .i64 d4, .int .i64 d5, .int .i64 a, .int .i64 b]) (.agg #[.int .i64 k', .int .i64 l', .int .i64 s', .int .i64 d0', .int .i64 d1', .int .i64 d2', .int .i64 d3', .int .i64 d4', .int .i64 d5', .int .i64 a', .int .i64 b'])).run Try.prog w = .ok (nodEq ⟨k, l, s, d0, d1, d2, d3, d4, d5, a, b⟩ ⟨k', l', s', d0', d1', d2', d3', d4', d5', a', b'⟩) w := eqNod ⟨k, l, s, d0, d1, d2, d3, d4, d5, a, b⟩ ⟨k', l', s', d0', d1', d2', d3', d4', d5', a', b'⟩ w
@[go_sem] theorem idxSix0 (a0 a1 a2 a3 a4 a5 : Int) (w : World) : (Instr.index 34 (.agg #[.int .i64 a0, .int .i64 a1, .int .i64 a2, .int .i64 a3, .int .i64 a4, .int .i64 a5]) (.int .i64 0)).run Try.prog w = .ok (.int .i64 a0) w := by kernel_rfl
@[go_sem] theorem idxSix1 (a0 a1 a2 a3 a4 a5 : Int) (w : World) : (Instr.index 34 (.agg #[.int .i64 a0, .int .i64 a1, .int .i64 a2, .int .i64 a3, .int .i64 a4, .int .i64 a5]) (.int .i64 1)).run Try.prog w = .ok (.int .i64 a1) w := by kernel_rfl
@[go_sem] theorem idxSix2 (a0 a1 a2 a3 a4 a5 : Int) (w : World) : (Instr.index 34 (.agg #[.int .i64 a0, .int .i64 a1, .int .i64 a2, .int .i64 a3, .int .i64 a4, .int .i64 a5]) (.int .i64 2)).run Try.prog w = .ok (.int .i64 a2) w := by kernel_rfl
@[go_sem] theorem idxSix3 (a0 a1 a2 a3 a4 a5 : Int) (w : World) : (Instr.index 34 (.agg #[.int .i64 a0, .int .i64 a1, .int .i64 a2, .int .i64 a3, .int .i64 a4, .int .i64 a5]) (.int .i64 3)).run Try.prog w = .ok (.int .i64 a3) w := by kernel_rfl
@[go_sem] theorem idxSix4 (a0 a1 a2 a3 a4 a5 : Int) (w : World) : (Instr.index 34 (.agg #[.int .i64 a0, .int .i64 a1, .int .i64 a2, .int .i64 a3, .int .i64 a4, .int .i64 a5]) (.int .i64 4)).run Try.prog w = .ok (.int .i64 a4) w := by kernel_rfl
@[go_sem] theorem idxSix5 (a0 a1 a2 a3 a4 a5 : Int) (w : World) : (Instr.index 34 (.agg #[.int .i64 a0, .int .i64 a1, .int .i64 a2, .int .i64 a3, .int .i64 a4, .int .i64 a5]) (.int .i64 5)).run Try.prog w = .ok (.int .i64 a5) w := by kernel_rfl
end Go.Proofs.Ytjnjemhnceejeaa
