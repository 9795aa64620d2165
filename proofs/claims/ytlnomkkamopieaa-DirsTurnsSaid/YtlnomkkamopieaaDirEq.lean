/-
  Two entries, as struct values, are the same when their number and name are.
-/
import Derived.Test.YtlnomkkamopieaaDirWrite
import Derived.Test.YtlnomkkamopieaaNumSame
import Derived.ChangeKeysEq
namespace Go.Proofs.Ytlnomkkamopieaa
open Go.RowKit Go

theorem eqEnt (e f : Ent) (w : World) : (Op.equalIn 10000 23 (.agg #[.int .i64 e.i, .string (strL e.nm)]) (.agg #[.int .i64 f.i, .string (strL f.nm)])).run Try.prog w = .ok (decide (e = f)) w := by
  have u3 := Try.underlying3
  have u9 := Try.underlying9
  have a3 := Try.isAgg3
  have z3 := Try.sizeOf3
  have hS : Try.prog.underlying 23 = some (.struct (Try.prog.fieldsOf 23)) := by kernel_rfl
  have hp : Try.prog.stoodInHeld 23 = false := by kernel_rfl
  rw [show (10000 : Nat) = 9999 + 1 from rfl, run_equalIn_agg w 9999 23 _ _ hS hp]
  simp only [Program.fieldsOf, Try.underlying23]
  go_simp
  obtain ⟨i, nm⟩ := e
  obtain ⟨j, nn⟩ := f
  by_cases h1 : i = j
  · by_cases h2 : nm = nn
    · subst h1 h2; simp
    · simp [h2]
  · simp [h1]
@[go_sem high] theorem eqEnt_ (i j : Int) (nm nn : List UInt8) (w : World) : (Op.equalIn 10000 23 (.agg #[.int .i64 i, .string (strL nm)]) (.agg #[.int .i64 j, .string (strL nn)])).run Try.prog w = .ok (decide ((⟨i, nm⟩ : Ent) = ⟨j, nn⟩)) w := eqEnt ⟨i, nm⟩ ⟨j, nn⟩ w
end Go.Proofs.Ytlnomkkamopieaa
