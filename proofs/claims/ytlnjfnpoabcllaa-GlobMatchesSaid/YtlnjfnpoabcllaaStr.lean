/-
  Strings in this program, as lists of bytes.
-/
import Derived.Test.YtlnjfnpoabcllaaRows
import Derived.Test.YtlnjfnpoabcllaaMem
import Derived.Test.YtlnjfnpoabcllaaNumMath
import Derived.TacticsIn
import Derived.Lib.Strings
import Derived.Lib.SlicesS
namespace Go.Proofs.Ytlnjfnpoabcllaa
open Go.RowKit

def strV (l : List UInt8) : Value := .string (strL l)
theorem strV_eq (l : List UInt8) : strV l = .string (strL l) := rfl
theorem strV_one (l : List UInt8) : (strV l).oneCell' = true := rfl
theorem strL_list (s : ByteArray) : strL s.data.toList = s := by simp [strL]
theorem strL_of (s : ByteArray) : ∃ l, s = strL l := ⟨_, (strL_list s).symm⟩
theorem strL_toList (l : List UInt8) : (strL l).toList = l := by rw [Lib.toList_data]; rfl
theorem strL_data (l : List UInt8) : (strL l).data.toList = l := rfl
theorem strL_size (l : List UInt8) : (strL l).size = l.length := rfl
theorem strL_append (a b : List UInt8) : strL a ++ strL b = strL (a ++ b) := by
  apply ByteArray.ext
  rw [ByteArray.data_append]
  simp [strL]
theorem strL_get (l : List UInt8) (i : Nat) (h : i < (strL l).size) : (strL l)[i] = l[i]'(by rw [strL_size] at h; exact h) := by
  show (strL l).data[i] = _
  simp [strL]
attribute [go_sem] strV_eq strL_size strL_toList strL_append strL_get
end Go.Proofs.Ytlnjfnpoabcllaa
