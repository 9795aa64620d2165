import Derived.Test.YtcppkaphlcflgaaGreatRows
import Derived.Test.YtcppkaphlcflgaaGreatMem
import Derived.ProofKit
import Derived.OpenShut
import Derived.ShutString
import Derived.ChangeOld
import Derived.SizedLaws
import Derived.Lib.SmallJoins
namespace Go.Proofs.YtcppkaphlcflgaaGreat
open Go.ChangeShapes Go.WideShapes Go.ChangeAt Go.RowKit
open Go.ChangeMaps (open_string shut_string)

theorem own : ownKnob Tryz.prog.godebug = none := by kernel_rfl
theorem laidOut : laidOutB Tryz.prog = true := by kernel_rfl
theorem as_u16 {a : Int} (h : (Lit.int .u16 a).wf = true) : ∃ x : UInt16, a = (x.toNat : Int) := by
 have hb := bounds_u16 h
 refine ⟨UInt16.ofNat a.toNat, ?_⟩
 rw [UInt16.toNat_ofNat']; omega
end Go.Proofs.YtcppkaphlcflgaaGreat
