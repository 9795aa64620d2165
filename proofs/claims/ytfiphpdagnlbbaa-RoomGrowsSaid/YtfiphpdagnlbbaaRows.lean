/-
  No cell of these rows narrows 'for every input' (looked for: loops, veiled, ifaces, maps, wideKeys, modest, calm, conditions, laid).
  DERIVED. THE GIVEN ROWS OF THIS SEAT. 6 by the template 'for every input the law returns true; each argument reads behind the call as it read before'; 0 by the template 'total and deterministic' (their statements: YtfiphpdagnlbbaaTotals.lean).
  GIVEN WITH THE SEED: the statements are not yours to turn. If you find one false, say at which input.
  Laid BY PROGRAM, IN A SANDBOX (cutbox-rows.mjs): the forced cells as the released guide's own fill.sh prints them over the translation 47e324eb168ffbd5… (all of the seat's roots in one cut). By AI agents, Wed Nov 11 2026. No macro, syntax, notation, axiom, sorry.
-/
import Derived.Test.YtfiphpdagnlbbaaChecked
import GoSem.Claim
import GoSem.ClaimJoined
import GoSem.ClaimMapViews
import Derived.JoinedTies
import Derived.KernelRfl
namespace Go.Proofs.Ytfiphpdagnlbbaa
/- THE CELL 'sum', in the pinned program and in every row, IS THE sha256 OF THE DUMP (.gsa) THAT YtfiphpdagnlbbaaProg.lean LOADS. Nothing in Lean hashes anything: it is a label: what it is worth is what the hold of that sum in a sandbox is worth. -/
noncomputable def Try.pinned : Pinned := { name := "ytfiphpdagnlbbaa", sum := "47e324eb168ffbd5297ecf0f376258985b9c85da36cc84ecf3ade6093a7d0545", checked := Try.checked }
namespace Rows
def none {H : Type} : Left H := { results := [], args := [] }

/-- 'cuneiformlaw10.RoomPlans': WHATEVER THE INPUT: true; the input reads as it did. -/
def roomPlansSpec : ChangeSpec := { name := "roomPlans", fn := fun _ => fun
  | [d1, d2] => { results := [.lit (.bool true)], args := [d1, d2] }
  | _ => none }
def roomPlansRow : OpenClaim := { program := "ytfiphpdagnlbbaa", sum := "47e324eb168ffbd5297ecf0f376258985b9c85da36cc84ecf3ade6093a7d0545", func := "cuneiform/cuneiformlaw10.RoomPlans", spec := "roomPlans", recurses := true, plainKeys := false, apart := false }
def RoomPlansSaid : Prop := roomPlansRow.holds Try.pinned (OpenSpec.ofChange roomPlansSpec)

/-- ITS FALSE NEIGHBOUR: 'it returns false'. Refute it at one input. -/
def roomPlansWrong : ChangeSpec := { name := "roomPlans", fn := fun _ => fun
  | [d1, d2] => { results := [.lit (.bool false)], args := [d1, d2] }
  | _ => none }
def RoomPlansWrongFalsely : Prop := roomPlansRow.holds Try.pinned (OpenSpec.ofChange roomPlansWrong)

/-- 'cuneiformlaw10.RoomFiles': WHATEVER THE INPUT: true; the input reads as it did. -/
def roomFilesSpec : ChangeSpec := { name := "roomFiles", fn := fun _ => fun
  | [d1, d2, d3] => { results := [.lit (.bool true)], args := [d1, d2, d3] }
  | _ => none }
def roomFilesRow : OpenClaim := { program := "ytfiphpdagnlbbaa", sum := "47e324eb168ffbd5297ecf0f376258985b9c85da36cc84ecf3ade6093a7d0545", func := "cuneiform/cuneiformlaw10.RoomFiles", spec := "roomFiles", recurses := true, plainKeys := false, apart := false }
def RoomFilesSaid : Prop := roomFilesRow.holds Try.pinned (OpenSpec.ofChange roomFilesSpec)

/-- ITS FALSE NEIGHBOUR: 'it returns false'. Refute it at one input. -/
def roomFilesWrong : ChangeSpec := { name := "roomFiles", fn := fun _ => fun
  | [d1, d2, d3] => { results := [.lit (.bool false)], args := [d1, d2, d3] }
  | _ => none }
def RoomFilesWrongFalsely : Prop := roomFilesRow.holds Try.pinned (OpenSpec.ofChange roomFilesWrong)

/-- 'cuneiformlaw10.RoomDirs': WHATEVER THE INPUT: true; the input reads as it did. -/
def roomDirsSpec : ChangeSpec := { name := "roomDirs", fn := fun _ => fun
  | [d1, d2, d3] => { results := [.lit (.bool true)], args := [d1, d2, d3] }
  | _ => none }
def roomDirsRow : OpenClaim := { program := "ytfiphpdagnlbbaa", sum := "47e324eb168ffbd5297ecf0f376258985b9c85da36cc84ecf3ade6093a7d0545", func := "cuneiform/cuneiformlaw10.RoomDirs", spec := "roomDirs", recurses := true, plainKeys := false, apart := false }
def RoomDirsSaid : Prop := roomDirsRow.holds Try.pinned (OpenSpec.ofChange roomDirsSpec)

/-- ITS FALSE NEIGHBOUR: 'it returns false'. Refute it at one input. -/
def roomDirsWrong : ChangeSpec := { name := "roomDirs", fn := fun _ => fun
  | [d1, d2, d3] => { results := [.lit (.bool false)], args := [d1, d2, d3] }
  | _ => none }
def RoomDirsWrongFalsely : Prop := roomDirsRow.holds Try.pinned (OpenSpec.ofChange roomDirsWrong)

/-- 'cuneiformlaw10.RoomShares': WHATEVER THE INPUT: true; the input reads as it did. -/
def roomSharesSpec : ChangeSpec := { name := "roomShares", fn := fun _ => fun
  | [d1, d2, d3] => { results := [.lit (.bool true)], args := [d1, d2, d3] }
  | _ => none }
def roomSharesRow : OpenClaim := { program := "ytfiphpdagnlbbaa", sum := "47e324eb168ffbd5297ecf0f376258985b9c85da36cc84ecf3ade6093a7d0545", func := "cuneiform/cuneiformlaw10.RoomShares", spec := "roomShares", recurses := true, plainKeys := false, apart := false }
def RoomSharesSaid : Prop := roomSharesRow.holds Try.pinned (OpenSpec.ofChange roomSharesSpec)

/-- ITS FALSE NEIGHBOUR: 'it returns false'. Refute it at one input. -/
def roomSharesWrong : ChangeSpec := { name := "roomShares", fn := fun _ => fun
  | [d1, d2, d3] => { results := [.lit (.bool false)], args := [d1, d2, d3] }
  | _ => none }
def RoomSharesWrongFalsely : Prop := roomSharesRow.holds Try.pinned (OpenSpec.ofChange roomSharesWrong)

/-- 'cuneiformlaw10.RoomGrows': WHATEVER THE INPUT: true; the input reads as it did. -/
def roomGrowsSpec : ChangeSpec := { name := "roomGrows", fn := fun _ => fun
  | [d1, d2, d3, d4, d5] => { results := [.lit (.bool true)], args := [d1, d2, d3, d4, d5] }
  | _ => none }
def roomGrowsRow : OpenClaim := { program := "ytfiphpdagnlbbaa", sum := "47e324eb168ffbd5297ecf0f376258985b9c85da36cc84ecf3ade6093a7d0545", func := "cuneiform/cuneiformlaw10.RoomGrows", spec := "roomGrows", recurses := true, plainKeys := false, apart := false }
def RoomGrowsSaid : Prop := roomGrowsRow.holds Try.pinned (OpenSpec.ofChange roomGrowsSpec)

/-- ITS FALSE NEIGHBOUR: 'it returns false'. Refute it at one input. -/
def roomGrowsWrong : ChangeSpec := { name := "roomGrows", fn := fun _ => fun
  | [d1, d2, d3, d4, d5] => { results := [.lit (.bool false)], args := [d1, d2, d3, d4, d5] }
  | _ => none }
def RoomGrowsWrongFalsely : Prop := roomGrowsRow.holds Try.pinned (OpenSpec.ofChange roomGrowsWrong)

/-- 'cuneiformlaw10.RoomRows': WHATEVER THE INPUT: true; the input reads as it did. -/
def roomRowsSpec : ChangeSpec := { name := "roomRows", fn := fun _ => fun
  | [d1, d2, d3, d4, d5] => { results := [.lit (.bool true)], args := [d1, d2, d3, d4, d5] }
  | _ => none }
def roomRowsRow : OpenClaim := { program := "ytfiphpdagnlbbaa", sum := "47e324eb168ffbd5297ecf0f376258985b9c85da36cc84ecf3ade6093a7d0545", func := "cuneiform/cuneiformlaw10.RoomRows", spec := "roomRows", unfollowed := true, recurses := true, plainKeys := false, apart := false }
def RoomRowsSaid : Prop := roomRowsRow.holds Try.pinned (OpenSpec.ofChange roomRowsSpec)

/-- ITS FALSE NEIGHBOUR: 'it returns false'. Refute it at one input. -/
def roomRowsWrong : ChangeSpec := { name := "roomRows", fn := fun _ => fun
  | [d1, d2, d3, d4, d5] => { results := [.lit (.bool false)], args := [d1, d2, d3, d4, d5] }
  | _ => none }
def RoomRowsWrongFalsely : Prop := roomRowsRow.holds Try.pinned (OpenSpec.ofChange roomRowsWrong)

/- THE SECOND FORM. 'bulk': how many values and letters a reading holds, each counted each time it is reached (what is shared counts as often as it is met; a slice's spare places count too). A statement '..UptoSaid' is the law's where the arguments, and the package variables that the reading takes, are together of bulk at most 1048576: NARROWER than '..Said'. Prove '..Said' where nothing that the law and all that it calls make is longer than what came in: it says more and counts as full. Else prove '..UptoSaid'. A law counts once. -/
mutual
def uptoBulk {H : Type} : DataW H → Nat
  | .lit (.string bytes) => bytes.length + 1
  | .lit _ => 1
  | .nil => 1
  | .ptr d => uptoBulk d + 1
  | .slice elems spare => uptoBulkAll elems + uptoBulkAll spare + 1
  | .agg parts => uptoBulkAll parts + 1
  | .iface _ d => uptoBulk d + 1
  | .map entries => uptoBulkEntries entries + 1
  | .held _ => 1
def uptoBulkAll {H : Type} : List (DataW H) → Nat
  | [] => 0
  | d :: r => uptoBulk d + uptoBulkAll r
def uptoBulkEntries {H : Type} : List (Lit × DataW H) → Nat
  | [] => 0
  | x :: r => uptoBulkEntry x + uptoBulkEntries r
def uptoBulkEntry {H : Type} : Lit × DataW H → Nat
  | (.string bytes, d) => bytes.length + uptoBulk d + 1
  | (_, d) => uptoBulk d + 1
 end
def uptoSmall : (H : Type) → List (DataW H) → Bool := fun _ ds => decide (uptoBulkAll ds ≤ 1048576)
def OpenSpec.upto (s : _root_.Go.ChangeSpec) : _root_.Go.OpenSpec := { _root_.Go.OpenSpec.ofChange s with cond := some uptoSmall }

/-- 'cuneiformlaw10.RoomPlans', WHERE WHAT IT READS IS OF BULK AT MOST 1048576: true; the input reads as it did. -/
def roomPlansUptoRow : OpenClaim := { program := "ytfiphpdagnlbbaa", sum := "47e324eb168ffbd5297ecf0f376258985b9c85da36cc84ecf3ade6093a7d0545", func := "cuneiform/cuneiformlaw10.RoomPlans", spec := "roomPlans", recurses := true, plainKeys := false, apart := false, narrowed := true }
def RoomPlansUptoSaid : Prop := roomPlansUptoRow.holds Try.pinned (OpenSpec.upto roomPlansSpec)

/-- 'cuneiformlaw10.RoomFiles', WHERE WHAT IT READS IS OF BULK AT MOST 1048576: true; the input reads as it did. -/
def roomFilesUptoRow : OpenClaim := { program := "ytfiphpdagnlbbaa", sum := "47e324eb168ffbd5297ecf0f376258985b9c85da36cc84ecf3ade6093a7d0545", func := "cuneiform/cuneiformlaw10.RoomFiles", spec := "roomFiles", recurses := true, plainKeys := false, apart := false, narrowed := true }
def RoomFilesUptoSaid : Prop := roomFilesUptoRow.holds Try.pinned (OpenSpec.upto roomFilesSpec)

/-- 'cuneiformlaw10.RoomDirs', WHERE WHAT IT READS IS OF BULK AT MOST 1048576: true; the input reads as it did. -/
def roomDirsUptoRow : OpenClaim := { program := "ytfiphpdagnlbbaa", sum := "47e324eb168ffbd5297ecf0f376258985b9c85da36cc84ecf3ade6093a7d0545", func := "cuneiform/cuneiformlaw10.RoomDirs", spec := "roomDirs", recurses := true, plainKeys := false, apart := false, narrowed := true }
def RoomDirsUptoSaid : Prop := roomDirsUptoRow.holds Try.pinned (OpenSpec.upto roomDirsSpec)

/-- 'cuneiformlaw10.RoomShares', WHERE WHAT IT READS IS OF BULK AT MOST 1048576: true; the input reads as it did. -/
def roomSharesUptoRow : OpenClaim := { program := "ytfiphpdagnlbbaa", sum := "47e324eb168ffbd5297ecf0f376258985b9c85da36cc84ecf3ade6093a7d0545", func := "cuneiform/cuneiformlaw10.RoomShares", spec := "roomShares", recurses := true, plainKeys := false, apart := false, narrowed := true }
def RoomSharesUptoSaid : Prop := roomSharesUptoRow.holds Try.pinned (OpenSpec.upto roomSharesSpec)

/-- 'cuneiformlaw10.RoomGrows', WHERE WHAT IT READS IS OF BULK AT MOST 1048576: true; the input reads as it did. -/
def roomGrowsUptoRow : OpenClaim := { program := "ytfiphpdagnlbbaa", sum := "47e324eb168ffbd5297ecf0f376258985b9c85da36cc84ecf3ade6093a7d0545", func := "cuneiform/cuneiformlaw10.RoomGrows", spec := "roomGrows", recurses := true, plainKeys := false, apart := false, narrowed := true }
def RoomGrowsUptoSaid : Prop := roomGrowsUptoRow.holds Try.pinned (OpenSpec.upto roomGrowsSpec)

/-- 'cuneiformlaw10.RoomRows', WHERE WHAT IT READS IS OF BULK AT MOST 1048576: true; the input reads as it did. -/
def roomRowsUptoRow : OpenClaim := { program := "ytfiphpdagnlbbaa", sum := "47e324eb168ffbd5297ecf0f376258985b9c85da36cc84ecf3ade6093a7d0545", func := "cuneiform/cuneiformlaw10.RoomRows", spec := "roomRows", unfollowed := true, recurses := true, plainKeys := false, apart := false, narrowed := true }
def RoomRowsUptoSaid : Prop := roomRowsUptoRow.holds Try.pinned (OpenSpec.upto roomRowsSpec)

end Rows
end Go.Proofs.Ytfiphpdagnlbbaa
