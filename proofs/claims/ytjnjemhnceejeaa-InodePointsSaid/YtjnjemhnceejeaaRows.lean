/-
  No cell of these rows narrows 'for every input' (looked for: loops, veiled, ifaces, maps, wideKeys, modest, calm, conditions, laid).
  DERIVED. THE GIVEN ROWS OF THIS SEAT. 7 by the template 'for every input the law returns true; each argument reads behind the call as it read before'; 0 by the template 'total and deterministic' (their statements: YtjnjemhnceejeaaTotals.lean).
  GIVEN WITH THE SEED: the statements are not yours to turn. If you find one false, say at which input.
  Laid BY PROGRAM, IN A SANDBOX (cutbox-rows.mjs): the forced cells as the released guide's own fill.sh prints them over the translation 01f4c40cdb9fc96e… (all of the seat's roots in one cut). By AI agents, Wed Nov 11 2026. No macro, syntax, notation, axiom, sorry.
-/
import Derived.Test.YtjnjemhnceejeaaChecked
import GoSem.Claim
import GoSem.ClaimJoined
import GoSem.ClaimMapViews
import Derived.JoinedTies
import Derived.KernelRfl
namespace Go.Proofs.Ytjnjemhnceejeaa
/- THE CELL 'sum', in the pinned program and in every row, IS THE sha256 OF THE DUMP (.gsa) THAT YtjnjemhnceejeaaProg.lean LOADS. Nothing in Lean hashes anything: it is a label: what it is worth is what the hold of that sum in a sandbox is worth. -/
noncomputable def Try.pinned : Pinned := { name := "ytjnjemhnceejeaa", sum := "01f4c40cdb9fc96ed2a6c52caa0e482743afbc4ed7504d28c9271ca68c6e7d99", checked := Try.checked }
namespace Rows
def none {H : Type} : Left H := { results := [], args := [] }

/-- 'cuneiformlaw09.InodeWays': WHATEVER THE INPUT: true; the input reads as it did. -/
def inodeWaysSpec : ChangeSpec := { name := "inodeWays", fn := fun _ => fun
  | [d1, d2] => { results := [.lit (.bool true)], args := [d1, d2] }
  | _ => none }
def inodeWaysRow : OpenClaim := { program := "ytjnjemhnceejeaa", sum := "01f4c40cdb9fc96ed2a6c52caa0e482743afbc4ed7504d28c9271ca68c6e7d99", func := "cuneiform/cuneiformlaw09.InodeWays", spec := "inodeWays", apart := false }
def InodeWaysSaid : Prop := inodeWaysRow.holds Try.pinned (OpenSpec.ofChange inodeWaysSpec)

/-- ITS FALSE NEIGHBOUR: 'it returns false'. Refute it at one input. -/
def inodeWaysWrong : ChangeSpec := { name := "inodeWays", fn := fun _ => fun
  | [d1, d2] => { results := [.lit (.bool false)], args := [d1, d2] }
  | _ => none }
def InodeWaysWrongFalsely : Prop := inodeWaysRow.holds Try.pinned (OpenSpec.ofChange inodeWaysWrong)

/-- 'cuneiformlaw09.InodeGaps': WHATEVER THE INPUT: true; the input reads as it did. -/
def inodeGapsSpec : ChangeSpec := { name := "inodeGaps", fn := fun _ => fun
  | [d1, d2, d3] => { results := [.lit (.bool true)], args := [d1, d2, d3] }
  | _ => none }
def inodeGapsRow : OpenClaim := { program := "ytjnjemhnceejeaa", sum := "01f4c40cdb9fc96ed2a6c52caa0e482743afbc4ed7504d28c9271ca68c6e7d99", func := "cuneiform/cuneiformlaw09.InodeGaps", spec := "inodeGaps", apart := false }
def InodeGapsSaid : Prop := inodeGapsRow.holds Try.pinned (OpenSpec.ofChange inodeGapsSpec)

/-- ITS FALSE NEIGHBOUR: 'it returns false'. Refute it at one input. -/
def inodeGapsWrong : ChangeSpec := { name := "inodeGaps", fn := fun _ => fun
  | [d1, d2, d3] => { results := [.lit (.bool false)], args := [d1, d2, d3] }
  | _ => none }
def InodeGapsWrongFalsely : Prop := inodeGapsRow.holds Try.pinned (OpenSpec.ofChange inodeGapsWrong)

/-- 'cuneiformlaw09.InodeBytes': WHATEVER THE INPUT: true; the input reads as it did. -/
def inodeBytesSpec : ChangeSpec := { name := "inodeBytes", fn := fun _ => fun
  | [d1, d2, d3] => { results := [.lit (.bool true)], args := [d1, d2, d3] }
  | _ => none }
def inodeBytesRow : OpenClaim := { program := "ytjnjemhnceejeaa", sum := "01f4c40cdb9fc96ed2a6c52caa0e482743afbc4ed7504d28c9271ca68c6e7d99", func := "cuneiform/cuneiformlaw09.InodeBytes", spec := "inodeBytes", unfollowed := true, recurses := true, apart := false }
def InodeBytesSaid : Prop := inodeBytesRow.holds Try.pinned (OpenSpec.ofChange inodeBytesSpec)

/-- ITS FALSE NEIGHBOUR: 'it returns false'. Refute it at one input. -/
def inodeBytesWrong : ChangeSpec := { name := "inodeBytes", fn := fun _ => fun
  | [d1, d2, d3] => { results := [.lit (.bool false)], args := [d1, d2, d3] }
  | _ => none }
def InodeBytesWrongFalsely : Prop := inodeBytesRow.holds Try.pinned (OpenSpec.ofChange inodeBytesWrong)

/-- 'cuneiformlaw09.InodePointed': WHATEVER THE INPUT: true; the input reads as it did. -/
def inodePointedSpec : ChangeSpec := { name := "inodePointed", fn := fun _ => fun
  | [d1, d2, d3, d4] => { results := [.lit (.bool true)], args := [d1, d2, d3, d4] }
  | _ => none }
def inodePointedRow : OpenClaim := { program := "ytjnjemhnceejeaa", sum := "01f4c40cdb9fc96ed2a6c52caa0e482743afbc4ed7504d28c9271ca68c6e7d99", func := "cuneiform/cuneiformlaw09.InodePointed", spec := "inodePointed", apart := false }
def InodePointedSaid : Prop := inodePointedRow.holds Try.pinned (OpenSpec.ofChange inodePointedSpec)

/-- ITS FALSE NEIGHBOUR: 'it returns false'. Refute it at one input. -/
def inodePointedWrong : ChangeSpec := { name := "inodePointed", fn := fun _ => fun
  | [d1, d2, d3, d4] => { results := [.lit (.bool false)], args := [d1, d2, d3, d4] }
  | _ => none }
def InodePointedWrongFalsely : Prop := inodePointedRow.holds Try.pinned (OpenSpec.ofChange inodePointedWrong)

/-- 'cuneiformlaw09.InodePoints': WHATEVER THE INPUT: true; the input reads as it did. -/
def inodePointsSpec : ChangeSpec := { name := "inodePoints", fn := fun _ => fun
  | [d1, d2, d3, d4] => { results := [.lit (.bool true)], args := [d1, d2, d3, d4] }
  | _ => none }
def inodePointsRow : OpenClaim := { program := "ytjnjemhnceejeaa", sum := "01f4c40cdb9fc96ed2a6c52caa0e482743afbc4ed7504d28c9271ca68c6e7d99", func := "cuneiform/cuneiformlaw09.InodePoints", spec := "inodePoints", unfollowed := true, recurses := true, apart := false }
def InodePointsSaid : Prop := inodePointsRow.holds Try.pinned (OpenSpec.ofChange inodePointsSpec)

/-- ITS FALSE NEIGHBOUR: 'it returns false'. Refute it at one input. -/
def inodePointsWrong : ChangeSpec := { name := "inodePoints", fn := fun _ => fun
  | [d1, d2, d3, d4] => { results := [.lit (.bool false)], args := [d1, d2, d3, d4] }
  | _ => none }
def InodePointsWrongFalsely : Prop := inodePointsRow.holds Try.pinned (OpenSpec.ofChange inodePointsWrong)

/-- 'cuneiformlaw09.InodeTables': WHATEVER THE INPUT: true; the input reads as it did. -/
def inodeTablesSpec : ChangeSpec := { name := "inodeTables", fn := fun _ => fun
  | [d1, d2, d3] => { results := [.lit (.bool true)], args := [d1, d2, d3] }
  | _ => none }
def inodeTablesRow : OpenClaim := { program := "ytjnjemhnceejeaa", sum := "01f4c40cdb9fc96ed2a6c52caa0e482743afbc4ed7504d28c9271ca68c6e7d99", func := "cuneiform/cuneiformlaw09.InodeTables", spec := "inodeTables", unfollowed := true, recurses := true, apart := false }
def InodeTablesSaid : Prop := inodeTablesRow.holds Try.pinned (OpenSpec.ofChange inodeTablesSpec)

/-- ITS FALSE NEIGHBOUR: 'it returns false'. Refute it at one input. -/
def inodeTablesWrong : ChangeSpec := { name := "inodeTables", fn := fun _ => fun
  | [d1, d2, d3] => { results := [.lit (.bool false)], args := [d1, d2, d3] }
  | _ => none }
def InodeTablesWrongFalsely : Prop := inodeTablesRow.holds Try.pinned (OpenSpec.ofChange inodeTablesWrong)

/-- 'cuneiformlaw09.InodeBack': WHATEVER THE INPUT: true; the input reads as it did. -/
def inodeBackSpec : ChangeSpec := { name := "inodeBack", fn := fun _ => fun
  | [d1, d2, d3, d4] => { results := [.lit (.bool true)], args := [d1, d2, d3, d4] }
  | _ => none }
def inodeBackRow : OpenClaim := { program := "ytjnjemhnceejeaa", sum := "01f4c40cdb9fc96ed2a6c52caa0e482743afbc4ed7504d28c9271ca68c6e7d99", func := "cuneiform/cuneiformlaw09.InodeBack", spec := "inodeBack", unfollowed := true, recurses := true, apart := false }
def InodeBackSaid : Prop := inodeBackRow.holds Try.pinned (OpenSpec.ofChange inodeBackSpec)

/-- ITS FALSE NEIGHBOUR: 'it returns false'. Refute it at one input. -/
def inodeBackWrong : ChangeSpec := { name := "inodeBack", fn := fun _ => fun
  | [d1, d2, d3, d4] => { results := [.lit (.bool false)], args := [d1, d2, d3, d4] }
  | _ => none }
def InodeBackWrongFalsely : Prop := inodeBackRow.holds Try.pinned (OpenSpec.ofChange inodeBackWrong)

/- THE SECOND FORM. 'bulk': how many values and letters a reading holds, each counted each time it is reached (what is shared counts as often as it is met; a slice's spare places count too). A statement '..UptoSaid' is the law's where the arguments, and the package variables that the reading takes, are together of bulk at most 1048576: NARROWER than '..Said'. Prove '..Said' where nothing that the law and all that it calls make is longer than what came in: it says more and counts as full. Else prove '..UptoSaid'. A law counts once. -/
mutual
def uptoBulk {H : Type} : DataW H → Nat
  | .lit (.string bytes) => bytes.length + 1
  | .lit _ => 1
  | .nil => 1
  | .ptr d => uptoBulk d + 1
  | .slice elems spare => uptoBulkAll elems + uptoBulkAll spare + 1
  | .agg parts => uptoBulkAll parts + 1
  | .iface _ d => uptoBulk d + 1
  | .map entries => uptoBulkEntries entries + 1
  | .held _ => 1
def uptoBulkAll {H : Type} : List (DataW H) → Nat
  | [] => 0
  | d :: r => uptoBulk d + uptoBulkAll r
def uptoBulkEntries {H : Type} : List (Lit × DataW H) → Nat
  | [] => 0
  | x :: r => uptoBulkEntry x + uptoBulkEntries r
def uptoBulkEntry {H : Type} : Lit × DataW H → Nat
  | (.string bytes, d) => bytes.length + uptoBulk d + 1
  | (_, d) => uptoBulk d + 1
 end
def uptoSmall : (H : Type) → List (DataW H) → Bool := fun _ ds => decide (uptoBulkAll ds ≤ 1048576)
def OpenSpec.upto (s : _root_.Go.ChangeSpec) : _root_.Go.OpenSpec := { _root_.Go.OpenSpec.ofChange s with cond := some uptoSmall }

/-- 'cuneiformlaw09.InodeWays', WHERE WHAT IT READS IS OF BULK AT MOST 1048576: true; the input reads as it did. -/
def inodeWaysUptoRow : OpenClaim := { program := "ytjnjemhnceejeaa", sum := "01f4c40cdb9fc96ed2a6c52caa0e482743afbc4ed7504d28c9271ca68c6e7d99", func := "cuneiform/cuneiformlaw09.InodeWays", spec := "inodeWays", apart := false, narrowed := true }
def InodeWaysUptoSaid : Prop := inodeWaysUptoRow.holds Try.pinned (OpenSpec.upto inodeWaysSpec)

/-- 'cuneiformlaw09.InodeGaps', WHERE WHAT IT READS IS OF BULK AT MOST 1048576: true; the input reads as it did. -/
def inodeGapsUptoRow : OpenClaim := { program := "ytjnjemhnceejeaa", sum := "01f4c40cdb9fc96ed2a6c52caa0e482743afbc4ed7504d28c9271ca68c6e7d99", func := "cuneiform/cuneiformlaw09.InodeGaps", spec := "inodeGaps", apart := false, narrowed := true }
def InodeGapsUptoSaid : Prop := inodeGapsUptoRow.holds Try.pinned (OpenSpec.upto inodeGapsSpec)

/-- 'cuneiformlaw09.InodeBytes', WHERE WHAT IT READS IS OF BULK AT MOST 1048576: true; the input reads as it did. -/
def inodeBytesUptoRow : OpenClaim := { program := "ytjnjemhnceejeaa", sum := "01f4c40cdb9fc96ed2a6c52caa0e482743afbc4ed7504d28c9271ca68c6e7d99", func := "cuneiform/cuneiformlaw09.InodeBytes", spec := "inodeBytes", unfollowed := true, recurses := true, apart := false, narrowed := true }
def InodeBytesUptoSaid : Prop := inodeBytesUptoRow.holds Try.pinned (OpenSpec.upto inodeBytesSpec)

/-- 'cuneiformlaw09.InodePointed', WHERE WHAT IT READS IS OF BULK AT MOST 1048576: true; the input reads as it did. -/
def inodePointedUptoRow : OpenClaim := { program := "ytjnjemhnceejeaa", sum := "01f4c40cdb9fc96ed2a6c52caa0e482743afbc4ed7504d28c9271ca68c6e7d99", func := "cuneiform/cuneiformlaw09.InodePointed", spec := "inodePointed", apart := false, narrowed := true }
def InodePointedUptoSaid : Prop := inodePointedUptoRow.holds Try.pinned (OpenSpec.upto inodePointedSpec)

/-- 'cuneiformlaw09.InodePoints', WHERE WHAT IT READS IS OF BULK AT MOST 1048576: true; the input reads as it did. -/
def inodePointsUptoRow : OpenClaim := { program := "ytjnjemhnceejeaa", sum := "01f4c40cdb9fc96ed2a6c52caa0e482743afbc4ed7504d28c9271ca68c6e7d99", func := "cuneiform/cuneiformlaw09.InodePoints", spec := "inodePoints", unfollowed := true, recurses := true, apart := false, narrowed := true }
def InodePointsUptoSaid : Prop := inodePointsUptoRow.holds Try.pinned (OpenSpec.upto inodePointsSpec)

/-- 'cuneiformlaw09.InodeTables', WHERE WHAT IT READS IS OF BULK AT MOST 1048576: true; the input reads as it did. -/
def inodeTablesUptoRow : OpenClaim := { program := "ytjnjemhnceejeaa", sum := "01f4c40cdb9fc96ed2a6c52caa0e482743afbc4ed7504d28c9271ca68c6e7d99", func := "cuneiform/cuneiformlaw09.InodeTables", spec := "inodeTables", unfollowed := true, recurses := true, apart := false, narrowed := true }
def InodeTablesUptoSaid : Prop := inodeTablesUptoRow.holds Try.pinned (OpenSpec.upto inodeTablesSpec)

/-- 'cuneiformlaw09.InodeBack', WHERE WHAT IT READS IS OF BULK AT MOST 1048576: true; the input reads as it did. -/
def inodeBackUptoRow : OpenClaim := { program := "ytjnjemhnceejeaa", sum := "01f4c40cdb9fc96ed2a6c52caa0e482743afbc4ed7504d28c9271ca68c6e7d99", func := "cuneiform/cuneiformlaw09.InodeBack", spec := "inodeBack", unfollowed := true, recurses := true, apart := false, narrowed := true }
def InodeBackUptoSaid : Prop := inodeBackUptoRow.holds Try.pinned (OpenSpec.upto inodeBackSpec)

end Rows
end Go.Proofs.Ytjnjemhnceejeaa
