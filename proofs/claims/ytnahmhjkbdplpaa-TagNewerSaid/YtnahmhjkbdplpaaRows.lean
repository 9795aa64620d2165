/-
  No cell of these rows narrows 'for every input' (looked for: loops, veiled, ifaces, maps, wideKeys, modest, calm, conditions, laid).
  DERIVED. THE GIVEN ROWS OF THIS SEAT. 6 by the template 'for every input the law returns true; each argument reads behind the call as it read before'; 0 by the template 'total and deterministic' (their statements: YtnahmhjkbdplpaaTotals.lean).
  GIVEN WITH THE SEED: the statements are not yours to turn. If you find one false, say at which input.
  Laid BY PROGRAM, IN A SANDBOX (cutbox-rows.mjs): the forced cells as the released guide's own fill.sh prints them over the translation 3350134ff6dc9b3e… (all of the seat's roots in one cut). By AI agents, Wed Nov 11 2026. No macro, syntax, notation, axiom, sorry.
-/
import Derived.Test.YtnahmhjkbdplpaaChecked
import GoSem.Claim
import GoSem.ClaimJoined
import GoSem.ClaimMapViews
import Derived.JoinedTies
import Derived.KernelRfl
namespace Go.Proofs.Ytnahmhjkbdplpaa
/- THE CELL 'sum', in the pinned program and in every row, IS THE sha256 OF THE DUMP (.gsa) THAT YtnahmhjkbdplpaaProg.lean LOADS. Nothing in Lean hashes anything: it is a label: what it is worth is what the hold of that sum in a sandbox is worth. -/
noncomputable def Try.pinned : Pinned := { name := "ytnahmhjkbdplpaa", sum := "3350134ff6dc9b3ef47c4188ad3a26730138654743fbca051a5f6bec938edde2", checked := Try.checked }
namespace Rows
def none {H : Type} : Left H := { results := [], args := [] }

/-- 'cuneiformlaw03.TagWrites': WHATEVER THE INPUT: true; the input reads as it did. -/
def tagWritesSpec : ChangeSpec := { name := "tagWrites", fn := fun _ => fun
  | [d1, d2] => { results := [.lit (.bool true)], args := [d1, d2] }
  | _ => none }
def tagWritesRow : OpenClaim := { program := "ytnahmhjkbdplpaa", sum := "3350134ff6dc9b3ef47c4188ad3a26730138654743fbca051a5f6bec938edde2", func := "cuneiform/cuneiformlaw03.TagWrites", spec := "tagWrites", unfollowed := true, recurses := true, apart := false }
def TagWritesSaid : Prop := tagWritesRow.holds Try.pinned (OpenSpec.ofChange tagWritesSpec)

/-- ITS FALSE NEIGHBOUR: 'it returns false'. Refute it at one input. -/
def tagWritesWrong : ChangeSpec := { name := "tagWrites", fn := fun _ => fun
  | [d1, d2] => { results := [.lit (.bool false)], args := [d1, d2] }
  | _ => none }
def TagWritesWrongFalsely : Prop := tagWritesRow.holds Try.pinned (OpenSpec.ofChange tagWritesWrong)

/-- 'cuneiformlaw03.TagReads': WHATEVER THE INPUT: true; the input reads as it did. -/
def tagReadsSpec : ChangeSpec := { name := "tagReads", fn := fun _ => fun
  | [d] => { results := [.lit (.bool true)], args := [d] }
  | _ => none }
def tagReadsRow : OpenClaim := { program := "ytnahmhjkbdplpaa", sum := "3350134ff6dc9b3ef47c4188ad3a26730138654743fbca051a5f6bec938edde2", func := "cuneiform/cuneiformlaw03.TagReads", spec := "tagReads", unfollowed := true, recurses := true, apart := false }
def TagReadsSaid : Prop := tagReadsRow.holds Try.pinned (OpenSpec.ofChange tagReadsSpec)

/-- ITS FALSE NEIGHBOUR: 'it returns false'. Refute it at one input. -/
def tagReadsWrong : ChangeSpec := { name := "tagReads", fn := fun _ => fun
  | [d] => { results := [.lit (.bool false)], args := [d] }
  | _ => none }
def TagReadsWrongFalsely : Prop := tagReadsRow.holds Try.pinned (OpenSpec.ofChange tagReadsWrong)

/-- 'cuneiformlaw03.TagBack': WHATEVER THE INPUT: true; the input reads as it did. -/
def tagBackSpec : ChangeSpec := { name := "tagBack", fn := fun _ => fun
  | [d1, d2, d3] => { results := [.lit (.bool true)], args := [d1, d2, d3] }
  | _ => none }
def tagBackRow : OpenClaim := { program := "ytnahmhjkbdplpaa", sum := "3350134ff6dc9b3ef47c4188ad3a26730138654743fbca051a5f6bec938edde2", func := "cuneiform/cuneiformlaw03.TagBack", spec := "tagBack", unfollowed := true, recurses := true, apart := false }
def TagBackSaid : Prop := tagBackRow.holds Try.pinned (OpenSpec.ofChange tagBackSpec)

/-- ITS FALSE NEIGHBOUR: 'it returns false'. Refute it at one input. -/
def tagBackWrong : ChangeSpec := { name := "tagBack", fn := fun _ => fun
  | [d1, d2, d3] => { results := [.lit (.bool false)], args := [d1, d2, d3] }
  | _ => none }
def TagBackWrongFalsely : Prop := tagBackRow.holds Try.pinned (OpenSpec.ofChange tagBackWrong)

/-- 'cuneiformlaw03.TagBurst': WHATEVER THE INPUT: true; the input reads as it did. -/
def tagBurstSpec : ChangeSpec := { name := "tagBurst", fn := fun _ => fun
  | [d1, d2, d3, d4] => { results := [.lit (.bool true)], args := [d1, d2, d3, d4] }
  | _ => none }
def tagBurstRow : OpenClaim := { program := "ytnahmhjkbdplpaa", sum := "3350134ff6dc9b3ef47c4188ad3a26730138654743fbca051a5f6bec938edde2", func := "cuneiform/cuneiformlaw03.TagBurst", spec := "tagBurst", unfollowed := true, recurses := true, apart := false }
def TagBurstSaid : Prop := tagBurstRow.holds Try.pinned (OpenSpec.ofChange tagBurstSpec)

/-- ITS FALSE NEIGHBOUR: 'it returns false'. Refute it at one input. -/
def tagBurstWrong : ChangeSpec := { name := "tagBurst", fn := fun _ => fun
  | [d1, d2, d3, d4] => { results := [.lit (.bool false)], args := [d1, d2, d3, d4] }
  | _ => none }
def TagBurstWrongFalsely : Prop := tagBurstRow.holds Try.pinned (OpenSpec.ofChange tagBurstWrong)

/-- 'cuneiformlaw03.TagCut': WHATEVER THE INPUT: true; the input reads as it did. -/
def tagCutSpec : ChangeSpec := { name := "tagCut", fn := fun _ => fun
  | [d1, d2, d3] => { results := [.lit (.bool true)], args := [d1, d2, d3] }
  | _ => none }
def tagCutRow : OpenClaim := { program := "ytnahmhjkbdplpaa", sum := "3350134ff6dc9b3ef47c4188ad3a26730138654743fbca051a5f6bec938edde2", func := "cuneiform/cuneiformlaw03.TagCut", spec := "tagCut", unfollowed := true, recurses := true, apart := false }
def TagCutSaid : Prop := tagCutRow.holds Try.pinned (OpenSpec.ofChange tagCutSpec)

/-- ITS FALSE NEIGHBOUR: 'it returns false'. Refute it at one input. -/
def tagCutWrong : ChangeSpec := { name := "tagCut", fn := fun _ => fun
  | [d1, d2, d3] => { results := [.lit (.bool false)], args := [d1, d2, d3] }
  | _ => none }
def TagCutWrongFalsely : Prop := tagCutRow.holds Try.pinned (OpenSpec.ofChange tagCutWrong)

/-- 'cuneiformlaw03.TagNewer': WHATEVER THE INPUT: true; the input reads as it did. -/
def tagNewerSpec : ChangeSpec := { name := "tagNewer", fn := fun _ => fun
  | [d1, d2, d3] => { results := [.lit (.bool true)], args := [d1, d2, d3] }
  | _ => none }
def tagNewerRow : OpenClaim := { program := "ytnahmhjkbdplpaa", sum := "3350134ff6dc9b3ef47c4188ad3a26730138654743fbca051a5f6bec938edde2", func := "cuneiform/cuneiformlaw03.TagNewer", spec := "tagNewer", unfollowed := true, recurses := true, apart := false }
def TagNewerSaid : Prop := tagNewerRow.holds Try.pinned (OpenSpec.ofChange tagNewerSpec)

/-- ITS FALSE NEIGHBOUR: 'it returns false'. Refute it at one input. -/
def tagNewerWrong : ChangeSpec := { name := "tagNewer", fn := fun _ => fun
  | [d1, d2, d3] => { results := [.lit (.bool false)], args := [d1, d2, d3] }
  | _ => none }
def TagNewerWrongFalsely : Prop := tagNewerRow.holds Try.pinned (OpenSpec.ofChange tagNewerWrong)

/- THE SECOND FORM. 'bulk': how many values and letters a reading holds, each counted each time it is reached (what is shared counts as often as it is met; a slice's spare places count too). A statement '..UptoSaid' is the law's where the arguments, and the package variables that the reading takes, are together of bulk at most 1048576: NARROWER than '..Said'. Prove '..Said' where nothing that the law and all that it calls make is longer than what came in: it says more and counts as full. Else prove '..UptoSaid'. A law counts once. -/
mutual
def uptoBulk {H : Type} : DataW H → Nat
  | .lit (.string bytes) => bytes.length + 1
  | .lit _ => 1
  | .nil => 1
  | .ptr d => uptoBulk d + 1
  | .slice elems spare => uptoBulkAll elems + uptoBulkAll spare + 1
  | .agg parts => uptoBulkAll parts + 1
  | .iface _ d => uptoBulk d + 1
  | .map entries => uptoBulkEntries entries + 1
  | .held _ => 1
def uptoBulkAll {H : Type} : List (DataW H) → Nat
  | [] => 0
  | d :: r => uptoBulk d + uptoBulkAll r
def uptoBulkEntries {H : Type} : List (Lit × DataW H) → Nat
  | [] => 0
  | x :: r => uptoBulkEntry x + uptoBulkEntries r
def uptoBulkEntry {H : Type} : Lit × DataW H → Nat
  | (.string bytes, d) => bytes.length + uptoBulk d + 1
  | (_, d) => uptoBulk d + 1
 end
def uptoSmall : (H : Type) → List (DataW H) → Bool := fun _ ds => decide (uptoBulkAll ds ≤ 1048576)
def OpenSpec.upto (s : _root_.Go.ChangeSpec) : _root_.Go.OpenSpec := { _root_.Go.OpenSpec.ofChange s with cond := some uptoSmall }

/-- 'cuneiformlaw03.TagWrites', WHERE WHAT IT READS IS OF BULK AT MOST 1048576: true; the input reads as it did. -/
def tagWritesUptoRow : OpenClaim := { program := "ytnahmhjkbdplpaa", sum := "3350134ff6dc9b3ef47c4188ad3a26730138654743fbca051a5f6bec938edde2", func := "cuneiform/cuneiformlaw03.TagWrites", spec := "tagWrites", unfollowed := true, recurses := true, apart := false, narrowed := true }
def TagWritesUptoSaid : Prop := tagWritesUptoRow.holds Try.pinned (OpenSpec.upto tagWritesSpec)

/-- 'cuneiformlaw03.TagReads', WHERE WHAT IT READS IS OF BULK AT MOST 1048576: true; the input reads as it did. -/
def tagReadsUptoRow : OpenClaim := { program := "ytnahmhjkbdplpaa", sum := "3350134ff6dc9b3ef47c4188ad3a26730138654743fbca051a5f6bec938edde2", func := "cuneiform/cuneiformlaw03.TagReads", spec := "tagReads", unfollowed := true, recurses := true, apart := false, narrowed := true }
def TagReadsUptoSaid : Prop := tagReadsUptoRow.holds Try.pinned (OpenSpec.upto tagReadsSpec)

/-- 'cuneiformlaw03.TagBack', WHERE WHAT IT READS IS OF BULK AT MOST 1048576: true; the input reads as it did. -/
def tagBackUptoRow : OpenClaim := { program := "ytnahmhjkbdplpaa", sum := "3350134ff6dc9b3ef47c4188ad3a26730138654743fbca051a5f6bec938edde2", func := "cuneiform/cuneiformlaw03.TagBack", spec := "tagBack", unfollowed := true, recurses := true, apart := false, narrowed := true }
def TagBackUptoSaid : Prop := tagBackUptoRow.holds Try.pinned (OpenSpec.upto tagBackSpec)

/-- 'cuneiformlaw03.TagBurst', WHERE WHAT IT READS IS OF BULK AT MOST 1048576: true; the input reads as it did. -/
def tagBurstUptoRow : OpenClaim := { program := "ytnahmhjkbdplpaa", sum := "3350134ff6dc9b3ef47c4188ad3a26730138654743fbca051a5f6bec938edde2", func := "cuneiform/cuneiformlaw03.TagBurst", spec := "tagBurst", unfollowed := true, recurses := true, apart := false, narrowed := true }
def TagBurstUptoSaid : Prop := tagBurstUptoRow.holds Try.pinned (OpenSpec.upto tagBurstSpec)

/-- 'cuneiformlaw03.TagCut', WHERE WHAT IT READS IS OF BULK AT MOST 1048576: true; the input reads as it did. -/
def tagCutUptoRow : OpenClaim := { program := "ytnahmhjkbdplpaa", sum := "3350134ff6dc9b3ef47c4188ad3a26730138654743fbca051a5f6bec938edde2", func := "cuneiform/cuneiformlaw03.TagCut", spec := "tagCut", unfollowed := true, recurses := true, apart := false, narrowed := true }
def TagCutUptoSaid : Prop := tagCutUptoRow.holds Try.pinned (OpenSpec.upto tagCutSpec)

/-- 'cuneiformlaw03.TagNewer', WHERE WHAT IT READS IS OF BULK AT MOST 1048576: true; the input reads as it did. -/
def tagNewerUptoRow : OpenClaim := { program := "ytnahmhjkbdplpaa", sum := "3350134ff6dc9b3ef47c4188ad3a26730138654743fbca051a5f6bec938edde2", func := "cuneiform/cuneiformlaw03.TagNewer", spec := "tagNewer", unfollowed := true, recurses := true, apart := false, narrowed := true }
def TagNewerUptoSaid : Prop := tagNewerUptoRow.holds Try.pinned (OpenSpec.upto tagNewerSpec)

end Rows
end Go.Proofs.Ytnahmhjkbdplpaa
