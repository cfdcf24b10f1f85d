/-
  No cell of these rows narrows 'for every input' (looked for: loops, veiled, ifaces, maps, wideKeys, modest, calm, conditions, laid).
  DERIVED. THE GIVEN ROWS OF THIS SEAT. 4 by the template 'for every input the law returns true; each argument reads behind the call as it read before'; 0 by the template 'total and deterministic' (their statements: YtabclecmehdeoaaTotals.lean).
  GIVEN WITH THE SEED: the statements are not yours to turn. If you find one false, say at which input.
  Laid BY PROGRAM, IN A SANDBOX (cutbox-rows.mjs): the forced cells as the released guide's own fill.sh prints them over the translation adcec94dc8e9d772… (all of the seat's roots in one cut). By AI agents, Wed Nov 11 2026. No macro, syntax, notation, axiom, sorry.
-/
import Derived.Test.YtabclecmehdeoaaChecked
import GoSem.Claim
import GoSem.ClaimJoined
import GoSem.ClaimMapViews
import Derived.JoinedTies
import Derived.KernelRfl
namespace Go.Proofs.Ytabclecmehdeoaa
/- THE CELL 'sum', in the pinned program and in every row, IS THE sha256 OF THE DUMP (.gsa) THAT YtabclecmehdeoaaProg.lean LOADS. Nothing in Lean hashes anything: it is a label: what it is worth is what the hold of that sum in a sandbox is worth. -/
noncomputable def Try.pinned : Pinned := { name := "ytabclecmehdeoaa", sum := "adcec94dc8e9d772adb488f46a20e1cf5083bf36643c8766081d9daba34d9043", checked := Try.checked }
namespace Rows
def none {H : Type} : Left H := { results := [], args := [] }

/-- 'voxellaw09.OctreeIsCanonical': WHATEVER THE INPUT: true; the input reads as it did. -/
def octreeIsCanonicalSpec : ChangeSpec := { name := "octreeIsCanonical", fn := fun _ => fun
  | [d1, d2, d3, d4] => { results := [.lit (.bool true)], args := [d1, d2, d3, d4] }
  | _ => none }
def octreeIsCanonicalRow : OpenClaim := { program := "ytabclecmehdeoaa", sum := "adcec94dc8e9d772adb488f46a20e1cf5083bf36643c8766081d9daba34d9043", func := "voxel/voxellaw09.OctreeIsCanonical", spec := "octreeIsCanonical", unfollowed := true, recurses := true, plainKeys := false, apart := false }
def OctreeIsCanonicalSaid : Prop := octreeIsCanonicalRow.holds Try.pinned (OpenSpec.ofChange octreeIsCanonicalSpec)

/-- ITS FALSE NEIGHBOUR: 'it returns false'. Refute it at one input. -/
def octreeIsCanonicalWrong : ChangeSpec := { name := "octreeIsCanonical", fn := fun _ => fun
  | [d1, d2, d3, d4] => { results := [.lit (.bool false)], args := [d1, d2, d3, d4] }
  | _ => none }
def OctreeIsCanonicalWrongFalsely : Prop := octreeIsCanonicalRow.holds Try.pinned (OpenSpec.ofChange octreeIsCanonicalWrong)

/-- 'voxellaw09.OctreeKeepsOldTrees': WHATEVER THE INPUT: true; the input reads as it did. -/
def octreeKeepsOldTreesSpec : ChangeSpec := { name := "octreeKeepsOldTrees", fn := fun _ => fun
  | [d1, d2, d3, d4] => { results := [.lit (.bool true)], args := [d1, d2, d3, d4] }
  | _ => none }
def octreeKeepsOldTreesRow : OpenClaim := { program := "ytabclecmehdeoaa", sum := "adcec94dc8e9d772adb488f46a20e1cf5083bf36643c8766081d9daba34d9043", func := "voxel/voxellaw09.OctreeKeepsOldTrees", spec := "octreeKeepsOldTrees", unfollowed := true, recurses := true, plainKeys := false, apart := false }
def OctreeKeepsOldTreesSaid : Prop := octreeKeepsOldTreesRow.holds Try.pinned (OpenSpec.ofChange octreeKeepsOldTreesSpec)

/-- ITS FALSE NEIGHBOUR: 'it returns false'. Refute it at one input. -/
def octreeKeepsOldTreesWrong : ChangeSpec := { name := "octreeKeepsOldTrees", fn := fun _ => fun
  | [d1, d2, d3, d4] => { results := [.lit (.bool false)], args := [d1, d2, d3, d4] }
  | _ => none }
def OctreeKeepsOldTreesWrongFalsely : Prop := octreeKeepsOldTreesRow.holds Try.pinned (OpenSpec.ofChange octreeKeepsOldTreesWrong)

/-- 'voxellaw09.OctreeMakesNodes': WHATEVER THE INPUT: true; the input reads as it did. -/
def octreeMakesNodesSpec : ChangeSpec := { name := "octreeMakesNodes", fn := fun _ => fun
  | [d1, d2, d3, d4, d5] => { results := [.lit (.bool true)], args := [d1, d2, d3, d4, d5] }
  | _ => none }
def octreeMakesNodesRow : OpenClaim := { program := "ytabclecmehdeoaa", sum := "adcec94dc8e9d772adb488f46a20e1cf5083bf36643c8766081d9daba34d9043", func := "voxel/voxellaw09.OctreeMakesNodes", spec := "octreeMakesNodes", unfollowed := true, recurses := true, plainKeys := false, apart := false }
def OctreeMakesNodesSaid : Prop := octreeMakesNodesRow.holds Try.pinned (OpenSpec.ofChange octreeMakesNodesSpec)

/-- ITS FALSE NEIGHBOUR: 'it returns false'. Refute it at one input. -/
def octreeMakesNodesWrong : ChangeSpec := { name := "octreeMakesNodes", fn := fun _ => fun
  | [d1, d2, d3, d4, d5] => { results := [.lit (.bool false)], args := [d1, d2, d3, d4, d5] }
  | _ => none }
def OctreeMakesNodesWrongFalsely : Prop := octreeMakesNodesRow.holds Try.pinned (OpenSpec.ofChange octreeMakesNodesWrong)

/-- 'voxellaw09.OctreeSharesParts': WHATEVER THE INPUT: true; the input reads as it did. -/
def octreeSharesPartsSpec : ChangeSpec := { name := "octreeSharesParts", fn := fun _ => fun
  | [d1, d2, d3, d4, d5] => { results := [.lit (.bool true)], args := [d1, d2, d3, d4, d5] }
  | _ => none }
def octreeSharesPartsRow : OpenClaim := { program := "ytabclecmehdeoaa", sum := "adcec94dc8e9d772adb488f46a20e1cf5083bf36643c8766081d9daba34d9043", func := "voxel/voxellaw09.OctreeSharesParts", spec := "octreeSharesParts", unfollowed := true, recurses := true, plainKeys := false, apart := false }
def OctreeSharesPartsSaid : Prop := octreeSharesPartsRow.holds Try.pinned (OpenSpec.ofChange octreeSharesPartsSpec)

/-- ITS FALSE NEIGHBOUR: 'it returns false'. Refute it at one input. -/
def octreeSharesPartsWrong : ChangeSpec := { name := "octreeSharesParts", fn := fun _ => fun
  | [d1, d2, d3, d4, d5] => { results := [.lit (.bool false)], args := [d1, d2, d3, d4, d5] }
  | _ => none }
def OctreeSharesPartsWrongFalsely : Prop := octreeSharesPartsRow.holds Try.pinned (OpenSpec.ofChange octreeSharesPartsWrong)

/- THE SECOND FORM. 'bulk': how many values and letters a reading holds, each counted each time it is reached (what is shared counts as often as it is met; a slice's spare places count too). A statement '..UptoSaid' is the law's where the arguments, and the package variables that the reading takes, are together of bulk at most 1048576: NARROWER than '..Said'. Prove '..Said' where nothing that the law and all that it calls make is longer than what came in: it says more and counts as full. Else prove '..UptoSaid'. A law counts once. -/
mutual
def uptoBulk {H : Type} : DataW H → Nat
  | .lit (.string bytes) => bytes.length + 1
  | .lit _ => 1
  | .nil => 1
  | .ptr d => uptoBulk d + 1
  | .slice elems spare => uptoBulkAll elems + uptoBulkAll spare + 1
  | .agg parts => uptoBulkAll parts + 1
  | .iface _ d => uptoBulk d + 1
  | .map entries => uptoBulkEntries entries + 1
  | .held _ => 1
def uptoBulkAll {H : Type} : List (DataW H) → Nat
  | [] => 0
  | d :: r => uptoBulk d + uptoBulkAll r
def uptoBulkEntries {H : Type} : List (Lit × DataW H) → Nat
  | [] => 0
  | x :: r => uptoBulkEntry x + uptoBulkEntries r
def uptoBulkEntry {H : Type} : Lit × DataW H → Nat
  | (.string bytes, d) => bytes.length + uptoBulk d + 1
  | (_, d) => uptoBulk d + 1
 end
def uptoSmall : (H : Type) → List (DataW H) → Bool := fun _ ds => decide (uptoBulkAll ds ≤ 1048576)
def OpenSpec.upto (s : _root_.Go.ChangeSpec) : _root_.Go.OpenSpec := { _root_.Go.OpenSpec.ofChange s with cond := some uptoSmall }

/-- 'voxellaw09.OctreeIsCanonical', WHERE WHAT IT READS IS OF BULK AT MOST 1048576: true; the input reads as it did. -/
def octreeIsCanonicalUptoRow : OpenClaim := { program := "ytabclecmehdeoaa", sum := "adcec94dc8e9d772adb488f46a20e1cf5083bf36643c8766081d9daba34d9043", func := "voxel/voxellaw09.OctreeIsCanonical", spec := "octreeIsCanonical", unfollowed := true, recurses := true, plainKeys := false, apart := false, narrowed := true }
def OctreeIsCanonicalUptoSaid : Prop := octreeIsCanonicalUptoRow.holds Try.pinned (OpenSpec.upto octreeIsCanonicalSpec)

/-- 'voxellaw09.OctreeKeepsOldTrees', WHERE WHAT IT READS IS OF BULK AT MOST 1048576: true; the input reads as it did. -/
def octreeKeepsOldTreesUptoRow : OpenClaim := { program := "ytabclecmehdeoaa", sum := "adcec94dc8e9d772adb488f46a20e1cf5083bf36643c8766081d9daba34d9043", func := "voxel/voxellaw09.OctreeKeepsOldTrees", spec := "octreeKeepsOldTrees", unfollowed := true, recurses := true, plainKeys := false, apart := false, narrowed := true }
def OctreeKeepsOldTreesUptoSaid : Prop := octreeKeepsOldTreesUptoRow.holds Try.pinned (OpenSpec.upto octreeKeepsOldTreesSpec)

/-- 'voxellaw09.OctreeMakesNodes', WHERE WHAT IT READS IS OF BULK AT MOST 1048576: true; the input reads as it did. -/
def octreeMakesNodesUptoRow : OpenClaim := { program := "ytabclecmehdeoaa", sum := "adcec94dc8e9d772adb488f46a20e1cf5083bf36643c8766081d9daba34d9043", func := "voxel/voxellaw09.OctreeMakesNodes", spec := "octreeMakesNodes", unfollowed := true, recurses := true, plainKeys := false, apart := false, narrowed := true }
def OctreeMakesNodesUptoSaid : Prop := octreeMakesNodesUptoRow.holds Try.pinned (OpenSpec.upto octreeMakesNodesSpec)

/-- 'voxellaw09.OctreeSharesParts', WHERE WHAT IT READS IS OF BULK AT MOST 1048576: true; the input reads as it did. -/
def octreeSharesPartsUptoRow : OpenClaim := { program := "ytabclecmehdeoaa", sum := "adcec94dc8e9d772adb488f46a20e1cf5083bf36643c8766081d9daba34d9043", func := "voxel/voxellaw09.OctreeSharesParts", spec := "octreeSharesParts", unfollowed := true, recurses := true, plainKeys := false, apart := false, narrowed := true }
def OctreeSharesPartsUptoSaid : Prop := octreeSharesPartsUptoRow.holds Try.pinned (OpenSpec.upto octreeSharesPartsSpec)

end Rows
end Go.Proofs.Ytabclecmehdeoaa
