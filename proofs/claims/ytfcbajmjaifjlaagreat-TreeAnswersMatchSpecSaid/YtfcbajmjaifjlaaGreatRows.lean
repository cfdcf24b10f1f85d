/-
  No cell of these rows narrows 'for every input' (looked for: loops, veiled, ifaces, maps, wideKeys, modest, calm, conditions, laid).
  DERIVED. THE GIVEN ROWS OF THIS SEAT. 6 by the template 'for every input the law returns true; each argument reads behind the call as it read before'; 0 by the template 'total and deterministic' (their statements: YtfcbajmjaifjlaaGreatTotals.lean).
  GIVEN WITH THE SEED: the statements are not yours to turn. If you find one false, say at which input.
  Laid BY PROGRAM, IN A SANDBOX (cutbox-rows.mjs): the forced cells as the released guide's own fill.sh prints them over the translation a6530d3efc7882aa… (all of the seat's roots in one cut). By AI agents, Wed Nov 11 2026. No macro, syntax, notation, axiom, sorry.
-/
import Derived.Test.YtfcbajmjaifjlaaGreatChecked
import GoSem.Claim
import GoSem.ClaimJoined
import GoSem.ClaimMapViews
import Derived.JoinedTies
import Derived.KernelRfl
namespace Go.Proofs.YtfcbajmjaifjlaaGreat
/- THE CELL 'sum', in the pinned program and in every row, IS THE sha256 OF THE DUMP (.gsa) THAT YtfcbajmjaifjlaaGreatProg.lean LOADS. Nothing in Lean hashes anything: it is a label: what it is worth is what the hold of that sum in a sandbox is worth. -/
noncomputable def Tryz.pinned : Pinned := { name := "ytfcbajmjaifjlaagreat", sum := "a6530d3efc7882aa4a121089348f4348e9947bef937c8f568475b434a799083e", checked := Tryz.checked }
namespace Rows
def none {H : Type} : Left H := { results := [], args := [] }

/-- 'voxellaw10.TreeMatchesSpec': WHATEVER THE INPUT: true; the input reads as it did. -/
def treeMatchesSpecSpec : ChangeSpec := { name := "treeMatchesSpec", fn := fun _ => fun
  | [d1, d2, d3] => { results := [.lit (.bool true)], args := [d1, d2, d3] }
  | _ => none }
def treeMatchesSpecRow : OpenClaim := { program := "ytfcbajmjaifjlaagreat", sum := "a6530d3efc7882aa4a121089348f4348e9947bef937c8f568475b434a799083e", func := "voxel/voxellaw10.TreeMatchesSpec", spec := "treeMatchesSpec", unfollowed := true, recurses := true, plainKeys := false, apart := false }
def TreeMatchesSpecSaid : Prop := treeMatchesSpecRow.holds Tryz.pinned (OpenSpec.ofChange treeMatchesSpecSpec)

/-- ITS FALSE NEIGHBOUR: 'it returns false'. Refute it at one input. -/
def treeMatchesSpecWrong : ChangeSpec := { name := "treeMatchesSpec", fn := fun _ => fun
  | [d1, d2, d3] => { results := [.lit (.bool false)], args := [d1, d2, d3] }
  | _ => none }
def TreeMatchesSpecWrongFalsely : Prop := treeMatchesSpecRow.holds Tryz.pinned (OpenSpec.ofChange treeMatchesSpecWrong)

/-- 'voxellaw10.TreeAnswersMatchSpec': WHATEVER THE INPUT: true; the input reads as it did. -/
def treeAnswersMatchSpecSpec : ChangeSpec := { name := "treeAnswersMatchSpec", fn := fun _ => fun
  | [d1, d2, d3, d4, d5, d6] => { results := [.lit (.bool true)], args := [d1, d2, d3, d4, d5, d6] }
  | _ => none }
def treeAnswersMatchSpecRow : OpenClaim := { program := "ytfcbajmjaifjlaagreat", sum := "a6530d3efc7882aa4a121089348f4348e9947bef937c8f568475b434a799083e", func := "voxel/voxellaw10.TreeAnswersMatchSpec", spec := "treeAnswersMatchSpec", unfollowed := true, recurses := true, plainKeys := false, apart := false }
def TreeAnswersMatchSpecSaid : Prop := treeAnswersMatchSpecRow.holds Tryz.pinned (OpenSpec.ofChange treeAnswersMatchSpecSpec)

/-- ITS FALSE NEIGHBOUR: 'it returns false'. Refute it at one input. -/
def treeAnswersMatchSpecWrong : ChangeSpec := { name := "treeAnswersMatchSpec", fn := fun _ => fun
  | [d1, d2, d3, d4, d5, d6] => { results := [.lit (.bool false)], args := [d1, d2, d3, d4, d5, d6] }
  | _ => none }
def TreeAnswersMatchSpecWrongFalsely : Prop := treeAnswersMatchSpecRow.holds Tryz.pinned (OpenSpec.ofChange treeAnswersMatchSpecWrong)

/-- 'voxellaw10.TreeIsTheArray': WHATEVER THE INPUT: true; the input reads as it did. -/
def treeIsTheArraySpec : ChangeSpec := { name := "treeIsTheArray", fn := fun _ => fun
  | [d1, d2, d3] => { results := [.lit (.bool true)], args := [d1, d2, d3] }
  | _ => none }
def treeIsTheArrayRow : OpenClaim := { program := "ytfcbajmjaifjlaagreat", sum := "a6530d3efc7882aa4a121089348f4348e9947bef937c8f568475b434a799083e", func := "voxel/voxellaw10.TreeIsTheArray", spec := "treeIsTheArray", unfollowed := true, recurses := true, plainKeys := false, apart := false }
def TreeIsTheArraySaid : Prop := treeIsTheArrayRow.holds Tryz.pinned (OpenSpec.ofChange treeIsTheArraySpec)

/-- ITS FALSE NEIGHBOUR: 'it returns false'. Refute it at one input. -/
def treeIsTheArrayWrong : ChangeSpec := { name := "treeIsTheArray", fn := fun _ => fun
  | [d1, d2, d3] => { results := [.lit (.bool false)], args := [d1, d2, d3] }
  | _ => none }
def TreeIsTheArrayWrongFalsely : Prop := treeIsTheArrayRow.holds Tryz.pinned (OpenSpec.ofChange treeIsTheArrayWrong)

/-- 'voxellaw10.TreeKeepsTheStore': WHATEVER THE INPUT: true; the input reads as it did. -/
def treeKeepsTheStoreSpec : ChangeSpec := { name := "treeKeepsTheStore", fn := fun _ => fun
  | [d1, d2, d3, d4] => { results := [.lit (.bool true)], args := [d1, d2, d3, d4] }
  | _ => none }
def treeKeepsTheStoreRow : OpenClaim := { program := "ytfcbajmjaifjlaagreat", sum := "a6530d3efc7882aa4a121089348f4348e9947bef937c8f568475b434a799083e", func := "voxel/voxellaw10.TreeKeepsTheStore", spec := "treeKeepsTheStore", unfollowed := true, recurses := true, plainKeys := false, apart := false }
def TreeKeepsTheStoreSaid : Prop := treeKeepsTheStoreRow.holds Tryz.pinned (OpenSpec.ofChange treeKeepsTheStoreSpec)

/-- ITS FALSE NEIGHBOUR: 'it returns false'. Refute it at one input. -/
def treeKeepsTheStoreWrong : ChangeSpec := { name := "treeKeepsTheStore", fn := fun _ => fun
  | [d1, d2, d3, d4] => { results := [.lit (.bool false)], args := [d1, d2, d3, d4] }
  | _ => none }
def TreeKeepsTheStoreWrongFalsely : Prop := treeKeepsTheStoreRow.holds Tryz.pinned (OpenSpec.ofChange treeKeepsTheStoreWrong)

/-- 'voxellaw10.TreeDiffers': WHATEVER THE INPUT: true; the input reads as it did. -/
def treeDiffersSpec : ChangeSpec := { name := "treeDiffers", fn := fun _ => fun
  | [d1, d2, d3, d4] => { results := [.lit (.bool true)], args := [d1, d2, d3, d4] }
  | _ => none }
def treeDiffersRow : OpenClaim := { program := "ytfcbajmjaifjlaagreat", sum := "a6530d3efc7882aa4a121089348f4348e9947bef937c8f568475b434a799083e", func := "voxel/voxellaw10.TreeDiffers", spec := "treeDiffers", unfollowed := true, recurses := true, plainKeys := false, apart := false }
def TreeDiffersSaid : Prop := treeDiffersRow.holds Tryz.pinned (OpenSpec.ofChange treeDiffersSpec)

/-- ITS FALSE NEIGHBOUR: 'it returns false'. Refute it at one input. -/
def treeDiffersWrong : ChangeSpec := { name := "treeDiffers", fn := fun _ => fun
  | [d1, d2, d3, d4] => { results := [.lit (.bool false)], args := [d1, d2, d3, d4] }
  | _ => none }
def TreeDiffersWrongFalsely : Prop := treeDiffersRow.holds Tryz.pinned (OpenSpec.ofChange treeDiffersWrong)

/-- 'voxellaw10.TreeCovers': WHATEVER THE INPUT: true; the input reads as it did. -/
def treeCoversSpec : ChangeSpec := { name := "treeCovers", fn := fun _ => fun
  | [d1, d2, d3, d4] => { results := [.lit (.bool true)], args := [d1, d2, d3, d4] }
  | _ => none }
def treeCoversRow : OpenClaim := { program := "ytfcbajmjaifjlaagreat", sum := "a6530d3efc7882aa4a121089348f4348e9947bef937c8f568475b434a799083e", func := "voxel/voxellaw10.TreeCovers", spec := "treeCovers", unfollowed := true, recurses := true, plainKeys := false, apart := false }
def TreeCoversSaid : Prop := treeCoversRow.holds Tryz.pinned (OpenSpec.ofChange treeCoversSpec)

/-- ITS FALSE NEIGHBOUR: 'it returns false'. Refute it at one input. -/
def treeCoversWrong : ChangeSpec := { name := "treeCovers", fn := fun _ => fun
  | [d1, d2, d3, d4] => { results := [.lit (.bool false)], args := [d1, d2, d3, d4] }
  | _ => none }
def TreeCoversWrongFalsely : Prop := treeCoversRow.holds Tryz.pinned (OpenSpec.ofChange treeCoversWrong)

/- THE SECOND FORM. 'bulk': how many values and letters a reading holds, each counted each time it is reached (what is shared counts as often as it is met; a slice's spare places count too). A statement '..UptoSaid' is the law's where the arguments, and the package variables that the reading takes, are together of bulk at most 1048576: NARROWER than '..Said'. Prove '..Said' where nothing that the law and all that it calls make is longer than what came in: it says more and counts as full. Else prove '..UptoSaid'. A law counts once. -/
mutual
def uptoBulk {H : Type} : DataW H → Nat
  | .lit (.string bytes) => bytes.length + 1
  | .lit _ => 1
  | .nil => 1
  | .ptr d => uptoBulk d + 1
  | .slice elems spare => uptoBulkAll elems + uptoBulkAll spare + 1
  | .agg parts => uptoBulkAll parts + 1
  | .iface _ d => uptoBulk d + 1
  | .map entries => uptoBulkEntries entries + 1
  | .held _ => 1
def uptoBulkAll {H : Type} : List (DataW H) → Nat
  | [] => 0
  | d :: r => uptoBulk d + uptoBulkAll r
def uptoBulkEntries {H : Type} : List (Lit × DataW H) → Nat
  | [] => 0
  | x :: r => uptoBulkEntry x + uptoBulkEntries r
def uptoBulkEntry {H : Type} : Lit × DataW H → Nat
  | (.string bytes, d) => bytes.length + uptoBulk d + 1
  | (_, d) => uptoBulk d + 1
 end
def uptoSmall : (H : Type) → List (DataW H) → Bool := fun _ ds => decide (uptoBulkAll ds ≤ 1048576)
def OpenSpec.upto (s : _root_.Go.ChangeSpec) : _root_.Go.OpenSpec := { _root_.Go.OpenSpec.ofChange s with cond := some uptoSmall }

/-- 'voxellaw10.TreeMatchesSpec', WHERE WHAT IT READS IS OF BULK AT MOST 1048576: true; the input reads as it did. -/
def treeMatchesSpecUptoRow : OpenClaim := { program := "ytfcbajmjaifjlaagreat", sum := "a6530d3efc7882aa4a121089348f4348e9947bef937c8f568475b434a799083e", func := "voxel/voxellaw10.TreeMatchesSpec", spec := "treeMatchesSpec", unfollowed := true, recurses := true, plainKeys := false, apart := false, narrowed := true }
def TreeMatchesSpecUptoSaid : Prop := treeMatchesSpecUptoRow.holds Tryz.pinned (OpenSpec.upto treeMatchesSpecSpec)

/-- 'voxellaw10.TreeAnswersMatchSpec', WHERE WHAT IT READS IS OF BULK AT MOST 1048576: true; the input reads as it did. -/
def treeAnswersMatchSpecUptoRow : OpenClaim := { program := "ytfcbajmjaifjlaagreat", sum := "a6530d3efc7882aa4a121089348f4348e9947bef937c8f568475b434a799083e", func := "voxel/voxellaw10.TreeAnswersMatchSpec", spec := "treeAnswersMatchSpec", unfollowed := true, recurses := true, plainKeys := false, apart := false, narrowed := true }
def TreeAnswersMatchSpecUptoSaid : Prop := treeAnswersMatchSpecUptoRow.holds Tryz.pinned (OpenSpec.upto treeAnswersMatchSpecSpec)

/-- 'voxellaw10.TreeIsTheArray', WHERE WHAT IT READS IS OF BULK AT MOST 1048576: true; the input reads as it did. -/
def treeIsTheArrayUptoRow : OpenClaim := { program := "ytfcbajmjaifjlaagreat", sum := "a6530d3efc7882aa4a121089348f4348e9947bef937c8f568475b434a799083e", func := "voxel/voxellaw10.TreeIsTheArray", spec := "treeIsTheArray", unfollowed := true, recurses := true, plainKeys := false, apart := false, narrowed := true }
def TreeIsTheArrayUptoSaid : Prop := treeIsTheArrayUptoRow.holds Tryz.pinned (OpenSpec.upto treeIsTheArraySpec)

/-- 'voxellaw10.TreeKeepsTheStore', WHERE WHAT IT READS IS OF BULK AT MOST 1048576: true; the input reads as it did. -/
def treeKeepsTheStoreUptoRow : OpenClaim := { program := "ytfcbajmjaifjlaagreat", sum := "a6530d3efc7882aa4a121089348f4348e9947bef937c8f568475b434a799083e", func := "voxel/voxellaw10.TreeKeepsTheStore", spec := "treeKeepsTheStore", unfollowed := true, recurses := true, plainKeys := false, apart := false, narrowed := true }
def TreeKeepsTheStoreUptoSaid : Prop := treeKeepsTheStoreUptoRow.holds Tryz.pinned (OpenSpec.upto treeKeepsTheStoreSpec)

/-- 'voxellaw10.TreeDiffers', WHERE WHAT IT READS IS OF BULK AT MOST 1048576: true; the input reads as it did. -/
def treeDiffersUptoRow : OpenClaim := { program := "ytfcbajmjaifjlaagreat", sum := "a6530d3efc7882aa4a121089348f4348e9947bef937c8f568475b434a799083e", func := "voxel/voxellaw10.TreeDiffers", spec := "treeDiffers", unfollowed := true, recurses := true, plainKeys := false, apart := false, narrowed := true }
def TreeDiffersUptoSaid : Prop := treeDiffersUptoRow.holds Tryz.pinned (OpenSpec.upto treeDiffersSpec)

/-- 'voxellaw10.TreeCovers', WHERE WHAT IT READS IS OF BULK AT MOST 1048576: true; the input reads as it did. -/
def treeCoversUptoRow : OpenClaim := { program := "ytfcbajmjaifjlaagreat", sum := "a6530d3efc7882aa4a121089348f4348e9947bef937c8f568475b434a799083e", func := "voxel/voxellaw10.TreeCovers", spec := "treeCovers", unfollowed := true, recurses := true, plainKeys := false, apart := false, narrowed := true }
def TreeCoversUptoSaid : Prop := treeCoversUptoRow.holds Tryz.pinned (OpenSpec.upto treeCoversSpec)

end Rows
end Go.Proofs.YtfcbajmjaifjlaaGreat
