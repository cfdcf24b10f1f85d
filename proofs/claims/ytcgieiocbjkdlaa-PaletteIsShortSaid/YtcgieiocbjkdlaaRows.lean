/-
  No cell of these rows narrows 'for every input' (looked for: loops, veiled, ifaces, maps, wideKeys, modest, calm, conditions, laid).
  DERIVED. THE GIVEN ROWS OF THIS SEAT. 7 by the template 'for every input the law returns true; each argument reads behind the call as it read before'; 0 by the template 'total and deterministic' (their statements: YtcgieiocbjkdlaaTotals.lean).
  GIVEN WITH THE SEED: the statements are not yours to turn. If you find one false, say at which input.
  Laid BY PROGRAM, IN A SANDBOX (cutbox-rows.mjs): the forced cells as the released guide's own fill.sh prints them over the translation 66e986e4c0bcb775… (all of the seat's roots in one cut). By AI agents, Wed Nov 11 2026. No macro, syntax, notation, axiom, sorry.
-/
import Derived.Test.YtcgieiocbjkdlaaChecked
import GoSem.Claim
import GoSem.ClaimJoined
import GoSem.ClaimMapViews
import Derived.JoinedTies
import Derived.KernelRfl
namespace Go.Proofs.Ytcgieiocbjkdlaa
/- THE CELL 'sum', in the pinned program and in every row, IS THE sha256 OF THE DUMP (.gsa) THAT YtcgieiocbjkdlaaProg.lean LOADS. Nothing in Lean hashes anything: it is a label: what it is worth is what the hold of that sum in a sandbox is worth. -/
noncomputable def Try.pinned : Pinned := { name := "ytcgieiocbjkdlaa", sum := "66e986e4c0bcb7752361c23de0ef259a874ebea7fbe7ec351be87dc0ee813967", checked := Try.checked }
namespace Rows
def none {H : Type} : Left H := { results := [], args := [] }

/-- 'voxellaw08.PalettePacksAsSpecified': WHATEVER THE INPUT: true; the input reads as it did. -/
def palettePacksAsSpecifiedSpec : ChangeSpec := { name := "palettePacksAsSpecified", fn := fun _ => fun
  | [d1, d2] => { results := [.lit (.bool true)], args := [d1, d2] }
  | _ => none }
def palettePacksAsSpecifiedRow : OpenClaim := { program := "ytcgieiocbjkdlaa", sum := "66e986e4c0bcb7752361c23de0ef259a874ebea7fbe7ec351be87dc0ee813967", func := "voxel/voxellaw08.PalettePacksAsSpecified", spec := "palettePacksAsSpecified", unfollowed := true, recurses := true, apart := false }
def PalettePacksAsSpecifiedSaid : Prop := palettePacksAsSpecifiedRow.holds Try.pinned (OpenSpec.ofChange palettePacksAsSpecifiedSpec)

/-- ITS FALSE NEIGHBOUR: 'it returns false'. Refute it at one input. -/
def palettePacksAsSpecifiedWrong : ChangeSpec := { name := "palettePacksAsSpecified", fn := fun _ => fun
  | [d1, d2] => { results := [.lit (.bool false)], args := [d1, d2] }
  | _ => none }
def PalettePacksAsSpecifiedWrongFalsely : Prop := palettePacksAsSpecifiedRow.holds Try.pinned (OpenSpec.ofChange palettePacksAsSpecifiedWrong)

/-- 'voxellaw08.PaletteBricksMatchSpec': WHATEVER THE INPUT: true; the input reads as it did. -/
def paletteBricksMatchSpecSpec : ChangeSpec := { name := "paletteBricksMatchSpec", fn := fun _ => fun
  | [d1, d2] => { results := [.lit (.bool true)], args := [d1, d2] }
  | _ => none }
def paletteBricksMatchSpecRow : OpenClaim := { program := "ytcgieiocbjkdlaa", sum := "66e986e4c0bcb7752361c23de0ef259a874ebea7fbe7ec351be87dc0ee813967", func := "voxel/voxellaw08.PaletteBricksMatchSpec", spec := "paletteBricksMatchSpec", unfollowed := true, recurses := true, apart := false }
def PaletteBricksMatchSpecSaid : Prop := paletteBricksMatchSpecRow.holds Try.pinned (OpenSpec.ofChange paletteBricksMatchSpecSpec)

/-- ITS FALSE NEIGHBOUR: 'it returns false'. Refute it at one input. -/
def paletteBricksMatchSpecWrong : ChangeSpec := { name := "paletteBricksMatchSpec", fn := fun _ => fun
  | [d1, d2] => { results := [.lit (.bool false)], args := [d1, d2] }
  | _ => none }
def PaletteBricksMatchSpecWrongFalsely : Prop := paletteBricksMatchSpecRow.holds Try.pinned (OpenSpec.ofChange paletteBricksMatchSpecWrong)

/-- 'voxellaw08.PaletteDeltasMatchSpec': WHATEVER THE INPUT: true; the input reads as it did. -/
def paletteDeltasMatchSpecSpec : ChangeSpec := { name := "paletteDeltasMatchSpec", fn := fun _ => fun
  | [d1, d2, d3] => { results := [.lit (.bool true)], args := [d1, d2, d3] }
  | _ => none }
def paletteDeltasMatchSpecRow : OpenClaim := { program := "ytcgieiocbjkdlaa", sum := "66e986e4c0bcb7752361c23de0ef259a874ebea7fbe7ec351be87dc0ee813967", func := "voxel/voxellaw08.PaletteDeltasMatchSpec", spec := "paletteDeltasMatchSpec", unfollowed := true, recurses := true, apart := false }
def PaletteDeltasMatchSpecSaid : Prop := paletteDeltasMatchSpecRow.holds Try.pinned (OpenSpec.ofChange paletteDeltasMatchSpecSpec)

/-- ITS FALSE NEIGHBOUR: 'it returns false'. Refute it at one input. -/
def paletteDeltasMatchSpecWrong : ChangeSpec := { name := "paletteDeltasMatchSpec", fn := fun _ => fun
  | [d1, d2, d3] => { results := [.lit (.bool false)], args := [d1, d2, d3] }
  | _ => none }
def PaletteDeltasMatchSpecWrongFalsely : Prop := paletteDeltasMatchSpecRow.holds Try.pinned (OpenSpec.ofChange paletteDeltasMatchSpecWrong)

/-- 'voxellaw08.PaletteIsCanonical': WHATEVER THE INPUT: true; the input reads as it did. -/
def paletteIsCanonicalSpec : ChangeSpec := { name := "paletteIsCanonical", fn := fun _ => fun
  | [d1, d2] => { results := [.lit (.bool true)], args := [d1, d2] }
  | _ => none }
def paletteIsCanonicalRow : OpenClaim := { program := "ytcgieiocbjkdlaa", sum := "66e986e4c0bcb7752361c23de0ef259a874ebea7fbe7ec351be87dc0ee813967", func := "voxel/voxellaw08.PaletteIsCanonical", spec := "paletteIsCanonical", unfollowed := true, recurses := true, apart := false }
def PaletteIsCanonicalSaid : Prop := paletteIsCanonicalRow.holds Try.pinned (OpenSpec.ofChange paletteIsCanonicalSpec)

/-- ITS FALSE NEIGHBOUR: 'it returns false'. Refute it at one input. -/
def paletteIsCanonicalWrong : ChangeSpec := { name := "paletteIsCanonical", fn := fun _ => fun
  | [d1, d2] => { results := [.lit (.bool false)], args := [d1, d2] }
  | _ => none }
def PaletteIsCanonicalWrongFalsely : Prop := paletteIsCanonicalRow.holds Try.pinned (OpenSpec.ofChange paletteIsCanonicalWrong)

/-- 'voxellaw08.PaletteDeltasRoundTrip': WHATEVER THE INPUT: true; the input reads as it did. -/
def paletteDeltasRoundTripSpec : ChangeSpec := { name := "paletteDeltasRoundTrip", fn := fun _ => fun
  | [d1, d2, d3] => { results := [.lit (.bool true)], args := [d1, d2, d3] }
  | _ => none }
def paletteDeltasRoundTripRow : OpenClaim := { program := "ytcgieiocbjkdlaa", sum := "66e986e4c0bcb7752361c23de0ef259a874ebea7fbe7ec351be87dc0ee813967", func := "voxel/voxellaw08.PaletteDeltasRoundTrip", spec := "paletteDeltasRoundTrip", unfollowed := true, recurses := true, apart := false }
def PaletteDeltasRoundTripSaid : Prop := paletteDeltasRoundTripRow.holds Try.pinned (OpenSpec.ofChange paletteDeltasRoundTripSpec)

/-- ITS FALSE NEIGHBOUR: 'it returns false'. Refute it at one input. -/
def paletteDeltasRoundTripWrong : ChangeSpec := { name := "paletteDeltasRoundTrip", fn := fun _ => fun
  | [d1, d2, d3] => { results := [.lit (.bool false)], args := [d1, d2, d3] }
  | _ => none }
def PaletteDeltasRoundTripWrongFalsely : Prop := paletteDeltasRoundTripRow.holds Try.pinned (OpenSpec.ofChange paletteDeltasRoundTripWrong)

/-- 'voxellaw08.PaletteIsShort': WHATEVER THE INPUT: true; the input reads as it did. -/
def paletteIsShortSpec : ChangeSpec := { name := "paletteIsShort", fn := fun _ => fun
  | [d1, d2, d3, d4] => { results := [.lit (.bool true)], args := [d1, d2, d3, d4] }
  | _ => none }
def paletteIsShortRow : OpenClaim := { program := "ytcgieiocbjkdlaa", sum := "66e986e4c0bcb7752361c23de0ef259a874ebea7fbe7ec351be87dc0ee813967", func := "voxel/voxellaw08.PaletteIsShort", spec := "paletteIsShort", unfollowed := true, recurses := true, apart := false }
def PaletteIsShortSaid : Prop := paletteIsShortRow.holds Try.pinned (OpenSpec.ofChange paletteIsShortSpec)

/-- ITS FALSE NEIGHBOUR: 'it returns false'. Refute it at one input. -/
def paletteIsShortWrong : ChangeSpec := { name := "paletteIsShort", fn := fun _ => fun
  | [d1, d2, d3, d4] => { results := [.lit (.bool false)], args := [d1, d2, d3, d4] }
  | _ => none }
def PaletteIsShortWrongFalsely : Prop := paletteIsShortRow.holds Try.pinned (OpenSpec.ofChange paletteIsShortWrong)

/-- 'voxellaw08.PaletteTruncates': WHATEVER THE INPUT: true; the input reads as it did. -/
def paletteTruncatesSpec : ChangeSpec := { name := "paletteTruncates", fn := fun _ => fun
  | [d1, d2] => { results := [.lit (.bool true)], args := [d1, d2] }
  | _ => none }
def paletteTruncatesRow : OpenClaim := { program := "ytcgieiocbjkdlaa", sum := "66e986e4c0bcb7752361c23de0ef259a874ebea7fbe7ec351be87dc0ee813967", func := "voxel/voxellaw08.PaletteTruncates", spec := "paletteTruncates", unfollowed := true, recurses := true, apart := false }
def PaletteTruncatesSaid : Prop := paletteTruncatesRow.holds Try.pinned (OpenSpec.ofChange paletteTruncatesSpec)

/-- ITS FALSE NEIGHBOUR: 'it returns false'. Refute it at one input. -/
def paletteTruncatesWrong : ChangeSpec := { name := "paletteTruncates", fn := fun _ => fun
  | [d1, d2] => { results := [.lit (.bool false)], args := [d1, d2] }
  | _ => none }
def PaletteTruncatesWrongFalsely : Prop := paletteTruncatesRow.holds Try.pinned (OpenSpec.ofChange paletteTruncatesWrong)

/- THE SECOND FORM. 'bulk': how many values and letters a reading holds, each counted each time it is reached (what is shared counts as often as it is met; a slice's spare places count too). A statement '..UptoSaid' is the law's where the arguments, and the package variables that the reading takes, are together of bulk at most 1048576: NARROWER than '..Said'. Prove '..Said' where nothing that the law and all that it calls make is longer than what came in: it says more and counts as full. Else prove '..UptoSaid'. A law counts once. -/
mutual
def uptoBulk {H : Type} : DataW H → Nat
  | .lit (.string bytes) => bytes.length + 1
  | .lit _ => 1
  | .nil => 1
  | .ptr d => uptoBulk d + 1
  | .slice elems spare => uptoBulkAll elems + uptoBulkAll spare + 1
  | .agg parts => uptoBulkAll parts + 1
  | .iface _ d => uptoBulk d + 1
  | .map entries => uptoBulkEntries entries + 1
  | .held _ => 1
def uptoBulkAll {H : Type} : List (DataW H) → Nat
  | [] => 0
  | d :: r => uptoBulk d + uptoBulkAll r
def uptoBulkEntries {H : Type} : List (Lit × DataW H) → Nat
  | [] => 0
  | x :: r => uptoBulkEntry x + uptoBulkEntries r
def uptoBulkEntry {H : Type} : Lit × DataW H → Nat
  | (.string bytes, d) => bytes.length + uptoBulk d + 1
  | (_, d) => uptoBulk d + 1
 end
def uptoSmall : (H : Type) → List (DataW H) → Bool := fun _ ds => decide (uptoBulkAll ds ≤ 1048576)
def OpenSpec.upto (s : _root_.Go.ChangeSpec) : _root_.Go.OpenSpec := { _root_.Go.OpenSpec.ofChange s with cond := some uptoSmall }

/-- 'voxellaw08.PalettePacksAsSpecified', WHERE WHAT IT READS IS OF BULK AT MOST 1048576: true; the input reads as it did. -/
def palettePacksAsSpecifiedUptoRow : OpenClaim := { program := "ytcgieiocbjkdlaa", sum := "66e986e4c0bcb7752361c23de0ef259a874ebea7fbe7ec351be87dc0ee813967", func := "voxel/voxellaw08.PalettePacksAsSpecified", spec := "palettePacksAsSpecified", unfollowed := true, recurses := true, apart := false, narrowed := true }
def PalettePacksAsSpecifiedUptoSaid : Prop := palettePacksAsSpecifiedUptoRow.holds Try.pinned (OpenSpec.upto palettePacksAsSpecifiedSpec)

/-- 'voxellaw08.PaletteBricksMatchSpec', WHERE WHAT IT READS IS OF BULK AT MOST 1048576: true; the input reads as it did. -/
def paletteBricksMatchSpecUptoRow : OpenClaim := { program := "ytcgieiocbjkdlaa", sum := "66e986e4c0bcb7752361c23de0ef259a874ebea7fbe7ec351be87dc0ee813967", func := "voxel/voxellaw08.PaletteBricksMatchSpec", spec := "paletteBricksMatchSpec", unfollowed := true, recurses := true, apart := false, narrowed := true }
def PaletteBricksMatchSpecUptoSaid : Prop := paletteBricksMatchSpecUptoRow.holds Try.pinned (OpenSpec.upto paletteBricksMatchSpecSpec)

/-- 'voxellaw08.PaletteDeltasMatchSpec', WHERE WHAT IT READS IS OF BULK AT MOST 1048576: true; the input reads as it did. -/
def paletteDeltasMatchSpecUptoRow : OpenClaim := { program := "ytcgieiocbjkdlaa", sum := "66e986e4c0bcb7752361c23de0ef259a874ebea7fbe7ec351be87dc0ee813967", func := "voxel/voxellaw08.PaletteDeltasMatchSpec", spec := "paletteDeltasMatchSpec", unfollowed := true, recurses := true, apart := false, narrowed := true }
def PaletteDeltasMatchSpecUptoSaid : Prop := paletteDeltasMatchSpecUptoRow.holds Try.pinned (OpenSpec.upto paletteDeltasMatchSpecSpec)

/-- 'voxellaw08.PaletteIsCanonical', WHERE WHAT IT READS IS OF BULK AT MOST 1048576: true; the input reads as it did. -/
def paletteIsCanonicalUptoRow : OpenClaim := { program := "ytcgieiocbjkdlaa", sum := "66e986e4c0bcb7752361c23de0ef259a874ebea7fbe7ec351be87dc0ee813967", func := "voxel/voxellaw08.PaletteIsCanonical", spec := "paletteIsCanonical", unfollowed := true, recurses := true, apart := false, narrowed := true }
def PaletteIsCanonicalUptoSaid : Prop := paletteIsCanonicalUptoRow.holds Try.pinned (OpenSpec.upto paletteIsCanonicalSpec)

/-- 'voxellaw08.PaletteDeltasRoundTrip', WHERE WHAT IT READS IS OF BULK AT MOST 1048576: true; the input reads as it did. -/
def paletteDeltasRoundTripUptoRow : OpenClaim := { program := "ytcgieiocbjkdlaa", sum := "66e986e4c0bcb7752361c23de0ef259a874ebea7fbe7ec351be87dc0ee813967", func := "voxel/voxellaw08.PaletteDeltasRoundTrip", spec := "paletteDeltasRoundTrip", unfollowed := true, recurses := true, apart := false, narrowed := true }
def PaletteDeltasRoundTripUptoSaid : Prop := paletteDeltasRoundTripUptoRow.holds Try.pinned (OpenSpec.upto paletteDeltasRoundTripSpec)

/-- 'voxellaw08.PaletteIsShort', WHERE WHAT IT READS IS OF BULK AT MOST 1048576: true; the input reads as it did. -/
def paletteIsShortUptoRow : OpenClaim := { program := "ytcgieiocbjkdlaa", sum := "66e986e4c0bcb7752361c23de0ef259a874ebea7fbe7ec351be87dc0ee813967", func := "voxel/voxellaw08.PaletteIsShort", spec := "paletteIsShort", unfollowed := true, recurses := true, apart := false, narrowed := true }
def PaletteIsShortUptoSaid : Prop := paletteIsShortUptoRow.holds Try.pinned (OpenSpec.upto paletteIsShortSpec)

/-- 'voxellaw08.PaletteTruncates', WHERE WHAT IT READS IS OF BULK AT MOST 1048576: true; the input reads as it did. -/
def paletteTruncatesUptoRow : OpenClaim := { program := "ytcgieiocbjkdlaa", sum := "66e986e4c0bcb7752361c23de0ef259a874ebea7fbe7ec351be87dc0ee813967", func := "voxel/voxellaw08.PaletteTruncates", spec := "paletteTruncates", unfollowed := true, recurses := true, apart := false, narrowed := true }
def PaletteTruncatesUptoSaid : Prop := paletteTruncatesUptoRow.holds Try.pinned (OpenSpec.upto paletteTruncatesSpec)

end Rows
end Go.Proofs.Ytcgieiocbjkdlaa
