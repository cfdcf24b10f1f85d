/-
  No cell of these rows narrows 'for every input' (looked for: loops, veiled, ifaces, maps, wideKeys, modest, calm, conditions, laid).
  DERIVED. THE GIVEN ROWS OF THIS SEAT. 4 by the template 'for every input the law returns true; each argument reads behind the call as it read before'; 0 by the template 'total and deterministic' (their statements: YtajhkncolbgkbaaTotals.lean).
  GIVEN WITH THE SEED: the statements are not yours to turn. If you find one false, say at which input.
  Laid BY PROGRAM, IN A SANDBOX (cutbox-rows.mjs): the forced cells as the released guide's own fill.sh prints them over the translation 4ceeb5d9004bfb50… (all of the seat's roots in one cut). By AI agents, Wed Nov 11 2026. No macro, syntax, notation, axiom, sorry.
-/
import Derived.Test.YtajhkncolbgkbaaChecked
import GoSem.Claim
import GoSem.ClaimJoined
import GoSem.ClaimMapViews
import Derived.JoinedTies
import Derived.KernelRfl
namespace Go.Proofs.Ytajhkncolbgkbaa
/- THE CELL 'sum', in the pinned program and in every row, IS THE sha256 OF THE DUMP (.gsa) THAT YtajhkncolbgkbaaProg.lean LOADS. Nothing in Lean hashes anything: it is a label: what it is worth is what the hold of that sum in a sandbox is worth. -/
noncomputable def Try.pinned : Pinned := { name := "ytajhkncolbgkbaa", sum := "4ceeb5d9004bfb50a787ee4a7b0073d159697548134d6c15cd87f427347af6c8", checked := Try.checked }
namespace Rows
def none {H : Type} : Left H := { results := [], args := [] }

/-- 'voxellaw14.PagesSealAsSpecified': WHATEVER THE INPUT: true; the input reads as it did. -/
def pagesSealAsSpecifiedSpec : ChangeSpec := { name := "pagesSealAsSpecified", fn := fun _ => fun
  | [d1, d2, d3] => { results := [.lit (.bool true)], args := [d1, d2, d3] }
  | _ => none }
def pagesSealAsSpecifiedRow : OpenClaim := { program := "ytajhkncolbgkbaa", sum := "4ceeb5d9004bfb50a787ee4a7b0073d159697548134d6c15cd87f427347af6c8", func := "voxel/voxellaw14.PagesSealAsSpecified", spec := "pagesSealAsSpecified", inPlace := ["internal/abi.NoEscape", "internal/bytealg.MakeNoZero"], unfollowed := true, recurses := true, apart := false }
def PagesSealAsSpecifiedSaid : Prop := pagesSealAsSpecifiedRow.holds Try.pinned (OpenSpec.ofChange pagesSealAsSpecifiedSpec)

/-- ITS FALSE NEIGHBOUR: 'it returns false'. Refute it at one input. -/
def pagesSealAsSpecifiedWrong : ChangeSpec := { name := "pagesSealAsSpecified", fn := fun _ => fun
  | [d1, d2, d3] => { results := [.lit (.bool false)], args := [d1, d2, d3] }
  | _ => none }
def PagesSealAsSpecifiedWrongFalsely : Prop := pagesSealAsSpecifiedRow.holds Try.pinned (OpenSpec.ofChange pagesSealAsSpecifiedWrong)

/-- 'voxellaw14.PagesOpenLimits': WHATEVER THE INPUT: true; the input reads as it did. -/
def pagesOpenLimitsSpec : ChangeSpec := { name := "pagesOpenLimits", fn := fun _ => fun
  | [d1, d2] => { results := [.lit (.bool true)], args := [d1, d2] }
  | _ => none }
def pagesOpenLimitsRow : OpenClaim := { program := "ytajhkncolbgkbaa", sum := "4ceeb5d9004bfb50a787ee4a7b0073d159697548134d6c15cd87f427347af6c8", func := "voxel/voxellaw14.PagesOpenLimits", spec := "pagesOpenLimits", inPlace := ["internal/abi.NoEscape", "internal/bytealg.MakeNoZero"], unfollowed := true, recurses := true, apart := false }
def PagesOpenLimitsSaid : Prop := pagesOpenLimitsRow.holds Try.pinned (OpenSpec.ofChange pagesOpenLimitsSpec)

/-- ITS FALSE NEIGHBOUR: 'it returns false'. Refute it at one input. -/
def pagesOpenLimitsWrong : ChangeSpec := { name := "pagesOpenLimits", fn := fun _ => fun
  | [d1, d2] => { results := [.lit (.bool false)], args := [d1, d2] }
  | _ => none }
def PagesOpenLimitsWrongFalsely : Prop := pagesOpenLimitsRow.holds Try.pinned (OpenSpec.ofChange pagesOpenLimitsWrong)

/-- 'voxellaw14.PagesFindRot': WHATEVER THE INPUT: true; the input reads as it did. -/
def pagesFindRotSpec : ChangeSpec := { name := "pagesFindRot", fn := fun _ => fun
  | [d1, d2, d3, d4] => { results := [.lit (.bool true)], args := [d1, d2, d3, d4] }
  | _ => none }
def pagesFindRotRow : OpenClaim := { program := "ytajhkncolbgkbaa", sum := "4ceeb5d9004bfb50a787ee4a7b0073d159697548134d6c15cd87f427347af6c8", func := "voxel/voxellaw14.PagesFindRot", spec := "pagesFindRot", inPlace := ["internal/abi.NoEscape", "internal/bytealg.MakeNoZero"], unfollowed := true, recurses := true, apart := false }
def PagesFindRotSaid : Prop := pagesFindRotRow.holds Try.pinned (OpenSpec.ofChange pagesFindRotSpec)

/-- ITS FALSE NEIGHBOUR: 'it returns false'. Refute it at one input. -/
def pagesFindRotWrong : ChangeSpec := { name := "pagesFindRot", fn := fun _ => fun
  | [d1, d2, d3, d4] => { results := [.lit (.bool false)], args := [d1, d2, d3, d4] }
  | _ => none }
def PagesFindRotWrongFalsely : Prop := pagesFindRotRow.holds Try.pinned (OpenSpec.ofChange pagesFindRotWrong)

/-- 'voxellaw14.PagesTornAreNotGood': WHATEVER THE INPUT: true; the input reads as it did. -/
def pagesTornAreNotGoodSpec : ChangeSpec := { name := "pagesTornAreNotGood", fn := fun _ => fun
  | [d1, d2, d3, d4, d5, d6] => { results := [.lit (.bool true)], args := [d1, d2, d3, d4, d5, d6] }
  | _ => none }
def pagesTornAreNotGoodRow : OpenClaim := { program := "ytajhkncolbgkbaa", sum := "4ceeb5d9004bfb50a787ee4a7b0073d159697548134d6c15cd87f427347af6c8", func := "voxel/voxellaw14.PagesTornAreNotGood", spec := "pagesTornAreNotGood", inPlace := ["internal/abi.NoEscape", "internal/bytealg.MakeNoZero"], unfollowed := true, recurses := true, apart := false }
def PagesTornAreNotGoodSaid : Prop := pagesTornAreNotGoodRow.holds Try.pinned (OpenSpec.ofChange pagesTornAreNotGoodSpec)

/-- ITS FALSE NEIGHBOUR: 'it returns false'. Refute it at one input. -/
def pagesTornAreNotGoodWrong : ChangeSpec := { name := "pagesTornAreNotGood", fn := fun _ => fun
  | [d1, d2, d3, d4, d5, d6] => { results := [.lit (.bool false)], args := [d1, d2, d3, d4, d5, d6] }
  | _ => none }
def PagesTornAreNotGoodWrongFalsely : Prop := pagesTornAreNotGoodRow.holds Try.pinned (OpenSpec.ofChange pagesTornAreNotGoodWrong)

/- THE SECOND FORM. 'bulk': how many values and letters a reading holds, each counted each time it is reached (what is shared counts as often as it is met; a slice's spare places count too). A statement '..UptoSaid' is the law's where the arguments, and the package variables that the reading takes, are together of bulk at most 1048576: NARROWER than '..Said'. Prove '..Said' where nothing that the law and all that it calls make is longer than what came in: it says more and counts as full. Else prove '..UptoSaid'. A law counts once. -/
mutual
def uptoBulk {H : Type} : DataW H → Nat
  | .lit (.string bytes) => bytes.length + 1
  | .lit _ => 1
  | .nil => 1
  | .ptr d => uptoBulk d + 1
  | .slice elems spare => uptoBulkAll elems + uptoBulkAll spare + 1
  | .agg parts => uptoBulkAll parts + 1
  | .iface _ d => uptoBulk d + 1
  | .map entries => uptoBulkEntries entries + 1
  | .held _ => 1
def uptoBulkAll {H : Type} : List (DataW H) → Nat
  | [] => 0
  | d :: r => uptoBulk d + uptoBulkAll r
def uptoBulkEntries {H : Type} : List (Lit × DataW H) → Nat
  | [] => 0
  | x :: r => uptoBulkEntry x + uptoBulkEntries r
def uptoBulkEntry {H : Type} : Lit × DataW H → Nat
  | (.string bytes, d) => bytes.length + uptoBulk d + 1
  | (_, d) => uptoBulk d + 1
 end
def uptoSmall : (H : Type) → List (DataW H) → Bool := fun _ ds => decide (uptoBulkAll ds ≤ 1048576)
def OpenSpec.upto (s : _root_.Go.ChangeSpec) : _root_.Go.OpenSpec := { _root_.Go.OpenSpec.ofChange s with cond := some uptoSmall }

/-- 'voxellaw14.PagesSealAsSpecified', WHERE WHAT IT READS IS OF BULK AT MOST 1048576: true; the input reads as it did. -/
def pagesSealAsSpecifiedUptoRow : OpenClaim := { program := "ytajhkncolbgkbaa", sum := "4ceeb5d9004bfb50a787ee4a7b0073d159697548134d6c15cd87f427347af6c8", func := "voxel/voxellaw14.PagesSealAsSpecified", spec := "pagesSealAsSpecified", inPlace := ["internal/abi.NoEscape", "internal/bytealg.MakeNoZero"], unfollowed := true, recurses := true, apart := false, narrowed := true }
def PagesSealAsSpecifiedUptoSaid : Prop := pagesSealAsSpecifiedUptoRow.holds Try.pinned (OpenSpec.upto pagesSealAsSpecifiedSpec)

/-- 'voxellaw14.PagesOpenLimits', WHERE WHAT IT READS IS OF BULK AT MOST 1048576: true; the input reads as it did. -/
def pagesOpenLimitsUptoRow : OpenClaim := { program := "ytajhkncolbgkbaa", sum := "4ceeb5d9004bfb50a787ee4a7b0073d159697548134d6c15cd87f427347af6c8", func := "voxel/voxellaw14.PagesOpenLimits", spec := "pagesOpenLimits", inPlace := ["internal/abi.NoEscape", "internal/bytealg.MakeNoZero"], unfollowed := true, recurses := true, apart := false, narrowed := true }
def PagesOpenLimitsUptoSaid : Prop := pagesOpenLimitsUptoRow.holds Try.pinned (OpenSpec.upto pagesOpenLimitsSpec)

/-- 'voxellaw14.PagesFindRot', WHERE WHAT IT READS IS OF BULK AT MOST 1048576: true; the input reads as it did. -/
def pagesFindRotUptoRow : OpenClaim := { program := "ytajhkncolbgkbaa", sum := "4ceeb5d9004bfb50a787ee4a7b0073d159697548134d6c15cd87f427347af6c8", func := "voxel/voxellaw14.PagesFindRot", spec := "pagesFindRot", inPlace := ["internal/abi.NoEscape", "internal/bytealg.MakeNoZero"], unfollowed := true, recurses := true, apart := false, narrowed := true }
def PagesFindRotUptoSaid : Prop := pagesFindRotUptoRow.holds Try.pinned (OpenSpec.upto pagesFindRotSpec)

/-- 'voxellaw14.PagesTornAreNotGood', WHERE WHAT IT READS IS OF BULK AT MOST 1048576: true; the input reads as it did. -/
def pagesTornAreNotGoodUptoRow : OpenClaim := { program := "ytajhkncolbgkbaa", sum := "4ceeb5d9004bfb50a787ee4a7b0073d159697548134d6c15cd87f427347af6c8", func := "voxel/voxellaw14.PagesTornAreNotGood", spec := "pagesTornAreNotGood", inPlace := ["internal/abi.NoEscape", "internal/bytealg.MakeNoZero"], unfollowed := true, recurses := true, apart := false, narrowed := true }
def PagesTornAreNotGoodUptoSaid : Prop := pagesTornAreNotGoodUptoRow.holds Try.pinned (OpenSpec.upto pagesTornAreNotGoodSpec)

end Rows
end Go.Proofs.Ytajhkncolbgkbaa
