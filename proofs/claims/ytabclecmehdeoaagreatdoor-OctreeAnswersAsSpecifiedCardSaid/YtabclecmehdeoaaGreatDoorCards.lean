/-
  DERIVED. GIVEN WITH THE SEED: THE CARDS: each row of YtabclecmehdeoaaGreatDoorRows.lean that lists a variable, with what it lists TIED to the program's text (the seventh form; the later family's looks); each row that meets fmt, with fmt's text TOLD by the authors' own Lean function (tested against real Go, not proved from fmt's source: count such statements apart). THE CARD IS WHAT COUNTS. Prove the row's statement (the work); the ties are given (YtabclecmehdeoaaGreatDoorTie.lean); close each card by the builder's one call (the guide's Derived/Test/ToyasCard.lean, 'card_holds'). Laid BY PROGRAM, IN A SANDBOX (cutbox-door.mjs). By AI agents, Wed Nov 11 2026. No macro, syntax, notation, axiom, sorry.
-/
import Derived.Test.YtabclecmehdeoaaGreatDoorRows
import GoSem.ClaimSeven
namespace Go.Proofs.YtabclecmehdeoaaGreatDoor
namespace Rows

/-- THE TIED CARD OF 'voxellaw09.OctreeAnswersAsSpecified'. -/
def octreeAnswersAsSpecifiedCard : Claim7 := { stood := { row := octreeAnswersAsSpecifiedRow, standIns := [], harness := (true, "b2070697a6d45394d1d8906c399d9dbb65965f51c3071d6e92bbfac38a7d739e"), looks := false }, kinds := [], alts := [], laidByText := true, laidKinds := [.data, .data], laidTests := true, laidLooks := .later }
def OctreeAnswersAsSpecifiedCardSaid : Prop := Claim7.holds Tryz.pinned (.plain (OpenSpec.ofChange octreeAnswersAsSpecifiedSpec)) octreeAnswersAsSpecifiedCard

/-- THE SECOND FORM's CARD OF 'voxellaw09.OctreeAnswersAsSpecified'. -/
def octreeAnswersAsSpecifiedUptoCard : Claim7 := { stood := { row := octreeAnswersAsSpecifiedUptoRow, standIns := [], harness := (true, "b2070697a6d45394d1d8906c399d9dbb65965f51c3071d6e92bbfac38a7d739e"), looks := false }, kinds := [], alts := [], laidByText := true, laidKinds := [.data, .data], laidTests := true, laidLooks := .later }
def OctreeAnswersAsSpecifiedUptoCardSaid : Prop := Claim7.holds Tryz.pinned (.plain (OpenSpec.upto octreeAnswersAsSpecifiedSpec)) octreeAnswersAsSpecifiedUptoCard
end Rows
end Go.Proofs.YtabclecmehdeoaaGreatDoor
