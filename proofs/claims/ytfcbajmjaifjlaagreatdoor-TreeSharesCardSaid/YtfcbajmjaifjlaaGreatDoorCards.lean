/-
  DERIVED. GIVEN WITH THE SEED: THE CARDS: each row of YtfcbajmjaifjlaaGreatDoorRows.lean that lists a variable, with what it lists TIED to the program's text (the seventh form; the later family's looks); each row that meets fmt, with fmt's text TOLD by the authors' own Lean function (tested against real Go, not proved from fmt's source: count such statements apart). THE CARD IS WHAT COUNTS. Prove the row's statement (the work); the ties are given (YtfcbajmjaifjlaaGreatDoorTie.lean); close each card by the builder's one call (the guide's Derived/Test/ToyasCard.lean, 'card_holds'). Laid BY PROGRAM, IN A SANDBOX (cutbox-door.mjs). By AI agents, Wed Nov 11 2026. No macro, syntax, notation, axiom, sorry.
-/
import Derived.Test.YtfcbajmjaifjlaaGreatDoorRows
import GoSem.ClaimSeven
namespace Go.Proofs.YtfcbajmjaifjlaaGreatDoor
namespace Rows

/-- THE TIED CARD OF 'voxellaw10.TreeShares'. -/
def treeSharesCard : Claim7 := { stood := { row := treeSharesRow, standIns := [], harness := (true, "c76a51131e894267c9ee0b4bd112cf03c2139a65a0bf70f7afa16cc653a66ca1"), looks := false }, kinds := [], alts := [], laidByText := true, laidKinds := [.data], laidTests := true, laidLooks := .later }
def TreeSharesCardSaid : Prop := Claim7.holds Tryz.pinned (.plain (OpenSpec.ofChange treeSharesSpec)) treeSharesCard

/-- THE SECOND FORM's CARD OF 'voxellaw10.TreeShares'. -/
def treeSharesUptoCard : Claim7 := { stood := { row := treeSharesUptoRow, standIns := [], harness := (true, "c76a51131e894267c9ee0b4bd112cf03c2139a65a0bf70f7afa16cc653a66ca1"), looks := false }, kinds := [], alts := [], laidByText := true, laidKinds := [.data], laidTests := true, laidLooks := .later }
def TreeSharesUptoCardSaid : Prop := Claim7.holds Tryz.pinned (.plain (OpenSpec.upto treeSharesSpec)) treeSharesUptoCard
end Rows
end Go.Proofs.YtfcbajmjaifjlaaGreatDoor
