/-
  DERIVED. GIVEN WITH THE SEED: THE CARDS: each row of YtgnfgblkpnfcnaaGreatDoorRows.lean that lists a variable, with what it lists TIED to the program's text (the seventh form; the later family's looks); each row that meets fmt, with fmt's text TOLD by the authors' own Lean function (tested against real Go, not proved from fmt's source: count such statements apart). THE CARD IS WHAT COUNTS. Prove the row's statement (the work); the ties are given (YtgnfgblkpnfcnaaGreatDoorTie.lean); close each card by the builder's one call (the guide's Derived/Test/ToyasCard.lean, 'card_holds'). Laid BY PROGRAM, IN A SANDBOX (cutbox-door.mjs). By AI agents, Wed Nov 11 2026. No macro, syntax, notation, axiom, sorry.
-/
import Derived.Test.YtgnfgblkpnfcnaaGreatDoorRows
import GoSem.ClaimSeven
namespace Go.Proofs.YtgnfgblkpnfcnaaGreatDoor
namespace Rows

/-- THE TIED CARD OF 'voxellaw12.LevelMatchesSpec'. -/
def levelMatchesSpecCard : Claim7 := { stood := { row := levelMatchesSpecRow, standIns := [], harness := (true, "3b08d9e06e47b1bca41f38916d0f2ebf1dfe7227f6969c8c16e1c0ab8b9ce009"), looks := false }, kinds := [], alts := [], laidByText := true, laidKinds := [.data, .data], laidTests := true, laidLooks := .later }
def LevelMatchesSpecCardSaid : Prop := Claim7.holds Tryz.pinned (.plain (OpenSpec.ofChange levelMatchesSpecSpec)) levelMatchesSpecCard

/-- THE TIED CARD OF 'voxellaw12.LevelPicksMatchSpec'. -/
def levelPicksMatchSpecCard : Claim7 := { stood := { row := levelPicksMatchSpecRow, standIns := [], harness := (true, "3b08d9e06e47b1bca41f38916d0f2ebf1dfe7227f6969c8c16e1c0ab8b9ce009"), looks := false }, kinds := [], alts := [], laidByText := true, laidKinds := [.data], laidTests := true, laidLooks := .later }
def LevelPicksMatchSpecCardSaid : Prop := Claim7.holds Tryz.pinned (.plain (OpenSpec.ofChange levelPicksMatchSpecSpec)) levelPicksMatchSpecCard

/-- THE TIED CARD OF 'voxellaw12.LevelContains'. -/
def levelContainsCard : Claim7 := { stood := { row := levelContainsRow, standIns := [], harness := (true, "3b08d9e06e47b1bca41f38916d0f2ebf1dfe7227f6969c8c16e1c0ab8b9ce009"), looks := false }, kinds := [], alts := [], laidByText := true, laidKinds := [.data], laidTests := true, laidLooks := .later }
def LevelContainsCardSaid : Prop := Claim7.holds Tryz.pinned (.plain (OpenSpec.ofChange levelContainsSpec)) levelContainsCard

/-- THE TIED CARD OF 'voxellaw12.LevelLimits'. -/
def levelLimitsCard : Claim7 := { stood := { row := levelLimitsRow, standIns := [], harness := (true, "3b08d9e06e47b1bca41f38916d0f2ebf1dfe7227f6969c8c16e1c0ab8b9ce009"), looks := false }, kinds := [], alts := [], laidByText := true, laidKinds := [.data], laidTests := true, laidLooks := .later }
def LevelLimitsCardSaid : Prop := Claim7.holds Tryz.pinned (.plain (OpenSpec.ofChange levelLimitsSpec)) levelLimitsCard

/-- THE TIED CARD OF 'voxellaw12.LevelIsLocal'. -/
def levelIsLocalCard : Claim7 := { stood := { row := levelIsLocalRow, standIns := [], harness := (true, "3b08d9e06e47b1bca41f38916d0f2ebf1dfe7227f6969c8c16e1c0ab8b9ce009"), looks := false }, kinds := [], alts := [], laidByText := true, laidKinds := [.data], laidTests := true, laidLooks := .later }
def LevelIsLocalCardSaid : Prop := Claim7.holds Tryz.pinned (.plain (OpenSpec.ofChange levelIsLocalSpec)) levelIsLocalCard

/-- THE SECOND FORM's CARD OF 'voxellaw12.LevelMatchesSpec'. -/
def levelMatchesSpecUptoCard : Claim7 := { stood := { row := levelMatchesSpecUptoRow, standIns := [], harness := (true, "3b08d9e06e47b1bca41f38916d0f2ebf1dfe7227f6969c8c16e1c0ab8b9ce009"), looks := false }, kinds := [], alts := [], laidByText := true, laidKinds := [.data, .data], laidTests := true, laidLooks := .later }
def LevelMatchesSpecUptoCardSaid : Prop := Claim7.holds Tryz.pinned (.plain (OpenSpec.upto levelMatchesSpecSpec)) levelMatchesSpecUptoCard

/-- THE SECOND FORM's CARD OF 'voxellaw12.LevelPicksMatchSpec'. -/
def levelPicksMatchSpecUptoCard : Claim7 := { stood := { row := levelPicksMatchSpecUptoRow, standIns := [], harness := (true, "3b08d9e06e47b1bca41f38916d0f2ebf1dfe7227f6969c8c16e1c0ab8b9ce009"), looks := false }, kinds := [], alts := [], laidByText := true, laidKinds := [.data], laidTests := true, laidLooks := .later }
def LevelPicksMatchSpecUptoCardSaid : Prop := Claim7.holds Tryz.pinned (.plain (OpenSpec.upto levelPicksMatchSpecSpec)) levelPicksMatchSpecUptoCard

/-- THE SECOND FORM's CARD OF 'voxellaw12.LevelContains'. -/
def levelContainsUptoCard : Claim7 := { stood := { row := levelContainsUptoRow, standIns := [], harness := (true, "3b08d9e06e47b1bca41f38916d0f2ebf1dfe7227f6969c8c16e1c0ab8b9ce009"), looks := false }, kinds := [], alts := [], laidByText := true, laidKinds := [.data], laidTests := true, laidLooks := .later }
def LevelContainsUptoCardSaid : Prop := Claim7.holds Tryz.pinned (.plain (OpenSpec.upto levelContainsSpec)) levelContainsUptoCard

/-- THE SECOND FORM's CARD OF 'voxellaw12.LevelLimits'. -/
def levelLimitsUptoCard : Claim7 := { stood := { row := levelLimitsUptoRow, standIns := [], harness := (true, "3b08d9e06e47b1bca41f38916d0f2ebf1dfe7227f6969c8c16e1c0ab8b9ce009"), looks := false }, kinds := [], alts := [], laidByText := true, laidKinds := [.data], laidTests := true, laidLooks := .later }
def LevelLimitsUptoCardSaid : Prop := Claim7.holds Tryz.pinned (.plain (OpenSpec.upto levelLimitsSpec)) levelLimitsUptoCard

/-- THE SECOND FORM's CARD OF 'voxellaw12.LevelIsLocal'. -/
def levelIsLocalUptoCard : Claim7 := { stood := { row := levelIsLocalUptoRow, standIns := [], harness := (true, "3b08d9e06e47b1bca41f38916d0f2ebf1dfe7227f6969c8c16e1c0ab8b9ce009"), looks := false }, kinds := [], alts := [], laidByText := true, laidKinds := [.data], laidTests := true, laidLooks := .later }
def LevelIsLocalUptoCardSaid : Prop := Claim7.holds Tryz.pinned (.plain (OpenSpec.upto levelIsLocalSpec)) levelIsLocalUptoCard
end Rows
end Go.Proofs.YtgnfgblkpnfcnaaGreatDoor
