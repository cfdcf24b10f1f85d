/-
  DERIVED. GIVEN WITH THE SEED: THE CARDS: each row of YtajhkncolbgkbaaDoorRows.lean that lists a variable, with what it lists TIED to the program's text (the seventh form; the later family's looks); each row that meets fmt, with fmt's text TOLD by the authors' own Lean function (tested against real Go, not proved from fmt's source: count such statements apart). THE CARD IS WHAT COUNTS. Prove the row's statement (the work); the ties are given (YtajhkncolbgkbaaDoorTie.lean); close each card by the builder's one call (the guide's Derived/Test/ToyasCard.lean, 'card_holds'). Laid BY PROGRAM, IN A SANDBOX (cutbox-door.mjs). By AI agents, Wed Nov 11 2026. No macro, syntax, notation, axiom, sorry.
-/
import Derived.Test.YtajhkncolbgkbaaDoorRows
import GoSem.ClaimSeven
namespace Go.Proofs.YtajhkncolbgkbaaDoor
namespace Rows

/-- THE TIED CARD OF 'voxellaw15.JournalMatchesSpec'. -/
def journalMatchesSpecCard : Claim7 := { stood := { row := journalMatchesSpecRow, standIns := [], harness := (true, "88ea8a7409415b998e78d491a9e87e1fddfaed26c3692f8d28b645b0f3834233"), looks := false }, kinds := [], alts := [], laidByText := true, laidKinds := [.data, .pinned], laidTests := true, laidLooks := .later }
def JournalMatchesSpecCardSaid : Prop := Claim7.holds Tryd.pinned (.plain (OpenSpec.ofChange journalMatchesSpecSpec)) journalMatchesSpecCard

/-- THE TIED CARD OF 'voxellaw15.JournalReadsPages'. -/
def journalReadsPagesCard : Claim7 := { stood := { row := journalReadsPagesRow, standIns := [], harness := (true, "88ea8a7409415b998e78d491a9e87e1fddfaed26c3692f8d28b645b0f3834233"), looks := false }, kinds := [], alts := [], laidByText := true, laidKinds := [.data, .pinned], laidTests := true, laidLooks := .later }
def JournalReadsPagesCardSaid : Prop := Claim7.holds Tryd.pinned (.plain (OpenSpec.ofChange journalReadsPagesSpec)) journalReadsPagesCard

/-- THE TIED CARD OF 'voxellaw15.JournalFindsRot'. -/
def journalFindsRotCard : Claim7 := { stood := { row := journalFindsRotRow, standIns := [], harness := (true, "88ea8a7409415b998e78d491a9e87e1fddfaed26c3692f8d28b645b0f3834233"), looks := false }, kinds := [], alts := [], laidByText := true, laidKinds := [.data, .pinned], laidTests := true, laidLooks := .later }
def JournalFindsRotCardSaid : Prop := Claim7.holds Tryd.pinned (.plain (OpenSpec.ofChange journalFindsRotSpec)) journalFindsRotCard

/-- THE SECOND FORM's CARD OF 'voxellaw15.JournalMatchesSpec'. -/
def journalMatchesSpecUptoCard : Claim7 := { stood := { row := journalMatchesSpecUptoRow, standIns := [], harness := (true, "88ea8a7409415b998e78d491a9e87e1fddfaed26c3692f8d28b645b0f3834233"), looks := false }, kinds := [], alts := [], laidByText := true, laidKinds := [.data, .pinned], laidTests := true, laidLooks := .later }
def JournalMatchesSpecUptoCardSaid : Prop := Claim7.holds Tryd.pinned (.plain (OpenSpec.upto journalMatchesSpecSpec)) journalMatchesSpecUptoCard

/-- THE SECOND FORM's CARD OF 'voxellaw15.JournalReadsPages'. -/
def journalReadsPagesUptoCard : Claim7 := { stood := { row := journalReadsPagesUptoRow, standIns := [], harness := (true, "88ea8a7409415b998e78d491a9e87e1fddfaed26c3692f8d28b645b0f3834233"), looks := false }, kinds := [], alts := [], laidByText := true, laidKinds := [.data, .pinned], laidTests := true, laidLooks := .later }
def JournalReadsPagesUptoCardSaid : Prop := Claim7.holds Tryd.pinned (.plain (OpenSpec.upto journalReadsPagesSpec)) journalReadsPagesUptoCard

/-- THE SECOND FORM's CARD OF 'voxellaw15.JournalFindsRot'. -/
def journalFindsRotUptoCard : Claim7 := { stood := { row := journalFindsRotUptoRow, standIns := [], harness := (true, "88ea8a7409415b998e78d491a9e87e1fddfaed26c3692f8d28b645b0f3834233"), looks := false }, kinds := [], alts := [], laidByText := true, laidKinds := [.data, .pinned], laidTests := true, laidLooks := .later }
def JournalFindsRotUptoCardSaid : Prop := Claim7.holds Tryd.pinned (.plain (OpenSpec.upto journalFindsRotSpec)) journalFindsRotUptoCard
end Rows
end Go.Proofs.YtajhkncolbgkbaaDoor
