/-
  DERIVED. GIVEN WITH THE SEED: THE CARDS: each row of YtnnlhpmkfijppaaGreatDoorRows.lean that lists a variable, with what it lists TIED to the program's text (the seventh form; the later family's looks); each row that meets fmt, with fmt's text TOLD by the authors' own Lean function (tested against real Go, not proved from fmt's source: count such statements apart). THE CARD IS WHAT COUNTS. Prove the row's statement (the work); the ties are given (YtnnlhpmkfijppaaGreatDoorTie.lean); close each card by the builder's one call (the guide's Derived/Test/ToyasCard.lean, 'card_holds'). Laid BY PROGRAM, IN A SANDBOX (cutbox-door.mjs). By AI agents, Wed Nov 11 2026. No macro, syntax, notation, axiom, sorry.
-/
import Derived.Test.YtnnlhpmkfijppaaGreatDoorRows
import GoSem.ClaimSeven
namespace Go.Proofs.YtnnlhpmkfijppaaGreatDoor
namespace Rows

/-- THE TIED CARD OF 'bulletinlaw33.RosterTexts'. -/
def rosterTextsCard : Claim7 := { stood := { row := rosterTextsRow, standIns := [], harness := (true, "8a85ce62d367fd3b49efcb8ffb54dbcd0ea8fb90c6f5915ccc7e8821168d4af8"), looks := false }, kinds := [], alts := [], laidByText := true, laidKinds := [.data, .data, .data, .data, .pinned], laidTests := true, laidLooks := .later }
def RosterTextsCardSaid : Prop := Claim7.holds Tryz.pinned (.plain (OpenSpec.ofChange rosterTextsSpec)) rosterTextsCard

/-- THE TIED CARD OF 'bulletinlaw33.RosterTells'. -/
def rosterTellsCard : Claim7 := { stood := { row := rosterTellsRow, standIns := [], harness := (true, "8a85ce62d367fd3b49efcb8ffb54dbcd0ea8fb90c6f5915ccc7e8821168d4af8"), looks := false }, kinds := [], alts := [], laidByText := true, laidKinds := [.data, .data, .data, .data, .pinned], laidTests := true, laidLooks := .later }
def RosterTellsCardSaid : Prop := Claim7.holds Tryz.pinned (.plain (OpenSpec.ofChange rosterTellsSpec)) rosterTellsCard

/-- THE SECOND FORM's CARD OF 'bulletinlaw33.RosterTexts'. -/
def rosterTextsUptoCard : Claim7 := { stood := { row := rosterTextsUptoRow, standIns := [], harness := (true, "8a85ce62d367fd3b49efcb8ffb54dbcd0ea8fb90c6f5915ccc7e8821168d4af8"), looks := false }, kinds := [], alts := [], laidByText := true, laidKinds := [.data, .data, .data, .data, .pinned], laidTests := true, laidLooks := .later }
def RosterTextsUptoCardSaid : Prop := Claim7.holds Tryz.pinned (.plain (OpenSpec.upto rosterTextsSpec)) rosterTextsUptoCard

/-- THE SECOND FORM's CARD OF 'bulletinlaw33.RosterTells'. -/
def rosterTellsUptoCard : Claim7 := { stood := { row := rosterTellsUptoRow, standIns := [], harness := (true, "8a85ce62d367fd3b49efcb8ffb54dbcd0ea8fb90c6f5915ccc7e8821168d4af8"), looks := false }, kinds := [], alts := [], laidByText := true, laidKinds := [.data, .data, .data, .data, .pinned], laidTests := true, laidLooks := .later }
def RosterTellsUptoCardSaid : Prop := Claim7.holds Tryz.pinned (.plain (OpenSpec.upto rosterTellsSpec)) rosterTellsUptoCard
end Rows
end Go.Proofs.YtnnlhpmkfijppaaGreatDoor
