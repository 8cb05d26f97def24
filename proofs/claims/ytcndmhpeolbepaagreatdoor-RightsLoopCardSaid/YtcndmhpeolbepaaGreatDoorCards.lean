/-
  DERIVED. GIVEN WITH THE SEED: THE CARDS: each row of YtcndmhpeolbepaaGreatDoorRows.lean that lists a variable, with what it lists TIED to the program's text (the seventh form; the later family's looks); each row that meets fmt, with fmt's text TOLD by the authors' own Lean function (tested against real Go, not proved from fmt's source: count such statements apart). THE CARD IS WHAT COUNTS. Prove the row's statement (the work); the ties are given (YtcndmhpeolbepaaGreatDoorTie.lean); close each card by the builder's one call (the guide's Derived/Test/ToyasCard.lean, 'card_holds'). Laid BY PROGRAM, IN A SANDBOX (cutbox-door.mjs). By AI agents, Wed Nov 11 2026. No macro, syntax, notation, axiom, sorry.
-/
import Derived.Test.YtcndmhpeolbepaaGreatDoorRows
import GoSem.ClaimSeven
namespace Go.Proofs.YtcndmhpeolbepaaGreatDoor
namespace Rows

/-- THE TIED CARD OF 'bulletinlaw36.DressNotes'. -/
def dressNotesCard : Claim7 := { stood := { row := dressNotesRow, standIns := [], harness := (true, "1e6d8394a051b28535c77d3f6552e1f6b80a2bb61c489764fad6dfb63e0f8f25"), looks := false }, kinds := [], alts := [], laidByText := true, laidKinds := [.data, .data, .data, .data, .data, .data, .data, .pinned], laidTests := true, laidLooks := .later }
def DressNotesCardSaid : Prop := Claim7.holds Tryz.pinned (.plain (OpenSpec.ofChange dressNotesSpec)) dressNotesCard

/-- THE TIED CARD OF 'bulletinlaw36.DressKeeps'. -/
def dressKeepsCard : Claim7 := { stood := { row := dressKeepsRow, standIns := [], harness := (true, "1e6d8394a051b28535c77d3f6552e1f6b80a2bb61c489764fad6dfb63e0f8f25"), looks := false }, kinds := [], alts := [], laidByText := true, laidKinds := [.data, .data, .data, .data, .data, .data, .data, .pinned], laidTests := true, laidLooks := .later }
def DressKeepsCardSaid : Prop := Claim7.holds Tryz.pinned (.plain (OpenSpec.ofChange dressKeepsSpec)) dressKeepsCard

/-- THE TIED CARD OF 'bulletinlaw34.RightsLoop'. -/
def rightsLoopCard : Claim7 := { stood := { row := rightsLoopRow, standIns := [], harness := (true, "1e6d8394a051b28535c77d3f6552e1f6b80a2bb61c489764fad6dfb63e0f8f25"), looks := false }, kinds := [], alts := [], laidByText := true, laidKinds := [.data, .pinned], laidTests := true, laidLooks := .later }
def RightsLoopCardSaid : Prop := Claim7.holds Tryz.pinned (.plain (OpenSpec.ofChange rightsLoopSpec)) rightsLoopCard

/-- THE TIED CARD OF 'bulletinlaw34.RightsMore'. -/
def rightsMoreCard : Claim7 := { stood := { row := rightsMoreRow, standIns := [], harness := (true, "1e6d8394a051b28535c77d3f6552e1f6b80a2bb61c489764fad6dfb63e0f8f25"), looks := false }, kinds := [], alts := [], laidByText := true, laidKinds := [.data, .pinned], laidTests := true, laidLooks := .later }
def RightsMoreCardSaid : Prop := Claim7.holds Tryz.pinned (.plain (OpenSpec.ofChange rightsMoreSpec)) rightsMoreCard

/-- THE SECOND FORM's CARD OF 'bulletinlaw36.DressNotes'. -/
def dressNotesUptoCard : Claim7 := { stood := { row := dressNotesUptoRow, standIns := [], harness := (true, "1e6d8394a051b28535c77d3f6552e1f6b80a2bb61c489764fad6dfb63e0f8f25"), looks := false }, kinds := [], alts := [], laidByText := true, laidKinds := [.data, .data, .data, .data, .data, .data, .data, .pinned], laidTests := true, laidLooks := .later }
def DressNotesUptoCardSaid : Prop := Claim7.holds Tryz.pinned (.plain (OpenSpec.upto dressNotesSpec)) dressNotesUptoCard

/-- THE SECOND FORM's CARD OF 'bulletinlaw36.DressKeeps'. -/
def dressKeepsUptoCard : Claim7 := { stood := { row := dressKeepsUptoRow, standIns := [], harness := (true, "1e6d8394a051b28535c77d3f6552e1f6b80a2bb61c489764fad6dfb63e0f8f25"), looks := false }, kinds := [], alts := [], laidByText := true, laidKinds := [.data, .data, .data, .data, .data, .data, .data, .pinned], laidTests := true, laidLooks := .later }
def DressKeepsUptoCardSaid : Prop := Claim7.holds Tryz.pinned (.plain (OpenSpec.upto dressKeepsSpec)) dressKeepsUptoCard

/-- THE SECOND FORM's CARD OF 'bulletinlaw34.RightsLoop'. -/
def rightsLoopUptoCard : Claim7 := { stood := { row := rightsLoopUptoRow, standIns := [], harness := (true, "1e6d8394a051b28535c77d3f6552e1f6b80a2bb61c489764fad6dfb63e0f8f25"), looks := false }, kinds := [], alts := [], laidByText := true, laidKinds := [.data, .pinned], laidTests := true, laidLooks := .later }
def RightsLoopUptoCardSaid : Prop := Claim7.holds Tryz.pinned (.plain (OpenSpec.upto rightsLoopSpec)) rightsLoopUptoCard

/-- THE SECOND FORM's CARD OF 'bulletinlaw34.RightsMore'. -/
def rightsMoreUptoCard : Claim7 := { stood := { row := rightsMoreUptoRow, standIns := [], harness := (true, "1e6d8394a051b28535c77d3f6552e1f6b80a2bb61c489764fad6dfb63e0f8f25"), looks := false }, kinds := [], alts := [], laidByText := true, laidKinds := [.data, .pinned], laidTests := true, laidLooks := .later }
def RightsMoreUptoCardSaid : Prop := Claim7.holds Tryz.pinned (.plain (OpenSpec.upto rightsMoreSpec)) rightsMoreUptoCard
end Rows
end Go.Proofs.YtcndmhpeolbepaaGreatDoor
