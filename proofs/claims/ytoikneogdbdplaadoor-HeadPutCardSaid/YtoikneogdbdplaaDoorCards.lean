/-
  DERIVED. GIVEN WITH THE SEED: THE CARDS: each row of YtoikneogdbdplaaDoorRows.lean that lists a variable, with what it lists TIED to the program's text (the seventh form; the later family's looks); each row that meets fmt, with fmt's text TOLD by the authors' own Lean function (tested against real Go, not proved from fmt's source: count such statements apart). THE CARD IS WHAT COUNTS. Prove the row's statement (the work); the ties are given (YtoikneogdbdplaaDoorTie.lean); close each card by the builder's one call (the guide's Derived/Test/ToyasCard.lean, 'card_holds'). Laid BY PROGRAM, IN A SANDBOX (cutbox-door.mjs). By AI agents, Wed Nov 11 2026. No macro, syntax, notation, axiom, sorry.
-/
import Derived.Test.YtoikneogdbdplaaDoorRows
import GoSem.ClaimSeven
namespace Go.Proofs.YtoikneogdbdplaaDoor
namespace Rows

/-- THE TIED CARD OF 'bulletinlaw15.HeadPut'. -/
def headPutCard : Claim7 := { stood := { row := headPutRow, standIns := [], harness := (true, "409ee11d342a54a3dcc3d9a990ffa0eaaa4b0555f796091a5b7f000be13e4909"), looks := false }, kinds := [], alts := [], laidByText := true, laidKinds := [.data, .pinned], laidTests := true, laidLooks := .later }
def HeadPutCardSaid : Prop := Claim7.holds Tryd.pinned (.plain (OpenSpec.ofChange headPutSpec)) headPutCard

/-- THE TIED CARD OF 'bulletinlaw15.HeadSets'. -/
def headSetsCard : Claim7 := { stood := { row := headSetsRow, standIns := [], harness := (true, "409ee11d342a54a3dcc3d9a990ffa0eaaa4b0555f796091a5b7f000be13e4909"), looks := false }, kinds := [], alts := [], laidByText := true, laidKinds := [.data, .pinned], laidTests := true, laidLooks := .later }
def HeadSetsCardSaid : Prop := Claim7.holds Tryd.pinned (.plain (OpenSpec.ofChange headSetsSpec)) headSetsCard

/-- THE TIED CARD OF 'bulletinlaw20.MimeTypes'. -/
def mimeTypesCard : Claim7 := { stood := { row := mimeTypesRow, standIns := [], harness := (true, "409ee11d342a54a3dcc3d9a990ffa0eaaa4b0555f796091a5b7f000be13e4909"), looks := false }, kinds := [], alts := [], laidByText := true, laidKinds := [.data, .pinned], laidTests := true, laidLooks := .later }
def MimeTypesCardSaid : Prop := Claim7.holds Tryd.pinned (.plain (OpenSpec.ofChange mimeTypesSpec)) mimeTypesCard

/-- THE TIED CARD OF 'bulletinlaw20.MimeBack'. -/
def mimeBackCard : Claim7 := { stood := { row := mimeBackRow, standIns := [], harness := (true, "409ee11d342a54a3dcc3d9a990ffa0eaaa4b0555f796091a5b7f000be13e4909"), looks := false }, kinds := [], alts := [], laidByText := true, laidKinds := [.data, .pinned], laidTests := true, laidLooks := .later }
def MimeBackCardSaid : Prop := Claim7.holds Tryd.pinned (.plain (OpenSpec.ofChange mimeBackSpec)) mimeBackCard

/-- THE TIED CARD OF 'bulletinlaw33.RosterBack'. -/
def rosterBackCard : Claim7 := { stood := { row := rosterBackRow, standIns := [], harness := (true, "409ee11d342a54a3dcc3d9a990ffa0eaaa4b0555f796091a5b7f000be13e4909"), looks := false }, kinds := [], alts := [], laidByText := true, laidKinds := [.data, .data, .data, .data, .pinned], laidTests := true, laidLooks := .later }
def RosterBackCardSaid : Prop := Claim7.holds Tryd.pinned (.plain (OpenSpec.ofChange rosterBackSpec)) rosterBackCard

/-- THE TIED CARD OF 'bulletinlaw33.RosterOnce'. -/
def rosterOnceCard : Claim7 := { stood := { row := rosterOnceRow, standIns := [], harness := (true, "409ee11d342a54a3dcc3d9a990ffa0eaaa4b0555f796091a5b7f000be13e4909"), looks := false }, kinds := [], alts := [], laidByText := true, laidKinds := [.data, .data, .data, .data, .pinned], laidTests := true, laidLooks := .later }
def RosterOnceCardSaid : Prop := Claim7.holds Tryd.pinned (.plain (OpenSpec.ofChange rosterOnceSpec)) rosterOnceCard

/-- THE TIED CARD OF 'bulletinlaw20.MimeJoins'. -/
def mimeJoinsCard : Claim7 := { stood := { row := mimeJoinsRow, standIns := [], harness := (true, "409ee11d342a54a3dcc3d9a990ffa0eaaa4b0555f796091a5b7f000be13e4909"), looks := false }, kinds := [], alts := [], laidByText := true, laidKinds := [.data, .data, .data, .data, .pinned], laidTests := true, laidLooks := .later }
def MimeJoinsCardSaid : Prop := Claim7.holds Tryd.pinned (.plain (OpenSpec.ofChange mimeJoinsSpec)) mimeJoinsCard

/-- THE TIED CARD OF 'bulletinlaw20.MimeFree'. -/
def mimeFreeCard : Claim7 := { stood := { row := mimeFreeRow, standIns := [], harness := (true, "409ee11d342a54a3dcc3d9a990ffa0eaaa4b0555f796091a5b7f000be13e4909"), looks := false }, kinds := [], alts := [], laidByText := true, laidKinds := [.data, .data, .data, .data, .pinned], laidTests := true, laidLooks := .later }
def MimeFreeCardSaid : Prop := Claim7.holds Tryd.pinned (.plain (OpenSpec.ofChange mimeFreeSpec)) mimeFreeCard

/-- THE SECOND FORM's CARD OF 'bulletinlaw15.HeadPut'. -/
def headPutUptoCard : Claim7 := { stood := { row := headPutUptoRow, standIns := [], harness := (true, "409ee11d342a54a3dcc3d9a990ffa0eaaa4b0555f796091a5b7f000be13e4909"), looks := false }, kinds := [], alts := [], laidByText := true, laidKinds := [.data, .pinned], laidTests := true, laidLooks := .later }
def HeadPutUptoCardSaid : Prop := Claim7.holds Tryd.pinned (.plain (OpenSpec.upto headPutSpec)) headPutUptoCard

/-- THE SECOND FORM's CARD OF 'bulletinlaw15.HeadSets'. -/
def headSetsUptoCard : Claim7 := { stood := { row := headSetsUptoRow, standIns := [], harness := (true, "409ee11d342a54a3dcc3d9a990ffa0eaaa4b0555f796091a5b7f000be13e4909"), looks := false }, kinds := [], alts := [], laidByText := true, laidKinds := [.data, .pinned], laidTests := true, laidLooks := .later }
def HeadSetsUptoCardSaid : Prop := Claim7.holds Tryd.pinned (.plain (OpenSpec.upto headSetsSpec)) headSetsUptoCard

/-- THE SECOND FORM's CARD OF 'bulletinlaw20.MimeTypes'. -/
def mimeTypesUptoCard : Claim7 := { stood := { row := mimeTypesUptoRow, standIns := [], harness := (true, "409ee11d342a54a3dcc3d9a990ffa0eaaa4b0555f796091a5b7f000be13e4909"), looks := false }, kinds := [], alts := [], laidByText := true, laidKinds := [.data, .pinned], laidTests := true, laidLooks := .later }
def MimeTypesUptoCardSaid : Prop := Claim7.holds Tryd.pinned (.plain (OpenSpec.upto mimeTypesSpec)) mimeTypesUptoCard

/-- THE SECOND FORM's CARD OF 'bulletinlaw20.MimeBack'. -/
def mimeBackUptoCard : Claim7 := { stood := { row := mimeBackUptoRow, standIns := [], harness := (true, "409ee11d342a54a3dcc3d9a990ffa0eaaa4b0555f796091a5b7f000be13e4909"), looks := false }, kinds := [], alts := [], laidByText := true, laidKinds := [.data, .pinned], laidTests := true, laidLooks := .later }
def MimeBackUptoCardSaid : Prop := Claim7.holds Tryd.pinned (.plain (OpenSpec.upto mimeBackSpec)) mimeBackUptoCard

/-- THE SECOND FORM's CARD OF 'bulletinlaw33.RosterBack'. -/
def rosterBackUptoCard : Claim7 := { stood := { row := rosterBackUptoRow, standIns := [], harness := (true, "409ee11d342a54a3dcc3d9a990ffa0eaaa4b0555f796091a5b7f000be13e4909"), looks := false }, kinds := [], alts := [], laidByText := true, laidKinds := [.data, .data, .data, .data, .pinned], laidTests := true, laidLooks := .later }
def RosterBackUptoCardSaid : Prop := Claim7.holds Tryd.pinned (.plain (OpenSpec.upto rosterBackSpec)) rosterBackUptoCard

/-- THE SECOND FORM's CARD OF 'bulletinlaw33.RosterOnce'. -/
def rosterOnceUptoCard : Claim7 := { stood := { row := rosterOnceUptoRow, standIns := [], harness := (true, "409ee11d342a54a3dcc3d9a990ffa0eaaa4b0555f796091a5b7f000be13e4909"), looks := false }, kinds := [], alts := [], laidByText := true, laidKinds := [.data, .data, .data, .data, .pinned], laidTests := true, laidLooks := .later }
def RosterOnceUptoCardSaid : Prop := Claim7.holds Tryd.pinned (.plain (OpenSpec.upto rosterOnceSpec)) rosterOnceUptoCard

/-- THE SECOND FORM's CARD OF 'bulletinlaw20.MimeJoins'. -/
def mimeJoinsUptoCard : Claim7 := { stood := { row := mimeJoinsUptoRow, standIns := [], harness := (true, "409ee11d342a54a3dcc3d9a990ffa0eaaa4b0555f796091a5b7f000be13e4909"), looks := false }, kinds := [], alts := [], laidByText := true, laidKinds := [.data, .data, .data, .data, .pinned], laidTests := true, laidLooks := .later }
def MimeJoinsUptoCardSaid : Prop := Claim7.holds Tryd.pinned (.plain (OpenSpec.upto mimeJoinsSpec)) mimeJoinsUptoCard

/-- THE SECOND FORM's CARD OF 'bulletinlaw20.MimeFree'. -/
def mimeFreeUptoCard : Claim7 := { stood := { row := mimeFreeUptoRow, standIns := [], harness := (true, "409ee11d342a54a3dcc3d9a990ffa0eaaa4b0555f796091a5b7f000be13e4909"), looks := false }, kinds := [], alts := [], laidByText := true, laidKinds := [.data, .data, .data, .data, .pinned], laidTests := true, laidLooks := .later }
def MimeFreeUptoCardSaid : Prop := Claim7.holds Tryd.pinned (.plain (OpenSpec.upto mimeFreeSpec)) mimeFreeUptoCard
end Rows
end Go.Proofs.YtoikneogdbdplaaDoor
