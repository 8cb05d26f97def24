/-
  DERIVED. GIVEN WITH THE SEED: THE CARDS: each row of YtgaaogijfikfeaaDoorRows.lean that lists a variable, with what it lists TIED to the program's text (the seventh form; the later family's looks); each row that meets fmt, with fmt's text TOLD by the authors' own Lean function (tested against real Go, not proved from fmt's source: count such statements apart). THE CARD IS WHAT COUNTS. Prove the row's statement (the work); the ties are given (YtgaaogijfikfeaaDoorTie.lean); close each card by the builder's one call (the guide's Derived/Test/ToyasCard.lean, 'card_holds'). Laid BY PROGRAM, IN A SANDBOX (cutbox-door.mjs). By AI agents, Wed Nov 11 2026. No macro, syntax, notation, axiom, sorry.
-/
import Derived.Test.YtgaaogijfikfeaaDoorRows
import GoSem.ClaimSeven
namespace Go.Proofs.YtgaaogijfikfeaaDoor
namespace Rows

/-- THE TIED CARD OF 'bulletinlaw15.HeadPut'. -/
def headPutCard : Claim7 := { stood := { row := headPutRow, standIns := [], harness := (true, "ff06a6209d4827d01f17b5a7c92e31574bb234be6f05e3e7c37ebc447a95fa22"), looks := false }, kinds := [], alts := [], laidByText := true, laidKinds := [.data, .pinned], laidTests := true, laidLooks := .later }
def HeadPutCardSaid : Prop := Claim7.holds Tryd.pinned (.plain (OpenSpec.ofChange headPutSpec)) headPutCard

/-- THE TIED CARD OF 'bulletinlaw15.HeadSets'. -/
def headSetsCard : Claim7 := { stood := { row := headSetsRow, standIns := [], harness := (true, "ff06a6209d4827d01f17b5a7c92e31574bb234be6f05e3e7c37ebc447a95fa22"), looks := false }, kinds := [], alts := [], laidByText := true, laidKinds := [.data, .pinned], laidTests := true, laidLooks := .later }
def HeadSetsCardSaid : Prop := Claim7.holds Tryd.pinned (.plain (OpenSpec.ofChange headSetsSpec)) headSetsCard

/-- THE TIED CARD OF 'bulletinlaw14.MbxShows'. -/
def mbxShowsCard : Claim7 := { stood := { row := mbxShowsRow, standIns := [], harness := (true, "ff06a6209d4827d01f17b5a7c92e31574bb234be6f05e3e7c37ebc447a95fa22"), looks := false }, kinds := [], alts := [], laidByText := true, laidKinds := [.data, .pinned], laidTests := true, laidLooks := .later }
def MbxShowsCardSaid : Prop := Claim7.holds Tryd.pinned (.plain (OpenSpec.ofChange mbxShowsSpec)) mbxShowsCard

/-- THE TIED CARD OF 'bulletinlaw14.MbxMany'. -/
def mbxManyCard : Claim7 := { stood := { row := mbxManyRow, standIns := [], harness := (true, "ff06a6209d4827d01f17b5a7c92e31574bb234be6f05e3e7c37ebc447a95fa22"), looks := false }, kinds := [], alts := [], laidByText := true, laidKinds := [.data, .pinned], laidTests := true, laidLooks := .later }
def MbxManyCardSaid : Prop := Claim7.holds Tryd.pinned (.plain (OpenSpec.ofChange mbxManySpec)) mbxManyCard

/-- THE TIED CARD OF 'bulletinlaw14.MbxJoins'. -/
def mbxJoinsCard : Claim7 := { stood := { row := mbxJoinsRow, standIns := [], harness := (true, "ff06a6209d4827d01f17b5a7c92e31574bb234be6f05e3e7c37ebc447a95fa22"), looks := false }, kinds := [], alts := [], laidByText := true, laidKinds := [.data, .pinned], laidTests := true, laidLooks := .later }
def MbxJoinsCardSaid : Prop := Claim7.holds Tryd.pinned (.plain (OpenSpec.ofChange mbxJoinsSpec)) mbxJoinsCard

/-- THE TIED CARD OF 'bulletinlaw28.PathShows'. -/
def pathShowsCard : Claim7 := { stood := { row := pathShowsRow, standIns := [], harness := (true, "ff06a6209d4827d01f17b5a7c92e31574bb234be6f05e3e7c37ebc447a95fa22"), looks := false }, kinds := [], alts := [], laidByText := true, laidKinds := [.data, .pinned], laidTests := true, laidLooks := .later }
def PathShowsCardSaid : Prop := Claim7.holds Tryd.pinned (.plain (OpenSpec.ofChange pathShowsSpec)) pathShowsCard

/-- THE TIED CARD OF 'bulletinlaw14.MbxReads'. -/
def mbxReadsCard : Claim7 := { stood := { row := mbxReadsRow, standIns := [], harness := (true, "ff06a6209d4827d01f17b5a7c92e31574bb234be6f05e3e7c37ebc447a95fa22"), looks := false }, kinds := [], alts := [], laidByText := true, laidKinds := [.data, .pinned], laidTests := true, laidLooks := .later }
def MbxReadsCardSaid : Prop := Claim7.holds Tryd.pinned (.plain (OpenSpec.ofChange mbxReadsSpec)) mbxReadsCard

/-- THE TIED CARD OF 'bulletinlaw28.PathBack'. -/
def pathBackCard : Claim7 := { stood := { row := pathBackRow, standIns := [], harness := (true, "ff06a6209d4827d01f17b5a7c92e31574bb234be6f05e3e7c37ebc447a95fa22"), looks := false }, kinds := [], alts := [], laidByText := true, laidKinds := [.data, .pinned], laidTests := true, laidLooks := .later }
def PathBackCardSaid : Prop := Claim7.holds Tryd.pinned (.plain (OpenSpec.ofChange pathBackSpec)) pathBackCard

/-- THE TIED CARD OF 'bulletinlaw28.PathTo'. -/
def pathToCard : Claim7 := { stood := { row := pathToRow, standIns := [], harness := (true, "ff06a6209d4827d01f17b5a7c92e31574bb234be6f05e3e7c37ebc447a95fa22"), looks := false }, kinds := [], alts := [], laidByText := true, laidKinds := [.data, .pinned], laidTests := true, laidLooks := .later }
def PathToCardSaid : Prop := Claim7.holds Tryd.pinned (.plain (OpenSpec.ofChange pathToSpec)) pathToCard

/-- THE TIED CARD OF 'bulletinlaw14.MbxBack'. -/
def mbxBackCard : Claim7 := { stood := { row := mbxBackRow, standIns := [], harness := (true, "ff06a6209d4827d01f17b5a7c92e31574bb234be6f05e3e7c37ebc447a95fa22"), looks := false }, kinds := [], alts := [], laidByText := true, laidKinds := [.data, .pinned], laidTests := true, laidLooks := .later }
def MbxBackCardSaid : Prop := Claim7.holds Tryd.pinned (.plain (OpenSpec.ofChange mbxBackSpec)) mbxBackCard

/-- THE TIED CARD OF 'bulletinlaw20.MimeTypes'. -/
def mimeTypesCard : Claim7 := { stood := { row := mimeTypesRow, standIns := [], harness := (true, "ff06a6209d4827d01f17b5a7c92e31574bb234be6f05e3e7c37ebc447a95fa22"), looks := false }, kinds := [], alts := [], laidByText := true, laidKinds := [.data, .pinned], laidTests := true, laidLooks := .later }
def MimeTypesCardSaid : Prop := Claim7.holds Tryd.pinned (.plain (OpenSpec.ofChange mimeTypesSpec)) mimeTypesCard

/-- THE TIED CARD OF 'bulletinlaw20.MimeSplits'. -/
def mimeSplitsCard : Claim7 := { stood := { row := mimeSplitsRow, standIns := [], harness := (true, "ff06a6209d4827d01f17b5a7c92e31574bb234be6f05e3e7c37ebc447a95fa22"), looks := false }, kinds := [], alts := [], laidByText := true, laidKinds := [.data, .pinned], laidTests := true, laidLooks := .later }
def MimeSplitsCardSaid : Prop := Claim7.holds Tryd.pinned (.plain (OpenSpec.ofChange mimeSplitsSpec)) mimeSplitsCard

/-- THE TIED CARD OF 'bulletinlaw20.MimeTypeBack'. -/
def mimeTypeBackCard : Claim7 := { stood := { row := mimeTypeBackRow, standIns := [], harness := (true, "ff06a6209d4827d01f17b5a7c92e31574bb234be6f05e3e7c37ebc447a95fa22"), looks := false }, kinds := [], alts := [], laidByText := true, laidKinds := [.data, .pinned], laidTests := true, laidLooks := .later }
def MimeTypeBackCardSaid : Prop := Claim7.holds Tryd.pinned (.plain (OpenSpec.ofChange mimeTypeBackSpec)) mimeTypeBackCard

/-- THE TIED CARD OF 'bulletinlaw20.MimeMany'. -/
def mimeManyCard : Claim7 := { stood := { row := mimeManyRow, standIns := [], harness := (true, "ff06a6209d4827d01f17b5a7c92e31574bb234be6f05e3e7c37ebc447a95fa22"), looks := false }, kinds := [], alts := [], laidByText := true, laidKinds := [.data, .pinned], laidTests := true, laidLooks := .later }
def MimeManyCardSaid : Prop := Claim7.holds Tryd.pinned (.plain (OpenSpec.ofChange mimeManySpec)) mimeManyCard

/-- THE TIED CARD OF 'bulletinlaw33.RosterOnce'. -/
def rosterOnceCard : Claim7 := { stood := { row := rosterOnceRow, standIns := [], harness := (true, "ff06a6209d4827d01f17b5a7c92e31574bb234be6f05e3e7c37ebc447a95fa22"), looks := false }, kinds := [], alts := [], laidByText := true, laidKinds := [.data, .data, .data, .data, .pinned], laidTests := true, laidLooks := .later }
def RosterOnceCardSaid : Prop := Claim7.holds Tryd.pinned (.plain (OpenSpec.ofChange rosterOnceSpec)) rosterOnceCard

/-- THE SECOND FORM's CARD OF 'bulletinlaw15.HeadPut'. -/
def headPutUptoCard : Claim7 := { stood := { row := headPutUptoRow, standIns := [], harness := (true, "ff06a6209d4827d01f17b5a7c92e31574bb234be6f05e3e7c37ebc447a95fa22"), looks := false }, kinds := [], alts := [], laidByText := true, laidKinds := [.data, .pinned], laidTests := true, laidLooks := .later }
def HeadPutUptoCardSaid : Prop := Claim7.holds Tryd.pinned (.plain (OpenSpec.upto headPutSpec)) headPutUptoCard

/-- THE SECOND FORM's CARD OF 'bulletinlaw15.HeadSets'. -/
def headSetsUptoCard : Claim7 := { stood := { row := headSetsUptoRow, standIns := [], harness := (true, "ff06a6209d4827d01f17b5a7c92e31574bb234be6f05e3e7c37ebc447a95fa22"), looks := false }, kinds := [], alts := [], laidByText := true, laidKinds := [.data, .pinned], laidTests := true, laidLooks := .later }
def HeadSetsUptoCardSaid : Prop := Claim7.holds Tryd.pinned (.plain (OpenSpec.upto headSetsSpec)) headSetsUptoCard

/-- THE SECOND FORM's CARD OF 'bulletinlaw14.MbxShows'. -/
def mbxShowsUptoCard : Claim7 := { stood := { row := mbxShowsUptoRow, standIns := [], harness := (true, "ff06a6209d4827d01f17b5a7c92e31574bb234be6f05e3e7c37ebc447a95fa22"), looks := false }, kinds := [], alts := [], laidByText := true, laidKinds := [.data, .pinned], laidTests := true, laidLooks := .later }
def MbxShowsUptoCardSaid : Prop := Claim7.holds Tryd.pinned (.plain (OpenSpec.upto mbxShowsSpec)) mbxShowsUptoCard

/-- THE SECOND FORM's CARD OF 'bulletinlaw14.MbxMany'. -/
def mbxManyUptoCard : Claim7 := { stood := { row := mbxManyUptoRow, standIns := [], harness := (true, "ff06a6209d4827d01f17b5a7c92e31574bb234be6f05e3e7c37ebc447a95fa22"), looks := false }, kinds := [], alts := [], laidByText := true, laidKinds := [.data, .pinned], laidTests := true, laidLooks := .later }
def MbxManyUptoCardSaid : Prop := Claim7.holds Tryd.pinned (.plain (OpenSpec.upto mbxManySpec)) mbxManyUptoCard

/-- THE SECOND FORM's CARD OF 'bulletinlaw14.MbxJoins'. -/
def mbxJoinsUptoCard : Claim7 := { stood := { row := mbxJoinsUptoRow, standIns := [], harness := (true, "ff06a6209d4827d01f17b5a7c92e31574bb234be6f05e3e7c37ebc447a95fa22"), looks := false }, kinds := [], alts := [], laidByText := true, laidKinds := [.data, .pinned], laidTests := true, laidLooks := .later }
def MbxJoinsUptoCardSaid : Prop := Claim7.holds Tryd.pinned (.plain (OpenSpec.upto mbxJoinsSpec)) mbxJoinsUptoCard

/-- THE SECOND FORM's CARD OF 'bulletinlaw28.PathShows'. -/
def pathShowsUptoCard : Claim7 := { stood := { row := pathShowsUptoRow, standIns := [], harness := (true, "ff06a6209d4827d01f17b5a7c92e31574bb234be6f05e3e7c37ebc447a95fa22"), looks := false }, kinds := [], alts := [], laidByText := true, laidKinds := [.data, .pinned], laidTests := true, laidLooks := .later }
def PathShowsUptoCardSaid : Prop := Claim7.holds Tryd.pinned (.plain (OpenSpec.upto pathShowsSpec)) pathShowsUptoCard

/-- THE SECOND FORM's CARD OF 'bulletinlaw14.MbxReads'. -/
def mbxReadsUptoCard : Claim7 := { stood := { row := mbxReadsUptoRow, standIns := [], harness := (true, "ff06a6209d4827d01f17b5a7c92e31574bb234be6f05e3e7c37ebc447a95fa22"), looks := false }, kinds := [], alts := [], laidByText := true, laidKinds := [.data, .pinned], laidTests := true, laidLooks := .later }
def MbxReadsUptoCardSaid : Prop := Claim7.holds Tryd.pinned (.plain (OpenSpec.upto mbxReadsSpec)) mbxReadsUptoCard

/-- THE SECOND FORM's CARD OF 'bulletinlaw28.PathBack'. -/
def pathBackUptoCard : Claim7 := { stood := { row := pathBackUptoRow, standIns := [], harness := (true, "ff06a6209d4827d01f17b5a7c92e31574bb234be6f05e3e7c37ebc447a95fa22"), looks := false }, kinds := [], alts := [], laidByText := true, laidKinds := [.data, .pinned], laidTests := true, laidLooks := .later }
def PathBackUptoCardSaid : Prop := Claim7.holds Tryd.pinned (.plain (OpenSpec.upto pathBackSpec)) pathBackUptoCard

/-- THE SECOND FORM's CARD OF 'bulletinlaw28.PathTo'. -/
def pathToUptoCard : Claim7 := { stood := { row := pathToUptoRow, standIns := [], harness := (true, "ff06a6209d4827d01f17b5a7c92e31574bb234be6f05e3e7c37ebc447a95fa22"), looks := false }, kinds := [], alts := [], laidByText := true, laidKinds := [.data, .pinned], laidTests := true, laidLooks := .later }
def PathToUptoCardSaid : Prop := Claim7.holds Tryd.pinned (.plain (OpenSpec.upto pathToSpec)) pathToUptoCard

/-- THE SECOND FORM's CARD OF 'bulletinlaw14.MbxBack'. -/
def mbxBackUptoCard : Claim7 := { stood := { row := mbxBackUptoRow, standIns := [], harness := (true, "ff06a6209d4827d01f17b5a7c92e31574bb234be6f05e3e7c37ebc447a95fa22"), looks := false }, kinds := [], alts := [], laidByText := true, laidKinds := [.data, .pinned], laidTests := true, laidLooks := .later }
def MbxBackUptoCardSaid : Prop := Claim7.holds Tryd.pinned (.plain (OpenSpec.upto mbxBackSpec)) mbxBackUptoCard

/-- THE SECOND FORM's CARD OF 'bulletinlaw20.MimeTypes'. -/
def mimeTypesUptoCard : Claim7 := { stood := { row := mimeTypesUptoRow, standIns := [], harness := (true, "ff06a6209d4827d01f17b5a7c92e31574bb234be6f05e3e7c37ebc447a95fa22"), looks := false }, kinds := [], alts := [], laidByText := true, laidKinds := [.data, .pinned], laidTests := true, laidLooks := .later }
def MimeTypesUptoCardSaid : Prop := Claim7.holds Tryd.pinned (.plain (OpenSpec.upto mimeTypesSpec)) mimeTypesUptoCard

/-- THE SECOND FORM's CARD OF 'bulletinlaw20.MimeSplits'. -/
def mimeSplitsUptoCard : Claim7 := { stood := { row := mimeSplitsUptoRow, standIns := [], harness := (true, "ff06a6209d4827d01f17b5a7c92e31574bb234be6f05e3e7c37ebc447a95fa22"), looks := false }, kinds := [], alts := [], laidByText := true, laidKinds := [.data, .pinned], laidTests := true, laidLooks := .later }
def MimeSplitsUptoCardSaid : Prop := Claim7.holds Tryd.pinned (.plain (OpenSpec.upto mimeSplitsSpec)) mimeSplitsUptoCard

/-- THE SECOND FORM's CARD OF 'bulletinlaw20.MimeTypeBack'. -/
def mimeTypeBackUptoCard : Claim7 := { stood := { row := mimeTypeBackUptoRow, standIns := [], harness := (true, "ff06a6209d4827d01f17b5a7c92e31574bb234be6f05e3e7c37ebc447a95fa22"), looks := false }, kinds := [], alts := [], laidByText := true, laidKinds := [.data, .pinned], laidTests := true, laidLooks := .later }
def MimeTypeBackUptoCardSaid : Prop := Claim7.holds Tryd.pinned (.plain (OpenSpec.upto mimeTypeBackSpec)) mimeTypeBackUptoCard

/-- THE SECOND FORM's CARD OF 'bulletinlaw20.MimeMany'. -/
def mimeManyUptoCard : Claim7 := { stood := { row := mimeManyUptoRow, standIns := [], harness := (true, "ff06a6209d4827d01f17b5a7c92e31574bb234be6f05e3e7c37ebc447a95fa22"), looks := false }, kinds := [], alts := [], laidByText := true, laidKinds := [.data, .pinned], laidTests := true, laidLooks := .later }
def MimeManyUptoCardSaid : Prop := Claim7.holds Tryd.pinned (.plain (OpenSpec.upto mimeManySpec)) mimeManyUptoCard

/-- THE SECOND FORM's CARD OF 'bulletinlaw33.RosterOnce'. -/
def rosterOnceUptoCard : Claim7 := { stood := { row := rosterOnceUptoRow, standIns := [], harness := (true, "ff06a6209d4827d01f17b5a7c92e31574bb234be6f05e3e7c37ebc447a95fa22"), looks := false }, kinds := [], alts := [], laidByText := true, laidKinds := [.data, .data, .data, .data, .pinned], laidTests := true, laidLooks := .later }
def RosterOnceUptoCardSaid : Prop := Claim7.holds Tryd.pinned (.plain (OpenSpec.upto rosterOnceSpec)) rosterOnceUptoCard
end Rows
end Go.Proofs.YtgaaogijfikfeaaDoor
