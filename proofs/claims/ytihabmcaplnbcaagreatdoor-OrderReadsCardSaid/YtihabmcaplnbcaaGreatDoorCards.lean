/-
  DERIVED. GIVEN WITH THE SEED: THE CARDS: each row of YtihabmcaplnbcaaGreatDoorRows.lean that lists a variable, with what it lists TIED to the program's text (the seventh form; the later family's looks); each row that meets fmt, with fmt's text TOLD by the authors' own Lean function (tested against real Go, not proved from fmt's source: count such statements apart). THE CARD IS WHAT COUNTS. Prove the row's statement (the work); the ties are given (YtihabmcaplnbcaaGreatDoorTie.lean); close each card by the builder's one call (the guide's Derived/Test/ToyasCard.lean, 'card_holds'). Laid BY PROGRAM, IN A SANDBOX (cutbox-door.mjs). By AI agents, Wed Nov 11 2026. No macro, syntax, notation, axiom, sorry.
-/
import Derived.Test.YtihabmcaplnbcaaGreatDoorRows
import GoSem.ClaimSeven
namespace Go.Proofs.YtihabmcaplnbcaaGreatDoor
namespace Rows

/-- THE TIED CARD OF 'bulletinlaw36.DressCopies'. -/
def dressCopiesCard : Claim7 := { stood := { row := dressCopiesRow, standIns := [], harness := (true, "9f08366bb00d694961845927afbb847f2e28081e971a0b3d49537d08d9e28e86"), looks := false }, kinds := [], alts := [], laidByText := true, laidKinds := [.data, .pinned], laidTests := true, laidLooks := .later }
def DressCopiesCardSaid : Prop := Claim7.holds Tryz.pinned (.plain (OpenSpec.ofChange dressCopiesSpec)) dressCopiesCard

/-- THE TIED CARD OF 'bulletinlaw16.MsgTells'. -/
def msgTellsCard : Claim7 := { stood := { row := msgTellsRow, standIns := [], harness := (true, "9f08366bb00d694961845927afbb847f2e28081e971a0b3d49537d08d9e28e86"), looks := false }, kinds := [], alts := [], laidByText := true, laidKinds := [.data, .pinned], laidTests := true, laidLooks := .later }
def MsgTellsCardSaid : Prop := Claim7.holds Tryz.pinned (.plain (OpenSpec.ofChange msgTellsSpec)) msgTellsCard

/-- THE TIED CARD OF 'bulletinlaw35.OrderReads'. -/
def orderReadsCard : Claim7 := { stood := { row := orderReadsRow, standIns := [], harness := (true, "9f08366bb00d694961845927afbb847f2e28081e971a0b3d49537d08d9e28e86"), looks := false }, kinds := [], alts := [], laidByText := true, laidKinds := [.data, .pinned], laidTests := true, laidLooks := .later }
def OrderReadsCardSaid : Prop := Claim7.holds Tryz.pinned (.plain (OpenSpec.ofChange orderReadsSpec)) orderReadsCard

/-- THE TIED CARD OF 'bulletinlaw35.OrderFew'. -/
def orderFewCard : Claim7 := { stood := { row := orderFewRow, standIns := [], harness := (true, "9f08366bb00d694961845927afbb847f2e28081e971a0b3d49537d08d9e28e86"), looks := false }, kinds := [], alts := [], laidByText := true, laidKinds := [.data, .pinned], laidTests := true, laidLooks := .later }
def OrderFewCardSaid : Prop := Claim7.holds Tryz.pinned (.plain (OpenSpec.ofChange orderFewSpec)) orderFewCard

/-- THE SECOND FORM's CARD OF 'bulletinlaw36.DressCopies'. -/
def dressCopiesUptoCard : Claim7 := { stood := { row := dressCopiesUptoRow, standIns := [], harness := (true, "9f08366bb00d694961845927afbb847f2e28081e971a0b3d49537d08d9e28e86"), looks := false }, kinds := [], alts := [], laidByText := true, laidKinds := [.data, .pinned], laidTests := true, laidLooks := .later }
def DressCopiesUptoCardSaid : Prop := Claim7.holds Tryz.pinned (.plain (OpenSpec.upto dressCopiesSpec)) dressCopiesUptoCard

/-- THE SECOND FORM's CARD OF 'bulletinlaw16.MsgTells'. -/
def msgTellsUptoCard : Claim7 := { stood := { row := msgTellsUptoRow, standIns := [], harness := (true, "9f08366bb00d694961845927afbb847f2e28081e971a0b3d49537d08d9e28e86"), looks := false }, kinds := [], alts := [], laidByText := true, laidKinds := [.data, .pinned], laidTests := true, laidLooks := .later }
def MsgTellsUptoCardSaid : Prop := Claim7.holds Tryz.pinned (.plain (OpenSpec.upto msgTellsSpec)) msgTellsUptoCard

/-- THE SECOND FORM's CARD OF 'bulletinlaw35.OrderReads'. -/
def orderReadsUptoCard : Claim7 := { stood := { row := orderReadsUptoRow, standIns := [], harness := (true, "9f08366bb00d694961845927afbb847f2e28081e971a0b3d49537d08d9e28e86"), looks := false }, kinds := [], alts := [], laidByText := true, laidKinds := [.data, .pinned], laidTests := true, laidLooks := .later }
def OrderReadsUptoCardSaid : Prop := Claim7.holds Tryz.pinned (.plain (OpenSpec.upto orderReadsSpec)) orderReadsUptoCard

/-- THE SECOND FORM's CARD OF 'bulletinlaw35.OrderFew'. -/
def orderFewUptoCard : Claim7 := { stood := { row := orderFewUptoRow, standIns := [], harness := (true, "9f08366bb00d694961845927afbb847f2e28081e971a0b3d49537d08d9e28e86"), looks := false }, kinds := [], alts := [], laidByText := true, laidKinds := [.data, .pinned], laidTests := true, laidLooks := .later }
def OrderFewUptoCardSaid : Prop := Claim7.holds Tryz.pinned (.plain (OpenSpec.upto orderFewSpec)) orderFewUptoCard
end Rows
end Go.Proofs.YtihabmcaplnbcaaGreatDoor
