/-
  DERIVED. GIVEN WITH THE SEED: THE CARDS: each row of YtnnlhpmkfijppaaDoorRows.lean that lists a variable, with what it lists TIED to the program's text (the seventh form; the later family's looks); each row that meets fmt, with fmt's text TOLD by the authors' own Lean function (tested against real Go, not proved from fmt's source: count such statements apart). THE CARD IS WHAT COUNTS. Prove the row's statement (the work); the ties are given (YtnnlhpmkfijppaaDoorTie.lean); close each card by the builder's one call (the guide's Derived/Test/ToyasCard.lean, 'card_holds'). Laid BY PROGRAM, IN A SANDBOX (cutbox-door.mjs). By AI agents, Wed Nov 11 2026. No macro, syntax, notation, axiom, sorry.
-/
import Derived.Test.YtnnlhpmkfijppaaDoorRows
import GoSem.ClaimSeven
namespace Go.Proofs.YtnnlhpmkfijppaaDoor
namespace Rows

/-- THE TIED CARD OF 'bulletinlaw33.RosterBack'. -/
def rosterBackCard : Claim7 := { stood := { row := rosterBackRow, standIns := [], harness := (true, "32918954854957ee7607479521e4889610dbe42e915a8a5d67c51aae53a54e98"), looks := false }, kinds := [], alts := [], laidByText := true, laidKinds := [.data, .data, .data, .data, .pinned], laidTests := true, laidLooks := .later }
def RosterBackCardSaid : Prop := Claim7.holds Tryd.pinned (.plain (OpenSpec.ofChange rosterBackSpec)) rosterBackCard

/-- THE TIED CARD OF 'bulletinlaw33.RosterOnce'. -/
def rosterOnceCard : Claim7 := { stood := { row := rosterOnceRow, standIns := [], harness := (true, "32918954854957ee7607479521e4889610dbe42e915a8a5d67c51aae53a54e98"), looks := false }, kinds := [], alts := [], laidByText := true, laidKinds := [.data, .data, .data, .data, .pinned], laidTests := true, laidLooks := .later }
def RosterOnceCardSaid : Prop := Claim7.holds Tryd.pinned (.plain (OpenSpec.ofChange rosterOnceSpec)) rosterOnceCard

/-- THE SECOND FORM's CARD OF 'bulletinlaw33.RosterBack'. -/
def rosterBackUptoCard : Claim7 := { stood := { row := rosterBackUptoRow, standIns := [], harness := (true, "32918954854957ee7607479521e4889610dbe42e915a8a5d67c51aae53a54e98"), looks := false }, kinds := [], alts := [], laidByText := true, laidKinds := [.data, .data, .data, .data, .pinned], laidTests := true, laidLooks := .later }
def RosterBackUptoCardSaid : Prop := Claim7.holds Tryd.pinned (.plain (OpenSpec.upto rosterBackSpec)) rosterBackUptoCard

/-- THE SECOND FORM's CARD OF 'bulletinlaw33.RosterOnce'. -/
def rosterOnceUptoCard : Claim7 := { stood := { row := rosterOnceUptoRow, standIns := [], harness := (true, "32918954854957ee7607479521e4889610dbe42e915a8a5d67c51aae53a54e98"), looks := false }, kinds := [], alts := [], laidByText := true, laidKinds := [.data, .data, .data, .data, .pinned], laidTests := true, laidLooks := .later }
def RosterOnceUptoCardSaid : Prop := Claim7.holds Tryd.pinned (.plain (OpenSpec.upto rosterOnceSpec)) rosterOnceUptoCard
end Rows
end Go.Proofs.YtnnlhpmkfijppaaDoor
