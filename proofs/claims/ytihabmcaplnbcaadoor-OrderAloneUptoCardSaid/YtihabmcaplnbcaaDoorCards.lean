/-
  DERIVED. GIVEN WITH THE SEED: THE CARDS: each row of YtihabmcaplnbcaaDoorRows.lean that lists a variable, with what it lists TIED to the program's text (the seventh form; the later family's looks); each row that meets fmt, with fmt's text TOLD by the authors' own Lean function (tested against real Go, not proved from fmt's source: count such statements apart). THE CARD IS WHAT COUNTS. Prove the row's statement (the work); the ties are given (YtihabmcaplnbcaaDoorTie.lean); close each card by the builder's one call (the guide's Derived/Test/ToyasCard.lean, 'card_holds'). Laid BY PROGRAM, IN A SANDBOX (cutbox-door.mjs). By AI agents, Wed Nov 11 2026. No macro, syntax, notation, axiom, sorry.
-/
import Derived.Test.YtihabmcaplnbcaaDoorRows
import GoSem.ClaimSeven
namespace Go.Proofs.YtihabmcaplnbcaaDoor
namespace Rows

/-- THE TIED CARD OF 'bulletinlaw14.MbxReads'. -/
def mbxReadsCard : Claim7 := { stood := { row := mbxReadsRow, standIns := [], harness := (true, "fcbfcf6ef30b27b3f36e4357eb83f02c1aa4647ce823a2b4a3e30fdf09f0670a"), looks := false }, kinds := [], alts := [], laidByText := true, laidKinds := [.data, .pinned], laidTests := true, laidLooks := .later }
def MbxReadsCardSaid : Prop := Claim7.holds Tryd.pinned (.plain (OpenSpec.ofChange mbxReadsSpec)) mbxReadsCard

/-- THE TIED CARD OF 'bulletinlaw19.EwWrites'. -/
def ewWritesCard : Claim7 := { stood := { row := ewWritesRow, standIns := [], harness := (true, "fcbfcf6ef30b27b3f36e4357eb83f02c1aa4647ce823a2b4a3e30fdf09f0670a"), looks := false }, kinds := [], alts := [], laidByText := true, laidKinds := [.data, .pinned], laidTests := true, laidLooks := .later }
def EwWritesCardSaid : Prop := Claim7.holds Tryd.pinned (.plain (OpenSpec.ofChange ewWritesSpec)) ewWritesCard

/-- THE TIED CARD OF 'bulletinlaw19.EwBack'. -/
def ewBackCard : Claim7 := { stood := { row := ewBackRow, standIns := [], harness := (true, "fcbfcf6ef30b27b3f36e4357eb83f02c1aa4647ce823a2b4a3e30fdf09f0670a"), looks := false }, kinds := [], alts := [], laidByText := true, laidKinds := [.data, .pinned], laidTests := true, laidLooks := .later }
def EwBackCardSaid : Prop := Claim7.holds Tryd.pinned (.plain (OpenSpec.ofChange ewBackSpec)) ewBackCard

/-- THE TIED CARD OF 'bulletinlaw19.EwValid'. -/
def ewValidCard : Claim7 := { stood := { row := ewValidRow, standIns := [], harness := (true, "fcbfcf6ef30b27b3f36e4357eb83f02c1aa4647ce823a2b4a3e30fdf09f0670a"), looks := false }, kinds := [], alts := [], laidByText := true, laidKinds := [.data, .pinned], laidTests := true, laidLooks := .later }
def EwValidCardSaid : Prop := Claim7.holds Tryd.pinned (.plain (OpenSpec.ofChange ewValidSpec)) ewValidCard

/-- THE TIED CARD OF 'bulletinlaw19.EwPlain'. -/
def ewPlainCard : Claim7 := { stood := { row := ewPlainRow, standIns := [], harness := (true, "fcbfcf6ef30b27b3f36e4357eb83f02c1aa4647ce823a2b4a3e30fdf09f0670a"), looks := false }, kinds := [], alts := [], laidByText := true, laidKinds := [.data, .pinned], laidTests := true, laidLooks := .later }
def EwPlainCardSaid : Prop := Claim7.holds Tryd.pinned (.plain (OpenSpec.ofChange ewPlainSpec)) ewPlainCard

/-- THE TIED CARD OF 'bulletinlaw36.DressOnce'. -/
def dressOnceCard : Claim7 := { stood := { row := dressOnceRow, standIns := [], harness := (true, "fcbfcf6ef30b27b3f36e4357eb83f02c1aa4647ce823a2b4a3e30fdf09f0670a"), looks := false }, kinds := [], alts := [], laidByText := true, laidKinds := [.data, .pinned], laidTests := true, laidLooks := .later }
def DressOnceCardSaid : Prop := Claim7.holds Tryd.pinned (.plain (OpenSpec.ofChange dressOnceSpec)) dressOnceCard

/-- THE TIED CARD OF 'bulletinlaw35.OrderAlone'. -/
def orderAloneCard : Claim7 := { stood := { row := orderAloneRow, standIns := [], harness := (true, "fcbfcf6ef30b27b3f36e4357eb83f02c1aa4647ce823a2b4a3e30fdf09f0670a"), looks := false }, kinds := [], alts := [], laidByText := true, laidKinds := [.data, .pinned], laidTests := true, laidLooks := .later }
def OrderAloneCardSaid : Prop := Claim7.holds Tryd.pinned (.plain (OpenSpec.ofChange orderAloneSpec)) orderAloneCard

/-- THE SECOND FORM's CARD OF 'bulletinlaw14.MbxReads'. -/
def mbxReadsUptoCard : Claim7 := { stood := { row := mbxReadsUptoRow, standIns := [], harness := (true, "fcbfcf6ef30b27b3f36e4357eb83f02c1aa4647ce823a2b4a3e30fdf09f0670a"), looks := false }, kinds := [], alts := [], laidByText := true, laidKinds := [.data, .pinned], laidTests := true, laidLooks := .later }
def MbxReadsUptoCardSaid : Prop := Claim7.holds Tryd.pinned (.plain (OpenSpec.upto mbxReadsSpec)) mbxReadsUptoCard

/-- THE SECOND FORM's CARD OF 'bulletinlaw19.EwWrites'. -/
def ewWritesUptoCard : Claim7 := { stood := { row := ewWritesUptoRow, standIns := [], harness := (true, "fcbfcf6ef30b27b3f36e4357eb83f02c1aa4647ce823a2b4a3e30fdf09f0670a"), looks := false }, kinds := [], alts := [], laidByText := true, laidKinds := [.data, .pinned], laidTests := true, laidLooks := .later }
def EwWritesUptoCardSaid : Prop := Claim7.holds Tryd.pinned (.plain (OpenSpec.upto ewWritesSpec)) ewWritesUptoCard

/-- THE SECOND FORM's CARD OF 'bulletinlaw19.EwBack'. -/
def ewBackUptoCard : Claim7 := { stood := { row := ewBackUptoRow, standIns := [], harness := (true, "fcbfcf6ef30b27b3f36e4357eb83f02c1aa4647ce823a2b4a3e30fdf09f0670a"), looks := false }, kinds := [], alts := [], laidByText := true, laidKinds := [.data, .pinned], laidTests := true, laidLooks := .later }
def EwBackUptoCardSaid : Prop := Claim7.holds Tryd.pinned (.plain (OpenSpec.upto ewBackSpec)) ewBackUptoCard

/-- THE SECOND FORM's CARD OF 'bulletinlaw19.EwValid'. -/
def ewValidUptoCard : Claim7 := { stood := { row := ewValidUptoRow, standIns := [], harness := (true, "fcbfcf6ef30b27b3f36e4357eb83f02c1aa4647ce823a2b4a3e30fdf09f0670a"), looks := false }, kinds := [], alts := [], laidByText := true, laidKinds := [.data, .pinned], laidTests := true, laidLooks := .later }
def EwValidUptoCardSaid : Prop := Claim7.holds Tryd.pinned (.plain (OpenSpec.upto ewValidSpec)) ewValidUptoCard

/-- THE SECOND FORM's CARD OF 'bulletinlaw19.EwPlain'. -/
def ewPlainUptoCard : Claim7 := { stood := { row := ewPlainUptoRow, standIns := [], harness := (true, "fcbfcf6ef30b27b3f36e4357eb83f02c1aa4647ce823a2b4a3e30fdf09f0670a"), looks := false }, kinds := [], alts := [], laidByText := true, laidKinds := [.data, .pinned], laidTests := true, laidLooks := .later }
def EwPlainUptoCardSaid : Prop := Claim7.holds Tryd.pinned (.plain (OpenSpec.upto ewPlainSpec)) ewPlainUptoCard

/-- THE SECOND FORM's CARD OF 'bulletinlaw36.DressOnce'. -/
def dressOnceUptoCard : Claim7 := { stood := { row := dressOnceUptoRow, standIns := [], harness := (true, "fcbfcf6ef30b27b3f36e4357eb83f02c1aa4647ce823a2b4a3e30fdf09f0670a"), looks := false }, kinds := [], alts := [], laidByText := true, laidKinds := [.data, .pinned], laidTests := true, laidLooks := .later }
def DressOnceUptoCardSaid : Prop := Claim7.holds Tryd.pinned (.plain (OpenSpec.upto dressOnceSpec)) dressOnceUptoCard

/-- THE SECOND FORM's CARD OF 'bulletinlaw35.OrderAlone'. -/
def orderAloneUptoCard : Claim7 := { stood := { row := orderAloneUptoRow, standIns := [], harness := (true, "fcbfcf6ef30b27b3f36e4357eb83f02c1aa4647ce823a2b4a3e30fdf09f0670a"), looks := false }, kinds := [], alts := [], laidByText := true, laidKinds := [.data, .pinned], laidTests := true, laidLooks := .later }
def OrderAloneUptoCardSaid : Prop := Claim7.holds Tryd.pinned (.plain (OpenSpec.upto orderAloneSpec)) orderAloneUptoCard
end Rows
end Go.Proofs.YtihabmcaplnbcaaDoor
