/- A part of the proof of this sentence: The message that any bytes are, or why there is none, and how it is written, are as the document has them; the tables of unicode/utf8 are as the program's text lays them. -/
import Derived.Test.YtbjbpgmjijeppaaGreatDoorRows
import Derived.Test.YtbjbpgmjijeppaaGreatDoorChecked
import Derived.JoinedOf
import Derived.ProofKit
import Derived.SevenTiedAt
-- the row of the law MsgReads, out of its pure statement and its walk
namespace Go.Proofs.YtbjbpgmjijeppaaGreatDoor
open Go
theorem msgReads.jGoes : false = Rows.msgReadsRow.goesBy Tryz.prog := by kernel_rfl
end Go.Proofs.YtbjbpgmjijeppaaGreatDoor
