/- A part of the proof of this sentence: Any message with a field put is as the document has it, and the message itself is as it was; the tables of unicode/utf8 are as the program's text lays them. -/
import Derived.Test.YtbjbpgmjijeppaaGreatDoorRows
import Derived.Test.YtbjbpgmjijeppaaGreatDoorChecked
import Derived.JoinedOf
import Derived.ProofKit
-- the row of the law MsgWith, out of its pure statement and its walk
namespace Go.Proofs.YtbjbpgmjijeppaaGreatDoor
open Go
theorem jLifts : (Rows.msgReadsRow.lifted == Tryz.prog.liftsFinal) = true := by kernel_rfl
end Go.Proofs.YtbjbpgmjijeppaaGreatDoor
