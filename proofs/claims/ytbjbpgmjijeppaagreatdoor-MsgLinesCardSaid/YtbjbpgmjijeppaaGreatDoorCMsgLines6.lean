/- A part of the proof of this sentence: The lines of any body are as the document has them; the tables of unicode/utf8 are as the program's text lays them. -/
import Derived.Test.YtbjbpgmjijeppaaGreatDoorRows
import Derived.Test.YtbjbpgmjijeppaaGreatDoorChecked
import Derived.JoinedOf
import Derived.ProofKit
-- the row of the law MsgLines, out of its pure statement and its walk
namespace Go.Proofs.YtbjbpgmjijeppaaGreatDoor
open Go
theorem msgLines.jInPlace : (Rows.msgLinesRow.inPlace == Tryz.prog.inPlace 4) = true := by kernel_rfl
theorem msgLines.jUnfollowed : (Rows.msgLinesRow.unfollowed == Tryz.prog.unfollowed 4) = true := by kernel_rfl
theorem msgLines.jRecurses : (Rows.msgLinesRow.recurses == Tryz.prog.recurses 4) = true := by kernel_rfl
theorem msgLines.jNamed : (Rows.msgLinesRow.named == Tryz.prog.varsNamed 4) = true := by kernel_rfl
end Go.Proofs.YtbjbpgmjijeppaaGreatDoor
