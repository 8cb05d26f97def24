/- A part of the proof of this sentence: A message of right fields is read again, as it is, of what is written of it; the tables of unicode/utf8 are as the program's text lays them. -/
import Derived.Test.YtbjbpgmjijeppaaGreatDoorRows
import Derived.Test.YtbjbpgmjijeppaaGreatDoorChecked
import Derived.JoinedOf
import Derived.ProofKit
-- the row of the law MsgBack, out of its pure statement and its walk
namespace Go.Proofs.YtbjbpgmjijeppaaGreatDoor
open Go
theorem msgBack.jInPlace : (Rows.msgBackRow.inPlace == Tryz.prog.inPlace 5) = true := by kernel_rfl
theorem msgBack.jUnfollowed : (Rows.msgBackRow.unfollowed == Tryz.prog.unfollowed 5) = true := by kernel_rfl
theorem msgBack.jRecurses : (Rows.msgBackRow.recurses == Tryz.prog.recurses 5) = true := by kernel_rfl
theorem msgBack.jNamed : (Rows.msgBackRow.named == Tryz.prog.varsNamed 5) = true := by kernel_rfl
end Go.Proofs.YtbjbpgmjijeppaaGreatDoor
