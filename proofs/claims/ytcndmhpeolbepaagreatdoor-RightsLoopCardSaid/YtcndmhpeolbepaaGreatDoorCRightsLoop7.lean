/- A part of the proof of this sentence: A post that bears the list's id is refused -/
import Derived.Test.YtcndmhpeolbepaaGreatDoorRows
import Derived.Test.YtcndmhpeolbepaaGreatDoorChecked
import Derived.JoinedOf
import Derived.ProofKit
-- the row of the law RightsLoop, out of its pure statement and its walk
namespace Go.Proofs.YtcndmhpeolbepaaGreatDoor
open Go
theorem rightsLoop.jInPlace : (Rows.rightsLoopRow.inPlace == Tryz.prog.inPlace 5) = true := by kernel_rfl
theorem rightsLoop.jUnfollowed : (Rows.rightsLoopRow.unfollowed == Tryz.prog.unfollowed 5) = true := by kernel_rfl
theorem rightsLoop.jRecurses : (Rows.rightsLoopRow.recurses == Tryz.prog.recurses 5) = true := by kernel_rfl
theorem rightsLoop.jNamed : (Rows.rightsLoopRow.named == Tryz.prog.varsNamed 5) = true := by kernel_rfl
end Go.Proofs.YtcndmhpeolbepaaGreatDoor
