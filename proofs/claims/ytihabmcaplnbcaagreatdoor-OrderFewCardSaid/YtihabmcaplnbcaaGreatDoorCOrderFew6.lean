/- A part of the proof of this sentence: OrderFew (35.2): no mail has more than eight commands, nor more than three that are Unknown, and if it has three, the third of these is the last one; of at most 30 fields, names of at most 200, values and body of at most 3000 bytes. -/
import Derived.Test.YtihabmcaplnbcaaGreatDoorRows
import Derived.Test.YtihabmcaplnbcaaGreatDoorChecked
import Derived.JoinedOf
import Derived.ProofKit
-- the row of the law OrderFew, out of its pure statement and its walk
namespace Go.Proofs.YtihabmcaplnbcaaGreatDoor
open Go
theorem jMayEnter : Tryz.prog.mayEnter = true := by kernel_rfl
end Go.Proofs.YtihabmcaplnbcaaGreatDoor
