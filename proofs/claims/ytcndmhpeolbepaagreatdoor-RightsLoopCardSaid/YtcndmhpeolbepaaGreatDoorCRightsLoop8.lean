/- A part of the proof of this sentence: A post that bears the list's id is refused -/
import Derived.Test.YtcndmhpeolbepaaGreatDoorRows
import Derived.Test.YtcndmhpeolbepaaGreatDoorChecked
import Derived.JoinedOf
import Derived.ProofKit
-- the row of the law RightsLoop, out of its pure statement and its walk
namespace Go.Proofs.YtcndmhpeolbepaaGreatDoor
open Go
theorem jMayEnter : Tryz.prog.mayEnter = true := by kernel_rfl
end Go.Proofs.YtcndmhpeolbepaaGreatDoor
