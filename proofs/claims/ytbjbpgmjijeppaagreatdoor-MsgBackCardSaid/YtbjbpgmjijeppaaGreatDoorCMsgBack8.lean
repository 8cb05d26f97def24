/- A part of the proof of this sentence: A message of right fields is read again, as it is, of what is written of it; the tables of unicode/utf8 are as the program's text lays them. -/
import Derived.Test.YtbjbpgmjijeppaaGreatDoorRows
import Derived.Test.YtbjbpgmjijeppaaGreatDoorChecked
import Derived.JoinedOf
import Derived.ProofKit
-- the row of the law MsgBack, out of its pure statement and its walk
namespace Go.Proofs.YtbjbpgmjijeppaaGreatDoor
open Go
theorem jMayEnter : Tryz.prog.mayEnter = true := by kernel_rfl
end Go.Proofs.YtbjbpgmjijeppaaGreatDoor
