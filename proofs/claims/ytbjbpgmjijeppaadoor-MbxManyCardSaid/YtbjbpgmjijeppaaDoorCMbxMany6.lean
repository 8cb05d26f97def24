/- A part of the proof of this sentence: Of so many addresses all are told, up to a hundred; of more none are. It holds for every input. -/
import Derived.Test.YtbjbpgmjijeppaaDoorRows
import Derived.Test.YtbjbpgmjijeppaaDoorChecked
import Derived.JoinedOf
import Derived.ProofKit
-- the row of the law MbxMany, out of its pure statement and its walk
namespace Go.Proofs.YtbjbpgmjijeppaaDoor
open Go
theorem jMayEnter : Tryd.prog.mayEnter = true := by kernel_rfl
end Go.Proofs.YtbjbpgmjijeppaaDoor
