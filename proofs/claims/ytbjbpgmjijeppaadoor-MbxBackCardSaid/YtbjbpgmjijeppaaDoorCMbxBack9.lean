/- A part of the proof of this sentence: What is shown of the boxes that any bytes were read as is read as the same boxes, for every input; the tables of unicode/utf8 are as the program's text lays them. -/
import Derived.Test.YtbjbpgmjijeppaaDoorRows
import Derived.Test.YtbjbpgmjijeppaaDoorChecked
import Derived.JoinedOf
import Derived.ProofKit
-- the row of the law MbxBack, out of its pure statement and its walk
namespace Go.Proofs.YtbjbpgmjijeppaaDoor
open Go
theorem jMake : (Tryd.prog.make == some Rows.mbxShowsRow.make) = true := by kernel_rfl
end Go.Proofs.YtbjbpgmjijeppaaDoor
