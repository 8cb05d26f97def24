/- A part of the proof of this sentence: How any boxes are written, and any name, are as the document has them, for every input; the tables of unicode/utf8 are as the program's text lays them. -/
import Derived.Test.YtbjbpgmjijeppaaDoorRows
import Derived.Test.YtbjbpgmjijeppaaDoorChecked
import Derived.JoinedOf
import Derived.ProofKit
-- the row of the law MbxShows, out of its pure statement and its walk
namespace Go.Proofs.YtbjbpgmjijeppaaDoor
open Go
theorem jMayEnter : Tryd.prog.mayEnter = true := by kernel_rfl
end Go.Proofs.YtbjbpgmjijeppaaDoor
