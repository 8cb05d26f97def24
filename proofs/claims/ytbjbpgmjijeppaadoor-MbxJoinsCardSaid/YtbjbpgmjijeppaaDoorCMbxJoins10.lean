/- A part of the proof of this sentence: Two lists of boxes, each of which is read, are read with a comma between them as the boxes of the first and then those of the second, for every input; the tables of unicode/utf8 are as the program's text lays them. -/
import Derived.Test.YtbjbpgmjijeppaaDoorRows
import Derived.Test.YtbjbpgmjijeppaaDoorChecked
import Derived.JoinedOf
import Derived.ProofKit
import Derived.SevenTiedAt
-- the row of the law MbxJoins, out of its pure statement and its walk
namespace Go.Proofs.YtbjbpgmjijeppaaDoor
open Go
theorem mbxJoins.jGoes : false = Rows.mbxJoinsRow.goesBy Tryd.prog := by kernel_rfl
end Go.Proofs.YtbjbpgmjijeppaaDoor
