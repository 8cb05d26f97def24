/- A part of the proof of this sentence: The lines of a body, each with its end behind it, are the body, but for an end that may lack at its end; none of them has an end in it; the tables of unicode/utf8 are as the program's text lays them. -/
import Derived.Test.YtbjbpgmjijeppaaDoorRows
import Derived.Test.YtbjbpgmjijeppaaDoorChecked
import Derived.JoinedOf
import Derived.ProofKit
import Derived.SevenTiedAt
-- the row of the law MsgJoins, out of its pure statement and its walk
namespace Go.Proofs.YtbjbpgmjijeppaaDoor
open Go
theorem msgJoins.jGoes : false = Rows.msgJoinsRow.goesBy Tryd.prog := by kernel_rfl
end Go.Proofs.YtbjbpgmjijeppaaDoor
