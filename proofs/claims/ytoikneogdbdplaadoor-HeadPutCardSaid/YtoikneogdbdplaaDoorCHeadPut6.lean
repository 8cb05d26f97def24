/- A part of the proof of this sentence: the tables of unicode/utf8 are as the program's text lays them. -/
import Derived.Test.YtoikneogdbdplaaDoorRows
import Derived.Test.YtoikneogdbdplaaDoorChecked
import Derived.JoinedOf
import Derived.ProofKit
-- the row of the law HeadSets, out of its pure statement and its walk
namespace Go.Proofs.YtoikneogdbdplaaDoor
open Go
theorem jLifts : (Rows.headPutRow.lifted == Tryd.prog.liftsFinal) = true := by kernel_rfl
end Go.Proofs.YtoikneogdbdplaaDoor
