/- A part of the proof of this sentence: the tables of unicode/utf8 are as the program's text lays them. -/
import Derived.Test.YtoikneogdbdplaaDoorRows
import Derived.Test.YtoikneogdbdplaaDoorChecked
import Derived.JoinedOf
import Derived.ProofKit
-- the row of the law HeadSets, out of its pure statement and its walk
namespace Go.Proofs.YtoikneogdbdplaaDoor
open Go
theorem headSets.jInPlace : (Rows.headSetsRow.inPlace == Tryd.prog.inPlace 4) = true := by kernel_rfl
theorem headSets.jUnfollowed : (Rows.headSetsRow.unfollowed == Tryd.prog.unfollowed 4) = true := by kernel_rfl
theorem headSets.jRecurses : (Rows.headSetsRow.recurses == Tryd.prog.recurses 4) = true := by kernel_rfl
theorem headSets.jNamed : (Rows.headSetsRow.named == Tryd.prog.varsNamed 4) = true := by kernel_rfl
end Go.Proofs.YtoikneogdbdplaaDoor
