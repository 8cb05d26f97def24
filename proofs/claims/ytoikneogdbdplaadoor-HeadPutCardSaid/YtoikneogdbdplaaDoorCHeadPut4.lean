/- A part of the proof of this sentence: the tables of unicode/utf8 are as the program's text lays them. -/
import Derived.Test.YtoikneogdbdplaaDoorRows
import Derived.Test.YtoikneogdbdplaaDoorChecked
import Derived.JoinedOf
import Derived.ProofKit
-- the row of the law HeadPut, out of its pure statement and its walk
namespace Go.Proofs.YtoikneogdbdplaaDoor
open Go
theorem headPut.jInPlace : (Rows.headPutRow.inPlace == Tryd.prog.inPlace 3) = true := by kernel_rfl
theorem headPut.jUnfollowed : (Rows.headPutRow.unfollowed == Tryd.prog.unfollowed 3) = true := by kernel_rfl
theorem headPut.jRecurses : (Rows.headPutRow.recurses == Tryd.prog.recurses 3) = true := by kernel_rfl
theorem headPut.jNamed : (Rows.headPutRow.named == Tryd.prog.varsNamed 3) = true := by kernel_rfl
end Go.Proofs.YtoikneogdbdplaaDoor
