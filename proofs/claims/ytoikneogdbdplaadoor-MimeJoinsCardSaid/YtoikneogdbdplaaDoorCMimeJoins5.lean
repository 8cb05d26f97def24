/- A part of the proof of this sentence: the tables of unicode/utf8, of math/bits and of internal/strconv are as the program's text lays them. -/
import Derived.Test.YtoikneogdbdplaaDoorRows
import Derived.Test.YtoikneogdbdplaaDoorChecked
import Derived.JoinedOf
import Derived.ProofKit
-- the row of the law MimeJoins, out of its pure statement and its walk
namespace Go.Proofs.YtoikneogdbdplaaDoor
open Go
theorem mimeJoins.jInPlace : (Rows.mimeJoinsRow.inPlace == Tryd.prog.inPlace 9) = true := by kernel_rfl
theorem mimeJoins.jUnfollowed : (Rows.mimeJoinsRow.unfollowed == Tryd.prog.unfollowed 9) = true := by kernel_rfl
theorem mimeJoins.jRecurses : (Rows.mimeJoinsRow.recurses == Tryd.prog.recurses 9) = true := by kernel_rfl
theorem mimeJoins.jNamed : (Rows.mimeJoinsRow.named == Tryd.prog.varsNamed 9) = true := by kernel_rfl
end Go.Proofs.YtoikneogdbdplaaDoor
