/- A part of the proof of this sentence: the tables of unicode/utf8 are as the program's text lays them. -/
import Derived.Test.YtoikneogdbdplaaDoorRows
import Derived.Test.YtoikneogdbdplaaDoorChecked
import Derived.JoinedOf
import Derived.ProofKit
-- the row of the law MimeBack, out of its pure statement and its walk
namespace Go.Proofs.YtoikneogdbdplaaDoor
open Go
theorem mimeBack.jInPlace : (Rows.mimeBackRow.inPlace == Tryd.prog.inPlace 6) = true := by kernel_rfl
theorem mimeBack.jUnfollowed : (Rows.mimeBackRow.unfollowed == Tryd.prog.unfollowed 6) = true := by kernel_rfl
theorem mimeBack.jRecurses : (Rows.mimeBackRow.recurses == Tryd.prog.recurses 6) = true := by kernel_rfl
theorem mimeBack.jNamed : (Rows.mimeBackRow.named == Tryd.prog.varsNamed 6) = true := by kernel_rfl
end Go.Proofs.YtoikneogdbdplaaDoor
