/- A part of the proof of this sentence: the tables of unicode/utf8 are as the program's text lays them. -/
import Derived.Test.YtoikneogdbdplaaDoorRows
import Derived.Test.YtoikneogdbdplaaDoorChecked
import Derived.JoinedOf
import Derived.ProofKit
-- the row of the law MimeTypes, out of its pure statement and its walk
namespace Go.Proofs.YtoikneogdbdplaaDoor
open Go
theorem mimeTypes.jInPlace : (Rows.mimeTypesRow.inPlace == Tryd.prog.inPlace 5) = true := by kernel_rfl
theorem mimeTypes.jUnfollowed : (Rows.mimeTypesRow.unfollowed == Tryd.prog.unfollowed 5) = true := by kernel_rfl
theorem mimeTypes.jRecurses : (Rows.mimeTypesRow.recurses == Tryd.prog.recurses 5) = true := by kernel_rfl
theorem mimeTypes.jNamed : (Rows.mimeTypesRow.named == Tryd.prog.varsNamed 5) = true := by kernel_rfl
end Go.Proofs.YtoikneogdbdplaaDoor
