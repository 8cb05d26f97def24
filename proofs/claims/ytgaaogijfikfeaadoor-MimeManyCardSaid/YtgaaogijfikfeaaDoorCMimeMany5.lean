/- A part of the proof of this sentence: the tables of unicode/utf8 are as the program's text lays them. -/
import Derived.Test.YtgaaogijfikfeaaDoorRows
import Derived.Test.YtgaaogijfikfeaaDoorChecked
import Derived.JoinedOf
import Derived.ProofKit
-- the row of the law MimeMany, out of its pure statement and its walk
namespace Go.Proofs.YtgaaogijfikfeaaDoor
open Go
theorem mimeMany.jInPlace : (Rows.mimeManyRow.inPlace == Tryd.prog.inPlace 16) = true := by kernel_rfl
theorem mimeMany.jUnfollowed : (Rows.mimeManyRow.unfollowed == Tryd.prog.unfollowed 16) = true := by kernel_rfl
theorem mimeMany.jRecurses : (Rows.mimeManyRow.recurses == Tryd.prog.recurses 16) = true := by kernel_rfl
theorem mimeMany.jNamed : (Rows.mimeManyRow.named == Tryd.prog.varsNamed 16) = true := by kernel_rfl
end Go.Proofs.YtgaaogijfikfeaaDoor
