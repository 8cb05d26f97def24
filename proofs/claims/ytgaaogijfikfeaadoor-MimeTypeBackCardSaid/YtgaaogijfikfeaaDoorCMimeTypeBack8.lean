/- A part of the proof of this sentence: the tables of unicode/utf8 are as the program's text lays them. -/
import Derived.Test.YtgaaogijfikfeaaDoorRows
import Derived.Test.YtgaaogijfikfeaaDoorChecked
import Derived.JoinedOf
import Derived.ProofKit
-- the row of the law MimeTypeBack, out of its pure statement and its walk
namespace Go.Proofs.YtgaaogijfikfeaaDoor
open Go
theorem mimeTypeBack.jInPlace : (Rows.mimeTypeBackRow.inPlace == Tryd.prog.inPlace 15) = true := by kernel_rfl
theorem mimeTypeBack.jUnfollowed : (Rows.mimeTypeBackRow.unfollowed == Tryd.prog.unfollowed 15) = true := by kernel_rfl
theorem mimeTypeBack.jRecurses : (Rows.mimeTypeBackRow.recurses == Tryd.prog.recurses 15) = true := by kernel_rfl
theorem mimeTypeBack.jNamed : (Rows.mimeTypeBackRow.named == Tryd.prog.varsNamed 15) = true := by kernel_rfl
end Go.Proofs.YtgaaogijfikfeaaDoor
