/- A part of the proof of this sentence: The law bulletinlaw28.PathTo returns true for every input: whom any argument says that a mail goes to is right, and it is who it says that one comes from, but for postmaster; the tables of unicode/utf8 are as the program's text lays them. -/
import Derived.Test.YtgaaogijfikfeaaDoorRows
import Derived.Test.YtgaaogijfikfeaaDoorChecked
import Derived.JoinedOf
import Derived.ProofKit
-- the row of the law PathTo, out of its pure statement and its walk
namespace Go.Proofs.YtgaaogijfikfeaaDoor
open Go
theorem pathTo.jInPlace : (Rows.pathToRow.inPlace == Tryd.prog.inPlace 11) = true := by kernel_rfl
theorem pathTo.jUnfollowed : (Rows.pathToRow.unfollowed == Tryd.prog.unfollowed 11) = true := by kernel_rfl
theorem pathTo.jRecurses : (Rows.pathToRow.recurses == Tryd.prog.recurses 11) = true := by kernel_rfl
theorem pathTo.jNamed : (Rows.pathToRow.named == Tryd.prog.varsNamed 11) = true := by kernel_rfl
end Go.Proofs.YtgaaogijfikfeaaDoor
