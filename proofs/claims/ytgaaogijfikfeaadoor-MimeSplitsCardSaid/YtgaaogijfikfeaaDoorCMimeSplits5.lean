/- A part of the proof of this sentence: the tables of unicode/utf8 are as the program's text lays them. -/
import Derived.Test.YtgaaogijfikfeaaDoorRows
import Derived.Test.YtgaaogijfikfeaaDoorChecked
import Derived.JoinedOf
import Derived.ProofKit
-- the row of the law MimeSplits, out of its pure statement and its walk
namespace Go.Proofs.YtgaaogijfikfeaaDoor
open Go
theorem mimeSplits.jInPlace : (Rows.mimeSplitsRow.inPlace == Tryd.prog.inPlace 14) = true := by kernel_rfl
theorem mimeSplits.jUnfollowed : (Rows.mimeSplitsRow.unfollowed == Tryd.prog.unfollowed 14) = true := by kernel_rfl
theorem mimeSplits.jRecurses : (Rows.mimeSplitsRow.recurses == Tryd.prog.recurses 14) = true := by kernel_rfl
theorem mimeSplits.jNamed : (Rows.mimeSplitsRow.named == Tryd.prog.varsNamed 14) = true := by kernel_rfl
end Go.Proofs.YtgaaogijfikfeaaDoor
