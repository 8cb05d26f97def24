/- A part of the proof of this sentence: What is shown of the boxes that any bytes were read as is read as the same boxes, for every input; the tables of unicode/utf8 are as the program's text lays them. -/
import Derived.Test.YtbjbpgmjijeppaaDoorRows
import Derived.Test.YtbjbpgmjijeppaaDoorChecked
import Derived.JoinedOf
import Derived.ProofKit
-- the row of the law MbxBack, out of its pure statement and its walk
namespace Go.Proofs.YtbjbpgmjijeppaaDoor
open Go
theorem mbxBack.jInPlace : (Rows.mbxBackRow.inPlace == Tryd.prog.inPlace 7) = true := by kernel_rfl
theorem mbxBack.jUnfollowed : (Rows.mbxBackRow.unfollowed == Tryd.prog.unfollowed 7) = true := by kernel_rfl
theorem mbxBack.jRecurses : (Rows.mbxBackRow.recurses == Tryd.prog.recurses 7) = true := by kernel_rfl
theorem mbxBack.jNamed : (Rows.mbxBackRow.named == Tryd.prog.varsNamed 7) = true := by kernel_rfl
end Go.Proofs.YtbjbpgmjijeppaaDoor
