/- A part of the proof of this sentence: MbxReads (14.6): the boxes of any bytes, and the one box, or why there are none, are as the document has them; of at most 2000 bytes. -/
import Derived.Test.YtihabmcaplnbcaaDoorRows
import Derived.Test.YtihabmcaplnbcaaDoorChecked
import Derived.JoinedOf
import Derived.ProofKit
-- the row of the law MbxReads, out of its pure statement and its walk
namespace Go.Proofs.YtihabmcaplnbcaaDoor
open Go
theorem mbxReads.jInPlace : (Rows.mbxReadsRow.inPlace == Tryd.prog.inPlace 3) = true := by kernel_rfl
theorem mbxReads.jUnfollowed : (Rows.mbxReadsRow.unfollowed == Tryd.prog.unfollowed 3) = true := by kernel_rfl
theorem mbxReads.jRecurses : (Rows.mbxReadsRow.recurses == Tryd.prog.recurses 3) = true := by kernel_rfl
theorem mbxReads.jNamed : (Rows.mbxReadsRow.named == Tryd.prog.varsNamed 3) = true := by kernel_rfl
end Go.Proofs.YtihabmcaplnbcaaDoor
