/- A part of the proof of this sentence: EwWrites (19.2): any bytes, encoded, are as the document has them; of at most 600 bytes. -/
import Derived.Test.YtihabmcaplnbcaaDoorRows
import Derived.Test.YtihabmcaplnbcaaDoorChecked
import Derived.JoinedOf
import Derived.ProofKit
-- the row of the law EwWrites, out of its pure statement and its walk
namespace Go.Proofs.YtihabmcaplnbcaaDoor
open Go
theorem jLifts : (Rows.mbxReadsRow.lifted == Tryd.prog.liftsFinal) = true := by kernel_rfl
end Go.Proofs.YtihabmcaplnbcaaDoor
