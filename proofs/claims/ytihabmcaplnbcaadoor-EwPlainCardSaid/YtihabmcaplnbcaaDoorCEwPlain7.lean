/- A part of the proof of this sentence: EwPlain (19.2, 19.3): what is encoded is plain, each of its words has at most 75 bytes if it is not the text itself, and encoded again it is read as it was; of at most 600 bytes. -/
import Derived.Test.YtihabmcaplnbcaaDoorRows
import Derived.Test.YtihabmcaplnbcaaDoorChecked
import Derived.JoinedOf
import Derived.ProofKit
-- the row of the law EwPlain, out of its pure statement and its walk
namespace Go.Proofs.YtihabmcaplnbcaaDoor
open Go
theorem jMake : (Tryd.prog.make == some Rows.mbxReadsRow.make) = true := by kernel_rfl
end Go.Proofs.YtihabmcaplnbcaaDoor
