/- A part of the proof of this sentence: OrderAlone (35.7): a mail without a subject whose body is one line with an end has just the command of this line, if it has words, the first of which does not begin with >, and does not stop; of a line of at most 500 bytes without CR and LF. -/
import Derived.Test.YtihabmcaplnbcaaDoorRows
import Derived.Test.YtihabmcaplnbcaaDoorChecked
import Derived.JoinedOf
import Derived.ProofKit
-- the row of the law OrderAlone, out of its pure statement and its walk
namespace Go.Proofs.YtihabmcaplnbcaaDoor
open Go
theorem jMake : (Tryd.prog.make == some Rows.mbxReadsRow.make) = true := by kernel_rfl
end Go.Proofs.YtihabmcaplnbcaaDoor
