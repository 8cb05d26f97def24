/- A part of the proof of this sentence: DressOnce (36.1, 36.5): a subject with a list's tag has it, as it is read, in words, and put again it is as it was; of a list's name, a subject of at most 500 bytes. -/
import Derived.Test.YtihabmcaplnbcaaDoorRows
import Derived.Test.YtihabmcaplnbcaaDoorChecked
import Derived.JoinedOf
import Derived.ProofKit
-- the row of the law DressOnce, out of its pure statement and its walk
namespace Go.Proofs.YtihabmcaplnbcaaDoor
open Go
theorem jMake : (Tryd.prog.make == some Rows.mbxReadsRow.make) = true := by kernel_rfl
end Go.Proofs.YtihabmcaplnbcaaDoor
