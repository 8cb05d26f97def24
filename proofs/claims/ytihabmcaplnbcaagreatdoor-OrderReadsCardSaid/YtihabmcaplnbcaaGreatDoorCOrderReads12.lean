/- A part of the proof of this sentence: OrderReads (35.5): the commands of any mail, as a member may send it, are as the document reads them; of at most 30 fields, names of at most 200, values and body of at most 3000 bytes. -/
import Derived.Test.YtihabmcaplnbcaaGreatDoorRows
import Derived.Test.YtihabmcaplnbcaaGreatDoorChecked
import Derived.JoinedOf
import Derived.ProofKit
import Derived.SevenTiedAt
-- the row of the law OrderReads, out of its pure statement and its walk
namespace Go.Proofs.YtihabmcaplnbcaaGreatDoor
open Go
theorem orderReads.jGoes : false = Rows.orderReadsRow.goesBy Tryz.prog := by kernel_rfl
end Go.Proofs.YtihabmcaplnbcaaGreatDoor
