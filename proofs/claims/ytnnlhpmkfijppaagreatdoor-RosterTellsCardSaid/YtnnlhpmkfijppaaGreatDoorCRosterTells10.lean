/- A part of the proof of this sentence: What any member is, gets and becomes by a bounce and when it is well, a new one, and the words of modes, are as the document has them -/
import Derived.Test.YtnnlhpmkfijppaaGreatDoorRows
import Derived.Test.YtnnlhpmkfijppaaGreatDoorChecked
import Derived.JoinedOf
import Derived.ProofKit
-- the row of the law RosterTells, out of its pure statement and its walk
namespace Go.Proofs.YtnnlhpmkfijppaaGreatDoor
open Go
theorem jMake : (Tryz.prog.make == some Rows.rosterTextsRow.make) = true := by kernel_rfl
end Go.Proofs.YtnnlhpmkfijppaaGreatDoor
