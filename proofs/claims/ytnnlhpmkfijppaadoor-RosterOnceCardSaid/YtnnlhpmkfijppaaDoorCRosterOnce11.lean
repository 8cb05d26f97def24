/- A part of the proof of this sentence: Once a day: of a right member that is not off the score grows by as many as there are bounces on another day than the one ahead of each, and it is off as soon as that is too much -/
import Derived.Test.YtnnlhpmkfijppaaDoorRows
import Derived.Test.YtnnlhpmkfijppaaDoorChecked
import Derived.JoinedOf
import Derived.ProofKit
import Derived.SevenTiedAt
-- the row of the law RosterOnce, out of its pure statement and its walk
namespace Go.Proofs.YtnnlhpmkfijppaaDoor
open Go
theorem rosterOnce.jGoes : false = Rows.rosterOnceRow.goesBy Tryd.prog := by kernel_rfl
end Go.Proofs.YtnnlhpmkfijppaaDoor
