/- A part of the proof of this sentence: A right member is read again of its text, and what any text is read as is right and has just that text -/
import Derived.Test.YtnnlhpmkfijppaaDoorRows
import Derived.Test.YtnnlhpmkfijppaaDoorChecked
import Derived.JoinedOf
import Derived.ProofKit
import Derived.SevenTiedAt
-- the row of the law RosterBack, out of its pure statement and its walk
namespace Go.Proofs.YtnnlhpmkfijppaaDoor
open Go
theorem jLooks : false = Tryd.prog.looks [] := by kernel_rfl
end Go.Proofs.YtnnlhpmkfijppaaDoor
