/- A part of the proof of this sentence: A right member is read again of its text, and what any text is read as is right and has just that text -/
import Derived.Test.YtnnlhpmkfijppaaDoorRows
import Derived.Test.YtnnlhpmkfijppaaDoorChecked
import Derived.JoinedOf
import Derived.ProofKit
-- the row of the law RosterBack, out of its pure statement and its walk
namespace Go.Proofs.YtnnlhpmkfijppaaDoor
open Go
theorem rosterBack.jInPlace : (Rows.rosterBackRow.inPlace == Tryd.prog.inPlace 3) = true := by kernel_rfl
theorem rosterBack.jUnfollowed : (Rows.rosterBackRow.unfollowed == Tryd.prog.unfollowed 3) = true := by kernel_rfl
theorem rosterBack.jRecurses : (Rows.rosterBackRow.recurses == Tryd.prog.recurses 3) = true := by kernel_rfl
theorem rosterBack.jNamed : (Rows.rosterBackRow.named == Tryd.prog.varsNamed 3) = true := by kernel_rfl
end Go.Proofs.YtnnlhpmkfijppaaDoor
