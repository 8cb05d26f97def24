/- A part of the proof of this sentence: DressCopies (36.3): any post, as a member gets it, by any token, is as the document has it, and the post itself is as it was; of at most 30 fields, names of at most 200, values and body of at most 3000 bytes. -/
import Derived.Test.YtihabmcaplnbcaaGreatDoorRows
import Derived.Test.YtihabmcaplnbcaaGreatDoorChecked
import Derived.JoinedOf
import Derived.ProofKit
-- the row of the law DressCopies, out of its pure statement and its walk
namespace Go.Proofs.YtihabmcaplnbcaaGreatDoor
open Go
theorem dressCopies.jInPlace : (Rows.dressCopiesRow.inPlace == Tryz.prog.inPlace 3) = true := by kernel_rfl
theorem dressCopies.jUnfollowed : (Rows.dressCopiesRow.unfollowed == Tryz.prog.unfollowed 3) = true := by kernel_rfl
theorem dressCopies.jRecurses : (Rows.dressCopiesRow.recurses == Tryz.prog.recurses 3) = true := by kernel_rfl
theorem dressCopies.jNamed : (Rows.dressCopiesRow.named == Tryz.prog.varsNamed 3) = true := by kernel_rfl
end Go.Proofs.YtihabmcaplnbcaaGreatDoor
