/- A part of the proof of this sentence: EwBack (19.3): whatever text is encoded is decoded as it was, a bad sign as FFFD; of at most 600 bytes. -/
import Derived.Test.YtihabmcaplnbcaaDoorRows
import Derived.Test.YtihabmcaplnbcaaDoorChecked
import Derived.JoinedOf
import Derived.ProofKit
-- the row of the law EwBack, out of its pure statement and its walk
namespace Go.Proofs.YtihabmcaplnbcaaDoor
open Go
theorem ewBack.jInPlace : (Rows.ewBackRow.inPlace == Tryd.prog.inPlace 5) = true := by kernel_rfl
theorem ewBack.jUnfollowed : (Rows.ewBackRow.unfollowed == Tryd.prog.unfollowed 5) = true := by kernel_rfl
theorem ewBack.jRecurses : (Rows.ewBackRow.recurses == Tryd.prog.recurses 5) = true := by kernel_rfl
theorem ewBack.jNamed : (Rows.ewBackRow.named == Tryd.prog.varsNamed 5) = true := by kernel_rfl
end Go.Proofs.YtihabmcaplnbcaaDoor
