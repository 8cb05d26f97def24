/- A part of the proof of this sentence: EwValid (19.3): what is decoded of a valid text is valid, and a text without the mark of an encoded word is decoded as it is; of at most 600 bytes. -/
import Derived.Test.YtihabmcaplnbcaaDoorRows
import Derived.Test.YtihabmcaplnbcaaDoorChecked
import Derived.JoinedOf
import Derived.ProofKit
-- the row of the law EwValid, out of its pure statement and its walk
namespace Go.Proofs.YtihabmcaplnbcaaDoor
open Go
theorem ewValid.jInPlace : (Rows.ewValidRow.inPlace == Tryd.prog.inPlace 6) = true := by kernel_rfl
theorem ewValid.jUnfollowed : (Rows.ewValidRow.unfollowed == Tryd.prog.unfollowed 6) = true := by kernel_rfl
theorem ewValid.jRecurses : (Rows.ewValidRow.recurses == Tryd.prog.recurses 6) = true := by kernel_rfl
theorem ewValid.jNamed : (Rows.ewValidRow.named == Tryd.prog.varsNamed 6) = true := by kernel_rfl
end Go.Proofs.YtihabmcaplnbcaaDoor
