/- A part of the proof of this sentence: EwWrites (19.2): any bytes, encoded, are as the document has them; of at most 600 bytes. -/
import Derived.Test.YtihabmcaplnbcaaDoorRows
import Derived.Test.YtihabmcaplnbcaaDoorChecked
import Derived.JoinedOf
import Derived.ProofKit
-- the row of the law EwWrites, out of its pure statement and its walk
namespace Go.Proofs.YtihabmcaplnbcaaDoor
open Go
theorem ewWrites.jInPlace : (Rows.ewWritesRow.inPlace == Tryd.prog.inPlace 4) = true := by kernel_rfl
theorem ewWrites.jUnfollowed : (Rows.ewWritesRow.unfollowed == Tryd.prog.unfollowed 4) = true := by kernel_rfl
theorem ewWrites.jRecurses : (Rows.ewWritesRow.recurses == Tryd.prog.recurses 4) = true := by kernel_rfl
theorem ewWrites.jNamed : (Rows.ewWritesRow.named == Tryd.prog.varsNamed 4) = true := by kernel_rfl
end Go.Proofs.YtihabmcaplnbcaaDoor
