/- A part of the proof of this sentence: The law bulletinlaw28.PathShows returns true for every input: any address, shown, is as the document has it; the tables of unicode/utf8 are as the program's text lays them. -/
import Derived.Test.YtgaaogijfikfeaaDoorRows
import Derived.Test.YtgaaogijfikfeaaDoorChecked
import Derived.JoinedOf
import Derived.ProofKit
-- the row of the law PathShows, out of its pure statement and its walk
namespace Go.Proofs.YtgaaogijfikfeaaDoor
open Go
theorem pathShows.jInPlace : (Rows.pathShowsRow.inPlace == Tryd.prog.inPlace 8) = true := by kernel_rfl
theorem pathShows.jUnfollowed : (Rows.pathShowsRow.unfollowed == Tryd.prog.unfollowed 8) = true := by kernel_rfl
theorem pathShows.jRecurses : (Rows.pathShowsRow.recurses == Tryd.prog.recurses 8) = true := by kernel_rfl
theorem pathShows.jNamed : (Rows.pathShowsRow.named == Tryd.prog.varsNamed 8) = true := by kernel_rfl
end Go.Proofs.YtgaaogijfikfeaaDoor
