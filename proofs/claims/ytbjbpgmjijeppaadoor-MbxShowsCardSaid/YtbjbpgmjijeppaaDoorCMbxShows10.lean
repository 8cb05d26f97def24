/- A part of the proof of this sentence: How any boxes are written, and any name, are as the document has them, for every input; the tables of unicode/utf8 are as the program's text lays them. -/
import Derived.Test.YtbjbpgmjijeppaaDoorCMbxShows5
import Derived.Test.YtbjbpgmjijeppaaDoorCMbxShows6
import Derived.Test.YtbjbpgmjijeppaaDoorCMbxShows7
import Derived.Test.YtbjbpgmjijeppaaDoorCMbxShows8
import Derived.Test.YtbjbpgmjijeppaaDoorCMbxShows9
import Derived.Test.YtbjbpgmjijeppaaDoorRows
import Derived.Test.YtbjbpgmjijeppaaDoorTie
import Derived.Test.YtbjbpgmjijeppaaDoorCards
import Derived.WalkKit
import Derived.ProofKit
import Derived.OpenShut
import Derived.ShutString
import Derived.ChangeOld
import Derived.Below
import Derived.SizedLaws
import Derived.Lib.SmallJoins
import Derived.SevenTiedAt
-- the row of the law MbxShows, out of its pure statement and its walk
namespace Go.Proofs.YtbjbpgmjijeppaaDoor.mbxShows
open Go.ChangeShapes Go.WideShapes Go.ChangeAt Go.RowKit Go.Joins
open Go.ChangeMaps (open_string shut_string)
theorem jLifts : (Rows.mbxShowsRow.lifted == Tryd.prog.liftsFinal) = true := Go.Proofs.YtbjbpgmjijeppaaDoor.jLifts
theorem jMake : (Tryd.prog.make == some Rows.mbxShowsRow.make) = true := Go.Proofs.YtbjbpgmjijeppaaDoor.jMake
theorem closed : joinedFacts Tryd.prog 3 Tryd.f3 Rows.mbxShowsSpec Rows.mbxShowsRow = true := by
  unfold joinedFacts
  simp only [Bool.and_eq_true]
  repeat' first
    | (with_reducible exact jMayEnter)
    | (with_reducible exact jLifts)
    | (with_reducible exact jMake)
    | (with_reducible exact jInPlace)
    | (with_reducible exact jUnfollowed)
    | (with_reducible exact jRecurses)
    | (with_reducible exact jNamed)
    | (with_reducible refine And.intro ?_ ?_)
    | kernel_rfl
theorem over : Rows.mbxShowsRow.holds Tryd.pinned (OpenSpec.ofChange Rows.mbxShowsSpec) :=
  OpenClaim.holds_of_wide 3 Tryd.f3 rfl rfl rfl rfl rfl rfl rfl ⟨rfl, rfl, rfl, rfl, rfl⟩ rfl rfl rfl rfl rfl (by kernel_rfl) Tryd.func3 closed
    (of_decide_eq_true (by kernel_rfl)) (by unfold Func.isWrapper; first | (rw [if_pos (by decide +kernel)]; kernel_rfl) | (rw [if_neg (by decide +kernel)]; exact ⟨rfl, rfl⟩))
    (fun os started H enc _ => lifted os started H enc)
theorem proved : Rows.MbxShowsSaid := over
end Go.Proofs.YtbjbpgmjijeppaaDoor.mbxShows
