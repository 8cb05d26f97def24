/- A part of the proof of this sentence: Two lists of boxes, each of which is read, are read with a comma between them as the boxes of the first and then those of the second, for every input; the tables of unicode/utf8 are as the program's text lays them. -/
import Derived.Test.YtbjbpgmjijeppaaDoorCMbxJoins4
import Derived.Test.YtbjbpgmjijeppaaDoorCMbxJoins5
import Derived.Test.YtbjbpgmjijeppaaDoorCMbxJoins6
import Derived.Test.YtbjbpgmjijeppaaDoorCMbxJoins7
import Derived.Test.YtbjbpgmjijeppaaDoorCMbxJoins8
import Derived.Test.YtbjbpgmjijeppaaDoorRows
import Derived.Test.YtbjbpgmjijeppaaDoorTie
import Derived.Test.YtbjbpgmjijeppaaDoorCards
import Derived.WalkKit
import Derived.ProofKit
import Derived.OpenShut
import Derived.ShutString
import Derived.ChangeOld
import Derived.Below
import Derived.SizedLaws
import Derived.Lib.SmallJoins
import Derived.SevenTiedAt
-- the row of the law MbxJoins, out of its pure statement and its walk
namespace Go.Proofs.YtbjbpgmjijeppaaDoor.mbxJoins
open Go.ChangeShapes Go.WideShapes Go.ChangeAt Go.RowKit Go.Joins
open Go.ChangeMaps (open_string shut_string)
theorem jLifts : (Rows.mbxJoinsRow.lifted == Tryd.prog.liftsFinal) = true := Go.Proofs.YtbjbpgmjijeppaaDoor.jLifts
theorem jMake : (Tryd.prog.make == some Rows.mbxJoinsRow.make) = true := Go.Proofs.YtbjbpgmjijeppaaDoor.jMake
theorem closed : joinedFacts Tryd.prog 5 Tryd.f5 Rows.mbxJoinsSpec Rows.mbxJoinsRow = true := by
  unfold joinedFacts
  simp only [Bool.and_eq_true]
  repeat' first
    | (with_reducible exact jMayEnter)
    | (with_reducible exact jLifts)
    | (with_reducible exact jMake)
    | (with_reducible exact jInPlace)
    | (with_reducible exact jUnfollowed)
    | (with_reducible exact jRecurses)
    | (with_reducible exact jNamed)
    | (with_reducible refine And.intro ?_ ?_)
    | kernel_rfl
theorem over : Rows.mbxJoinsRow.holds Tryd.pinned (OpenSpec.ofChange Rows.mbxJoinsSpec) :=
  OpenClaim.holds_of_wide 5 Tryd.f5 rfl rfl rfl rfl rfl rfl rfl ⟨rfl, rfl, rfl, rfl, rfl⟩ rfl rfl rfl rfl rfl (by kernel_rfl) Tryd.func5 closed
    (of_decide_eq_true (by kernel_rfl)) (by unfold Func.isWrapper; first | (rw [if_pos (by decide +kernel)]; kernel_rfl) | (rw [if_neg (by decide +kernel)]; exact ⟨rfl, rfl⟩))
    (fun os started H enc _ => lifted os started H enc)
theorem proved : Rows.MbxJoinsSaid := over
end Go.Proofs.YtbjbpgmjijeppaaDoor.mbxJoins
