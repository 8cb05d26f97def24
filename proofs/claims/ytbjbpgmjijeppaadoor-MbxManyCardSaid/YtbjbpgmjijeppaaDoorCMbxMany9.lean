/- A part of the proof of this sentence: Of so many addresses all are told, up to a hundred; of more none are. It holds for every input. -/
import Derived.Test.YtbjbpgmjijeppaaDoorCMbxMany4
import Derived.Test.YtbjbpgmjijeppaaDoorCMbxMany5
import Derived.Test.YtbjbpgmjijeppaaDoorCMbxMany6
import Derived.Test.YtbjbpgmjijeppaaDoorCMbxMany7
import Derived.Test.YtbjbpgmjijeppaaDoorCMbxMany8
import Derived.Test.YtbjbpgmjijeppaaDoorRows
import Derived.Test.YtbjbpgmjijeppaaDoorTie
import Derived.Test.YtbjbpgmjijeppaaDoorCards
import Derived.WalkKit
import Derived.ProofKit
import Derived.OpenShut
import Derived.ShutString
import Derived.ChangeOld
import Derived.Below
import Derived.SizedLaws
import Derived.Lib.SmallJoins
import Derived.SevenTiedAt
-- the row of the law MbxMany, out of its pure statement and its walk
namespace Go.Proofs.YtbjbpgmjijeppaaDoor.mbxMany
open Go.ChangeShapes Go.WideShapes Go.ChangeAt Go.RowKit Go.Joins
open Go.ChangeMaps (open_string shut_string)
theorem jLifts : (Rows.mbxManyRow.lifted == Tryd.prog.liftsFinal) = true := Go.Proofs.YtbjbpgmjijeppaaDoor.jLifts
theorem jMake : (Tryd.prog.make == some Rows.mbxManyRow.make) = true := Go.Proofs.YtbjbpgmjijeppaaDoor.jMake
theorem closed : joinedFacts Tryd.prog 4 Tryd.f4 Rows.mbxManySpec Rows.mbxManyRow = true := by
  unfold joinedFacts
  simp only [Bool.and_eq_true]
  repeat' first
    | (with_reducible exact jMayEnter)
    | (with_reducible exact jLifts)
    | (with_reducible exact jMake)
    | (with_reducible exact jInPlace)
    | (with_reducible exact jUnfollowed)
    | (with_reducible exact jRecurses)
    | (with_reducible exact jNamed)
    | (with_reducible refine And.intro ?_ ?_)
    | kernel_rfl
theorem over : Rows.mbxManyRow.holds Tryd.pinned (OpenSpec.ofChange Rows.mbxManySpec) :=
  OpenClaim.holds_of_wide 4 Tryd.f4 rfl rfl rfl rfl rfl rfl rfl ⟨rfl, rfl, rfl, rfl, rfl⟩ rfl rfl rfl rfl rfl (by kernel_rfl) Tryd.func4 closed
    (of_decide_eq_true (by kernel_rfl)) (by unfold Func.isWrapper; first | (rw [if_pos (by decide +kernel)]; kernel_rfl) | (rw [if_neg (by decide +kernel)]; exact ⟨rfl, rfl⟩))
    (fun os started H enc _ => lifted os started H enc)
theorem proved : Rows.MbxManySaid := over
end Go.Proofs.YtbjbpgmjijeppaaDoor.mbxMany
