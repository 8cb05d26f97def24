/- A part of the proof of this sentence: The lines of a body, each with its end behind it, are the body, but for an end that may lack at its end; none of them has an end in it; the tables of unicode/utf8 are as the program's text lays them. -/
import Derived.Test.YtbjbpgmjijeppaaDoorCMsgJoins5
import Derived.Test.YtbjbpgmjijeppaaDoorCMsgJoins6
import Derived.Test.YtbjbpgmjijeppaaDoorCMsgJoins7
import Derived.Test.YtbjbpgmjijeppaaDoorCMsgJoins8
import Derived.Test.YtbjbpgmjijeppaaDoorCMsgJoins9
import Derived.Test.YtbjbpgmjijeppaaDoorRows
import Derived.Test.YtbjbpgmjijeppaaDoorTie
import Derived.Test.YtbjbpgmjijeppaaDoorCards
import Derived.WalkKit
import Derived.ProofKit
import Derived.OpenShut
import Derived.ShutString
import Derived.ChangeOld
import Derived.Below
import Derived.SizedLaws
import Derived.Lib.SmallJoins
import Derived.SevenTiedAt
-- the row of the law MsgJoins, out of its pure statement and its walk
namespace Go.Proofs.YtbjbpgmjijeppaaDoor.msgJoins
open Go.ChangeShapes Go.WideShapes Go.ChangeAt Go.RowKit Go.Joins
open Go.ChangeMaps (open_string shut_string)
theorem jLifts : (Rows.msgJoinsRow.lifted == Tryd.prog.liftsFinal) = true := Go.Proofs.YtbjbpgmjijeppaaDoor.jLifts
theorem jMake : (Tryd.prog.make == some Rows.msgJoinsRow.make) = true := Go.Proofs.YtbjbpgmjijeppaaDoor.jMake
theorem closed : joinedFacts Tryd.prog 8 Tryd.f8 Rows.msgJoinsSpec Rows.msgJoinsRow = true := by
  unfold joinedFacts
  simp only [Bool.and_eq_true]
  repeat' first
    | (with_reducible exact jMayEnter)
    | (with_reducible exact jLifts)
    | (with_reducible exact jMake)
    | (with_reducible exact jInPlace)
    | (with_reducible exact jUnfollowed)
    | (with_reducible exact jRecurses)
    | (with_reducible exact jNamed)
    | (with_reducible refine And.intro ?_ ?_)
    | kernel_rfl
theorem over : Rows.msgJoinsRow.holds Tryd.pinned (OpenSpec.ofChange Rows.msgJoinsSpec) :=
  OpenClaim.holds_of_wide 8 Tryd.f8 rfl rfl rfl rfl rfl rfl rfl ⟨rfl, rfl, rfl, rfl, rfl⟩ rfl rfl rfl rfl rfl (by kernel_rfl) Tryd.func8 closed
    (of_decide_eq_true (by kernel_rfl)) (by unfold Func.isWrapper; first | (rw [if_pos (by decide +kernel)]; kernel_rfl) | (rw [if_neg (by decide +kernel)]; exact ⟨rfl, rfl⟩))
    (fun os started H enc _ => lifted os started H enc)
theorem proved : Rows.MsgJoinsSaid := over
end Go.Proofs.YtbjbpgmjijeppaaDoor.msgJoins
