/- A part of the proof of this sentence: The lines of any body are as the document has them; the tables of unicode/utf8 are as the program's text lays them. -/
import Derived.Test.YtbjbpgmjijeppaaGreatDoorCMsgLines5
import Derived.Test.YtbjbpgmjijeppaaGreatDoorCMsgLines6
import Derived.Test.YtbjbpgmjijeppaaGreatDoorCMsgLines7
import Derived.Test.YtbjbpgmjijeppaaGreatDoorCMsgLines8
import Derived.Test.YtbjbpgmjijeppaaGreatDoorCMsgLines9
import Derived.Test.YtbjbpgmjijeppaaGreatDoorRows
import Derived.Test.YtbjbpgmjijeppaaGreatDoorTie
import Derived.Test.YtbjbpgmjijeppaaGreatDoorCards
import Derived.WalkKit
import Derived.ProofKit
import Derived.OpenShut
import Derived.ShutString
import Derived.ChangeOld
import Derived.Below
import Derived.SizedLaws
import Derived.Lib.SmallJoins
import Derived.SevenTiedAt
-- the row of the law MsgLines, out of its pure statement and its walk
namespace Go.Proofs.YtbjbpgmjijeppaaGreatDoor.msgLines
open Go.ChangeShapes Go.WideShapes Go.ChangeAt Go.RowKit Go.Joins
open Go.ChangeMaps (open_string shut_string)
theorem jLifts : (Rows.msgLinesRow.lifted == Tryz.prog.liftsFinal) = true := Go.Proofs.YtbjbpgmjijeppaaGreatDoor.jLifts
theorem jMake : (Tryz.prog.make == some Rows.msgLinesRow.make) = true := Go.Proofs.YtbjbpgmjijeppaaGreatDoor.jMake
theorem closed : joinedFacts Tryz.prog 4 Tryz.f4 Rows.msgLinesSpec Rows.msgLinesRow = true := by
  unfold joinedFacts
  simp only [Bool.and_eq_true]
  repeat' first
    | (with_reducible exact jMayEnter)
    | (with_reducible exact jLifts)
    | (with_reducible exact jMake)
    | (with_reducible exact jInPlace)
    | (with_reducible exact jUnfollowed)
    | (with_reducible exact jRecurses)
    | (with_reducible exact jNamed)
    | (with_reducible refine And.intro ?_ ?_)
    | kernel_rfl
theorem over : Rows.msgLinesRow.holds Tryz.pinned (OpenSpec.ofChange Rows.msgLinesSpec) :=
  OpenClaim.holds_of_wide 4 Tryz.f4 rfl rfl rfl rfl rfl rfl rfl ⟨rfl, rfl, rfl, rfl, rfl⟩ rfl rfl rfl rfl rfl (by kernel_rfl) Tryz.func4 closed
    (of_decide_eq_true (by kernel_rfl)) (by unfold Func.isWrapper; first | (rw [if_pos (by decide +kernel)]; kernel_rfl) | (rw [if_neg (by decide +kernel)]; exact ⟨rfl, rfl⟩))
    (fun os started H enc _ => lifted os started H enc)
theorem proved : Rows.MsgLinesSaid := over
end Go.Proofs.YtbjbpgmjijeppaaGreatDoor.msgLines
