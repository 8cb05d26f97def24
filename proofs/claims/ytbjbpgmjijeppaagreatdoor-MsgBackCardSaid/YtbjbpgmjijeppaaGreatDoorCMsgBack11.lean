/- A part of the proof of this sentence: A message of right fields is read again, as it is, of what is written of it; the tables of unicode/utf8 are as the program's text lays them. -/
import Derived.Test.YtbjbpgmjijeppaaGreatDoorCMsgBack6
import Derived.Test.YtbjbpgmjijeppaaGreatDoorCMsgBack7
import Derived.Test.YtbjbpgmjijeppaaGreatDoorCMsgBack8
import Derived.Test.YtbjbpgmjijeppaaGreatDoorCMsgBack9
import Derived.Test.YtbjbpgmjijeppaaGreatDoorCMsgBack10
import Derived.Test.YtbjbpgmjijeppaaGreatDoorRows
import Derived.Test.YtbjbpgmjijeppaaGreatDoorTie
import Derived.Test.YtbjbpgmjijeppaaGreatDoorCards
import Derived.WalkKit
import Derived.ProofKit
import Derived.OpenShut
import Derived.ShutString
import Derived.ChangeOld
import Derived.Below
import Derived.SizedLaws
import Derived.Lib.SmallJoins
import Derived.SevenTiedAt
-- the row of the law MsgBack, out of its pure statement and its walk
namespace Go.Proofs.YtbjbpgmjijeppaaGreatDoor.msgBack
open Go.ChangeShapes Go.WideShapes Go.ChangeAt Go.RowKit Go.Joins
open Go.ChangeMaps (open_string shut_string)
theorem jLifts : (Rows.msgBackRow.lifted == Tryz.prog.liftsFinal) = true := Go.Proofs.YtbjbpgmjijeppaaGreatDoor.jLifts
theorem jMake : (Tryz.prog.make == some Rows.msgBackRow.make) = true := Go.Proofs.YtbjbpgmjijeppaaGreatDoor.jMake
theorem closed : joinedFacts Tryz.prog 5 Tryz.f5 Rows.msgBackSpec Rows.msgBackRow = true := by
  unfold joinedFacts
  simp only [Bool.and_eq_true]
  repeat' first
    | (with_reducible exact jMayEnter)
    | (with_reducible exact jLifts)
    | (with_reducible exact jMake)
    | (with_reducible exact jInPlace)
    | (with_reducible exact jUnfollowed)
    | (with_reducible exact jRecurses)
    | (with_reducible exact jNamed)
    | (with_reducible refine And.intro ?_ ?_)
    | kernel_rfl
theorem over : Rows.msgBackRow.holds Tryz.pinned (OpenSpec.ofChange Rows.msgBackSpec) :=
  OpenClaim.holds_of_wide 5 Tryz.f5 rfl rfl rfl rfl rfl rfl rfl ⟨rfl, rfl, rfl, rfl, rfl⟩ rfl rfl rfl rfl rfl (by kernel_rfl) Tryz.func5 closed
    (of_decide_eq_true (by kernel_rfl)) (by unfold Func.isWrapper; first | (rw [if_pos (by decide +kernel)]; kernel_rfl) | (rw [if_neg (by decide +kernel)]; exact ⟨rfl, rfl⟩))
    (fun os started H enc _ => lifted os started H enc)
theorem proved : Rows.MsgBackSaid := over
end Go.Proofs.YtbjbpgmjijeppaaGreatDoor.msgBack
