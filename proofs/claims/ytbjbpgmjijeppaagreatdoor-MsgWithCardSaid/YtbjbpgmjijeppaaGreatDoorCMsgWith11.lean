/- A part of the proof of this sentence: Any message with a field put is as the document has it, and the message itself is as it was; the tables of unicode/utf8 are as the program's text lays them. -/
import Derived.Test.YtbjbpgmjijeppaaGreatDoorCMsgWith6
import Derived.Test.YtbjbpgmjijeppaaGreatDoorCMsgWith7
import Derived.Test.YtbjbpgmjijeppaaGreatDoorCMsgWith8
import Derived.Test.YtbjbpgmjijeppaaGreatDoorCMsgWith9
import Derived.Test.YtbjbpgmjijeppaaGreatDoorCMsgWith10
import Derived.Test.YtbjbpgmjijeppaaGreatDoorRows
import Derived.Test.YtbjbpgmjijeppaaGreatDoorTie
import Derived.Test.YtbjbpgmjijeppaaGreatDoorCards
import Derived.WalkKit
import Derived.ProofKit
import Derived.OpenShut
import Derived.ShutString
import Derived.ChangeOld
import Derived.Below
import Derived.SizedLaws
import Derived.Lib.SmallJoins
import Derived.SevenTiedAt
-- the row of the law MsgWith, out of its pure statement and its walk
namespace Go.Proofs.YtbjbpgmjijeppaaGreatDoor.msgWith
open Go.ChangeShapes Go.WideShapes Go.ChangeAt Go.RowKit Go.Joins
open Go.ChangeMaps (open_string shut_string)
theorem jLifts : (Rows.msgWithRow.lifted == Tryz.prog.liftsFinal) = true := Go.Proofs.YtbjbpgmjijeppaaGreatDoor.jLifts
theorem jMake : (Tryz.prog.make == some Rows.msgWithRow.make) = true := Go.Proofs.YtbjbpgmjijeppaaGreatDoor.jMake
theorem closed : joinedFacts Tryz.prog 8 Tryz.f8 Rows.msgWithSpec Rows.msgWithRow = true := by
 unfold joinedFacts
 simp only [Bool.and_eq_true]
 repeat' first
  | (with_reducible exact jMayEnter)
  | (with_reducible exact jLifts)
  | (with_reducible exact jMake)
  | (with_reducible exact jInPlace)
  | (with_reducible exact jUnfollowed)
  | (with_reducible exact jRecurses)
  | (with_reducible exact jNamed)
  | (with_reducible refine And.intro ?_ ?_)
  | kernel_rfl
theorem over : Rows.msgWithRow.holds Tryz.pinned (OpenSpec.ofChange Rows.msgWithSpec) :=
 OpenClaim.holds_of_wide 8 Tryz.f8 rfl rfl rfl rfl rfl rfl rfl ⟨rfl, rfl, rfl, rfl, rfl⟩ rfl rfl rfl rfl rfl (by kernel_rfl) Tryz.func8 closed
  (of_decide_eq_true (by kernel_rfl)) (by unfold Func.isWrapper; first | (rw [if_pos (by decide +kernel)]; kernel_rfl) | (rw [if_neg (by decide +kernel)]; exact ⟨rfl, rfl⟩))
  (fun os started H enc _ => lifted os started H enc)
theorem proved : Rows.MsgWithSaid := over
end Go.Proofs.YtbjbpgmjijeppaaGreatDoor.msgWith
