/- A part of the proof of this sentence: The message that any bytes are, or why there is none, and how it is written, are as the document has them; the tables of unicode/utf8 are as the program's text lays them. -/
import Derived.Test.YtbjbpgmjijeppaaGreatDoorCMsgReads6
import Derived.Test.YtbjbpgmjijeppaaGreatDoorCMsgReads7
import Derived.Test.YtbjbpgmjijeppaaGreatDoorCMsgReads8
import Derived.Test.YtbjbpgmjijeppaaGreatDoorCMsgReads9
import Derived.Test.YtbjbpgmjijeppaaGreatDoorCMsgReads10
import Derived.Test.YtbjbpgmjijeppaaGreatDoorRows
import Derived.Test.YtbjbpgmjijeppaaGreatDoorTie
import Derived.Test.YtbjbpgmjijeppaaGreatDoorCards
import Derived.WalkKit
import Derived.ProofKit
import Derived.OpenShut
import Derived.ShutString
import Derived.ChangeOld
import Derived.Below
import Derived.SizedLaws
import Derived.Lib.SmallJoins
import Derived.SevenTiedAt
-- the row of the law MsgReads, out of its pure statement and its walk
namespace Go.Proofs.YtbjbpgmjijeppaaGreatDoor.msgReads
open Go.ChangeShapes Go.WideShapes Go.ChangeAt Go.RowKit Go.Joins
open Go.ChangeMaps (open_string shut_string)
theorem jLifts : (Rows.msgReadsRow.lifted == Tryz.prog.liftsFinal) = true := Go.Proofs.YtbjbpgmjijeppaaGreatDoor.jLifts
theorem jMake : (Tryz.prog.make == some Rows.msgReadsRow.make) = true := Go.Proofs.YtbjbpgmjijeppaaGreatDoor.jMake
theorem closed : joinedFacts Tryz.prog 3 Tryz.f3 Rows.msgReadsSpec Rows.msgReadsRow = true := by
 unfold joinedFacts
 simp only [Bool.and_eq_true]
 repeat' first
  | (with_reducible exact jMayEnter)
  | (with_reducible exact jLifts)
  | (with_reducible exact jMake)
  | (with_reducible exact jInPlace)
  | (with_reducible exact jUnfollowed)
  | (with_reducible exact jRecurses)
  | (with_reducible exact jNamed)
  | (with_reducible refine And.intro ?_ ?_)
  | kernel_rfl
theorem over : Rows.msgReadsRow.holds Tryz.pinned (OpenSpec.ofChange Rows.msgReadsSpec) :=
 OpenClaim.holds_of_wide 3 Tryz.f3 rfl rfl rfl rfl rfl rfl rfl ⟨rfl, rfl, rfl, rfl, rfl⟩ rfl rfl rfl rfl rfl (by kernel_rfl) Tryz.func3 closed
  (of_decide_eq_true (by kernel_rfl)) (by unfold Func.isWrapper; first | (rw [if_pos (by decide +kernel)]; kernel_rfl) | (rw [if_neg (by decide +kernel)]; exact ⟨rfl, rfl⟩))
  (fun os started H enc _ => lifted os started H enc)
theorem proved : Rows.MsgReadsSaid := over
end Go.Proofs.YtbjbpgmjijeppaaGreatDoor.msgReads
