/- A part of the proof of this sentence: A message of so many bytes is taken just if it has at most 65536; the tables of unicode/utf8 are as the program's text lays them. -/
import Derived.Test.YtbjbpgmjijeppaaGreatDoorCMsgLong5
import Derived.Test.YtbjbpgmjijeppaaGreatDoorCMsgLong6
import Derived.Test.YtbjbpgmjijeppaaGreatDoorCMsgLong7
import Derived.Test.YtbjbpgmjijeppaaGreatDoorCMsgLong8
import Derived.Test.YtbjbpgmjijeppaaGreatDoorCMsgLong9
import Derived.Test.YtbjbpgmjijeppaaGreatDoorRows
import Derived.Test.YtbjbpgmjijeppaaGreatDoorTie
import Derived.Test.YtbjbpgmjijeppaaGreatDoorCards
import Derived.WalkKit
import Derived.ProofKit
import Derived.OpenShut
import Derived.ShutString
import Derived.ChangeOld
import Derived.Below
import Derived.SizedLaws
import Derived.Lib.SmallJoins
import Derived.SevenTiedAt
-- the row of the law MsgLong, out of its pure statement and its walk
namespace Go.Proofs.YtbjbpgmjijeppaaGreatDoor.msgLong
open Go.ChangeShapes Go.WideShapes Go.ChangeAt Go.RowKit Go.Joins
open Go.ChangeMaps (open_string shut_string)
theorem jLifts : (Rows.msgLongRow.lifted == Tryz.prog.liftsFinal) = true := Go.Proofs.YtbjbpgmjijeppaaGreatDoor.jLifts
theorem jMake : (Tryz.prog.make == some Rows.msgLongRow.make) = true := Go.Proofs.YtbjbpgmjijeppaaGreatDoor.jMake
theorem closed : joinedFacts Tryz.prog 6 Tryz.f6 Rows.msgLongSpec Rows.msgLongRow = true := by
  unfold joinedFacts
  simp only [Bool.and_eq_true]
  repeat' first
    | (with_reducible exact jMayEnter)
    | (with_reducible exact jLifts)
    | (with_reducible exact jMake)
    | (with_reducible exact jInPlace)
    | (with_reducible exact jUnfollowed)
    | (with_reducible exact jRecurses)
    | (with_reducible exact jNamed)
    | (with_reducible refine And.intro ?_ ?_)
    | kernel_rfl
theorem over : Rows.msgLongRow.holds Tryz.pinned (OpenSpec.ofChange Rows.msgLongSpec) :=
  OpenClaim.holds_of_wide 6 Tryz.f6 rfl rfl rfl rfl rfl rfl rfl ⟨rfl, rfl, rfl, rfl, rfl⟩ rfl rfl rfl rfl rfl (by kernel_rfl) Tryz.func6 closed
    (of_decide_eq_true (by kernel_rfl)) (by unfold Func.isWrapper; first | (rw [if_pos (by decide +kernel)]; kernel_rfl) | (rw [if_neg (by decide +kernel)]; exact ⟨rfl, rfl⟩))
    (fun os started H enc _ => lifted os started H enc)
theorem proved : Rows.MsgLongSaid := over
end Go.Proofs.YtbjbpgmjijeppaaGreatDoor.msgLong
