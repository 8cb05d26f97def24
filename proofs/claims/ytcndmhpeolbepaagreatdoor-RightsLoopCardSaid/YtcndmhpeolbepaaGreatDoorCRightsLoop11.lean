/- A part of the proof of this sentence: A post that bears the list's id is refused -/
import Derived.Test.YtcndmhpeolbepaaGreatDoorCRightsLoop6
import Derived.Test.YtcndmhpeolbepaaGreatDoorCRightsLoop7
import Derived.Test.YtcndmhpeolbepaaGreatDoorCRightsLoop8
import Derived.Test.YtcndmhpeolbepaaGreatDoorCRightsLoop9
import Derived.Test.YtcndmhpeolbepaaGreatDoorCRightsLoop10
import Derived.Test.YtcndmhpeolbepaaGreatDoorRows
import Derived.Test.YtcndmhpeolbepaaGreatDoorTie
import Derived.Test.YtcndmhpeolbepaaGreatDoorCards
import Derived.WalkKit
import Derived.ProofKit
import Derived.OpenShut
import Derived.ShutString
import Derived.ChangeOld
import Derived.Below
import Derived.SizedLaws
import Derived.Lib.SmallJoins
import Derived.SevenTiedAt
-- the row of the law RightsLoop, out of its pure statement and its walk
namespace Go.Proofs.YtcndmhpeolbepaaGreatDoor.rightsLoop
open Go.ChangeShapes Go.WideShapes Go.ChangeAt Go.RowKit Go.Joins
open Go.ChangeMaps (open_string shut_string)
theorem jLifts : (Rows.rightsLoopRow.lifted == Tryz.prog.liftsFinal) = true := Go.Proofs.YtcndmhpeolbepaaGreatDoor.jLifts
theorem jMake : (Tryz.prog.make == some Rows.rightsLoopRow.make) = true := Go.Proofs.YtcndmhpeolbepaaGreatDoor.jMake
theorem closed : joinedFacts Tryz.prog 5 Tryz.f5 Rows.rightsLoopSpec Rows.rightsLoopRow = true := by
 unfold joinedFacts
 simp only [Bool.and_eq_true]
 repeat' first
  | (with_reducible exact jMayEnter)
  | (with_reducible exact jLifts)
  | (with_reducible exact jMake)
  | (with_reducible exact jInPlace)
  | (with_reducible exact jUnfollowed)
  | (with_reducible exact jRecurses)
  | (with_reducible exact jNamed)
  | (with_reducible refine And.intro ?_ ?_)
  | kernel_rfl
theorem over : Rows.rightsLoopRow.holds Tryz.pinned (OpenSpec.ofChange Rows.rightsLoopSpec) :=
 OpenClaim.holds_of_wide 5 Tryz.f5 rfl rfl rfl rfl rfl rfl rfl ⟨rfl, rfl, rfl, rfl, rfl⟩ rfl rfl rfl rfl rfl (by kernel_rfl) Tryz.func5 closed
  (of_decide_eq_true (by kernel_rfl)) (by unfold Func.isWrapper; first | (rw [if_pos (by decide +kernel)]; kernel_rfl) | (rw [if_neg (by decide +kernel)]; exact ⟨rfl, rfl⟩))
  (fun os started H enc _ => lifted os started H enc)
theorem proved : Rows.RightsLoopSaid := over
end Go.Proofs.YtcndmhpeolbepaaGreatDoor.rightsLoop
