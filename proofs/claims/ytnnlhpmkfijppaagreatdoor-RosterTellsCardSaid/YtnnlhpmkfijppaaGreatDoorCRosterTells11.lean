/- A part of the proof of this sentence: What any member is, gets and becomes by a bounce and when it is well, a new one, and the words of modes, are as the document has them -/
import Derived.Test.YtnnlhpmkfijppaaGreatDoorCRosterTells6
import Derived.Test.YtnnlhpmkfijppaaGreatDoorCRosterTells7
import Derived.Test.YtnnlhpmkfijppaaGreatDoorCRosterTells8
import Derived.Test.YtnnlhpmkfijppaaGreatDoorCRosterTells9
import Derived.Test.YtnnlhpmkfijppaaGreatDoorCRosterTells10
import Derived.Test.YtnnlhpmkfijppaaGreatDoorRows
import Derived.Test.YtnnlhpmkfijppaaGreatDoorTie
import Derived.Test.YtnnlhpmkfijppaaGreatDoorCards
import Derived.WalkKit
import Derived.ProofKit
import Derived.OpenShut
import Derived.ShutString
import Derived.ChangeOld
import Derived.Below
import Derived.SizedLaws
import Derived.Lib.SmallJoins
import Derived.SevenTiedAt
-- the row of the law RosterTells, out of its pure statement and its walk
namespace Go.Proofs.YtnnlhpmkfijppaaGreatDoor.rosterTells
open Go.ChangeShapes Go.WideShapes Go.ChangeAt Go.RowKit Go.Joins
open Go.ChangeMaps (open_string shut_string)
theorem jLifts : (Rows.rosterTellsRow.lifted == Tryz.prog.liftsFinal) = true := Go.Proofs.YtnnlhpmkfijppaaGreatDoor.jLifts
theorem jMake : (Tryz.prog.make == some Rows.rosterTellsRow.make) = true := Go.Proofs.YtnnlhpmkfijppaaGreatDoor.jMake
theorem closed : joinedFacts Tryz.prog 4 Tryz.f4 Rows.rosterTellsSpec Rows.rosterTellsRow = true := by
 unfold joinedFacts
 simp only [Bool.and_eq_true]
 repeat' first
  | (with_reducible exact jMayEnter)
  | (with_reducible exact jLifts)
  | (with_reducible exact jMake)
  | (with_reducible exact jInPlace)
  | (with_reducible exact jUnfollowed)
  | (with_reducible exact jRecurses)
  | (with_reducible exact jNamed)
  | (with_reducible refine And.intro ?_ ?_)
  | kernel_rfl
theorem over : Rows.rosterTellsRow.holds Tryz.pinned (OpenSpec.ofChange Rows.rosterTellsSpec) :=
 OpenClaim.holds_of_wide 4 Tryz.f4 rfl rfl rfl rfl rfl rfl rfl ⟨rfl, rfl, rfl, rfl, rfl⟩ rfl rfl rfl rfl rfl (by kernel_rfl) Tryz.func4 closed
  (of_decide_eq_true (by kernel_rfl)) (by unfold Func.isWrapper; first | (rw [if_pos (by decide +kernel)]; kernel_rfl) | (rw [if_neg (by decide +kernel)]; exact ⟨rfl, rfl⟩))
  (fun os started H enc _ => lifted os started H enc)
theorem proved : Rows.RosterTellsSaid := over
end Go.Proofs.YtnnlhpmkfijppaaGreatDoor.rosterTells
