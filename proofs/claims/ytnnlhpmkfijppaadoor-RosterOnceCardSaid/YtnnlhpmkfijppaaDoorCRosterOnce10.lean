/- A part of the proof of this sentence: Once a day: of a right member that is not off the score grows by as many as there are bounces on another day than the one ahead of each, and it is off as soon as that is too much -/
import Derived.Test.YtnnlhpmkfijppaaDoorCRosterOnce5
import Derived.Test.YtnnlhpmkfijppaaDoorCRosterOnce6
import Derived.Test.YtnnlhpmkfijppaaDoorCRosterOnce7
import Derived.Test.YtnnlhpmkfijppaaDoorCRosterOnce8
import Derived.Test.YtnnlhpmkfijppaaDoorCRosterOnce9
import Derived.Test.YtnnlhpmkfijppaaDoorRows
import Derived.Test.YtnnlhpmkfijppaaDoorTie
import Derived.Test.YtnnlhpmkfijppaaDoorCards
import Derived.WalkKit
import Derived.ProofKit
import Derived.OpenShut
import Derived.ShutString
import Derived.ChangeOld
import Derived.Below
import Derived.SizedLaws
import Derived.Lib.SmallJoins
import Derived.SevenTiedAt
-- the row of the law RosterOnce, out of its pure statement and its walk
namespace Go.Proofs.YtnnlhpmkfijppaaDoor.rosterOnce
open Go.ChangeShapes Go.WideShapes Go.ChangeAt Go.RowKit Go.Joins
open Go.ChangeMaps (open_string shut_string)
theorem jLifts : (Rows.rosterOnceRow.lifted == Tryd.prog.liftsFinal) = true := Go.Proofs.YtnnlhpmkfijppaaDoor.jLifts
theorem jMake : (Tryd.prog.make == some Rows.rosterOnceRow.make) = true := Go.Proofs.YtnnlhpmkfijppaaDoor.jMake
theorem closed : joinedFacts Tryd.prog 4 Tryd.f4 Rows.rosterOnceSpec Rows.rosterOnceRow = true := by
 unfold joinedFacts
 simp only [Bool.and_eq_true]
 repeat' first
  | (with_reducible exact jMayEnter)
  | (with_reducible exact jLifts)
  | (with_reducible exact jMake)
  | (with_reducible exact jInPlace)
  | (with_reducible exact jUnfollowed)
  | (with_reducible exact jRecurses)
  | (with_reducible exact jNamed)
  | (with_reducible refine And.intro ?_ ?_)
  | kernel_rfl
theorem over : Rows.rosterOnceRow.holds Tryd.pinned (OpenSpec.ofChange Rows.rosterOnceSpec) :=
 OpenClaim.holds_of_wide 4 Tryd.f4 rfl rfl rfl rfl rfl rfl rfl ⟨rfl, rfl, rfl, rfl, rfl⟩ rfl rfl rfl rfl rfl (by kernel_rfl) Tryd.func4 closed
  (of_decide_eq_true (by kernel_rfl)) (by unfold Func.isWrapper; first | (rw [if_pos (by decide +kernel)]; kernel_rfl) | (rw [if_neg (by decide +kernel)]; exact ⟨rfl, rfl⟩))
  (fun os started H enc _ => lifted os started H enc)
theorem proved : Rows.RosterOnceSaid := over
end Go.Proofs.YtnnlhpmkfijppaaDoor.rosterOnce
