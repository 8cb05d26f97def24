/- A part of the proof of this sentence: A right member is read again of its text, and what any text is read as is right and has just that text -/
import Derived.Test.YtnnlhpmkfijppaaDoorCRosterBack6
import Derived.Test.YtnnlhpmkfijppaaDoorCRosterBack7
import Derived.Test.YtnnlhpmkfijppaaDoorCRosterBack8
import Derived.Test.YtnnlhpmkfijppaaDoorCRosterBack9
import Derived.Test.YtnnlhpmkfijppaaDoorCRosterBack10
import Derived.Test.YtnnlhpmkfijppaaDoorRows
import Derived.Test.YtnnlhpmkfijppaaDoorTie
import Derived.Test.YtnnlhpmkfijppaaDoorCards
import Derived.WalkKit
import Derived.ProofKit
import Derived.OpenShut
import Derived.ShutString
import Derived.ChangeOld
import Derived.Below
import Derived.SizedLaws
import Derived.Lib.SmallJoins
import Derived.SevenTiedAt
-- the row of the law RosterBack, out of its pure statement and its walk
namespace Go.Proofs.YtnnlhpmkfijppaaDoor.rosterBack
open Go.ChangeShapes Go.WideShapes Go.ChangeAt Go.RowKit Go.Joins
open Go.ChangeMaps (open_string shut_string)
theorem jLifts : (Rows.rosterBackRow.lifted == Tryd.prog.liftsFinal) = true := Go.Proofs.YtnnlhpmkfijppaaDoor.jLifts
theorem jMake : (Tryd.prog.make == some Rows.rosterBackRow.make) = true := Go.Proofs.YtnnlhpmkfijppaaDoor.jMake
theorem closed : joinedFacts Tryd.prog 3 Tryd.f3 Rows.rosterBackSpec Rows.rosterBackRow = true := by
 unfold joinedFacts
 simp only [Bool.and_eq_true]
 repeat' first
  | (with_reducible exact jMayEnter)
  | (with_reducible exact jLifts)
  | (with_reducible exact jMake)
  | (with_reducible exact jInPlace)
  | (with_reducible exact jUnfollowed)
  | (with_reducible exact jRecurses)
  | (with_reducible exact jNamed)
  | (with_reducible refine And.intro ?_ ?_)
  | kernel_rfl
theorem over : Rows.rosterBackRow.holds Tryd.pinned (OpenSpec.ofChange Rows.rosterBackSpec) :=
 OpenClaim.holds_of_wide 3 Tryd.f3 rfl rfl rfl rfl rfl rfl rfl ⟨rfl, rfl, rfl, rfl, rfl⟩ rfl rfl rfl rfl rfl (by kernel_rfl) Tryd.func3 closed
  (of_decide_eq_true (by kernel_rfl)) (by unfold Func.isWrapper; first | (rw [if_pos (by decide +kernel)]; kernel_rfl) | (rw [if_neg (by decide +kernel)]; exact ⟨rfl, rfl⟩))
  (fun os started H enc _ => lifted os started H enc)
theorem proved : Rows.RosterBackSaid := over
end Go.Proofs.YtnnlhpmkfijppaaDoor.rosterBack
