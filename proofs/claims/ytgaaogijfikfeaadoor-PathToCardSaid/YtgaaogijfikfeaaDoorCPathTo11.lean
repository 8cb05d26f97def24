/- A part of the proof of this sentence: The law bulletinlaw28.PathTo returns true for every input: whom any argument says that a mail goes to is right, and it is who it says that one comes from, but for postmaster; the tables of unicode/utf8 are as the program's text lays them. -/
import Derived.Test.YtgaaogijfikfeaaDoorCPathTo6
import Derived.Test.YtgaaogijfikfeaaDoorCPathTo7
import Derived.Test.YtgaaogijfikfeaaDoorCPathTo8
import Derived.Test.YtgaaogijfikfeaaDoorCPathTo9
import Derived.Test.YtgaaogijfikfeaaDoorCPathTo10
import Derived.Test.YtgaaogijfikfeaaDoorRows
import Derived.Test.YtgaaogijfikfeaaDoorTie
import Derived.Test.YtgaaogijfikfeaaDoorCards
import Derived.WalkKit
import Derived.ProofKit
import Derived.OpenShut
import Derived.ShutString
import Derived.ChangeOld
import Derived.Below
import Derived.SizedLaws
import Derived.Lib.SmallJoins
import Derived.SevenTiedAt
-- the row of the law PathTo, out of its pure statement and its walk
namespace Go.Proofs.YtgaaogijfikfeaaDoor.pathTo
open Go.ChangeShapes Go.WideShapes Go.ChangeAt Go.RowKit Go.Joins
open Go.ChangeMaps (open_string shut_string)
theorem jLifts : (Rows.pathToRow.lifted == Tryd.prog.liftsFinal) = true := Go.Proofs.YtgaaogijfikfeaaDoor.jLifts
theorem jMake : (Tryd.prog.make == some Rows.pathToRow.make) = true := Go.Proofs.YtgaaogijfikfeaaDoor.jMake
theorem closed : joinedFacts Tryd.prog 11 Tryd.f11 Rows.pathToSpec Rows.pathToRow = true := by
  unfold joinedFacts
  simp only [Bool.and_eq_true]
  repeat' first
    | (with_reducible exact jMayEnter)
    | (with_reducible exact jLifts)
    | (with_reducible exact jMake)
    | (with_reducible exact jInPlace)
    | (with_reducible exact jUnfollowed)
    | (with_reducible exact jRecurses)
    | (with_reducible exact jNamed)
    | (with_reducible refine And.intro ?_ ?_)
    | kernel_rfl
theorem over : Rows.pathToRow.holds Tryd.pinned (OpenSpec.ofChange Rows.pathToSpec) :=
  OpenClaim.holds_of_wide 11 Tryd.f11 rfl rfl rfl rfl rfl rfl rfl ⟨rfl, rfl, rfl, rfl, rfl⟩ rfl rfl rfl rfl rfl (by kernel_rfl) Tryd.func11 closed
    (of_decide_eq_true (by kernel_rfl)) (by unfold Func.isWrapper; first | (rw [if_pos (by decide +kernel)]; kernel_rfl) | (rw [if_neg (by decide +kernel)]; exact ⟨rfl, rfl⟩))
    (fun os started H enc _ => lifted os started H enc)
theorem proved : Rows.PathToSaid := over
end Go.Proofs.YtgaaogijfikfeaaDoor.pathTo
