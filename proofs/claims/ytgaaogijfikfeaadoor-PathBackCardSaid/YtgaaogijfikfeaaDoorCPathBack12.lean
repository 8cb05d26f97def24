/- A part of the proof of this sentence: The law bulletinlaw28.PathBack returns true for every input: a right address is read of what is shown of it, as where a mail comes from, with any size of up to nine digits, and as where it goes; the tables of unicode/utf8 are as the program's text lays them. -/
import Derived.Test.YtgaaogijfikfeaaDoorCPathBack7
import Derived.Test.YtgaaogijfikfeaaDoorCPathBack8
import Derived.Test.YtgaaogijfikfeaaDoorCPathBack9
import Derived.Test.YtgaaogijfikfeaaDoorCPathBack10
import Derived.Test.YtgaaogijfikfeaaDoorCPathBack11
import Derived.Test.YtgaaogijfikfeaaDoorRows
import Derived.Test.YtgaaogijfikfeaaDoorTie
import Derived.Test.YtgaaogijfikfeaaDoorCards
import Derived.WalkKit
import Derived.ProofKit
import Derived.OpenShut
import Derived.ShutString
import Derived.ChangeOld
import Derived.Below
import Derived.SizedLaws
import Derived.Lib.SmallJoins
import Derived.SevenTiedAt
-- the row of the law PathBack, out of its pure statement and its walk
namespace Go.Proofs.YtgaaogijfikfeaaDoor.pathBack
open Go.ChangeShapes Go.WideShapes Go.ChangeAt Go.RowKit Go.Joins
open Go.ChangeMaps (open_string shut_string)
theorem jLifts : (Rows.pathBackRow.lifted == Tryd.prog.liftsFinal) = true := Go.Proofs.YtgaaogijfikfeaaDoor.jLifts
theorem jMake : (Tryd.prog.make == some Rows.pathBackRow.make) = true := Go.Proofs.YtgaaogijfikfeaaDoor.jMake
theorem closed : joinedFacts Tryd.prog 10 Tryd.f10 Rows.pathBackSpec Rows.pathBackRow = true := by
  unfold joinedFacts
  simp only [Bool.and_eq_true]
  repeat' first
    | (with_reducible exact jMayEnter)
    | (with_reducible exact jLifts)
    | (with_reducible exact jMake)
    | (with_reducible exact jInPlace)
    | (with_reducible exact jUnfollowed)
    | (with_reducible exact jRecurses)
    | (with_reducible exact jNamed)
    | (with_reducible refine And.intro ?_ ?_)
    | kernel_rfl
theorem over : Rows.pathBackRow.holds Tryd.pinned (OpenSpec.ofChange Rows.pathBackSpec) :=
  OpenClaim.holds_of_wide 10 Tryd.f10 rfl rfl rfl rfl rfl rfl rfl ⟨rfl, rfl, rfl, rfl, rfl⟩ rfl rfl rfl rfl rfl (by kernel_rfl) Tryd.func10 closed
    (of_decide_eq_true (by kernel_rfl)) (by unfold Func.isWrapper; first | (rw [if_pos (by decide +kernel)]; kernel_rfl) | (rw [if_neg (by decide +kernel)]; exact ⟨rfl, rfl⟩))
    (fun os started H enc _ => lifted os started H enc)
theorem proved : Rows.PathBackSaid := over
end Go.Proofs.YtgaaogijfikfeaaDoor.pathBack
