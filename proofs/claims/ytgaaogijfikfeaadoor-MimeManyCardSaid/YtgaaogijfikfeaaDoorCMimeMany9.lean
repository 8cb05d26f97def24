/- A part of the proof of this sentence: the tables of unicode/utf8 are as the program's text lays them. -/
import Derived.Test.YtgaaogijfikfeaaDoorCMimeMany4
import Derived.Test.YtgaaogijfikfeaaDoorCMimeMany5
import Derived.Test.YtgaaogijfikfeaaDoorCMimeMany6
import Derived.Test.YtgaaogijfikfeaaDoorCMimeMany7
import Derived.Test.YtgaaogijfikfeaaDoorCMimeMany8
import Derived.Test.YtgaaogijfikfeaaDoorRows
import Derived.Test.YtgaaogijfikfeaaDoorTie
import Derived.Test.YtgaaogijfikfeaaDoorCards
import Derived.WalkKit
import Derived.ProofKit
import Derived.OpenShut
import Derived.ShutString
import Derived.ChangeOld
import Derived.Below
import Derived.SizedLaws
import Derived.Lib.SmallJoins
import Derived.SevenTiedAt
-- the row of the law MimeMany, out of its pure statement and its walk
namespace Go.Proofs.YtgaaogijfikfeaaDoor.mimeMany
open Go.ChangeShapes Go.WideShapes Go.ChangeAt Go.RowKit Go.Joins
open Go.ChangeMaps (open_string shut_string)
theorem jLifts : (Rows.mimeManyRow.lifted == Tryd.prog.liftsFinal) = true := Go.Proofs.YtgaaogijfikfeaaDoor.jLifts
theorem jMake : (Tryd.prog.make == some Rows.mimeManyRow.make) = true := Go.Proofs.YtgaaogijfikfeaaDoor.jMake
theorem closed : joinedFacts Tryd.prog 16 Tryd.f16 Rows.mimeManySpec Rows.mimeManyRow = true := by
  unfold joinedFacts
  simp only [Bool.and_eq_true]
  repeat' first
    | (with_reducible exact jMayEnter)
    | (with_reducible exact jLifts)
    | (with_reducible exact jMake)
    | (with_reducible exact jInPlace)
    | (with_reducible exact jUnfollowed)
    | (with_reducible exact jRecurses)
    | (with_reducible exact jNamed)
    | (with_reducible refine And.intro ?_ ?_)
    | kernel_rfl
theorem over : Rows.mimeManyRow.holds Tryd.pinned (OpenSpec.ofChange Rows.mimeManySpec) :=
  OpenClaim.holds_of_wide 16 Tryd.f16 rfl rfl rfl rfl rfl rfl rfl ⟨rfl, rfl, rfl, rfl, rfl⟩ rfl rfl rfl rfl rfl (by kernel_rfl) Tryd.func16 closed
    (of_decide_eq_true (by kernel_rfl)) (by unfold Func.isWrapper; first | (rw [if_pos (by decide +kernel)]; kernel_rfl) | (rw [if_neg (by decide +kernel)]; exact ⟨rfl, rfl⟩))
    (fun os started H enc _ => lifted os started H enc)
theorem proved : Rows.MimeManySaid := over
end Go.Proofs.YtgaaogijfikfeaaDoor.mimeMany
