/- A part of the proof of this sentence: the tables of unicode/utf8 are as the program's text lays them. -/
import Derived.Test.YtgaaogijfikfeaaDoorCMimeTypeBack7
import Derived.Test.YtgaaogijfikfeaaDoorCMimeTypeBack8
import Derived.Test.YtgaaogijfikfeaaDoorCMimeTypeBack9
import Derived.Test.YtgaaogijfikfeaaDoorCMimeTypeBack10
import Derived.Test.YtgaaogijfikfeaaDoorCMimeTypeBack11
import Derived.Test.YtgaaogijfikfeaaDoorRows
import Derived.Test.YtgaaogijfikfeaaDoorTie
import Derived.Test.YtgaaogijfikfeaaDoorCards
import Derived.WalkKit
import Derived.ProofKit
import Derived.OpenShut
import Derived.ShutString
import Derived.ChangeOld
import Derived.Below
import Derived.SizedLaws
import Derived.Lib.SmallJoins
import Derived.SevenTiedAt
-- the row of the law MimeTypeBack, out of its pure statement and its walk
namespace Go.Proofs.YtgaaogijfikfeaaDoor.mimeTypeBack
open Go.ChangeShapes Go.WideShapes Go.ChangeAt Go.RowKit Go.Joins
open Go.ChangeMaps (open_string shut_string)
theorem jLifts : (Rows.mimeTypeBackRow.lifted == Tryd.prog.liftsFinal) = true := Go.Proofs.YtgaaogijfikfeaaDoor.jLifts
theorem jMake : (Tryd.prog.make == some Rows.mimeTypeBackRow.make) = true := Go.Proofs.YtgaaogijfikfeaaDoor.jMake
theorem closed : joinedFacts Tryd.prog 15 Tryd.f15 Rows.mimeTypeBackSpec Rows.mimeTypeBackRow = true := by
  unfold joinedFacts
  simp only [Bool.and_eq_true]
  repeat' first
    | (with_reducible exact jMayEnter)
    | (with_reducible exact jLifts)
    | (with_reducible exact jMake)
    | (with_reducible exact jInPlace)
    | (with_reducible exact jUnfollowed)
    | (with_reducible exact jRecurses)
    | (with_reducible exact jNamed)
    | (with_reducible refine And.intro ?_ ?_)
    | kernel_rfl
theorem over : Rows.mimeTypeBackRow.holds Tryd.pinned (OpenSpec.ofChange Rows.mimeTypeBackSpec) :=
  OpenClaim.holds_of_wide 15 Tryd.f15 rfl rfl rfl rfl rfl rfl rfl ⟨rfl, rfl, rfl, rfl, rfl⟩ rfl rfl rfl rfl rfl (by kernel_rfl) Tryd.func15 closed
    (of_decide_eq_true (by kernel_rfl)) (by unfold Func.isWrapper; first | (rw [if_pos (by decide +kernel)]; kernel_rfl) | (rw [if_neg (by decide +kernel)]; exact ⟨rfl, rfl⟩))
    (fun os started H enc _ => lifted os started H enc)
theorem proved : Rows.MimeTypeBackSaid := over
end Go.Proofs.YtgaaogijfikfeaaDoor.mimeTypeBack
