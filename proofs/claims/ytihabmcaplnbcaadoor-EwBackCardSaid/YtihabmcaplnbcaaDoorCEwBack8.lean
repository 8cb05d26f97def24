/- A part of the proof of this sentence: EwBack (19.3): whatever text is encoded is decoded as it was, a bad sign as FFFD; of at most 600 bytes. -/
import Derived.Test.YtihabmcaplnbcaaDoorCEwBack3
import Derived.Test.YtihabmcaplnbcaaDoorCEwBack4
import Derived.Test.YtihabmcaplnbcaaDoorCEwBack5
import Derived.Test.YtihabmcaplnbcaaDoorCEwBack6
import Derived.Test.YtihabmcaplnbcaaDoorCEwBack7
import Derived.Test.YtihabmcaplnbcaaDoorRows
import Derived.Test.YtihabmcaplnbcaaDoorTie
import Derived.Test.YtihabmcaplnbcaaDoorCards
import Derived.WalkKit
import Derived.ProofKit
import Derived.OpenShut
import Derived.ShutString
import Derived.ChangeOld
import Derived.Below
import Derived.SizedLaws
import Derived.Lib.SmallJoins
import Derived.SevenTiedAt
-- the row of the law EwBack, out of its pure statement and its walk
namespace Go.Proofs.YtihabmcaplnbcaaDoor.ewBack
open Go.ChangeShapes Go.WideShapes Go.ChangeAt Go.RowKit Go.Joins
open Go.ChangeMaps (open_string shut_string)
theorem jLifts : (Rows.ewBackRow.lifted == Tryd.prog.liftsFinal) = true := Go.Proofs.YtihabmcaplnbcaaDoor.jLifts
theorem jMake : (Tryd.prog.make == some Rows.ewBackRow.make) = true := Go.Proofs.YtihabmcaplnbcaaDoor.jMake
theorem closed : joinedFacts Tryd.prog 5 Tryd.f5 Rows.ewBackSpec Rows.ewBackRow = true := by
  unfold joinedFacts
  simp only [Bool.and_eq_true]
  repeat' first
    | (with_reducible exact jMayEnter)
    | (with_reducible exact jLifts)
    | (with_reducible exact jMake)
    | (with_reducible exact jInPlace)
    | (with_reducible exact jUnfollowed)
    | (with_reducible exact jRecurses)
    | (with_reducible exact jNamed)
    | (with_reducible refine And.intro ?_ ?_)
    | kernel_rfl
theorem over : Rows.ewBackRow.holds Tryd.pinned (OpenSpec.ofChange Rows.ewBackSpec) :=
  OpenClaim.holds_of_wide 5 Tryd.f5 rfl rfl rfl rfl rfl rfl rfl ⟨rfl, rfl, rfl, rfl, rfl⟩ rfl rfl rfl rfl rfl (by kernel_rfl) Tryd.func5 closed
    (of_decide_eq_true (by kernel_rfl)) (by unfold Func.isWrapper; first | (rw [if_pos (by decide +kernel)]; kernel_rfl) | (rw [if_neg (by decide +kernel)]; exact ⟨rfl, rfl⟩))
    (fun os started H enc _ => lifted os started H enc)
theorem proved : Rows.EwBackSaid := over
end Go.Proofs.YtihabmcaplnbcaaDoor.ewBack
