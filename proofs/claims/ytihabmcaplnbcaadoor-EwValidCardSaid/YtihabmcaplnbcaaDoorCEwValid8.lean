/- A part of the proof of this sentence: EwValid (19.3): what is decoded of a valid text is valid, and a text without the mark of an encoded word is decoded as it is; of at most 600 bytes. -/
import Derived.Test.YtihabmcaplnbcaaDoorCEwValid3
import Derived.Test.YtihabmcaplnbcaaDoorCEwValid4
import Derived.Test.YtihabmcaplnbcaaDoorCEwValid5
import Derived.Test.YtihabmcaplnbcaaDoorCEwValid6
import Derived.Test.YtihabmcaplnbcaaDoorCEwValid7
import Derived.Test.YtihabmcaplnbcaaDoorRows
import Derived.Test.YtihabmcaplnbcaaDoorTie
import Derived.Test.YtihabmcaplnbcaaDoorCards
import Derived.WalkKit
import Derived.ProofKit
import Derived.OpenShut
import Derived.ShutString
import Derived.ChangeOld
import Derived.Below
import Derived.SizedLaws
import Derived.Lib.SmallJoins
import Derived.SevenTiedAt
-- the row of the law EwValid, out of its pure statement and its walk
namespace Go.Proofs.YtihabmcaplnbcaaDoor.ewValid
open Go.ChangeShapes Go.WideShapes Go.ChangeAt Go.RowKit Go.Joins
open Go.ChangeMaps (open_string shut_string)
theorem jLifts : (Rows.ewValidRow.lifted == Tryd.prog.liftsFinal) = true := Go.Proofs.YtihabmcaplnbcaaDoor.jLifts
theorem jMake : (Tryd.prog.make == some Rows.ewValidRow.make) = true := Go.Proofs.YtihabmcaplnbcaaDoor.jMake
theorem closed : joinedFacts Tryd.prog 6 Tryd.f6 Rows.ewValidSpec Rows.ewValidRow = true := by
  unfold joinedFacts
  simp only [Bool.and_eq_true]
  repeat' first
    | (with_reducible exact jMayEnter)
    | (with_reducible exact jLifts)
    | (with_reducible exact jMake)
    | (with_reducible exact jInPlace)
    | (with_reducible exact jUnfollowed)
    | (with_reducible exact jRecurses)
    | (with_reducible exact jNamed)
    | (with_reducible refine And.intro ?_ ?_)
    | kernel_rfl
theorem over : Rows.ewValidRow.holds Tryd.pinned (OpenSpec.ofChange Rows.ewValidSpec) :=
  OpenClaim.holds_of_wide 6 Tryd.f6 rfl rfl rfl rfl rfl rfl rfl ⟨rfl, rfl, rfl, rfl, rfl⟩ rfl rfl rfl rfl rfl (by kernel_rfl) Tryd.func6 closed
    (of_decide_eq_true (by kernel_rfl)) (by unfold Func.isWrapper; first | (rw [if_pos (by decide +kernel)]; kernel_rfl) | (rw [if_neg (by decide +kernel)]; exact ⟨rfl, rfl⟩))
    (fun os started H enc _ => lifted os started H enc)
theorem proved : Rows.EwValidSaid := over
end Go.Proofs.YtihabmcaplnbcaaDoor.ewValid
