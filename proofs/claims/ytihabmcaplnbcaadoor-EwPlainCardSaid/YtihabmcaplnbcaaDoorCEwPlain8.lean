/- A part of the proof of this sentence: EwPlain (19.2, 19.3): what is encoded is plain, each of its words has at most 75 bytes if it is not the text itself, and encoded again it is read as it was; of at most 600 bytes. -/
import Derived.Test.YtihabmcaplnbcaaDoorCEwPlain3
import Derived.Test.YtihabmcaplnbcaaDoorCEwPlain4
import Derived.Test.YtihabmcaplnbcaaDoorCEwPlain5
import Derived.Test.YtihabmcaplnbcaaDoorCEwPlain6
import Derived.Test.YtihabmcaplnbcaaDoorCEwPlain7
import Derived.Test.YtihabmcaplnbcaaDoorRows
import Derived.Test.YtihabmcaplnbcaaDoorTie
import Derived.Test.YtihabmcaplnbcaaDoorCards
import Derived.WalkKit
import Derived.ProofKit
import Derived.OpenShut
import Derived.ShutString
import Derived.ChangeOld
import Derived.Below
import Derived.SizedLaws
import Derived.Lib.SmallJoins
import Derived.SevenTiedAt
-- the row of the law EwPlain, out of its pure statement and its walk
namespace Go.Proofs.YtihabmcaplnbcaaDoor.ewPlain
open Go.ChangeShapes Go.WideShapes Go.ChangeAt Go.RowKit Go.Joins
open Go.ChangeMaps (open_string shut_string)
theorem jLifts : (Rows.ewPlainRow.lifted == Tryd.prog.liftsFinal) = true := Go.Proofs.YtihabmcaplnbcaaDoor.jLifts
theorem jMake : (Tryd.prog.make == some Rows.ewPlainRow.make) = true := Go.Proofs.YtihabmcaplnbcaaDoor.jMake
theorem closed : joinedFacts Tryd.prog 7 Tryd.f7 Rows.ewPlainSpec Rows.ewPlainRow = true := by
  unfold joinedFacts
  simp only [Bool.and_eq_true]
  repeat' first
    | (with_reducible exact jMayEnter)
    | (with_reducible exact jLifts)
    | (with_reducible exact jMake)
    | (with_reducible exact jInPlace)
    | (with_reducible exact jUnfollowed)
    | (with_reducible exact jRecurses)
    | (with_reducible exact jNamed)
    | (with_reducible refine And.intro ?_ ?_)
    | kernel_rfl
theorem over : Rows.ewPlainRow.holds Tryd.pinned (OpenSpec.ofChange Rows.ewPlainSpec) :=
  OpenClaim.holds_of_wide 7 Tryd.f7 rfl rfl rfl rfl rfl rfl rfl ⟨rfl, rfl, rfl, rfl, rfl⟩ rfl rfl rfl rfl rfl (by kernel_rfl) Tryd.func7 closed
    (of_decide_eq_true (by kernel_rfl)) (by unfold Func.isWrapper; first | (rw [if_pos (by decide +kernel)]; kernel_rfl) | (rw [if_neg (by decide +kernel)]; exact ⟨rfl, rfl⟩))
    (fun os started H enc _ => lifted os started H enc)
theorem proved : Rows.EwPlainSaid := over
end Go.Proofs.YtihabmcaplnbcaaDoor.ewPlain
