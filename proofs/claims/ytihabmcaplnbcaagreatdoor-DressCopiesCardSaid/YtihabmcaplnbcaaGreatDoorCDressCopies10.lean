/- A part of the proof of this sentence: DressCopies (36.3): any post, as a member gets it, by any token, is as the document has it, and the post itself is as it was; of at most 30 fields, names of at most 200, values and body of at most 3000 bytes. -/
import Derived.Test.YtihabmcaplnbcaaGreatDoorCDressCopies5
import Derived.Test.YtihabmcaplnbcaaGreatDoorCDressCopies6
import Derived.Test.YtihabmcaplnbcaaGreatDoorCDressCopies7
import Derived.Test.YtihabmcaplnbcaaGreatDoorCDressCopies8
import Derived.Test.YtihabmcaplnbcaaGreatDoorCDressCopies9
import Derived.Test.YtihabmcaplnbcaaGreatDoorRows
import Derived.Test.YtihabmcaplnbcaaGreatDoorTie
import Derived.Test.YtihabmcaplnbcaaGreatDoorCards
import Derived.WalkKit
import Derived.ProofKit
import Derived.OpenShut
import Derived.ShutString
import Derived.ChangeOld
import Derived.Below
import Derived.SizedLaws
import Derived.Lib.SmallJoins
import Derived.SevenTiedAt
-- the row of the law DressCopies, out of its pure statement and its walk
namespace Go.Proofs.YtihabmcaplnbcaaGreatDoor.dressCopies
open Go.ChangeShapes Go.WideShapes Go.ChangeAt Go.RowKit Go.Joins
open Go.ChangeMaps (open_string shut_string)
theorem jLifts : (Rows.dressCopiesRow.lifted == Tryz.prog.liftsFinal) = true := Go.Proofs.YtihabmcaplnbcaaGreatDoor.jLifts
theorem jMake : (Tryz.prog.make == some Rows.dressCopiesRow.make) = true := Go.Proofs.YtihabmcaplnbcaaGreatDoor.jMake
theorem closed : joinedFacts Tryz.prog 3 Tryz.f3 Rows.dressCopiesSpec Rows.dressCopiesRow = true := by
  unfold joinedFacts
  simp only [Bool.and_eq_true]
  repeat' first
    | (with_reducible exact jMayEnter)
    | (with_reducible exact jLifts)
    | (with_reducible exact jMake)
    | (with_reducible exact jInPlace)
    | (with_reducible exact jUnfollowed)
    | (with_reducible exact jRecurses)
    | (with_reducible exact jNamed)
    | (with_reducible refine And.intro ?_ ?_)
    | kernel_rfl
theorem over : Rows.dressCopiesRow.holds Tryz.pinned (OpenSpec.ofChange Rows.dressCopiesSpec) :=
  OpenClaim.holds_of_wide 3 Tryz.f3 rfl rfl rfl rfl rfl rfl rfl ⟨rfl, rfl, rfl, rfl, rfl⟩ rfl rfl rfl rfl rfl (by kernel_rfl) Tryz.func3 closed
    (of_decide_eq_true (by kernel_rfl)) (by unfold Func.isWrapper; first | (rw [if_pos (by decide +kernel)]; kernel_rfl) | (rw [if_neg (by decide +kernel)]; exact ⟨rfl, rfl⟩))
    (fun os started H enc _ => lifted os started H enc)
theorem proved : Rows.DressCopiesSaid := over
end Go.Proofs.YtihabmcaplnbcaaGreatDoor.dressCopies
