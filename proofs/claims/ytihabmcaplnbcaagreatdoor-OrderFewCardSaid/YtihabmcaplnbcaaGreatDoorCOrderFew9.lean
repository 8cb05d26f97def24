/- A part of the proof of this sentence: OrderFew (35.2): no mail has more than eight commands, nor more than three that are Unknown, and if it has three, the third of these is the last one; of at most 30 fields, names of at most 200, values and body of at most 3000 bytes. -/
import Derived.Test.YtihabmcaplnbcaaGreatDoorCOrderFew4
import Derived.Test.YtihabmcaplnbcaaGreatDoorCOrderFew5
import Derived.Test.YtihabmcaplnbcaaGreatDoorCOrderFew6
import Derived.Test.YtihabmcaplnbcaaGreatDoorCOrderFew7
import Derived.Test.YtihabmcaplnbcaaGreatDoorCOrderFew8
import Derived.Test.YtihabmcaplnbcaaGreatDoorRows
import Derived.Test.YtihabmcaplnbcaaGreatDoorTie
import Derived.Test.YtihabmcaplnbcaaGreatDoorCards
import Derived.WalkKit
import Derived.ProofKit
import Derived.OpenShut
import Derived.ShutString
import Derived.ChangeOld
import Derived.Below
import Derived.SizedLaws
import Derived.Lib.SmallJoins
import Derived.SevenTiedAt
-- the row of the law OrderFew, out of its pure statement and its walk
namespace Go.Proofs.YtihabmcaplnbcaaGreatDoor.orderFew
open Go.ChangeShapes Go.WideShapes Go.ChangeAt Go.RowKit Go.Joins
open Go.ChangeMaps (open_string shut_string)
theorem jLifts : (Rows.orderFewRow.lifted == Tryz.prog.liftsFinal) = true := Go.Proofs.YtihabmcaplnbcaaGreatDoor.jLifts
theorem jMake : (Tryz.prog.make == some Rows.orderFewRow.make) = true := Go.Proofs.YtihabmcaplnbcaaGreatDoor.jMake
theorem closed : joinedFacts Tryz.prog 6 Tryz.f6 Rows.orderFewSpec Rows.orderFewRow = true := by
  unfold joinedFacts
  simp only [Bool.and_eq_true]
  repeat' first
    | (with_reducible exact jMayEnter)
    | (with_reducible exact jLifts)
    | (with_reducible exact jMake)
    | (with_reducible exact jInPlace)
    | (with_reducible exact jUnfollowed)
    | (with_reducible exact jRecurses)
    | (with_reducible exact jNamed)
    | (with_reducible refine And.intro ?_ ?_)
    | kernel_rfl
theorem over : Rows.orderFewRow.holds Tryz.pinned (OpenSpec.ofChange Rows.orderFewSpec) :=
  OpenClaim.holds_of_wide 6 Tryz.f6 rfl rfl rfl rfl rfl rfl rfl ⟨rfl, rfl, rfl, rfl, rfl⟩ rfl rfl rfl rfl rfl (by kernel_rfl) Tryz.func6 closed
    (of_decide_eq_true (by kernel_rfl)) (by unfold Func.isWrapper; first | (rw [if_pos (by decide +kernel)]; kernel_rfl) | (rw [if_neg (by decide +kernel)]; exact ⟨rfl, rfl⟩))
    (fun os started H enc _ => lifted os started H enc)
theorem proved : Rows.OrderFewSaid := over
end Go.Proofs.YtihabmcaplnbcaaGreatDoor.orderFew
