/- A part of the proof of this sentence: OrderReads (35.5): the commands of any mail, as a member may send it, are as the document reads them; of at most 30 fields, names of at most 200, values and body of at most 3000 bytes. -/
import Derived.Test.YtihabmcaplnbcaaGreatDoorCOrderReads6
import Derived.Test.YtihabmcaplnbcaaGreatDoorCOrderReads7
import Derived.Test.YtihabmcaplnbcaaGreatDoorCOrderReads8
import Derived.Test.YtihabmcaplnbcaaGreatDoorCOrderReads9
import Derived.Test.YtihabmcaplnbcaaGreatDoorCOrderReads10
import Derived.Test.YtihabmcaplnbcaaGreatDoorRows
import Derived.Test.YtihabmcaplnbcaaGreatDoorTie
import Derived.Test.YtihabmcaplnbcaaGreatDoorCards
import Derived.WalkKit
import Derived.ProofKit
import Derived.OpenShut
import Derived.ShutString
import Derived.ChangeOld
import Derived.Below
import Derived.SizedLaws
import Derived.Lib.SmallJoins
import Derived.SevenTiedAt
-- the row of the law OrderReads, out of its pure statement and its walk
namespace Go.Proofs.YtihabmcaplnbcaaGreatDoor.orderReads
open Go.ChangeShapes Go.WideShapes Go.ChangeAt Go.RowKit Go.Joins
open Go.ChangeMaps (open_string shut_string)
theorem jLifts : (Rows.orderReadsRow.lifted == Tryz.prog.liftsFinal) = true := Go.Proofs.YtihabmcaplnbcaaGreatDoor.jLifts
theorem jMake : (Tryz.prog.make == some Rows.orderReadsRow.make) = true := Go.Proofs.YtihabmcaplnbcaaGreatDoor.jMake
theorem closed : joinedFacts Tryz.prog 5 Tryz.f5 Rows.orderReadsSpec Rows.orderReadsRow = true := by
 unfold joinedFacts
 simp only [Bool.and_eq_true]
 repeat' first
  | (with_reducible exact jMayEnter)
  | (with_reducible exact jLifts)
  | (with_reducible exact jMake)
  | (with_reducible exact jInPlace)
  | (with_reducible exact jUnfollowed)
  | (with_reducible exact jRecurses)
  | (with_reducible exact jNamed)
  | (with_reducible refine And.intro ?_ ?_)
  | kernel_rfl
theorem over : Rows.orderReadsRow.holds Tryz.pinned (OpenSpec.ofChange Rows.orderReadsSpec) :=
 OpenClaim.holds_of_wide 5 Tryz.f5 rfl rfl rfl rfl rfl rfl rfl ⟨rfl, rfl, rfl, rfl, rfl⟩ rfl rfl rfl rfl rfl (by kernel_rfl) Tryz.func5 closed
  (of_decide_eq_true (by kernel_rfl)) (by unfold Func.isWrapper; first | (rw [if_pos (by decide +kernel)]; kernel_rfl) | (rw [if_neg (by decide +kernel)]; exact ⟨rfl, rfl⟩))
  (fun os started H enc _ => lifted os started H enc)
theorem proved : Rows.OrderReadsSaid := over
end Go.Proofs.YtihabmcaplnbcaaGreatDoor.orderReads
