/- A part of the proof of this sentence: EwWrites (19.2): any bytes, encoded, are as the document has them; of at most 600 bytes. -/
import Derived.Test.YtihabmcaplnbcaaDoorCEwWrites4
import Derived.Test.YtihabmcaplnbcaaDoorCEwWrites5
import Derived.Test.YtihabmcaplnbcaaDoorCEwWrites6
import Derived.Test.YtihabmcaplnbcaaDoorCEwWrites7
import Derived.Test.YtihabmcaplnbcaaDoorCEwWrites8
import Derived.Test.YtihabmcaplnbcaaDoorRows
import Derived.Test.YtihabmcaplnbcaaDoorTie
import Derived.Test.YtihabmcaplnbcaaDoorCards
import Derived.WalkKit
import Derived.ProofKit
import Derived.OpenShut
import Derived.ShutString
import Derived.ChangeOld
import Derived.Below
import Derived.SizedLaws
import Derived.Lib.SmallJoins
import Derived.SevenTiedAt
-- the row of the law EwWrites, out of its pure statement and its walk
namespace Go.Proofs.YtihabmcaplnbcaaDoor.ewWrites
open Go.ChangeShapes Go.WideShapes Go.ChangeAt Go.RowKit Go.Joins
open Go.ChangeMaps (open_string shut_string)
theorem jLifts : (Rows.ewWritesRow.lifted == Tryd.prog.liftsFinal) = true := Go.Proofs.YtihabmcaplnbcaaDoor.jLifts
theorem jMake : (Tryd.prog.make == some Rows.ewWritesRow.make) = true := Go.Proofs.YtihabmcaplnbcaaDoor.jMake
theorem closed : joinedFacts Tryd.prog 4 Tryd.f4 Rows.ewWritesSpec Rows.ewWritesRow = true := by
  unfold joinedFacts
  simp only [Bool.and_eq_true]
  repeat' first
    | (with_reducible exact jMayEnter)
    | (with_reducible exact jLifts)
    | (with_reducible exact jMake)
    | (with_reducible exact jInPlace)
    | (with_reducible exact jUnfollowed)
    | (with_reducible exact jRecurses)
    | (with_reducible exact jNamed)
    | (with_reducible refine And.intro ?_ ?_)
    | kernel_rfl
theorem over : Rows.ewWritesRow.holds Tryd.pinned (OpenSpec.ofChange Rows.ewWritesSpec) :=
  OpenClaim.holds_of_wide 4 Tryd.f4 rfl rfl rfl rfl rfl rfl rfl ⟨rfl, rfl, rfl, rfl, rfl⟩ rfl rfl rfl rfl rfl (by kernel_rfl) Tryd.func4 closed
    (of_decide_eq_true (by kernel_rfl)) (by unfold Func.isWrapper; first | (rw [if_pos (by decide +kernel)]; kernel_rfl) | (rw [if_neg (by decide +kernel)]; exact ⟨rfl, rfl⟩))
    (fun os started H enc _ => lifted os started H enc)
theorem proved : Rows.EwWritesSaid := over
end Go.Proofs.YtihabmcaplnbcaaDoor.ewWrites
