/- A part of the proof of this sentence: MbxReads (14.6): the boxes of any bytes, and the one box, or why there are none, are as the document has them; of at most 2000 bytes. -/
import Derived.Test.YtihabmcaplnbcaaDoorCMbxReads6
import Derived.Test.YtihabmcaplnbcaaDoorCMbxReads7
import Derived.Test.YtihabmcaplnbcaaDoorCMbxReads8
import Derived.Test.YtihabmcaplnbcaaDoorCMbxReads9
import Derived.Test.YtihabmcaplnbcaaDoorCMbxReads10
import Derived.Test.YtihabmcaplnbcaaDoorRows
import Derived.Test.YtihabmcaplnbcaaDoorTie
import Derived.Test.YtihabmcaplnbcaaDoorCards
import Derived.WalkKit
import Derived.ProofKit
import Derived.OpenShut
import Derived.ShutString
import Derived.ChangeOld
import Derived.Below
import Derived.SizedLaws
import Derived.Lib.SmallJoins
import Derived.SevenTiedAt
-- the row of the law MbxReads, out of its pure statement and its walk
namespace Go.Proofs.YtihabmcaplnbcaaDoor.mbxReads
open Go.ChangeShapes Go.WideShapes Go.ChangeAt Go.RowKit Go.Joins
open Go.ChangeMaps (open_string shut_string)
theorem jLifts : (Rows.mbxReadsRow.lifted == Tryd.prog.liftsFinal) = true := Go.Proofs.YtihabmcaplnbcaaDoor.jLifts
theorem jMake : (Tryd.prog.make == some Rows.mbxReadsRow.make) = true := Go.Proofs.YtihabmcaplnbcaaDoor.jMake
theorem closed : joinedFacts Tryd.prog 3 Tryd.f3 Rows.mbxReadsSpec Rows.mbxReadsRow = true := by
 unfold joinedFacts
 simp only [Bool.and_eq_true]
 repeat' first
  | (with_reducible exact jMayEnter)
  | (with_reducible exact jLifts)
  | (with_reducible exact jMake)
  | (with_reducible exact jInPlace)
  | (with_reducible exact jUnfollowed)
  | (with_reducible exact jRecurses)
  | (with_reducible exact jNamed)
  | (with_reducible refine And.intro ?_ ?_)
  | kernel_rfl
theorem over : Rows.mbxReadsRow.holds Tryd.pinned (OpenSpec.ofChange Rows.mbxReadsSpec) :=
 OpenClaim.holds_of_wide 3 Tryd.f3 rfl rfl rfl rfl rfl rfl rfl ⟨rfl, rfl, rfl, rfl, rfl⟩ rfl rfl rfl rfl rfl (by kernel_rfl) Tryd.func3 closed
  (of_decide_eq_true (by kernel_rfl)) (by unfold Func.isWrapper; first | (rw [if_pos (by decide +kernel)]; kernel_rfl) | (rw [if_neg (by decide +kernel)]; exact ⟨rfl, rfl⟩))
  (fun os started H enc _ => lifted os started H enc)
theorem proved : Rows.MbxReadsSaid := over
end Go.Proofs.YtihabmcaplnbcaaDoor.mbxReads
