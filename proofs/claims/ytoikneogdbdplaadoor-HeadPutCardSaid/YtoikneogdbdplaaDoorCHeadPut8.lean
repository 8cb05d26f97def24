/- A part of the proof of this sentence: the tables of unicode/utf8 are as the program's text lays them. -/
import Derived.Test.YtoikneogdbdplaaDoorCHeadPut3
import Derived.Test.YtoikneogdbdplaaDoorCHeadPut4
import Derived.Test.YtoikneogdbdplaaDoorCHeadPut5
import Derived.Test.YtoikneogdbdplaaDoorCHeadPut6
import Derived.Test.YtoikneogdbdplaaDoorCHeadPut7
import Derived.Test.YtoikneogdbdplaaDoorRows
import Derived.Test.YtoikneogdbdplaaDoorTie
import Derived.Test.YtoikneogdbdplaaDoorCards
import Derived.WalkKit
import Derived.ProofKit
import Derived.OpenShut
import Derived.ShutString
import Derived.ChangeOld
import Derived.Below
import Derived.SizedLaws
import Derived.Lib.SmallJoins
import Derived.SevenTiedAt
-- the row of the law HeadPut, out of its pure statement and its walk
namespace Go.Proofs.YtoikneogdbdplaaDoor.headPut
open Go.ChangeShapes Go.WideShapes Go.ChangeAt Go.RowKit Go.Joins
open Go.ChangeMaps (open_string shut_string)
theorem jLifts : (Rows.headPutRow.lifted == Tryd.prog.liftsFinal) = true := Go.Proofs.YtoikneogdbdplaaDoor.jLifts
theorem jMake : (Tryd.prog.make == some Rows.headPutRow.make) = true := Go.Proofs.YtoikneogdbdplaaDoor.jMake
theorem closed : joinedFacts Tryd.prog 3 Tryd.f3 Rows.headPutSpec Rows.headPutRow = true := by
  unfold joinedFacts
  simp only [Bool.and_eq_true]
  repeat' first
    | (with_reducible exact jMayEnter)
    | (with_reducible exact jLifts)
    | (with_reducible exact jMake)
    | (with_reducible exact jInPlace)
    | (with_reducible exact jUnfollowed)
    | (with_reducible exact jRecurses)
    | (with_reducible exact jNamed)
    | (with_reducible refine And.intro ?_ ?_)
    | kernel_rfl
theorem over : Rows.headPutRow.holds Tryd.pinned (OpenSpec.ofChange Rows.headPutSpec) :=
  OpenClaim.holds_of_wide 3 Tryd.f3 rfl rfl rfl rfl rfl rfl rfl ⟨rfl, rfl, rfl, rfl, rfl⟩ rfl rfl rfl rfl rfl (by kernel_rfl) Tryd.func3 closed
    (of_decide_eq_true (by kernel_rfl)) (by unfold Func.isWrapper; first | (rw [if_pos (by decide +kernel)]; kernel_rfl) | (rw [if_neg (by decide +kernel)]; exact ⟨rfl, rfl⟩))
    (fun os started H enc _ => lifted os started H enc)
theorem proved : Rows.HeadPutSaid := over
end Go.Proofs.YtoikneogdbdplaaDoor.headPut
