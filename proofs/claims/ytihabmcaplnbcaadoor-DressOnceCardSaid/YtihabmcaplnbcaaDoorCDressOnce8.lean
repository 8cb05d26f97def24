/- A part of the proof of this sentence: DressOnce (36.1, 36.5): a subject with a list's tag has it, as it is read, in words, and put again it is as it was; of a list's name, a subject of at most 500 bytes. -/
import Derived.Test.YtihabmcaplnbcaaDoorCDressOnce3
import Derived.Test.YtihabmcaplnbcaaDoorCDressOnce4
import Derived.Test.YtihabmcaplnbcaaDoorCDressOnce5
import Derived.Test.YtihabmcaplnbcaaDoorCDressOnce6
import Derived.Test.YtihabmcaplnbcaaDoorCDressOnce7
import Derived.Test.YtihabmcaplnbcaaDoorRows
import Derived.Test.YtihabmcaplnbcaaDoorTie
import Derived.Test.YtihabmcaplnbcaaDoorCards
import Derived.WalkKit
import Derived.ProofKit
import Derived.OpenShut
import Derived.ShutString
import Derived.ChangeOld
import Derived.Below
import Derived.SizedLaws
import Derived.Lib.SmallJoins
import Derived.SevenTiedAt
-- the row of the law DressOnce, out of its pure statement and its walk
namespace Go.Proofs.YtihabmcaplnbcaaDoor.dressOnce
open Go.ChangeShapes Go.WideShapes Go.ChangeAt Go.RowKit Go.Joins
open Go.ChangeMaps (open_string shut_string)
theorem jLifts : (Rows.dressOnceRow.lifted == Tryd.prog.liftsFinal) = true := Go.Proofs.YtihabmcaplnbcaaDoor.jLifts
theorem jMake : (Tryd.prog.make == some Rows.dressOnceRow.make) = true := Go.Proofs.YtihabmcaplnbcaaDoor.jMake
theorem closed : joinedFacts Tryd.prog 8 Tryd.f8 Rows.dressOnceSpec Rows.dressOnceRow = true := by
  unfold joinedFacts
  simp only [Bool.and_eq_true]
  repeat' first
    | (with_reducible exact jMayEnter)
    | (with_reducible exact jLifts)
    | (with_reducible exact jMake)
    | (with_reducible exact jInPlace)
    | (with_reducible exact jUnfollowed)
    | (with_reducible exact jRecurses)
    | (with_reducible exact jNamed)
    | (with_reducible refine And.intro ?_ ?_)
    | kernel_rfl
theorem over : Rows.dressOnceRow.holds Tryd.pinned (OpenSpec.ofChange Rows.dressOnceSpec) :=
  OpenClaim.holds_of_wide 8 Tryd.f8 rfl rfl rfl rfl rfl rfl rfl ⟨rfl, rfl, rfl, rfl, rfl⟩ rfl rfl rfl rfl rfl (by kernel_rfl) Tryd.func8 closed
    (of_decide_eq_true (by kernel_rfl)) (by unfold Func.isWrapper; first | (rw [if_pos (by decide +kernel)]; kernel_rfl) | (rw [if_neg (by decide +kernel)]; exact ⟨rfl, rfl⟩))
    (fun os started H enc _ => lifted os started H enc)
theorem proved : Rows.DressOnceSaid := over
end Go.Proofs.YtihabmcaplnbcaaDoor.dressOnce
