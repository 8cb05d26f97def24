/- A post that bears the list's id is refused -/
import Derived.Test.YtcndmhpeolbepaaGreatDoorCRightsLoop11
import Derived.Test.YtcndmhpeolbepaaGreatDoorCRightsLoop12
import Derived.Test.YtcndmhpeolbepaaGreatDoorCRightsLoop13
import Derived.Test.YtcndmhpeolbepaaGreatDoorRows
import Derived.Test.YtcndmhpeolbepaaGreatDoorTie
import Derived.Test.YtcndmhpeolbepaaGreatDoorCards
import Derived.WalkKit
import Derived.ProofKit
import Derived.OpenShut
import Derived.ShutString
import Derived.ChangeOld
import Derived.Below
import Derived.SizedLaws
import Derived.Lib.SmallJoins
import Derived.SevenTiedAt
-- the row of the law RightsLoop, out of its pure statement and its walk
namespace Go.Proofs.YtcndmhpeolbepaaGreatDoor.rightsLoop
open Go.ChangeShapes Go.WideShapes Go.ChangeAt Go.RowKit Go.Joins
open Go.ChangeMaps (open_string shut_string)
theorem card : Rows.RightsLoopCardSaid :=
 Claim7.holds_tied_plain_at .later [] [.data, .pinned] true (true, "1e6d8394a051b28535c77d3f6552e1f6b80a2bb61c489764fad6dfb63e0f8f25") false
  proved (fun _ h => by cases h) (by kernel_rfl) (fun _ h => by cases h) rightsLoop_row_tie rfl ⟨rfl, rfl⟩ (by kernel_rfl) rfl
  (fun f fn hf hfn => by
   obtain rfl : f = 5 := Option.some.inj ((show Tryz.prog.funcNamed "bulletin/bulletinlaw34.RightsLoop" = some 5 by kernel_rfl).symm.trans hf) |>.symm
   obtain rfl : fn = Tryz.f5 := (Option.some.inj (Tryz.func5.symm.trans hfn)).symm
   exact ⟨jLooks, fun j t ht => by
    rw [Tryz.params5] at ht
    have hall : ([9, 39, 34, 4, 9] : List TypeId).all (fun t => !(Tryz.prog.wantsStandIn t)) = true := by kernel_rfl
    have hm : t ∈ ([9, 39, 34, 4, 9] : List TypeId) := by simpa using Array.mem_of_getElem? ht
    have h2 : Tryz.prog.wantsStandIn t = false := by simpa using List.all_eq_true.1 hall t hm
    exact h2⟩)
  jGoes
#print axioms card
end Go.Proofs.YtcndmhpeolbepaaGreatDoor.rightsLoop
namespace Go.Proofs.YtcndmhpeolbepaaGreatDoor
theorem rightsLoop_holds : Rows.RightsLoopCardSaid := rightsLoop.card
end Go.Proofs.YtcndmhpeolbepaaGreatDoor
