/- OrderReads (35.5): the commands of any mail, as a member may send it, are as the document reads them; of at most 30 fields, names of at most 200, values and body of at most 3000 bytes. -/
import Derived.Test.YtihabmcaplnbcaaGreatDoorCOrderReads11
import Derived.Test.YtihabmcaplnbcaaGreatDoorCOrderReads12
import Derived.Test.YtihabmcaplnbcaaGreatDoorCOrderReads13
import Derived.Test.YtihabmcaplnbcaaGreatDoorRows
import Derived.Test.YtihabmcaplnbcaaGreatDoorTie
import Derived.Test.YtihabmcaplnbcaaGreatDoorCards
import Derived.WalkKit
import Derived.ProofKit
import Derived.OpenShut
import Derived.ShutString
import Derived.ChangeOld
import Derived.Below
import Derived.SizedLaws
import Derived.Lib.SmallJoins
import Derived.SevenTiedAt
-- the row of the law OrderReads, out of its pure statement and its walk
namespace Go.Proofs.YtihabmcaplnbcaaGreatDoor.orderReads
open Go.ChangeShapes Go.WideShapes Go.ChangeAt Go.RowKit Go.Joins
open Go.ChangeMaps (open_string shut_string)
theorem card : Rows.OrderReadsCardSaid :=
 Claim7.holds_tied_plain_at .later [] [.data, .pinned] true (true, "9f08366bb00d694961845927afbb847f2e28081e971a0b3d49537d08d9e28e86") false
  proved (fun _ h => by cases h) (by kernel_rfl) (fun _ h => by cases h) orderReads_row_tie rfl ⟨rfl, rfl⟩ (by kernel_rfl) rfl
  (fun f fn hf hfn => by
   obtain rfl : f = 5 := Option.some.inj ((show Tryz.prog.funcNamed "bulletin/bulletinlaw35.OrderReads" = some 5 by kernel_rfl).symm.trans hf) |>.symm
   obtain rfl : fn = Tryz.f5 := (Option.some.inj (Tryz.func5.symm.trans hfn)).symm
   exact ⟨jLooks, fun j t ht => by
    rw [Tryz.params5] at ht
    have hall : ([24] : List TypeId).all (fun t => !(Tryz.prog.wantsStandIn t)) = true := by kernel_rfl
    have hm : t ∈ ([24] : List TypeId) := by simpa using Array.mem_of_getElem? ht
    have h2 : Tryz.prog.wantsStandIn t = false := by simpa using List.all_eq_true.1 hall t hm
    exact h2⟩)
  jGoes
#print axioms card
end Go.Proofs.YtihabmcaplnbcaaGreatDoor.orderReads
namespace Go.Proofs.YtihabmcaplnbcaaGreatDoor
theorem orderReads_holds : Rows.OrderReadsCardSaid := orderReads.card
end Go.Proofs.YtihabmcaplnbcaaGreatDoor
