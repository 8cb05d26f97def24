/- Any message with a field put is as the document has it, and the message itself is as it was; the tables of unicode/utf8 are as the program's text lays them. -/
import Derived.Test.YtbjbpgmjijeppaaGreatDoorCMsgWith11
import Derived.Test.YtbjbpgmjijeppaaGreatDoorCMsgWith12
import Derived.Test.YtbjbpgmjijeppaaGreatDoorCMsgWith13
import Derived.Test.YtbjbpgmjijeppaaGreatDoorRows
import Derived.Test.YtbjbpgmjijeppaaGreatDoorTie
import Derived.Test.YtbjbpgmjijeppaaGreatDoorCards
import Derived.WalkKit
import Derived.ProofKit
import Derived.OpenShut
import Derived.ShutString
import Derived.ChangeOld
import Derived.Below
import Derived.SizedLaws
import Derived.Lib.SmallJoins
import Derived.SevenTiedAt
-- the row of the law MsgWith, out of its pure statement and its walk
namespace Go.Proofs.YtbjbpgmjijeppaaGreatDoor.msgWith
open Go.ChangeShapes Go.WideShapes Go.ChangeAt Go.RowKit Go.Joins
open Go.ChangeMaps (open_string shut_string)
theorem card : Rows.MsgWithCardSaid :=
 Claim7.holds_tied_plain_at .later [] [.data, .pinned] true (true, "6a10943f974c725ffd78aa8bb8e4dab7144006aef16b830d2ada68a1ce5cbee9") false
  proved (fun _ h => by cases h) (by kernel_rfl) (fun _ h => by cases h) msgWith_row_tie rfl ⟨rfl, rfl⟩ (by kernel_rfl) rfl
  (fun f fn hf hfn => by
   obtain rfl : f = 8 := Option.some.inj ((show Tryz.prog.funcNamed "bulletin/bulletinlaw16.MsgWith" = some 8 by kernel_rfl).symm.trans hf) |>.symm
   obtain rfl : fn = Tryz.f8 := (Option.some.inj (Tryz.func8.symm.trans hfn)).symm
   exact ⟨jLooks, fun j t ht => by
    rw [Tryz.params8] at ht
    have hall : ([31, 67] : List TypeId).all (fun t => !(Tryz.prog.wantsStandIn t)) = true := by kernel_rfl
    have hm : t ∈ ([31, 67] : List TypeId) := by simpa using Array.mem_of_getElem? ht
    have h2 : Tryz.prog.wantsStandIn t = false := by simpa using List.all_eq_true.1 hall t hm
    exact h2⟩)
  jGoes
#print axioms card
end Go.Proofs.YtbjbpgmjijeppaaGreatDoor.msgWith
namespace Go.Proofs.YtbjbpgmjijeppaaGreatDoor
theorem msgWith_holds : Rows.MsgWithCardSaid := msgWith.card
end Go.Proofs.YtbjbpgmjijeppaaGreatDoor
