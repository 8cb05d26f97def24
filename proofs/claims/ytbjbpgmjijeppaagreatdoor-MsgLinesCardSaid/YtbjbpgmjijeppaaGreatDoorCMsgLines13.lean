/- The lines of any body are as the document has them; the tables of unicode/utf8 are as the program's text lays them. -/
import Derived.Test.YtbjbpgmjijeppaaGreatDoorCMsgLines10
import Derived.Test.YtbjbpgmjijeppaaGreatDoorCMsgLines11
import Derived.Test.YtbjbpgmjijeppaaGreatDoorCMsgLines12
import Derived.Test.YtbjbpgmjijeppaaGreatDoorRows
import Derived.Test.YtbjbpgmjijeppaaGreatDoorTie
import Derived.Test.YtbjbpgmjijeppaaGreatDoorCards
import Derived.WalkKit
import Derived.ProofKit
import Derived.OpenShut
import Derived.ShutString
import Derived.ChangeOld
import Derived.Below
import Derived.SizedLaws
import Derived.Lib.SmallJoins
import Derived.SevenTiedAt
-- the row of the law MsgLines, out of its pure statement and its walk
namespace Go.Proofs.YtbjbpgmjijeppaaGreatDoor.msgLines
open Go.ChangeShapes Go.WideShapes Go.ChangeAt Go.RowKit Go.Joins
open Go.ChangeMaps (open_string shut_string)
theorem card : Rows.MsgLinesCardSaid :=
  Claim7.holds_tied_plain_at .later [] [.data, .pinned] true (true, "6a10943f974c725ffd78aa8bb8e4dab7144006aef16b830d2ada68a1ce5cbee9") false
    proved (fun _ h => by cases h) (by kernel_rfl) (fun _ h => by cases h) msgLines_row_tie rfl ⟨rfl, rfl⟩ (by kernel_rfl) rfl
    (fun f fn hf hfn => by
      obtain rfl : f = 4 := Option.some.inj ((show Tryz.prog.funcNamed "bulletin/bulletinlaw16.MsgLines" = some 4 by kernel_rfl).symm.trans hf) |>.symm
      obtain rfl : fn = Tryz.f4 := (Option.some.inj (Tryz.func4.symm.trans hfn)).symm
      exact ⟨jLooks, fun j t ht => by
        rw [Tryz.params4] at ht
        have hall : ([31] : List TypeId).all (fun t => !(Tryz.prog.wantsStandIn t)) = true := by kernel_rfl
        have hm : t ∈ ([31] : List TypeId) := by simpa using Array.mem_of_getElem? ht
        have h2 : Tryz.prog.wantsStandIn t = false := by simpa using List.all_eq_true.1 hall t hm
        exact h2⟩)
    jGoes
#print axioms card
end Go.Proofs.YtbjbpgmjijeppaaGreatDoor.msgLines
namespace Go.Proofs.YtbjbpgmjijeppaaGreatDoor
theorem msgLines_holds : Rows.MsgLinesCardSaid := msgLines.card
end Go.Proofs.YtbjbpgmjijeppaaGreatDoor
