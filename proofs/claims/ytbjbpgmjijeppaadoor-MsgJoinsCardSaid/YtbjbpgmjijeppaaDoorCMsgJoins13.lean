/- The lines of a body, each with its end behind it, are the body, but for an end that may lack at its end; none of them has an end in it; the tables of unicode/utf8 are as the program's text lays them. -/
import Derived.Test.YtbjbpgmjijeppaaDoorCMsgJoins10
import Derived.Test.YtbjbpgmjijeppaaDoorCMsgJoins11
import Derived.Test.YtbjbpgmjijeppaaDoorCMsgJoins12
import Derived.Test.YtbjbpgmjijeppaaDoorRows
import Derived.Test.YtbjbpgmjijeppaaDoorTie
import Derived.Test.YtbjbpgmjijeppaaDoorCards
import Derived.WalkKit
import Derived.ProofKit
import Derived.OpenShut
import Derived.ShutString
import Derived.ChangeOld
import Derived.Below
import Derived.SizedLaws
import Derived.Lib.SmallJoins
import Derived.SevenTiedAt
-- the row of the law MsgJoins, out of its pure statement and its walk
namespace Go.Proofs.YtbjbpgmjijeppaaDoor.msgJoins
open Go.ChangeShapes Go.WideShapes Go.ChangeAt Go.RowKit Go.Joins
open Go.ChangeMaps (open_string shut_string)
theorem card : Rows.MsgJoinsCardSaid :=
  Claim7.holds_tied_plain_at .later [] [.data, .pinned] true (true, "5ab1905190029d32c57f1e53ec0bfe4ea380f1c4b0cd97ffa7cb94781d719ca0") false
    proved (fun _ h => by cases h) (by kernel_rfl) (fun _ h => by cases h) msgJoins_row_tie rfl ⟨rfl, rfl⟩ (by kernel_rfl) rfl
    (fun f fn hf hfn => by
      obtain rfl : f = 8 := Option.some.inj ((show Tryd.prog.funcNamed "bulletin/bulletinlaw16.MsgJoins" = some 8 by kernel_rfl).symm.trans hf) |>.symm
      obtain rfl : fn = Tryd.f8 := (Option.some.inj (Tryd.func8.symm.trans hfn)).symm
      exact ⟨jLooks, fun j t ht => by
        rw [Tryd.params8] at ht
        have hall : ([9] : List TypeId).all (fun t => !(Tryd.prog.wantsStandIn t)) = true := by kernel_rfl
        have hm : t ∈ ([9] : List TypeId) := by simpa using Array.mem_of_getElem? ht
        have h2 : Tryd.prog.wantsStandIn t = false := by simpa using List.all_eq_true.1 hall t hm
        exact h2⟩)
    jGoes
#print axioms card
end Go.Proofs.YtbjbpgmjijeppaaDoor.msgJoins
namespace Go.Proofs.YtbjbpgmjijeppaaDoor
theorem msgJoins_holds : Rows.MsgJoinsCardSaid := msgJoins.card
end Go.Proofs.YtbjbpgmjijeppaaDoor
