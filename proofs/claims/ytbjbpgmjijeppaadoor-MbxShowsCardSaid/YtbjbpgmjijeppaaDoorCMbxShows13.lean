/- How any boxes are written, and any name, are as the document has them, for every input; the tables of unicode/utf8 are as the program's text lays them. -/
import Derived.Test.YtbjbpgmjijeppaaDoorCMbxShows10
import Derived.Test.YtbjbpgmjijeppaaDoorCMbxShows11
import Derived.Test.YtbjbpgmjijeppaaDoorCMbxShows12
import Derived.Test.YtbjbpgmjijeppaaDoorRows
import Derived.Test.YtbjbpgmjijeppaaDoorTie
import Derived.Test.YtbjbpgmjijeppaaDoorCards
import Derived.WalkKit
import Derived.ProofKit
import Derived.OpenShut
import Derived.ShutString
import Derived.ChangeOld
import Derived.Below
import Derived.SizedLaws
import Derived.Lib.SmallJoins
import Derived.SevenTiedAt
-- the row of the law MbxShows, out of its pure statement and its walk
namespace Go.Proofs.YtbjbpgmjijeppaaDoor.mbxShows
open Go.ChangeShapes Go.WideShapes Go.ChangeAt Go.RowKit Go.Joins
open Go.ChangeMaps (open_string shut_string)
theorem card : Rows.MbxShowsCardSaid :=
  Claim7.holds_tied_plain_at .later [] [.data, .pinned] true (true, "5ab1905190029d32c57f1e53ec0bfe4ea380f1c4b0cd97ffa7cb94781d719ca0") false
    proved (fun _ h => by cases h) (by kernel_rfl) (fun _ h => by cases h) mbxShows_row_tie rfl ⟨rfl, rfl⟩ (by kernel_rfl) rfl
    (fun f fn hf hfn => by
      obtain rfl : f = 3 := Option.some.inj ((show Tryd.prog.funcNamed "bulletin/bulletinlaw14.MbxShows" = some 3 by kernel_rfl).symm.trans hf) |>.symm
      obtain rfl : fn = Tryd.f3 := (Option.some.inj (Tryd.func3.symm.trans hfn)).symm
      exact ⟨jLooks, fun j t ht => by
        rw [Tryd.params3] at ht
        have hall : ([22, 9] : List TypeId).all (fun t => !(Tryd.prog.wantsStandIn t)) = true := by kernel_rfl
        have hm : t ∈ ([22, 9] : List TypeId) := by simpa using Array.mem_of_getElem? ht
        have h2 : Tryd.prog.wantsStandIn t = false := by simpa using List.all_eq_true.1 hall t hm
        exact h2⟩)
    jGoes
#print axioms card
end Go.Proofs.YtbjbpgmjijeppaaDoor.mbxShows
namespace Go.Proofs.YtbjbpgmjijeppaaDoor
theorem mbxShows_holds : Rows.MbxShowsCardSaid := mbxShows.card
end Go.Proofs.YtbjbpgmjijeppaaDoor
