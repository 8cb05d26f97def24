/- the tables of unicode/utf8 are as the program's text lays them. -/
import Derived.Test.YtoikneogdbdplaaDoorCHeadPut8
import Derived.Test.YtoikneogdbdplaaDoorCHeadPut9
import Derived.Test.YtoikneogdbdplaaDoorCHeadPut10
import Derived.Test.YtoikneogdbdplaaDoorRows
import Derived.Test.YtoikneogdbdplaaDoorTie
import Derived.Test.YtoikneogdbdplaaDoorCards
import Derived.WalkKit
import Derived.ProofKit
import Derived.OpenShut
import Derived.ShutString
import Derived.ChangeOld
import Derived.Below
import Derived.SizedLaws
import Derived.Lib.SmallJoins
import Derived.SevenTiedAt
-- the row of the law HeadPut, out of its pure statement and its walk
namespace Go.Proofs.YtoikneogdbdplaaDoor.headPut
open Go.ChangeShapes Go.WideShapes Go.ChangeAt Go.RowKit Go.Joins
open Go.ChangeMaps (open_string shut_string)
theorem card : Rows.HeadPutCardSaid :=
  Claim7.holds_tied_plain_at .later [] [.data, .pinned] true (true, "409ee11d342a54a3dcc3d9a990ffa0eaaa4b0555f796091a5b7f000be13e4909") false
    proved (fun _ h => by cases h) (by kernel_rfl) (fun _ h => by cases h) headPut_row_tie rfl ⟨rfl, rfl⟩ (by kernel_rfl) rfl
    (fun f fn hf hfn => by
      obtain rfl : f = 3 := Option.some.inj ((show Tryd.prog.funcNamed "bulletin/bulletinlaw15.HeadPut" = some 3 by kernel_rfl).symm.trans hf) |>.symm
      obtain rfl : fn = Tryd.f3 := (Option.some.inj (Tryd.func3.symm.trans hfn)).symm
      exact ⟨jLooks, fun j t ht => by
        rw [Tryd.params3] at ht
        have hall : ([22, 24, 9] : List TypeId).all (fun t => !(Tryd.prog.wantsStandIn t)) = true := by kernel_rfl
        have hm : t ∈ ([22, 24, 9] : List TypeId) := by simpa using Array.mem_of_getElem? ht
        have h2 : Tryd.prog.wantsStandIn t = false := by simpa using List.all_eq_true.1 hall t hm
        exact h2⟩)
    jGoes
#print axioms card
end Go.Proofs.YtoikneogdbdplaaDoor.headPut
namespace Go.Proofs.YtoikneogdbdplaaDoor
theorem headPut_holds : Rows.HeadPutCardSaid := headPut.card
end Go.Proofs.YtoikneogdbdplaaDoor
