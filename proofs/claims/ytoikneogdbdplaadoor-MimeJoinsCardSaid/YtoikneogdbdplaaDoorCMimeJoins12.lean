/- the tables of unicode/utf8, of math/bits and of internal/strconv are as the program's text lays them. -/
import Derived.Test.YtoikneogdbdplaaDoorCMimeJoins9
import Derived.Test.YtoikneogdbdplaaDoorCMimeJoins10
import Derived.Test.YtoikneogdbdplaaDoorCMimeJoins11
import Derived.Test.YtoikneogdbdplaaDoorRows
import Derived.Test.YtoikneogdbdplaaDoorTie
import Derived.Test.YtoikneogdbdplaaDoorCards
import Derived.WalkKit
import Derived.ProofKit
import Derived.OpenShut
import Derived.ShutString
import Derived.ChangeOld
import Derived.Below
import Derived.SizedLaws
import Derived.Lib.SmallJoins
import Derived.SevenTiedAt
-- the row of the law MimeJoins, out of its pure statement and its walk
namespace Go.Proofs.YtoikneogdbdplaaDoor.mimeJoins
open Go.ChangeShapes Go.WideShapes Go.ChangeAt Go.RowKit Go.Joins
open Go.ChangeMaps (open_string shut_string)
theorem card : Rows.MimeJoinsCardSaid :=
  Claim7.holds_tied_plain_at .later [] [.data, .data, .data, .data, .pinned] true (true, "409ee11d342a54a3dcc3d9a990ffa0eaaa4b0555f796091a5b7f000be13e4909") false
    proved (fun _ h => by cases h) (by kernel_rfl) (fun _ h => by cases h) mimeJoins_row_tie rfl ⟨rfl, rfl⟩ (by kernel_rfl) rfl
    (fun f fn hf hfn => by
      obtain rfl : f = 9 := Option.some.inj ((show Tryd.prog.funcNamed "bulletin/bulletinlaw20.MimeJoins" = some 9 by kernel_rfl).symm.trans hf) |>.symm
      obtain rfl : fn = Tryd.f9 := (Option.some.inj (Tryd.func9.symm.trans hfn)).symm
      exact ⟨jLooks, fun j t ht => by
        rw [Tryd.params9] at ht
        have hall : ([32, 9] : List TypeId).all (fun t => !(Tryd.prog.wantsStandIn t)) = true := by kernel_rfl
        have hm : t ∈ ([32, 9] : List TypeId) := by simpa using Array.mem_of_getElem? ht
        have h2 : Tryd.prog.wantsStandIn t = false := by simpa using List.all_eq_true.1 hall t hm
        exact h2⟩)
    jGoes
#print axioms card
end Go.Proofs.YtoikneogdbdplaaDoor.mimeJoins
namespace Go.Proofs.YtoikneogdbdplaaDoor
theorem mimeJoins_holds : Rows.MimeJoinsCardSaid := mimeJoins.card
end Go.Proofs.YtoikneogdbdplaaDoor
