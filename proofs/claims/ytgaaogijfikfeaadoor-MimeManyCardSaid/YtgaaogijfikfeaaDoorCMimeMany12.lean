/- the tables of unicode/utf8 are as the program's text lays them. -/
import Derived.Test.YtgaaogijfikfeaaDoorCMimeMany9
import Derived.Test.YtgaaogijfikfeaaDoorCMimeMany10
import Derived.Test.YtgaaogijfikfeaaDoorCMimeMany11
import Derived.Test.YtgaaogijfikfeaaDoorRows
import Derived.Test.YtgaaogijfikfeaaDoorTie
import Derived.Test.YtgaaogijfikfeaaDoorCards
import Derived.WalkKit
import Derived.ProofKit
import Derived.OpenShut
import Derived.ShutString
import Derived.ChangeOld
import Derived.Below
import Derived.SizedLaws
import Derived.Lib.SmallJoins
import Derived.SevenTiedAt
-- the row of the law MimeMany, out of its pure statement and its walk
namespace Go.Proofs.YtgaaogijfikfeaaDoor.mimeMany
open Go.ChangeShapes Go.WideShapes Go.ChangeAt Go.RowKit Go.Joins
open Go.ChangeMaps (open_string shut_string)
theorem card : Rows.MimeManyCardSaid :=
  Claim7.holds_tied_plain_at .later [] [.data, .pinned] true (true, "ff06a6209d4827d01f17b5a7c92e31574bb234be6f05e3e7c37ebc447a95fa22") false
    proved (fun _ h => by cases h) (by kernel_rfl) (fun _ h => by cases h) mimeMany_row_tie rfl ⟨rfl, rfl⟩ (by kernel_rfl) rfl
    (fun f fn hf hfn => by
      obtain rfl : f = 16 := Option.some.inj ((show Tryd.prog.funcNamed "bulletin/bulletinlaw20.MimeMany" = some 16 by kernel_rfl).symm.trans hf) |>.symm
      obtain rfl : fn = Tryd.f16 := (Option.some.inj (Tryd.func16.symm.trans hfn)).symm
      exact ⟨jLooks, fun j t ht => by
        rw [Tryd.params16] at ht
        have hall : ([3, 9] : List TypeId).all (fun t => !(Tryd.prog.wantsStandIn t)) = true := by kernel_rfl
        have hm : t ∈ ([3, 9] : List TypeId) := by simpa using Array.mem_of_getElem? ht
        have h2 : Tryd.prog.wantsStandIn t = false := by simpa using List.all_eq_true.1 hall t hm
        exact h2⟩)
    jGoes
#print axioms card
end Go.Proofs.YtgaaogijfikfeaaDoor.mimeMany
namespace Go.Proofs.YtgaaogijfikfeaaDoor
theorem mimeMany_holds : Rows.MimeManyCardSaid := mimeMany.card
end Go.Proofs.YtgaaogijfikfeaaDoor
