/- the tables of unicode/utf8 are as the program's text lays them. -/
import Derived.Test.YtgaaogijfikfeaaDoorCMimeTypeBack12
import Derived.Test.YtgaaogijfikfeaaDoorCMimeTypeBack13
import Derived.Test.YtgaaogijfikfeaaDoorCMimeTypeBack14
import Derived.Test.YtgaaogijfikfeaaDoorRows
import Derived.Test.YtgaaogijfikfeaaDoorTie
import Derived.Test.YtgaaogijfikfeaaDoorCards
import Derived.WalkKit
import Derived.ProofKit
import Derived.OpenShut
import Derived.ShutString
import Derived.ChangeOld
import Derived.Below
import Derived.SizedLaws
import Derived.Lib.SmallJoins
import Derived.SevenTiedAt
-- the row of the law MimeTypeBack, out of its pure statement and its walk
namespace Go.Proofs.YtgaaogijfikfeaaDoor.mimeTypeBack
open Go.ChangeShapes Go.WideShapes Go.ChangeAt Go.RowKit Go.Joins
open Go.ChangeMaps (open_string shut_string)
theorem card : Rows.MimeTypeBackCardSaid :=
  Claim7.holds_tied_plain_at .later [] [.data, .pinned] true (true, "ff06a6209d4827d01f17b5a7c92e31574bb234be6f05e3e7c37ebc447a95fa22") false
    proved (fun _ h => by cases h) (by kernel_rfl) (fun _ h => by cases h) mimeTypeBack_row_tie rfl ⟨rfl, rfl⟩ (by kernel_rfl) rfl
    (fun f fn hf hfn => by
      obtain rfl : f = 15 := Option.some.inj ((show Tryd.prog.funcNamed "bulletin/bulletinlaw20.MimeTypeBack" = some 15 by kernel_rfl).symm.trans hf) |>.symm
      obtain rfl : fn = Tryd.f15 := (Option.some.inj (Tryd.func15.symm.trans hfn)).symm
      exact ⟨jLooks, fun j t ht => by
        rw [Tryd.params15] at ht
        have hall : ([87, 9] : List TypeId).all (fun t => !(Tryd.prog.wantsStandIn t)) = true := by kernel_rfl
        have hm : t ∈ ([87, 9] : List TypeId) := by simpa using Array.mem_of_getElem? ht
        have h2 : Tryd.prog.wantsStandIn t = false := by simpa using List.all_eq_true.1 hall t hm
        exact h2⟩)
    jGoes
#print axioms card
end Go.Proofs.YtgaaogijfikfeaaDoor.mimeTypeBack
namespace Go.Proofs.YtgaaogijfikfeaaDoor
theorem mimeTypeBack_holds : Rows.MimeTypeBackCardSaid := mimeTypeBack.card
end Go.Proofs.YtgaaogijfikfeaaDoor
