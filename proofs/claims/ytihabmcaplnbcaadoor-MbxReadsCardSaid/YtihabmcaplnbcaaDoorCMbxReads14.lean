/- MbxReads (14.6): the boxes of any bytes, and the one box, or why there are none, are as the document has them; of at most 2000 bytes. -/
import Derived.Test.YtihabmcaplnbcaaDoorCMbxReads11
import Derived.Test.YtihabmcaplnbcaaDoorCMbxReads12
import Derived.Test.YtihabmcaplnbcaaDoorCMbxReads13
import Derived.Test.YtihabmcaplnbcaaDoorRows
import Derived.Test.YtihabmcaplnbcaaDoorTie
import Derived.Test.YtihabmcaplnbcaaDoorCards
import Derived.WalkKit
import Derived.ProofKit
import Derived.OpenShut
import Derived.ShutString
import Derived.ChangeOld
import Derived.Below
import Derived.SizedLaws
import Derived.Lib.SmallJoins
import Derived.SevenTiedAt
-- the row of the law MbxReads, out of its pure statement and its walk
namespace Go.Proofs.YtihabmcaplnbcaaDoor.mbxReads
open Go.ChangeShapes Go.WideShapes Go.ChangeAt Go.RowKit Go.Joins
open Go.ChangeMaps (open_string shut_string)
theorem card : Rows.MbxReadsCardSaid :=
 Claim7.holds_tied_plain_at .later [] [.data, .pinned] true (true, "fcbfcf6ef30b27b3f36e4357eb83f02c1aa4647ce823a2b4a3e30fdf09f0670a") false
  proved (fun _ h => by cases h) (by kernel_rfl) (fun _ h => by cases h) mbxReads_row_tie rfl ⟨rfl, rfl⟩ (by kernel_rfl) rfl
  (fun f fn hf hfn => by
   obtain rfl : f = 3 := Option.some.inj ((show Tryd.prog.funcNamed "bulletin/bulletinlaw14.MbxReads" = some 3 by kernel_rfl).symm.trans hf) |>.symm
   obtain rfl : fn = Tryd.f3 := (Option.some.inj (Tryd.func3.symm.trans hfn)).symm
   exact ⟨jLooks, fun j t ht => by
    rw [Tryd.params3] at ht
    have hall : ([9] : List TypeId).all (fun t => !(Tryd.prog.wantsStandIn t)) = true := by kernel_rfl
    have hm : t ∈ ([9] : List TypeId) := by simpa using Array.mem_of_getElem? ht
    have h2 : Tryd.prog.wantsStandIn t = false := by simpa using List.all_eq_true.1 hall t hm
    exact h2⟩)
  jGoes
#print axioms card
end Go.Proofs.YtihabmcaplnbcaaDoor.mbxReads
namespace Go.Proofs.YtihabmcaplnbcaaDoor
theorem mbxReads_holds : Rows.MbxReadsCardSaid := mbxReads.card
end Go.Proofs.YtihabmcaplnbcaaDoor
