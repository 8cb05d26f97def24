/- DressOnce (36.1, 36.5): a subject with a list's tag has it, as it is read, in words, and put again it is as it was; of a list's name, a subject of at most 500 bytes. -/
import Derived.Test.YtihabmcaplnbcaaDoorCDressOnce8
import Derived.Test.YtihabmcaplnbcaaDoorCDressOnce9
import Derived.Test.YtihabmcaplnbcaaDoorCDressOnce10
import Derived.Test.YtihabmcaplnbcaaDoorRows
import Derived.Test.YtihabmcaplnbcaaDoorTie
import Derived.Test.YtihabmcaplnbcaaDoorCards
import Derived.WalkKit
import Derived.ProofKit
import Derived.OpenShut
import Derived.ShutString
import Derived.ChangeOld
import Derived.Below
import Derived.SizedLaws
import Derived.Lib.SmallJoins
import Derived.SevenTiedAt
-- the row of the law DressOnce, out of its pure statement and its walk
namespace Go.Proofs.YtihabmcaplnbcaaDoor.dressOnce
open Go.ChangeShapes Go.WideShapes Go.ChangeAt Go.RowKit Go.Joins
open Go.ChangeMaps (open_string shut_string)
theorem card : Rows.DressOnceCardSaid :=
  Claim7.holds_tied_plain_at .later [] [.data, .pinned] true (true, "fcbfcf6ef30b27b3f36e4357eb83f02c1aa4647ce823a2b4a3e30fdf09f0670a") false
    proved (fun _ h => by cases h) (by kernel_rfl) (fun _ h => by cases h) dressOnce_row_tie rfl ⟨rfl, rfl⟩ (by kernel_rfl) rfl
    (fun f fn hf hfn => by
      obtain rfl : f = 8 := Option.some.inj ((show Tryd.prog.funcNamed "bulletin/bulletinlaw36.DressOnce" = some 8 by kernel_rfl).symm.trans hf) |>.symm
      obtain rfl : fn = Tryd.f8 := (Option.some.inj (Tryd.func8.symm.trans hfn)).symm
      exact ⟨jLooks, fun j t ht => by
        rw [Tryd.params8] at ht
        have hall : ([9, 9] : List TypeId).all (fun t => !(Tryd.prog.wantsStandIn t)) = true := by kernel_rfl
        have hm : t ∈ ([9, 9] : List TypeId) := by simpa using Array.mem_of_getElem? ht
        have h2 : Tryd.prog.wantsStandIn t = false := by simpa using List.all_eq_true.1 hall t hm
        exact h2⟩)
    jGoes
#print axioms card
end Go.Proofs.YtihabmcaplnbcaaDoor.dressOnce
namespace Go.Proofs.YtihabmcaplnbcaaDoor
theorem dressOnce_holds : Rows.DressOnceCardSaid := dressOnce.card
end Go.Proofs.YtihabmcaplnbcaaDoor
