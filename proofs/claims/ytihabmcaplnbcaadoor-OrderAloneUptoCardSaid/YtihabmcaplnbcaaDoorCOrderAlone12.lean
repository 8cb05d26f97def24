/- OrderAlone (35.7): a mail without a subject whose body is one line with an end has just the command of this line, if it has words, the first of which does not begin with >, and does not stop; of a line of at most 500 bytes without CR and LF. -/
import Derived.Test.YtihabmcaplnbcaaDoorCOrderAlone9
import Derived.Test.YtihabmcaplnbcaaDoorCOrderAlone10
import Derived.Test.YtihabmcaplnbcaaDoorCOrderAlone11
import Derived.Test.YtihabmcaplnbcaaDoorRows
import Derived.Test.YtihabmcaplnbcaaDoorTie
import Derived.Test.YtihabmcaplnbcaaDoorCards
import Derived.WalkKit
import Derived.ProofKit
import Derived.OpenShut
import Derived.ShutString
import Derived.ChangeOld
import Derived.Below
import Derived.SizedLaws
import Derived.Lib.SmallJoins
import Derived.SevenTiedAt
-- the row of the law OrderAlone, out of its pure statement and its walk
namespace Go.Proofs.YtihabmcaplnbcaaDoor.orderAlone
open Go.ChangeShapes Go.WideShapes Go.ChangeAt Go.RowKit Go.Joins
open Go.ChangeMaps (open_string shut_string)
theorem card : Rows.OrderAloneUptoCardSaid :=
  Claim7.holds_tied_plain_at .later [] [.data, .pinned] true (true, "fcbfcf6ef30b27b3f36e4357eb83f02c1aa4647ce823a2b4a3e30fdf09f0670a") false
    proved (fun _ h => by cases h) (by kernel_rfl) (fun _ h => by cases h) orderAloneUpto_row_tie rfl ⟨rfl, rfl⟩ (by kernel_rfl) rfl
    (fun f fn hf hfn => by
      obtain rfl : f = 9 := Option.some.inj ((show Tryd.prog.funcNamed "bulletin/bulletinlaw35.OrderAlone" = some 9 by kernel_rfl).symm.trans hf) |>.symm
      obtain rfl : fn = Tryd.f9 := (Option.some.inj (Tryd.func9.symm.trans hfn)).symm
      exact ⟨jLooks, fun j t ht => by
        rw [Tryd.params9] at ht
        have hall : ([9] : List TypeId).all (fun t => !(Tryd.prog.wantsStandIn t)) = true := by kernel_rfl
        have hm : t ∈ ([9] : List TypeId) := by simpa using Array.mem_of_getElem? ht
        have h2 : Tryd.prog.wantsStandIn t = false := by simpa using List.all_eq_true.1 hall t hm
        exact h2⟩)
    jGoes
#print axioms card
end Go.Proofs.YtihabmcaplnbcaaDoor.orderAlone
namespace Go.Proofs.YtihabmcaplnbcaaDoor
theorem orderAloneUpto_holds : Rows.OrderAloneUptoCardSaid := orderAlone.card
end Go.Proofs.YtihabmcaplnbcaaDoor
