/- What any member is, gets and becomes by a bounce and when it is well, a new one, and the words of modes, are as the document has them -/
import Derived.Test.YtnnlhpmkfijppaaGreatDoorCRosterTells11
import Derived.Test.YtnnlhpmkfijppaaGreatDoorCRosterTells12
import Derived.Test.YtnnlhpmkfijppaaGreatDoorCRosterTells13
import Derived.Test.YtnnlhpmkfijppaaGreatDoorRows
import Derived.Test.YtnnlhpmkfijppaaGreatDoorTie
import Derived.Test.YtnnlhpmkfijppaaGreatDoorCards
import Derived.WalkKit
import Derived.ProofKit
import Derived.OpenShut
import Derived.ShutString
import Derived.ChangeOld
import Derived.Below
import Derived.SizedLaws
import Derived.Lib.SmallJoins
import Derived.SevenTiedAt
-- the row of the law RosterTells, out of its pure statement and its walk
namespace Go.Proofs.YtnnlhpmkfijppaaGreatDoor.rosterTells
open Go.ChangeShapes Go.WideShapes Go.ChangeAt Go.RowKit Go.Joins
open Go.ChangeMaps (open_string shut_string)
theorem card : Rows.RosterTellsCardSaid :=
 Claim7.holds_tied_plain_at .later [] [.data, .data, .data, .data, .pinned] true (true, "8a85ce62d367fd3b49efcb8ffb54dbcd0ea8fb90c6f5915ccc7e8821168d4af8") false
  proved (fun _ h => by cases h) (by kernel_rfl) (fun _ h => by cases h) rosterTells_row_tie rfl ⟨rfl, rfl⟩ (by kernel_rfl) rfl
  (fun f fn hf hfn => by
   obtain rfl : f = 4 := Option.some.inj ((show Tryz.prog.funcNamed "bulletin/bulletinlaw33.RosterTells" = some 4 by kernel_rfl).symm.trans hf) |>.symm
   obtain rfl : fn = Tryz.f4 := (Option.some.inj (Tryz.func4.symm.trans hfn)).symm
   exact ⟨jLooks, fun j t ht => by
    rw [Tryz.params4] at ht
    have hall : ([25, 3, 3, 3, 9] : List TypeId).all (fun t => !(Tryz.prog.wantsStandIn t)) = true := by kernel_rfl
    have hm : t ∈ ([25, 3, 3, 3, 9] : List TypeId) := by simpa using Array.mem_of_getElem? ht
    have h2 : Tryz.prog.wantsStandIn t = false := by simpa using List.all_eq_true.1 hall t hm
    exact h2⟩)
  jGoes
#print axioms card
end Go.Proofs.YtnnlhpmkfijppaaGreatDoor.rosterTells
namespace Go.Proofs.YtnnlhpmkfijppaaGreatDoor
theorem rosterTells_holds : Rows.RosterTellsCardSaid := rosterTells.card
end Go.Proofs.YtnnlhpmkfijppaaGreatDoor
