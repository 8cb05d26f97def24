/- A right member is read again of its text, and what any text is read as is right and has just that text -/
import Derived.Test.YtnnlhpmkfijppaaDoorCRosterBack11
import Derived.Test.YtnnlhpmkfijppaaDoorCRosterBack12
import Derived.Test.YtnnlhpmkfijppaaDoorCRosterBack13
import Derived.Test.YtnnlhpmkfijppaaDoorRows
import Derived.Test.YtnnlhpmkfijppaaDoorTie
import Derived.Test.YtnnlhpmkfijppaaDoorCards
import Derived.WalkKit
import Derived.ProofKit
import Derived.OpenShut
import Derived.ShutString
import Derived.ChangeOld
import Derived.Below
import Derived.SizedLaws
import Derived.Lib.SmallJoins
import Derived.SevenTiedAt
-- the row of the law RosterBack, out of its pure statement and its walk
namespace Go.Proofs.YtnnlhpmkfijppaaDoor.rosterBack
open Go.ChangeShapes Go.WideShapes Go.ChangeAt Go.RowKit Go.Joins
open Go.ChangeMaps (open_string shut_string)
theorem card : Rows.RosterBackCardSaid :=
 Claim7.holds_tied_plain_at .later [] [.data, .data, .data, .data, .pinned] true (true, "32918954854957ee7607479521e4889610dbe42e915a8a5d67c51aae53a54e98") false
  proved (fun _ h => by cases h) (by kernel_rfl) (fun _ h => by cases h) rosterBack_row_tie rfl ⟨rfl, rfl⟩ (by kernel_rfl) rfl
  (fun f fn hf hfn => by
   obtain rfl : f = 3 := Option.some.inj ((show Tryd.prog.funcNamed "bulletin/bulletinlaw33.RosterBack" = some 3 by kernel_rfl).symm.trans hf) |>.symm
   obtain rfl : fn = Tryd.f3 := (Option.some.inj (Tryd.func3.symm.trans hfn)).symm
   exact ⟨jLooks, fun j t ht => by
    rw [Tryd.params3] at ht
    have hall : ([25, 9] : List TypeId).all (fun t => !(Tryd.prog.wantsStandIn t)) = true := by kernel_rfl
    have hm : t ∈ ([25, 9] : List TypeId) := by simpa using Array.mem_of_getElem? ht
    have h2 : Tryd.prog.wantsStandIn t = false := by simpa using List.all_eq_true.1 hall t hm
    exact h2⟩)
  jGoes
#print axioms card
end Go.Proofs.YtnnlhpmkfijppaaDoor.rosterBack
namespace Go.Proofs.YtnnlhpmkfijppaaDoor
theorem rosterBack_holds : Rows.RosterBackCardSaid := rosterBack.card
end Go.Proofs.YtnnlhpmkfijppaaDoor
