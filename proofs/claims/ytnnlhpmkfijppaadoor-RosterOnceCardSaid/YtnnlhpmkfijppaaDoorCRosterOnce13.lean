/- Once a day: of a right member that is not off the score grows by as many as there are bounces on another day than the one ahead of each, and it is off as soon as that is too much -/
import Derived.Test.YtnnlhpmkfijppaaDoorCRosterOnce10
import Derived.Test.YtnnlhpmkfijppaaDoorCRosterOnce11
import Derived.Test.YtnnlhpmkfijppaaDoorCRosterOnce12
import Derived.Test.YtnnlhpmkfijppaaDoorRows
import Derived.Test.YtnnlhpmkfijppaaDoorTie
import Derived.Test.YtnnlhpmkfijppaaDoorCards
import Derived.WalkKit
import Derived.ProofKit
import Derived.OpenShut
import Derived.ShutString
import Derived.ChangeOld
import Derived.Below
import Derived.SizedLaws
import Derived.Lib.SmallJoins
import Derived.SevenTiedAt
-- the row of the law RosterOnce, out of its pure statement and its walk
namespace Go.Proofs.YtnnlhpmkfijppaaDoor.rosterOnce
open Go.ChangeShapes Go.WideShapes Go.ChangeAt Go.RowKit Go.Joins
open Go.ChangeMaps (open_string shut_string)
theorem card : Rows.RosterOnceCardSaid :=
 Claim7.holds_tied_plain_at .later [] [.data, .data, .data, .data, .pinned] true (true, "32918954854957ee7607479521e4889610dbe42e915a8a5d67c51aae53a54e98") false
  proved (fun _ h => by cases h) (by kernel_rfl) (fun _ h => by cases h) rosterOnce_row_tie rfl ⟨rfl, rfl⟩ (by kernel_rfl) rfl
  (fun f fn hf hfn => by
   obtain rfl : f = 4 := Option.some.inj ((show Tryd.prog.funcNamed "bulletin/bulletinlaw33.RosterOnce" = some 4 by kernel_rfl).symm.trans hf) |>.symm
   obtain rfl : fn = Tryd.f4 := (Option.some.inj (Tryd.func4.symm.trans hfn)).symm
   exact ⟨jLooks, fun j t ht => by
    rw [Tryd.params4] at ht
    have hall : ([25, 36, 3] : List TypeId).all (fun t => !(Tryd.prog.wantsStandIn t)) = true := by kernel_rfl
    have hm : t ∈ ([25, 36, 3] : List TypeId) := by simpa using Array.mem_of_getElem? ht
    have h2 : Tryd.prog.wantsStandIn t = false := by simpa using List.all_eq_true.1 hall t hm
    exact h2⟩)
  jGoes
#print axioms card
end Go.Proofs.YtnnlhpmkfijppaaDoor.rosterOnce
namespace Go.Proofs.YtnnlhpmkfijppaaDoor
theorem rosterOnce_holds : Rows.RosterOnceCardSaid := rosterOnce.card
end Go.Proofs.YtnnlhpmkfijppaaDoor
