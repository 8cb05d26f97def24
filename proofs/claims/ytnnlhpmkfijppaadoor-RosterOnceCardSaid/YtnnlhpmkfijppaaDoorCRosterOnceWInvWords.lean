/- Words of a part of the proof of this sentence: Once a day: of a right member that is not off the score grows by as many as there are bounces on another day than the one ahead of each, and it is off as soon as that is too much -/
-- PRINTED BY print.sh 35421559b90ae4d0a3588c463048766b98c2df88dd9212a6774a882060cdf62d: not written by this session
import Derived.Test.YtnnlhpmkfijppaaDoorCRosterOnceWInv
import Derived.Test.YtnnlhpmkfijppaaDoorCRosterOnceWFootNe
namespace Go.Proofs.YtnnlhpmkfijppaaDoorW.PrintWords
open Go.RowKit
end Go.Proofs.YtnnlhpmkfijppaaDoorW.PrintWords
namespace Go.Proofs.YtnnlhpmkfijppaaDoorW.PrintLast
section
variable {ops : Array Oper} {a : Act} {o og : Oper} {g : Nat} {t : Tmp} {u : Bool}
end
end Go.Proofs.YtnnlhpmkfijppaaDoorW.PrintLast
