/- Words of a part of the proof of this sentence: A right member is read again of its text, and what any text is read as is right and has just that text -/
-- PRINTED BY print.sh 35421559b90ae4d0a3588c463048766b98c2df88dd9212a6774a882060cdf62d: not written by this session
import Derived.Test.YtnnlhpmkfijppaaDoorCRosterBackWInv
import Derived.Test.YtnnlhpmkfijppaaDoorCRosterBackWFootNe
namespace Go.Proofs.YtnnlhpmkfijppaaDoorW.PrintWords
open Go.RowKit
end Go.Proofs.YtnnlhpmkfijppaaDoorW.PrintWords
namespace Go.Proofs.YtnnlhpmkfijppaaDoorW.PrintLast
section
variable {ops : Array Oper} {a : Act} {o og : Oper} {g : Nat} {t : Tmp} {u : Bool}
end
end Go.Proofs.YtnnlhpmkfijppaaDoorW.PrintLast
