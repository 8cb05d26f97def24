/- Words of a part of the proof of this sentence: What any member is, gets and becomes by a bounce and when it is well, a new one, and the words of modes, are as the document has them -/
-- PRINTED BY print.sh 35421559b90ae4d0a3588c463048766b98c2df88dd9212a6774a882060cdf62d: not written by this session
import Derived.Test.YtnnlhpmkfijppaaGreatDoorCRosterTellsWInv
import Derived.Test.YtnnlhpmkfijppaaGreatDoorCRosterTellsWFootNe
namespace Go.Proofs.YtnnlhpmkfijppaaGreatDoorW.PrintWords
open Go.RowKit
end Go.Proofs.YtnnlhpmkfijppaaGreatDoorW.PrintWords
namespace Go.Proofs.YtnnlhpmkfijppaaGreatDoorW.PrintLast
section
variable {ops : Array Oper} {a : Act} {o og : Oper} {g : Nat} {t : Tmp} {u : Bool}
end
end Go.Proofs.YtnnlhpmkfijppaaGreatDoorW.PrintLast
