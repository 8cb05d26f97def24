/- Words of a part of the proof of this sentence: OrderReads (35.5): the commands of any mail, as a member may send it, are as the document reads them; of at most 30 fields, names of at most 200, values and body of at most 3000 bytes. -/
-- PRINTED BY print.sh 35421559b90ae4d0a3588c463048766b98c2df88dd9212a6774a882060cdf62d: not written by this session
import Derived.Test.YtihabmcaplnbcaaGreatDoorCOrderReadsWInv
import Derived.Test.YtihabmcaplnbcaaGreatDoorCOrderReadsWFootNe
namespace Go.Proofs.YtihabmcaplnbcaaGreatDoorW.PrintWords
open Go.RowKit
end Go.Proofs.YtihabmcaplnbcaaGreatDoorW.PrintWords
namespace Go.Proofs.YtihabmcaplnbcaaGreatDoorW.PrintLast
section
variable {ops : Array Oper} {a : Act} {o og : Oper} {g : Nat} {t : Tmp} {u : Bool}
end
end Go.Proofs.YtihabmcaplnbcaaGreatDoorW.PrintLast
