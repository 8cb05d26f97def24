/- Words of a part of the proof of this sentence: MbxReads (14.6): the boxes of any bytes, and the one box, or why there are none, are as the document has them; of at most 2000 bytes. -/
-- PRINTED BY print.sh 35421559b90ae4d0a3588c463048766b98c2df88dd9212a6774a882060cdf62d: not written by this session
import Derived.Test.YtihabmcaplnbcaaDoorCMbxReadsWInv
import Derived.Test.YtihabmcaplnbcaaDoorCMbxReadsWFootNe
namespace Go.Proofs.YtihabmcaplnbcaaDoorW.PrintWords
open Go.RowKit
end Go.Proofs.YtihabmcaplnbcaaDoorW.PrintWords
namespace Go.Proofs.YtihabmcaplnbcaaDoorW.PrintLast
section
variable {ops : Array Oper} {a : Act} {o og : Oper} {g : Nat} {t : Tmp} {u : Bool}
end
end Go.Proofs.YtihabmcaplnbcaaDoorW.PrintLast
