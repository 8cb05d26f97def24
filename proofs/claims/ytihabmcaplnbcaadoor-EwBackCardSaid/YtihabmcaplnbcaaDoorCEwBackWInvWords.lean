/- Words of a part of the proof of this sentence: EwBack (19.3): whatever text is encoded is decoded as it was, a bad sign as FFFD; of at most 600 bytes. -/
-- PRINTED BY print.sh 35421559b90ae4d0a3588c463048766b98c2df88dd9212a6774a882060cdf62d: not written by this session
import Derived.Test.YtihabmcaplnbcaaDoorCEwBackWInv
import Derived.Test.YtihabmcaplnbcaaDoorCEwBackWFootNe
namespace Go.Proofs.YtihabmcaplnbcaaDoorW.PrintWords
open Go.RowKit
end Go.Proofs.YtihabmcaplnbcaaDoorW.PrintWords
namespace Go.Proofs.YtihabmcaplnbcaaDoorW.PrintLast
section
variable {ops : Array Oper} {a : Act} {o og : Oper} {g : Nat} {t : Tmp} {u : Bool}
end
end Go.Proofs.YtihabmcaplnbcaaDoorW.PrintLast
