/- Words of a part of the proof of this sentence: DressOnce (36.1, 36.5): a subject with a list's tag has it, as it is read, in words, and put again it is as it was; of a list's name, a subject of at most 500 bytes. -/
-- PRINTED BY print.sh 35421559b90ae4d0a3588c463048766b98c2df88dd9212a6774a882060cdf62d: not written by this session
import Derived.Test.YtihabmcaplnbcaaDoorCDressOnceWInv
import Derived.Test.YtihabmcaplnbcaaDoorCDressOnceWFootNe
namespace Go.Proofs.YtihabmcaplnbcaaDoorW.PrintWords
open Go.RowKit
end Go.Proofs.YtihabmcaplnbcaaDoorW.PrintWords
namespace Go.Proofs.YtihabmcaplnbcaaDoorW.PrintLast
section
variable {ops : Array Oper} {a : Act} {o og : Oper} {g : Nat} {t : Tmp} {u : Bool}
end
end Go.Proofs.YtihabmcaplnbcaaDoorW.PrintLast
