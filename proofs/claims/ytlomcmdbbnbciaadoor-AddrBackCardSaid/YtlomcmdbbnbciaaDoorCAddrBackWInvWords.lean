/- Words of a part of the proof of this sentence: The law bulletinlaw13.AddrBack returns true for every input: any local part and domain are a right address just if it is read, as it is, of its text, and then it is so strictly too, and of its key but for capital letters; the tables of unicode/utf8 are as the program's text lays them. -/
-- PRINTED BY print.sh 35421559b90ae4d0a3588c463048766b98c2df88dd9212a6774a882060cdf62d: not written by this session
import Derived.Test.YtlomcmdbbnbciaaDoorCAddrBackWInv
import Derived.Test.YtlomcmdbbnbciaaDoorCAddrBackWFootNe
namespace Go.Proofs.YtlomcmdbbnbciaaDoorW.PrintWords
open Go.RowKit
end Go.Proofs.YtlomcmdbbnbciaaDoorW.PrintWords
namespace Go.Proofs.YtlomcmdbbnbciaaDoorW.PrintLast
section
variable {ops : Array Oper} {a : Act} {o og : Oper} {g : Nat} {t : Tmp} {u : Bool}
end
end Go.Proofs.YtlomcmdbbnbciaaDoorW.PrintLast
