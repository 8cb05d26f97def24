/- Words of a part of the proof of this sentence: The law bulletinlaw15.HeadBack returns true for every input: fields that are right are read, as they are, of what is printed of them, whatever body stands behind the empty line, and without that line there is no body; the tables of unicode/utf8 are as the program's text lays them. -/
-- PRINTED BY print.sh 35421559b90ae4d0a3588c463048766b98c2df88dd9212a6774a882060cdf62d: not written by this session
import Derived.Test.YtlomcmdbbnbciaaDoorCHeadBackWInv
import Derived.Test.YtlomcmdbbnbciaaDoorCHeadBackWFootNe
namespace Go.Proofs.YtlomcmdbbnbciaaDoorW.PrintWords
open Go.RowKit
end Go.Proofs.YtlomcmdbbnbciaaDoorW.PrintWords
namespace Go.Proofs.YtlomcmdbbnbciaaDoorW.PrintLast
section
variable {ops : Array Oper} {a : Act} {o og : Oper} {g : Nat} {t : Tmp} {u : Bool}
end
end Go.Proofs.YtlomcmdbbnbciaaDoorW.PrintLast
