/- Words of a part of the proof of this sentence: The lines of a body, each with its end behind it, are the body, but for an end that may lack at its end; none of them has an end in it; the tables of unicode/utf8 are as the program's text lays them. -/
-- PRINTED BY print.sh 35421559b90ae4d0a3588c463048766b98c2df88dd9212a6774a882060cdf62d: not written by this session
import Derived.Test.YtbjbpgmjijeppaaDoorCMsgJoinsWInv
import Derived.Test.YtbjbpgmjijeppaaDoorCMsgJoinsWFootNe
namespace Go.Proofs.YtbjbpgmjijeppaaDoorW.PrintWords
open Go.RowKit
end Go.Proofs.YtbjbpgmjijeppaaDoorW.PrintWords
namespace Go.Proofs.YtbjbpgmjijeppaaDoorW.PrintLast
section
variable {ops : Array Oper} {a : Act} {o og : Oper} {g : Nat} {t : Tmp} {u : Bool}
end
end Go.Proofs.YtbjbpgmjijeppaaDoorW.PrintLast
