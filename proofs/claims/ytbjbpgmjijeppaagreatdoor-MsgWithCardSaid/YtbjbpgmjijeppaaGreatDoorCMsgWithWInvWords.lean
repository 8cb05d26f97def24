/- Words of a part of the proof of this sentence: Any message with a field put is as the document has it, and the message itself is as it was; the tables of unicode/utf8 are as the program's text lays them. -/
-- PRINTED BY print.sh 35421559b90ae4d0a3588c463048766b98c2df88dd9212a6774a882060cdf62d: not written by this session
import Derived.Test.YtbjbpgmjijeppaaGreatDoorCMsgWithWInv
import Derived.Test.YtbjbpgmjijeppaaGreatDoorCMsgWithWFootNe
namespace Go.Proofs.YtbjbpgmjijeppaaGreatDoorW.PrintWords
open Go.RowKit
end Go.Proofs.YtbjbpgmjijeppaaGreatDoorW.PrintWords
namespace Go.Proofs.YtbjbpgmjijeppaaGreatDoorW.PrintLast
section
variable {ops : Array Oper} {a : Act} {o og : Oper} {g : Nat} {t : Tmp} {u : Bool}
end
end Go.Proofs.YtbjbpgmjijeppaaGreatDoorW.PrintLast
