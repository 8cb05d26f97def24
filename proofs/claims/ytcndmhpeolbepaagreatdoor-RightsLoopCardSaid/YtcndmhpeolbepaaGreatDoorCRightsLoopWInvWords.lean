/- Words of a part of the proof of this sentence: A post that bears the list's id is refused -/
-- PRINTED BY print.sh 35421559b90ae4d0a3588c463048766b98c2df88dd9212a6774a882060cdf62d: not written by this session
import Derived.Test.YtcndmhpeolbepaaGreatDoorCRightsLoopWInv
import Derived.Test.YtcndmhpeolbepaaGreatDoorCRightsLoopWFootNe
namespace Go.Proofs.YtcndmhpeolbepaaGreatDoorW.PrintWords
open Go.RowKit
end Go.Proofs.YtcndmhpeolbepaaGreatDoorW.PrintWords
namespace Go.Proofs.YtcndmhpeolbepaaGreatDoorW.PrintLast
section
variable {ops : Array Oper} {a : Act} {o og : Oper} {g : Nat} {t : Tmp} {u : Bool}
end
end Go.Proofs.YtcndmhpeolbepaaGreatDoorW.PrintLast
