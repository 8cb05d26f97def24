/- Words of a part of the proof of this sentence: DressCopies (36.3): any post, as a member gets it, by any token, is as the document has it, and the post itself is as it was; of at most 30 fields, names of at most 200, values and body of at most 3000 bytes. -/
-- PRINTED BY print.sh 35421559b90ae4d0a3588c463048766b98c2df88dd9212a6774a882060cdf62d: not written by this session
import Derived.Test.YtihabmcaplnbcaaGreatDoorCDressCopiesWInv
import Derived.Test.YtihabmcaplnbcaaGreatDoorCDressCopiesWFootNe
namespace Go.Proofs.YtihabmcaplnbcaaGreatDoorW.PrintWords
open Go.RowKit
end Go.Proofs.YtihabmcaplnbcaaGreatDoorW.PrintWords
namespace Go.Proofs.YtihabmcaplnbcaaGreatDoorW.PrintLast
section
variable {ops : Array Oper} {a : Act} {o og : Oper} {g : Nat} {t : Tmp} {u : Bool}
end
end Go.Proofs.YtihabmcaplnbcaaGreatDoorW.PrintLast
