/- Words of a part of the proof of this sentence: The law bulletinlaw35.OrderBack returns true for every input: what is shown of any line's command is read as it, if that is not Unknown, and of an Unknown one it is what it says, in at most 30 signs, none of them capital or a blank side by side with another one; the tables of unicode/utf8 are as the program's text lays them. -/
-- PRINTED BY print.sh 35421559b90ae4d0a3588c463048766b98c2df88dd9212a6774a882060cdf62d: not written by this session
import Derived.Test.YtlomcmdbbnbciaaDoorCOrderBackWTab
/-! ### 56. Four, five, six operations that may come up next, in any order -/
namespace Go.Proofs.YtlomcmdbbnbciaaDoorW.PrintLast
section
variable {P : Program} {ops : Array Oper} {Q : Exit → Act → World → Prop} {md : Region.Mode} {S : World → Prop} {ds : List Nat} {T : Bool × List (List Nat × List Nat)}
end
end Go.Proofs.YtlomcmdbbnbciaaDoorW.PrintLast
