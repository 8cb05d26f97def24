/- Words of a part of the proof of this sentence: The law bulletinlaw15.HeadFolds returns true for every input: no line of a right field, written, has more than 78 bytes, if no piece of it has more than 70, nor its name more than 7, and each begins with a blank but the first; the tables of unicode/utf8 are as the program's text lays them. -/
-- PRINTED BY print.sh 35421559b90ae4d0a3588c463048766b98c2df88dd9212a6774a882060cdf62d: not written by this session
import Derived.Test.YtlomcmdbbnbciaaDoorCHeadFoldsWTab
/-! ### 56. Four, five, six operations that may come up next, in any order -/
namespace Go.Proofs.YtlomcmdbbnbciaaDoorW.PrintLast
section
variable {P : Program} {ops : Array Oper} {Q : Exit → Act → World → Prop} {md : Region.Mode} {S : World → Prop} {ds : List Nat} {T : Bool × List (List Nat × List Nat)}
end
end Go.Proofs.YtlomcmdbbnbciaaDoorW.PrintLast
