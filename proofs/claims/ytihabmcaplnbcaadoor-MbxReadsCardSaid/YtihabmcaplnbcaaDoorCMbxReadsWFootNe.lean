/- Words of a part of the proof of this sentence: MbxReads (14.6): the boxes of any bytes, and the one box, or why there are none, are as the document has them; of at most 2000 bytes. -/
-- PRINTED BY print.sh 35421559b90ae4d0a3588c463048766b98c2df88dd9212a6774a882060cdf62d: not written by this session
import Derived.Test.YtihabmcaplnbcaaDoorCMbxReadsWN
/-! ### 52. A row that stays read whatever happens to a block (a set of blocks) doesn't lie there -/
namespace Go.Proofs.YtihabmcaplnbcaaDoorW.PrintWords
open Go.RowKit
namespace Kd
section
variable {α : Type} {d : Kd α} {W : World} {g n : Nat} {S ok : Nat → Prop} {A : Option Addr} {ad : Addr} {xs : List α}
end
end Kd
end Go.Proofs.YtihabmcaplnbcaaDoorW.PrintWords
