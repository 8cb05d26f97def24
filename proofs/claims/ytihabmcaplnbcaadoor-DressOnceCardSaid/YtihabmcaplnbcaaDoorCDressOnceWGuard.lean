/- Words of a part of the proof of this sentence: DressOnce (36.1, 36.5): a subject with a list's tag has it, as it is read, in words, and put again it is as it was; of a list's name, a subject of at most 500 bytes. -/
-- PRINTED BY print.sh 35421559b90ae4d0a3588c463048766b98c2df88dd9212a6774a882060cdf62d: not written by this session
import Derived.Test.YtihabmcaplnbcaaDoorCDressOnceWWords
/-! ### 58. A guarded operation whose guard is known to want it: the same goal without the guard -/
namespace Go.Proofs.YtihabmcaplnbcaaDoorW.PrintWords
open Go.RowKit
section
variable {P : Program} {ops : Array Oper} {rest : List Oper} {o : Oper} {a : Act} {Q : Exit → Act → World → Prop} {W : World}
end
end Go.Proofs.YtihabmcaplnbcaaDoorW.PrintWords
