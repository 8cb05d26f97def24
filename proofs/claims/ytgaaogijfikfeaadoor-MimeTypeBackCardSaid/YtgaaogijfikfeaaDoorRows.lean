/-
  NARROWER THAN 'FOR EVERY INPUT', by the rows' own cells (each row's printed sentence says how): HeadPut: laid · HeadSets: laid · MbxShows: laid · MbxMany: laid · MbxJoins: laid · PathShows: laid · MbxReads: laid · PathBack: laid · PathTo: laid · MbxBack: laid · MimeTypes: laid · MimeSplits: laid · MimeTypeBack: laid · MimeMany: laid · RosterOnce: laid.
  DERIVED. THE GIVEN ROWS OF THIS SEAT. 15 by the template 'for every input the law returns true; each argument reads behind the call as it read before'; 0 by the template 'total and deterministic' (their statements: YtgaaogijfikfeaaDoorTotals.lean).
  GIVEN WITH THE SEED: the statements are not yours to turn. If you find one false, say at which input.
  Laid BY PROGRAM, IN A SANDBOX (cutbox-rows.mjs): the forced cells as the released guide's own fill.sh prints them over the translation cfe4ab5a7efa3dbc… (all of the seat's roots in one cut). By AI agents, Wed Nov 11 2026. No macro, syntax, notation, axiom, sorry.
-/
import Derived.Test.YtgaaogijfikfeaaDoorChecked
import GoSem.PinnedTables
import GoSem.Claim
import GoSem.ClaimJoined
import GoSem.ClaimMapViews
import Derived.JoinedTies
import Derived.KernelRfl
namespace Go.Proofs.YtgaaogijfikfeaaDoor
/- THE CELL 'sum', in the pinned program and in every row, IS THE sha256 OF THE DUMP (.gsa) THAT YtgaaogijfikfeaaDoorProg.lean LOADS. Nothing in Lean hashes anything: it is a label: what it is worth is what the hold of that sum in a sandbox is worth. -/
noncomputable def Tryd.pinned : Pinned := { name := "ytgaaogijfikfeaadoor", sum := "cfe4ab5a7efa3dbc4a8eeb394f87ef80be6a5812ae802324c97e47ce7319ea80", checked := Tryd.checked }
namespace Rows
def none {H : Type} : Left H := { results := [], args := [] }

/- WHAT THE LISTED PACKAGE-LEVEL VARIABLES READ AS WHEN THE CALL BEGINS. Each datum BY PROGRAM (the guide's laid-datum.mjs) off the statement by which the dump's own 'gosem.cut.vars' lays the variable. In a bare row this is a premise. The card (YtgaaogijfikfeaaDoorCards.lean) ties it to the program's text. -/
def laid_unicode_utf8_acceptRanges {H : Type} : DataW H := .agg [.agg [.lit (.int .u8 128), .lit (.int .u8 191)], .agg [.lit (.int .u8 160), .lit (.int .u8 191)], .agg [.lit (.int .u8 128), .lit (.int .u8 159)], .agg [.lit (.int .u8 144), .lit (.int .u8 191)], .agg [.lit (.int .u8 128), .lit (.int .u8 143)], .agg [.lit (.int .u8 0), .lit (.int .u8 0)], .agg [.lit (.int .u8 0), .lit (.int .u8 0)], .agg [.lit (.int .u8 0), .lit (.int .u8 0)], .agg [.lit (.int .u8 0), .lit (.int .u8 0)], .agg [.lit (.int .u8 0), .lit (.int .u8 0)], .agg [.lit (.int .u8 0), .lit (.int .u8 0)], .agg [.lit (.int .u8 0), .lit (.int .u8 0)], .agg [.lit (.int .u8 0), .lit (.int .u8 0)], .agg [.lit (.int .u8 0), .lit (.int .u8 0)], .agg [.lit (.int .u8 0), .lit (.int .u8 0)], .agg [.lit (.int .u8 0), .lit (.int .u8 0)]]
/-- One of Go's own tables, pinned by name: the form's constant. -/
def laid_unicode_utf8_first : DataW Unit := Go.Pinned.utf8First
def laid_math_bits_deBruijn32tab {H : Type} : DataW H := .agg [.lit (.int .u8 0), .lit (.int .u8 1), .lit (.int .u8 28), .lit (.int .u8 2), .lit (.int .u8 29), .lit (.int .u8 14), .lit (.int .u8 24), .lit (.int .u8 3), .lit (.int .u8 30), .lit (.int .u8 22), .lit (.int .u8 20), .lit (.int .u8 15), .lit (.int .u8 25), .lit (.int .u8 17), .lit (.int .u8 4), .lit (.int .u8 8), .lit (.int .u8 31), .lit (.int .u8 27), .lit (.int .u8 13), .lit (.int .u8 23), .lit (.int .u8 21), .lit (.int .u8 19), .lit (.int .u8 16), .lit (.int .u8 7), .lit (.int .u8 26), .lit (.int .u8 12), .lit (.int .u8 18), .lit (.int .u8 6), .lit (.int .u8 11), .lit (.int .u8 5), .lit (.int .u8 10), .lit (.int .u8 9)]
def laid_math_bits_deBruijn64tab {H : Type} : DataW H := .agg [.lit (.int .u8 0), .lit (.int .u8 1), .lit (.int .u8 56), .lit (.int .u8 2), .lit (.int .u8 57), .lit (.int .u8 49), .lit (.int .u8 28), .lit (.int .u8 3), .lit (.int .u8 61), .lit (.int .u8 58), .lit (.int .u8 42), .lit (.int .u8 50), .lit (.int .u8 38), .lit (.int .u8 29), .lit (.int .u8 17), .lit (.int .u8 4), .lit (.int .u8 62), .lit (.int .u8 47), .lit (.int .u8 59), .lit (.int .u8 36), .lit (.int .u8 45), .lit (.int .u8 43), .lit (.int .u8 51), .lit (.int .u8 22), .lit (.int .u8 53), .lit (.int .u8 39), .lit (.int .u8 33), .lit (.int .u8 30), .lit (.int .u8 24), .lit (.int .u8 18), .lit (.int .u8 12), .lit (.int .u8 5), .lit (.int .u8 63), .lit (.int .u8 55), .lit (.int .u8 48), .lit (.int .u8 27), .lit (.int .u8 60), .lit (.int .u8 41), .lit (.int .u8 37), .lit (.int .u8 16), .lit (.int .u8 46), .lit (.int .u8 35), .lit (.int .u8 44), .lit (.int .u8 21), .lit (.int .u8 52), .lit (.int .u8 32), .lit (.int .u8 23), .lit (.int .u8 11), .lit (.int .u8 54), .lit (.int .u8 26), .lit (.int .u8 40), .lit (.int .u8 15), .lit (.int .u8 34), .lit (.int .u8 20), .lit (.int .u8 31), .lit (.int .u8 10), .lit (.int .u8 25), .lit (.int .u8 14), .lit (.int .u8 19), .lit (.int .u8 9), .lit (.int .u8 13), .lit (.int .u8 8), .lit (.int .u8 7), .lit (.int .u8 6)]
def laid_internal_strconv_uint64pow10 {H : Type} : DataW H := .agg [.lit (.int .u64 1), .lit (.int .u64 10), .lit (.int .u64 100), .lit (.int .u64 1000), .lit (.int .u64 10000), .lit (.int .u64 100000), .lit (.int .u64 1000000), .lit (.int .u64 10000000), .lit (.int .u64 100000000), .lit (.int .u64 1000000000), .lit (.int .u64 10000000000), .lit (.int .u64 100000000000), .lit (.int .u64 1000000000000), .lit (.int .u64 10000000000000), .lit (.int .u64 100000000000000), .lit (.int .u64 1000000000000000), .lit (.int .u64 10000000000000000), .lit (.int .u64 100000000000000000), .lit (.int .u64 1000000000000000000), .lit (.int .u64 10000000000000000000)]

/-- 'bulletinlaw15.HeadPut': WHATEVER THE INPUT: true; the input reads as it did. -/
def headPutSpec : ChangeSpec := { name := "headPut", fn := fun _ => fun
  | [d1, d2, d3] => { results := [.lit (.bool true)], args := [d1, d2, d3] }
  | _ => none }
def headPutRow : OpenClaim := { program := "ytgaaogijfikfeaadoor", sum := "cfe4ab5a7efa3dbc4a8eeb394f87ef80be6a5812ae802324c97e47ce7319ea80", func := "bulletin/bulletinlaw15.HeadPut", spec := "headPut", inPlace := ["internal/bytealg.IndexByteString", "internal/bytealg.IndexString", "internal/abi.NoEscape"], unfollowed := true, recurses := true, named := ["internal/bytealg.MaxLen", "unicode/utf8.first", "unicode/utf8.acceptRanges"], apart := false, laid := [("unicode/utf8.acceptRanges", laid_unicode_utf8_acceptRanges), ("unicode/utf8.first", laid_unicode_utf8_first)] }
def HeadPutSaid : Prop := headPutRow.holds Tryd.pinned (OpenSpec.ofChange headPutSpec)

/-- ITS FALSE NEIGHBOUR: 'it returns false'. Refute it at one input. -/
def headPutWrong : ChangeSpec := { name := "headPut", fn := fun _ => fun
  | [d1, d2, d3] => { results := [.lit (.bool false)], args := [d1, d2, d3] }
  | _ => none }
def HeadPutWrongFalsely : Prop := headPutRow.holds Tryd.pinned (OpenSpec.ofChange headPutWrong)

/-- 'bulletinlaw15.HeadSets': WHATEVER THE INPUT: true; the input reads as it did. -/
def headSetsSpec : ChangeSpec := { name := "headSets", fn := fun _ => fun
  | [d1, d2] => { results := [.lit (.bool true)], args := [d1, d2] }
  | _ => none }
def headSetsRow : OpenClaim := { program := "ytgaaogijfikfeaadoor", sum := "cfe4ab5a7efa3dbc4a8eeb394f87ef80be6a5812ae802324c97e47ce7319ea80", func := "bulletin/bulletinlaw15.HeadSets", spec := "headSets", inPlace := ["internal/bytealg.IndexByteString", "internal/bytealg.IndexString", "internal/abi.NoEscape"], unfollowed := true, recurses := true, named := ["internal/bytealg.MaxLen", "unicode/utf8.first", "unicode/utf8.acceptRanges"], apart := false, laid := [("unicode/utf8.acceptRanges", laid_unicode_utf8_acceptRanges), ("unicode/utf8.first", laid_unicode_utf8_first)] }
def HeadSetsSaid : Prop := headSetsRow.holds Tryd.pinned (OpenSpec.ofChange headSetsSpec)

/-- ITS FALSE NEIGHBOUR: 'it returns false'. Refute it at one input. -/
def headSetsWrong : ChangeSpec := { name := "headSets", fn := fun _ => fun
  | [d1, d2] => { results := [.lit (.bool false)], args := [d1, d2] }
  | _ => none }
def HeadSetsWrongFalsely : Prop := headSetsRow.holds Tryd.pinned (OpenSpec.ofChange headSetsWrong)

/-- 'bulletinlaw14.MbxShows': WHATEVER THE INPUT: true; the input reads as it did. -/
def mbxShowsSpec : ChangeSpec := { name := "mbxShows", fn := fun _ => fun
  | [d1, d2] => { results := [.lit (.bool true)], args := [d1, d2] }
  | _ => none }
def mbxShowsRow : OpenClaim := { program := "ytgaaogijfikfeaadoor", sum := "cfe4ab5a7efa3dbc4a8eeb394f87ef80be6a5812ae802324c97e47ce7319ea80", func := "bulletin/bulletinlaw14.MbxShows", spec := "mbxShows", inPlace := ["internal/bytealg.IndexByteString", "internal/abi.NoEscape", "internal/bytealg.MakeNoZero", "internal/bytealg.IndexString"], unfollowed := true, recurses := true, named := ["internal/bytealg.MaxLen", "unicode/utf8.first", "unicode/utf8.acceptRanges"], apart := false, laid := [("unicode/utf8.acceptRanges", laid_unicode_utf8_acceptRanges), ("unicode/utf8.first", laid_unicode_utf8_first)] }
def MbxShowsSaid : Prop := mbxShowsRow.holds Tryd.pinned (OpenSpec.ofChange mbxShowsSpec)

/-- ITS FALSE NEIGHBOUR: 'it returns false'. Refute it at one input. -/
def mbxShowsWrong : ChangeSpec := { name := "mbxShows", fn := fun _ => fun
  | [d1, d2] => { results := [.lit (.bool false)], args := [d1, d2] }
  | _ => none }
def MbxShowsWrongFalsely : Prop := mbxShowsRow.holds Tryd.pinned (OpenSpec.ofChange mbxShowsWrong)

/-- 'bulletinlaw14.MbxMany': WHATEVER THE INPUT: true; the input reads as it did. -/
def mbxManySpec : ChangeSpec := { name := "mbxMany", fn := fun _ => fun
  | [d1, d2] => { results := [.lit (.bool true)], args := [d1, d2] }
  | _ => none }
def mbxManyRow : OpenClaim := { program := "ytgaaogijfikfeaadoor", sum := "cfe4ab5a7efa3dbc4a8eeb394f87ef80be6a5812ae802324c97e47ce7319ea80", func := "bulletin/bulletinlaw14.MbxMany", spec := "mbxMany", inPlace := ["internal/bytealg.IndexByteString", "internal/abi.NoEscape", "internal/bytealg.MakeNoZero", "internal/bytealg.IndexString"], unfollowed := true, recurses := true, named := ["internal/bytealg.MaxLen", "unicode/utf8.first", "unicode/utf8.acceptRanges"], apart := false, laid := [("unicode/utf8.acceptRanges", laid_unicode_utf8_acceptRanges), ("unicode/utf8.first", laid_unicode_utf8_first)] }
def MbxManySaid : Prop := mbxManyRow.holds Tryd.pinned (OpenSpec.ofChange mbxManySpec)

/-- ITS FALSE NEIGHBOUR: 'it returns false'. Refute it at one input. -/
def mbxManyWrong : ChangeSpec := { name := "mbxMany", fn := fun _ => fun
  | [d1, d2] => { results := [.lit (.bool false)], args := [d1, d2] }
  | _ => none }
def MbxManyWrongFalsely : Prop := mbxManyRow.holds Tryd.pinned (OpenSpec.ofChange mbxManyWrong)

/-- 'bulletinlaw14.MbxJoins': WHATEVER THE INPUT: true; the input reads as it did. -/
def mbxJoinsSpec : ChangeSpec := { name := "mbxJoins", fn := fun _ => fun
  | [d1, d2] => { results := [.lit (.bool true)], args := [d1, d2] }
  | _ => none }
def mbxJoinsRow : OpenClaim := { program := "ytgaaogijfikfeaadoor", sum := "cfe4ab5a7efa3dbc4a8eeb394f87ef80be6a5812ae802324c97e47ce7319ea80", func := "bulletin/bulletinlaw14.MbxJoins", spec := "mbxJoins", inPlace := ["internal/bytealg.IndexByteString", "internal/abi.NoEscape", "internal/bytealg.MakeNoZero", "internal/bytealg.IndexString"], unfollowed := true, recurses := true, named := ["internal/bytealg.MaxLen", "unicode/utf8.first", "unicode/utf8.acceptRanges"], apart := false, laid := [("unicode/utf8.acceptRanges", laid_unicode_utf8_acceptRanges), ("unicode/utf8.first", laid_unicode_utf8_first)] }
def MbxJoinsSaid : Prop := mbxJoinsRow.holds Tryd.pinned (OpenSpec.ofChange mbxJoinsSpec)

/-- ITS FALSE NEIGHBOUR: 'it returns false'. Refute it at one input. -/
def mbxJoinsWrong : ChangeSpec := { name := "mbxJoins", fn := fun _ => fun
  | [d1, d2] => { results := [.lit (.bool false)], args := [d1, d2] }
  | _ => none }
def MbxJoinsWrongFalsely : Prop := mbxJoinsRow.holds Tryd.pinned (OpenSpec.ofChange mbxJoinsWrong)

/-- 'bulletinlaw28.PathShows': WHATEVER THE INPUT: true; the input reads as it did. -/
def pathShowsSpec : ChangeSpec := { name := "pathShows", fn := fun _ => fun
  | [d] => { results := [.lit (.bool true)], args := [d] }
  | _ => none }
def pathShowsRow : OpenClaim := { program := "ytgaaogijfikfeaadoor", sum := "cfe4ab5a7efa3dbc4a8eeb394f87ef80be6a5812ae802324c97e47ce7319ea80", func := "bulletin/bulletinlaw28.PathShows", spec := "pathShows", inPlace := ["internal/bytealg.IndexByteString", "internal/bytealg.IndexString", "internal/abi.NoEscape"], unfollowed := true, recurses := true, named := ["internal/bytealg.MaxLen", "unicode/utf8.first", "unicode/utf8.acceptRanges"], apart := false, laid := [("unicode/utf8.acceptRanges", laid_unicode_utf8_acceptRanges), ("unicode/utf8.first", laid_unicode_utf8_first)] }
def PathShowsSaid : Prop := pathShowsRow.holds Tryd.pinned (OpenSpec.ofChange pathShowsSpec)

/-- ITS FALSE NEIGHBOUR: 'it returns false'. Refute it at one input. -/
def pathShowsWrong : ChangeSpec := { name := "pathShows", fn := fun _ => fun
  | [d] => { results := [.lit (.bool false)], args := [d] }
  | _ => none }
def PathShowsWrongFalsely : Prop := pathShowsRow.holds Tryd.pinned (OpenSpec.ofChange pathShowsWrong)

/-- 'bulletinlaw14.MbxReads': WHATEVER THE INPUT: true; the input reads as it did. -/
def mbxReadsSpec : ChangeSpec := { name := "mbxReads", fn := fun _ => fun
  | [d] => { results := [.lit (.bool true)], args := [d] }
  | _ => none }
def mbxReadsRow : OpenClaim := { program := "ytgaaogijfikfeaadoor", sum := "cfe4ab5a7efa3dbc4a8eeb394f87ef80be6a5812ae802324c97e47ce7319ea80", func := "bulletin/bulletinlaw14.MbxReads", spec := "mbxReads", inPlace := ["internal/bytealg.IndexByteString", "internal/abi.NoEscape", "internal/bytealg.MakeNoZero", "internal/bytealg.IndexString"], unfollowed := true, recurses := true, named := ["internal/bytealg.MaxLen", "unicode/utf8.first", "unicode/utf8.acceptRanges"], apart := false, laid := [("unicode/utf8.acceptRanges", laid_unicode_utf8_acceptRanges), ("unicode/utf8.first", laid_unicode_utf8_first)] }
def MbxReadsSaid : Prop := mbxReadsRow.holds Tryd.pinned (OpenSpec.ofChange mbxReadsSpec)

/-- ITS FALSE NEIGHBOUR: 'it returns false'. Refute it at one input. -/
def mbxReadsWrong : ChangeSpec := { name := "mbxReads", fn := fun _ => fun
  | [d] => { results := [.lit (.bool false)], args := [d] }
  | _ => none }
def MbxReadsWrongFalsely : Prop := mbxReadsRow.holds Tryd.pinned (OpenSpec.ofChange mbxReadsWrong)

/-- 'bulletinlaw28.PathBack': WHATEVER THE INPUT: true; the input reads as it did. -/
def pathBackSpec : ChangeSpec := { name := "pathBack", fn := fun _ => fun
  | [d1, d2] => { results := [.lit (.bool true)], args := [d1, d2] }
  | _ => none }
def pathBackRow : OpenClaim := { program := "ytgaaogijfikfeaadoor", sum := "cfe4ab5a7efa3dbc4a8eeb394f87ef80be6a5812ae802324c97e47ce7319ea80", func := "bulletin/bulletinlaw28.PathBack", spec := "pathBack", inPlace := ["internal/bytealg.IndexByteString", "internal/bytealg.IndexString", "internal/abi.NoEscape"], unfollowed := true, recurses := true, named := ["internal/bytealg.MaxLen", "unicode/utf8.first", "unicode/utf8.acceptRanges"], apart := false, laid := [("unicode/utf8.acceptRanges", laid_unicode_utf8_acceptRanges), ("unicode/utf8.first", laid_unicode_utf8_first)] }
def PathBackSaid : Prop := pathBackRow.holds Tryd.pinned (OpenSpec.ofChange pathBackSpec)

/-- ITS FALSE NEIGHBOUR: 'it returns false'. Refute it at one input. -/
def pathBackWrong : ChangeSpec := { name := "pathBack", fn := fun _ => fun
  | [d1, d2] => { results := [.lit (.bool false)], args := [d1, d2] }
  | _ => none }
def PathBackWrongFalsely : Prop := pathBackRow.holds Tryd.pinned (OpenSpec.ofChange pathBackWrong)

/-- 'bulletinlaw28.PathTo': WHATEVER THE INPUT: true; the input reads as it did. -/
def pathToSpec : ChangeSpec := { name := "pathTo", fn := fun _ => fun
  | [d1, d2] => { results := [.lit (.bool true)], args := [d1, d2] }
  | _ => none }
def pathToRow : OpenClaim := { program := "ytgaaogijfikfeaadoor", sum := "cfe4ab5a7efa3dbc4a8eeb394f87ef80be6a5812ae802324c97e47ce7319ea80", func := "bulletin/bulletinlaw28.PathTo", spec := "pathTo", inPlace := ["internal/bytealg.IndexByteString", "internal/bytealg.IndexString", "internal/abi.NoEscape"], unfollowed := true, recurses := true, named := ["internal/bytealg.MaxLen", "unicode/utf8.first", "unicode/utf8.acceptRanges"], apart := false, laid := [("unicode/utf8.acceptRanges", laid_unicode_utf8_acceptRanges), ("unicode/utf8.first", laid_unicode_utf8_first)] }
def PathToSaid : Prop := pathToRow.holds Tryd.pinned (OpenSpec.ofChange pathToSpec)

/-- ITS FALSE NEIGHBOUR: 'it returns false'. Refute it at one input. -/
def pathToWrong : ChangeSpec := { name := "pathTo", fn := fun _ => fun
  | [d1, d2] => { results := [.lit (.bool false)], args := [d1, d2] }
  | _ => none }
def PathToWrongFalsely : Prop := pathToRow.holds Tryd.pinned (OpenSpec.ofChange pathToWrong)

/-- 'bulletinlaw14.MbxBack': WHATEVER THE INPUT: true; the input reads as it did. -/
def mbxBackSpec : ChangeSpec := { name := "mbxBack", fn := fun _ => fun
  | [d] => { results := [.lit (.bool true)], args := [d] }
  | _ => none }
def mbxBackRow : OpenClaim := { program := "ytgaaogijfikfeaadoor", sum := "cfe4ab5a7efa3dbc4a8eeb394f87ef80be6a5812ae802324c97e47ce7319ea80", func := "bulletin/bulletinlaw14.MbxBack", spec := "mbxBack", inPlace := ["internal/bytealg.IndexByteString", "internal/abi.NoEscape", "internal/bytealg.MakeNoZero", "internal/bytealg.IndexString"], unfollowed := true, recurses := true, named := ["internal/bytealg.MaxLen", "unicode/utf8.first", "unicode/utf8.acceptRanges"], apart := false, laid := [("unicode/utf8.acceptRanges", laid_unicode_utf8_acceptRanges), ("unicode/utf8.first", laid_unicode_utf8_first)] }
def MbxBackSaid : Prop := mbxBackRow.holds Tryd.pinned (OpenSpec.ofChange mbxBackSpec)

/-- ITS FALSE NEIGHBOUR: 'it returns false'. Refute it at one input. -/
def mbxBackWrong : ChangeSpec := { name := "mbxBack", fn := fun _ => fun
  | [d] => { results := [.lit (.bool false)], args := [d] }
  | _ => none }
def MbxBackWrongFalsely : Prop := mbxBackRow.holds Tryd.pinned (OpenSpec.ofChange mbxBackWrong)

/-- 'bulletinlaw20.MimeTypes': WHATEVER THE INPUT: true; the input reads as it did. -/
def mimeTypesSpec : ChangeSpec := { name := "mimeTypes", fn := fun _ => fun
  | [d1, d2, d3] => { results := [.lit (.bool true)], args := [d1, d2, d3] }
  | _ => none }
def mimeTypesRow : OpenClaim := { program := "ytgaaogijfikfeaadoor", sum := "cfe4ab5a7efa3dbc4a8eeb394f87ef80be6a5812ae802324c97e47ce7319ea80", func := "bulletin/bulletinlaw20.MimeTypes", spec := "mimeTypes", inPlace := ["internal/bytealg.IndexByteString", "internal/bytealg.IndexString", "internal/abi.NoEscape", "internal/bytealg.MakeNoZero"], unfollowed := true, recurses := true, named := ["internal/bytealg.MaxLen", "unicode/utf8.first", "unicode/utf8.acceptRanges"], apart := false, laid := [("unicode/utf8.acceptRanges", laid_unicode_utf8_acceptRanges), ("unicode/utf8.first", laid_unicode_utf8_first)] }
def MimeTypesSaid : Prop := mimeTypesRow.holds Tryd.pinned (OpenSpec.ofChange mimeTypesSpec)

/-- ITS FALSE NEIGHBOUR: 'it returns false'. Refute it at one input. -/
def mimeTypesWrong : ChangeSpec := { name := "mimeTypes", fn := fun _ => fun
  | [d1, d2, d3] => { results := [.lit (.bool false)], args := [d1, d2, d3] }
  | _ => none }
def MimeTypesWrongFalsely : Prop := mimeTypesRow.holds Tryd.pinned (OpenSpec.ofChange mimeTypesWrong)

/-- 'bulletinlaw20.MimeSplits': WHATEVER THE INPUT: true; the input reads as it did. -/
def mimeSplitsSpec : ChangeSpec := { name := "mimeSplits", fn := fun _ => fun
  | [d1, d2] => { results := [.lit (.bool true)], args := [d1, d2] }
  | _ => none }
def mimeSplitsRow : OpenClaim := { program := "ytgaaogijfikfeaadoor", sum := "cfe4ab5a7efa3dbc4a8eeb394f87ef80be6a5812ae802324c97e47ce7319ea80", func := "bulletin/bulletinlaw20.MimeSplits", spec := "mimeSplits", inPlace := ["internal/bytealg.IndexByteString", "internal/bytealg.IndexString", "internal/abi.NoEscape", "internal/bytealg.MakeNoZero"], unfollowed := true, recurses := true, named := ["internal/bytealg.MaxLen", "unicode/utf8.first", "unicode/utf8.acceptRanges"], apart := false, laid := [("unicode/utf8.acceptRanges", laid_unicode_utf8_acceptRanges), ("unicode/utf8.first", laid_unicode_utf8_first)] }
def MimeSplitsSaid : Prop := mimeSplitsRow.holds Tryd.pinned (OpenSpec.ofChange mimeSplitsSpec)

/-- ITS FALSE NEIGHBOUR: 'it returns false'. Refute it at one input. -/
def mimeSplitsWrong : ChangeSpec := { name := "mimeSplits", fn := fun _ => fun
  | [d1, d2] => { results := [.lit (.bool false)], args := [d1, d2] }
  | _ => none }
def MimeSplitsWrongFalsely : Prop := mimeSplitsRow.holds Tryd.pinned (OpenSpec.ofChange mimeSplitsWrong)

/-- 'bulletinlaw20.MimeTypeBack': WHATEVER THE INPUT: true; the input reads as it did. -/
def mimeTypeBackSpec : ChangeSpec := { name := "mimeTypeBack", fn := fun _ => fun
  | [d1, d2] => { results := [.lit (.bool true)], args := [d1, d2] }
  | _ => none }
def mimeTypeBackRow : OpenClaim := { program := "ytgaaogijfikfeaadoor", sum := "cfe4ab5a7efa3dbc4a8eeb394f87ef80be6a5812ae802324c97e47ce7319ea80", func := "bulletin/bulletinlaw20.MimeTypeBack", spec := "mimeTypeBack", inPlace := ["internal/bytealg.IndexByteString", "internal/bytealg.IndexString", "internal/abi.NoEscape", "internal/bytealg.MakeNoZero"], unfollowed := true, recurses := true, named := ["internal/bytealg.MaxLen", "unicode/utf8.first", "unicode/utf8.acceptRanges"], apart := false, laid := [("unicode/utf8.acceptRanges", laid_unicode_utf8_acceptRanges), ("unicode/utf8.first", laid_unicode_utf8_first)] }
def MimeTypeBackSaid : Prop := mimeTypeBackRow.holds Tryd.pinned (OpenSpec.ofChange mimeTypeBackSpec)

/-- ITS FALSE NEIGHBOUR: 'it returns false'. Refute it at one input. -/
def mimeTypeBackWrong : ChangeSpec := { name := "mimeTypeBack", fn := fun _ => fun
  | [d1, d2] => { results := [.lit (.bool false)], args := [d1, d2] }
  | _ => none }
def MimeTypeBackWrongFalsely : Prop := mimeTypeBackRow.holds Tryd.pinned (OpenSpec.ofChange mimeTypeBackWrong)

/-- 'bulletinlaw20.MimeMany': WHATEVER THE INPUT: true; the input reads as it did. -/
def mimeManySpec : ChangeSpec := { name := "mimeMany", fn := fun _ => fun
  | [d1, d2] => { results := [.lit (.bool true)], args := [d1, d2] }
  | _ => none }
def mimeManyRow : OpenClaim := { program := "ytgaaogijfikfeaadoor", sum := "cfe4ab5a7efa3dbc4a8eeb394f87ef80be6a5812ae802324c97e47ce7319ea80", func := "bulletin/bulletinlaw20.MimeMany", spec := "mimeMany", inPlace := ["internal/bytealg.IndexByteString", "internal/bytealg.IndexString", "internal/abi.NoEscape", "internal/bytealg.MakeNoZero"], unfollowed := true, recurses := true, named := ["internal/bytealg.MaxLen", "unicode/utf8.first", "unicode/utf8.acceptRanges"], apart := false, laid := [("unicode/utf8.acceptRanges", laid_unicode_utf8_acceptRanges), ("unicode/utf8.first", laid_unicode_utf8_first)] }
def MimeManySaid : Prop := mimeManyRow.holds Tryd.pinned (OpenSpec.ofChange mimeManySpec)

/-- ITS FALSE NEIGHBOUR: 'it returns false'. Refute it at one input. -/
def mimeManyWrong : ChangeSpec := { name := "mimeMany", fn := fun _ => fun
  | [d1, d2] => { results := [.lit (.bool false)], args := [d1, d2] }
  | _ => none }
def MimeManyWrongFalsely : Prop := mimeManyRow.holds Tryd.pinned (OpenSpec.ofChange mimeManyWrong)

/-- 'bulletinlaw33.RosterOnce': WHATEVER THE INPUT: true; the input reads as it did. -/
def rosterOnceSpec : ChangeSpec := { name := "rosterOnce", fn := fun _ => fun
  | [d1, d2, d3] => { results := [.lit (.bool true)], args := [d1, d2, d3] }
  | _ => none }
def rosterOnceRow : OpenClaim := { program := "ytgaaogijfikfeaadoor", sum := "cfe4ab5a7efa3dbc4a8eeb394f87ef80be6a5812ae802324c97e47ce7319ea80", func := "bulletin/bulletinlaw33.RosterOnce", spec := "rosterOnce", inPlace := ["internal/bytealg.IndexByteString", "internal/bytealg.IndexString", "internal/abi.NoEscape"], unfollowed := true, recurses := true, named := ["unicode/utf8.first", "unicode/utf8.acceptRanges", "internal/bytealg.MaxLen", "internal/strconv.uint64pow10", "math/bits.deBruijn32tab", "math/bits.deBruijn64tab"], apart := false, laid := [("math/bits.deBruijn32tab", laid_math_bits_deBruijn32tab), ("math/bits.deBruijn64tab", laid_math_bits_deBruijn64tab), ("internal/strconv.uint64pow10", laid_internal_strconv_uint64pow10), ("unicode/utf8.acceptRanges", laid_unicode_utf8_acceptRanges), ("unicode/utf8.first", laid_unicode_utf8_first)] }
def RosterOnceSaid : Prop := rosterOnceRow.holds Tryd.pinned (OpenSpec.ofChange rosterOnceSpec)

/-- ITS FALSE NEIGHBOUR: 'it returns false'. Refute it at one input. -/
def rosterOnceWrong : ChangeSpec := { name := "rosterOnce", fn := fun _ => fun
  | [d1, d2, d3] => { results := [.lit (.bool false)], args := [d1, d2, d3] }
  | _ => none }
def RosterOnceWrongFalsely : Prop := rosterOnceRow.holds Tryd.pinned (OpenSpec.ofChange rosterOnceWrong)

/- THE SECOND FORM. 'bulk': how many values and letters a reading holds, each counted each time it is reached (what is shared counts as often as it is met; a slice's spare places count too). A statement '..UptoSaid' is the law's where the arguments, and the package variables that the reading takes, are together of bulk at most 1048576: NARROWER than '..Said'. Prove '..Said' where nothing that the law and all that it calls make is longer than what came in: it says more and counts as full. Else prove '..UptoSaid'. A law counts once. -/
mutual
def uptoBulk {H : Type} : DataW H → Nat
  | .lit (.string bytes) => bytes.length + 1
  | .lit _ => 1
  | .nil => 1
  | .ptr d => uptoBulk d + 1
  | .slice elems spare => uptoBulkAll elems + uptoBulkAll spare + 1
  | .agg parts => uptoBulkAll parts + 1
  | .iface _ d => uptoBulk d + 1
  | .map entries => uptoBulkEntries entries + 1
  | .held _ => 1
def uptoBulkAll {H : Type} : List (DataW H) → Nat
  | [] => 0
  | d :: r => uptoBulk d + uptoBulkAll r
def uptoBulkEntries {H : Type} : List (Lit × DataW H) → Nat
  | [] => 0
  | x :: r => uptoBulkEntry x + uptoBulkEntries r
def uptoBulkEntry {H : Type} : Lit × DataW H → Nat
  | (.string bytes, d) => bytes.length + uptoBulk d + 1
  | (_, d) => uptoBulk d + 1
 end
def uptoSmall : (H : Type) → List (DataW H) → Bool := fun _ ds => decide (uptoBulkAll ds ≤ 1048576)
def OpenSpec.upto (s : _root_.Go.ChangeSpec) : _root_.Go.OpenSpec := { _root_.Go.OpenSpec.ofChange s with cond := some uptoSmall }

/-- 'bulletinlaw15.HeadPut', WHERE WHAT IT READS IS OF BULK AT MOST 1048576: true; the input reads as it did. -/
def headPutUptoRow : OpenClaim := { program := "ytgaaogijfikfeaadoor", sum := "cfe4ab5a7efa3dbc4a8eeb394f87ef80be6a5812ae802324c97e47ce7319ea80", func := "bulletin/bulletinlaw15.HeadPut", spec := "headPut", inPlace := ["internal/bytealg.IndexByteString", "internal/bytealg.IndexString", "internal/abi.NoEscape"], unfollowed := true, recurses := true, named := ["internal/bytealg.MaxLen", "unicode/utf8.first", "unicode/utf8.acceptRanges"], apart := false, laid := [("unicode/utf8.acceptRanges", laid_unicode_utf8_acceptRanges), ("unicode/utf8.first", laid_unicode_utf8_first)], narrowed := true }
def HeadPutUptoSaid : Prop := headPutUptoRow.holds Tryd.pinned (OpenSpec.upto headPutSpec)

/-- 'bulletinlaw15.HeadSets', WHERE WHAT IT READS IS OF BULK AT MOST 1048576: true; the input reads as it did. -/
def headSetsUptoRow : OpenClaim := { program := "ytgaaogijfikfeaadoor", sum := "cfe4ab5a7efa3dbc4a8eeb394f87ef80be6a5812ae802324c97e47ce7319ea80", func := "bulletin/bulletinlaw15.HeadSets", spec := "headSets", inPlace := ["internal/bytealg.IndexByteString", "internal/bytealg.IndexString", "internal/abi.NoEscape"], unfollowed := true, recurses := true, named := ["internal/bytealg.MaxLen", "unicode/utf8.first", "unicode/utf8.acceptRanges"], apart := false, laid := [("unicode/utf8.acceptRanges", laid_unicode_utf8_acceptRanges), ("unicode/utf8.first", laid_unicode_utf8_first)], narrowed := true }
def HeadSetsUptoSaid : Prop := headSetsUptoRow.holds Tryd.pinned (OpenSpec.upto headSetsSpec)

/-- 'bulletinlaw14.MbxShows', WHERE WHAT IT READS IS OF BULK AT MOST 1048576: true; the input reads as it did. -/
def mbxShowsUptoRow : OpenClaim := { program := "ytgaaogijfikfeaadoor", sum := "cfe4ab5a7efa3dbc4a8eeb394f87ef80be6a5812ae802324c97e47ce7319ea80", func := "bulletin/bulletinlaw14.MbxShows", spec := "mbxShows", inPlace := ["internal/bytealg.IndexByteString", "internal/abi.NoEscape", "internal/bytealg.MakeNoZero", "internal/bytealg.IndexString"], unfollowed := true, recurses := true, named := ["internal/bytealg.MaxLen", "unicode/utf8.first", "unicode/utf8.acceptRanges"], apart := false, laid := [("unicode/utf8.acceptRanges", laid_unicode_utf8_acceptRanges), ("unicode/utf8.first", laid_unicode_utf8_first)], narrowed := true }
def MbxShowsUptoSaid : Prop := mbxShowsUptoRow.holds Tryd.pinned (OpenSpec.upto mbxShowsSpec)

/-- 'bulletinlaw14.MbxMany', WHERE WHAT IT READS IS OF BULK AT MOST 1048576: true; the input reads as it did. -/
def mbxManyUptoRow : OpenClaim := { program := "ytgaaogijfikfeaadoor", sum := "cfe4ab5a7efa3dbc4a8eeb394f87ef80be6a5812ae802324c97e47ce7319ea80", func := "bulletin/bulletinlaw14.MbxMany", spec := "mbxMany", inPlace := ["internal/bytealg.IndexByteString", "internal/abi.NoEscape", "internal/bytealg.MakeNoZero", "internal/bytealg.IndexString"], unfollowed := true, recurses := true, named := ["internal/bytealg.MaxLen", "unicode/utf8.first", "unicode/utf8.acceptRanges"], apart := false, laid := [("unicode/utf8.acceptRanges", laid_unicode_utf8_acceptRanges), ("unicode/utf8.first", laid_unicode_utf8_first)], narrowed := true }
def MbxManyUptoSaid : Prop := mbxManyUptoRow.holds Tryd.pinned (OpenSpec.upto mbxManySpec)

/-- 'bulletinlaw14.MbxJoins', WHERE WHAT IT READS IS OF BULK AT MOST 1048576: true; the input reads as it did. -/
def mbxJoinsUptoRow : OpenClaim := { program := "ytgaaogijfikfeaadoor", sum := "cfe4ab5a7efa3dbc4a8eeb394f87ef80be6a5812ae802324c97e47ce7319ea80", func := "bulletin/bulletinlaw14.MbxJoins", spec := "mbxJoins", inPlace := ["internal/bytealg.IndexByteString", "internal/abi.NoEscape", "internal/bytealg.MakeNoZero", "internal/bytealg.IndexString"], unfollowed := true, recurses := true, named := ["internal/bytealg.MaxLen", "unicode/utf8.first", "unicode/utf8.acceptRanges"], apart := false, laid := [("unicode/utf8.acceptRanges", laid_unicode_utf8_acceptRanges), ("unicode/utf8.first", laid_unicode_utf8_first)], narrowed := true }
def MbxJoinsUptoSaid : Prop := mbxJoinsUptoRow.holds Tryd.pinned (OpenSpec.upto mbxJoinsSpec)

/-- 'bulletinlaw28.PathShows', WHERE WHAT IT READS IS OF BULK AT MOST 1048576: true; the input reads as it did. -/
def pathShowsUptoRow : OpenClaim := { program := "ytgaaogijfikfeaadoor", sum := "cfe4ab5a7efa3dbc4a8eeb394f87ef80be6a5812ae802324c97e47ce7319ea80", func := "bulletin/bulletinlaw28.PathShows", spec := "pathShows", inPlace := ["internal/bytealg.IndexByteString", "internal/bytealg.IndexString", "internal/abi.NoEscape"], unfollowed := true, recurses := true, named := ["internal/bytealg.MaxLen", "unicode/utf8.first", "unicode/utf8.acceptRanges"], apart := false, laid := [("unicode/utf8.acceptRanges", laid_unicode_utf8_acceptRanges), ("unicode/utf8.first", laid_unicode_utf8_first)], narrowed := true }
def PathShowsUptoSaid : Prop := pathShowsUptoRow.holds Tryd.pinned (OpenSpec.upto pathShowsSpec)

/-- 'bulletinlaw14.MbxReads', WHERE WHAT IT READS IS OF BULK AT MOST 1048576: true; the input reads as it did. -/
def mbxReadsUptoRow : OpenClaim := { program := "ytgaaogijfikfeaadoor", sum := "cfe4ab5a7efa3dbc4a8eeb394f87ef80be6a5812ae802324c97e47ce7319ea80", func := "bulletin/bulletinlaw14.MbxReads", spec := "mbxReads", inPlace := ["internal/bytealg.IndexByteString", "internal/abi.NoEscape", "internal/bytealg.MakeNoZero", "internal/bytealg.IndexString"], unfollowed := true, recurses := true, named := ["internal/bytealg.MaxLen", "unicode/utf8.first", "unicode/utf8.acceptRanges"], apart := false, laid := [("unicode/utf8.acceptRanges", laid_unicode_utf8_acceptRanges), ("unicode/utf8.first", laid_unicode_utf8_first)], narrowed := true }
def MbxReadsUptoSaid : Prop := mbxReadsUptoRow.holds Tryd.pinned (OpenSpec.upto mbxReadsSpec)

/-- 'bulletinlaw28.PathBack', WHERE WHAT IT READS IS OF BULK AT MOST 1048576: true; the input reads as it did. -/
def pathBackUptoRow : OpenClaim := { program := "ytgaaogijfikfeaadoor", sum := "cfe4ab5a7efa3dbc4a8eeb394f87ef80be6a5812ae802324c97e47ce7319ea80", func := "bulletin/bulletinlaw28.PathBack", spec := "pathBack", inPlace := ["internal/bytealg.IndexByteString", "internal/bytealg.IndexString", "internal/abi.NoEscape"], unfollowed := true, recurses := true, named := ["internal/bytealg.MaxLen", "unicode/utf8.first", "unicode/utf8.acceptRanges"], apart := false, laid := [("unicode/utf8.acceptRanges", laid_unicode_utf8_acceptRanges), ("unicode/utf8.first", laid_unicode_utf8_first)], narrowed := true }
def PathBackUptoSaid : Prop := pathBackUptoRow.holds Tryd.pinned (OpenSpec.upto pathBackSpec)

/-- 'bulletinlaw28.PathTo', WHERE WHAT IT READS IS OF BULK AT MOST 1048576: true; the input reads as it did. -/
def pathToUptoRow : OpenClaim := { program := "ytgaaogijfikfeaadoor", sum := "cfe4ab5a7efa3dbc4a8eeb394f87ef80be6a5812ae802324c97e47ce7319ea80", func := "bulletin/bulletinlaw28.PathTo", spec := "pathTo", inPlace := ["internal/bytealg.IndexByteString", "internal/bytealg.IndexString", "internal/abi.NoEscape"], unfollowed := true, recurses := true, named := ["internal/bytealg.MaxLen", "unicode/utf8.first", "unicode/utf8.acceptRanges"], apart := false, laid := [("unicode/utf8.acceptRanges", laid_unicode_utf8_acceptRanges), ("unicode/utf8.first", laid_unicode_utf8_first)], narrowed := true }
def PathToUptoSaid : Prop := pathToUptoRow.holds Tryd.pinned (OpenSpec.upto pathToSpec)

/-- 'bulletinlaw14.MbxBack', WHERE WHAT IT READS IS OF BULK AT MOST 1048576: true; the input reads as it did. -/
def mbxBackUptoRow : OpenClaim := { program := "ytgaaogijfikfeaadoor", sum := "cfe4ab5a7efa3dbc4a8eeb394f87ef80be6a5812ae802324c97e47ce7319ea80", func := "bulletin/bulletinlaw14.MbxBack", spec := "mbxBack", inPlace := ["internal/bytealg.IndexByteString", "internal/abi.NoEscape", "internal/bytealg.MakeNoZero", "internal/bytealg.IndexString"], unfollowed := true, recurses := true, named := ["internal/bytealg.MaxLen", "unicode/utf8.first", "unicode/utf8.acceptRanges"], apart := false, laid := [("unicode/utf8.acceptRanges", laid_unicode_utf8_acceptRanges), ("unicode/utf8.first", laid_unicode_utf8_first)], narrowed := true }
def MbxBackUptoSaid : Prop := mbxBackUptoRow.holds Tryd.pinned (OpenSpec.upto mbxBackSpec)

/-- 'bulletinlaw20.MimeTypes', WHERE WHAT IT READS IS OF BULK AT MOST 1048576: true; the input reads as it did. -/
def mimeTypesUptoRow : OpenClaim := { program := "ytgaaogijfikfeaadoor", sum := "cfe4ab5a7efa3dbc4a8eeb394f87ef80be6a5812ae802324c97e47ce7319ea80", func := "bulletin/bulletinlaw20.MimeTypes", spec := "mimeTypes", inPlace := ["internal/bytealg.IndexByteString", "internal/bytealg.IndexString", "internal/abi.NoEscape", "internal/bytealg.MakeNoZero"], unfollowed := true, recurses := true, named := ["internal/bytealg.MaxLen", "unicode/utf8.first", "unicode/utf8.acceptRanges"], apart := false, laid := [("unicode/utf8.acceptRanges", laid_unicode_utf8_acceptRanges), ("unicode/utf8.first", laid_unicode_utf8_first)], narrowed := true }
def MimeTypesUptoSaid : Prop := mimeTypesUptoRow.holds Tryd.pinned (OpenSpec.upto mimeTypesSpec)

/-- 'bulletinlaw20.MimeSplits', WHERE WHAT IT READS IS OF BULK AT MOST 1048576: true; the input reads as it did. -/
def mimeSplitsUptoRow : OpenClaim := { program := "ytgaaogijfikfeaadoor", sum := "cfe4ab5a7efa3dbc4a8eeb394f87ef80be6a5812ae802324c97e47ce7319ea80", func := "bulletin/bulletinlaw20.MimeSplits", spec := "mimeSplits", inPlace := ["internal/bytealg.IndexByteString", "internal/bytealg.IndexString", "internal/abi.NoEscape", "internal/bytealg.MakeNoZero"], unfollowed := true, recurses := true, named := ["internal/bytealg.MaxLen", "unicode/utf8.first", "unicode/utf8.acceptRanges"], apart := false, laid := [("unicode/utf8.acceptRanges", laid_unicode_utf8_acceptRanges), ("unicode/utf8.first", laid_unicode_utf8_first)], narrowed := true }
def MimeSplitsUptoSaid : Prop := mimeSplitsUptoRow.holds Tryd.pinned (OpenSpec.upto mimeSplitsSpec)

/-- 'bulletinlaw20.MimeTypeBack', WHERE WHAT IT READS IS OF BULK AT MOST 1048576: true; the input reads as it did. -/
def mimeTypeBackUptoRow : OpenClaim := { program := "ytgaaogijfikfeaadoor", sum := "cfe4ab5a7efa3dbc4a8eeb394f87ef80be6a5812ae802324c97e47ce7319ea80", func := "bulletin/bulletinlaw20.MimeTypeBack", spec := "mimeTypeBack", inPlace := ["internal/bytealg.IndexByteString", "internal/bytealg.IndexString", "internal/abi.NoEscape", "internal/bytealg.MakeNoZero"], unfollowed := true, recurses := true, named := ["internal/bytealg.MaxLen", "unicode/utf8.first", "unicode/utf8.acceptRanges"], apart := false, laid := [("unicode/utf8.acceptRanges", laid_unicode_utf8_acceptRanges), ("unicode/utf8.first", laid_unicode_utf8_first)], narrowed := true }
def MimeTypeBackUptoSaid : Prop := mimeTypeBackUptoRow.holds Tryd.pinned (OpenSpec.upto mimeTypeBackSpec)

/-- 'bulletinlaw20.MimeMany', WHERE WHAT IT READS IS OF BULK AT MOST 1048576: true; the input reads as it did. -/
def mimeManyUptoRow : OpenClaim := { program := "ytgaaogijfikfeaadoor", sum := "cfe4ab5a7efa3dbc4a8eeb394f87ef80be6a5812ae802324c97e47ce7319ea80", func := "bulletin/bulletinlaw20.MimeMany", spec := "mimeMany", inPlace := ["internal/bytealg.IndexByteString", "internal/bytealg.IndexString", "internal/abi.NoEscape", "internal/bytealg.MakeNoZero"], unfollowed := true, recurses := true, named := ["internal/bytealg.MaxLen", "unicode/utf8.first", "unicode/utf8.acceptRanges"], apart := false, laid := [("unicode/utf8.acceptRanges", laid_unicode_utf8_acceptRanges), ("unicode/utf8.first", laid_unicode_utf8_first)], narrowed := true }
def MimeManyUptoSaid : Prop := mimeManyUptoRow.holds Tryd.pinned (OpenSpec.upto mimeManySpec)

/-- 'bulletinlaw33.RosterOnce', WHERE WHAT IT READS IS OF BULK AT MOST 1048576: true; the input reads as it did. -/
def rosterOnceUptoRow : OpenClaim := { program := "ytgaaogijfikfeaadoor", sum := "cfe4ab5a7efa3dbc4a8eeb394f87ef80be6a5812ae802324c97e47ce7319ea80", func := "bulletin/bulletinlaw33.RosterOnce", spec := "rosterOnce", inPlace := ["internal/bytealg.IndexByteString", "internal/bytealg.IndexString", "internal/abi.NoEscape"], unfollowed := true, recurses := true, named := ["unicode/utf8.first", "unicode/utf8.acceptRanges", "internal/bytealg.MaxLen", "internal/strconv.uint64pow10", "math/bits.deBruijn32tab", "math/bits.deBruijn64tab"], apart := false, laid := [("math/bits.deBruijn32tab", laid_math_bits_deBruijn32tab), ("math/bits.deBruijn64tab", laid_math_bits_deBruijn64tab), ("internal/strconv.uint64pow10", laid_internal_strconv_uint64pow10), ("unicode/utf8.acceptRanges", laid_unicode_utf8_acceptRanges), ("unicode/utf8.first", laid_unicode_utf8_first)], narrowed := true }
def RosterOnceUptoSaid : Prop := rosterOnceUptoRow.holds Tryd.pinned (OpenSpec.upto rosterOnceSpec)

end Rows
end Go.Proofs.YtgaaogijfikfeaaDoor
