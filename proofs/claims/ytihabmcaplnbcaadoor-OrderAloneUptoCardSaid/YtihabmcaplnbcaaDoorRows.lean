/-
  NARROWER THAN 'FOR EVERY INPUT', by the rows' own cells (each row's printed sentence says how): MbxReads: laid · EwWrites: laid · EwBack: laid · EwValid: laid · EwPlain: laid · DressOnce: laid · OrderAlone: laid.
  DERIVED. THE GIVEN ROWS OF THIS SEAT. 7 by the template 'for every input the law returns true; each argument reads behind the call as it read before'; 0 by the template 'total and deterministic' (their statements: YtihabmcaplnbcaaDoorTotals.lean).
  GIVEN WITH THE SEED: the statements are not yours to turn. If you find one false, say at which input.
  Laid BY PROGRAM, IN A SANDBOX (cutbox-rows.mjs): the forced cells as the released guide's own fill.sh prints them over the translation f8e2ef3e5c45d9c1… (all of the seat's roots in one cut). By AI agents, Wed Nov 11 2026. No macro, syntax, notation, axiom, sorry.
-/
import Derived.Test.YtihabmcaplnbcaaDoorChecked
import GoSem.PinnedTables
import GoSem.Claim
import GoSem.ClaimJoined
import GoSem.ClaimMapViews
import Derived.JoinedTies
import Derived.KernelRfl
namespace Go.Proofs.YtihabmcaplnbcaaDoor
/- THE CELL 'sum', in the pinned program and in every row, IS THE sha256 OF THE DUMP (.gsa) THAT YtihabmcaplnbcaaDoorProg.lean LOADS. Nothing in Lean hashes anything: it is a label: what it is worth is what the hold of that sum in a sandbox is worth. -/
noncomputable def Tryd.pinned : Pinned := { name := "ytihabmcaplnbcaadoor", sum := "f8e2ef3e5c45d9c16d355fb99cd0522a1342932ddb4a95517f5a921b8d6ae977", checked := Tryd.checked }
namespace Rows
def none {H : Type} : Left H := { results := [], args := [] }

/- WHAT THE LISTED PACKAGE-LEVEL VARIABLES READ AS WHEN THE CALL BEGINS. Each datum BY PROGRAM (the guide's laid-datum.mjs) off the statement by which the dump's own 'gosem.cut.vars' lays the variable. In a bare row this is a premise. The card (YtihabmcaplnbcaaDoorCards.lean) ties it to the program's text. -/
def laid_unicode_utf8_acceptRanges {H : Type} : DataW H := .agg [.agg [.lit (.int .u8 128), .lit (.int .u8 191)], .agg [.lit (.int .u8 160), .lit (.int .u8 191)], .agg [.lit (.int .u8 128), .lit (.int .u8 159)], .agg [.lit (.int .u8 144), .lit (.int .u8 191)], .agg [.lit (.int .u8 128), .lit (.int .u8 143)], .agg [.lit (.int .u8 0), .lit (.int .u8 0)], .agg [.lit (.int .u8 0), .lit (.int .u8 0)], .agg [.lit (.int .u8 0), .lit (.int .u8 0)], .agg [.lit (.int .u8 0), .lit (.int .u8 0)], .agg [.lit (.int .u8 0), .lit (.int .u8 0)], .agg [.lit (.int .u8 0), .lit (.int .u8 0)], .agg [.lit (.int .u8 0), .lit (.int .u8 0)], .agg [.lit (.int .u8 0), .lit (.int .u8 0)], .agg [.lit (.int .u8 0), .lit (.int .u8 0)], .agg [.lit (.int .u8 0), .lit (.int .u8 0)], .agg [.lit (.int .u8 0), .lit (.int .u8 0)]]
/-- One of Go's own tables, pinned by name: the form's constant. -/
def laid_unicode_utf8_first : DataW Unit := Go.Pinned.utf8First

/-- 'bulletinlaw14.MbxReads': WHATEVER THE INPUT: true; the input reads as it did. -/
def mbxReadsSpec : ChangeSpec := { name := "mbxReads", fn := fun _ => fun
  | [d] => { results := [.lit (.bool true)], args := [d] }
  | _ => none }
def mbxReadsRow : OpenClaim := { program := "ytihabmcaplnbcaadoor", sum := "f8e2ef3e5c45d9c16d355fb99cd0522a1342932ddb4a95517f5a921b8d6ae977", func := "bulletin/bulletinlaw14.MbxReads", spec := "mbxReads", inPlace := ["internal/bytealg.IndexByteString", "internal/abi.NoEscape", "internal/bytealg.MakeNoZero", "internal/bytealg.IndexString"], unfollowed := true, recurses := true, named := ["internal/bytealg.MaxLen", "unicode/utf8.first", "unicode/utf8.acceptRanges"], apart := false, laid := [("unicode/utf8.acceptRanges", laid_unicode_utf8_acceptRanges), ("unicode/utf8.first", laid_unicode_utf8_first)] }
def MbxReadsSaid : Prop := mbxReadsRow.holds Tryd.pinned (OpenSpec.ofChange mbxReadsSpec)

/-- ITS FALSE NEIGHBOUR: 'it returns false'. Refute it at one input. -/
def mbxReadsWrong : ChangeSpec := { name := "mbxReads", fn := fun _ => fun
  | [d] => { results := [.lit (.bool false)], args := [d] }
  | _ => none }
def MbxReadsWrongFalsely : Prop := mbxReadsRow.holds Tryd.pinned (OpenSpec.ofChange mbxReadsWrong)

/-- 'bulletinlaw19.EwWrites': WHATEVER THE INPUT: true; the input reads as it did. -/
def ewWritesSpec : ChangeSpec := { name := "ewWrites", fn := fun _ => fun
  | [d] => { results := [.lit (.bool true)], args := [d] }
  | _ => none }
def ewWritesRow : OpenClaim := { program := "ytihabmcaplnbcaadoor", sum := "f8e2ef3e5c45d9c16d355fb99cd0522a1342932ddb4a95517f5a921b8d6ae977", func := "bulletin/bulletinlaw19.EwWrites", spec := "ewWrites", inPlace := ["internal/bytealg.IndexByteString", "internal/bytealg.IndexString", "internal/bytealg.CountString", "internal/abi.NoEscape", "internal/bytealg.MakeNoZero"], named := ["internal/bytealg.MaxLen", "unicode/utf8.first", "unicode/utf8.acceptRanges"], apart := false, laid := [("unicode/utf8.acceptRanges", laid_unicode_utf8_acceptRanges), ("unicode/utf8.first", laid_unicode_utf8_first)] }
def EwWritesSaid : Prop := ewWritesRow.holds Tryd.pinned (OpenSpec.ofChange ewWritesSpec)

/-- ITS FALSE NEIGHBOUR: 'it returns false'. Refute it at one input. -/
def ewWritesWrong : ChangeSpec := { name := "ewWrites", fn := fun _ => fun
  | [d] => { results := [.lit (.bool false)], args := [d] }
  | _ => none }
def EwWritesWrongFalsely : Prop := ewWritesRow.holds Tryd.pinned (OpenSpec.ofChange ewWritesWrong)

/-- 'bulletinlaw19.EwBack': WHATEVER THE INPUT: true; the input reads as it did. -/
def ewBackSpec : ChangeSpec := { name := "ewBack", fn := fun _ => fun
  | [d] => { results := [.lit (.bool true)], args := [d] }
  | _ => none }
def ewBackRow : OpenClaim := { program := "ytihabmcaplnbcaadoor", sum := "f8e2ef3e5c45d9c16d355fb99cd0522a1342932ddb4a95517f5a921b8d6ae977", func := "bulletin/bulletinlaw19.EwBack", spec := "ewBack", inPlace := ["internal/bytealg.IndexByteString", "internal/bytealg.IndexString", "internal/bytealg.CountString", "internal/abi.NoEscape", "internal/bytealg.MakeNoZero"], named := ["internal/bytealg.MaxLen", "unicode/utf8.first", "unicode/utf8.acceptRanges"], apart := false, laid := [("unicode/utf8.acceptRanges", laid_unicode_utf8_acceptRanges), ("unicode/utf8.first", laid_unicode_utf8_first)] }
def EwBackSaid : Prop := ewBackRow.holds Tryd.pinned (OpenSpec.ofChange ewBackSpec)

/-- ITS FALSE NEIGHBOUR: 'it returns false'. Refute it at one input. -/
def ewBackWrong : ChangeSpec := { name := "ewBack", fn := fun _ => fun
  | [d] => { results := [.lit (.bool false)], args := [d] }
  | _ => none }
def EwBackWrongFalsely : Prop := ewBackRow.holds Tryd.pinned (OpenSpec.ofChange ewBackWrong)

/-- 'bulletinlaw19.EwValid': WHATEVER THE INPUT: true; the input reads as it did. -/
def ewValidSpec : ChangeSpec := { name := "ewValid", fn := fun _ => fun
  | [d] => { results := [.lit (.bool true)], args := [d] }
  | _ => none }
def ewValidRow : OpenClaim := { program := "ytihabmcaplnbcaadoor", sum := "f8e2ef3e5c45d9c16d355fb99cd0522a1342932ddb4a95517f5a921b8d6ae977", func := "bulletin/bulletinlaw19.EwValid", spec := "ewValid", inPlace := ["internal/bytealg.IndexByteString", "internal/bytealg.IndexString", "internal/bytealg.CountString", "internal/abi.NoEscape", "internal/bytealg.MakeNoZero"], named := ["internal/bytealg.MaxLen", "unicode/utf8.first", "unicode/utf8.acceptRanges"], apart := false, laid := [("unicode/utf8.acceptRanges", laid_unicode_utf8_acceptRanges), ("unicode/utf8.first", laid_unicode_utf8_first)] }
def EwValidSaid : Prop := ewValidRow.holds Tryd.pinned (OpenSpec.ofChange ewValidSpec)

/-- ITS FALSE NEIGHBOUR: 'it returns false'. Refute it at one input. -/
def ewValidWrong : ChangeSpec := { name := "ewValid", fn := fun _ => fun
  | [d] => { results := [.lit (.bool false)], args := [d] }
  | _ => none }
def EwValidWrongFalsely : Prop := ewValidRow.holds Tryd.pinned (OpenSpec.ofChange ewValidWrong)

/-- 'bulletinlaw19.EwPlain': WHATEVER THE INPUT: true; the input reads as it did. -/
def ewPlainSpec : ChangeSpec := { name := "ewPlain", fn := fun _ => fun
  | [d] => { results := [.lit (.bool true)], args := [d] }
  | _ => none }
def ewPlainRow : OpenClaim := { program := "ytihabmcaplnbcaadoor", sum := "f8e2ef3e5c45d9c16d355fb99cd0522a1342932ddb4a95517f5a921b8d6ae977", func := "bulletin/bulletinlaw19.EwPlain", spec := "ewPlain", inPlace := ["internal/bytealg.IndexByteString", "internal/bytealg.IndexString", "internal/bytealg.CountString", "internal/abi.NoEscape", "internal/bytealg.MakeNoZero"], unfollowed := true, recurses := true, named := ["internal/bytealg.MaxLen", "unicode/utf8.first", "unicode/utf8.acceptRanges"], apart := false, laid := [("unicode/utf8.acceptRanges", laid_unicode_utf8_acceptRanges), ("unicode/utf8.first", laid_unicode_utf8_first)] }
def EwPlainSaid : Prop := ewPlainRow.holds Tryd.pinned (OpenSpec.ofChange ewPlainSpec)

/-- ITS FALSE NEIGHBOUR: 'it returns false'. Refute it at one input. -/
def ewPlainWrong : ChangeSpec := { name := "ewPlain", fn := fun _ => fun
  | [d] => { results := [.lit (.bool false)], args := [d] }
  | _ => none }
def EwPlainWrongFalsely : Prop := ewPlainRow.holds Tryd.pinned (OpenSpec.ofChange ewPlainWrong)

/-- 'bulletinlaw36.DressOnce': WHATEVER THE INPUT: true; the input reads as it did. -/
def dressOnceSpec : ChangeSpec := { name := "dressOnce", fn := fun _ => fun
  | [d1, d2] => { results := [.lit (.bool true)], args := [d1, d2] }
  | _ => none }
def dressOnceRow : OpenClaim := { program := "ytihabmcaplnbcaadoor", sum := "f8e2ef3e5c45d9c16d355fb99cd0522a1342932ddb4a95517f5a921b8d6ae977", func := "bulletin/bulletinlaw36.DressOnce", spec := "dressOnce", inPlace := ["internal/bytealg.CountString", "internal/bytealg.IndexByteString", "internal/bytealg.IndexString", "internal/abi.NoEscape", "internal/bytealg.MakeNoZero"], named := ["unicode/utf8.first", "unicode/utf8.acceptRanges", "internal/bytealg.MaxLen"], apart := false, laid := [("unicode/utf8.acceptRanges", laid_unicode_utf8_acceptRanges), ("unicode/utf8.first", laid_unicode_utf8_first)] }
def DressOnceSaid : Prop := dressOnceRow.holds Tryd.pinned (OpenSpec.ofChange dressOnceSpec)

/-- ITS FALSE NEIGHBOUR: 'it returns false'. Refute it at one input. -/
def dressOnceWrong : ChangeSpec := { name := "dressOnce", fn := fun _ => fun
  | [d1, d2] => { results := [.lit (.bool false)], args := [d1, d2] }
  | _ => none }
def DressOnceWrongFalsely : Prop := dressOnceRow.holds Tryd.pinned (OpenSpec.ofChange dressOnceWrong)

/-- 'bulletinlaw35.OrderAlone': WHATEVER THE INPUT: true; the input reads as it did. -/
def orderAloneSpec : ChangeSpec := { name := "orderAlone", fn := fun _ => fun
  | [d] => { results := [.lit (.bool true)], args := [d] }
  | _ => none }
def orderAloneRow : OpenClaim := { program := "ytihabmcaplnbcaadoor", sum := "f8e2ef3e5c45d9c16d355fb99cd0522a1342932ddb4a95517f5a921b8d6ae977", func := "bulletin/bulletinlaw35.OrderAlone", spec := "orderAlone", inPlace := ["internal/abi.NoEscape", "internal/bytealg.MakeNoZero", "internal/bytealg.CountString", "internal/bytealg.IndexByteString", "internal/bytealg.IndexString"], unfollowed := true, recurses := true, named := ["unicode/utf8.first", "unicode/utf8.acceptRanges", "internal/bytealg.MaxLen"], apart := false, laid := [("unicode/utf8.acceptRanges", laid_unicode_utf8_acceptRanges), ("unicode/utf8.first", laid_unicode_utf8_first)] }
def OrderAloneSaid : Prop := orderAloneRow.holds Tryd.pinned (OpenSpec.ofChange orderAloneSpec)

/-- ITS FALSE NEIGHBOUR: 'it returns false'. Refute it at one input. -/
def orderAloneWrong : ChangeSpec := { name := "orderAlone", fn := fun _ => fun
  | [d] => { results := [.lit (.bool false)], args := [d] }
  | _ => none }
def OrderAloneWrongFalsely : Prop := orderAloneRow.holds Tryd.pinned (OpenSpec.ofChange orderAloneWrong)

/- THE SECOND FORM. 'bulk': how many values and letters a reading holds, each counted each time it is reached (what is shared counts as often as it is met; a slice's spare places count too). A statement '..UptoSaid' is the law's where the arguments, and the package variables that the reading takes, are together of bulk at most 1048576: NARROWER than '..Said'. Prove '..Said' where nothing that the law and all that it calls make is longer than what came in: it says more and counts as full. Else prove '..UptoSaid'. A law counts once. -/
mutual
def uptoBulk {H : Type} : DataW H → Nat
  | .lit (.string bytes) => bytes.length + 1
  | .lit _ => 1
  | .nil => 1
  | .ptr d => uptoBulk d + 1
  | .slice elems spare => uptoBulkAll elems + uptoBulkAll spare + 1
  | .agg parts => uptoBulkAll parts + 1
  | .iface _ d => uptoBulk d + 1
  | .map entries => uptoBulkEntries entries + 1
  | .held _ => 1
def uptoBulkAll {H : Type} : List (DataW H) → Nat
  | [] => 0
  | d :: r => uptoBulk d + uptoBulkAll r
def uptoBulkEntries {H : Type} : List (Lit × DataW H) → Nat
  | [] => 0
  | x :: r => uptoBulkEntry x + uptoBulkEntries r
def uptoBulkEntry {H : Type} : Lit × DataW H → Nat
  | (.string bytes, d) => bytes.length + uptoBulk d + 1
  | (_, d) => uptoBulk d + 1
 end
def uptoSmall : (H : Type) → List (DataW H) → Bool := fun _ ds => decide (uptoBulkAll ds ≤ 1048576)
def OpenSpec.upto (s : _root_.Go.ChangeSpec) : _root_.Go.OpenSpec := { _root_.Go.OpenSpec.ofChange s with cond := some uptoSmall }

/-- 'bulletinlaw14.MbxReads', WHERE WHAT IT READS IS OF BULK AT MOST 1048576: true; the input reads as it did. -/
def mbxReadsUptoRow : OpenClaim := { program := "ytihabmcaplnbcaadoor", sum := "f8e2ef3e5c45d9c16d355fb99cd0522a1342932ddb4a95517f5a921b8d6ae977", func := "bulletin/bulletinlaw14.MbxReads", spec := "mbxReads", inPlace := ["internal/bytealg.IndexByteString", "internal/abi.NoEscape", "internal/bytealg.MakeNoZero", "internal/bytealg.IndexString"], unfollowed := true, recurses := true, named := ["internal/bytealg.MaxLen", "unicode/utf8.first", "unicode/utf8.acceptRanges"], apart := false, laid := [("unicode/utf8.acceptRanges", laid_unicode_utf8_acceptRanges), ("unicode/utf8.first", laid_unicode_utf8_first)], narrowed := true }
def MbxReadsUptoSaid : Prop := mbxReadsUptoRow.holds Tryd.pinned (OpenSpec.upto mbxReadsSpec)

/-- 'bulletinlaw19.EwWrites', WHERE WHAT IT READS IS OF BULK AT MOST 1048576: true; the input reads as it did. -/
def ewWritesUptoRow : OpenClaim := { program := "ytihabmcaplnbcaadoor", sum := "f8e2ef3e5c45d9c16d355fb99cd0522a1342932ddb4a95517f5a921b8d6ae977", func := "bulletin/bulletinlaw19.EwWrites", spec := "ewWrites", inPlace := ["internal/bytealg.IndexByteString", "internal/bytealg.IndexString", "internal/bytealg.CountString", "internal/abi.NoEscape", "internal/bytealg.MakeNoZero"], named := ["internal/bytealg.MaxLen", "unicode/utf8.first", "unicode/utf8.acceptRanges"], apart := false, laid := [("unicode/utf8.acceptRanges", laid_unicode_utf8_acceptRanges), ("unicode/utf8.first", laid_unicode_utf8_first)], narrowed := true }
def EwWritesUptoSaid : Prop := ewWritesUptoRow.holds Tryd.pinned (OpenSpec.upto ewWritesSpec)

/-- 'bulletinlaw19.EwBack', WHERE WHAT IT READS IS OF BULK AT MOST 1048576: true; the input reads as it did. -/
def ewBackUptoRow : OpenClaim := { program := "ytihabmcaplnbcaadoor", sum := "f8e2ef3e5c45d9c16d355fb99cd0522a1342932ddb4a95517f5a921b8d6ae977", func := "bulletin/bulletinlaw19.EwBack", spec := "ewBack", inPlace := ["internal/bytealg.IndexByteString", "internal/bytealg.IndexString", "internal/bytealg.CountString", "internal/abi.NoEscape", "internal/bytealg.MakeNoZero"], named := ["internal/bytealg.MaxLen", "unicode/utf8.first", "unicode/utf8.acceptRanges"], apart := false, laid := [("unicode/utf8.acceptRanges", laid_unicode_utf8_acceptRanges), ("unicode/utf8.first", laid_unicode_utf8_first)], narrowed := true }
def EwBackUptoSaid : Prop := ewBackUptoRow.holds Tryd.pinned (OpenSpec.upto ewBackSpec)

/-- 'bulletinlaw19.EwValid', WHERE WHAT IT READS IS OF BULK AT MOST 1048576: true; the input reads as it did. -/
def ewValidUptoRow : OpenClaim := { program := "ytihabmcaplnbcaadoor", sum := "f8e2ef3e5c45d9c16d355fb99cd0522a1342932ddb4a95517f5a921b8d6ae977", func := "bulletin/bulletinlaw19.EwValid", spec := "ewValid", inPlace := ["internal/bytealg.IndexByteString", "internal/bytealg.IndexString", "internal/bytealg.CountString", "internal/abi.NoEscape", "internal/bytealg.MakeNoZero"], named := ["internal/bytealg.MaxLen", "unicode/utf8.first", "unicode/utf8.acceptRanges"], apart := false, laid := [("unicode/utf8.acceptRanges", laid_unicode_utf8_acceptRanges), ("unicode/utf8.first", laid_unicode_utf8_first)], narrowed := true }
def EwValidUptoSaid : Prop := ewValidUptoRow.holds Tryd.pinned (OpenSpec.upto ewValidSpec)

/-- 'bulletinlaw19.EwPlain', WHERE WHAT IT READS IS OF BULK AT MOST 1048576: true; the input reads as it did. -/
def ewPlainUptoRow : OpenClaim := { program := "ytihabmcaplnbcaadoor", sum := "f8e2ef3e5c45d9c16d355fb99cd0522a1342932ddb4a95517f5a921b8d6ae977", func := "bulletin/bulletinlaw19.EwPlain", spec := "ewPlain", inPlace := ["internal/bytealg.IndexByteString", "internal/bytealg.IndexString", "internal/bytealg.CountString", "internal/abi.NoEscape", "internal/bytealg.MakeNoZero"], unfollowed := true, recurses := true, named := ["internal/bytealg.MaxLen", "unicode/utf8.first", "unicode/utf8.acceptRanges"], apart := false, laid := [("unicode/utf8.acceptRanges", laid_unicode_utf8_acceptRanges), ("unicode/utf8.first", laid_unicode_utf8_first)], narrowed := true }
def EwPlainUptoSaid : Prop := ewPlainUptoRow.holds Tryd.pinned (OpenSpec.upto ewPlainSpec)

/-- 'bulletinlaw36.DressOnce', WHERE WHAT IT READS IS OF BULK AT MOST 1048576: true; the input reads as it did. -/
def dressOnceUptoRow : OpenClaim := { program := "ytihabmcaplnbcaadoor", sum := "f8e2ef3e5c45d9c16d355fb99cd0522a1342932ddb4a95517f5a921b8d6ae977", func := "bulletin/bulletinlaw36.DressOnce", spec := "dressOnce", inPlace := ["internal/bytealg.CountString", "internal/bytealg.IndexByteString", "internal/bytealg.IndexString", "internal/abi.NoEscape", "internal/bytealg.MakeNoZero"], named := ["unicode/utf8.first", "unicode/utf8.acceptRanges", "internal/bytealg.MaxLen"], apart := false, laid := [("unicode/utf8.acceptRanges", laid_unicode_utf8_acceptRanges), ("unicode/utf8.first", laid_unicode_utf8_first)], narrowed := true }
def DressOnceUptoSaid : Prop := dressOnceUptoRow.holds Tryd.pinned (OpenSpec.upto dressOnceSpec)

/-- 'bulletinlaw35.OrderAlone', WHERE WHAT IT READS IS OF BULK AT MOST 1048576: true; the input reads as it did. -/
def orderAloneUptoRow : OpenClaim := { program := "ytihabmcaplnbcaadoor", sum := "f8e2ef3e5c45d9c16d355fb99cd0522a1342932ddb4a95517f5a921b8d6ae977", func := "bulletin/bulletinlaw35.OrderAlone", spec := "orderAlone", inPlace := ["internal/abi.NoEscape", "internal/bytealg.MakeNoZero", "internal/bytealg.CountString", "internal/bytealg.IndexByteString", "internal/bytealg.IndexString"], unfollowed := true, recurses := true, named := ["unicode/utf8.first", "unicode/utf8.acceptRanges", "internal/bytealg.MaxLen"], apart := false, laid := [("unicode/utf8.acceptRanges", laid_unicode_utf8_acceptRanges), ("unicode/utf8.first", laid_unicode_utf8_first)], narrowed := true }
def OrderAloneUptoSaid : Prop := orderAloneUptoRow.holds Tryd.pinned (OpenSpec.upto orderAloneSpec)

end Rows
end Go.Proofs.YtihabmcaplnbcaaDoor
