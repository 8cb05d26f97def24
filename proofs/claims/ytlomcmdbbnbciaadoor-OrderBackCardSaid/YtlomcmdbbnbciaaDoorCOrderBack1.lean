/- A part of the proof of this sentence: The law bulletinlaw35.OrderBack returns true for every input: what is shown of any line's command is read as it, if that is not Unknown, and of an Unknown one it is what it says, in at most 30 signs, none of them capital or a blank side by side with another one; the tables of unicode/utf8 are as the program's text lays them. -/
import Derived.Test.YtlomcmdbbnbciaaDoorProg
import Derived.Below
import Derived.Deep.Draws
import Derived.Deep.AppendLies
import Derived.Maps.AppendAt
import Derived.OwnWalk
import Derived.Laws.BytesArg
import Derived.Laws.MakeOwn
import Derived.Laws.OwnMore
import Derived.Deep.OwnRows
import Derived.Tactics
import Derived.Lib.ConvBytes
import Derived.Laws.Slices
import Derived.WalkKit
import Derived.KernelRfl
import Derived.RowKit3
import Derived.Deep.LoopGhost
import Derived.Deep.QuietTactic
import Derived.BigQuiet
import Derived.WideLaws
import Derived.Deep.DeepCutAuto
import Derived.Deep.CutBlock
import Derived.Deep.RegionHeld3
import Derived.Laws.Rows
import Derived.Lib.AppendStr
import Derived.ArgAppend
import Derived.Laws.IdiomCopy
import Derived.OrdersHeld
import Derived.Laws.BitsLemmas
import Derived.RowKit
import Derived.Test.YtlomcmdbbnbciaaDoorCOrderBackWWords
import Derived.Test.YtlomcmdbbnbciaaDoorCOrderBackWLast
import Derived.Test.YtlomcmdbbnbciaaDoorCOrderBackWTab
import Derived.Test.YtlomcmdbbnbciaaDoorCOrderBackWFour
import Derived.Test.YtlomcmdbbnbciaaDoorCOrderBackWQPut
import Derived.Test.YtlomcmdbbnbciaaDoorCOrderBackWApart
import Derived.Test.YtlomcmdbbnbciaaDoorCOrderBackWArr
import Derived.Test.YtlomcmdbbnbciaaDoorCOrderBackWZeros
import Derived.Test.YtlomcmdbbnbciaaDoorCOrderBackWFoot
import Derived.Test.YtlomcmdbbnbciaaDoorCOrderBackWKept
import Derived.Test.YtlomcmdbbnbciaaDoorCOrderBackWShare
import Derived.Test.YtlomcmdbbnbciaaDoorCOrderBackWN
import Derived.Test.YtlomcmdbbnbciaaDoorCOrderBackWFootNe
import Derived.Test.YtlomcmdbbnbciaaDoorCOrderBackWAt
import Derived.Test.YtlomcmdbbnbciaaDoorCOrderBackWEqStruct
import Derived.Test.YtlomcmdbbnbciaaDoorCOrderBackWRepsOne
import Derived.Test.YtlomcmdbbnbciaaDoorCOrderBackWInv
import Derived.Test.YtlomcmdbbnbciaaDoorCOrderBackWInvWords
import Derived.Test.YtlomcmdbbnbciaaDoorCOrderBackWGuard
import Derived.Test.YtlomcmdbbnbciaaDoorCOrderBackWNEv
import Derived.Test.YtlomcmdbbnbciaaDoorCOrderBackWMore
import Derived.Shelf.Strings.BuilderRune
import Derived.BigCall
import Derived.Lib.RuneBytes
import Derived.Lib.DecodeN
import Derived.Lib.FieldsP
import Derived.Lib.Join
import Derived.Laws.RangeAny
import Derived.Shelf.Strings.Builder1
import Derived.Shelf.Strings.Builder2
import Derived.Shelf.Strings.OnBuilder
import Derived.Shelf.Strings.Trim
import Derived.Shelf.Small.Utf8
import Derived.Shelf.Small.Strs
import Derived.Shelf.Strings.BuilderF
import Derived.Shelf.Strings.BuilderK
import Derived.Shelf.Utf8.AppendRune
import Derived.Shelf.Strings.Search1
import Derived.Shelf.Strings.Search2
import Derived.Shelf.Strings.Search3
import Derived.Shelf.Strings.Cut
import Derived.Shelf.LaysM
import Derived.Shelf.Strings.Shaped
import Derived.Shelf.Strings.Runes
import Derived.Shelf.Strings.IndexAny
import Derived.Shelf.Strings.AsciiSet
import Derived.Shelf.Strings.IndexAnyAll
import Derived.Shelf.Unicode.DecodeSlow
import Derived.Shelf.Unicode.DecodeAny
import Derived.Shelf.Unicode.DecodeLast
import Derived.Shelf.Strings.FieldsFuncAny
import Derived.Shelf.Strings.FieldsFuncGrows
import Derived.Test.YtlomcmdbbnbciaaDoorRows
import Derived.HandedShaped
import Derived.LaidLaws
import Derived.LaidHandle
import Derived.Deep.DeepLaidRun
import Derived.Stop.Joined
import Derived.PinnedBridge
import Derived.Lib.LaidU8
import Derived.ProofKit
import Derived.RangeFuncSeq
import Derived.Lib.RuneCountTail
namespace Go.Proofs.YtlomcmdbbnbciaaDoor.Fn
def bitsL (n m : Nat) : Array Bool := ((List.range n).map m.testBit).toArray
end Go.Proofs.YtlomcmdbbnbciaaDoor.Fn
-- written by xprint.py of this session over the kit's printer; not trusted: Lean checks it
namespace Go.Proofs.YtlomcmdbbnbciaaDoor.Fn
open Go.RowKit Go.Proofs.YtlomcmdbbnbciaaDoorW.PrintWords Go.Proofs.YtlomcmdbbnbciaaDoorW.PrintLast Go.Proofs.YtlomcmdbbnbciaaDoorW.PrintMore
attribute [local go_sem] max2_int min2_int max_two min_two max_three min_three max_four min_four   -- for this text's walks alone
set_option linter.unusedVariables false
set_option linter.unusedSimpArgs false

def errW : Option Int → Value
  | none => .nilIface
  | some c => .iface 0 (.int .i64 c)
theorem errW_none : errW none = .nilIface := rfl
theorem errW_some (c : Int) : errW (some c) = .iface 0 (.int .i64 c) := rfl

theorem nil_ne (l : List UInt8) : l.isEmpty = !(l != []) := by cases l <;> simp
-- the values' own types
/-! #### struct type 142 -/
structure S142 where
  f0 : Int
  f1 : ByteArray
/-! #### struct type 148 -/
structure S148 where
  f0 : Int
  f1 : ByteArray
/-! #### struct type 60 -/
structure S60 where
  f0 : ByteArray
  f1 : ByteArray
/-! #### struct type 59 -/
structure S59 where
  f0 : ByteArray
  f1 : ByteArray
/-! #### struct type 32 -/
structure S32 where
  f0 : ByteArray
  f1 : ByteArray
/-! #### struct type 87 -/
structure S87 where
  f0 : ByteArray
  f1 : S32
/-! #### struct type 31 -/
structure S31 where
  f0 : ByteArray
  f1 : ByteArray
def z31 : S31 := ⟨(⟨#[]⟩ : ByteArray), (⟨#[]⟩ : ByteArray)⟩
/-! #### struct type 85 -/
structure S85 where
  f0 : ByteArray
  f1 : S31
theorem fld24_0 (x0 x1 x2 : Value) (w : World) : (Instr.field 24 (.agg #[x0, x1, x2]) 0).run Tryd.prog w = .ok (x0) w := by kernel_rfl
theorem fld24_1 (x0 x1 x2 : Value) (w : World) : (Instr.field 24 (.agg #[x0, x1, x2]) 1).run Tryd.prog w = .ok (x1) w := by kernel_rfl
theorem fld24_2 (x0 x1 x2 : Value) (w : World) : (Instr.field 24 (.agg #[x0, x1, x2]) 2).run Tryd.prog w = .ok (x2) w := by kernel_rfl
theorem bw {p : Prop} (h : p := by repeat (first | (with_reducible first | exact HB.out | apply below_alloc | apply pw_below_drewN | apply below_drew1) | exact HB.out)) : p := h
theorem bwS {p : Prop} (h : p := by repeat (first | (with_reducible first | exact HB.out | apply below_alloc | apply pw_below_drewN | apply below_drew1 | refine below_set ?_ (Aside0.out (by assumption))) | exact HB.out)) : p := h
theorem am {p : Prop} (h : p := by (try simp only [List.map_toArray, List.map_cons, List.map_nil]); first | done | rfl | (simp only [List.length_drop, List.length_take]; rfl)) : p := h
theorem cl {p : Prop} (h : p := by first | rfl | (simp; done) | (simp [*]; done) | (simp [nil_ne]; done)) : p := h
theorem bk {p : Prop} (h : p := by (with_reducible repeat (first | refine blk_drewN ?_ _ | refine blk_drew ?_ | refine blk_alloc ?_ _)); exact Aside0.out (by assumption)) : p := h
theorem od {p : Prop} [Decidable p] (h : decide p = true := by first | (with_reducible assumption) | assumption) : p := of_decide_eq_true h
end Go.Proofs.YtlomcmdbbnbciaaDoor.Fn
-- written by xprint.py of this session over the kit's printer; not trusted: Lean checks it
namespace Go.Proofs.YtlomcmdbbnbciaaDoor.Fn
open Go.RowKit Go.Proofs.YtlomcmdbbnbciaaDoorW.PrintWords Go.Proofs.YtlomcmdbbnbciaaDoorW.PrintLast Go.Proofs.YtlomcmdbbnbciaaDoorW.PrintMore
attribute [local go_sem] max2_int min2_int max_two min_two max_three min_three max_four min_four   -- for this text's walks alone
set_option linter.unusedVariables false
set_option linter.unusedSimpArgs false

theorem eqA24 (d : Nat) (w : World) (x0 y0 : Int) (x1 y1 : Int) (x2 y2 : ByteArray) :
    (Op.equalIn (d + 2) 24 (.agg #[.int .i64 x0, .int .i64 x1, .string x2]) (.agg #[.int .i64 y0, .int .i64 y1, .string y2])).run Tryd.prog w = .ok (x0 == y0 && (x1 == y1 && (x2.toList == y2.toList))) w := by
  refine eqA_of Tryd.underlying24 (by kernel_rfl) ?_
  refine eqf_cons (by rfl) (by go_simp; rfl) (by go_simp; rfl) (by go_simp) ?_
  refine eqf_cons (by rfl) (by go_simp; rfl) (by go_simp; rfl) (by go_simp) ?_
  exact eqf_last (by rfl) (by go_simp; rfl) (by go_simp; rfl) (by go_simp)
end Go.Proofs.YtlomcmdbbnbciaaDoor.Fn
set_option linter.unusedVariables false
set_option linter.unusedSimpArgs false
namespace Go.Proofs.YtlomcmdbbnbciaaDoor.Fn
open Go.RowKit Go.Proofs.YtlomcmdbbnbciaaDoorW.PrintWords

theorem hid {p : Prop} (h : p) : Hid p := h

theorem strings_at {w : World} {A : Option Addr} {n : Nat} {l : List ByteArray} (h : Kd.C Kd.string w A n l) (hp : 0 < n) :
    ∃ bk o, A = some ⟨bk, o, none⟩ ∧ bk < w.heap.size ∧ ∀ (j : Nat) x, l[j]? = some x → w.cell? ⟨bk, o + j, none⟩ = some (.string x) := by
  have hn : l.length = n := h.1
  obtain ⟨ad, rfl, hc⟩ := h.2.2 hp
  have hc' : ∀ (j : Nat) x, l[j]? = some x → w.cell? (ad.add j) = some (.string x) := by
    intro j x hx
    obtain ⟨c, _, hk, hu⟩ := hc j x hx
    have hk' : c = [.string x] := hk
    subst hk'
    have := hu 0 (.string x) rfl
    simpa [Kd.string, Kd.scalar] using this
  obtain ⟨b, off, spot⟩ := ad
  have h0 : ∃ x, l[0]? = some x := ⟨l[0]'(by omega), by simp⟩
  obtain ⟨x0, hx0⟩ := h0
  have e0 := hc' 0 x0 hx0
  have hspot : spot = none := by simpa [Addr.add] using World.cell?_spot e0
  subst hspot
  refine ⟨b, off, rfl, ?_, fun j x hx => ?_⟩
  · exact World.block_lt_of_cell? w ⟨b, off, none⟩ (by simpa [Addr.add] using e0)
  · rw [← Go.WideShapes.add_plain]
    exact hc' j x hx

/-! The builder's methods, over a builder that the call itself has made. -/
theorem infoByte : (Tryd.prog.info? 5).map (fun i => (i.zero, i.size, i.bytes)) = some (some (.int .u8 0), 1, 1) := by kernel_rfl
theorem sizeBuilder : (Tryd.prog.info? 102).map (·.size) = some 2 := by kernel_rfl
theorem liesBuilder : liesAt Tryd.prog Tryd.prog.depth 102 (2 / Tryd.prog.cellsOf 102) 0 102 1 = true := by kernel_rfl
def bdAt (B b : Nat) (bs : List Value) (w : World) : Prop := Lib.BuilderAtF 102 5 B b (.pointer (some ⟨b, 0, none⟩)) bs w
def isBd (B b : Nat) (bs : List Value) (w : World) : Prop := Lib.IsBuilderF 102 5 B b bs w
def kept (b : Nat) (w w' : World) : Prop := Lib.OthersKept 5 (some b) w w'
theorem bdAt.is {B b : Nat} {bs : List Value} {w : World} (h : bdAt B b bs w) : isBd B b bs w := .inr h

set_option maxRecDepth 100000 in
theorem bd_check (B b : Nat) (bs : List Value) (w : World) (h : isBd B b bs w) :
    Calls Tryd.prog 115 #[.pointer (some ⟨b, 0, none⟩)] w fun e w' => e = .returned (.tuple #[]) ∧ bdAt B b bs w' ∧ Below B w w' ∧ kept b w w' := by
  obtain ⟨j, hj, hjs⟩ := Option.map_eq_some_iff.1 sizeBuilder
  rcases h with h | h
  · have c0 := h.cell0
    have sh := h.shape
    have f0 := h.frozen0
    go_enter Tryd.func115, Tryd.ntmps115
    go_wp2
    rw [Lib.run_to_unsafe w ⟨b, 0, none⟩ Tryd.underlying100 Tryd.underlying160 hj (by rw [hjs]; decide) sh (Nat.zero_lt_succ 1)]
    simp only [Result.andThen]
    rw [Oper.upon_value]
    go_wp2
    rw [run_callFunc_extern Tryd.func144 (by kernel_rfl) (by kernel_rfl) (by kernel_rfl) (e := Extern.AbiNoEscape.same) (by kernel_rfl)]
    rw [Lib.run_noEscape]
    simp only [Result.andThen]
    rw [Oper.upon_value]
    go_wp2
    rw [Lib.run_from_unsafe w ⟨b, 0, none⟩ Tryd.underlying160 Tryd.underlying100 hj sh liesBuilder]
    simp only [Result.andThen]
    rw [Oper.upon_value]
    go_wp2
    go_end0
    exact ⟨rfl, h.used _, (Below.refl B w).setCell (p := ⟨b, 0, none⟩) h.1 _, (Lib.OthersKept.refl _ _ w).setCell ⟨b, 0, none⟩ rfl _⟩
  · have c0 := h.cell0
    go_enter Tryd.func115, Tryd.ntmps115
    go_wp2
    rw [Lib.run_neq_ptr_same w _ Tryd.underlying100 hj]
    go_wp2
    go_end0
    exact ⟨rfl, h, Below.refl B _, Lib.OthersKept.refl _ _ _⟩

set_option maxHeartbeats 2000000 in
set_option maxRecDepth 100000 in
theorem bd_byte (B b : Nat) (bs : List Value) (c : Int) (w : World) (h : isBd B b bs w) (hlen : bs.length + 1 ≤ 140737488355328) (hBw : B ≤ w.heap.size) :
    Calls Tryd.prog 71 #[.pointer (some ⟨b, 0, none⟩), .int .u8 c] w fun e w' => e = .returned .nilIface ∧ bdAt B b (bs ++ [.int .u8 c]) w' ∧ Below B w w' ∧ kept b w w' := by
  obtain ⟨i0, hi, hz0, hz1, hz2⟩ := info_parts infoByte
  go_enter Tryd.func71, Tryd.ntmps71
  go_wp2_with (go_at_call 115; refine (bd_check B b bs _ h).mono ?_)
  rintro e w1 ⟨rfl, h1, hb1, hk1⟩
  obtain ⟨hB, v, hbk, hown, hne⟩ := h1
  have c0 : w1.cell? ⟨b, 0, none⟩ = some (.pointer (some ⟨b, 0, none⟩)) := by rw [Lib.cell_of_heap hbk]; rfl
  have c1 : w1.cell? ⟨b, 1, none⟩ = some v := by rw [Lib.cell_of_heap hbk]; rfl
  go_wp2_with (at_builtin; refine wpList_append_ownF _ rfl _ _ 56 rfl B 5 i0 (.int .u8 0) 1 1 Tryd.underlying56 hi hz0 hz1 hz2 rfl (by decide) _ _ _ rfl (hown.alloc _) ⟨w1.heap.size, 0, none⟩ 1 1 [.int .u8 c] rfl rfl ?c1 ?c2 ?c3 ?c4 ?c5 ?_)
  case c1 =>
    intro j u hj
    match j, hj with
    | 0, hj => simp at hj; subst hj; simp [Addr.add]
  case c2 => intro u hu; simp at hu; subst hu; rfl
  case c3 => unfold maxLen; omega
  case c4 => omega
  case c5 => have := hb1.size; simp; omega
  intro v' w2 hown' hgrow _
  have hlt : b < w1.heap.size := by
    rcases Nat.lt_or_ge b w1.heap.size with h' | h'
    · exact h'
    · simp [Array.getElem?_eq_none h'] at hbk
  have hb2 : w2.heap[b]? = some (.cells #[.pointer (some ⟨b, 0, none⟩), v] 102 (0, 0)) := by
    rw [hgrow.block b (by simp; omega) (fun e => hne e.symm), Lib.alloc_old w1 _ b hlt]
    exact hbk
  have d0 : w2.cell? ⟨b, 0, none⟩ = some (.pointer (some ⟨b, 0, none⟩)) := by rw [Lib.cell_of_heap hb2]; rfl
  have d1 : w2.cell? ⟨b, 1, none⟩ = some v := by rw [Lib.cell_of_heap hb2]; rfl
  have f1 : w2.frozen? ⟨b, 1, none⟩ = false := Lib.frozen_of_heap hb2 1
  obtain ⟨g, cap, rfl⟩ : ∃ g cap, v' = .slice (some ⟨g, 0, none⟩) (bs.length + 1) cap := by
    rcases hown'.2 with ⟨_, h0⟩ | ⟨g, cap, cur, fz, hv, _⟩
    · omega
    · exact ⟨g, cap, hv⟩
  go_wp2
  go_ret
  refine ⟨rfl, ?_, ?_, ((hk1.alloc _).grown hgrow (Lib.ownsRowF_kind (hown.alloc _))).setCell ⟨b, 1, none⟩ rfl _⟩
  · exact Lib.BuilderAtF.put (T := 102) (e := 5) hB hb2 (bs' := bs ++ [.int .u8 c]) (by simpa using hown') (by decide)
  · exact ((hb1.alloc (by have := hb1.size; omega) _).grown hgrow (by have := hb1.size; simp; omega) (fun k hk => (hown.lt k hk).1)).setCell (p := ⟨b, 1, none⟩) hB _

end Go.Proofs.YtlomcmdbbnbciaaDoor.Fn
set_option linter.unusedVariables false
namespace Go.Proofs.YtlomcmdbbnbciaaDoor.Pl

/-! What the functions that are not printed compute: plain Lean. -/
abbrev Bytes := List UInt8
def str (l : Bytes) : ByteArray := ⟨l.toArray⟩
theorem str_data (l : Bytes) : (str l).data.toList = l := by simp [str]
theorem str_toList (s : ByteArray) : str s.data.toList = s := by cases s; simp [str]
theorem str_size (l : Bytes) : (str l).size = l.length := by
  show l.toArray.size = _
  simp
theorem data_length (s : ByteArray) : s.data.toList.length = s.size := by
  show s.data.toList.length = s.data.size
  simp

def foldB (c : UInt8) : UInt8 := if 65 ≤ c.toNat ∧ c.toNat ≤ 90 then c + 32 else c
def fold (l : Bytes) : Bytes := l.map foldB
theorem fold_length (l : Bytes) : (fold l).length = l.length := by simp [fold]
theorem take_snoc (s : ByteArray) (k : Nat) (h : k < s.size) : s.data.toList.take (k + 1) = s.data.toList.take k ++ [s[k]] := by
  rw [List.take_succ_eq_append_getElem (by rw [data_length]; exact h)]
  rfl
theorem fold_snoc (s : ByteArray) (k : Nat) (h : k < s.size) : fold (s.data.toList.take (k + 1)) = fold (s.data.toList.take k) ++ [foldB s[k]] := by
  rw [take_snoc s k h]
  simp [fold]

theorem foldB_up (c : UInt8) (h : 65 ≤ (c.toNat : Int) ∧ (c.toNat : Int) ≤ 90) : (c.toNat : Int) + 32 = (foldB c).toNat := by
  unfold foldB
  rw [if_pos (by omega), UInt8.toNat_add]
  have : (32 : UInt8).toNat = 32 := rfl
  omega
theorem foldB_no (c : UInt8) (h : ¬ (65 ≤ (c.toNat : Int) ∧ (c.toNat : Int) ≤ 90)) : (c.toNat : Int) = (foldB c).toNat := by
  unfold foldB
  rw [if_neg (by omega)]

def width (s : ByteArray) (i : Nat) : Nat := (Utf8.decode s i).2
def sign (s : ByteArray) (i : Nat) : Nat := (Utf8.decode s i).1
theorem width_pos (s : ByteArray) (i : Nat) (h : i < s.size) : 1 ≤ width s i := by
  unfold width
  by_cases ha : (s[i]'h).toNat < 128
  · rw [decode_ascii s i h ha]
    exact Nat.le_refl _
  · exact (decode_high s i h (by omega)).2

theorem width_end (s : ByteArray) (i : Nat) (h : i < s.size) : i + (Utf8.decode s i).2 ≤ s.size := by
  rw [Lib.decode_at]
  unfold Lib.decodeN
  repeat' split
  all_goals (simp only []; omega)

def control (r : Nat) : Bool := decide (r < 32) || (decide (127 ≤ r) && decide (r ≤ 159))
def cleanR (r : Nat) : Bytes := if control r then [32] else Lib.encodeRune r
def cleanFrom (s : ByteArray) : Nat → Nat → Bytes
  | 0, _ => []
  | n + 1, i => if i < s.size then cleanR (sign s i) ++ cleanFrom s n (i + width s i) else []
def clean (s : ByteArray) : Bytes := cleanFrom s s.size 0
theorem cleanFrom_end (s : ByteArray) (n i : Nat) (h : ¬ i < s.size) : cleanFrom s n i = [] := by
  cases n with
  | zero => rfl
  | succ n => simp [cleanFrom, h]

def clipFrom (s : ByteArray) : Nat → Int → Nat → Nat
  | 0, _, i => i
  | f + 1, n, i => if i < s.size then (if n ≤ 0 then i else clipFrom s f (n - 1) (i + width s i)) else s.size
def clip (s : ByteArray) (n : Int) : ByteArray := s.extract 0 (clipFrom s (s.size + 1) n 0)

theorem extract_all (s : ByteArray) : s.extract 0 s.size = s := by
  apply ByteArray.ext
  apply Array.ext'
  simp

def blank (r : Nat) : Bool := r == 32 || (r == 9 || (r == 13 || r == 10))
def words (s : ByteArray) : List ByteArray := Lib.goFieldsP blank s
def join (l : List ByteArray) (sep : ByteArray) : ByteArray := str (Lib.join (l.map fun x => x.data.toList) sep.data.toList)
end Go.Proofs.YtlomcmdbbnbciaaDoor.Pl
set_option linter.unusedVariables false
namespace Go.Proofs.YtlomcmdbbnbciaaDoor.Fn
open Go.RowKit Go.Proofs.YtlomcmdbbnbciaaDoorW.PrintWords

def glyph_Clip.f (a0 : ByteArray) (a1 : Int) : Option ByteArray := if a0.size ≤ 140737488351232 then (if -9000000000000000000 ≤ a1 ∧ a1 ≤ 9000000000000000000 then some (Pl.clip a0 a1) else none) else none

set_option maxHeartbeats 4000000 in
set_option maxRecDepth 100000 in
theorem glyph_Clip.calls (a0 : ByteArray) (a1 : Int) (r : ByteArray) (w : World) (h : glyph_Clip.f a0 a1 = some r) :
    Calls Tryd.prog 139 #[.string a0, .int .i64 a1] w fun e w' => e = .returned (.string r) ∧ Below w.heap.size w w' := by
  unfold glyph_Clip.f at h
  by_cases hs : a0.size ≤ 140737488351232
  · rw [if_pos hs] at h
    by_cases hn : -9000000000000000000 ≤ a1 ∧ a1 ≤ 9000000000000000000
    · rw [if_pos hn] at h
      have HR := hid (Option.some.inj h)
      have HN := hid hn
      clear h hn
      go_enter Tryd.func139, Tryd.ntmps139
      go_wp2
      go_loopw [1] (fun v1 wr => ∃ (pos fuel : Nat) (n : Int), v1 = .int .i64 n ∧ Hid (n ≤ 9000000000000000000 ∧ -9000000000000000000 - 1 ≤ n) ∧ wr.heap[w.heap.size]? = some (.stringIter a0 pos) ∧ Below w.heap.size w wr ∧ pos ≤ a0.size ∧ Hid (Pl.clipFrom a0 (fuel + 1) n pos = Pl.clipFrom a0 (a0.size + 1) a1 0) ∧ a0.size ≤ pos + fuel ∧ Hid (0 ≤ n ∨ n = a1)) (fun _ wr => a0.size - wr.iterPos w.heap.size)
      case atStart =>
        refine ⟨0, a0.size, a1, rfl, ⟨HN.out.2, by have := HN.out.1; omega⟩, ?_, (Below.refl _ w).alloc (Nat.le_refl _) _, Nat.zero_le _, rfl, by omega, .inr rfl⟩
        have := World.iter_heap w a0 0
        simpa using this
      case round =>
        obtain ⟨pos, fuel, n, rfl, hnb, hit, hbw, hpl, hacc, hfu, hn0⟩ := hrel
        have hsz : w.heap.size < wr.heap.size := (Array.getElem?_eq_some_iff.1 hit).1
        by_cases hp : pos < a0.size
        · have hnx : ∀ ty, (Instr.next (.pointer (some ⟨w.heap.size, 0, none⟩)) true ty).run Tryd.prog wr = _ := fun ty => Lib.run_next_any_at wr w.heap.size a0 pos ty hit hp
          have hwd : 1 ≤ (Utf8.decode a0 pos).2 := Pl.width_pos a0 pos hp
          have hd1 := decode_le a0 pos
          have hdw := Pl.width_end a0 pos hp
          have hit2 := Lib.iterAt_heap wr w.heap.size a0 pos (pos + (Utf8.decode a0 pos).2) hit
          have hbw2 := Lib.below_iterAt hbw (k := w.heap.size) (by omega) a0 (pos + (Utf8.decode a0 pos).2)
          obtain ⟨f, rfl⟩ : ∃ f, fuel = f + 1 := ⟨fuel - 1, by omega⟩
          have hnl := hnb.out.1
          have hng := hnb.out.2
          by_cases hz : n ≤ 0
          · have hstep : Hid (Pl.clipFrom a0 (f + 1 + 1) n pos = pos) := by
              show _ = _
              simp [Pl.clipFrom, hp, hz]
            go_wp2
            go_ret
            refine ⟨?_, hbw2⟩
            rw [← HR.out]
            unfold Pl.clip
            rw [← hacc.out, hstep.out]
            rfl
          · have hstep : Hid (Pl.clipFrom a0 (f + 1 + 1) n pos = Pl.clipFrom a0 (f + 1) (n - 1) (pos + (Utf8.decode a0 pos).2)) := by
              show _ = _
              rw [Pl.clipFrom, if_pos hp, if_neg hz]
              rfl
            go_wp2
            go_roundw
            case rel =>
              exact ⟨pos + (Utf8.decode a0 pos).2, f, n - 1, rfl, ⟨by omega, by omega⟩, hit2, hbw2, hdw, (by show _ = _; rw [← hstep.out, hacc.out]), by omega, .inl (by omega)⟩
            case measure =>
              simp only [World.iterPos, hit2, hit]
              omega
        · have hnx : ∀ ty, (Instr.next (.pointer (some ⟨w.heap.size, 0, none⟩)) true ty).run Tryd.prog wr = _ := fun ty => Lib.run_next_end_at wr w.heap.size a0 pos ty hit hp
          have hend : Hid (Pl.clipFrom a0 (fuel + 1) n pos = a0.size) := by
            show _ = _
            rw [Pl.clipFrom, if_neg hp]
          go_wp2
          go_ret
          refine ⟨?_, hbw⟩
          rw [← HR.out]
          unfold Pl.clip
          rw [← hacc.out, hend.out, Pl.extract_all]
          rfl
    · rw [if_neg hn] at h
      exact absurd h (by simp)
  · rw [if_neg hs] at h
    exact absurd h (by simp)
end Go.Proofs.YtlomcmdbbnbciaaDoor.Fn
/-
  DERIVED: THE SHELF's CONTRACTS AT THIS DUMP, IN PLAIN WORDS (tools/lay-plain.mjs out of 'TrydShelf.lean', which tools/lay-shelf.mjs wrote): THE SAME DECLARATIONS UNDER THE SAME NAMES: 'import', 'namespace', 'open', 'def', 'theorem' AND NOTHING ELSE: no command of the shelf's: FOR A HAND-IN. Each laying: the table of numbers ('.._ren') and one theorem, a field a fact of the dump's own or the kernel's comparison; each contract: ONE APPLICATION.
-/
namespace Go.Proofs
open Go.Shelf
def Tryd.lays169_ren : Go.Shelf.Ren := ⟨fun | 169 => 72 | n => n, fun | 70 => 100 | 9 => 9 | 0 => 0 | 72 => 102 | 37 => 56 | 127 => 137 | 3 => 3 | 5 => 5 | n => n, fun | n => n⟩
theorem Tryd.lays169 : Go.Proofs.Lays.n169 Tryd.prog Tryd.lays169_ren := {
  mixed := by kernel_rfl
  f169 := Tryd.func72.trans (congrArg some (by kernel_rfl))
  t0 := Tryd.underlying0
  a0 := Tryd.isAgg0
  z0 := Tryd.sizeOf0
  v0 := Tryd.zeroValue0
  t3 := Tryd.underlying3
  a3 := Tryd.isAgg3
  z3 := Tryd.sizeOf3
  v3 := Tryd.zeroValue3
  t9 := Tryd.underlying9
  a9 := Tryd.isAgg9
  z9 := Tryd.sizeOf9
  v9 := Tryd.zeroValue9
  t37 := Tryd.underlying56
  a37 := Tryd.isAgg56
  z37 := Tryd.sizeOf56
  v37 := Tryd.zeroValue56
  t70 := Tryd.underlying100
  a70 := Tryd.isAgg100
  z70 := Tryd.sizeOf100
  v70 := Tryd.zeroValue100
  t72 := Tryd.underlying102
  a72 := Tryd.isAgg102
  z72 := Tryd.sizeOf102
  v72 := Tryd.zeroValue102
  t127 := Tryd.underlying137
  a127 := Tryd.isAgg137
  z127 := Tryd.sizeOf137
  v127 := Tryd.zeroValue137 }
theorem Tryd.Builder_Extra_169 : Builder.Extra Tryd.prog Tryd.lays169_ren := {
  sizeBuilder := by kernel_rfl
  liesBuilder := by kernel_rfl
  t5 := Tryd.underlying5
  a5 := Tryd.isAgg5
  z5 := Tryd.sizeOf5
  v5 := Tryd.zeroValue5
  infoByte := by kernel_rfl
  cellsByte := by kernel_rfl
  sizeByte := by kernel_rfl
  neB5 := by decide }
def Tryd.lays156_ren : Go.Shelf.Ren := ⟨fun | 156 => 107 | 165 => 133 | 166 => 99 | 169 => 72 | 240 => 115 | 241 => 167 | 276 => 144 | 277 => 178 | n => n, fun | 31 => 70 | 9 => 9 | 3 => 3 | 4 => 4 | 0 => 0 | 20 => 20 | 72 => 102 | 76 => 127 | 70 => 100 | 37 => 56 | 75 => 104 | 127 => 137 | 164 => 160 | 5 => 5 | 80 => 34 | n => n, fun | n => n⟩
theorem Tryd.lays156 : Go.Proofs.Lays.n156 Tryd.prog Tryd.lays156_ren := {
  mixed := by kernel_rfl
  f156 := Tryd.func107.trans (congrArg some (by kernel_rfl))
  f165 := Tryd.func133.trans (congrArg some (by kernel_rfl))
  f166 := Tryd.func99.trans (congrArg some (by kernel_rfl))
  f169 := Tryd.func72.trans (congrArg some (by kernel_rfl))
  f240 := Tryd.func115.trans (congrArg some (by kernel_rfl))
  f241 := Tryd.func167.trans (congrArg some (by kernel_rfl))
  f276 := Tryd.func144.trans (congrArg some (by kernel_rfl))
  f277 := Tryd.func178.trans (congrArg some (by kernel_rfl))
  t0 := Tryd.underlying0
  a0 := Tryd.isAgg0
  z0 := Tryd.sizeOf0
  v0 := Tryd.zeroValue0
  t3 := Tryd.underlying3
  a3 := Tryd.isAgg3
  z3 := Tryd.sizeOf3
  v3 := Tryd.zeroValue3
  t4 := Tryd.underlying4
  a4 := Tryd.isAgg4
  z4 := Tryd.sizeOf4
  v4 := Tryd.zeroValue4
  t9 := Tryd.underlying9
  a9 := Tryd.isAgg9
  z9 := Tryd.sizeOf9
  v9 := Tryd.zeroValue9
  t20 := Tryd.underlying20
  a20 := Tryd.isAgg20
  z20 := Tryd.sizeOf20
  v20 := Tryd.zeroValue20
  t31 := Tryd.underlying70
  a31 := Tryd.isAgg70
  z31 := Tryd.sizeOf70
  v31 := Tryd.zeroValue70
  t37 := Tryd.underlying56
  a37 := Tryd.isAgg56
  z37 := Tryd.sizeOf56
  v37 := Tryd.zeroValue56
  t70 := Tryd.underlying100
  a70 := Tryd.isAgg100
  z70 := Tryd.sizeOf100
  v70 := Tryd.zeroValue100
  t72 := Tryd.underlying102
  a72 := Tryd.isAgg102
  z72 := Tryd.sizeOf102
  v72 := Tryd.zeroValue102
  t75 := Tryd.underlying104
  a75 := Tryd.isAgg104
  z75 := Tryd.sizeOf104
  v75 := Tryd.zeroValue104
  t76 := Tryd.underlying127
  a76 := Tryd.isAgg127
  z76 := Tryd.sizeOf127
  v76 := Tryd.zeroValue127
  t127 := Tryd.underlying137
  a127 := Tryd.isAgg137
  z127 := Tryd.sizeOf137
  v127 := Tryd.zeroValue137
  t164 := Tryd.underlying160
  a164 := Tryd.isAgg160
  z164 := Tryd.sizeOf160
  v164 := Tryd.zeroValue160 }
theorem Tryd.Builder_Extra_156 : Builder.Extra Tryd.prog Tryd.lays156_ren := {
  sizeBuilder := by kernel_rfl
  liesBuilder := by kernel_rfl
  t5 := Tryd.underlying5
  a5 := Tryd.isAgg5
  z5 := Tryd.sizeOf5
  v5 := Tryd.zeroValue5
  infoByte := by kernel_rfl
  cellsByte := by kernel_rfl
  sizeByte := by kernel_rfl
  neB5 := by decide }
open Go.RowKit in

theorem Tryd.strings_Join_none (a : Option Addr) (c : Nat) (sep : ByteArray) (w : World) :
    Calls Tryd.prog 107 #[.slice a 0 c, .string sep] w fun e w' => e = .returned (.string ⟨#[]⟩) ∧ w' = w := Any.strings_Join_none Tryd.lays156 Tryd.Builder_Extra_156 a c sep w
open Go.RowKit in

theorem Tryd.strings_Join (bk o c : Nat) (xs : List ByteArray) (sep : ByteArray) (w : World) (hcells : ∀ (j : Nat) x, xs[j]? = some x → w.cell? ⟨bk, o + j, none⟩ = some (.string x)) (hbk : bk < w.heap.size) (hN : xs.length ≤ 140737488355328) (hcap : xs.length ≤ c) (hlen : (Lib.join (xs.map (·.data.toList)) sep.data.toList).length ≤ 140737488355328) :
    Calls Tryd.prog 107 #[.slice (some ⟨bk, o, none⟩) xs.length c, .string sep] w fun e w' => e = .returned (.string ⟨(Lib.join (xs.map (·.data.toList)) sep.data.toList).toArray⟩) ∧ Below w.heap.size w w' := Any.strings_Join Tryd.lays156 Tryd.Builder_Extra_156 bk o c xs sep w hcells hbk hN hcap hlen
open Go.RowKit in

theorem Tryd.Builder_String_any_k (B b : Nat) (l : List UInt8) (w : World) (h : Lib.IsBuilderF 102 5 B b (Lib.byteCells l) w) (hBw : B ≤ w.heap.size) :
    Calls Tryd.prog 72 #[.pointer (some ⟨b, 0, none⟩)] w fun e w' => e = .returned (.string ⟨l.toArray⟩) ∧ (Lib.IsBuilderF 102 5 B b (Lib.byteCells l) w' ∧ Below B w w' ∧ Lib.OthersKept 5 (some b) w w') := Any.Builder_String_any_k Tryd.lays169 Tryd.Builder_Extra_169 B b l w h hBw
def Tryd.lays242_ren : Go.Shelf.Ren := ⟨fun | 242 => 169 | 278 => 180 | n => n, fun | 37 => 56 | 21 => 21 | 51 => 185 | 4 => 4 | 5 => 5 | 46 => 177 | n => n, fun | n => n⟩
theorem Tryd.lays242 : Go.Proofs.Lays.n242 Tryd.prog Tryd.lays242_ren := {
  mixed := by kernel_rfl
  f242 := Tryd.func169.trans (congrArg some (by kernel_rfl))
  f278 := Tryd.func180.trans (congrArg some (by kernel_rfl))
  t4 := Tryd.underlying4
  a4 := Tryd.isAgg4
  z4 := Tryd.sizeOf4
  v4 := Tryd.zeroValue4
  t5 := Tryd.underlying5
  a5 := Tryd.isAgg5
  z5 := Tryd.sizeOf5
  v5 := Tryd.zeroValue5
  t21 := Tryd.underlying21
  a21 := Tryd.isAgg21
  z21 := Tryd.sizeOf21
  v21 := Tryd.zeroValue21
  t37 := Tryd.underlying56
  a37 := Tryd.isAgg56
  z37 := Tryd.sizeOf56
  v37 := Tryd.zeroValue56
  t46 := Tryd.underlying177
  a46 := Tryd.isAgg177
  z46 := Tryd.sizeOf177
  v46 := Tryd.zeroValue177
  t51 := Tryd.underlying185
  a51 := Tryd.isAgg185
  z51 := Tryd.sizeOf185
  v51 := Tryd.zeroValue185 }
open Go.RowKit in

theorem Tryd.utf8_AppendRune_row (B : Nat) (v : Value) (n : Nat) (xs : List Value) (r : Int) (hr0 : -2147483648 ≤ r) (hr1 : r ≤ 2147483647) (w : World) (hown : w.ownsRowF B 5 1 v n xs) (hlen : n + 4 ≤ 140737488355328) (hBw : B ≤ w.heap.size) :
    Calls Tryd.prog 169 #[v, .int .i32 r] w fun e w' => ∃ v', e = .returned v' ∧ w'.ownsRowF B 5 1 v' (n + (Lib.runeCells r).length) (xs ++ Lib.runeCells r) ∧ ∃ o, (w.alloc o).grownBy w' v.ownBlock := Any.utf8_AppendRune_row Tryd.lays242 (by kernel_rfl) B v n xs r hr0 hr1 w hown hlen hBw
def Tryd.lays260_ren : Go.Shelf.Ren := ⟨fun | 260 => 145 | n => n, fun | 9 => 9 | 21 => 21 | 3 => 3 | 4 => 4 | 5 => 5 | 119 => 176 | 0 => 0 | 46 => 177 | 139 => 180 | 138 => 179 | n => n, fun | 3 => 0 | 4 => 1 | n => n⟩
theorem Tryd.lays260 : Go.Proofs.Lays.n260 Tryd.prog Tryd.lays260_ren := {
  mixed := by kernel_rfl
  f260 := Tryd.func145.trans (congrArg some (by kernel_rfl))
  t0 := Tryd.underlying0
  a0 := Tryd.isAgg0
  z0 := Tryd.sizeOf0
  v0 := Tryd.zeroValue0
  t3 := Tryd.underlying3
  a3 := Tryd.isAgg3
  z3 := Tryd.sizeOf3
  v3 := Tryd.zeroValue3
  t4 := Tryd.underlying4
  a4 := Tryd.isAgg4
  z4 := Tryd.sizeOf4
  v4 := Tryd.zeroValue4
  t5 := Tryd.underlying5
  a5 := Tryd.isAgg5
  z5 := Tryd.sizeOf5
  v5 := Tryd.zeroValue5
  t9 := Tryd.underlying9
  a9 := Tryd.isAgg9
  z9 := Tryd.sizeOf9
  v9 := Tryd.zeroValue9
  t21 := Tryd.underlying21
  a21 := Tryd.isAgg21
  z21 := Tryd.sizeOf21
  v21 := Tryd.zeroValue21
  t46 := Tryd.underlying177
  a46 := Tryd.isAgg177
  z46 := Tryd.sizeOf177
  v46 := Tryd.zeroValue177
  t119 := Tryd.underlying176
  a119 := Tryd.isAgg176
  z119 := Tryd.sizeOf176
  t138 := Tryd.underlying179
  a138 := Tryd.isAgg179
  z138 := Tryd.sizeOf179
  v138 := Tryd.zeroValue179
  t139 := Tryd.underlying180
  a139 := Tryd.isAgg180
  z139 := Tryd.sizeOf180
  v139 := Tryd.zeroValue180
  g3 := by kernel_rfl
  g4 := by kernel_rfl }
def Tryd.lays197_ren : Go.Shelf.Ren := ⟨fun | 197 => 116 | 260 => 145 | n => n, fun | 9 => 9 | 21 => 21 | 3 => 3 | 4 => 4 | 5 => 5 | 105 => 138 | 119 => 176 | 0 => 0 | 46 => 177 | 139 => 180 | 138 => 179 | n => n, fun | 3 => 0 | 4 => 1 | n => n⟩
theorem Tryd.lays197 : Go.Proofs.Lays.n197 Tryd.prog Tryd.lays197_ren := {
  mixed := by kernel_rfl
  f197 := Tryd.func116.trans (congrArg some (by kernel_rfl))
  f260 := Tryd.func145.trans (congrArg some (by kernel_rfl))
  t0 := Tryd.underlying0
  a0 := Tryd.isAgg0
  z0 := Tryd.sizeOf0
  v0 := Tryd.zeroValue0
  t3 := Tryd.underlying3
  a3 := Tryd.isAgg3
  z3 := Tryd.sizeOf3
  v3 := Tryd.zeroValue3
  t4 := Tryd.underlying4
  a4 := Tryd.isAgg4
  z4 := Tryd.sizeOf4
  v4 := Tryd.zeroValue4
  t5 := Tryd.underlying5
  a5 := Tryd.isAgg5
  z5 := Tryd.sizeOf5
  v5 := Tryd.zeroValue5
  t9 := Tryd.underlying9
  a9 := Tryd.isAgg9
  z9 := Tryd.sizeOf9
  v9 := Tryd.zeroValue9
  t21 := Tryd.underlying21
  a21 := Tryd.isAgg21
  z21 := Tryd.sizeOf21
  v21 := Tryd.zeroValue21
  t46 := Tryd.underlying177
  a46 := Tryd.isAgg177
  z46 := Tryd.sizeOf177
  v46 := Tryd.zeroValue177
  t105 := Tryd.underlying138
  a105 := Tryd.isAgg138
  z105 := Tryd.sizeOf138
  v105 := Tryd.zeroValue138
  t119 := Tryd.underlying176
  a119 := Tryd.isAgg176
  z119 := Tryd.sizeOf176
  t138 := Tryd.underlying179
  a138 := Tryd.isAgg179
  z138 := Tryd.sizeOf179
  v138 := Tryd.zeroValue179
  t139 := Tryd.underlying180
  a139 := Tryd.isAgg180
  z139 := Tryd.sizeOf180
  v139 := Tryd.zeroValue180
  g3 := by kernel_rfl
  g4 := by kernel_rfl }
open Go.RowKit Go.Lib in

theorem Tryd.utf8_DecodeRuneInString (s : ByteArray) (w : World) (hT : Lib.Utf8Tabs 0 1 w) :
    Calls Tryd.prog 116 #[.string s] w fun e w' => e = .returned (.tuple #[.int .i32 (Lib.decodeGo s).1, .int .i64 (Lib.decodeGo s).2]) ∧ Below w.heap.size w w' := Any.utf8_DecodeRuneInString Tryd.lays197 s w hT
def Tryd.lays229_ren : Go.Shelf.Ren := ⟨fun | 229 => 140 | n => n, fun | 9 => 9 | 40 => 158 | 31 => 70 | 152 => 172 | 3 => 3 | 0 => 0 | 4 => 4 | 21 => 21 | 154 => 174 | n => n, fun | n => n⟩
theorem Tryd.lays229 : Go.Proofs.Lays.n229 Tryd.prog Tryd.lays229_ren := {
  mixed := by kernel_rfl
  f229 := Tryd.func140.trans (congrArg some (by kernel_rfl))
  t0 := Tryd.underlying0
  a0 := Tryd.isAgg0
  z0 := Tryd.sizeOf0
  v0 := Tryd.zeroValue0
  t3 := Tryd.underlying3
  a3 := Tryd.isAgg3
  z3 := Tryd.sizeOf3
  v3 := Tryd.zeroValue3
  t4 := Tryd.underlying4
  a4 := Tryd.isAgg4
  z4 := Tryd.sizeOf4
  v4 := Tryd.zeroValue4
  t9 := Tryd.underlying9
  a9 := Tryd.isAgg9
  z9 := Tryd.sizeOf9
  v9 := Tryd.zeroValue9
  t21 := Tryd.underlying21
  a21 := Tryd.isAgg21
  z21 := Tryd.sizeOf21
  v21 := Tryd.zeroValue21
  t31 := Tryd.underlying70
  a31 := Tryd.isAgg70
  z31 := Tryd.sizeOf70
  v31 := Tryd.zeroValue70
  t40 := Tryd.underlying158
  a40 := Tryd.isAgg158
  z40 := Tryd.sizeOf158
  v40 := Tryd.zeroValue158
  t152 := Tryd.underlying172
  a152 := Tryd.isAgg172
  z152 := Tryd.sizeOf172
  v152 := Tryd.zeroValue172
  t154 := Tryd.underlying174
  a154 := Tryd.isAgg174
  z154 := Tryd.sizeOf174
  v154 := Tryd.zeroValue174 }
open Go.RowKit Go.Lib in

theorem Tryd.strings_FieldsFunc (g : Nat) (lb : Array Value) (eg : ∀ args w, (callFunc g args).run Tryd.prog w = .ok (.enter g args) w) (p : Nat → Bool) (s : ByteArray) (w : World) (hs : s.size ≤ 4294967296) (hp : PredAt Tryd.prog g lb encR p w) :
    Calls Tryd.prog 140 #[.string s, .func (.func g) #[] lb] w fun e w' => ∃ A, e = .returned (.slice (some ⟨A, 0, none⟩) (Lib.goFieldsP p s).length (Lib.goFieldsP p s).length) ∧ w.heap.size ≤ A ∧
      w'.ownsRow w.heap.size 9 1 (.slice (some ⟨A, 0, none⟩) (Lib.goFieldsP p s).length (Lib.goFieldsP p s).length) (Lib.goFieldsP p s).length ((Lib.goFieldsP p s).map Value.string) ∧ Below w.heap.size w w' := Any.strings_FieldsFunc Tryd.lays229 g lb eg p s w hs hp (by kernel_rfl) (by kernel_rfl)
end Go.Proofs
set_option linter.unusedVariables false
namespace Go.Proofs.YtlomcmdbbnbciaaDoor.Fn
open Go.RowKit Go.Proofs.YtlomcmdbbnbciaaDoorW.PrintWords

def strings_Join.f (l0 : List ByteArray) (a1 : ByteArray) : Option ByteArray :=
  if l0.length ≤ 140737488355328 then (if (Pl.join l0 a1).size ≤ 140737488355328 then some (Pl.join l0 a1) else none) else none

theorem strings_Join.calls (A0 : Option Addr) (c0 : Nat) (l0 : List ByteArray) (a1 : ByteArray) (r : ByteArray) (w : World) (hr0 : Kd.C Kd.string w A0 l0.length l0) (hc0 : l0.length ≤ c0) (h : strings_Join.f l0 a1 = some r) :
    Calls Tryd.prog 107 #[.slice A0 l0.length c0, .string a1] w fun e w' => e = .returned (.string r) ∧ Below w.heap.size w w' := by
  unfold strings_Join.f at h
  by_cases hs : l0.length ≤ 140737488355328
  · rw [if_pos hs] at h
    by_cases hn : (Pl.join l0 a1).size ≤ 140737488355328
    · rw [if_pos hn] at h
      have HR := Option.some.inj h
      clear h
      subst HR
      by_cases h0 : l0.length = 0
      · have e0 : l0 = [] := List.eq_nil_of_length_eq_zero h0
        subst e0
        refine (Tryd.strings_Join_none A0 c0 a1 w).mono ?_
        rintro e w' ⟨rfl, rfl⟩
        exact ⟨rfl, Below.refl _ _⟩
      · obtain ⟨bk, o, rfl, hbk, hcells⟩ := strings_at hr0 (by omega)
        exact Tryd.strings_Join bk o c0 l0 a1 w hcells hbk hs hc0 (by have e := Pl.str_size (Lib.join (l0.map fun x => x.data.toList) a1.data.toList); unfold Pl.join at hn; omega)
    · rw [if_neg hn] at h
      exact absurd h (by simp)
  · rw [if_neg hs] at h
    exact absurd h (by simp)
end Go.Proofs.YtlomcmdbbnbciaaDoor.Fn
-- written by xprint.py of this session over the kit's printer; not trusted: Lean checks it
namespace Go.Proofs.YtlomcmdbbnbciaaDoor.Fn
open Go.RowKit Go.Proofs.YtlomcmdbbnbciaaDoorW.PrintWords Go.Proofs.YtlomcmdbbnbciaaDoorW.PrintLast Go.Proofs.YtlomcmdbbnbciaaDoorW.PrintMore
attribute [local go_sem] max2_int min2_int max_two min_two max_three min_three max_four min_four   -- for this text's walks alone
set_option linter.unusedVariables false
set_option linter.unusedSimpArgs false

/-! ### order_unknown: function 110 -/
def order_unknown.f (l0 : List ByteArray) : Option (Int × Int × ByteArray) := (strings_Join.f l0 (⟨#[32]⟩ : ByteArray)).bind fun t102 => ((glyph_Clip.f t102 30).bind fun t103 => (some (5, 0, t103)))
set_option maxHeartbeats 8000000 in
set_option maxRecDepth 100000 in
theorem order_unknown.calls (A0 : Option Addr) (c0 : Nat) (l0 : List ByteArray) (r1 : Int) (r2 : Int) (r3 : ByteArray) (w : World) (hr0 : Kd.C Kd.string w A0 l0.length l0) (hc0 : l0.length ≤ c0) (h : order_unknown.f l0 = some (r1, r2, r3)) :
  Calls Tryd.prog 110 #[.slice A0 l0.length c0] w fun e w' => e = .returned (.agg #[.int .i64 r1, .int .i64 r2, .string r3]) ∧ Below w.heap.size w w' := by
 have hu24 := Tryd.underlying24
 have HR0 := Aside0.mk hr0
 have HC0 := Aside0.mk hc0
 clear hr0 hc0
 have HB := Aside0.mk (Below.refl w.heap.size w)
 have H : ((strings_Join.f l0 (⟨#[32]⟩ : ByteArray)).bind fun t102 => ((glyph_Clip.f t102 30).bind fun t103 => (some (5, 0, t103)))) = some (r1, r2, r3) := h
 clear h
 replace H := Option.bind_eq_some_iff.mp H
 obtain ⟨t102, A20, H⟩ := H
 replace H : ((glyph_Clip.f t102 30).bind fun t103 => (some (5, 0, t103))) = some (r1, r2, r3) := H
 have A2 := Aside0.mk A20
 clear A20
 replace H := Option.bind_eq_some_iff.mp H
 obtain ⟨t103, A30, H⟩ := H
 replace H : (some (5, 0, t103)) = some (r1, r2, r3) := H
 have A3 := Aside0.mk A30
 clear A30
 simp only [Option.some.injEq, Prod.mk.injEq] at H
 obtain ⟨rfl, rfl, rfl⟩ := H
 go_enter Tryd.func110, Tryd.ntmps110
 go_wp2_with (first | ((with_reducible refine gate_dst (N := 2) rfl ?_); refine box_event ?hg (N := 2) ?hd (cs := #[.int .i64 0, .int .i64 0, .string (⟨#[]⟩ : ByteArray)]) (t := 24) ?hr ?_; (case hd => rfl); (case hg => rfl); (case hr => first | (go_simp; done) | (go_simp; rfl)); intro gb101 hg w4 hbox hb; have n0_ := Aside0.mk (below_step bw hb); have n1_ := Aside0.mk (hbox); have n2_ := Aside0.mk ((by rw [hg]; exact (below_size bw) : w.heap.size ≤ gb101)); have n3_ := Aside0.mk ((by rw [hg]; exact (below_size bw) : w.heap.size ≤ gb101)); clear HB; have HB := n0_; have BK101 := n1_; have GW101 := n2_; have GE101 := n3_; clear n0_ n1_ n2_ n3_; clear hb hbox hg) | ((with_reducible refine gate_callee (f := 107) rfl ?_); refine goesL_ (some 4) rfl rfl Tryd.func107 (by kernel_rfl) rfl #[.slice A0 l0.length c0, .string (⟨#[32]⟩ : ByteArray)] rfl am ?_; (with_reducible refine (strings_Join.calls _ _ l0 (⟨#[32]⟩ : ByteArray) t102 _ ?side1 ?side2 A2.out).mono ?_); (case side1 => repeat (first | exact (Kd.C_below HR0.out HB.out) | (with_reducible refine Kd.C_alloc ?_ _) | (with_reducible refine Kd.C_drewN ?_ _) | (with_reducible refine Kd.C_drew ?_))); (case side2 => exact HC0.out); rintro e w5 ⟨rfl, hb⟩; refine ⟨_, rfl, ?_⟩; have n0_ := Aside0.mk (blk_below (g := gb101) (o := .cells #[.int .i64 0, .int .i64 0, .string (⟨#[]⟩ : ByteArray)] 24 (0, 0)) bk hb); have n1_ := Aside0.mk (below_step bwS hb); clear BK101; clear HB; have BK101 := n0_; have HB := n1_; clear n0_ n1_; (try clear hb); (try clear hb2); (try clear hk); (try clear hi)) | ((with_reducible refine gate_callee (f := 139) rfl ?_); refine goesL_ (some 5) rfl rfl Tryd.func139 (by kernel_rfl) rfl #[.string t102, .int .i64 30] rfl am ?_; (with_reducible refine (glyph_Clip.calls t102 30 t103 _ A3.out).mono ?_); rintro e w6 ⟨rfl, hb⟩; refine ⟨_, rfl, ?_⟩; have n0_ := Aside0.mk (blk_below (g := gb101) (o := .cells #[.int .i64 0, .int .i64 0, .string (⟨#[]⟩ : ByteArray)] 24 (0, 0)) bk hb); have n1_ := Aside0.mk (below_step bwS hb); clear BK101; clear HB; have BK101 := n0_; have HB := n1_; clear n0_ n1_; (try clear hb); (try clear hb2); (try clear hk); (try clear hi); have hcz7_0 : w6.cell? ⟨gb101, 0, none⟩ = some (.int .i64 0) := (blk_cell BK101.out 0).trans rfl; have hcz7_1 : w6.cell? ⟨gb101, 1, none⟩ = some (.int .i64 0) := (blk_cell BK101.out 1).trans rfl; have hcz7_2 : w6.cell? ⟨gb101, 2, none⟩ = some (.string (⟨#[]⟩ : ByteArray)) := (blk_cell BK101.out 2).trans rfl; have hfz7_0 := blk_frozen BK101.out 0; have hfz7_1 := blk_frozen BK101.out 1; have hfz7_2 := blk_frozen BK101.out 2))
 refine bodyPost_ret (results_cell_row rfl _ _ gb101 24 #[.int .i64 5, .int .i64 0, .string t103] (0, 0) _ rfl (by (with_reducible repeat (first | refine blk_drewN ?_ _ | refine blk_drew ?_ | refine blk_alloc ?_ _)); refine blk_put (cs := #[.int .i64 5, .int .i64 0, .string (⟨#[]⟩ : ByteArray)]) ?_ 2 _ rfl; (with_reducible repeat (first | refine blk_drewN ?_ _ | refine blk_drew ?_ | refine blk_alloc ?_ _)); refine blk_put (cs := #[.int .i64 5, .int .i64 0, .string (⟨#[]⟩ : ByteArray)]) ?_ 1 _ rfl; (with_reducible repeat (first | refine blk_drewN ?_ _ | refine blk_drew ?_ | refine blk_alloc ?_ _)); refine blk_put (cs := #[.int .i64 0, .int .i64 0, .string (⟨#[]⟩ : ByteArray)]) ?_ 0 _ rfl; (with_reducible repeat (first | refine blk_drewN ?_ _ | refine blk_drew ?_ | refine blk_alloc ?_ _)); exact BK101.out) Tryd.underlying24 rfl (by kernel_rfl)) rfl ?_
 exact ⟨by first | rfl | (simp [errW_none, errW_some] <;> rfl) | (simp [*, errW_none, errW_some] <;> rfl), by repeat (first | (with_reducible first | exact HB.out | apply below_alloc | apply pw_below_drewN | apply below_drew1 | refine below_set ?_ GE101.out) | exact HB.out)⟩

end Go.Proofs.YtlomcmdbbnbciaaDoor.Fn
-- written by xprint.py of this session over the kit's printer; not trusted: Lean checks it
namespace Go.Proofs.YtlomcmdbbnbciaaDoor.Fn
open Go.RowKit Go.Proofs.YtlomcmdbbnbciaaDoorW.PrintWords Go.Proofs.YtlomcmdbbnbciaaDoorW.PrintLast Go.Proofs.YtlomcmdbbnbciaaDoorW.PrintMore
attribute [local go_sem] max2_int min2_int max_two min_two max_three min_three max_four min_four   -- for this text's walks alone
set_option linter.unusedVariables false
set_option linter.unusedSimpArgs false

/-! ### roster_Word: function 70 -/
def roster_Word.f (a0 : Int) : Option (ByteArray) := if a0 = 1 then (some (⟨#[101, 97, 99, 104]⟩ : ByteArray)) else (if a0 = 2 then (some (⟨#[100, 105, 103, 101, 115, 116]⟩ : ByteArray)) else (if a0 = 3 then (some (⟨#[115, 105, 108, 101, 110, 116]⟩ : ByteArray)) else (some (⟨#[]⟩ : ByteArray))))
set_option maxHeartbeats 8000000 in
set_option maxRecDepth 100000 in
theorem roster_Word.calls (a0 : Int) (r : ByteArray) (w : World) (h : roster_Word.f a0 = some r) :
  Calls Tryd.prog 70 #[.int .i64 a0] w fun e w' => e = .returned (.string r) ∧ Drawn0 w w' := by
 have H : (if a0 = 1 then (some (⟨#[101, 97, 99, 104]⟩ : ByteArray)) else (if a0 = 2 then (some (⟨#[100, 105, 103, 101, 115, 116]⟩ : ByteArray)) else (if a0 = 3 then (some (⟨#[115, 105, 108, 101, 110, 116]⟩ : ByteArray)) else (some (⟨#[]⟩ : ByteArray))))) = some r := h
 clear h
 by_cases c2 : a0 = 1
 ·rw [if_pos c2] at H
  have c2b0 : (a0 == 1) = true := beq_iff_eq.mpr c2
  have c2b1 : (a0 != 1) = false := bne_eq_false_iff_eq.mpr c2
  clear c2
  obtain rfl := Option.some.inj H
  go_enter Tryd.func70, Tryd.ntmps70
  go_wp2
  go_ret
  exact ⟨by first | rfl | (simp; done) | (simp [*]; done) | (simp [nil_ne]; done), by repeat (first | exact Drawn0.refl _ | apply Drawn0.step)⟩
 ·rw [if_neg c2] at H
  have c2b0 : (a0 == 1) = false := beq_eq_false_iff_ne.mpr c2
  have c2b1 : (a0 != 1) = true := bne_iff_ne.mpr c2
  by_cases c3 : a0 = 2
  ·rw [if_pos c3] at H
   have c3b0 : (a0 == 2) = true := beq_iff_eq.mpr c3
   have c3b1 : (a0 != 2) = false := bne_eq_false_iff_eq.mpr c3
   clear c3
   obtain rfl := Option.some.inj H
   go_enter Tryd.func70, Tryd.ntmps70
   go_wp2
   go_ret
   exact ⟨by first | rfl | (simp; done) | (simp [*]; done) | (simp [nil_ne]; done), by repeat (first | exact Drawn0.refl _ | apply Drawn0.step)⟩
  ·rw [if_neg c3] at H
   have c3b0 : (a0 == 2) = false := beq_eq_false_iff_ne.mpr c3
   have c3b1 : (a0 != 2) = true := bne_iff_ne.mpr c3
   by_cases c4 : a0 = 3
   ·rw [if_pos c4] at H
    have c4b0 : (a0 == 3) = true := beq_iff_eq.mpr c4
    have c4b1 : (a0 != 3) = false := bne_eq_false_iff_eq.mpr c4
    clear c4
    obtain rfl := Option.some.inj H
    go_enter Tryd.func70, Tryd.ntmps70
    go_wp2
    go_ret
    exact ⟨by first | rfl | (simp; done) | (simp [*]; done) | (simp [nil_ne]; done), by repeat (first | exact Drawn0.refl _ | apply Drawn0.step)⟩
   ·rw [if_neg c4] at H
    have c4b0 : (a0 == 3) = false := beq_eq_false_iff_ne.mpr c4
    have c4b1 : (a0 != 3) = true := bne_iff_ne.mpr c4
    obtain rfl := Option.some.inj H
    go_enter Tryd.func70, Tryd.ntmps70
    go_wp2
    go_ret
    exact ⟨by first | rfl | (simp; done) | (simp [*]; done) | (simp [nil_ne]; done), by repeat (first | exact Drawn0.refl _ | apply Drawn0.step)⟩

end Go.Proofs.YtlomcmdbbnbciaaDoor.Fn
-- written by xprint.py of this session over the kit's printer; not trusted: Lean checks it
namespace Go.Proofs.YtlomcmdbbnbciaaDoor.Fn
open Go.RowKit Go.Proofs.YtlomcmdbbnbciaaDoorW.PrintWords Go.Proofs.YtlomcmdbbnbciaaDoorW.PrintLast Go.Proofs.YtlomcmdbbnbciaaDoorW.PrintMore
attribute [local go_sem] max2_int min2_int max_two min_two max_three min_three max_four min_four   -- for this text's walks alone
set_option linter.unusedVariables false
set_option linter.unusedSimpArgs false

/-! ### roster_Mode: function 112 -/
def roster_Mode.l0 : Nat → ByteArray → Int → Option (Int)
 | 0, _, _ => none
 | k + 1, x0, x3 => if x3 ≤ 3 then ((roster_Word.f x3).bind fun t104 => (if t104.toList = x0.toList then (some x3) else (roster_Mode.l0 k x0 (wrap64 (x3 + 1))))) else (some 0)
def roster_Mode.f (k : Nat) (a0 : ByteArray) : Option (Int) := roster_Mode.l0 k a0 1
set_option maxHeartbeats 8000000 in
set_option maxRecDepth 100000 in
theorem roster_Mode.calls (k : Nat) (a0 : ByteArray) (r : Int) (w : World) (h : roster_Mode.f k a0 = some r) :
  Calls Tryd.prog 112 #[.string a0] w fun e w' => e = .returned (.int .i64 r) ∧ Drawn0 w w' := by
 have H : (roster_Mode.l0 k a0 1) = some r := h
 clear h
 have H' := Aside0.mk H
 clear H
 go_enter Tryd.func112, Tryd.ntmps112
 go_wp2
 go_loopg [3] k (fun kq v3 w' => ∃ (x3_1 : Int), v3 = .int .i64 x3_1 ∧ Aside0 (roster_Mode.l0 kq a0 x3_1 = some r) ∧ Aside0 (kq ≤ k) ∧ Drawn0 w w')
 case atStart => exact ⟨(1), cl, H', ⟨Nat.le_refl _⟩, by repeat (first | exact Drawn0.refl _ | apply Drawn0.step)⟩
 case round =>
  clear H'
  try clear c1
  obtain ⟨x3_1, rfl, HA, HK1, ⟨m1, rfl⟩⟩ := hrel
  cases gk with
  | zero => exact absurd HA.out (by simp [roster_Mode.l0])
  | succ k1 =>
   have H := HA.out
   clear HA
   simp only [roster_Mode.l0] at H
   by_cases c2 : x3_1 ≤ 3
   ·rw [if_pos c2] at H
    have c2b0 : decide (x3_1 ≤ 3) = true := decide_eq_true c2
    clear c2
    replace H := Option.bind_eq_some_iff.mp H
    obtain ⟨t104, A30, H⟩ := H
    replace H : (if t104.toList = a0.toList then (some x3_1) else (roster_Mode.l0 k1 a0 (wrap64 (x3_1 + 1)))) = some r := H
    have A3 := Aside0.mk A30
    clear A30
    by_cases c4 : t104.toList = a0.toList
    ·rw [if_pos c4] at H
     have c4b0 : (t104.toList == a0.toList) = true := beq_iff_eq.mpr c4
     have c4b1 : (t104.toList != a0.toList) = false := bne_eq_false_iff_eq.mpr c4
     clear c4
     obtain rfl := Option.some.inj H
     go_wp2_with (first | ((with_reducible refine gate_callee (f := 70) rfl ?_); refine goesL_ (some 9) rfl rfl Tryd.func70 (by kernel_rfl) rfl #[.int .i64 x3_1] rfl am ?_; (with_reducible refine (roster_Word.calls x3_1 t104 _ A3.out).mono ?_); rintro e w' ⟨rfl, ⟨nd, rfl⟩⟩; refine ⟨_, rfl, ?_⟩))
     go_ret
     exact ⟨by first | rfl | (simp; done) | (simp [*]; done) | (simp [nil_ne]; done), by repeat (first | exact Drawn0.refl _ | apply Drawn0.step)⟩
    ·rw [if_neg c4] at H
     have c4b0 : (t104.toList == a0.toList) = false := beq_eq_false_iff_ne.mpr c4
     have c4b1 : (t104.toList != a0.toList) = true := bne_iff_ne.mpr c4
     have H' := Aside0.mk H
     clear H
     go_wp2_with (first | ((with_reducible refine gate_callee (f := 70) rfl ?_); refine goesL_ (some 9) rfl rfl Tryd.func70 (by kernel_rfl) rfl #[.int .i64 x3_1] rfl am ?_; (with_reducible refine (roster_Word.calls x3_1 t104 _ A3.out).mono ?_); rintro e w' ⟨rfl, ⟨nd, rfl⟩⟩; refine ⟨_, rfl, ?_⟩))
     go_roundg k1
     case measure => have := HK1.out; omega
     case rel => exact ⟨(wrap64 (x3_1 + 1)), cl, H', ⟨by have := HK1.out; omega⟩, by repeat (first | exact Drawn0.refl _ | apply Drawn0.step)⟩
   ·rw [if_neg c2] at H
    have c2b0 : decide (x3_1 ≤ 3) = false := decide_eq_false c2
    clear c2
    obtain rfl := Option.some.inj H
    go_wp2
    go_ret
    exact ⟨by first | rfl | (simp; done) | (simp [*]; done) | (simp [nil_ne]; done), by repeat (first | exact Drawn0.refl _ | apply Drawn0.step)⟩

end Go.Proofs.YtlomcmdbbnbciaaDoor.Fn
-- written by xprint.py of this session over the kit's printer; not trusted: Lean checks it
namespace Go.Proofs.YtlomcmdbbnbciaaDoor.Fn
open Go.RowKit Go.Proofs.YtlomcmdbbnbciaaDoorW.PrintWords Go.Proofs.YtlomcmdbbnbciaaDoorW.PrintLast Go.Proofs.YtlomcmdbbnbciaaDoorW.PrintMore
attribute [local go_sem] max2_int min2_int max_two min_two max_three min_three max_four min_four   -- for this text's walks alone
set_option linter.unusedVariables false
set_option linter.unusedSimpArgs false

/-! ### order_join: function 111 -/
def order_join.j0 : Nat → List ByteArray → Bool → Option (Int × Int × ByteArray)
 | 0, _, _ => none
 | k + 1, x0, x8 => if x8 = true then (if 1 < (x0.length : Int) then ((roster_Mode.f k (rdOf ByteArray.empty x0 1)).bind fun t109 => (some (2, t109, (⟨#[]⟩ : ByteArray)))) else (none)) else ((order_unknown.f x0).bind fun bt110 => (some (bt110.1, bt110.2.1, bt110.2.2)))
def order_join.f (k : Nat) (l0 : List ByteArray) : Option (Int × Int × ByteArray) := if (l0.length : Int) = 1 then (some (2, 1, (⟨#[]⟩ : ByteArray))) else (if (l0.length : Int) = 2 then (if 1 < (l0.length : Int) then ((roster_Mode.f k (rdOf ByteArray.empty l0 1)).bind fun t107 => (order_join.j0 k l0 (t107 != 0))) else (none)) else (order_join.j0 k l0 false))
set_option maxHeartbeats 8000000 in
set_option maxRecDepth 100000 in
theorem order_join.calls (k : Nat) (A0 : Option Addr) (c0 : Nat) (l0 : List ByteArray) (r1 : Int) (r2 : Int) (r3 : ByteArray) (w : World) (hr0 : Kd.C Kd.string w A0 l0.length l0) (hc0 : l0.length ≤ c0) (h : order_join.f k l0 = some (r1, r2, r3)) :
  Calls Tryd.prog 111 #[.slice A0 l0.length c0] w fun e w' => e = .returned (.agg #[.int .i64 r1, .int .i64 r2, .string r3]) ∧ Below w.heap.size w w' := by
 have hu24 := Tryd.underlying24
 have HR0 := Aside0.mk hr0
 have HC0 := Aside0.mk hc0
 clear hr0 hc0
 have HB := Aside0.mk (Below.refl w.heap.size w)
 have H : (if (l0.length : Int) = 1 then (some (2, 1, (⟨#[]⟩ : ByteArray))) else (if (l0.length : Int) = 2 then (if 1 < (l0.length : Int) then ((roster_Mode.f k (rdOf ByteArray.empty l0 1)).bind fun t107 => (order_join.j0 k l0 (t107 != 0))) else (none)) else (order_join.j0 k l0 false))) = some (r1, r2, r3) := h
 clear h
 by_cases c2 : (l0.length : Int) = 1
 ·rw [if_pos c2] at H
  have c2b0 : ((l0.length : Int) == 1) = true := beq_iff_eq.mpr c2
  have c2b1 : ((l0.length : Int) != 1) = false := bne_eq_false_iff_eq.mpr c2
  clear c2
  simp only [Option.some.injEq, Prod.mk.injEq] at H
  obtain ⟨rfl, rfl, rfl⟩ := H
  go_enter Tryd.func111, Tryd.ntmps111
  go_wp2_with (first | ((with_reducible refine gate_dst (N := 2) rfl ?_); refine box_event ?hg (N := 2) ?hd (cs := #[.int .i64 0, .int .i64 0, .string (⟨#[]⟩ : ByteArray)]) (t := 24) ?hr ?_; (case hd => rfl); (case hg => rfl); (case hr => first | (go_simp; done) | (go_simp; rfl)); intro gb105 hg w3 hbox hb; have n0_ := Aside0.mk (below_step bw hb); have n1_ := Aside0.mk (hbox); have n2_ := Aside0.mk ((by rw [hg]; exact (below_size bw) : w.heap.size ≤ gb105)); have n3_ := Aside0.mk ((by rw [hg]; exact (below_size bw) : w.heap.size ≤ gb105)); clear HB; have HB := n0_; have BK105 := n1_; have GW105 := n2_; have GE105 := n3_; clear n0_ n1_ n2_ n3_; clear hb hbox hg; have hcz4_0 : w3.cell? ⟨gb105, 0, none⟩ = some (.int .i64 0) := (blk_cell BK105.out 0).trans rfl; have hcz4_1 : w3.cell? ⟨gb105, 1, none⟩ = some (.int .i64 0) := (blk_cell BK105.out 1).trans rfl; have hcz4_2 : w3.cell? ⟨gb105, 2, none⟩ = some (.string (⟨#[]⟩ : ByteArray)) := (blk_cell BK105.out 2).trans rfl; have hfz4_0 := blk_frozen BK105.out 0; have hfz4_1 := blk_frozen BK105.out 1; have hfz4_2 := blk_frozen BK105.out 2))
  refine bodyPost_ret (results_cell_row rfl _ _ gb105 24 #[.int .i64 2, .int .i64 1, .string (⟨#[]⟩ : ByteArray)] (0, 0) _ rfl (by (with_reducible repeat (first | refine blk_drewN ?_ _ | refine blk_drew ?_ | refine blk_alloc ?_ _)); refine blk_put (cs := #[.int .i64 2, .int .i64 1, .string (⟨#[]⟩ : ByteArray)]) ?_ 2 _ rfl; (with_reducible repeat (first | refine blk_drewN ?_ _ | refine blk_drew ?_ | refine blk_alloc ?_ _)); refine blk_put (cs := #[.int .i64 2, .int .i64 0, .string (⟨#[]⟩ : ByteArray)]) ?_ 1 _ rfl; (with_reducible repeat (first | refine blk_drewN ?_ _ | refine blk_drew ?_ | refine blk_alloc ?_ _)); refine blk_put (cs := #[.int .i64 0, .int .i64 0, .string (⟨#[]⟩ : ByteArray)]) ?_ 0 _ rfl; (with_reducible repeat (first | refine blk_drewN ?_ _ | refine blk_drew ?_ | refine blk_alloc ?_ _)); exact BK105.out) Tryd.underlying24 rfl (by kernel_rfl)) rfl ?_
  exact ⟨by first | rfl | (simp [errW_none, errW_some] <;> rfl) | (simp [*, errW_none, errW_some] <;> rfl), by repeat (first | (with_reducible first | exact HB.out | apply below_alloc | apply pw_below_drewN | apply below_drew1 | refine below_set ?_ GE105.out) | exact HB.out)⟩
 ·rw [if_neg c2] at H
  have c2b0 : ((l0.length : Int) == 1) = false := beq_eq_false_iff_ne.mpr c2
  have c2b1 : ((l0.length : Int) != 1) = true := bne_iff_ne.mpr c2
  have HC5 := Aside0.mk H
  clear H
  go_enter Tryd.func111, Tryd.ntmps111
  go_upto_region 3 with (first | ((with_reducible refine gate_dst (N := 2) rfl ?_); refine box_event ?hg (N := 2) ?hd (cs := #[.int .i64 0, .int .i64 0, .string (⟨#[]⟩ : ByteArray)]) (t := 24) ?hr ?_; (case hd => rfl); (case hg => rfl); (case hr => first | (go_simp; done) | (go_simp; rfl)); intro gb105 hg w6 hbox hb; have n0_ := Aside0.mk (below_step bw hb); have n1_ := Aside0.mk (hbox); have n2_ := Aside0.mk ((by rw [hg]; exact (below_size bw) : w.heap.size ≤ gb105)); have n3_ := Aside0.mk ((by rw [hg]; exact (below_size bw) : w.heap.size ≤ gb105)); clear HB; have HB := n0_; have BK105 := n1_; have GW105 := n2_; have GE105 := n3_; clear n0_ n1_ n2_ n3_; clear hb hbox hg))
  (try simp only [Act.put, List.setIfInBounds_toArray, List.set_cons_zero, List.set_cons_succ])
  go_cut [8] (fun v8 wc => ∃ (kq : Nat) (x8_4 : Bool), v8 = .bool x8_4 ∧ Aside0 (order_join.j0 kq l0 x8_4 = some (r1, r2, r3)) ∧ Aside0 (kq ≤ k) ∧ Aside0 (wc.heap[gb105]? = some (.cells #[.int .i64 0, .int .i64 0, .string (⟨#[]⟩ : ByteArray)] 24 (0, 0))) ∧ Aside0 (Below w.heap.size w wc))
  case first =>
   have H := HC5.out
   clear HC5
   by_cases c7 : (l0.length : Int) = 2
   ·rw [if_pos c7] at H
    have c7b0 : ((l0.length : Int) == 2) = true := beq_iff_eq.mpr c7
    have c7b1 : ((l0.length : Int) != 2) = false := bne_eq_false_iff_eq.mpr c7
    clear c7
    (first | rw [c7b0] | (simp only [i64_w, i32_w]; rw [c7b0]) | skip)
    by_cases c8 : 1 < (l0.length : Int)
    ·rw [if_pos c8] at H
     have c8b0 : decide (1 < (l0.length : Int)) = true := decide_eq_true c8
     have c8b1 : decide (1 < l0.length) = true := decide_eq_true (by omega)
     clear c8
     replace H := Option.bind_eq_some_iff.mp H
     obtain ⟨t107, A90, H⟩ := H
     replace H : (order_join.j0 k l0 (t107 != 0)) = some (r1, r2, r3) := H
     have A9 := Aside0.mk A90
     clear A90
     have H' := Aside0.mk H
     clear H
     have p106 : 0 ≤ (1 : Int) := (by omega)
     have q106 : 1 < (l0.length : Int) := od
     obtain ⟨ad106, e106, hx106_0⟩ := Kd.at_string HR0.out 1 p106 q106
     cases e106
     (try simp only [show (1 : Int).toNat = 1 from rfl, Nat.reduceMul, Nat.reduceEqDiff, Go.Addr.add, ↓reduceIte] at hx106_0)
     have qi106 : (1 < l0.length) = True := eq_true (by omega)
     (try rw [show ((1 : Int)).toNat = 1 from rfl] at hx106_0)
     replace hx106_0 := (HB.out.cell (World.block_lt_of_cell? w _ hx106_0)).trans hx106_0
     replace p106 := eq_true p106
     replace q106 := eq_true q106
     go_wp2_with (first | (go_at_call 112; (with_reducible refine (roster_Mode.calls k (rdOf ByteArray.empty l0 1) t107 _ A9.out).mono ?_); rintro e w' ⟨rfl, ⟨nd, rfl⟩⟩))
     go_meet
     case rel => exact ⟨_, ((t107 != 0)), cl, H', ⟨by first | omega | exact Nat.le_refl _⟩, ⟨by (with_reducible repeat (first | refine blk_drewN ?_ _ | refine blk_drew ?_ | refine blk_alloc ?_ _)); exact BK105.out⟩, ⟨by repeat (first | (with_reducible first | exact HB.out | apply below_alloc | apply pw_below_drewN | apply below_drew1 | refine below_set ?_ GE105.out) | exact HB.out)⟩⟩
    ·rw [if_neg c8] at H
     exact absurd H (by simp)
   ·rw [if_neg c7] at H
    have c7b0 : ((l0.length : Int) == 2) = false := beq_eq_false_iff_ne.mpr c7
    have c7b1 : ((l0.length : Int) != 2) = true := bne_iff_ne.mpr c7
    (first | rw [c7b0] | (simp only [i64_w, i32_w]; rw [c7b0]) | skip)
    have H' := Aside0.mk H
    clear H
    go_wp2
    go_meet
    case rel => exact ⟨_, (false), cl, H', ⟨by first | omega | exact Nat.le_refl _⟩, ⟨by (with_reducible repeat (first | refine blk_drewN ?_ _ | refine blk_drew ?_ | refine blk_alloc ?_ _)); exact BK105.out⟩, ⟨by repeat (first | (with_reducible first | exact HB.out | apply below_alloc | apply pw_below_drewN | apply below_drew1 | refine below_set ?_ GE105.out) | exact HB.out)⟩⟩
  case rest =>
   clear HC5
   try clear c1
   try clear p1
   try clear q1
   try clear hx1
   try clear qi1
   try clear c2
   try clear c2b0
   try clear c2b1
   try clear p2
   try clear c7
   try clear c7b0
   try clear c7b1
   try clear c8
   try clear c8b0
   try clear c8b1
   try clear hcz4_0
   try clear hcz4_1
   try clear hcz4_2
   try clear hfz4_0
   try clear hfz4_1
   try clear hfz4_2
   try clear hx106_0
   try clear p106
   try clear q106
   obtain ⟨kq, x8_4, rfl, HA, HJ4, BK105, HB⟩ := hcut
   cases kq with
   | zero => exact absurd HA.out (by simp [order_join.j0])
   | succ kj4 =>
    have H := HA.out
    clear HA
    simp only [order_join.j0] at H
    by_cases c10 : x8_4 = true
    ·subst c10
     have H1 : (if 1 < (l0.length : Int) then ((roster_Mode.f kj4 (rdOf ByteArray.empty l0 1)).bind fun t109 => (some (2, t109, (⟨#[]⟩ : ByteArray)))) else (none)) = some (r1, r2, r3) := by rw [if_pos rfl] at H; exact H
     clear H
     have H := H1
     clear H1
     by_cases c11 : 1 < (l0.length : Int)
     ·rw [if_pos c11] at H
      have c11b0 : decide (1 < (l0.length : Int)) = true := decide_eq_true c11
      have c11b1 : decide (1 < l0.length) = true := decide_eq_true (by omega)
      clear c11
      replace H := Option.bind_eq_some_iff.mp H
      obtain ⟨t109, A120, H⟩ := H
      replace H : (some (2, t109, (⟨#[]⟩ : ByteArray))) = some (r1, r2, r3) := H
      have A12 := Aside0.mk A120
      clear A120
      simp only [Option.some.injEq, Prod.mk.injEq] at H
      obtain ⟨rfl, rfl, rfl⟩ := H
      have p108 : 0 ≤ (1 : Int) := (by omega)
      have q108 : 1 < (l0.length : Int) := od
      obtain ⟨ad108, e108, hx108_0⟩ := Kd.at_string HR0.out 1 p108 q108
      cases e108
      (try simp only [show (1 : Int).toNat = 1 from rfl, Nat.reduceMul, Nat.reduceEqDiff, Go.Addr.add, ↓reduceIte] at hx108_0)
      have qi108 : (1 < l0.length) = True := eq_true (by omega)
      (try rw [show ((1 : Int)).toNat = 1 from rfl] at hx108_0)
      replace hx108_0 := (HB.out.cell (World.block_lt_of_cell? w _ hx108_0)).trans hx108_0
      replace p108 := eq_true p108
      replace q108 := eq_true q108
      go_wp2_with (first | ((with_reducible refine gate_callee (f := 112) rfl ?_); refine goesL_ (some 22) rfl rfl Tryd.func112 (by kernel_rfl) rfl #[.string (rdOf ByteArray.empty l0 1)] rfl am ?_; (with_reducible refine (roster_Mode.calls kj4 (rdOf ByteArray.empty l0 1) t109 _ A12.out).mono ?_); rintro e w' ⟨rfl, ⟨nd, rfl⟩⟩; refine ⟨_, rfl, ?_⟩; (try (rw [drewN_self wc]; generalize hq_ : World.drewN wc _ = wc; have n0_ : Aside0 (wc.heap[gb105]? = some (.cells #[.int .i64 0, .int .i64 0, .string (⟨#[]⟩ : ByteArray)] 24 (0, 0))) := ⟨by rw [← hq_]; exact bk⟩; have n1_ : Aside0 (Below w.heap.size w wc) := ⟨by rw [← hq_]; exact bwS⟩; clear BK105 HB hq_; have BK105 := n0_; have HB := n1_; clear n0_ n1_)); have hcz13_0 : wc.cell? ⟨gb105, 0, none⟩ = some (.int .i64 0) := (blk_cell BK105.out 0).trans rfl; have hcz13_1 : wc.cell? ⟨gb105, 1, none⟩ = some (.int .i64 0) := (blk_cell BK105.out 1).trans rfl; have hcz13_2 : wc.cell? ⟨gb105, 2, none⟩ = some (.string (⟨#[]⟩ : ByteArray)) := (blk_cell BK105.out 2).trans rfl; have hfz13_0 := blk_frozen BK105.out 0; have hfz13_1 := blk_frozen BK105.out 1; have hfz13_2 := blk_frozen BK105.out 2))
      refine bodyPost_ret (results_cell_row rfl _ _ gb105 24 #[.int .i64 2, .int .i64 t109, .string (⟨#[]⟩ : ByteArray)] (0, 0) _ rfl (by (with_reducible repeat (first | refine blk_drewN ?_ _ | refine blk_drew ?_ | refine blk_alloc ?_ _)); refine blk_put (cs := #[.int .i64 2, .int .i64 t109, .string (⟨#[]⟩ : ByteArray)]) ?_ 2 _ rfl; (with_reducible repeat (first | refine blk_drewN ?_ _ | refine blk_drew ?_ | refine blk_alloc ?_ _)); refine blk_put (cs := #[.int .i64 2, .int .i64 0, .string (⟨#[]⟩ : ByteArray)]) ?_ 1 _ rfl; (with_reducible repeat (first | refine blk_drewN ?_ _ | refine blk_drew ?_ | refine blk_alloc ?_ _)); refine blk_put (cs := #[.int .i64 0, .int .i64 0, .string (⟨#[]⟩ : ByteArray)]) ?_ 0 _ rfl; (with_reducible repeat (first | refine blk_drewN ?_ _ | refine blk_drew ?_ | refine blk_alloc ?_ _)); exact BK105.out) Tryd.underlying24 rfl (by kernel_rfl)) rfl ?_
      exact ⟨by first | rfl | (simp [errW_none, errW_some] <;> rfl) | (simp [*, errW_none, errW_some] <;> rfl), by repeat (first | (with_reducible first | exact HB.out | apply below_alloc | apply pw_below_drewN | apply below_drew1 | refine below_set ?_ GE105.out) | exact HB.out)⟩
     ·rw [if_neg c11] at H
      exact absurd H (by simp)
    ·replace c10 := Bool.eq_false_iff.mpr c10
     subst c10
     have H1 : ((order_unknown.f l0).bind fun bt110 => (some (bt110.1, bt110.2.1, bt110.2.2))) = some (r1, r2, r3) := by rw [if_neg (show ¬ (false = true) by decide)] at H; exact H
     clear H
     have H := H1
     clear H1
     replace H := Option.bind_eq_some_iff.mp H
     obtain ⟨⟨t110, t111, t112⟩, A140, H⟩ := H
     replace H : (some (t110, t111, t112)) = some (r1, r2, r3) := H
     have A14 := Aside0.mk A140
     clear A140
     simp only [Option.some.injEq, Prod.mk.injEq] at H
     obtain ⟨rfl, rfl, rfl⟩ := H
     go_wp2_with (first | ((with_reducible refine gate_callee (f := 110) rfl ?_); refine goesL_ (some 25) rfl rfl Tryd.func110 (by kernel_rfl) rfl #[.slice A0 l0.length c0] rfl am ?_; (with_reducible refine (order_unknown.calls _ _ l0 t110 t111 t112 _ ?side1 ?side2 A14.out).mono ?_); (case side1 => repeat (first | exact (Kd.C_below HR0.out HB.out) | (with_reducible refine Kd.C_alloc ?_ _) | (with_reducible refine Kd.C_drewN ?_ _) | (with_reducible refine Kd.C_drew ?_))); (case side2 => exact HC0.out); rintro e w15 ⟨rfl, hb⟩; refine ⟨_, rfl, ?_⟩; have n0_ := Aside0.mk (blk_below (g := gb105) (o := .cells #[.int .i64 0, .int .i64 0, .string (⟨#[]⟩ : ByteArray)] 24 (0, 0)) bk hb); have n1_ := Aside0.mk (below_step bwS hb); clear BK105; clear HB; have BK105 := n0_; have HB := n1_; clear n0_ n1_; (try clear hb); (try clear hb2); (try clear hk); (try clear hi); have hcz16_0 : w15.cell? ⟨gb105, 0, none⟩ = some (.int .i64 0) := (blk_cell BK105.out 0).trans rfl; have hcz16_1 : w15.cell? ⟨gb105, 1, none⟩ = some (.int .i64 0) := (blk_cell BK105.out 1).trans rfl; have hcz16_2 : w15.cell? ⟨gb105, 2, none⟩ = some (.string (⟨#[]⟩ : ByteArray)) := (blk_cell BK105.out 2).trans rfl; have hfz16_0 := blk_frozen BK105.out 0; have hfz16_1 := blk_frozen BK105.out 1; have hfz16_2 := blk_frozen BK105.out 2))
     refine bodyPost_ret (results_cell_row rfl _ _ gb105 24 #[.int .i64 t110, .int .i64 t111, .string t112] (0, 0) _ rfl (by (with_reducible repeat (first | refine blk_drewN ?_ _ | refine blk_drew ?_ | refine blk_alloc ?_ _)); refine blk_put (cs := #[.int .i64 t110, .int .i64 t111, .string (⟨#[]⟩ : ByteArray)]) ?_ 2 _ rfl; (with_reducible repeat (first | refine blk_drewN ?_ _ | refine blk_drew ?_ | refine blk_alloc ?_ _)); refine blk_put (cs := #[.int .i64 t110, .int .i64 0, .string (⟨#[]⟩ : ByteArray)]) ?_ 1 _ rfl; (with_reducible repeat (first | refine blk_drewN ?_ _ | refine blk_drew ?_ | refine blk_alloc ?_ _)); refine blk_put (cs := #[.int .i64 0, .int .i64 0, .string (⟨#[]⟩ : ByteArray)]) ?_ 0 _ rfl; (with_reducible repeat (first | refine blk_drewN ?_ _ | refine blk_drew ?_ | refine blk_alloc ?_ _)); exact BK105.out) Tryd.underlying24 rfl (by kernel_rfl)) rfl ?_
     exact ⟨by first | rfl | (simp [errW_none, errW_some] <;> rfl) | (simp [*, errW_none, errW_some] <;> rfl), by repeat (first | (with_reducible first | exact HB.out | apply below_alloc | apply pw_below_drewN | apply below_drew1 | refine below_set ?_ GE105.out) | exact HB.out)⟩

end Go.Proofs.YtlomcmdbbnbciaaDoor.Fn
-- written by xprint.py of this session over the kit's printer; not trusted: Lean checks it
namespace Go.Proofs.YtlomcmdbbnbciaaDoor.Fn
open Go.RowKit Go.Proofs.YtlomcmdbbnbciaaDoorW.PrintWords Go.Proofs.YtlomcmdbbnbciaaDoorW.PrintLast Go.Proofs.YtlomcmdbbnbciaaDoorW.PrintMore
attribute [local go_sem] max2_int min2_int max_two min_two max_three min_three max_four min_four   -- for this text's walks alone
set_option linter.unusedVariables false
set_option linter.unusedSimpArgs false

/-! ### order_command: function 68 -/
mutual
def order_command.j0 : Nat → List ByteArray → Bool → ByteArray → Bool → Option (Int × Int × ByteArray)
 | 0, _, _, _, _ => none
 | k + 1, x0, x3, x14, x15 => if x15 = true then (if x3 = true then (some (1, 0, (⟨#[]⟩ : ByteArray))) else ((order_unknown.f x0).bind fun bt118 => (some (bt118.1, bt118.2.1, bt118.2.2)))) else (if x14.toList = ([106, 111, 105, 110] : List UInt8) then (order_command.j1 k x0 x3 x14 (x14.toList == ([106, 111, 105, 110] : List UInt8))) else (order_command.j1 k x0 x3 x14 (x14.toList == ([115, 117, 98, 115, 99, 114, 105, 98, 101] : List UInt8))))
def order_command.j1 : Nat → List ByteArray → Bool → ByteArray → Bool → Option (Int × Int × ByteArray)
 | 0, _, _, _, _ => none
 | k + 1, x0, x3, x14, x20 => if x20 = true then ((order_join.f k x0).bind fun bt121 => (some (bt121.1, bt121.2.1, bt121.2.2))) else (if x14.toList = ([108, 101, 97, 118, 101] : List UInt8) then (order_command.j2 k x0 x3 x14 (x14.toList == ([108, 101, 97, 118, 101] : List UInt8))) else (if x14.toList = ([117, 110, 115, 117, 98, 115, 99, 114, 105, 98, 101] : List UInt8) then (order_command.j2 k x0 x3 x14 (x14.toList == ([117, 110, 115, 117, 98, 115, 99, 114, 105, 98, 101] : List UInt8))) else (order_command.j2 k x0 x3 x14 (x14.toList == ([114, 101, 109, 111, 118, 101] : List UInt8)))))
def order_command.j2 : Nat → List ByteArray → Bool → ByteArray → Bool → Option (Int × Int × ByteArray)
 | 0, _, _, _, _ => none
 | k + 1, x0, x3, x14, x25 => if x25 = true then (if x3 = true then (some (3, 0, (⟨#[]⟩ : ByteArray))) else ((order_unknown.f x0).bind fun bt124 => (some (bt124.1, bt124.2.1, bt124.2.2)))) else (if x14.toList = ([115, 101, 116] : List UInt8) then (if (x0.length : Int) = 2 then (if 1 < (x0.length : Int) then ((roster_Mode.f k (rdOf ByteArray.empty x0 1)).bind fun t128 => (order_command.j3 k x0 (t128 != 0))) else (none)) else (order_command.j3 k x0 false)) else ((order_unknown.f x0).bind fun bt134 => (some (bt134.1, bt134.2.1, bt134.2.2))))
def order_command.j3 : Nat → List ByteArray → Bool → Option (Int × Int × ByteArray)
 | 0, _, _ => none
 | k + 1, x0, x42 => if x42 = true then (if 1 < (x0.length : Int) then ((roster_Mode.f k (rdOf ByteArray.empty x0 1)).bind fun t130 => (some (4, t130, (⟨#[]⟩ : ByteArray)))) else (none)) else ((order_unknown.f x0).bind fun bt131 => (some (bt131.1, bt131.2.1, bt131.2.2)))
end
def order_command.f (k : Nat) (l0 : List ByteArray) : Option (Int × Int × ByteArray) := if (l0.length : Int) = 0 then ((order_unknown.f l0).bind fun bt114 => (some (bt114.1, bt114.2.1, bt114.2.2))) else (if 0 < (l0.length : Int) then (if (rdOf ByteArray.empty l0 0).toList = ([104, 101, 108, 112] : List UInt8) then (order_command.j0 k l0 ((l0.length : Int) == 1) (rdOf ByteArray.empty l0 0) ((rdOf ByteArray.empty l0 0).toList == ([104, 101, 108, 112] : List UInt8))) else (order_command.j0 k l0 ((l0.length : Int) == 1) (rdOf ByteArray.empty l0 0) ((rdOf ByteArray.empty l0 0).toList == ([105, 110, 102, 111] : List UInt8)))) else (none))
set_option maxHeartbeats 8000000 in
set_option maxRecDepth 100000 in
theorem order_command.calls (k : Nat) (A0 : Option Addr) (c0 : Nat) (l0 : List ByteArray) (r1 : Int) (r2 : Int) (r3 : ByteArray) (w : World) (hr0 : Kd.C Kd.string w A0 l0.length l0) (hc0 : l0.length ≤ c0) (h : order_command.f k l0 = some (r1, r2, r3)) :
  Calls Tryd.prog 68 #[.slice A0 l0.length c0] w fun e w' => e = .returned (.agg #[.int .i64 r1, .int .i64 r2, .string r3]) ∧ Below w.heap.size w w' := by
 have hu24 := Tryd.underlying24
 have HR0 := Aside0.mk hr0
 have HC0 := Aside0.mk hc0
 clear hr0 hc0
 have HB := Aside0.mk (Below.refl w.heap.size w)
 have H : (if (l0.length : Int) = 0 then ((order_unknown.f l0).bind fun bt114 => (some (bt114.1, bt114.2.1, bt114.2.2))) else (if 0 < (l0.length : Int) then (if (rdOf ByteArray.empty l0 0).toList = ([104, 101, 108, 112] : List UInt8) then (order_command.j0 k l0 ((l0.length : Int) == 1) (rdOf ByteArray.empty l0 0) ((rdOf ByteArray.empty l0 0).toList == ([104, 101, 108, 112] : List UInt8))) else (order_command.j0 k l0 ((l0.length : Int) == 1) (rdOf ByteArray.empty l0 0) ((rdOf ByteArray.empty l0 0).toList == ([105, 110, 102, 111] : List UInt8)))) else (none))) = some (r1, r2, r3) := h
 clear h
 by_cases c2 : (l0.length : Int) = 0
 ·rw [if_pos c2] at H
  have c2b0 : ((l0.length : Int) == 0) = true := beq_iff_eq.mpr c2
  have c2b1 : ((l0.length : Int) != 0) = false := bne_eq_false_iff_eq.mpr c2
  clear c2
  replace H := Option.bind_eq_some_iff.mp H
  obtain ⟨⟨t114, t115, t116⟩, A30, H⟩ := H
  replace H : (some (t114, t115, t116)) = some (r1, r2, r3) := H
  have A3 := Aside0.mk A30
  clear A30
  simp only [Option.some.injEq, Prod.mk.injEq] at H
  obtain ⟨rfl, rfl, rfl⟩ := H
  go_enter Tryd.func68, Tryd.ntmps68
  go_wp2_with (first | ((with_reducible refine gate_dst (N := 2) rfl ?_); refine box_event ?hg (N := 2) ?hd (cs := #[.int .i64 0, .int .i64 0, .string (⟨#[]⟩ : ByteArray)]) (t := 24) ?hr ?_; (case hd => rfl); (case hg => rfl); (case hr => first | (go_simp; done) | (go_simp; rfl)); intro gb113 hg w4 hbox hb; have n0_ := Aside0.mk (below_step bw hb); have n1_ := Aside0.mk (hbox); have n2_ := Aside0.mk ((by rw [hg]; exact (below_size bw) : w.heap.size ≤ gb113)); have n3_ := Aside0.mk ((by rw [hg]; exact (below_size bw) : w.heap.size ≤ gb113)); clear HB; have HB := n0_; have BK113 := n1_; have GW113 := n2_; have GE113 := n3_; clear n0_ n1_ n2_ n3_; clear hb hbox hg) | ((with_reducible refine gate_callee (f := 110) rfl ?_); refine goesL_ (some 8) rfl rfl Tryd.func110 (by kernel_rfl) rfl #[.slice A0 l0.length c0] rfl am ?_; (with_reducible refine (order_unknown.calls _ _ l0 t114 t115 t116 _ ?side1 ?side2 A3.out).mono ?_); (case side1 => repeat (first | exact (Kd.C_below HR0.out HB.out) | (with_reducible refine Kd.C_alloc ?_ _) | (with_reducible refine Kd.C_drewN ?_ _) | (with_reducible refine Kd.C_drew ?_))); (case side2 => exact HC0.out); rintro e w5 ⟨rfl, hb⟩; refine ⟨_, rfl, ?_⟩; have n0_ := Aside0.mk (blk_below (g := gb113) (o := .cells #[.int .i64 0, .int .i64 0, .string (⟨#[]⟩ : ByteArray)] 24 (0, 0)) bk hb); have n1_ := Aside0.mk (below_step bwS hb); clear BK113; clear HB; have BK113 := n0_; have HB := n1_; clear n0_ n1_; (try clear hb); (try clear hb2); (try clear hk); (try clear hi); have hcz6_0 : w5.cell? ⟨gb113, 0, none⟩ = some (.int .i64 0) := (blk_cell BK113.out 0).trans rfl; have hcz6_1 : w5.cell? ⟨gb113, 1, none⟩ = some (.int .i64 0) := (blk_cell BK113.out 1).trans rfl; have hcz6_2 : w5.cell? ⟨gb113, 2, none⟩ = some (.string (⟨#[]⟩ : ByteArray)) := (blk_cell BK113.out 2).trans rfl; have hfz6_0 := blk_frozen BK113.out 0; have hfz6_1 := blk_frozen BK113.out 1; have hfz6_2 := blk_frozen BK113.out 2))
  refine bodyPost_ret (results_cell_row rfl _ _ gb113 24 #[.int .i64 t114, .int .i64 t115, .string t116] (0, 0) _ rfl (by (with_reducible repeat (first | refine blk_drewN ?_ _ | refine blk_drew ?_ | refine blk_alloc ?_ _)); refine blk_put (cs := #[.int .i64 t114, .int .i64 t115, .string (⟨#[]⟩ : ByteArray)]) ?_ 2 _ rfl; (with_reducible repeat (first | refine blk_drewN ?_ _ | refine blk_drew ?_ | refine blk_alloc ?_ _)); refine blk_put (cs := #[.int .i64 t114, .int .i64 0, .string (⟨#[]⟩ : ByteArray)]) ?_ 1 _ rfl; (with_reducible repeat (first | refine blk_drewN ?_ _ | refine blk_drew ?_ | refine blk_alloc ?_ _)); refine blk_put (cs := #[.int .i64 0, .int .i64 0, .string (⟨#[]⟩ : ByteArray)]) ?_ 0 _ rfl; (with_reducible repeat (first | refine blk_drewN ?_ _ | refine blk_drew ?_ | refine blk_alloc ?_ _)); exact BK113.out) Tryd.underlying24 rfl (by kernel_rfl)) rfl ?_
  exact ⟨by first | rfl | (simp [errW_none, errW_some] <;> rfl) | (simp [*, errW_none, errW_some] <;> rfl), by repeat (first | (with_reducible first | exact HB.out | apply below_alloc | apply pw_below_drewN | apply below_drew1 | refine below_set ?_ GE113.out) | exact HB.out)⟩
 ·rw [if_neg c2] at H
  have c2b0 : ((l0.length : Int) == 0) = false := beq_eq_false_iff_ne.mpr c2
  have c2b1 : ((l0.length : Int) != 0) = true := bne_iff_ne.mpr c2
  have c2b2 : ¬ (l0 = []) := fun h_ => c2 (by rw [h_]; rfl)
  by_cases c7 : 0 < (l0.length : Int)
  ·rw [if_pos c7] at H
   have c7b0 : decide (0 < (l0.length : Int)) = true := decide_eq_true c7
   have c7b1 : decide (0 < l0.length) = true := decide_eq_true (by omega)
   clear c7
   have HC8 := Aside0.mk H
   clear H
   go_enter Tryd.func68, Tryd.ntmps68
   go_upto_if 15 with (first | ((with_reducible refine gate_dst (N := 2) rfl ?_); refine box_event ?hg (N := 2) ?hd (cs := #[.int .i64 0, .int .i64 0, .string (⟨#[]⟩ : ByteArray)]) (t := 24) ?hr ?_; (case hd => rfl); (case hg => rfl); (case hr => first | (go_simp; done) | (go_simp; rfl)); intro gb113 hg w9 hbox hb; have n0_ := Aside0.mk (below_step bw hb); have n1_ := Aside0.mk (hbox); have n2_ := Aside0.mk ((by rw [hg]; exact (below_size bw) : w.heap.size ≤ gb113)); have n3_ := Aside0.mk ((by rw [hg]; exact (below_size bw) : w.heap.size ≤ gb113)); clear HB; have HB := n0_; have BK113 := n1_; have GW113 := n2_; have GE113 := n3_; clear n0_ n1_ n2_ n3_; clear hb hbox hg; have p117 : 0 ≤ (0 : Int) := (by omega); have q117 : 0 < (l0.length : Int) := od; obtain ⟨ad117, e117, hx117_0⟩ := Kd.at_string HR0.out 0 p117 q117; cases e117; have qi117 : (0 < l0.length) = True := eq_true (by omega); (try rw [show ((0 : Int)).toNat = 0 from rfl] at hx117_0); (try rw [Addr.add_zero'] at hx117_0); replace hx117_0 := (HB.out.cell (World.block_lt_of_cell? w _ hx117_0)).trans hx117_0; replace p117 := eq_true p117; replace q117 := eq_true q117))
   (try simp only [Act.put, List.setIfInBounds_toArray, List.set_cons_zero, List.set_cons_succ])
   go_cut [15] (fun v15 wc => ∃ (kq : Nat) (x15_7 : Bool), v15 = .bool x15_7 ∧ Aside0 (order_command.j0 kq l0 ((l0.length : Int) == 1) (rdOf ByteArray.empty l0 0) x15_7 = some (r1, r2, r3)) ∧ Aside0 (kq ≤ k) ∧ Aside0 (wc.heap[gb113]? = some (.cells #[.int .i64 0, .int .i64 0, .string (⟨#[]⟩ : ByteArray)] 24 (0, 0))) ∧ Aside0 (Below w.heap.size w wc))
   case first =>
    have H := HC8.out
    clear HC8
    by_cases c10 : (rdOf ByteArray.empty l0 0).toList = ([104, 101, 108, 112] : List UInt8)
    ·rw [if_pos c10] at H
     have c10b0 : ((rdOf ByteArray.empty l0 0).toList == ([104, 101, 108, 112] : List UInt8)) = true := beq_iff_eq.mpr c10
     have c10b1 : ((rdOf ByteArray.empty l0 0).toList != ([104, 101, 108, 112] : List UInt8)) = false := bne_eq_false_iff_eq.mpr c10
     clear c10
     (first | rw [c10b0] | (simp only [i64_w, i32_w]; rw [c10b0]) | skip)
     have H' := Aside0.mk H
     clear H
     go_wp2
     go_meet
     case rel => exact ⟨_, (((rdOf ByteArray.empty l0 0).toList == ([104, 101, 108, 112] : List UInt8))), cl, H', ⟨by first | omega | exact Nat.le_refl _⟩, ⟨by (with_reducible repeat (first | refine blk_drewN ?_ _ | refine blk_drew ?_ | refine blk_alloc ?_ _)); exact BK113.out⟩, ⟨by repeat (first | (with_reducible first | exact HB.out | apply below_alloc | apply pw_below_drewN | apply below_drew1 | refine below_set ?_ GE113.out) | exact HB.out)⟩⟩
    ·rw [if_neg c10] at H
     have c10b0 : ((rdOf ByteArray.empty l0 0).toList == ([104, 101, 108, 112] : List UInt8)) = false := beq_eq_false_iff_ne.mpr c10
     have c10b1 : ((rdOf ByteArray.empty l0 0).toList != ([104, 101, 108, 112] : List UInt8)) = true := bne_iff_ne.mpr c10
     (first | rw [c10b0] | (simp only [i64_w, i32_w]; rw [c10b0]) | skip)
     have H' := Aside0.mk H
     clear H
     go_wp2
     go_meet
     case rel => exact ⟨_, (((rdOf ByteArray.empty l0 0).toList == ([105, 110, 102, 111] : List UInt8))), cl, H', ⟨by first | omega | exact Nat.le_refl _⟩, ⟨by (with_reducible repeat (first | refine blk_drewN ?_ _ | refine blk_drew ?_ | refine blk_alloc ?_ _)); exact BK113.out⟩, ⟨by repeat (first | (with_reducible first | exact HB.out | apply below_alloc | apply pw_below_drewN | apply below_drew1 | refine below_set ?_ GE113.out) | exact HB.out)⟩⟩
   case rest =>
    clear HC8
    try clear c1
    try clear p1
    try clear q1
    try clear hx1
    try clear qi1
    try clear c2
    try clear c2b0
    try clear c2b1
    try clear c2b2
    try clear p2
    try clear c6
    try clear c7
    try clear c7b0
    try clear c7b1
    try clear c10
    try clear c10b0
    try clear c10b1
    try clear hcz6_0
    try clear hcz6_1
    try clear hcz6_2
    try clear hfz6_0
    try clear hfz6_1
    try clear hfz6_2
    try clear hx117_0
    try clear p117
    try clear q117
    obtain ⟨kq, x15_7, rfl, HA, HJ7, BK113, HB⟩ := hcut
    cases kq with
    | zero => exact absurd HA.out (by simp [order_command.j0])
    | succ kj7 =>
     have H := HA.out
     clear HA
     simp only [order_command.j0] at H
     by_cases c11 : x15_7 = true
     ·subst c11
      have H1 : (if ((l0.length : Int) == 1) = true then (some (1, 0, (⟨#[]⟩ : ByteArray))) else ((order_unknown.f l0).bind fun bt118 => (some (bt118.1, bt118.2.1, bt118.2.2)))) = some (r1, r2, r3) := by rw [if_pos rfl] at H; exact H
      clear H
      have H := H1
      clear H1
      by_cases c12 : ((l0.length : Int) == 1) = true
      ·rw [if_pos c12] at H
       have c12b0 : ((l0.length : Int) == 1) = true := c12
       (try (have c12b1 : decide ((l0.length : Int) = 1) = true := by simpa using c12))
       (try (have c12b2 : ((l0.length : Int) == 1) = true := by simpa using c12))
       clear c12
       simp only [Option.some.injEq, Prod.mk.injEq] at H
       obtain ⟨rfl, rfl, rfl⟩ := H
       have hcz13_0 : wc.cell? ⟨gb113, 0, none⟩ = some (.int .i64 0) := (blk_cell BK113.out 0).trans rfl
       have hcz13_1 : wc.cell? ⟨gb113, 1, none⟩ = some (.int .i64 0) := (blk_cell BK113.out 1).trans rfl
       have hcz13_2 : wc.cell? ⟨gb113, 2, none⟩ = some (.string (⟨#[]⟩ : ByteArray)) := (blk_cell BK113.out 2).trans rfl
       have hfz13_0 := blk_frozen BK113.out 0
       have hfz13_1 := blk_frozen BK113.out 1
       have hfz13_2 := blk_frozen BK113.out 2
       go_wp2
       refine bodyPost_ret (results_cell_row rfl _ _ gb113 24 #[.int .i64 1, .int .i64 0, .string (⟨#[]⟩ : ByteArray)] (0, 0) _ rfl (by (with_reducible repeat (first | refine blk_drewN ?_ _ | refine blk_drew ?_ | refine blk_alloc ?_ _)); refine blk_put (cs := #[.int .i64 1, .int .i64 0, .string (⟨#[]⟩ : ByteArray)]) ?_ 2 _ rfl; (with_reducible repeat (first | refine blk_drewN ?_ _ | refine blk_drew ?_ | refine blk_alloc ?_ _)); refine blk_put (cs := #[.int .i64 1, .int .i64 0, .string (⟨#[]⟩ : ByteArray)]) ?_ 1 _ rfl; (with_reducible repeat (first | refine blk_drewN ?_ _ | refine blk_drew ?_ | refine blk_alloc ?_ _)); refine blk_put (cs := #[.int .i64 0, .int .i64 0, .string (⟨#[]⟩ : ByteArray)]) ?_ 0 _ rfl; (with_reducible repeat (first | refine blk_drewN ?_ _ | refine blk_drew ?_ | refine blk_alloc ?_ _)); exact BK113.out) Tryd.underlying24 rfl (by kernel_rfl)) rfl ?_
       exact ⟨by first | rfl | (simp [errW_none, errW_some] <;> rfl) | (simp [*, errW_none, errW_some] <;> rfl), by repeat (first | (with_reducible first | exact HB.out | apply below_alloc | apply pw_below_drewN | apply below_drew1 | refine below_set ?_ GE113.out) | exact HB.out)⟩
      ·rw [if_neg c12] at H
       have c12b0 : ((l0.length : Int) == 1) = false := by simpa using c12
       (try (have c12b1 : decide ((l0.length : Int) = 1) = false := by simpa using c12))
       (try (have c12b2 : ((l0.length : Int) == 1) = false := by simpa using c12))
       (try (have c12b3 : ¬ ((l0.length : Int) = 1) := by simpa using c12))
       clear c12
       replace H := Option.bind_eq_some_iff.mp H
       obtain ⟨⟨t118, t119, t120⟩, A140, H⟩ := H
       replace H : (some (t118, t119, t120)) = some (r1, r2, r3) := H
       have A14 := Aside0.mk A140
       clear A140
       simp only [Option.some.injEq, Prod.mk.injEq] at H
       obtain ⟨rfl, rfl, rfl⟩ := H
       go_wp2_with (first | ((with_reducible refine gate_callee (f := 110) rfl ?_); refine goesL_ (some 49) rfl rfl Tryd.func110 (by kernel_rfl) rfl #[.slice (some ad117) l0.length c0] rfl am ?_; (with_reducible refine (order_unknown.calls _ _ l0 t118 t119 t120 _ ?side1 ?side2 A14.out).mono ?_); (case side1 => repeat (first | exact (Kd.C_below HR0.out HB.out) | (with_reducible refine Kd.C_alloc ?_ _) | (with_reducible refine Kd.C_drewN ?_ _) | (with_reducible refine Kd.C_drew ?_))); (case side2 => exact HC0.out); rintro e w15 ⟨rfl, hb⟩; refine ⟨_, rfl, ?_⟩; have n0_ := Aside0.mk (blk_below (g := gb113) (o := .cells #[.int .i64 0, .int .i64 0, .string (⟨#[]⟩ : ByteArray)] 24 (0, 0)) bk hb); have n1_ := Aside0.mk (below_step bwS hb); clear BK113; clear HB; have BK113 := n0_; have HB := n1_; clear n0_ n1_; (try clear hb); (try clear hb2); (try clear hk); (try clear hi); have hcz16_0 : w15.cell? ⟨gb113, 0, none⟩ = some (.int .i64 0) := (blk_cell BK113.out 0).trans rfl; have hcz16_1 : w15.cell? ⟨gb113, 1, none⟩ = some (.int .i64 0) := (blk_cell BK113.out 1).trans rfl; have hcz16_2 : w15.cell? ⟨gb113, 2, none⟩ = some (.string (⟨#[]⟩ : ByteArray)) := (blk_cell BK113.out 2).trans rfl; have hfz16_0 := blk_frozen BK113.out 0; have hfz16_1 := blk_frozen BK113.out 1; have hfz16_2 := blk_frozen BK113.out 2))
       refine bodyPost_ret (results_cell_row rfl _ _ gb113 24 #[.int .i64 t118, .int .i64 t119, .string t120] (0, 0) _ rfl (by (with_reducible repeat (first | refine blk_drewN ?_ _ | refine blk_drew ?_ | refine blk_alloc ?_ _)); refine blk_put (cs := #[.int .i64 t118, .int .i64 t119, .string (⟨#[]⟩ : ByteArray)]) ?_ 2 _ rfl; (with_reducible repeat (first | refine blk_drewN ?_ _ | refine blk_drew ?_ | refine blk_alloc ?_ _)); refine blk_put (cs := #[.int .i64 t118, .int .i64 0, .string (⟨#[]⟩ : ByteArray)]) ?_ 1 _ rfl; (with_reducible repeat (first | refine blk_drewN ?_ _ | refine blk_drew ?_ | refine blk_alloc ?_ _)); refine blk_put (cs := #[.int .i64 0, .int .i64 0, .string (⟨#[]⟩ : ByteArray)]) ?_ 0 _ rfl; (with_reducible repeat (first | refine blk_drewN ?_ _ | refine blk_drew ?_ | refine blk_alloc ?_ _)); exact BK113.out) Tryd.underlying24 rfl (by kernel_rfl)) rfl ?_
       exact ⟨by first | rfl | (simp [errW_none, errW_some] <;> rfl) | (simp [*, errW_none, errW_some] <;> rfl), by repeat (first | (with_reducible first | exact HB.out | apply below_alloc | apply pw_below_drewN | apply below_drew1 | refine below_set ?_ GE113.out) | exact HB.out)⟩
     ·replace c11 := Bool.eq_false_iff.mpr c11
      subst c11
      have H1 : (if (rdOf ByteArray.empty l0 0).toList = ([106, 111, 105, 110] : List UInt8) then (order_command.j1 kj7 l0 ((l0.length : Int) == 1) (rdOf ByteArray.empty l0 0) ((rdOf ByteArray.empty l0 0).toList == ([106, 111, 105, 110] : List UInt8))) else (order_command.j1 kj7 l0 ((l0.length : Int) == 1) (rdOf ByteArray.empty l0 0) ((rdOf ByteArray.empty l0 0).toList == ([115, 117, 98, 115, 99, 114, 105, 98, 101] : List UInt8)))) = some (r1, r2, r3) := by rw [if_neg (show ¬ (false = true) by decide)] at H; exact H
      clear H
      have H := H1
      clear H1
      have HC17 := Aside0.mk H
      clear H
      go_upto_if 20 with (fail)
      go_cut [20] (fun v20 wc => ∃ (kq : Nat) (x20_16 : Bool), v20 = .bool x20_16 ∧ Aside0 (order_command.j1 kq l0 ((l0.length : Int) == 1) (rdOf ByteArray.empty l0 0) x20_16 = some (r1, r2, r3)) ∧ Aside0 (kq ≤ kj7) ∧ Aside0 (wc.heap[gb113]? = some (.cells #[.int .i64 0, .int .i64 0, .string (⟨#[]⟩ : ByteArray)] 24 (0, 0))) ∧ Aside0 (Below w.heap.size w wc))
      case first =>
       have H := HC17.out
       clear HC17
       by_cases c18 : (rdOf ByteArray.empty l0 0).toList = ([106, 111, 105, 110] : List UInt8)
       ·rw [if_pos c18] at H
        have c18b0 : ((rdOf ByteArray.empty l0 0).toList == ([106, 111, 105, 110] : List UInt8)) = true := beq_iff_eq.mpr c18
        have c18b1 : ((rdOf ByteArray.empty l0 0).toList != ([106, 111, 105, 110] : List UInt8)) = false := bne_eq_false_iff_eq.mpr c18
        clear c18
        (first | rw [c18b0] | (simp only [i64_w, i32_w]; rw [c18b0]) | skip)
        have H' := Aside0.mk H
        clear H
        go_wp2
        go_meet
        case rel => exact ⟨_, (((rdOf ByteArray.empty l0 0).toList == ([106, 111, 105, 110] : List UInt8))), cl, H', ⟨by have := HJ7.out; first | omega | exact Nat.le_refl _⟩, ⟨by (with_reducible repeat (first | refine blk_drewN ?_ _ | refine blk_drew ?_ | refine blk_alloc ?_ _)); exact BK113.out⟩, ⟨by repeat (first | (with_reducible first | exact HB.out | apply below_alloc | apply pw_below_drewN | apply below_drew1 | refine below_set ?_ GE113.out) | exact HB.out)⟩⟩
       ·rw [if_neg c18] at H
        have c18b0 : ((rdOf ByteArray.empty l0 0).toList == ([106, 111, 105, 110] : List UInt8)) = false := beq_eq_false_iff_ne.mpr c18
        have c18b1 : ((rdOf ByteArray.empty l0 0).toList != ([106, 111, 105, 110] : List UInt8)) = true := bne_iff_ne.mpr c18
        (first | rw [c18b0] | (simp only [i64_w, i32_w]; rw [c18b0]) | skip)
        have H' := Aside0.mk H
        clear H
        go_wp2
        go_meet
        case rel => exact ⟨_, (((rdOf ByteArray.empty l0 0).toList == ([115, 117, 98, 115, 99, 114, 105, 98, 101] : List UInt8))), cl, H', ⟨by have := HJ7.out; first | omega | exact Nat.le_refl _⟩, ⟨by (with_reducible repeat (first | refine blk_drewN ?_ _ | refine blk_drew ?_ | refine blk_alloc ?_ _)); exact BK113.out⟩, ⟨by repeat (first | (with_reducible first | exact HB.out | apply below_alloc | apply pw_below_drewN | apply below_drew1 | refine below_set ?_ GE113.out) | exact HB.out)⟩⟩
      case rest =>
       clear HC17
       try clear c1
       try clear p1
       try clear q1
       try clear hx1
       try clear qi1
       try clear c2
       try clear c2b0
       try clear c2b1
       try clear c2b2
       try clear p2
       try clear c6
       try clear c7
       try clear c7b0
       try clear c7b1
       try clear c10
       try clear c10b0
       try clear c10b1
       try clear c11
       try clear p11
       try clear q11
       try clear hx11
       try clear qi11
       try clear c12
       try clear c12b0
       try clear c12b1
       try clear c12b2
       try clear c18
       try clear c18b0
       try clear c18b1
       try clear hcz13_0
       try clear hcz13_1
       try clear hcz13_2
       try clear hcz16_0
       try clear hcz16_1
       try clear hcz16_2
       try clear hcz6_0
       try clear hcz6_1
       try clear hcz6_2
       try clear hfz13_0
       try clear hfz13_1
       try clear hfz13_2
       try clear hfz16_0
       try clear hfz16_1
       try clear hfz16_2
       try clear hfz6_0
       try clear hfz6_1
       try clear hfz6_2
       try clear hx117_0
       try clear p1
       try clear p117
       try clear p2
       try clear q1
       try clear q117
       obtain ⟨kq, x20_16, rfl, HA, HJ16, BK113, HB⟩ := hcut
       cases kq with
       | zero => exact absurd HA.out (by simp [order_command.j1])
       | succ kj16 =>
        have H := HA.out
        clear HA
        simp only [order_command.j1] at H
        by_cases c19 : x20_16 = true
        ·subst c19
         have H1 : ((order_join.f kj16 l0).bind fun bt121 => (some (bt121.1, bt121.2.1, bt121.2.2))) = some (r1, r2, r3) := by rw [if_pos rfl] at H; exact H
         clear H
         have H := H1
         clear H1
         replace H := Option.bind_eq_some_iff.mp H
         obtain ⟨⟨t121, t122, t123⟩, A200, H⟩ := H
         replace H : (some (t121, t122, t123)) = some (r1, r2, r3) := H
         have A20 := Aside0.mk A200
         clear A200
         simp only [Option.some.injEq, Prod.mk.injEq] at H
         obtain ⟨rfl, rfl, rfl⟩ := H
         go_wp2_with (first | ((with_reducible refine gate_callee (f := 111) rfl ?_); refine goesL_ (some 24) rfl rfl Tryd.func111 (by kernel_rfl) rfl #[.slice (some ad117) l0.length c0] rfl am ?_; (with_reducible refine (order_join.calls kj16 _ _ l0 t121 t122 t123 _ ?side1 ?side2 A20.out).mono ?_); (case side1 => repeat (first | exact (Kd.C_below HR0.out HB.out) | (with_reducible refine Kd.C_alloc ?_ _) | (with_reducible refine Kd.C_drewN ?_ _) | (with_reducible refine Kd.C_drew ?_))); (case side2 => exact HC0.out); rintro e w21 ⟨rfl, hb⟩; refine ⟨_, rfl, ?_⟩; have n0_ := Aside0.mk (blk_below (g := gb113) (o := .cells #[.int .i64 0, .int .i64 0, .string (⟨#[]⟩ : ByteArray)] 24 (0, 0)) bk hb); have n1_ := Aside0.mk (below_step bwS hb); clear BK113; clear HB; have BK113 := n0_; have HB := n1_; clear n0_ n1_; (try clear hb); (try clear hb2); (try clear hk); (try clear hi); have hcz22_0 : w21.cell? ⟨gb113, 0, none⟩ = some (.int .i64 0) := (blk_cell BK113.out 0).trans rfl; have hcz22_1 : w21.cell? ⟨gb113, 1, none⟩ = some (.int .i64 0) := (blk_cell BK113.out 1).trans rfl; have hcz22_2 : w21.cell? ⟨gb113, 2, none⟩ = some (.string (⟨#[]⟩ : ByteArray)) := (blk_cell BK113.out 2).trans rfl; have hfz22_0 := blk_frozen BK113.out 0; have hfz22_1 := blk_frozen BK113.out 1; have hfz22_2 := blk_frozen BK113.out 2))
         refine bodyPost_ret (results_cell_row rfl _ _ gb113 24 #[.int .i64 t121, .int .i64 t122, .string t123] (0, 0) _ rfl (by (with_reducible repeat (first | refine blk_drewN ?_ _ | refine blk_drew ?_ | refine blk_alloc ?_ _)); refine blk_put (cs := #[.int .i64 t121, .int .i64 t122, .string (⟨#[]⟩ : ByteArray)]) ?_ 2 _ rfl; (with_reducible repeat (first | refine blk_drewN ?_ _ | refine blk_drew ?_ | refine blk_alloc ?_ _)); refine blk_put (cs := #[.int .i64 t121, .int .i64 0, .string (⟨#[]⟩ : ByteArray)]) ?_ 1 _ rfl; (with_reducible repeat (first | refine blk_drewN ?_ _ | refine blk_drew ?_ | refine blk_alloc ?_ _)); refine blk_put (cs := #[.int .i64 0, .int .i64 0, .string (⟨#[]⟩ : ByteArray)]) ?_ 0 _ rfl; (with_reducible repeat (first | refine blk_drewN ?_ _ | refine blk_drew ?_ | refine blk_alloc ?_ _)); exact BK113.out) Tryd.underlying24 rfl (by kernel_rfl)) rfl ?_
         exact ⟨by first | rfl | (simp [errW_none, errW_some] <;> rfl) | (simp [*, errW_none, errW_some] <;> rfl), by repeat (first | (with_reducible first | exact HB.out | apply below_alloc | apply pw_below_drewN | apply below_drew1 | refine below_set ?_ GE113.out) | exact HB.out)⟩
        ·replace c19 := Bool.eq_false_iff.mpr c19
         subst c19
         have H1 : (if (rdOf ByteArray.empty l0 0).toList = ([108, 101, 97, 118, 101] : List UInt8) then (order_command.j2 kj16 l0 ((l0.length : Int) == 1) (rdOf ByteArray.empty l0 0) ((rdOf ByteArray.empty l0 0).toList == ([108, 101, 97, 118, 101] : List UInt8))) else (if (rdOf ByteArray.empty l0 0).toList = ([117, 110, 115, 117, 98, 115, 99, 114, 105, 98, 101] : List UInt8) then (order_command.j2 kj16 l0 ((l0.length : Int) == 1) (rdOf ByteArray.empty l0 0) ((rdOf ByteArray.empty l0 0).toList == ([117, 110, 115, 117, 98, 115, 99, 114, 105, 98, 101] : List UInt8))) else (order_command.j2 kj16 l0 ((l0.length : Int) == 1) (rdOf ByteArray.empty l0 0) ((rdOf ByteArray.empty l0 0).toList == ([114, 101, 109, 111, 118, 101] : List UInt8))))) = some (r1, r2, r3) := by rw [if_neg (show ¬ (false = true) by decide)] at H; exact H
         clear H
         have H := H1
         clear H1
         have HC23 := Aside0.mk H
         clear H
         go_upto_if 25 with (fail)
         go_cut [25] (fun v25 wc => ∃ (kq : Nat) (x25_22 : Bool), v25 = .bool x25_22 ∧ Aside0 (order_command.j2 kq l0 ((l0.length : Int) == 1) (rdOf ByteArray.empty l0 0) x25_22 = some (r1, r2, r3)) ∧ Aside0 (kq ≤ kj16) ∧ Aside0 (wc.heap[gb113]? = some (.cells #[.int .i64 0, .int .i64 0, .string (⟨#[]⟩ : ByteArray)] 24 (0, 0))) ∧ Aside0 (Below w.heap.size w wc))
         case first =>
          have H := HC23.out
          clear HC23
          by_cases c24 : (rdOf ByteArray.empty l0 0).toList = ([108, 101, 97, 118, 101] : List UInt8)
          ·rw [if_pos c24] at H
           have c24b0 : ((rdOf ByteArray.empty l0 0).toList == ([108, 101, 97, 118, 101] : List UInt8)) = true := beq_iff_eq.mpr c24
           have c24b1 : ((rdOf ByteArray.empty l0 0).toList != ([108, 101, 97, 118, 101] : List UInt8)) = false := bne_eq_false_iff_eq.mpr c24
           clear c24
           (first | rw [c24b0] | (simp only [i64_w, i32_w]; rw [c24b0]) | skip)
           have H' := Aside0.mk H
           clear H
           go_wp2
           go_meet
           case rel => exact ⟨_, (((rdOf ByteArray.empty l0 0).toList == ([108, 101, 97, 118, 101] : List UInt8))), cl, H', ⟨by have := HJ7.out; have := HJ16.out; first | omega | exact Nat.le_refl _⟩, ⟨by (with_reducible repeat (first | refine blk_drewN ?_ _ | refine blk_drew ?_ | refine blk_alloc ?_ _)); exact BK113.out⟩, ⟨by repeat (first | (with_reducible first | exact HB.out | apply below_alloc | apply pw_below_drewN | apply below_drew1 | refine below_set ?_ GE113.out) | exact HB.out)⟩⟩
          ·rw [if_neg c24] at H
           have c24b0 : ((rdOf ByteArray.empty l0 0).toList == ([108, 101, 97, 118, 101] : List UInt8)) = false := beq_eq_false_iff_ne.mpr c24
           have c24b1 : ((rdOf ByteArray.empty l0 0).toList != ([108, 101, 97, 118, 101] : List UInt8)) = true := bne_iff_ne.mpr c24
           (first | rw [c24b0] | (simp only [i64_w, i32_w]; rw [c24b0]) | skip)
           by_cases c25 : (rdOf ByteArray.empty l0 0).toList = ([117, 110, 115, 117, 98, 115, 99, 114, 105, 98, 101] : List UInt8)
           ·rw [if_pos c25] at H
            have c25b0 : ((rdOf ByteArray.empty l0 0).toList == ([117, 110, 115, 117, 98, 115, 99, 114, 105, 98, 101] : List UInt8)) = true := beq_iff_eq.mpr c25
            have c25b1 : ((rdOf ByteArray.empty l0 0).toList != ([117, 110, 115, 117, 98, 115, 99, 114, 105, 98, 101] : List UInt8)) = false := bne_eq_false_iff_eq.mpr c25
            clear c25
            have H' := Aside0.mk H
            clear H
            go_wp2
            go_meet
            case rel => exact ⟨_, (((rdOf ByteArray.empty l0 0).toList == ([117, 110, 115, 117, 98, 115, 99, 114, 105, 98, 101] : List UInt8))), cl, H', ⟨by have := HJ7.out; have := HJ16.out; first | omega | exact Nat.le_refl _⟩, ⟨by (with_reducible repeat (first | refine blk_drewN ?_ _ | refine blk_drew ?_ | refine blk_alloc ?_ _)); exact BK113.out⟩, ⟨by repeat (first | (with_reducible first | exact HB.out | apply below_alloc | apply pw_below_drewN | apply below_drew1 | refine below_set ?_ GE113.out) | exact HB.out)⟩⟩
           ·rw [if_neg c25] at H
            have c25b0 : ((rdOf ByteArray.empty l0 0).toList == ([117, 110, 115, 117, 98, 115, 99, 114, 105, 98, 101] : List UInt8)) = false := beq_eq_false_iff_ne.mpr c25
            have c25b1 : ((rdOf ByteArray.empty l0 0).toList != ([117, 110, 115, 117, 98, 115, 99, 114, 105, 98, 101] : List UInt8)) = true := bne_iff_ne.mpr c25
            have H' := Aside0.mk H
            clear H
            go_wp2
            go_meet
            case rel => exact ⟨_, (((rdOf ByteArray.empty l0 0).toList == ([114, 101, 109, 111, 118, 101] : List UInt8))), cl, H', ⟨by have := HJ7.out; have := HJ16.out; first | omega | exact Nat.le_refl _⟩, ⟨by (with_reducible repeat (first | refine blk_drewN ?_ _ | refine blk_drew ?_ | refine blk_alloc ?_ _)); exact BK113.out⟩, ⟨by repeat (first | (with_reducible first | exact HB.out | apply below_alloc | apply pw_below_drewN | apply below_drew1 | refine below_set ?_ GE113.out) | exact HB.out)⟩⟩
         case rest =>
          clear HC23
          try clear c1
          try clear p1
          try clear q1
          try clear hx1
          try clear qi1
          try clear c2
          try clear c2b0
          try clear c2b1
          try clear c2b2
          try clear p2
          try clear c6
          try clear c7
          try clear c7b0
          try clear c7b1
          try clear c10
          try clear c10b0
          try clear c10b1
          try clear c11
          try clear p11
          try clear q11
          try clear hx11
          try clear qi11
          try clear c12
          try clear c12b0
          try clear c12b1
          try clear c12b2
          try clear c18
          try clear c18b0
          try clear c18b1
          try clear c19
          try clear c24
          try clear c24b0
          try clear c24b1
          try clear c25
          try clear c25b0
          try clear c25b1
          try clear hcz13_0
          try clear hcz13_1
          try clear hcz13_2
          try clear hcz16_0
          try clear hcz16_1
          try clear hcz16_2
          try clear hcz22_0
          try clear hcz22_1
          try clear hcz22_2
          try clear hcz6_0
          try clear hcz6_1
          try clear hcz6_2
          try clear hfz13_0
          try clear hfz13_1
          try clear hfz13_2
          try clear hfz16_0
          try clear hfz16_1
          try clear hfz16_2
          try clear hfz22_0
          try clear hfz22_1
          try clear hfz22_2
          try clear hfz6_0
          try clear hfz6_1
          try clear hfz6_2
          try clear hx117_0
          try clear p1
          try clear p11
          try clear p117
          try clear p2
          try clear q1
          try clear q11
          try clear q117
          obtain ⟨kq, x25_22, rfl, HA, HJ22, BK113, HB⟩ := hcut
          cases kq with
          | zero => exact absurd HA.out (by simp [order_command.j2])
          | succ kj22 =>
           have H := HA.out
           clear HA
           simp only [order_command.j2] at H
           by_cases c26 : x25_22 = true
           ·subst c26
            have H1 : (if ((l0.length : Int) == 1) = true then (some (3, 0, (⟨#[]⟩ : ByteArray))) else ((order_unknown.f l0).bind fun bt124 => (some (bt124.1, bt124.2.1, bt124.2.2)))) = some (r1, r2, r3) := by rw [if_pos rfl] at H; exact H
            clear H
            have H := H1
            clear H1
            by_cases c27 : ((l0.length : Int) == 1) = true
            ·rw [if_pos c27] at H
             have c27b0 : ((l0.length : Int) == 1) = true := c27
             (try (have c27b1 : decide ((l0.length : Int) = 1) = true := by simpa using c27))
             (try (have c27b2 : ((l0.length : Int) == 1) = true := by simpa using c27))
             clear c27
             simp only [Option.some.injEq, Prod.mk.injEq] at H
             obtain ⟨rfl, rfl, rfl⟩ := H
             have hcz28_0 : wc.cell? ⟨gb113, 0, none⟩ = some (.int .i64 0) := (blk_cell BK113.out 0).trans rfl
             have hcz28_1 : wc.cell? ⟨gb113, 1, none⟩ = some (.int .i64 0) := (blk_cell BK113.out 1).trans rfl
             have hcz28_2 : wc.cell? ⟨gb113, 2, none⟩ = some (.string (⟨#[]⟩ : ByteArray)) := (blk_cell BK113.out 2).trans rfl
             have hfz28_0 := blk_frozen BK113.out 0
             have hfz28_1 := blk_frozen BK113.out 1
             have hfz28_2 := blk_frozen BK113.out 2
             go_wp2
             refine bodyPost_ret (results_cell_row rfl _ _ gb113 24 #[.int .i64 3, .int .i64 0, .string (⟨#[]⟩ : ByteArray)] (0, 0) _ rfl (by (with_reducible repeat (first | refine blk_drewN ?_ _ | refine blk_drew ?_ | refine blk_alloc ?_ _)); refine blk_put (cs := #[.int .i64 3, .int .i64 0, .string (⟨#[]⟩ : ByteArray)]) ?_ 2 _ rfl; (with_reducible repeat (first | refine blk_drewN ?_ _ | refine blk_drew ?_ | refine blk_alloc ?_ _)); refine blk_put (cs := #[.int .i64 3, .int .i64 0, .string (⟨#[]⟩ : ByteArray)]) ?_ 1 _ rfl; (with_reducible repeat (first | refine blk_drewN ?_ _ | refine blk_drew ?_ | refine blk_alloc ?_ _)); refine blk_put (cs := #[.int .i64 0, .int .i64 0, .string (⟨#[]⟩ : ByteArray)]) ?_ 0 _ rfl; (with_reducible repeat (first | refine blk_drewN ?_ _ | refine blk_drew ?_ | refine blk_alloc ?_ _)); exact BK113.out) Tryd.underlying24 rfl (by kernel_rfl)) rfl ?_
             exact ⟨by first | rfl | (simp [errW_none, errW_some] <;> rfl) | (simp [*, errW_none, errW_some] <;> rfl), by repeat (first | (with_reducible first | exact HB.out | apply below_alloc | apply pw_below_drewN | apply below_drew1 | refine below_set ?_ GE113.out) | exact HB.out)⟩
            ·rw [if_neg c27] at H
             have c27b0 : ((l0.length : Int) == 1) = false := by simpa using c27
             (try (have c27b1 : decide ((l0.length : Int) = 1) = false := by simpa using c27))
             (try (have c27b2 : ((l0.length : Int) == 1) = false := by simpa using c27))
             (try (have c27b3 : ¬ ((l0.length : Int) = 1) := by simpa using c27))
             clear c27
             replace H := Option.bind_eq_some_iff.mp H
             obtain ⟨⟨t124, t125, t126⟩, A290, H⟩ := H
             replace H : (some (t124, t125, t126)) = some (r1, r2, r3) := H
             have A29 := Aside0.mk A290
             clear A290
             simp only [Option.some.injEq, Prod.mk.injEq] at H
             obtain ⟨rfl, rfl, rfl⟩ := H
             go_wp2_with (first | ((with_reducible refine gate_callee (f := 110) rfl ?_); refine goesL_ (some 49) rfl rfl Tryd.func110 (by kernel_rfl) rfl #[.slice (some ad117) l0.length c0] rfl am ?_; (with_reducible refine (order_unknown.calls _ _ l0 t124 t125 t126 _ ?side1 ?side2 A29.out).mono ?_); (case side1 => repeat (first | exact (Kd.C_below HR0.out HB.out) | (with_reducible refine Kd.C_alloc ?_ _) | (with_reducible refine Kd.C_drewN ?_ _) | (with_reducible refine Kd.C_drew ?_))); (case side2 => exact HC0.out); rintro e w30 ⟨rfl, hb⟩; refine ⟨_, rfl, ?_⟩; have n0_ := Aside0.mk (blk_below (g := gb113) (o := .cells #[.int .i64 0, .int .i64 0, .string (⟨#[]⟩ : ByteArray)] 24 (0, 0)) bk hb); have n1_ := Aside0.mk (below_step bwS hb); clear BK113; clear HB; have BK113 := n0_; have HB := n1_; clear n0_ n1_; (try clear hb); (try clear hb2); (try clear hk); (try clear hi); have hcz31_0 : w30.cell? ⟨gb113, 0, none⟩ = some (.int .i64 0) := (blk_cell BK113.out 0).trans rfl; have hcz31_1 : w30.cell? ⟨gb113, 1, none⟩ = some (.int .i64 0) := (blk_cell BK113.out 1).trans rfl; have hcz31_2 : w30.cell? ⟨gb113, 2, none⟩ = some (.string (⟨#[]⟩ : ByteArray)) := (blk_cell BK113.out 2).trans rfl; have hfz31_0 := blk_frozen BK113.out 0; have hfz31_1 := blk_frozen BK113.out 1; have hfz31_2 := blk_frozen BK113.out 2))
             refine bodyPost_ret (results_cell_row rfl _ _ gb113 24 #[.int .i64 t124, .int .i64 t125, .string t126] (0, 0) _ rfl (by (with_reducible repeat (first | refine blk_drewN ?_ _ | refine blk_drew ?_ | refine blk_alloc ?_ _)); refine blk_put (cs := #[.int .i64 t124, .int .i64 t125, .string (⟨#[]⟩ : ByteArray)]) ?_ 2 _ rfl; (with_reducible repeat (first | refine blk_drewN ?_ _ | refine blk_drew ?_ | refine blk_alloc ?_ _)); refine blk_put (cs := #[.int .i64 t124, .int .i64 0, .string (⟨#[]⟩ : ByteArray)]) ?_ 1 _ rfl; (with_reducible repeat (first | refine blk_drewN ?_ _ | refine blk_drew ?_ | refine blk_alloc ?_ _)); refine blk_put (cs := #[.int .i64 0, .int .i64 0, .string (⟨#[]⟩ : ByteArray)]) ?_ 0 _ rfl; (with_reducible repeat (first | refine blk_drewN ?_ _ | refine blk_drew ?_ | refine blk_alloc ?_ _)); exact BK113.out) Tryd.underlying24 rfl (by kernel_rfl)) rfl ?_
             exact ⟨by first | rfl | (simp [errW_none, errW_some] <;> rfl) | (simp [*, errW_none, errW_some] <;> rfl), by repeat (first | (with_reducible first | exact HB.out | apply below_alloc | apply pw_below_drewN | apply below_drew1 | refine below_set ?_ GE113.out) | exact HB.out)⟩
           ·replace c26 := Bool.eq_false_iff.mpr c26
            subst c26
            have H1 : (if (rdOf ByteArray.empty l0 0).toList = ([115, 101, 116] : List UInt8) then (if (l0.length : Int) = 2 then (if 1 < (l0.length : Int) then ((roster_Mode.f kj22 (rdOf ByteArray.empty l0 1)).bind fun t128 => (order_command.j3 kj22 l0 (t128 != 0))) else (none)) else (order_command.j3 kj22 l0 false)) else ((order_unknown.f l0).bind fun bt134 => (some (bt134.1, bt134.2.1, bt134.2.2)))) = some (r1, r2, r3) := by rw [if_neg (show ¬ (false = true) by decide)] at H; exact H
            clear H
            have H := H1
            clear H1
            by_cases c32 : (rdOf ByteArray.empty l0 0).toList = ([115, 101, 116] : List UInt8)
            ·rw [if_pos c32] at H
             have c32b0 : ((rdOf ByteArray.empty l0 0).toList == ([115, 101, 116] : List UInt8)) = true := beq_iff_eq.mpr c32
             have c32b1 : ((rdOf ByteArray.empty l0 0).toList != ([115, 101, 116] : List UInt8)) = false := bne_eq_false_iff_eq.mpr c32
             clear c32
             have HC33 := Aside0.mk H
             clear H
             go_upto_region 18 with (fail)
             go_cut [42] (fun v42 wc => ∃ (kq : Nat) (x42_32 : Bool), v42 = .bool x42_32 ∧ Aside0 (order_command.j3 kq l0 x42_32 = some (r1, r2, r3)) ∧ Aside0 (kq ≤ kj22) ∧ Aside0 (wc.heap[gb113]? = some (.cells #[.int .i64 0, .int .i64 0, .string (⟨#[]⟩ : ByteArray)] 24 (0, 0))) ∧ Aside0 (Below w.heap.size w wc))
             case first =>
              have H := HC33.out
              clear HC33
              by_cases c34 : (l0.length : Int) = 2
              ·rw [if_pos c34] at H
               have c34b0 : ((l0.length : Int) == 2) = true := beq_iff_eq.mpr c34
               have c34b1 : ((l0.length : Int) != 2) = false := bne_eq_false_iff_eq.mpr c34
               clear c34
               (first | rw [c34b0] | (simp only [i64_w, i32_w]; rw [c34b0]) | skip)
               by_cases c35 : 1 < (l0.length : Int)
               ·rw [if_pos c35] at H
                have c35b0 : decide (1 < (l0.length : Int)) = true := decide_eq_true c35
                have c35b1 : decide (1 < l0.length) = true := decide_eq_true (by omega)
                clear c35
                replace H := Option.bind_eq_some_iff.mp H
                obtain ⟨t128, A360, H⟩ := H
                replace H : (order_command.j3 kj22 l0 (t128 != 0)) = some (r1, r2, r3) := H
                have A36 := Aside0.mk A360
                clear A360
                have H' := Aside0.mk H
                clear H
                have p127 : 0 ≤ (1 : Int) := (by omega)
                have q127 : 1 < (l0.length : Int) := od
                obtain ⟨ad127, e127, hx127_0⟩ := Kd.at_string HR0.out 1 p127 q127
                obtain rfl : ad117 = ad127 := (by injection e127)
                (try simp only [show (1 : Int).toNat = 1 from rfl, Nat.reduceMul, Nat.reduceEqDiff, Go.Addr.add, ↓reduceIte] at hx127_0)
                have qi127 : (1 < l0.length) = True := eq_true (by omega)
                (try rw [show ((1 : Int)).toNat = 1 from rfl] at hx127_0)
                replace hx127_0 := (HB.out.cell (World.block_lt_of_cell? w _ hx127_0)).trans hx127_0
                replace p127 := eq_true p127
                replace q127 := eq_true q127
                go_wp2_with (first | (go_at_call 112; (with_reducible refine (roster_Mode.calls kj22 (rdOf ByteArray.empty l0 1) t128 _ A36.out).mono ?_); rintro e w' ⟨rfl, ⟨nd, rfl⟩⟩))
                go_meet
                case rel => exact ⟨_, ((t128 != 0)), cl, H', ⟨by have := HJ7.out; have := HJ16.out; have := HJ22.out; first | omega | exact Nat.le_refl _⟩, ⟨by (with_reducible repeat (first | refine blk_drewN ?_ _ | refine blk_drew ?_ | refine blk_alloc ?_ _)); exact BK113.out⟩, ⟨by repeat (first | (with_reducible first | exact HB.out | apply below_alloc | apply pw_below_drewN | apply below_drew1 | refine below_set ?_ GE113.out) | exact HB.out)⟩⟩
               ·rw [if_neg c35] at H
                exact absurd H (by simp)
              ·rw [if_neg c34] at H
               have c34b0 : ((l0.length : Int) == 2) = false := beq_eq_false_iff_ne.mpr c34
               have c34b1 : ((l0.length : Int) != 2) = true := bne_iff_ne.mpr c34
               (first | rw [c34b0] | (simp only [i64_w, i32_w]; rw [c34b0]) | skip)
               have H' := Aside0.mk H
               clear H
               go_wp2
               go_meet
               case rel => exact ⟨_, (false), cl, H', ⟨by have := HJ7.out; have := HJ16.out; have := HJ22.out; first | omega | exact Nat.le_refl _⟩, ⟨by (with_reducible repeat (first | refine blk_drewN ?_ _ | refine blk_drew ?_ | refine blk_alloc ?_ _)); exact BK113.out⟩, ⟨by repeat (first | (with_reducible first | exact HB.out | apply below_alloc | apply pw_below_drewN | apply below_drew1 | refine below_set ?_ GE113.out) | exact HB.out)⟩⟩
             case rest =>
              clear HC33
              try clear c1
              try clear p1
              try clear q1
              try clear hx1
              try clear qi1
              try clear c2
              try clear c2b0
              try clear c2b1
              try clear c2b2
              try clear p2
              try clear c3
              try clear c6
              try clear c7
              try clear c7b0
              try clear c7b1
              try clear c10
              try clear c10b0
              try clear c10b1
              try clear c11
              try clear p11
              try clear q11
              try clear hx11
              try clear qi11
              try clear c12
              try clear c12b0
              try clear c12b1
              try clear c12b2
              try clear p12
              try clear q12
              try clear hx12
              try clear qi12
              try clear c18
              try clear c18b0
              try clear c18b1
              try clear c19
              try clear c24
              try clear c24b0
              try clear c24b1
              try clear c25
              try clear c25b0
              try clear c25b1
              try clear c26
              try clear c27
              try clear c27b0
              try clear c27b1
              try clear c27b2
              try clear c32
              try clear c32b0
              try clear c32b1
              try clear c34
              try clear c34b0
              try clear c34b1
              try clear c35
              try clear c35b0
              try clear c35b1
              try clear hcz13_0
              try clear hcz13_1
              try clear hcz13_2
              try clear hcz16_0
              try clear hcz16_1
              try clear hcz16_2
              try clear hcz22_0
              try clear hcz22_1
              try clear hcz22_2
              try clear hcz28_0
              try clear hcz28_1
              try clear hcz28_2
              try clear hcz31_0
              try clear hcz31_1
              try clear hcz31_2
              try clear hcz6_0
              try clear hcz6_1
              try clear hcz6_2
              try clear hfz13_0
              try clear hfz13_1
              try clear hfz13_2
              try clear hfz16_0
              try clear hfz16_1
              try clear hfz16_2
              try clear hfz22_0
              try clear hfz22_1
              try clear hfz22_2
              try clear hfz28_0
              try clear hfz28_1
              try clear hfz28_2
              try clear hfz31_0
              try clear hfz31_1
              try clear hfz31_2
              try clear hfz6_0
              try clear hfz6_1
              try clear hfz6_2
              try clear hx117_0
              try clear hx127_0
              try clear p1
              try clear p11
              try clear p117
              try clear p127
              try clear p2
              try clear q1
              try clear q11
              try clear q117
              try clear q127
              obtain ⟨kq, x42_32, rfl, HA, HJ32, BK113, HB⟩ := hcut
              cases kq with
              | zero => exact absurd HA.out (by simp [order_command.j3])
              | succ kj32 =>
               have H := HA.out
               clear HA
               simp only [order_command.j3] at H
               by_cases c37 : x42_32 = true
               ·subst c37
                have H1 : (if 1 < (l0.length : Int) then ((roster_Mode.f kj32 (rdOf ByteArray.empty l0 1)).bind fun t130 => (some (4, t130, (⟨#[]⟩ : ByteArray)))) else (none)) = some (r1, r2, r3) := by rw [if_pos rfl] at H; exact H
                clear H
                have H := H1
                clear H1
                by_cases c38 : 1 < (l0.length : Int)
                ·rw [if_pos c38] at H
                 have c38b0 : decide (1 < (l0.length : Int)) = true := decide_eq_true c38
                 have c38b1 : decide (1 < l0.length) = true := decide_eq_true (by omega)
                 clear c38
                 replace H := Option.bind_eq_some_iff.mp H
                 obtain ⟨t130, A390, H⟩ := H
                 replace H : (some (4, t130, (⟨#[]⟩ : ByteArray))) = some (r1, r2, r3) := H
                 have A39 := Aside0.mk A390
                 clear A390
                 simp only [Option.some.injEq, Prod.mk.injEq] at H
                 obtain ⟨rfl, rfl, rfl⟩ := H
                 have p129 : 0 ≤ (1 : Int) := (by omega)
                 have q129 : 1 < (l0.length : Int) := od
                 obtain ⟨ad129, e129, hx129_0⟩ := Kd.at_string HR0.out 1 p129 q129
                 obtain rfl : ad117 = ad129 := (by injection e129)
                 (try simp only [show (1 : Int).toNat = 1 from rfl, Nat.reduceMul, Nat.reduceEqDiff, Go.Addr.add, ↓reduceIte] at hx129_0)
                 have qi129 : (1 < l0.length) = True := eq_true (by omega)
                 (try rw [show ((1 : Int)).toNat = 1 from rfl] at hx129_0)
                 replace hx129_0 := (HB.out.cell (World.block_lt_of_cell? w _ hx129_0)).trans hx129_0
                 replace p129 := eq_true p129
                 replace q129 := eq_true q129
                 go_wp2_with (first | ((with_reducible refine gate_callee (f := 112) rfl ?_); refine goesL_ (some 46) rfl rfl Tryd.func112 (by kernel_rfl) rfl #[.string (rdOf ByteArray.empty l0 1)] rfl am ?_; (with_reducible refine (roster_Mode.calls kj32 (rdOf ByteArray.empty l0 1) t130 _ A39.out).mono ?_); rintro e w' ⟨rfl, ⟨nd, rfl⟩⟩; refine ⟨_, rfl, ?_⟩; (try (rw [drewN_self wc]; generalize hq_ : World.drewN wc _ = wc; have n0_ : Aside0 (wc.heap[gb113]? = some (.cells #[.int .i64 0, .int .i64 0, .string (⟨#[]⟩ : ByteArray)] 24 (0, 0))) := ⟨by rw [← hq_]; exact bk⟩; have n1_ : Aside0 (Below w.heap.size w wc) := ⟨by rw [← hq_]; exact bwS⟩; clear BK113 HB hq_; have BK113 := n0_; have HB := n1_; clear n0_ n1_)); have hcz40_0 : wc.cell? ⟨gb113, 0, none⟩ = some (.int .i64 0) := (blk_cell BK113.out 0).trans rfl; have hcz40_1 : wc.cell? ⟨gb113, 1, none⟩ = some (.int .i64 0) := (blk_cell BK113.out 1).trans rfl; have hcz40_2 : wc.cell? ⟨gb113, 2, none⟩ = some (.string (⟨#[]⟩ : ByteArray)) := (blk_cell BK113.out 2).trans rfl; have hfz40_0 := blk_frozen BK113.out 0; have hfz40_1 := blk_frozen BK113.out 1; have hfz40_2 := blk_frozen BK113.out 2))
                 refine bodyPost_ret (results_cell_row rfl _ _ gb113 24 #[.int .i64 4, .int .i64 t130, .string (⟨#[]⟩ : ByteArray)] (0, 0) _ rfl (by (with_reducible repeat (first | refine blk_drewN ?_ _ | refine blk_drew ?_ | refine blk_alloc ?_ _)); refine blk_put (cs := #[.int .i64 4, .int .i64 t130, .string (⟨#[]⟩ : ByteArray)]) ?_ 2 _ rfl; (with_reducible repeat (first | refine blk_drewN ?_ _ | refine blk_drew ?_ | refine blk_alloc ?_ _)); refine blk_put (cs := #[.int .i64 4, .int .i64 0, .string (⟨#[]⟩ : ByteArray)]) ?_ 1 _ rfl; (with_reducible repeat (first | refine blk_drewN ?_ _ | refine blk_drew ?_ | refine blk_alloc ?_ _)); refine blk_put (cs := #[.int .i64 0, .int .i64 0, .string (⟨#[]⟩ : ByteArray)]) ?_ 0 _ rfl; (with_reducible repeat (first | refine blk_drewN ?_ _ | refine blk_drew ?_ | refine blk_alloc ?_ _)); exact BK113.out) Tryd.underlying24 rfl (by kernel_rfl)) rfl ?_
                 exact ⟨by first | rfl | (simp [errW_none, errW_some] <;> rfl) | (simp [*, errW_none, errW_some] <;> rfl), by repeat (first | (with_reducible first | exact HB.out | apply below_alloc | apply pw_below_drewN | apply below_drew1 | refine below_set ?_ GE113.out) | exact HB.out)⟩
                ·rw [if_neg c38] at H
                 exact absurd H (by simp)
               ·replace c37 := Bool.eq_false_iff.mpr c37
                subst c37
                have H1 : ((order_unknown.f l0).bind fun bt131 => (some (bt131.1, bt131.2.1, bt131.2.2))) = some (r1, r2, r3) := by rw [if_neg (show ¬ (false = true) by decide)] at H; exact H
                clear H
                have H := H1
                clear H1
                replace H := Option.bind_eq_some_iff.mp H
                obtain ⟨⟨t131, t132, t133⟩, A410, H⟩ := H
                replace H : (some (t131, t132, t133)) = some (r1, r2, r3) := H
                have A41 := Aside0.mk A410
                clear A410
                simp only [Option.some.injEq, Prod.mk.injEq] at H
                obtain ⟨rfl, rfl, rfl⟩ := H
                go_wp2_with (first | ((with_reducible refine gate_callee (f := 110) rfl ?_); refine goesL_ (some 49) rfl rfl Tryd.func110 (by kernel_rfl) rfl #[.slice (some ad117) l0.length c0] rfl am ?_; (with_reducible refine (order_unknown.calls _ _ l0 t131 t132 t133 _ ?side1 ?side2 A41.out).mono ?_); (case side1 => repeat (first | exact (Kd.C_below HR0.out HB.out) | (with_reducible refine Kd.C_alloc ?_ _) | (with_reducible refine Kd.C_drewN ?_ _) | (with_reducible refine Kd.C_drew ?_))); (case side2 => exact HC0.out); rintro e w42 ⟨rfl, hb⟩; refine ⟨_, rfl, ?_⟩; have n0_ := Aside0.mk (blk_below (g := gb113) (o := .cells #[.int .i64 0, .int .i64 0, .string (⟨#[]⟩ : ByteArray)] 24 (0, 0)) bk hb); have n1_ := Aside0.mk (below_step bwS hb); clear BK113; clear HB; have BK113 := n0_; have HB := n1_; clear n0_ n1_; (try clear hb); (try clear hb2); (try clear hk); (try clear hi); have hcz43_0 : w42.cell? ⟨gb113, 0, none⟩ = some (.int .i64 0) := (blk_cell BK113.out 0).trans rfl; have hcz43_1 : w42.cell? ⟨gb113, 1, none⟩ = some (.int .i64 0) := (blk_cell BK113.out 1).trans rfl; have hcz43_2 : w42.cell? ⟨gb113, 2, none⟩ = some (.string (⟨#[]⟩ : ByteArray)) := (blk_cell BK113.out 2).trans rfl; have hfz43_0 := blk_frozen BK113.out 0; have hfz43_1 := blk_frozen BK113.out 1; have hfz43_2 := blk_frozen BK113.out 2))
                refine bodyPost_ret (results_cell_row rfl _ _ gb113 24 #[.int .i64 t131, .int .i64 t132, .string t133] (0, 0) _ rfl (by (with_reducible repeat (first | refine blk_drewN ?_ _ | refine blk_drew ?_ | refine blk_alloc ?_ _)); refine blk_put (cs := #[.int .i64 t131, .int .i64 t132, .string (⟨#[]⟩ : ByteArray)]) ?_ 2 _ rfl; (with_reducible repeat (first | refine blk_drewN ?_ _ | refine blk_drew ?_ | refine blk_alloc ?_ _)); refine blk_put (cs := #[.int .i64 t131, .int .i64 0, .string (⟨#[]⟩ : ByteArray)]) ?_ 1 _ rfl; (with_reducible repeat (first | refine blk_drewN ?_ _ | refine blk_drew ?_ | refine blk_alloc ?_ _)); refine blk_put (cs := #[.int .i64 0, .int .i64 0, .string (⟨#[]⟩ : ByteArray)]) ?_ 0 _ rfl; (with_reducible repeat (first | refine blk_drewN ?_ _ | refine blk_drew ?_ | refine blk_alloc ?_ _)); exact BK113.out) Tryd.underlying24 rfl (by kernel_rfl)) rfl ?_
                exact ⟨by first | rfl | (simp [errW_none, errW_some] <;> rfl) | (simp [*, errW_none, errW_some] <;> rfl), by repeat (first | (with_reducible first | exact HB.out | apply below_alloc | apply pw_below_drewN | apply below_drew1 | refine below_set ?_ GE113.out) | exact HB.out)⟩
            ·rw [if_neg c32] at H
             have c32b0 : ((rdOf ByteArray.empty l0 0).toList == ([115, 101, 116] : List UInt8)) = false := beq_eq_false_iff_ne.mpr c32
             have c32b1 : ((rdOf ByteArray.empty l0 0).toList != ([115, 101, 116] : List UInt8)) = true := bne_iff_ne.mpr c32
             replace H := Option.bind_eq_some_iff.mp H
             obtain ⟨⟨t134, t135, t136⟩, A440, H⟩ := H
             replace H : (some (t134, t135, t136)) = some (r1, r2, r3) := H
             have A44 := Aside0.mk A440
             clear A440
             simp only [Option.some.injEq, Prod.mk.injEq] at H
             obtain ⟨rfl, rfl, rfl⟩ := H
             go_wp2_with (first | ((with_reducible refine gate_callee (f := 110) rfl ?_); refine goesL_ (some 49) rfl rfl Tryd.func110 (by kernel_rfl) rfl #[.slice (some ad117) l0.length c0] rfl am ?_; (with_reducible refine (order_unknown.calls _ _ l0 t134 t135 t136 _ ?side1 ?side2 A44.out).mono ?_); (case side1 => repeat (first | exact (Kd.C_below HR0.out HB.out) | (with_reducible refine Kd.C_alloc ?_ _) | (with_reducible refine Kd.C_drewN ?_ _) | (with_reducible refine Kd.C_drew ?_))); (case side2 => exact HC0.out); rintro e w45 ⟨rfl, hb⟩; refine ⟨_, rfl, ?_⟩; have n0_ := Aside0.mk (blk_below (g := gb113) (o := .cells #[.int .i64 0, .int .i64 0, .string (⟨#[]⟩ : ByteArray)] 24 (0, 0)) bk hb); have n1_ := Aside0.mk (below_step bwS hb); clear BK113; clear HB; have BK113 := n0_; have HB := n1_; clear n0_ n1_; (try clear hb); (try clear hb2); (try clear hk); (try clear hi); have hcz46_0 : w45.cell? ⟨gb113, 0, none⟩ = some (.int .i64 0) := (blk_cell BK113.out 0).trans rfl; have hcz46_1 : w45.cell? ⟨gb113, 1, none⟩ = some (.int .i64 0) := (blk_cell BK113.out 1).trans rfl; have hcz46_2 : w45.cell? ⟨gb113, 2, none⟩ = some (.string (⟨#[]⟩ : ByteArray)) := (blk_cell BK113.out 2).trans rfl; have hfz46_0 := blk_frozen BK113.out 0; have hfz46_1 := blk_frozen BK113.out 1; have hfz46_2 := blk_frozen BK113.out 2))
             refine bodyPost_ret (results_cell_row rfl _ _ gb113 24 #[.int .i64 t134, .int .i64 t135, .string t136] (0, 0) _ rfl (by (with_reducible repeat (first | refine blk_drewN ?_ _ | refine blk_drew ?_ | refine blk_alloc ?_ _)); refine blk_put (cs := #[.int .i64 t134, .int .i64 t135, .string (⟨#[]⟩ : ByteArray)]) ?_ 2 _ rfl; (with_reducible repeat (first | refine blk_drewN ?_ _ | refine blk_drew ?_ | refine blk_alloc ?_ _)); refine blk_put (cs := #[.int .i64 t134, .int .i64 0, .string (⟨#[]⟩ : ByteArray)]) ?_ 1 _ rfl; (with_reducible repeat (first | refine blk_drewN ?_ _ | refine blk_drew ?_ | refine blk_alloc ?_ _)); refine blk_put (cs := #[.int .i64 0, .int .i64 0, .string (⟨#[]⟩ : ByteArray)]) ?_ 0 _ rfl; (with_reducible repeat (first | refine blk_drewN ?_ _ | refine blk_drew ?_ | refine blk_alloc ?_ _)); exact BK113.out) Tryd.underlying24 rfl (by kernel_rfl)) rfl ?_
             exact ⟨by first | rfl | (simp [errW_none, errW_some] <;> rfl) | (simp [*, errW_none, errW_some] <;> rfl), by repeat (first | (with_reducible first | exact HB.out | apply below_alloc | apply pw_below_drewN | apply below_drew1 | refine below_set ?_ GE113.out) | exact HB.out)⟩
  ·rw [if_neg c7] at H
   exact absurd H (by simp)

end Go.Proofs.YtlomcmdbbnbciaaDoor.Fn
set_option linter.unusedVariables false
namespace Go.Proofs.YtlomcmdbbnbciaaDoor.Fn
open Go.RowKit

set_option maxHeartbeats 4000000 in
set_option maxRecDepth 100000 in
theorem bd_rune (B b : Nat) (bs : List Value) (r : Int) (hr0 : -2147483648 ≤ r) (hr1 : r ≤ 2147483647) (w : World) (h : isBd B b bs w) (hlen : bs.length + 4 ≤ 140737488355328) (hBw : B ≤ w.heap.size) :
    Calls Tryd.prog 143 #[.pointer (some ⟨b, 0, none⟩), .int .i32 r] w fun e w' => e = .returned (.tuple #[.int .i64 (Lib.runeCells r).length, .nilIface]) ∧ bdAt B b (bs ++ Lib.runeCells r) w' ∧ Below B w w' ∧ kept b w w' := by
  have hk4 := Lib.runeCells_le r
  go_enter Tryd.func143, Tryd.ntmps143
  go_wp2_with (go_at_call 115; refine (bd_check B b bs _ h).mono ?_)
  rintro e w1 ⟨rfl, h1, hb1, hk1⟩
  obtain ⟨hB, v, hbk, hown, hne⟩ := h1
  obtain ⟨ao, cap, rfl⟩ : ∃ ao cap, v = .slice ao bs.length cap := by
    rcases hown.2 with ⟨hv, h0⟩ | ⟨g, cap, cur, fz, hv, _⟩
    · exact ⟨none, 0, by rw [hv, h0]⟩
    · exact ⟨_, _, hv⟩
  have c0 : w1.cell? ⟨b, 0, none⟩ = some (.pointer (some ⟨b, 0, none⟩)) := by rw [Lib.cell_of_heap hbk]; rfl
  have c1 : w1.cell? ⟨b, 1, none⟩ = some (.slice ao bs.length cap) := by rw [Lib.cell_of_heap hbk]; rfl
  go_wp2_with (go_at_call 169; refine (Tryd.utf8_AppendRune_row B _ bs.length bs r hr0 hr1 _ hown hlen (by have := hb1.size; omega)).mono ?_)
  rintro e w2 ⟨v', rfl, hown', o, hgrow⟩
  have hlt : b < w1.heap.size := by
    rcases Nat.lt_or_ge b w1.heap.size with h' | h'
    · exact h'
    · simp [Array.getElem?_eq_none h'] at hbk
  have hb2 : w2.heap[b]? = some (.cells #[.pointer (some ⟨b, 0, none⟩), .slice ao bs.length cap] 102 (0, 0)) := by
    rw [hgrow.block b (by simp; omega) (fun e => hne e.symm), Lib.alloc_old w1 _ b hlt]
    exact hbk
  have d0 : w2.cell? ⟨b, 0, none⟩ = some (.pointer (some ⟨b, 0, none⟩)) := by rw [Lib.cell_of_heap hb2]; rfl
  have d1 : w2.cell? ⟨b, 1, none⟩ = some (.slice ao bs.length cap) := by rw [Lib.cell_of_heap hb2]; rfl
  have f1 : w2.frozen? ⟨b, 1, none⟩ = false := Lib.frozen_of_heap hb2 1
  obtain ⟨g, cap', rfl⟩ : ∃ g cap', v' = .slice (some ⟨g, 0, none⟩) (bs.length + (Lib.runeCells r).length) cap' := by
    rcases hown'.2 with ⟨_, h0⟩ | ⟨g, cap', cur, fz, hv, _⟩
    · omega
    · exact ⟨g, cap', hv⟩
  go_wp2
  go_ret2
  refine ⟨?_, ?_, ?_, ((hk1.alloc _).grown hgrow (Lib.ownsRowF_kind (hown.alloc _))).setCell ⟨b, 1, none⟩ rfl _⟩
  · have e : ((bs.length : Int) + ((Lib.runeCells r).length : Int) - (bs.length : Int)) = ((Lib.runeCells r).length : Int) := by omega
    simp [e]
  · exact Lib.BuilderAtF.put (T := 102) (e := 5) hB hb2 (bs' := bs ++ Lib.runeCells r) (by simpa using hown') (by decide)
  · exact ((hb1.alloc (by have := hb1.size; omega) _).grown hgrow (by have := hb1.size; simp; omega) (fun k hk => (hown.lt k hk).1)).setCell (p := ⟨b, 1, none⟩) hB _
end Go.Proofs.YtlomcmdbbnbciaaDoor.Fn
-- written by xprint.py of this session over the kit's printer; not trusted: Lean checks it
namespace Go.Proofs.YtlomcmdbbnbciaaDoor.Fn
open Go.RowKit Go.Proofs.YtlomcmdbbnbciaaDoorW.PrintWords Go.Proofs.YtlomcmdbbnbciaaDoorW.PrintLast Go.Proofs.YtlomcmdbbnbciaaDoorW.PrintMore
attribute [local go_sem] max2_int min2_int max_two min_two max_three min_three max_four min_four   -- for this text's walks alone
set_option linter.unusedVariables false
set_option linter.unusedSimpArgs false

/-! ### glyph_control: function 142 -/
def glyph_control.f (a0 : Int) : Option (Bool) := if a0 < 32 then (some true) else (if a0 ≥ 127 then (some (decide (a0 ≤ 159))) else (some false))
set_option maxHeartbeats 8000000 in
set_option maxRecDepth 100000 in
theorem glyph_control.calls (a0 : Int) (r : Bool) (w : World) (h : glyph_control.f a0 = some r) :
  Calls Tryd.prog 142 #[.int .i32 a0] w fun e w' => e = .returned (.bool r) ∧ Drawn0 w w' := by
 have H : (if a0 < 32 then (some true) else (if a0 ≥ 127 then (some (decide (a0 ≤ 159))) else (some false))) = some r := h
 clear h
 by_cases c2 : a0 < 32
 ·rw [if_pos c2] at H
  have c2b0 : decide (a0 < 32) = true := decide_eq_true c2
  clear c2
  obtain rfl := Option.some.inj H
  go_enter Tryd.func142, Tryd.ntmps142
  go_wp2
  go_ret
  exact ⟨by first | rfl | (simp; done) | (simp [*]; done) | (simp [nil_ne]; done), by repeat (first | exact Drawn0.refl _ | apply Drawn0.step)⟩
 ·rw [if_neg c2] at H
  have c2b0 : decide (a0 < 32) = false := decide_eq_false c2
  clear c2
  by_cases c3 : a0 ≥ 127
  ·rw [if_pos c3] at H
   have c3b0 : decide (127 ≤ a0) = true := decide_eq_true c3
   clear c3
   obtain rfl := Option.some.inj H
   go_enter Tryd.func142, Tryd.ntmps142
   go_wp2
   go_ret
   exact ⟨by first | rfl | (simp; done) | (simp [*]; done) | (simp [nil_ne]; done), by repeat (first | exact Drawn0.refl _ | apply Drawn0.step)⟩
  ·rw [if_neg c3] at H
   have c3b0 : decide (127 ≤ a0) = false := decide_eq_false c3
   clear c3
   obtain rfl := Option.some.inj H
   go_enter Tryd.func142, Tryd.ntmps142
   go_wp2
   go_ret
   exact ⟨by first | rfl | (simp; done) | (simp [*]; done) | (simp [nil_ne]; done), by repeat (first | exact Drawn0.refl _ | apply Drawn0.step)⟩

end Go.Proofs.YtlomcmdbbnbciaaDoor.Fn
set_option linter.unusedVariables false
namespace Go.Proofs.YtlomcmdbbnbciaaDoor.Fn
open Go.RowKit Go.Proofs.YtlomcmdbbnbciaaDoorW.PrintWords

def glyph_Clean.f (a0 : ByteArray) : Option ByteArray := if a0.size ≤ 35184372088832 then some (Pl.str (Pl.clean a0)) else none
theorem glyph_control_is (r : Nat) : glyph_control.f (r : Int) = some (Pl.control r) := by
  unfold glyph_control.f Pl.control
  by_cases h1 : (r : Int) < 32
  · rw [if_pos h1]
    simp [show r < 32 by omega]
  · rw [if_neg h1]
    by_cases h2 : (r : Int) ≥ 127
    · rw [if_pos h2]
      simp [show ¬ r < 32 by omega, show 127 ≤ r by omega]
      omega
    · rw [if_neg h2]
      simp [show ¬ r < 32 by omega, show ¬ 127 ≤ r by omega]

set_option maxHeartbeats 4000000 in
set_option maxRecDepth 100000 in
theorem glyph_Clean.calls (a0 : ByteArray) (r : ByteArray) (w : World) (h : glyph_Clean.f a0 = some r) :
    Calls Tryd.prog 114 #[.string a0] w fun e w' => e = .returned (.string r) ∧ Below w.heap.size w w' := by
  unfold glyph_Clean.f at h
  by_cases hs : a0.size ≤ 35184372088832
  · rw [if_pos hs] at h
    have HR := hid (Option.some.inj h)
    clear h
    go_enter Tryd.func114, Tryd.ntmps114
    go_wp2
    go_loopw [] (fun wr => ∃ (pos fuel : Nat) (acc : List UInt8), isBd w.heap.size w.heap.size (Lib.byteCells acc) wr ∧ wr.heap[w.heap.size + 1]? = some (.stringIter a0 pos) ∧ Below w.heap.size w wr ∧ Hid (acc ++ Pl.cleanFrom a0 fuel pos = Pl.clean a0) ∧ a0.size ≤ pos + fuel ∧ acc.length ≤ 4 * pos) (fun wr => a0.size - wr.iterPos (w.heap.size + 1))
    case atStart =>
      refine ⟨0, a0.size, [], (Lib.IsBuilderF.of (Lib.fresh_isBuilder _ _ w)).alloc _, ?_, ((Below.refl _ w).alloc (Nat.le_refl _) _).alloc (by simp) _, rfl, by omega, by simp⟩
      have := World.iter_heap (w.alloc (.cells #[.pointer none, .slice none 0 0] 102)) a0 0
      simpa using this
    case round =>
      obtain ⟨pos, fuel, acc, hI, hit, hbw, hacc, hfu, hal⟩ := hrel
      have hsz : w.heap.size + 1 < wr.heap.size := (Array.getElem?_eq_some_iff.1 hit).1
      by_cases hp : pos < a0.size
      · have hnx : ∀ ty, (Instr.next (.pointer (some ⟨w.heap.size + 1, 0, none⟩)) true ty).run Tryd.prog wr = _ := fun ty => Lib.run_next_any_at wr (w.heap.size + 1) a0 pos ty hit hp
        have hwd : 1 ≤ (Utf8.decode a0 pos).2 := Pl.width_pos a0 pos hp
        have hd1 := decode_le a0 pos
        have hI2 := hI.iterAt hit (pos + (Utf8.decode a0 pos).2)
        have hit2 := Lib.iterAt_heap wr (w.heap.size + 1) a0 pos (pos + (Utf8.decode a0 pos).2) hit
        have hbw2 := Lib.below_iterAt hbw (k := w.heap.size + 1) (by omega) a0 (pos + (Utf8.decode a0 pos).2)
        have hsz2 : w.heap.size ≤ (wr.iterAt (w.heap.size + 1) a0 (pos + (Utf8.decode a0 pos).2)).heap.size := by rw [Lib.iterAt_size]; omega
        obtain ⟨f, rfl⟩ : ∃ f, fuel = f + 1 := ⟨fuel - 1, by omega⟩
        have hct := glyph_control_is (Utf8.decode a0 pos).1
        cases hc : Pl.control (Utf8.decode a0 pos).1 with
        | true =>
          have hstep : Hid (Pl.cleanFrom a0 (f + 1) pos = [32] ++ Pl.cleanFrom a0 f (pos + (Utf8.decode a0 pos).2)) := by
            show _ = _
            simp [Pl.cleanFrom, hp, Pl.cleanR, Pl.sign, Pl.width, hc]
          rw [hc] at hct
          have HC := hid hct
          clear hct hc
          go_wp2_with (first | (go_at_call 142; refine (glyph_control.calls _ true _ HC.out).mono ?_; rintro e W0 ⟨rfl, ⟨⟨n0, rfl⟩⟩⟩) | (go_at_call 143; refine (bd_rune w.heap.size w.heap.size _ _ (by omega) (by omega) _ (by exact hI2) (by rw [Lib.byteCells_length]; omega) (by exact hsz2)).mono ?_; rintro e W1 ⟨rfl, h1, b1, k1⟩))
          go_roundw
          case rel =>
            refine ⟨pos + (Utf8.decode a0 pos).2, f, acc ++ [32], ?_, k1.iter hit2 (by omega), (pw_below_drewN hbw2 _).trans b1, ?_, by omega, by simp; omega⟩
            · rw [Lib.byteCells_append]; exact Or.inr h1
            · show _ = _
              rw [← hacc.out, hstep.out]; simp
          case measure =>
            simp only [World.iterPos, k1.iter hit2 (by omega), hit]
            omega
        | false =>
          have hstep : Hid (Pl.cleanFrom a0 (f + 1) pos = Lib.encodeRune (Utf8.decode a0 pos).1 ++ Pl.cleanFrom a0 f (pos + (Utf8.decode a0 pos).2)) := by
            show _ = _
            simp [Pl.cleanFrom, hp, Pl.cleanR, Pl.sign, Pl.width, hc]
          rw [hc] at hct
          have HC := hid hct
          clear hct hc
          go_wp2_with (first | (go_at_call 142; refine (glyph_control.calls _ false _ HC.out).mono ?_; rintro e W0 ⟨rfl, ⟨⟨n0, rfl⟩⟩⟩) | (go_at_call 143; refine (bd_rune w.heap.size w.heap.size _ _ (by omega) (by omega) _ (by exact hI2) (by rw [Lib.byteCells_length]; omega) (by exact hsz2)).mono ?_; rintro e W1 ⟨rfl, h1, b1, k1⟩))
          go_roundw
          case rel =>
            have hl4 := Lib.runeCells_le ((Utf8.decode a0 pos).1 : Int)
            rw [Lib.runeCells_length] at hl4
            refine ⟨pos + (Utf8.decode a0 pos).2, f, acc ++ Lib.encodeRune (Utf8.decode a0 pos).1, ?_, k1.iter hit2 (by omega), (pw_below_drewN hbw2 _).trans b1, ?_, by omega, by simp; omega⟩
            · rw [Lib.byteCells_append, Lib.byteCells_encodeRune]; exact Or.inr h1
            · show _ = _
              rw [← hacc.out, hstep.out]; simp
          case measure =>
            simp only [World.iterPos, k1.iter hit2 (by omega), hit]
            omega
      · have hnx : ∀ ty, (Instr.next (.pointer (some ⟨w.heap.size + 1, 0, none⟩)) true ty).run Tryd.prog wr = _ := fun ty => Lib.run_next_end_at wr (w.heap.size + 1) a0 pos ty hit hp
        have hend := hid (Pl.cleanFrom_end a0 fuel pos hp)
        go_wp2_with (go_at_call 72; refine (Tryd.Builder_String_any_k w.heap.size w.heap.size acc _ hI (by omega)).mono ?_; rintro e W1 ⟨rfl, _, b1, _⟩)
        go_ret
        refine ⟨?_, hbw.trans b1⟩
        rw [← HR.out, ← hacc.out, hend.out, List.append_nil]
        rfl
  · rw [if_neg hs] at h
    exact absurd h (by simp)
end Go.Proofs.YtlomcmdbbnbciaaDoor.Fn
set_option linter.unusedVariables false
namespace Go.Proofs.YtlomcmdbbnbciaaDoor.Fn
open Go.RowKit

def glyph_Fold.f (a0 : ByteArray) : Option ByteArray := if a0.size ≤ 35184372088832 then some (Pl.str (Pl.fold a0.data.toList)) else none

set_option maxHeartbeats 2000000 in
set_option maxRecDepth 100000 in
theorem glyph_Fold.calls (a0 : ByteArray) (r : ByteArray) (w : World) (h : glyph_Fold.f a0 = some r) :
    Calls Tryd.prog 21 #[.string a0] w fun e w' => e = .returned (.string r) ∧ Below w.heap.size w w' := by
  unfold glyph_Fold.f at h
  by_cases hs : a0.size ≤ 35184372088832
  · rw [if_pos hs] at h
    have HR := hid (Option.some.inj h)
    clear h
    go_enter Tryd.func21, Tryd.ntmps21
    go_wp2
    go_loopw [8] (fun v8 wr => ∃ k : Nat, k ≤ a0.size ∧ v8 = .int .i64 k ∧ isBd w.heap.size w.heap.size (Lib.byteCells (Pl.fold (a0.data.toList.take k))) wr ∧ Below w.heap.size w wr) (fun v8 _ => a0.size - (intOf v8).toNat)
    case atStart => exact ⟨0, Nat.zero_le _, rfl, Lib.IsBuilderF.of (Lib.fresh_isBuilder _ _ w), (Below.refl _ w).alloc (Nat.le_refl _) _⟩
    case round =>
      obtain ⟨k, hk, rfl, hI, hbw⟩ := hrel
      have hl : (Pl.fold (a0.data.toList.take k)).length ≤ k := by rw [Pl.fold_length]; exact List.length_take_le _ _
      have hBw := hbw.size
      by_cases hlt : k < a0.size
      · have hsn := hid (Pl.fold_snoc a0 k hlt)
        have hgo : ∀ c : Int, c = (Pl.foldB a0[k]).toNat → Lib.byteCells (Pl.fold (a0.data.toList.take k)) ++ [Value.int .u8 c] = Lib.byteCells (Pl.fold (a0.data.toList.take (k + 1))) := by
          rintro c rfl
          rw [hsn.out, Lib.byteCells_append]
          rfl
        have HG := hid hgo
        clear hgo
        by_cases hu : 65 ≤ (a0[k].toNat : Int) ∧ (a0[k].toNat : Int) ≤ 90
        · have hc := hid (Pl.foldB_up a0[k] hu)
          obtain ⟨hu1, hu2⟩ := hu
          go_wp2_with (go_at_call 71; refine (bd_byte w.heap.size w.heap.size _ _ _ hI (by rw [Lib.byteCells_length]; omega) hBw).mono ?_; rintro e W1 ⟨rfl, h1, b1, _⟩; rw [HG.out _ hc.out] at h1)
          go_roundw
          case rel => exact ⟨k + 1, by omega, by go_num, h1.is, hbw.trans b1⟩
          case measure => simp [intOf]; omega
        · have hc := hid (Pl.foldB_no a0[k] hu)
          by_cases hu1 : 65 ≤ (a0[k].toNat : Int)
          · have hu2 : 90 < (a0[k].toNat : Int) := by omega
            clear hu
            go_wp2_with (go_at_call 71; refine (bd_byte w.heap.size w.heap.size _ _ _ hI (by rw [Lib.byteCells_length]; omega) hBw).mono ?_; rintro e W1 ⟨rfl, h1, b1, _⟩; rw [HG.out _ hc.out] at h1)
            go_roundw
            case rel => exact ⟨k + 1, by omega, by go_num, h1.is, hbw.trans b1⟩
            case measure => simp [intOf]; omega
          · have hu2 : (a0[k].toNat : Int) < 65 := by omega
            clear hu hu1
            go_wp2_with (go_at_call 71; refine (bd_byte w.heap.size w.heap.size _ _ _ hI (by rw [Lib.byteCells_length]; omega) hBw).mono ?_; rintro e W1 ⟨rfl, h1, b1, _⟩; rw [HG.out _ hc.out] at h1)
            go_roundw
            case rel => exact ⟨k + 1, by omega, by go_num, h1.is, hbw.trans b1⟩
            case measure => simp [intOf]; omega
      · have hend := hid (show Pl.fold (a0.data.toList.take k) = Pl.fold a0.data.toList by rw [List.take_of_length_le (by rw [Pl.data_length]; omega)])
        go_wp2_with (go_at_call 72; refine (Tryd.Builder_String_any_k w.heap.size w.heap.size _ _ hI hBw).mono ?_; rintro e W1 ⟨rfl, _, b1, _⟩)
        go_ret
        exact ⟨by rw [← HR.out, ← hend.out]; rfl, hbw.trans b1⟩
  · rw [if_neg hs] at h
    exact absurd h (by simp)
end Go.Proofs.YtlomcmdbbnbciaaDoor.Fn
-- written by xprint.py of this session over the kit's printer; not trusted: Lean checks it
namespace Go.Proofs.YtlomcmdbbnbciaaDoor.Fn
open Go.RowKit Go.Proofs.YtlomcmdbbnbciaaDoorW.PrintWords Go.Proofs.YtlomcmdbbnbciaaDoorW.PrintLast Go.Proofs.YtlomcmdbbnbciaaDoorW.PrintMore
attribute [local go_sem] max2_int min2_int max_two min_two max_three min_three max_four min_four   -- for this text's walks alone
set_option linter.unusedVariables false
set_option linter.unusedSimpArgs false

/-! ### glyph_blank: function 141 -/
def glyph_blank.f (a0 : Int) : Option (Bool) := if a0 = 32 then (some true) else (if a0 = 9 then (some true) else (if a0 = 13 then (some true) else (some (a0 == 10))))
set_option maxHeartbeats 8000000 in
set_option maxRecDepth 100000 in
theorem glyph_blank.calls (a0 : Int) (r : Bool) (w : World) (h : glyph_blank.f a0 = some r) :
  Calls Tryd.prog 141 #[.int .i32 a0] w fun e w' => e = .returned (.bool r) ∧ Drawn0 w w' := by
 have H : (if a0 = 32 then (some true) else (if a0 = 9 then (some true) else (if a0 = 13 then (some true) else (some (a0 == 10))))) = some r := h
 clear h
 by_cases c2 : a0 = 32
 ·rw [if_pos c2] at H
  have c2b0 : (a0 == 32) = true := beq_iff_eq.mpr c2
  have c2b1 : (a0 != 32) = false := bne_eq_false_iff_eq.mpr c2
  clear c2
  obtain rfl := Option.some.inj H
  go_enter Tryd.func141, Tryd.ntmps141
  go_wp2
  go_ret
  exact ⟨by first | rfl | (simp; done) | (simp [*]; done) | (simp [nil_ne]; done), by repeat (first | exact Drawn0.refl _ | apply Drawn0.step)⟩
 ·rw [if_neg c2] at H
  have c2b0 : (a0 == 32) = false := beq_eq_false_iff_ne.mpr c2
  have c2b1 : (a0 != 32) = true := bne_iff_ne.mpr c2
  by_cases c3 : a0 = 9
  ·rw [if_pos c3] at H
   have c3b0 : (a0 == 9) = true := beq_iff_eq.mpr c3
   have c3b1 : (a0 != 9) = false := bne_eq_false_iff_eq.mpr c3
   clear c3
   obtain rfl := Option.some.inj H
   go_enter Tryd.func141, Tryd.ntmps141
   go_wp2
   go_ret
   exact ⟨by first | rfl | (simp; done) | (simp [*]; done) | (simp [nil_ne]; done), by repeat (first | exact Drawn0.refl _ | apply Drawn0.step)⟩
  ·rw [if_neg c3] at H
   have c3b0 : (a0 == 9) = false := beq_eq_false_iff_ne.mpr c3
   have c3b1 : (a0 != 9) = true := bne_iff_ne.mpr c3
   by_cases c4 : a0 = 13
   ·rw [if_pos c4] at H
    have c4b0 : (a0 == 13) = true := beq_iff_eq.mpr c4
    have c4b1 : (a0 != 13) = false := bne_eq_false_iff_eq.mpr c4
    clear c4
    obtain rfl := Option.some.inj H
    go_enter Tryd.func141, Tryd.ntmps141
    go_wp2
    go_ret
    exact ⟨by first | rfl | (simp; done) | (simp [*]; done) | (simp [nil_ne]; done), by repeat (first | exact Drawn0.refl _ | apply Drawn0.step)⟩
   ·rw [if_neg c4] at H
    have c4b0 : (a0 == 13) = false := beq_eq_false_iff_ne.mpr c4
    have c4b1 : (a0 != 13) = true := bne_iff_ne.mpr c4
    obtain rfl := Option.some.inj H
    go_enter Tryd.func141, Tryd.ntmps141
    go_wp2
    go_ret
    exact ⟨by first | rfl | (simp; done) | (simp [*]; done) | (simp [nil_ne]; done), by repeat (first | exact Drawn0.refl _ | apply Drawn0.step)⟩

end Go.Proofs.YtlomcmdbbnbciaaDoor.Fn
set_option linter.unusedVariables false
namespace Go.Proofs.YtlomcmdbbnbciaaDoor.Fn
open Go.RowKit Go.Proofs.YtlomcmdbbnbciaaDoorW.PrintWords

def glyph_Words.f (a0 : ByteArray) : Option (List ByteArray) := if a0.size ≤ 4294967296 then some (Pl.words a0) else none
theorem glyph_blank_is (r : Nat) : glyph_blank.f (r : Int) = some (Pl.blank r) := by
  unfold glyph_blank.f Pl.blank
  have e1 : ((r : Int) = 32) = (r = 32) := propext ⟨fun h => by omega, fun h => by omega⟩
  have e2 : ((r : Int) = 9) = (r = 9) := propext ⟨fun h => by omega, fun h => by omega⟩
  have e3 : ((r : Int) = 13) = (r = 13) := propext ⟨fun h => by omega, fun h => by omega⟩
  have e4 : ((r : Int) == 10) = (r == 10) := by
    rw [Bool.eq_iff_iff, beq_iff_eq, beq_iff_eq]
    omega
  simp only [e1, e2, e3, e4]
  by_cases h1 : r = 32
  · simp [h1]
  · by_cases h2 : r = 9
    · simp [h2]
    · by_cases h3 : r = 13
      · simp [h3]
      · have b1 : (r == 32) = false := by simp [h1]
        have b2 : (r == 9) = false := by simp [h2]
        have b3 : (r == 13) = false := by simp [h3]
        simp [h1, h2, h3]
        rw [b1, b2, b3]
        simp

set_option maxHeartbeats 4000000 in
set_option maxRecDepth 100000 in
theorem glyph_Words.calls (a0 : ByteArray) (r : List ByteArray) (w : World) (h : glyph_Words.f a0 = some r) :
    Calls Tryd.prog 113 #[.string a0] w fun e w' => ∃ v0_ : Value, e = .returned (v0_) ∧ Kd.R Kd.string 9 w' w.heap.size (fun _ => True) v0_ r ∧ Below w.heap.size w w' := by
  unfold glyph_Words.f at h
  by_cases hs : a0.size ≤ 4294967296
  · rw [if_pos hs] at h
    have HR := hid (Option.some.inj h)
    clear h
    have hp : Go.Proofs.PredAt Tryd.prog 141 #[] Go.Proofs.encR Pl.blank w := by
      intro W x _
      refine (glyph_blank.calls _ _ W (glyph_blank_is x)).mono ?_
      rintro e w' ⟨rfl, ⟨n, rfl⟩⟩
      exact ⟨rfl, n, rfl⟩
    have HP := hid hp
    clear hp
    go_enter Tryd.func113, Tryd.ntmps113
    go_wp2_with (go_at_call 140; refine (Tryd.strings_FieldsFunc 141 #[] (enters_of Tryd.func141 (by kernel_rfl) rfl) Pl.blank a0 _ hs HP.out).mono ?_; rintro e W1 ⟨Ad, rfl, hA, hown, hbw⟩)
    go_ret
    refine ⟨_, rfl, ?_, hbw⟩
    rw [← HR.out]
    exact Kd.R_of_own hown (fun _ _ => trivial)
  · rw [if_neg hs] at h
    exact absurd h (by simp)
end Go.Proofs.YtlomcmdbbnbciaaDoor.Fn
-- written by xprint.py of this session over the kit's printer; not trusted: Lean checks it
namespace Go.Proofs.YtlomcmdbbnbciaaDoor.Fn
open Go.RowKit Go.Proofs.YtlomcmdbbnbciaaDoorW.PrintWords Go.Proofs.YtlomcmdbbnbciaaDoorW.PrintLast Go.Proofs.YtlomcmdbbnbciaaDoorW.PrintMore
attribute [local go_sem] max2_int min2_int max_two min_two max_three min_three max_four min_four   -- for this text's walks alone
set_option linter.unusedVariables false
set_option linter.unusedSimpArgs false

/-! ### order_words: function 69 -/
def order_words.f (a0 : ByteArray) : Option (List ByteArray) := (glyph_Clean.f a0).bind fun t173 => ((glyph_Fold.f t173).bind fun t174 => ((glyph_Words.f t174).bind fun t175 => (some t175)))
set_option maxHeartbeats 8000000 in
set_option maxRecDepth 100000 in
theorem order_words.calls (a0 : ByteArray) (r : List ByteArray) (w : World) (h : order_words.f a0 = some r) :
  Calls Tryd.prog 69 #[.string a0] w fun e w' => ∃ v0_ : Value, e = .returned (v0_) ∧ Kd.R Kd.string 9 w' w.heap.size (fun _ => True) v0_ r ∧ Below w.heap.size w w' := by
 have HB := Aside0.mk (Below.refl w.heap.size w)
 have H : ((glyph_Clean.f a0).bind fun t173 => ((glyph_Fold.f t173).bind fun t174 => ((glyph_Words.f t174).bind fun t175 => (some t175)))) = some r := h
 clear h
 replace H := Option.bind_eq_some_iff.mp H
 obtain ⟨t173, A20, H⟩ := H
 replace H : ((glyph_Fold.f t173).bind fun t174 => ((glyph_Words.f t174).bind fun t175 => (some t175))) = some r := H
 have A2 := Aside0.mk A20
 clear A20
 replace H := Option.bind_eq_some_iff.mp H
 obtain ⟨t174, A30, H⟩ := H
 replace H : ((glyph_Words.f t174).bind fun t175 => (some t175)) = some r := H
 have A3 := Aside0.mk A30
 clear A30
 replace H := Option.bind_eq_some_iff.mp H
 obtain ⟨t175, A40, H⟩ := H
 replace H : (some t175) = some r := H
 have A4 := Aside0.mk A40
 clear A40
 obtain rfl := Option.some.inj H
 go_enter Tryd.func69, Tryd.ntmps69
 go_wp2_with (first | ((with_reducible refine gate_callee (f := 114) rfl ?_); refine goesL_ (some 4) rfl rfl Tryd.func114 (by kernel_rfl) rfl #[.string a0] rfl am ?_; (with_reducible refine (glyph_Clean.calls a0 t173 _ A2.out).mono ?_); rintro e w5 ⟨rfl, hb⟩; refine ⟨_, rfl, ?_⟩; have n0_ := Aside0.mk (below_step bw hb); clear HB; have HB := n0_; clear n0_; (try clear hb); (try clear hb2); (try clear hk); (try clear hi)) | ((with_reducible refine gate_callee (f := 21) rfl ?_); refine goesL_ (some 5) rfl rfl Tryd.func21 (by kernel_rfl) rfl #[.string t173] rfl am ?_; (with_reducible refine (glyph_Fold.calls t173 t174 _ A3.out).mono ?_); rintro e w6 ⟨rfl, hb⟩; refine ⟨_, rfl, ?_⟩; have n0_ := Aside0.mk (below_step bw hb); clear HB; have HB := n0_; clear n0_; (try clear hb); (try clear hb2); (try clear hk); (try clear hi)) | ((with_reducible refine gate_callee (f := 113) rfl ?_); refine goesL_ (some 6) rfl rfl Tryd.func113 (by kernel_rfl) rfl #[.string t174] rfl am ?_; (with_reducible refine (glyph_Words.calls t174 t175 _ A4.out).mono ?_); rintro e w7 ⟨v176, rfl, ho0, hb⟩; refine ⟨_, rfl, ?_⟩; have n0_ := Aside0.mk (Kd.R_lower ho0 (below_size bw)); have n1_ := Aside0.mk (below_step bw hb); clear HB; have HO177 := n0_; have HB := n1_; clear n0_ n1_; (try clear hb); (try clear hb2); (try clear hk); (try clear hi); (try clear ho0)))
 go_ret
 exact ⟨_, by first | rfl | (simp [errW_none, errW_some] <;> rfl) | (simp [*, errW_none, errW_some] <;> rfl), by (with_reducible repeat (first | apply Kd.R_alloc | apply Kd.R_drewN | apply Kd.R_drew)); exact HO177.out, by repeat (first | (with_reducible first | exact HB.out | apply below_alloc | apply pw_below_drewN | apply below_drew1) | exact HB.out)⟩

end Go.Proofs.YtlomcmdbbnbciaaDoor.Fn
-- written by xprint.py of this session over the kit's printer; not trusted: Lean checks it
namespace Go.Proofs.YtlomcmdbbnbciaaDoor.Fn
open Go.RowKit Go.Proofs.YtlomcmdbbnbciaaDoorW.PrintWords Go.Proofs.YtlomcmdbbnbciaaDoorW.PrintLast Go.Proofs.YtlomcmdbbnbciaaDoorW.PrintMore
attribute [local go_sem] max2_int min2_int max_two min_two max_three min_three max_four min_four   -- for this text's walks alone
set_option linter.unusedVariables false
set_option linter.unusedSimpArgs false

/-! ### order_Line: function 18 -/
def order_Line.f (k : Nat) (a0 : ByteArray) : Option (Int × Int × ByteArray) := (order_words.f a0).bind fun t179 => ((order_command.f k t179).bind fun bt182 => (some (bt182.1, bt182.2.1, bt182.2.2)))
set_option maxHeartbeats 8000000 in
set_option maxRecDepth 100000 in
theorem order_Line.calls (k : Nat) (a0 : ByteArray) (r1 : Int) (r2 : Int) (r3 : ByteArray) (w : World) (h : order_Line.f k a0 = some (r1, r2, r3)) :
  Calls Tryd.prog 18 #[.string a0] w fun e w' => e = .returned (.agg #[.int .i64 r1, .int .i64 r2, .string r3]) ∧ Below w.heap.size w w' := by
 have hu24 := Tryd.underlying24
 have HB := Aside0.mk (Below.refl w.heap.size w)
 have H : ((order_words.f a0).bind fun t179 => ((order_command.f k t179).bind fun bt182 => (some (bt182.1, bt182.2.1, bt182.2.2)))) = some (r1, r2, r3) := h
 clear h
 replace H := Option.bind_eq_some_iff.mp H
 obtain ⟨t179, A20, H⟩ := H
 replace H : ((order_command.f k t179).bind fun bt182 => (some (bt182.1, bt182.2.1, bt182.2.2))) = some (r1, r2, r3) := H
 have A2 := Aside0.mk A20
 clear A20
 replace H := Option.bind_eq_some_iff.mp H
 obtain ⟨⟨t182, t183, t184⟩, A30, H⟩ := H
 replace H : (some (t182, t183, t184)) = some (r1, r2, r3) := H
 have A3 := Aside0.mk A30
 clear A30
 simp only [Option.some.injEq, Prod.mk.injEq] at H
 obtain ⟨rfl, rfl, rfl⟩ := H
 go_enter Tryd.func18, Tryd.ntmps18
 go_wp2_with (first | ((with_reducible refine gate_dst (N := 2) rfl ?_); refine box_event ?hg (N := 2) ?hd (cs := #[.int .i64 0, .int .i64 0, .string (⟨#[]⟩ : ByteArray)]) (t := 24) ?hr ?_; (case hd => rfl); (case hg => rfl); (case hr => first | (go_simp; done) | (go_simp; rfl)); intro gb178 hg w4 hbox hb; have n0_ := Aside0.mk (below_step bw hb); have n1_ := Aside0.mk (hbox); have n2_ := Aside0.mk ((by rw [hg]; exact (below_size bw) : w.heap.size ≤ gb178)); have n3_ := Aside0.mk ((by rw [hg]; exact (below_size bw) : w.heap.size ≤ gb178)); clear HB; have HB := n0_; have BK178 := n1_; have GW178 := n2_; have GE178 := n3_; clear n0_ n1_ n2_ n3_; clear hb hbox hg) | ((with_reducible refine gate_callee (f := 69) rfl ?_); refine goesL_ (some 4) rfl rfl Tryd.func69 (by kernel_rfl) rfl #[.string a0] rfl am ?_; (with_reducible refine (order_words.calls a0 t179 _ A2.out).mono ?_); rintro e w5 ⟨v180, rfl, ho0, hb⟩; refine ⟨_, rfl, ?_⟩; have n0_ := Aside0.mk (Kd.R_lower ho0 (below_size bwS)); have n1_ := Aside0.mk (blk_below (g := gb178) (o := .cells #[.int .i64 0, .int .i64 0, .string (⟨#[]⟩ : ByteArray)] 24 (0, 0)) bk hb); have n2_ := Aside0.mk (below_step bwS hb); clear BK178; clear HB; have HO181 := n0_; have BK178 := n1_; have HB := n2_; clear n0_ n1_ n2_; (try clear hb); (try clear hb2); (try clear hk); (try clear hi); (try clear ho0); obtain ⟨Ao6, co6, eo6⟩ := Kd.R_slice HO181.out; subst eo6) | ((with_reducible refine gate_callee (f := 68) rfl ?_); refine goesL_ (some 5) rfl rfl Tryd.func68 (by kernel_rfl) rfl #[.slice Ao6 t179.length co6] rfl am ?_; (with_reducible refine (order_command.calls k _ _ t179 t182 t183 t184 _ ?side1 ?side2 A3.out).mono ?_); (case side1 => repeat (first | exact (Kd.R_reads' HO181.out).2.2 | (with_reducible refine Kd.C_alloc ?_ _) | (with_reducible refine Kd.C_drewN ?_ _) | (with_reducible refine Kd.C_drew ?_))); (case side2 => exact (Kd.R_reads' HO181.out).2.1); rintro e w7 ⟨rfl, hb⟩; refine ⟨_, rfl, ?_⟩; have n0_ := Aside0.mk (Kd.R_below (by (with_reducible repeat (first | apply Kd.R_alloc | apply Kd.R_drewN | apply Kd.R_drew)); exact HO181.out) hb); have n1_ := Aside0.mk (blk_below (g := gb178) (o := .cells #[.int .i64 0, .int .i64 0, .string (⟨#[]⟩ : ByteArray)] 24 (0, 0)) bk hb); have n2_ := Aside0.mk (below_step bwS hb); clear HO181; clear BK178; clear HB; have HO181 := n0_; have BK178 := n1_; have HB := n2_; clear n0_ n1_ n2_; (try clear hb); (try clear hb2); (try clear hk); (try clear hi); have hcz8_0 : w7.cell? ⟨gb178, 0, none⟩ = some (.int .i64 0) := (blk_cell BK178.out 0).trans rfl; have hcz8_1 : w7.cell? ⟨gb178, 1, none⟩ = some (.int .i64 0) := (blk_cell BK178.out 1).trans rfl; have hcz8_2 : w7.cell? ⟨gb178, 2, none⟩ = some (.string (⟨#[]⟩ : ByteArray)) := (blk_cell BK178.out 2).trans rfl; have hfz8_0 := blk_frozen BK178.out 0; have hfz8_1 := blk_frozen BK178.out 1; have hfz8_2 := blk_frozen BK178.out 2))
 refine bodyPost_ret (results_cell_row rfl _ _ gb178 24 #[.int .i64 t182, .int .i64 t183, .string t184] (0, 0) _ rfl (by (with_reducible repeat (first | refine blk_drewN ?_ _ | refine blk_drew ?_ | refine blk_alloc ?_ _)); refine blk_put (cs := #[.int .i64 t182, .int .i64 t183, .string (⟨#[]⟩ : ByteArray)]) ?_ 2 _ rfl; (with_reducible repeat (first | refine blk_drewN ?_ _ | refine blk_drew ?_ | refine blk_alloc ?_ _)); refine blk_put (cs := #[.int .i64 t182, .int .i64 0, .string (⟨#[]⟩ : ByteArray)]) ?_ 1 _ rfl; (with_reducible repeat (first | refine blk_drewN ?_ _ | refine blk_drew ?_ | refine blk_alloc ?_ _)); refine blk_put (cs := #[.int .i64 0, .int .i64 0, .string (⟨#[]⟩ : ByteArray)]) ?_ 0 _ rfl; (with_reducible repeat (first | refine blk_drewN ?_ _ | refine blk_drew ?_ | refine blk_alloc ?_ _)); exact BK178.out) Tryd.underlying24 rfl (by kernel_rfl)) rfl ?_
 exact ⟨by first | rfl | (simp [errW_none, errW_some] <;> rfl) | (simp [*, errW_none, errW_some] <;> rfl), by repeat (first | (with_reducible first | exact HB.out | apply below_alloc | apply pw_below_drewN | apply below_drew1 | refine below_set ?_ GE178.out) | exact HB.out)⟩

end Go.Proofs.YtlomcmdbbnbciaaDoor.Fn
-- written by xprint.py of this session over the kit's printer; not trusted: Lean checks it
namespace Go.Proofs.YtlomcmdbbnbciaaDoor.Fn
open Go.RowKit Go.Proofs.YtlomcmdbbnbciaaDoorW.PrintWords Go.Proofs.YtlomcmdbbnbciaaDoorW.PrintLast Go.Proofs.YtlomcmdbbnbciaaDoorW.PrintMore
attribute [local go_sem] max2_int min2_int max_two min_two max_three min_three max_four min_four   -- for this text's walks alone
set_option linter.unusedVariables false
set_option linter.unusedSimpArgs false

/-! ### order_Show: function 19 -/
def order_Show.j0 : Nat → ByteArray → Bool → Int → Int → ByteArray → Option (ByteArray)
 | 0, _, _, _, _, _ => none
 | k + 1, x3, x15, x186000, x186001, x186002 => if x15 = true then (if 5 + x3.size ≤ 9223372036854775807 then (some ((⟨#[106, 111, 105, 110, 32]⟩ : ByteArray) ++ x3)) else (none)) else (if x186000 = 4 then (if x3.toList = ([] : List UInt8) then (some x186002) else (if 4 + x3.size ≤ 9223372036854775807 then (some ((⟨#[115, 101, 116, 32]⟩ : ByteArray) ++ x3)) else (none))) else (some x186002))
def order_Show.f (k : Nat) (a0_0 : Int) (a0_1 : Int) (a0_2 : ByteArray) : Option (ByteArray) := (roster_Word.f a0_1).bind fun t186 => (if a0_0 = 1 then (some (⟨#[104, 101, 108, 112]⟩ : ByteArray)) else (if a0_0 = 3 then (some (⟨#[108, 101, 97, 118, 101]⟩ : ByteArray)) else (if a0_0 = 2 then (order_Show.j0 k t186 (t186.toList != ([] : List UInt8)) a0_0 a0_1 a0_2) else (order_Show.j0 k t186 false a0_0 a0_1 a0_2))))
set_option maxHeartbeats 8000000 in
set_option maxRecDepth 100000 in
theorem order_Show.calls (k : Nat) (a0_0 : Int) (a0_1 : Int) (a0_2 : ByteArray) (r : ByteArray) (w : World) (h : order_Show.f k a0_0 a0_1 a0_2 = some r) :
  Calls Tryd.prog 19 #[.agg #[.int .i64 a0_0, .int .i64 a0_1, .string a0_2]] w fun e w' => e = .returned (.string r) ∧ Below w.heap.size w w' := by
 have hu24 := Tryd.underlying24
 have HB := Aside0.mk (Below.refl w.heap.size w)
 have H : ((roster_Word.f a0_1).bind fun t186 => (if a0_0 = 1 then (some (⟨#[104, 101, 108, 112]⟩ : ByteArray)) else (if a0_0 = 3 then (some (⟨#[108, 101, 97, 118, 101]⟩ : ByteArray)) else (if a0_0 = 2 then (order_Show.j0 k t186 (t186.toList != ([] : List UInt8)) a0_0 a0_1 a0_2) else (order_Show.j0 k t186 false a0_0 a0_1 a0_2))))) = some r := h
 clear h
 replace H := Option.bind_eq_some_iff.mp H
 obtain ⟨t186, A20, H⟩ := H
 replace H : (if a0_0 = 1 then (some (⟨#[104, 101, 108, 112]⟩ : ByteArray)) else (if a0_0 = 3 then (some (⟨#[108, 101, 97, 118, 101]⟩ : ByteArray)) else (if a0_0 = 2 then (order_Show.j0 k t186 (t186.toList != ([] : List UInt8)) a0_0 a0_1 a0_2) else (order_Show.j0 k t186 false a0_0 a0_1 a0_2)))) = some r := H
 have A2 := Aside0.mk A20
 clear A20
 by_cases c3 : a0_0 = 1
 ·rw [if_pos c3] at H
  have c3b0 : (a0_0 == 1) = true := beq_iff_eq.mpr c3
  have c3b1 : (a0_0 != 1) = false := bne_eq_false_iff_eq.mpr c3
  clear c3
  obtain rfl := Option.some.inj H
  go_enter Tryd.func19, Tryd.ntmps19
  go_wp2_with (first | ((with_reducible refine gate_dst (N := 1) rfl ?_); refine box_event ?hg (N := 1) ?hd (cs := #[.int .i64 a0_0, .int .i64 a0_1, .string a0_2]) (t := 24) ?hr ?_; (case hd => rfl); (case hg => rfl); (case hr => first | (go_simp; done) | (go_simp; rfl)); intro gb185 hg w4 hbox hb; have n0_ := Aside0.mk (below_step bw hb); have n1_ := Aside0.mk (hbox); have n2_ := Aside0.mk ((by rw [hg]; exact (below_size bw) : w.heap.size ≤ gb185)); have n3_ := Aside0.mk ((by rw [hg]; exact (below_size bw) : w.heap.size ≤ gb185)); clear HB; have HB := n0_; have BK185 := n1_; have GW185 := n2_; have GE185 := n3_; clear n0_ n1_ n2_ n3_; clear hb hbox hg; have hcz5_0 : w4.cell? ⟨gb185, 0, none⟩ = some (.int .i64 a0_0) := (blk_cell BK185.out 0).trans rfl; have hcz5_1 : w4.cell? ⟨gb185, 1, none⟩ = some (.int .i64 a0_1) := (blk_cell BK185.out 1).trans rfl; have hcz5_2 : w4.cell? ⟨gb185, 2, none⟩ = some (.string a0_2) := (blk_cell BK185.out 2).trans rfl; have hfz5_0 := blk_frozen BK185.out 0; have hfz5_1 := blk_frozen BK185.out 1; have hfz5_2 := blk_frozen BK185.out 2) | ((with_reducible refine gate_callee (f := 70) rfl ?_); refine goesL_ (some 6) rfl rfl Tryd.func70 (by kernel_rfl) rfl #[.int .i64 a0_1] rfl am ?_; (with_reducible refine (roster_Word.calls a0_1 t186 _ A2.out).mono ?_); rintro e w' ⟨rfl, ⟨nd, rfl⟩⟩; refine ⟨_, rfl, ?_⟩))
  go_ret
  exact ⟨by first | rfl | (simp [errW_none, errW_some] <;> rfl) | (simp [*, errW_none, errW_some] <;> rfl), by repeat (first | (with_reducible first | exact HB.out | apply below_alloc | apply pw_below_drewN | apply below_drew1 | refine below_set ?_ GE185.out) | exact HB.out)⟩
 ·rw [if_neg c3] at H
  have c3b0 : (a0_0 == 1) = false := beq_eq_false_iff_ne.mpr c3
  have c3b1 : (a0_0 != 1) = true := bne_iff_ne.mpr c3
  by_cases c6 : a0_0 = 3
  ·rw [if_pos c6] at H
   have c6b0 : (a0_0 == 3) = true := beq_iff_eq.mpr c6
   have c6b1 : (a0_0 != 3) = false := bne_eq_false_iff_eq.mpr c6
   clear c6
   obtain rfl := Option.some.inj H
   go_enter Tryd.func19, Tryd.ntmps19
   go_wp2_with (first | ((with_reducible refine gate_dst (N := 1) rfl ?_); refine box_event ?hg (N := 1) ?hd (cs := #[.int .i64 a0_0, .int .i64 a0_1, .string a0_2]) (t := 24) ?hr ?_; (case hd => rfl); (case hg => rfl); (case hr => first | (go_simp; done) | (go_simp; rfl)); intro gb185 hg w7 hbox hb; have n0_ := Aside0.mk (below_step bw hb); have n1_ := Aside0.mk (hbox); have n2_ := Aside0.mk ((by rw [hg]; exact (below_size bw) : w.heap.size ≤ gb185)); have n3_ := Aside0.mk ((by rw [hg]; exact (below_size bw) : w.heap.size ≤ gb185)); clear HB; have HB := n0_; have BK185 := n1_; have GW185 := n2_; have GE185 := n3_; clear n0_ n1_ n2_ n3_; clear hb hbox hg; have hcz8_0 : w7.cell? ⟨gb185, 0, none⟩ = some (.int .i64 a0_0) := (blk_cell BK185.out 0).trans rfl; have hcz8_1 : w7.cell? ⟨gb185, 1, none⟩ = some (.int .i64 a0_1) := (blk_cell BK185.out 1).trans rfl; have hcz8_2 : w7.cell? ⟨gb185, 2, none⟩ = some (.string a0_2) := (blk_cell BK185.out 2).trans rfl; have hfz8_0 := blk_frozen BK185.out 0; have hfz8_1 := blk_frozen BK185.out 1; have hfz8_2 := blk_frozen BK185.out 2) | ((with_reducible refine gate_callee (f := 70) rfl ?_); refine goesL_ (some 6) rfl rfl Tryd.func70 (by kernel_rfl) rfl #[.int .i64 a0_1] rfl am ?_; (with_reducible refine (roster_Word.calls a0_1 t186 _ A2.out).mono ?_); rintro e w' ⟨rfl, ⟨nd, rfl⟩⟩; refine ⟨_, rfl, ?_⟩))
   go_ret
   exact ⟨by first | rfl | (simp [errW_none, errW_some] <;> rfl) | (simp [*, errW_none, errW_some] <;> rfl), by repeat (first | (with_reducible first | exact HB.out | apply below_alloc | apply pw_below_drewN | apply below_drew1 | refine below_set ?_ GE185.out) | exact HB.out)⟩
  ·rw [if_neg c6] at H
   have c6b0 : (a0_0 == 3) = false := beq_eq_false_iff_ne.mpr c6
   have c6b1 : (a0_0 != 3) = true := bne_iff_ne.mpr c6
   have HC9 := Aside0.mk H
   clear H
   go_enter Tryd.func19, Tryd.ntmps19
   go_upto_region 6 with (first | ((with_reducible refine gate_dst (N := 1) rfl ?_); refine box_event ?hg (N := 1) ?hd (cs := #[.int .i64 a0_0, .int .i64 a0_1, .string a0_2]) (t := 24) ?hr ?_; (case hd => rfl); (case hg => rfl); (case hr => first | (go_simp; done) | (go_simp; rfl)); intro gb185 hg w10 hbox hb; have n0_ := Aside0.mk (below_step bw hb); have n1_ := Aside0.mk (hbox); have n2_ := Aside0.mk ((by rw [hg]; exact (below_size bw) : w.heap.size ≤ gb185)); have n3_ := Aside0.mk ((by rw [hg]; exact (below_size bw) : w.heap.size ≤ gb185)); clear HB; have HB := n0_; have BK185 := n1_; have GW185 := n2_; have GE185 := n3_; clear n0_ n1_ n2_ n3_; clear hb hbox hg; have hcz11_0 : w10.cell? ⟨gb185, 0, none⟩ = some (.int .i64 a0_0) := (blk_cell BK185.out 0).trans rfl; have hcz11_1 : w10.cell? ⟨gb185, 1, none⟩ = some (.int .i64 a0_1) := (blk_cell BK185.out 1).trans rfl; have hcz11_2 : w10.cell? ⟨gb185, 2, none⟩ = some (.string a0_2) := (blk_cell BK185.out 2).trans rfl; have hfz11_0 := blk_frozen BK185.out 0; have hfz11_1 := blk_frozen BK185.out 1; have hfz11_2 := blk_frozen BK185.out 2) | ((with_reducible refine gate_callee (f := 70) rfl ?_); refine goesL_ (some 6) rfl rfl Tryd.func70 (by kernel_rfl) rfl #[.int .i64 a0_1] rfl am ?_; (with_reducible refine (roster_Word.calls a0_1 t186 _ A2.out).mono ?_); rintro e w' ⟨rfl, ⟨nd, rfl⟩⟩; refine ⟨_, rfl, ?_⟩))
   (try simp only [Act.put, List.setIfInBounds_toArray, List.set_cons_zero, List.set_cons_succ])
   go_cut [15] (fun v15 wc => ∃ (kq : Nat) (x15_8 : Bool), v15 = .bool x15_8 ∧ Aside0 (order_Show.j0 kq t186 x15_8 a0_0 a0_1 a0_2 = some r) ∧ Aside0 (kq ≤ k) ∧ Aside0 (wc.heap[gb185]? = some (.cells #[.int .i64 a0_0, .int .i64 a0_1, .string a0_2] 24 (0, 0))) ∧ Aside0 (Below w.heap.size w wc))
   case first =>
    have H := HC9.out
    clear HC9
    by_cases c12 : a0_0 = 2
    ·rw [if_pos c12] at H
     have c12b0 : (a0_0 == 2) = true := beq_iff_eq.mpr c12
     have c12b1 : (a0_0 != 2) = false := bne_eq_false_iff_eq.mpr c12
     clear c12
     (first | rw [c12b0] | (simp only [i64_w, i32_w]; rw [c12b0]) | skip)
     have H' := Aside0.mk H
     clear H
     have hcz13_0 : w10.cell? ⟨gb185, 0, none⟩ = some (.int .i64 a0_0) := (blk_cell BK185.out 0).trans rfl
     have hcz13_1 : w10.cell? ⟨gb185, 1, none⟩ = some (.int .i64 a0_1) := (blk_cell BK185.out 1).trans rfl
     have hcz13_2 : w10.cell? ⟨gb185, 2, none⟩ = some (.string a0_2) := (blk_cell BK185.out 2).trans rfl
     have hfz13_0 := blk_frozen BK185.out 0
     have hfz13_1 := blk_frozen BK185.out 1
     have hfz13_2 := blk_frozen BK185.out 2
     go_wp2
     go_meet
     case rel => exact ⟨_, ((t186.toList != ([] : List UInt8))), cl, H', ⟨by first | omega | exact Nat.le_refl _⟩, ⟨by (with_reducible repeat (first | refine blk_drewN ?_ _ | refine blk_drew ?_ | refine blk_alloc ?_ _)); exact BK185.out⟩, ⟨by repeat (first | (with_reducible first | exact HB.out | apply below_alloc | apply pw_below_drewN | apply below_drew1 | refine below_set ?_ GE185.out) | exact HB.out)⟩⟩
    ·rw [if_neg c12] at H
     have c12b0 : (a0_0 == 2) = false := beq_eq_false_iff_ne.mpr c12
     have c12b1 : (a0_0 != 2) = true := bne_iff_ne.mpr c12
     (first | rw [c12b0] | (simp only [i64_w, i32_w]; rw [c12b0]) | skip)
     have H' := Aside0.mk H
     clear H
     have hcz14_0 : w10.cell? ⟨gb185, 0, none⟩ = some (.int .i64 a0_0) := (blk_cell BK185.out 0).trans rfl
     have hcz14_1 : w10.cell? ⟨gb185, 1, none⟩ = some (.int .i64 a0_1) := (blk_cell BK185.out 1).trans rfl
     have hcz14_2 : w10.cell? ⟨gb185, 2, none⟩ = some (.string a0_2) := (blk_cell BK185.out 2).trans rfl
     have hfz14_0 := blk_frozen BK185.out 0
     have hfz14_1 := blk_frozen BK185.out 1
     have hfz14_2 := blk_frozen BK185.out 2
     go_wp2
     go_meet
     case rel => exact ⟨_, (false), cl, H', ⟨by first | omega | exact Nat.le_refl _⟩, ⟨by (with_reducible repeat (first | refine blk_drewN ?_ _ | refine blk_drew ?_ | refine blk_alloc ?_ _)); exact BK185.out⟩, ⟨by repeat (first | (with_reducible first | exact HB.out | apply below_alloc | apply pw_below_drewN | apply below_drew1 | refine below_set ?_ GE185.out) | exact HB.out)⟩⟩
   case rest =>
    clear HC9
    try clear c1
    try clear p2
    try clear c3
    try clear c3b0
    try clear c3b1
    try clear c6
    try clear c6b0
    try clear c6b1
    try clear c7
    try clear c12
    try clear c12b0
    try clear c12b1
    try clear hcz11_0
    try clear hcz11_1
    try clear hcz11_2
    try clear hcz13_0
    try clear hcz13_1
    try clear hcz13_2
    try clear hcz14_0
    try clear hcz14_1
    try clear hcz14_2
    try clear hcz5_0
    try clear hcz5_1
    try clear hcz5_2
    try clear hcz8_0
    try clear hcz8_1
    try clear hcz8_2
    try clear hfz11_0
    try clear hfz11_1
    try clear hfz11_2
    try clear hfz13_0
    try clear hfz13_1
    try clear hfz13_2
    try clear hfz14_0
    try clear hfz14_1
    try clear hfz14_2
    try clear hfz5_0
    try clear hfz5_1
    try clear hfz5_2
    try clear hfz8_0
    try clear hfz8_1
    try clear hfz8_2
    obtain ⟨kq, x15_8, rfl, HA, HJ8, BK185, HB⟩ := hcut
    cases kq with
    | zero => exact absurd HA.out (by simp [order_Show.j0])
    | succ kj8 =>
     have H := HA.out
     clear HA
     simp only [order_Show.j0] at H
     by_cases c15 : x15_8 = true
     ·subst c15
      have H1 : (if 5 + t186.size ≤ 9223372036854775807 then (some ((⟨#[106, 111, 105, 110, 32]⟩ : ByteArray) ++ t186)) else (none)) = some r := by rw [if_pos rfl] at H; exact H
      clear H
      have H := H1
      clear H1
      by_cases c16 : 5 + t186.size ≤ 9223372036854775807
      ·rw [if_pos c16] at H
       have c16b0 := eq_true c16
       have c16b1 : decide (5 + t186.size ≤ 9223372036854775807) = true := decide_eq_true c16
       try have c16b2 : (9223372036854775807 < 5 + t186.size) = False := eq_false (Nat.not_lt.2 c16)
       obtain rfl := Option.some.inj H
       go_wp2
       go_ret
       exact ⟨by first | rfl | (simp [errW_none, errW_some] <;> rfl) | (simp [*, errW_none, errW_some] <;> rfl), by repeat (first | (with_reducible first | exact HB.out | apply below_alloc | apply pw_below_drewN | apply below_drew1 | refine below_set ?_ GE185.out) | exact HB.out)⟩
      ·rw [if_neg c16] at H
       exact absurd H (by simp)
     ·replace c15 := Bool.eq_false_iff.mpr c15
      subst c15
      have H1 : (if a0_0 = 4 then (if t186.toList = ([] : List UInt8) then (some a0_2) else (if 4 + t186.size ≤ 9223372036854775807 then (some ((⟨#[115, 101, 116, 32]⟩ : ByteArray) ++ t186)) else (none))) else (some a0_2)) = some r := by rw [if_neg (show ¬ (false = true) by decide)] at H; exact H
      clear H
      have H := H1
      clear H1
      by_cases c17 : a0_0 = 4
      ·rw [if_pos c17] at H
       have c17b0 : (a0_0 == 4) = true := beq_iff_eq.mpr c17
       have c17b1 : (a0_0 != 4) = false := bne_eq_false_iff_eq.mpr c17
       clear c17
       by_cases c18 : t186.toList = ([] : List UInt8)
       ·rw [if_pos c18] at H
        have c18b0 : (t186.toList == ([] : List UInt8)) = true := beq_iff_eq.mpr c18
        have c18b1 : (t186.toList != ([] : List UInt8)) = false := bne_eq_false_iff_eq.mpr c18
        clear c18
        obtain rfl := Option.some.inj H
        have hcz19_0 : wc.cell? ⟨gb185, 0, none⟩ = some (.int .i64 a0_0) := (blk_cell BK185.out 0).trans rfl
        have hcz19_1 : wc.cell? ⟨gb185, 1, none⟩ = some (.int .i64 a0_1) := (blk_cell BK185.out 1).trans rfl
        have hcz19_2 : wc.cell? ⟨gb185, 2, none⟩ = some (.string a0_2) := (blk_cell BK185.out 2).trans rfl
        have hfz19_0 := blk_frozen BK185.out 0
        have hfz19_1 := blk_frozen BK185.out 1
        have hfz19_2 := blk_frozen BK185.out 2
        go_wp2
        go_ret
        exact ⟨by first | rfl | (simp [errW_none, errW_some] <;> rfl) | (simp [*, errW_none, errW_some] <;> rfl), by repeat (first | (with_reducible first | exact HB.out | apply below_alloc | apply pw_below_drewN | apply below_drew1 | refine below_set ?_ GE185.out) | exact HB.out)⟩
       ·rw [if_neg c18] at H
        have c18b0 : (t186.toList == ([] : List UInt8)) = false := beq_eq_false_iff_ne.mpr c18
        have c18b1 : (t186.toList != ([] : List UInt8)) = true := bne_iff_ne.mpr c18
        by_cases c20 : 4 + t186.size ≤ 9223372036854775807
        ·rw [if_pos c20] at H
         have c20b0 := eq_true c20
         have c20b1 : decide (4 + t186.size ≤ 9223372036854775807) = true := decide_eq_true c20
         try have c20b2 : (9223372036854775807 < 4 + t186.size) = False := eq_false (Nat.not_lt.2 c20)
         obtain rfl := Option.some.inj H
         have hcz21_0 : wc.cell? ⟨gb185, 0, none⟩ = some (.int .i64 a0_0) := (blk_cell BK185.out 0).trans rfl
         have hcz21_1 : wc.cell? ⟨gb185, 1, none⟩ = some (.int .i64 a0_1) := (blk_cell BK185.out 1).trans rfl
         have hcz21_2 : wc.cell? ⟨gb185, 2, none⟩ = some (.string a0_2) := (blk_cell BK185.out 2).trans rfl
         have hfz21_0 := blk_frozen BK185.out 0
         have hfz21_1 := blk_frozen BK185.out 1
         have hfz21_2 := blk_frozen BK185.out 2
         go_wp2
         go_ret
         exact ⟨by first | rfl | (simp [errW_none, errW_some] <;> rfl) | (simp [*, errW_none, errW_some] <;> rfl), by repeat (first | (with_reducible first | exact HB.out | apply below_alloc | apply pw_below_drewN | apply below_drew1 | refine below_set ?_ GE185.out) | exact HB.out)⟩
        ·rw [if_neg c20] at H
         exact absurd H (by simp)
      ·rw [if_neg c17] at H
       have c17b0 : (a0_0 == 4) = false := beq_eq_false_iff_ne.mpr c17
       have c17b1 : (a0_0 != 4) = true := bne_iff_ne.mpr c17
       obtain rfl := Option.some.inj H
       have hcz22_0 : wc.cell? ⟨gb185, 0, none⟩ = some (.int .i64 a0_0) := (blk_cell BK185.out 0).trans rfl
       have hcz22_1 : wc.cell? ⟨gb185, 1, none⟩ = some (.int .i64 a0_1) := (blk_cell BK185.out 1).trans rfl
       have hcz22_2 : wc.cell? ⟨gb185, 2, none⟩ = some (.string a0_2) := (blk_cell BK185.out 2).trans rfl
       have hfz22_0 := blk_frozen BK185.out 0
       have hfz22_1 := blk_frozen BK185.out 1
       have hfz22_2 := blk_frozen BK185.out 2
       go_wp2
       go_ret
       exact ⟨by first | rfl | (simp [errW_none, errW_some] <;> rfl) | (simp [*, errW_none, errW_some] <;> rfl), by repeat (first | (with_reducible first | exact HB.out | apply below_alloc | apply pw_below_drewN | apply below_drew1 | refine below_set ?_ GE185.out) | exact HB.out)⟩

end Go.Proofs.YtlomcmdbbnbciaaDoor.Fn
-- written by xprint.py of this session over the kit's printer; not trusted: Lean checks it
namespace Go.Proofs.YtlomcmdbbnbciaaDoor.Fn
open Go.RowKit Go.Proofs.YtlomcmdbbnbciaaDoorW.PrintWords Go.Proofs.YtlomcmdbbnbciaaDoorW.PrintLast Go.Proofs.YtlomcmdbbnbciaaDoorW.PrintMore
attribute [local go_sem] max2_int min2_int max_two min_two max_three min_three max_four min_four   -- for this text's walks alone
set_option linter.unusedVariables false
set_option linter.unusedSimpArgs false

attribute [local go_sem] fld24_0 fld24_1 fld24_2
/-! ### bulletinlaw35_works: function 17 -/
def bulletinlaw35_works.f (k : Nat)  : Option (Bool) := (order_Line.f k (⟨#[32, 83, 117, 98, 115, 99, 114, 105, 98, 101, 32, 32, 100, 105, 103, 101, 115, 116]⟩ : ByteArray)).bind fun bt187 => (if bt187.1 = 2 then (if bt187.2.1 = 2 then (if bt187.2.2.toList = ([] : List UInt8) then ((order_Show.f k bt187.1 bt187.2.1 bt187.2.2).bind fun t191 => (if t191.toList = ([106, 111, 105, 110, 32, 100, 105, 103, 101, 115, 116] : List UInt8) then ((order_Line.f k (⟨#[119, 104, 97, 116]⟩ : ByteArray)).bind fun bt192 => (some (bt192.1 == 5))) else (some false))) else (some false)) else (some false)) else (some false))
set_option maxHeartbeats 8000000 in
set_option maxRecDepth 100000 in
theorem bulletinlaw35_works.calls (k : Nat)  (r : Bool) (w : World) (h : bulletinlaw35_works.f k  = some r) :
  Calls Tryd.prog 17 #[] w fun e w' => e = .returned (.bool r) ∧ Below w.heap.size w w' := by
 have hu24 := Tryd.underlying24
 have HB := Aside0.mk (Below.refl w.heap.size w)
 have H : ((order_Line.f k (⟨#[32, 83, 117, 98, 115, 99, 114, 105, 98, 101, 32, 32, 100, 105, 103, 101, 115, 116]⟩ : ByteArray)).bind fun bt187 => (if bt187.1 = 2 then (if bt187.2.1 = 2 then (if bt187.2.2.toList = ([] : List UInt8) then ((order_Show.f k bt187.1 bt187.2.1 bt187.2.2).bind fun t191 => (if t191.toList = ([106, 111, 105, 110, 32, 100, 105, 103, 101, 115, 116] : List UInt8) then ((order_Line.f k (⟨#[119, 104, 97, 116]⟩ : ByteArray)).bind fun bt192 => (some (bt192.1 == 5))) else (some false))) else (some false)) else (some false)) else (some false))) = some r := h
 clear h
 replace H := Option.bind_eq_some_iff.mp H
 obtain ⟨⟨t187, t188, t189⟩, A10, H⟩ := H
 replace H : (if t187 = 2 then (if t188 = 2 then (if t189.toList = ([] : List UInt8) then ((order_Show.f k t187 t188 t189).bind fun t191 => (if t191.toList = ([106, 111, 105, 110, 32, 100, 105, 103, 101, 115, 116] : List UInt8) then ((order_Line.f k (⟨#[119, 104, 97, 116]⟩ : ByteArray)).bind fun bt192 => (some (bt192.1 == 5))) else (some false))) else (some false)) else (some false)) else (some false)) = some r := H
 have A1 := Aside0.mk A10
 clear A10
 by_cases c2 : t187 = 2
 ·rw [if_pos c2] at H
  have c2b0 : (t187 == 2) = true := beq_iff_eq.mpr c2
  have c2b1 : (t187 != 2) = false := bne_eq_false_iff_eq.mpr c2
  clear c2
  by_cases c3 : t188 = 2
  ·rw [if_pos c3] at H
   have c3b0 : (t188 == 2) = true := beq_iff_eq.mpr c3
   have c3b1 : (t188 != 2) = false := bne_eq_false_iff_eq.mpr c3
   clear c3
   by_cases c4 : t189.toList = ([] : List UInt8)
   ·rw [if_pos c4] at H
    have c4b0 : (t189.toList == ([] : List UInt8)) = true := beq_iff_eq.mpr c4
    have c4b1 : (t189.toList != ([] : List UInt8)) = false := bne_eq_false_iff_eq.mpr c4
    clear c4
    replace H := Option.bind_eq_some_iff.mp H
    obtain ⟨t191, A50, H⟩ := H
    replace H : (if t191.toList = ([106, 111, 105, 110, 32, 100, 105, 103, 101, 115, 116] : List UInt8) then ((order_Line.f k (⟨#[119, 104, 97, 116]⟩ : ByteArray)).bind fun bt192 => (some (bt192.1 == 5))) else (some false)) = some r := H
    have A5 := Aside0.mk A50
    clear A50
    by_cases c6 : t191.toList = ([106, 111, 105, 110, 32, 100, 105, 103, 101, 115, 116] : List UInt8)
    ·rw [if_pos c6] at H
     have c6b0 : (t191.toList == ([106, 111, 105, 110, 32, 100, 105, 103, 101, 115, 116] : List UInt8)) = true := beq_iff_eq.mpr c6
     have c6b1 : (t191.toList != ([106, 111, 105, 110, 32, 100, 105, 103, 101, 115, 116] : List UInt8)) = false := bne_eq_false_iff_eq.mpr c6
     clear c6
     replace H := Option.bind_eq_some_iff.mp H
     obtain ⟨⟨t192, t193, t194⟩, A70, H⟩ := H
     replace H : (some (t192 == 5)) = some r := H
     have A7 := Aside0.mk A70
     clear A70
     obtain rfl := Option.some.inj H
     go_enter Tryd.func17, Tryd.ntmps17
     go_wp2_with (first | ((with_reducible refine gate_callee (f := 18) rfl ?_); refine goesL_ (some 2) rfl rfl Tryd.func18 (by kernel_rfl) rfl #[.string (⟨#[32, 83, 117, 98, 115, 99, 114, 105, 98, 101, 32, 32, 100, 105, 103, 101, 115, 116]⟩ : ByteArray)] rfl am ?_; (with_reducible refine (order_Line.calls k (⟨#[32, 83, 117, 98, 115, 99, 114, 105, 98, 101, 32, 32, 100, 105, 103, 101, 115, 116]⟩ : ByteArray) t187 t188 t189 _ A1.out).mono ?_); rintro e w8 ⟨rfl, hb⟩; refine ⟨_, rfl, ?_⟩; have n0_ := Aside0.mk (below_step bw hb); clear HB; have HB := n0_; clear n0_; (try clear hb); (try clear hb2); (try clear hk); (try clear hi)) | ((with_reducible refine gate_dst (N := 1) rfl ?_); refine box_event ?hg (N := 1) ?hd (cs := #[.int .i64 0, .int .i64 0, .string (⟨#[]⟩ : ByteArray)]) (t := 24) ?hr ?_; (case hd => rfl); (case hg => rfl); (case hr => first | (go_simp; done) | (go_simp; rfl)); intro gb190 hg w9 hbox hb; have n0_ := Aside0.mk (below_step bw hb); have n1_ := Aside0.mk (hbox); have n2_ := Aside0.mk ((by rw [hg]; exact (below_size bw) : w.heap.size ≤ gb190)); have n3_ := Aside0.mk ((by rw [hg]; exact (below_size bw) : w.heap.size ≤ gb190)); clear HB; have HB := n0_; have BK190 := n1_; have GW190 := n2_; have GE190 := n3_; clear n0_ n1_ n2_ n3_; clear hb hbox hg; have hcz10_0 : w9.cell? ⟨gb190, 0, none⟩ = some (.int .i64 0) := (blk_cell BK190.out 0).trans rfl; have hcz10_1 : w9.cell? ⟨gb190, 1, none⟩ = some (.int .i64 0) := (blk_cell BK190.out 1).trans rfl; have hcz10_2 : w9.cell? ⟨gb190, 2, none⟩ = some (.string (⟨#[]⟩ : ByteArray)) := (blk_cell BK190.out 2).trans rfl; have hfz10_0 := blk_frozen BK190.out 0; have hfz10_1 := blk_frozen BK190.out 1; have hfz10_2 := blk_frozen BK190.out 2) | (go_at_call 19; (with_reducible refine (order_Show.calls k t187 t188 t189 t191 _ A5.out).mono ?_); rintro e w11 ⟨rfl, hb⟩; have n0_ := Aside0.mk (blk_below (g := gb190) (o := .cells #[.int .i64 t187, .int .i64 t188, .string t189] 24 (0, 0)) (by (with_reducible repeat (first | refine blk_drewN ?_ _ | refine blk_drew ?_ | refine blk_alloc ?_ _)); refine blk_put (cs := #[.int .i64 t187, .int .i64 t188, .string (⟨#[]⟩ : ByteArray)]) ?_ 2 _ rfl; (with_reducible repeat (first | refine blk_drewN ?_ _ | refine blk_drew ?_ | refine blk_alloc ?_ _)); refine blk_put (cs := #[.int .i64 t187, .int .i64 0, .string (⟨#[]⟩ : ByteArray)]) ?_ 1 _ rfl; (with_reducible repeat (first | refine blk_drewN ?_ _ | refine blk_drew ?_ | refine blk_alloc ?_ _)); refine blk_put (cs := #[.int .i64 0, .int .i64 0, .string (⟨#[]⟩ : ByteArray)]) ?_ 0 _ rfl; (with_reducible repeat (first | refine blk_drewN ?_ _ | refine blk_drew ?_ | refine blk_alloc ?_ _)); exact BK190.out) hb); have n1_ := Aside0.mk (below_step bwS hb); clear BK190; clear HB; have BK190 := n0_; have HB := n1_; clear n0_ n1_; (try clear hb); (try clear hb2); (try clear hk); (try clear hi)) | (go_at_call 18; (with_reducible refine (order_Line.calls k (⟨#[119, 104, 97, 116]⟩ : ByteArray) t192 t193 t194 _ A7.out).mono ?_); rintro e w12 ⟨rfl, hb⟩; have n0_ := Aside0.mk (blk_below (g := gb190) (o := .cells #[.int .i64 t187, .int .i64 t188, .string t189] 24 (0, 0)) bk hb); have n1_ := Aside0.mk (below_step bwS hb); clear BK190; clear HB; have BK190 := n0_; have HB := n1_; clear n0_ n1_; (try clear hb); (try clear hb2); (try clear hk); (try clear hi)))
     go_ret
     exact ⟨by first | rfl | (simp [errW_none, errW_some] <;> rfl) | (simp [*, errW_none, errW_some] <;> rfl), by repeat (first | (with_reducible first | exact HB.out | apply below_alloc | apply pw_below_drewN | apply below_drew1 | refine below_set ?_ GE190.out) | exact HB.out)⟩
    ·rw [if_neg c6] at H
     have c6b0 : (t191.toList == ([106, 111, 105, 110, 32, 100, 105, 103, 101, 115, 116] : List UInt8)) = false := beq_eq_false_iff_ne.mpr c6
     have c6b1 : (t191.toList != ([106, 111, 105, 110, 32, 100, 105, 103, 101, 115, 116] : List UInt8)) = true := bne_iff_ne.mpr c6
     obtain rfl := Option.some.inj H
     go_enter Tryd.func17, Tryd.ntmps17
     go_wp2_with (first | ((with_reducible refine gate_callee (f := 18) rfl ?_); refine goesL_ (some 2) rfl rfl Tryd.func18 (by kernel_rfl) rfl #[.string (⟨#[32, 83, 117, 98, 115, 99, 114, 105, 98, 101, 32, 32, 100, 105, 103, 101, 115, 116]⟩ : ByteArray)] rfl am ?_; (with_reducible refine (order_Line.calls k (⟨#[32, 83, 117, 98, 115, 99, 114, 105, 98, 101, 32, 32, 100, 105, 103, 101, 115, 116]⟩ : ByteArray) t187 t188 t189 _ A1.out).mono ?_); rintro e w13 ⟨rfl, hb⟩; refine ⟨_, rfl, ?_⟩; have n0_ := Aside0.mk (below_step bw hb); clear HB; have HB := n0_; clear n0_; (try clear hb); (try clear hb2); (try clear hk); (try clear hi)) | ((with_reducible refine gate_dst (N := 1) rfl ?_); refine box_event ?hg (N := 1) ?hd (cs := #[.int .i64 0, .int .i64 0, .string (⟨#[]⟩ : ByteArray)]) (t := 24) ?hr ?_; (case hd => rfl); (case hg => rfl); (case hr => first | (go_simp; done) | (go_simp; rfl)); intro gb190 hg w14 hbox hb; have n0_ := Aside0.mk (below_step bw hb); have n1_ := Aside0.mk (hbox); have n2_ := Aside0.mk ((by rw [hg]; exact (below_size bw) : w.heap.size ≤ gb190)); have n3_ := Aside0.mk ((by rw [hg]; exact (below_size bw) : w.heap.size ≤ gb190)); clear HB; have HB := n0_; have BK190 := n1_; have GW190 := n2_; have GE190 := n3_; clear n0_ n1_ n2_ n3_; clear hb hbox hg; have hcz15_0 : w14.cell? ⟨gb190, 0, none⟩ = some (.int .i64 0) := (blk_cell BK190.out 0).trans rfl; have hcz15_1 : w14.cell? ⟨gb190, 1, none⟩ = some (.int .i64 0) := (blk_cell BK190.out 1).trans rfl; have hcz15_2 : w14.cell? ⟨gb190, 2, none⟩ = some (.string (⟨#[]⟩ : ByteArray)) := (blk_cell BK190.out 2).trans rfl; have hfz15_0 := blk_frozen BK190.out 0; have hfz15_1 := blk_frozen BK190.out 1; have hfz15_2 := blk_frozen BK190.out 2) | (go_at_call 19; (with_reducible refine (order_Show.calls k t187 t188 t189 t191 _ A5.out).mono ?_); rintro e w16 ⟨rfl, hb⟩; have n0_ := Aside0.mk (blk_below (g := gb190) (o := .cells #[.int .i64 t187, .int .i64 t188, .string t189] 24 (0, 0)) (by (with_reducible repeat (first | refine blk_drewN ?_ _ | refine blk_drew ?_ | refine blk_alloc ?_ _)); refine blk_put (cs := #[.int .i64 t187, .int .i64 t188, .string (⟨#[]⟩ : ByteArray)]) ?_ 2 _ rfl; (with_reducible repeat (first | refine blk_drewN ?_ _ | refine blk_drew ?_ | refine blk_alloc ?_ _)); refine blk_put (cs := #[.int .i64 t187, .int .i64 0, .string (⟨#[]⟩ : ByteArray)]) ?_ 1 _ rfl; (with_reducible repeat (first | refine blk_drewN ?_ _ | refine blk_drew ?_ | refine blk_alloc ?_ _)); refine blk_put (cs := #[.int .i64 0, .int .i64 0, .string (⟨#[]⟩ : ByteArray)]) ?_ 0 _ rfl; (with_reducible repeat (first | refine blk_drewN ?_ _ | refine blk_drew ?_ | refine blk_alloc ?_ _)); exact BK190.out) hb); have n1_ := Aside0.mk (below_step bwS hb); clear BK190; clear HB; have BK190 := n0_; have HB := n1_; clear n0_ n1_; (try clear hb); (try clear hb2); (try clear hk); (try clear hi)))
     go_ret
     exact ⟨by first | rfl | (simp [errW_none, errW_some] <;> rfl) | (simp [*, errW_none, errW_some] <;> rfl), by repeat (first | (with_reducible first | exact HB.out | apply below_alloc | apply pw_below_drewN | apply below_drew1 | refine below_set ?_ GE190.out) | exact HB.out)⟩
   ·rw [if_neg c4] at H
    have c4b0 : (t189.toList == ([] : List UInt8)) = false := beq_eq_false_iff_ne.mpr c4
    have c4b1 : (t189.toList != ([] : List UInt8)) = true := bne_iff_ne.mpr c4
    obtain rfl := Option.some.inj H
    go_enter Tryd.func17, Tryd.ntmps17
    go_wp2_with (first | ((with_reducible refine gate_callee (f := 18) rfl ?_); refine goesL_ (some 2) rfl rfl Tryd.func18 (by kernel_rfl) rfl #[.string (⟨#[32, 83, 117, 98, 115, 99, 114, 105, 98, 101, 32, 32, 100, 105, 103, 101, 115, 116]⟩ : ByteArray)] rfl am ?_; (with_reducible refine (order_Line.calls k (⟨#[32, 83, 117, 98, 115, 99, 114, 105, 98, 101, 32, 32, 100, 105, 103, 101, 115, 116]⟩ : ByteArray) t187 t188 t189 _ A1.out).mono ?_); rintro e w17 ⟨rfl, hb⟩; refine ⟨_, rfl, ?_⟩; have n0_ := Aside0.mk (below_step bw hb); clear HB; have HB := n0_; clear n0_; (try clear hb); (try clear hb2); (try clear hk); (try clear hi)) | ((with_reducible refine gate_dst (N := 1) rfl ?_); refine box_event ?hg (N := 1) ?hd (cs := #[.int .i64 0, .int .i64 0, .string (⟨#[]⟩ : ByteArray)]) (t := 24) ?hr ?_; (case hd => rfl); (case hg => rfl); (case hr => first | (go_simp; done) | (go_simp; rfl)); intro gb190 hg w18 hbox hb; have n0_ := Aside0.mk (below_step bw hb); have n1_ := Aside0.mk (hbox); have n2_ := Aside0.mk ((by rw [hg]; exact (below_size bw) : w.heap.size ≤ gb190)); have n3_ := Aside0.mk ((by rw [hg]; exact (below_size bw) : w.heap.size ≤ gb190)); clear HB; have HB := n0_; have BK190 := n1_; have GW190 := n2_; have GE190 := n3_; clear n0_ n1_ n2_ n3_; clear hb hbox hg; have hcz19_0 : w18.cell? ⟨gb190, 0, none⟩ = some (.int .i64 0) := (blk_cell BK190.out 0).trans rfl; have hcz19_1 : w18.cell? ⟨gb190, 1, none⟩ = some (.int .i64 0) := (blk_cell BK190.out 1).trans rfl; have hcz19_2 : w18.cell? ⟨gb190, 2, none⟩ = some (.string (⟨#[]⟩ : ByteArray)) := (blk_cell BK190.out 2).trans rfl; have hfz19_0 := blk_frozen BK190.out 0; have hfz19_1 := blk_frozen BK190.out 1; have hfz19_2 := blk_frozen BK190.out 2))
    go_ret
    exact ⟨by first | rfl | (simp [errW_none, errW_some] <;> rfl) | (simp [*, errW_none, errW_some] <;> rfl), by repeat (first | (with_reducible first | exact HB.out | apply below_alloc | apply pw_below_drewN | apply below_drew1 | refine below_set ?_ GE190.out) | exact HB.out)⟩
  ·rw [if_neg c3] at H
   have c3b0 : (t188 == 2) = false := beq_eq_false_iff_ne.mpr c3
   have c3b1 : (t188 != 2) = true := bne_iff_ne.mpr c3
   obtain rfl := Option.some.inj H
   go_enter Tryd.func17, Tryd.ntmps17
   go_wp2_with (first | ((with_reducible refine gate_callee (f := 18) rfl ?_); refine goesL_ (some 2) rfl rfl Tryd.func18 (by kernel_rfl) rfl #[.string (⟨#[32, 83, 117, 98, 115, 99, 114, 105, 98, 101, 32, 32, 100, 105, 103, 101, 115, 116]⟩ : ByteArray)] rfl am ?_; (with_reducible refine (order_Line.calls k (⟨#[32, 83, 117, 98, 115, 99, 114, 105, 98, 101, 32, 32, 100, 105, 103, 101, 115, 116]⟩ : ByteArray) t187 t188 t189 _ A1.out).mono ?_); rintro e w20 ⟨rfl, hb⟩; refine ⟨_, rfl, ?_⟩; have n0_ := Aside0.mk (below_step bw hb); clear HB; have HB := n0_; clear n0_; (try clear hb); (try clear hb2); (try clear hk); (try clear hi)) | ((with_reducible refine gate_dst (N := 1) rfl ?_); refine box_event ?hg (N := 1) ?hd (cs := #[.int .i64 0, .int .i64 0, .string (⟨#[]⟩ : ByteArray)]) (t := 24) ?hr ?_; (case hd => rfl); (case hg => rfl); (case hr => first | (go_simp; done) | (go_simp; rfl)); intro gb190 hg w21 hbox hb; have n0_ := Aside0.mk (below_step bw hb); have n1_ := Aside0.mk (hbox); have n2_ := Aside0.mk ((by rw [hg]; exact (below_size bw) : w.heap.size ≤ gb190)); have n3_ := Aside0.mk ((by rw [hg]; exact (below_size bw) : w.heap.size ≤ gb190)); clear HB; have HB := n0_; have BK190 := n1_; have GW190 := n2_; have GE190 := n3_; clear n0_ n1_ n2_ n3_; clear hb hbox hg; have hcz22_0 : w21.cell? ⟨gb190, 0, none⟩ = some (.int .i64 0) := (blk_cell BK190.out 0).trans rfl; have hcz22_1 : w21.cell? ⟨gb190, 1, none⟩ = some (.int .i64 0) := (blk_cell BK190.out 1).trans rfl; have hcz22_2 : w21.cell? ⟨gb190, 2, none⟩ = some (.string (⟨#[]⟩ : ByteArray)) := (blk_cell BK190.out 2).trans rfl; have hfz22_0 := blk_frozen BK190.out 0; have hfz22_1 := blk_frozen BK190.out 1; have hfz22_2 := blk_frozen BK190.out 2))
   go_ret
   exact ⟨by first | rfl | (simp [errW_none, errW_some] <;> rfl) | (simp [*, errW_none, errW_some] <;> rfl), by repeat (first | (with_reducible first | exact HB.out | apply below_alloc | apply pw_below_drewN | apply below_drew1 | refine below_set ?_ GE190.out) | exact HB.out)⟩
 ·rw [if_neg c2] at H
  have c2b0 : (t187 == 2) = false := beq_eq_false_iff_ne.mpr c2
  have c2b1 : (t187 != 2) = true := bne_iff_ne.mpr c2
  obtain rfl := Option.some.inj H
  go_enter Tryd.func17, Tryd.ntmps17
  go_wp2_with (first | ((with_reducible refine gate_callee (f := 18) rfl ?_); refine goesL_ (some 2) rfl rfl Tryd.func18 (by kernel_rfl) rfl #[.string (⟨#[32, 83, 117, 98, 115, 99, 114, 105, 98, 101, 32, 32, 100, 105, 103, 101, 115, 116]⟩ : ByteArray)] rfl am ?_; (with_reducible refine (order_Line.calls k (⟨#[32, 83, 117, 98, 115, 99, 114, 105, 98, 101, 32, 32, 100, 105, 103, 101, 115, 116]⟩ : ByteArray) t187 t188 t189 _ A1.out).mono ?_); rintro e w23 ⟨rfl, hb⟩; refine ⟨_, rfl, ?_⟩; have n0_ := Aside0.mk (below_step bw hb); clear HB; have HB := n0_; clear n0_; (try clear hb); (try clear hb2); (try clear hk); (try clear hi)) | ((with_reducible refine gate_dst (N := 1) rfl ?_); refine box_event ?hg (N := 1) ?hd (cs := #[.int .i64 0, .int .i64 0, .string (⟨#[]⟩ : ByteArray)]) (t := 24) ?hr ?_; (case hd => rfl); (case hg => rfl); (case hr => first | (go_simp; done) | (go_simp; rfl)); intro gb190 hg w24 hbox hb; have n0_ := Aside0.mk (below_step bw hb); have n1_ := Aside0.mk (hbox); have n2_ := Aside0.mk ((by rw [hg]; exact (below_size bw) : w.heap.size ≤ gb190)); have n3_ := Aside0.mk ((by rw [hg]; exact (below_size bw) : w.heap.size ≤ gb190)); clear HB; have HB := n0_; have BK190 := n1_; have GW190 := n2_; have GE190 := n3_; clear n0_ n1_ n2_ n3_; clear hb hbox hg; have hcz25_0 : w24.cell? ⟨gb190, 0, none⟩ = some (.int .i64 0) := (blk_cell BK190.out 0).trans rfl; have hcz25_1 : w24.cell? ⟨gb190, 1, none⟩ = some (.int .i64 0) := (blk_cell BK190.out 1).trans rfl; have hcz25_2 : w24.cell? ⟨gb190, 2, none⟩ = some (.string (⟨#[]⟩ : ByteArray)) := (blk_cell BK190.out 2).trans rfl; have hfz25_0 := blk_frozen BK190.out 0; have hfz25_1 := blk_frozen BK190.out 1; have hfz25_2 := blk_frozen BK190.out 2))
  go_ret
  exact ⟨by first | rfl | (simp [errW_none, errW_some] <;> rfl) | (simp [*, errW_none, errW_some] <;> rfl), by repeat (first | (with_reducible first | exact HB.out | apply below_alloc | apply pw_below_drewN | apply below_drew1 | refine below_set ?_ GE190.out) | exact HB.out)⟩

end Go.Proofs.YtlomcmdbbnbciaaDoor.Fn
set_option linter.unusedVariables false
namespace Go.Proofs.YtlomcmdbbnbciaaDoor.Pl
def countFrom (s : ByteArray) : Nat → Nat → Nat
  | 0, _ => 0
  | f + 1, pos => if pos < s.size then countFrom s f (pos + (Utf8.decode s pos).2) + 1 else 0
def count (s : ByteArray) : Nat := countFrom s s.size 0
end Go.Proofs.YtlomcmdbbnbciaaDoor.Pl
namespace Go.Proofs.YtlomcmdbbnbciaaDoor.Fn
open Go.RowKit Go.Proofs.YtlomcmdbbnbciaaDoorW.PrintWords

def glyph_Count.f (a0 : ByteArray) : Option Int := if a0.size ≤ 35184372088832 then some (Pl.count a0 : Int) else none

set_option maxHeartbeats 4000000 in
set_option maxRecDepth 100000 in
theorem glyph_Count.calls (a0 : ByteArray) (r : Int) (w : World) (h : glyph_Count.f a0 = some r) :
    Calls Tryd.prog 20 #[.string a0] w fun e w' => e = .returned (.int .i64 r) ∧ Below w.heap.size w w' := by
  unfold glyph_Count.f at h
  by_cases hs : a0.size ≤ 35184372088832
  · rw [if_pos hs] at h
    have HR := hid (Option.some.inj h)
    clear h
    go_enter Tryd.func20, Tryd.ntmps20
    go_wp2
    go_loopw [3] (fun v3 wr => ∃ (pos fuel n : Nat), v3 = .int .i64 n ∧ wr.heap[w.heap.size]? = some (.stringIter a0 pos) ∧ Below w.heap.size w wr ∧ Hid (n + Pl.countFrom a0 fuel pos = Pl.count a0) ∧ a0.size ≤ pos + fuel ∧ n ≤ pos) (fun v3 wr => a0.size - wr.iterPos w.heap.size)
    case atStart =>
      refine ⟨0, a0.size, 0, rfl, ?_, (Below.refl _ w).alloc (by simp) _, hid (by rw [Nat.zero_add]; rfl), by omega, by omega⟩
      have := World.iter_heap w a0 0
      simpa using this
    case round =>
      obtain ⟨pos, fuel, n, rfl, hit, hbw, hacc, hfu, hn⟩ := hrel
      have hsz : w.heap.size < wr.heap.size := (Array.getElem?_eq_some_iff.1 hit).1
      by_cases hp : pos < a0.size
      · have hnx : ∀ ty, (Instr.next (.pointer (some ⟨w.heap.size, 0, none⟩)) true ty).run Tryd.prog wr = _ := fun ty => Lib.run_next_any_at wr w.heap.size a0 pos ty hit hp
        have hwd : 1 ≤ (Utf8.decode a0 pos).2 := Pl.width_pos a0 pos hp
        have hit2 := Lib.iterAt_heap wr w.heap.size a0 pos (pos + (Utf8.decode a0 pos).2) hit
        have hbw2 := Lib.below_iterAt hbw (k := w.heap.size) (by omega) a0 (pos + (Utf8.decode a0 pos).2)
        obtain ⟨f, rfl⟩ : ∃ f, fuel = f + 1 := ⟨fuel - 1, by omega⟩
        have hstep : Hid (n + 1 + Pl.countFrom a0 f (pos + (Utf8.decode a0 pos).2) = Pl.count a0) := by
          have := hacc.out
          rw [Pl.countFrom, if_pos hp] at this
          exact hid (by omega)
        clear hacc
        go_wp2
        go_roundw
        case rel =>
          exact ⟨pos + (Utf8.decode a0 pos).2, f, n + 1, by go_num, hit2, hbw2, hstep, by omega, by omega⟩
        case measure =>
          simp only [World.iterPos, hit2, hit]
          omega
      · have hnx : ∀ ty, (Instr.next (.pointer (some ⟨w.heap.size, 0, none⟩)) true ty).run Tryd.prog wr = _ := fun ty => Lib.run_next_end_at wr w.heap.size a0 pos ty hit hp
        have hend : Hid ((n : Int) = r) := by
          have := hacc.out
          rw [← HR.out]
          cases fuel with
          | zero => rw [Pl.countFrom] at this; exact hid (by omega)
          | succ f => rw [Pl.countFrom, if_neg hp] at this; exact hid (by omega)
        clear hacc
        go_wp2
        go_ret
        exact ⟨by rw [← hend.out]; rfl, hbw⟩
  · rw [if_neg hs] at h
    exact absurd h (by simp)
end Go.Proofs.YtlomcmdbbnbciaaDoor.Fn
set_option linter.unusedVariables false
namespace Go.Proofs.YtlomcmdbbnbciaaDoor
open Go.ChangeShapes Go.WideShapes Go.ChangeAt Go.RowKit

/-! What all rows of this seat share: a world that meets the condition; the premises as the walks want them. -/
theorem own : ownKnob Tryd.prog.godebug = none := by kernel_rfl
theorem laidOut : laidOutB Tryd.prog = true := by kernel_rfl
def listed : List (String × DataW Unit) := [("unicode/utf8.acceptRanges", Rows.laid_unicode_utf8_acceptRanges), ("unicode/utf8.first", Rows.laid_unicode_utf8_first)]
noncomputable def laidWorld (os : Os) : World :=
  let w0 := World.holding Tryd.prog os ⟨#[], #[], []⟩
  let put (h : Array Obj) (g : Nat) (cs : Array Value) : Array Obj := h.modify g fun
    | .cells _ t frozen => .cells cs t frozen
    | o => o
  let h1 := put w0.heap 0 (Lib.firstTab.map fun z => Value.int .u8 z).toArray
  let h2 := put h1 1 ((List.range 16).flatMap fun i => [Value.int .u8 (Lib.accLo i), Value.int .u8 (Lib.accHi i)]).toArray
  { w0 with heap := h2 }
set_option maxRecDepth 100000 in
theorem laid_met (os : Os) (args : Array Value) : laidMetH Tryd.prog listed ((laidWorld os).forCall (fun _ _ => 0) ⟨#[], args, []⟩).memory :=
  laidMetH_of_parts (laidMet_of_run' 8 (by kernel_rfl) (by kernel_rfl)) (by kernel_rfl)

theorem lift_both {H : Type} {enc : TypeId × Value → H} {a : Assume} {C : Checked} {os : Os} {f : FuncId} {fn : Func} {s : ChangeSpec} {conds : List PathCond} {apart fresh handsOn again : Bool} {X : World → Array Value → Prop}
    (hX : ∀ (w w' : World) (args : Array Value), w.heap = w'.heap → X w args → X w' args)
    (own : ownKnob C.prog.godebug = none) (started : os.Started) (noInit : C.prog.inits.idxOf? f = none) (hfn : C.prog.funcs[f]? = some fn)
    (witness : ∃ (w : World) (tape : Tape) (i : Input), w.os = os ∧ (w.forCall tape i).Shaped C.prog ∧ i.vars = [] ∧ Input.okWide C.prog (w.forCall tape i) .any w.heap.size f i ∧
      ((s.pre enc C.prog fn conds apart (w.forCall tape i).memory i.args ∧ X (w.forCall tape i).memory i.args) ∧ sizedMet enc C.prog fn (OpenSpec.ofChange s) apart (w.forCall tape i).memory i.args) ∧ a.holds C.prog (lone (Frame.enter C.prog f i.args .normal) [] (w.forCall tape i)))
    (contract : ∀ (W : World) (base : Nat) (args : Array Value) (ds gs : List (DataW H)) (before : List MemPlace),
      (∀ (j : Nat) t v, fn.params[j]? = some t → args[j]? = some v → Value.okWide C.prog W .any base t v) →
      DataW.Whole enc C.prog fn.params.toList s.vars apart W args.toList ds gs before →
      (DataW.weightsEach C.prog (fn.params.toList ++ s.plain.varTypes C.prog) (ds ++ gs)).all (· ≤ reachBytes) = true → X W args → W.ShapedOpen C.prog →
      Calls C.prog f args W fun e W' => ∃ v, e = .returned v ∧ s.post enc C.prog fn apart fresh handsOn again W args v W') :
    ReturnsInHanded a C os f .any (fun w args => (s.pre enc C.prog fn conds apart w args ∧ X w args) ∧ sizedMet enc C.prog fn (OpenSpec.ofChange s) apart w args) (s.post enc C.prog fn apart fresh handsOn again) := by
  refine returnsInHanded_of_calls own started noInit witness ?_
  intro w tape i _ hsh _ hok hpre _
  obtain ⟨_, _, _, fn', hfn', _, _, _, _, hval⟩ := hok
  have e : fn' = fn := Option.some.inj (hfn'.symm.trans hfn)
  subst e
  obtain ⟨⟨⟨ds, gs, before, hw, _⟩, hx⟩, hz⟩ := hpre
  have hw' := DataW.Whole.of_heap (w' := w.forCall tape i) (by rfl) hw
  refine (contract (w.forCall tape i) w.heap.size i.args ds gs before hval hw' (hz.weights hw) (hX _ _ _ (by rfl) hx) hsh).mono fun e W' ⟨v, he, hp⟩ => ?_
  subst he
  exact ChangeSpec.post_blind hp
end Go.Proofs.YtlomcmdbbnbciaaDoor
set_option linter.unusedVariables false
namespace Go.Proofs.YtlomcmdbbnbciaaDoor.Fn
open Go.RowKit Go.Proofs.YtlomcmdbbnbciaaDoorW.PrintWords

/-! The package variables that the walks read: unicode/utf8's tables; internal/bytealg.MaxLen, some number. -/
structure Glob (w : World) : Prop where
  tabs : Lib.Utf8Tabs 0 1 w
  max : ∃ m : Int, w.cell? ⟨2, 0, none⟩ = some (.int .i64 m)
theorem cell_inside {w : World} {a : Addr} {v : Value} (h : w.cell? a = some v) : a.block < w.heap.size := by
  obtain ⟨o, ho, _⟩ := not_walk_of_cell h
  exact (Array.getElem?_eq_some_iff.1 ho).1
theorem Glob.below {w W : World} (h : Glob w) (hb : Below w.heap.size w W) : Glob W := by
  obtain ⟨m, hm⟩ := h.max
  exact ⟨Utf8Tabs_below h.tabs hb, m, (hb.cell (cell_inside hm)).trans hm⟩
theorem Glob.drawn {w W : World} (h : Glob w) (hd : Drawn0 w W) : Glob W := h.below hd.below
theorem glob_of {W : World} (hL : laidMetH Tryd.prog listed W) (hS : W.ShapedOpen Tryd.prog) : Glob W := by
  have hL' : laidMet Tryd.prog listed W := hL
  have h1 : Lib.VarReads Tryd.prog W "unicode/utf8.first" Lib.firstData := by
    have := Lib.laidMet.reads hL' (n := "unicode/utf8.first") (d := Rows.laid_unicode_utf8_first) (.tail _ (.head _))
    rw [show Rows.laid_unicode_utf8_first = Lib.firstData from Pinned.utf8First_eq] at this
    exact this
  have h2 : Lib.VarReads Tryd.prog W "unicode/utf8.acceptRanges" Lib.acceptData := Lib.laidMet.reads hL' (.head _)
  refine ⟨utf8Tabs_of_reads (ρ := Tryd.lays260_ren) Tryd.lays260 ⟨by kernel_rfl, by kernel_rfl, by kernel_rfl, by kernel_rfl, by kernel_rfl, by kernel_rfl, by kernel_rfl⟩ h1 h2, ?_⟩
  exact cell_of_shapedOpen_int (P := Tryd.prog) (g := 2) (t := 3) (zero := #[.int .i64 0]) hS (of_decide_eq_true (by kernel_rfl)) (by kernel_rfl) rfl (by kernel_rfl) (by kernel_rfl) Tryd.underlying3
end Go.Proofs.YtlomcmdbbnbciaaDoor.Fn
set_option linter.unusedVariables false
namespace Go.Proofs.YtlomcmdbbnbciaaDoor.Pl
def badAt (s : ByteArray) (pos : Nat) : Bool := (Utf8.decode s pos).1 == 65533 && (Utf8.decode s pos).2 == 1
def validFrom (s : ByteArray) : Nat → Nat → Bool
  | 0, _ => true
  | f + 1, pos => if pos < s.size then (if badAt s pos = true then false else validFrom s f (pos + (Utf8.decode s pos).2)) else true
def valid (s : ByteArray) : Bool := validFrom s s.size 0
end Go.Proofs.YtlomcmdbbnbciaaDoor.Pl
namespace Go.Proofs.YtlomcmdbbnbciaaDoor.Fn
open Go.RowKit Go.Proofs.YtlomcmdbbnbciaaDoorW.PrintWords

def glyph_Valid.f (a0 : ByteArray) : Option Bool := if a0.size ≤ 35184372088832 then some (Pl.valid a0) else none

set_option maxHeartbeats 4000000 in
set_option maxRecDepth 100000 in
theorem glyph_bad_calls (a0 : ByteArray) (at_ : Nat) (w : World) (hG : Glob w) (hat : at_ < a0.size) (hs : a0.size ≤ 35184372088832) :
    Calls Tryd.prog 73 #[.string a0, .int .i64 at_, .int .i32 (Utf8.decode a0 at_).1] w fun e w' => e = .returned (.bool (Pl.badAt a0 at_)) ∧ Below w.heap.size w w' := by
  have HG := hid hG.tabs
  have hT : Lib.decodeGo (a0.extract at_ a0.size) = Utf8.decode a0 at_ := by
    unfold Lib.decodeGo
    rw [if_neg (by rw [Lib.tail_size]; omega), Lib.tail_decode, Nat.add_zero]
  by_cases h1 : (Utf8.decode a0 at_).1 = 65533
  · have hb : Pl.badAt a0 at_ = ((Utf8.decode a0 at_).2 == 1) := by unfold Pl.badAt; rw [h1]; rfl
    have hi : (((Utf8.decode a0 at_).2 : Int) == 1) = ((Utf8.decode a0 at_).2 == 1) := by
      rw [Bool.eq_iff_iff, beq_iff_eq, beq_iff_eq]
      omega
    rw [hb, h1]
    have hle : ((at_ : Int) ≤ (a0.size : Int)) = True := eq_true (by omega)
    go_enter Tryd.func73, Tryd.ntmps73
    go_wp2_with (go_at_call 116; refine (Tryd.utf8_DecodeRuneInString (a0.extract at_ a0.size) _ HG.out).mono ?_; rintro e W1 ⟨rfl, b1⟩; rw [hT])
    go_ret
    exact ⟨by rw [← hi]; rfl, b1⟩
  · have hb : Pl.badAt a0 at_ = false := by unfold Pl.badAt; simp [h1]
    have hn : (((Utf8.decode a0 at_).1 : Int) != 65533) = true := by rw [bne_iff_ne]; omega
    have hn2 : (((Utf8.decode a0 at_).1 : Int) = 65533) = False := eq_false (by omega)
    rw [hb]
    go_enter Tryd.func73, Tryd.ntmps73
    go_wp2
    go_ret
    exact ⟨rfl, Below.refl _ _⟩

set_option maxHeartbeats 4000000 in
set_option maxRecDepth 100000 in
theorem glyph_Valid.calls (a0 : ByteArray) (r : Bool) (w : World) (hG : Glob w) (h : glyph_Valid.f a0 = some r) :
    Calls Tryd.prog 22 #[.string a0] w fun e w' => e = .returned (.bool r) ∧ Below w.heap.size w w' := by
  unfold glyph_Valid.f at h
  by_cases hs : a0.size ≤ 35184372088832
  · rw [if_pos hs] at h
    have HR := hid (Option.some.inj h)
    have HG := hid hG
    clear h hG
    go_enter Tryd.func22, Tryd.ntmps22
    go_wp2
    go_loopw [] (fun wr => ∃ (pos fuel : Nat), wr.heap[w.heap.size]? = some (.stringIter a0 pos) ∧ Below w.heap.size w wr ∧ Hid (Pl.validFrom a0 fuel pos = r) ∧ a0.size ≤ pos + fuel) (fun wr => a0.size - wr.iterPos w.heap.size)
    case atStart =>
      refine ⟨0, a0.size, ?_, (Below.refl _ w).alloc (by simp) _, HR.out, by omega⟩
      have := World.iter_heap w a0 0
      simpa using this
    case round =>
      obtain ⟨pos, fuel, hit, hbw, hacc, hfu⟩ := hrel
      have hsz : w.heap.size < wr.heap.size := (Array.getElem?_eq_some_iff.1 hit).1
      by_cases hp : pos < a0.size
      · have hnx : ∀ ty, (Instr.next (.pointer (some ⟨w.heap.size, 0, none⟩)) true ty).run Tryd.prog wr = _ := fun ty => Lib.run_next_any_at wr w.heap.size a0 pos ty hit hp
        have hwd : 1 ≤ (Utf8.decode a0 pos).2 := Pl.width_pos a0 pos hp
        have hit2 := Lib.iterAt_heap wr w.heap.size a0 pos (pos + (Utf8.decode a0 pos).2) hit
        have hbw2 := Lib.below_iterAt hbw (k := w.heap.size) (by omega) a0 (pos + (Utf8.decode a0 pos).2)
        have HG2 := hid (HG.out.below hbw2)
        obtain ⟨f, rfl⟩ : ∃ f, fuel = f + 1 := ⟨fuel - 1, by omega⟩
        have HC := hid (glyph_bad_calls a0 pos _ HG2.out hp hs)
        cases hc : Pl.badAt a0 pos with
        | false =>
          have hstep : Hid (Pl.validFrom a0 f (pos + (Utf8.decode a0 pos).2) = r) := by
            have := hacc.out
            rw [Pl.validFrom, if_pos hp, hc, if_neg (by decide)] at this
            exact this
          clear hacc
          go_wp2_with (go_at_call 73; refine HC.out.mono ?_; rintro e W0 ⟨rfl, b0⟩; rw [hc])
          go_roundw
          case rel =>
            refine ⟨pos + (Utf8.decode a0 pos).2, f, ?_, hbw2.trans (b0.mono (by rw [Lib.iterAt_size]; omega)), hstep, by omega⟩
            rw [b0.block w.heap.size (by rw [Lib.iterAt_size]; exact hsz)]
            exact hit2
          case measure =>
            have hit3 : W0.heap[w.heap.size]? = some (.stringIter a0 (pos + (Utf8.decode a0 pos).2)) := by
              rw [b0.block w.heap.size (by rw [Lib.iterAt_size]; exact hsz)]
              exact hit2
            simp only [World.iterPos, hit3, hit]
            omega
        | true =>
          have hstep : Hid (false = r) := by
            have := hacc.out
            rw [Pl.validFrom, if_pos hp, hc, if_pos rfl] at this
            exact this
          clear hacc
          go_wp2_with (go_at_call 73; refine HC.out.mono ?_; rintro e W0 ⟨rfl, b0⟩; rw [hc])
          go_ret
          exact ⟨by rw [← hstep.out]; rfl, hbw2.trans (b0.mono (by rw [Lib.iterAt_size]; omega))⟩
      · have hnx : ∀ ty, (Instr.next (.pointer (some ⟨w.heap.size, 0, none⟩)) true ty).run Tryd.prog wr = _ := fun ty => Lib.run_next_end_at wr w.heap.size a0 pos ty hit hp
        have hend : Hid (r = true) := by
          have := hacc.out
          show _ = _
          cases fuel with
          | zero => rw [Pl.validFrom] at this; exact this.symm
          | succ f => rw [Pl.validFrom, if_neg hp] at this; exact this.symm
        clear hacc
        go_wp2
        go_ret
        exact ⟨by rw [hend.out]; rfl, hbw⟩
  · rw [if_neg hs] at h
    exact absurd h (by simp)
end Go.Proofs.YtlomcmdbbnbciaaDoor.Fn
-- written by xprint.py of this session over the kit's printer; not trusted: Lean checks it
namespace Go.Proofs.YtlomcmdbbnbciaaDoor.Fn
open Go.RowKit Go.Proofs.YtlomcmdbbnbciaaDoorW.PrintWords Go.Proofs.YtlomcmdbbnbciaaDoorW.PrintLast Go.Proofs.YtlomcmdbbnbciaaDoorW.PrintMore
attribute [local go_sem] max2_int min2_int max_two min_two max_three min_three max_four min_four   -- for this text's walks alone
set_option linter.unusedVariables false
set_option linter.unusedSimpArgs false

attribute [local go_sem high] eqA24
/-! ### bulletinlaw35_OrderBack: function 3 -/
def bulletinlaw35_OrderBack.l0 : Nat → ByteArray → Int → Int → Int → ByteArray → Option (Bool)
 | 0, _, _, _, _, _ => none
 | k + 1, x4, x5, x200000, x200001, x200002 => if (wrap64 (x5 + 1)) < (x4.size : Int) then (if 0 ≤ x5 then (if x5 < (x4.size : Int) then (if (bt x4 x5) = 32 then (if 0 ≤ (wrap64 (x5 + 1)) then (if (bt x4 (wrap64 (x5 + 1))) = 32 then (some false) else (bulletinlaw35_OrderBack.l0 k x4 (wrap64 (x5 + 1)) x200000 x200001 x200002)) else (none)) else (bulletinlaw35_OrderBack.l0 k x4 (wrap64 (x5 + 1)) x200000 x200001 x200002)) else (none)) else (none)) else (if x4.toList = x200002.toList then (if x200001 = 0 then ((glyph_Count.f x4).bind fun t204 => (if t204 ≤ 30 then ((glyph_Fold.f x4).bind fun t205 => (if t205.toList = x4.toList then ((glyph_Valid.f x4).bind fun t206 => (some t206)) else (some false))) else (some false))) else (some false)) else (some false))
def bulletinlaw35_OrderBack.f (k : Nat) (a0 : ByteArray) : Option (Bool) := (bulletinlaw35_works.f k).bind fun t195 => (if t195 = true then (if (a0.size : Int) > 500 then (some true) else ((order_Line.f k a0).bind fun bt196 => ((order_Show.f k bt196.1 bt196.2.1 bt196.2.2).bind fun t200 => (if bt196.1 = 5 then (bulletinlaw35_OrderBack.l0 k t200 0 bt196.1 bt196.2.1 bt196.2.2) else ((order_Line.f k t200).bind fun bt201 => (if (bt201.1 == bt196.1 && (bt201.2.1 == bt196.2.1 && (bt201.2.2.toList == bt196.2.2.toList))) = true then (some (bt196.2.2.toList == ([] : List UInt8))) else (some false))))))) else (some false))
def bulletinlaw35_OrderBack.T8 : Bool × List (List Nat × List Nat) := (true, [([], []), ([0], [0]), ([], []), ([1, 2], [1, 2]), ([3, 1], [3]), ([4], [4]), ([5, 4], [4, 5]), ([6, 4], [4, 6]), ([4, 7], [4, 7]), ([8, 4, 0, 1, 2, 3, 4, 5, 6, 7, 8], [8])])
def bulletinlaw35_OrderBack.B8 : List Nat := [0, 1, 0, 7, 15, 31, 63, 127, 255, 511]
theorem bulletinlaw35_OrderBack.tab8 : rtab .any (opsOf Tryd.f3 8) = bulletinlaw35_OrderBack.T8 := by kernel_rfl
theorem bulletinlaw35_OrderBack.bits8 : waitsOk bulletinlaw35_OrderBack.T8.2 bulletinlaw35_OrderBack.B8 = true := by kernel_rfl
set_option maxHeartbeats 8000000 in
set_option maxRecDepth 100000 in
theorem bulletinlaw35_OrderBack.calls (k : Nat) (a0 : ByteArray) (r : Bool) (w : World) (hG : Glob w) (h : bulletinlaw35_OrderBack.f k a0 = some r) :
  Calls Tryd.prog 3 #[.string a0] w fun e w' => e = .returned (.bool r) ∧ Below w.heap.size w w' := by
 have hu24 := Tryd.underlying24
 have HB := Aside0.mk (Below.refl w.heap.size w)
 have H : ((bulletinlaw35_works.f k).bind fun t195 => (if t195 = true then (if (a0.size : Int) > 500 then (some true) else ((order_Line.f k a0).bind fun bt196 => ((order_Show.f k bt196.1 bt196.2.1 bt196.2.2).bind fun t200 => (if bt196.1 = 5 then (bulletinlaw35_OrderBack.l0 k t200 0 bt196.1 bt196.2.1 bt196.2.2) else ((order_Line.f k t200).bind fun bt201 => (if (bt201.1 == bt196.1 && (bt201.2.1 == bt196.2.1 && (bt201.2.2.toList == bt196.2.2.toList))) = true then (some (bt196.2.2.toList == ([] : List UInt8))) else (some false))))))) else (some false))) = some r := h
 clear h
 replace H := Option.bind_eq_some_iff.mp H
 obtain ⟨t195, A20, H⟩ := H
 replace H : (if t195 = true then (if (a0.size : Int) > 500 then (some true) else ((order_Line.f k a0).bind fun bt196 => ((order_Show.f k bt196.1 bt196.2.1 bt196.2.2).bind fun t200 => (if bt196.1 = 5 then (bulletinlaw35_OrderBack.l0 k t200 0 bt196.1 bt196.2.1 bt196.2.2) else ((order_Line.f k t200).bind fun bt201 => (if (bt201.1 == bt196.1 && (bt201.2.1 == bt196.2.1 && (bt201.2.2.toList == bt196.2.2.toList))) = true then (some (bt196.2.2.toList == ([] : List UInt8))) else (some false))))))) else (some false)) = some r := H
 have A2 := Aside0.mk A20
 clear A20
 by_cases c3 : t195 = true
 ·subst c3
  have H1 : (if (a0.size : Int) > 500 then (some true) else ((order_Line.f k a0).bind fun bt196 => ((order_Show.f k bt196.1 bt196.2.1 bt196.2.2).bind fun t200 => (if bt196.1 = 5 then (bulletinlaw35_OrderBack.l0 k t200 0 bt196.1 bt196.2.1 bt196.2.2) else ((order_Line.f k t200).bind fun bt201 => (if (bt201.1 == bt196.1 && (bt201.2.1 == bt196.2.1 && (bt201.2.2.toList == bt196.2.2.toList))) = true then (some (bt196.2.2.toList == ([] : List UInt8))) else (some false))))))) = some r := by rw [if_pos rfl] at H; exact H
  clear H
  have H := H1
  clear H1
  by_cases c4 : (a0.size : Int) > 500
  ·rw [if_pos c4] at H
   have c4b0 : decide (500 < (a0.size : Int)) = true := decide_eq_true c4
   have c4b1 : decide (500 < a0.size) = true := decide_eq_true (by omega)
   clear c4
   obtain rfl := Option.some.inj H
   go_enter Tryd.func3, Tryd.ntmps3
   go_wp2_with (first | ((with_reducible refine gate_callee (f := 17) rfl ?_); refine goesL_ (some 6) rfl rfl Tryd.func17 (by kernel_rfl) rfl #[] rfl am ?_; (with_reducible refine (bulletinlaw35_works.calls k  true _ A2.out).mono ?_); rintro e w5 ⟨rfl, hb⟩; refine ⟨_, rfl, ?_⟩; have n0_ := Aside0.mk (below_step bw hb); clear HB; have HB := n0_; clear n0_; (try clear hb); (try clear hb2); (try clear hk); (try clear hi)))
   go_ret
   exact ⟨by first | rfl | (simp [errW_none, errW_some] <;> rfl) | (simp [*, errW_none, errW_some] <;> rfl), by repeat (first | (with_reducible first | exact HB.out | apply below_alloc | apply pw_below_drewN | apply below_drew1) | exact HB.out)⟩
  ·rw [if_neg c4] at H
   have c4b0 : decide (500 < (a0.size : Int)) = false := decide_eq_false c4
   have c4b1 : decide (500 < a0.size) = false := decide_eq_false (by omega)
   clear c4
   replace H := Option.bind_eq_some_iff.mp H
   obtain ⟨⟨t196, t197, t198⟩, A60, H⟩ := H
   replace H : ((order_Show.f k t196 t197 t198).bind fun t200 => (if t196 = 5 then (bulletinlaw35_OrderBack.l0 k t200 0 t196 t197 t198) else ((order_Line.f k t200).bind fun bt201 => (if (bt201.1 == t196 && (bt201.2.1 == t197 && (bt201.2.2.toList == t198.toList))) = true then (some (t198.toList == ([] : List UInt8))) else (some false))))) = some r := H
   have A6 := Aside0.mk A60
   clear A60
   replace H := Option.bind_eq_some_iff.mp H
   obtain ⟨t200, A70, H⟩ := H
   replace H : (if t196 = 5 then (bulletinlaw35_OrderBack.l0 k t200 0 t196 t197 t198) else ((order_Line.f k t200).bind fun bt201 => (if (bt201.1 == t196 && (bt201.2.1 == t197 && (bt201.2.2.toList == t198.toList))) = true then (some (t198.toList == ([] : List UInt8))) else (some false)))) = some r := H
   have A7 := Aside0.mk A70
   clear A70
   by_cases c8 : t196 = 5
   ·rw [if_pos c8] at H
    have c8b0 : (t196 == 5) = true := beq_iff_eq.mpr c8
    have c8b1 : (t196 != 5) = false := bne_eq_false_iff_eq.mpr c8
    clear c8
    have H' := Aside0.mk H
    clear H
    go_enter Tryd.func3, Tryd.ntmps3
    go_wp2_with (first | ((with_reducible refine gate_callee (f := 17) rfl ?_); refine goesL_ (some 6) rfl rfl Tryd.func17 (by kernel_rfl) rfl #[] rfl am ?_; (with_reducible refine (bulletinlaw35_works.calls k  true _ A2.out).mono ?_); rintro e w9 ⟨rfl, hb⟩; refine ⟨_, rfl, ?_⟩; have n0_ := Aside0.mk (below_step bw hb); clear HB; have HB := n0_; clear n0_; (try clear hb); (try clear hb2); (try clear hk); (try clear hi)) | ((with_reducible refine gate_callee (f := 18) rfl ?_); refine goesL_ (some 12) rfl rfl Tryd.func18 (by kernel_rfl) rfl #[.string a0] rfl am ?_; (with_reducible refine (order_Line.calls k a0 t196 t197 t198 _ A6.out).mono ?_); rintro e w10 ⟨rfl, hb⟩; refine ⟨_, rfl, ?_⟩; have n0_ := Aside0.mk (below_step bw hb); clear HB; have HB := n0_; clear n0_; (try clear hb); (try clear hb2); (try clear hk); (try clear hi)) | ((with_reducible refine gate_dst (N := 3) rfl ?_); refine box_event ?hg (N := 3) ?hd (cs := #[.int .i64 0, .int .i64 0, .string (⟨#[]⟩ : ByteArray)]) (t := 24) ?hr ?_; (case hd => rfl); (case hg => rfl); (case hr => first | (go_simp; done) | (go_simp; rfl)); intro gb199 hg w11 hbox hb; have n0_ := Aside0.mk (below_step bw hb); have n1_ := Aside0.mk (hbox); have n2_ := Aside0.mk ((by rw [hg]; exact (below_size bw) : w.heap.size ≤ gb199)); have n3_ := Aside0.mk ((by rw [hg]; exact (below_size bw) : w.heap.size ≤ gb199)); clear HB; have HB := n0_; have BK199 := n1_; have GW199 := n2_; have GE199 := n3_; clear n0_ n1_ n2_ n3_; clear hb hbox hg; have hcz12_0 : w11.cell? ⟨gb199, 0, none⟩ = some (.int .i64 0) := (blk_cell BK199.out 0).trans rfl; have hcz12_1 : w11.cell? ⟨gb199, 1, none⟩ = some (.int .i64 0) := (blk_cell BK199.out 1).trans rfl; have hcz12_2 : w11.cell? ⟨gb199, 2, none⟩ = some (.string (⟨#[]⟩ : ByteArray)) := (blk_cell BK199.out 2).trans rfl; have hfz12_0 := blk_frozen BK199.out 0; have hfz12_1 := blk_frozen BK199.out 1; have hfz12_2 := blk_frozen BK199.out 2) | ((with_reducible refine gate_callee (f := 19) rfl ?_); refine goesL_ (some 14) rfl rfl Tryd.func19 (by kernel_rfl) rfl #[.agg #[.int .i64 t196, .int .i64 t197, .string t198]] rfl am ?_; (with_reducible refine (order_Show.calls k t196 t197 t198 t200 _ A7.out).mono ?_); rintro e w13 ⟨rfl, hb⟩; refine ⟨_, rfl, ?_⟩; have n0_ := Aside0.mk (blk_below (g := gb199) (o := .cells #[.int .i64 t196, .int .i64 t197, .string t198] 24 (0, 0)) (by (with_reducible repeat (first | refine blk_drewN ?_ _ | refine blk_drew ?_ | refine blk_alloc ?_ _)); refine blk_put (cs := #[.int .i64 t196, .int .i64 t197, .string (⟨#[]⟩ : ByteArray)]) ?_ 2 _ rfl; (with_reducible repeat (first | refine blk_drewN ?_ _ | refine blk_drew ?_ | refine blk_alloc ?_ _)); refine blk_put (cs := #[.int .i64 t196, .int .i64 0, .string (⟨#[]⟩ : ByteArray)]) ?_ 1 _ rfl; (with_reducible repeat (first | refine blk_drewN ?_ _ | refine blk_drew ?_ | refine blk_alloc ?_ _)); refine blk_put (cs := #[.int .i64 0, .int .i64 0, .string (⟨#[]⟩ : ByteArray)]) ?_ 0 _ rfl; (with_reducible repeat (first | refine blk_drewN ?_ _ | refine blk_drew ?_ | refine blk_alloc ?_ _)); exact BK199.out) hb); have n1_ := Aside0.mk (below_step bwS hb); clear BK199; clear HB; have BK199 := n0_; have HB := n1_; clear n0_ n1_; (try clear hb); (try clear hb2); (try clear hk); (try clear hi); have hcz14_0 : w13.cell? ⟨gb199, 0, none⟩ = some (.int .i64 t196) := (blk_cell BK199.out 0).trans rfl; have hcz14_1 : w13.cell? ⟨gb199, 1, none⟩ = some (.int .i64 t197) := (blk_cell BK199.out 1).trans rfl; have hcz14_2 : w13.cell? ⟨gb199, 2, none⟩ = some (.string t198) := (blk_cell BK199.out 2).trans rfl; have hfz14_0 := blk_frozen BK199.out 0; have hfz14_1 := blk_frozen BK199.out 1; have hfz14_2 := blk_frozen BK199.out 2))
    go_loopg [5] k (fun kq v5 w' => ∃ (x5_1 : Int), v5 = .int .i64 x5_1 ∧ Aside0 (bulletinlaw35_OrderBack.l0 kq t200 x5_1 t196 t197 t198 = some r) ∧ Aside0 (kq ≤ k) ∧ Aside0 (w'.heap[gb199]? = some (.cells #[.int .i64 t196, .int .i64 t197, .string t198] 24 (0, 0))) ∧ Aside0 (Below w.heap.size w w'))
    case atStart => exact ⟨(0), cl, H', ⟨Nat.le_refl _⟩, ⟨by (with_reducible repeat (first | refine blk_drewN ?_ _ | refine blk_drew ?_ | refine blk_alloc ?_ _)); exact BK199.out⟩, ⟨by repeat (first | (with_reducible first | exact HB.out | apply below_alloc | apply pw_below_drewN | apply below_drew1 | refine below_set ?_ GE199.out) | exact HB.out)⟩⟩
    case round =>
     clear H'
     try clear c1
     try clear p2
     try clear c3
     try clear c4
     try clear c4b0
     try clear c4b1
     try clear c8
     try clear c8b0
     try clear c8b1
     try clear hcz12_0
     try clear hcz12_1
     try clear hcz12_2
     try clear hcz14_0
     try clear hcz14_1
     try clear hcz14_2
     try clear hfz12_0
     try clear hfz12_1
     try clear hfz12_2
     try clear hfz14_0
     try clear hfz14_1
     try clear hfz14_2
     obtain ⟨x5_1, rfl, HA, HK1, BK199, HB⟩ := hrel
     cases gk with
     | zero => exact absurd HA.out (by simp [bulletinlaw35_OrderBack.l0])
     | succ k1 =>
      have H := HA.out
      clear HA
      simp only [bulletinlaw35_OrderBack.l0] at H
      by_cases c15 : (wrap64 (x5_1 + 1)) < (t200.size : Int)
      ·rw [if_pos c15] at H
       have c15b0 : decide ((wrap64 (x5_1 + 1)) < (t200.size : Int)) = true := decide_eq_true c15
       clear c15
       by_cases c16 : 0 ≤ x5_1
       ·rw [if_pos c16] at H
        have c16b0 : decide (0 ≤ x5_1) = true := decide_eq_true c16
        clear c16
        by_cases c17 : x5_1 < (t200.size : Int)
        ·rw [if_pos c17] at H
         have c17b0 : decide (x5_1 < (t200.size : Int)) = true := decide_eq_true c17
         clear c17
         by_cases c19 : (bt t200 x5_1) = 32
         ·rw [if_pos c19] at H
          have c19b0 : ((bt t200 x5_1) == 32) = true := beq_iff_eq.mpr c19
          have c19b1 : ((bt t200 x5_1) != 32) = false := bne_eq_false_iff_eq.mpr c19
          clear c19
          obtain ⟨ji20, hji20⟩ : ∃ j_ : Int, (wrap64 (x5_1 + 1)) = j_ := ⟨_, rfl⟩
          replace H : (if 0 ≤ (ji20) then (if (bt t200 (ji20)) = 32 then (some false) else (bulletinlaw35_OrderBack.l0 k1 t200 ji20 t196 t197 t198)) else (none)) = some r := by first | (rw [hji20] at H; exact H) | (simp only [hji20] at H ⊢; exact H)
          (try rw [hji20] at c15b0)
          have hji20w : (IntKind.i64.wrap (x5_1 + 1)) = ji20 := (i64_w _).trans hji20
          by_cases c21 : 0 ≤ (ji20)
          ·rw [if_pos c21] at H
           have c21b0 : decide (0 ≤ (ji20)) = true := decide_eq_true c21
           clear c21
           by_cases c23 : (bt t200 (ji20)) = 32
           ·rw [if_pos c23] at H
            have c23b0 : ((bt t200 (ji20)) == 32) = true := beq_iff_eq.mpr c23
            have c23b1 : ((bt t200 (ji20)) != 32) = false := bne_eq_false_iff_eq.mpr c23
            clear c23
            obtain rfl := Option.some.inj H
            have p18 : 0 ≤ (x5_1 : Int) := od
            have q18 : x5_1 < (t200.size : Int) := od
            have hx18 := bt_at t200 x5_1
            replace p18 := eq_true p18
            replace q18 := eq_true q18
            have p22 : 0 ≤ ((ji20) : Int) := od
            have q22 : (ji20) < (t200.size : Int) := od
            have hx22 := bt_at t200 (ji20)
            replace p22 := eq_true p22
            replace q22 := eq_true q22
            go_wp2
            go_ret
            exact ⟨by first | rfl | (simp [errW_none, errW_some] <;> rfl) | (simp only [← hji20]; first | rfl | (simp [errW_none, errW_some] <;> rfl)) | (simp [*, errW_none, errW_some] <;> rfl), by repeat (first | (with_reducible first | exact HB.out | apply below_alloc | apply pw_below_drewN | apply below_drew1 | refine below_set ?_ GE199.out) | exact HB.out)⟩
           ·rw [if_neg c23] at H
            have c23b0 : ((bt t200 (ji20)) == 32) = false := beq_eq_false_iff_ne.mpr c23
            have c23b1 : ((bt t200 (ji20)) != 32) = true := bne_iff_ne.mpr c23
            have H' := Aside0.mk H
            clear H
            have p18 : 0 ≤ (x5_1 : Int) := od
            have q18 : x5_1 < (t200.size : Int) := od
            have hx18 := bt_at t200 x5_1
            replace p18 := eq_true p18
            replace q18 := eq_true q18
            have p22 : 0 ≤ ((ji20) : Int) := od
            have q22 : (ji20) < (t200.size : Int) := od
            have hx22 := bt_at t200 (ji20)
            replace p22 := eq_true p22
            replace q22 := eq_true q22
            go_wp2
            go_roundg k1
            case measure => have := HK1.out; omega
            case rel => exact ⟨(ji20), (by first | rfl | (simp; done) | (simp only [← hji20] <;> (first | rfl | simp)) | (simp [*]; done) | (simp [nil_ne]; done)), H', ⟨by have := HK1.out; omega⟩, ⟨by (with_reducible repeat (first | refine blk_drewN ?_ _ | refine blk_drew ?_ | refine blk_alloc ?_ _)); exact BK199.out⟩, ⟨by repeat (first | (with_reducible first | exact HB.out | apply below_alloc | apply pw_below_drewN | apply below_drew1 | refine below_set ?_ GE199.out) | exact HB.out)⟩⟩
          ·rw [if_neg c21] at H
           exact absurd H (by simp)
         ·rw [if_neg c19] at H
          have c19b0 : ((bt t200 x5_1) == 32) = false := beq_eq_false_iff_ne.mpr c19
          have c19b1 : ((bt t200 x5_1) != 32) = true := bne_iff_ne.mpr c19
          have H' := Aside0.mk H
          clear H
          have p18 : 0 ≤ (x5_1 : Int) := od
          have q18 : x5_1 < (t200.size : Int) := od
          have hx18 := bt_at t200 x5_1
          replace p18 := eq_true p18
          replace q18 := eq_true q18
          go_wp2
          go_roundg k1
          case measure => have := HK1.out; omega
          case rel => exact ⟨(wrap64 (x5_1 + 1)), cl, H', ⟨by have := HK1.out; omega⟩, ⟨by (with_reducible repeat (first | refine blk_drewN ?_ _ | refine blk_drew ?_ | refine blk_alloc ?_ _)); exact BK199.out⟩, ⟨by repeat (first | (with_reducible first | exact HB.out | apply below_alloc | apply pw_below_drewN | apply below_drew1 | refine below_set ?_ GE199.out) | exact HB.out)⟩⟩
        ·rw [if_neg c17] at H
         exact absurd H (by simp)
       ·rw [if_neg c16] at H
        exact absurd H (by simp)
      ·rw [if_neg c15] at H
       have c15b0 : decide ((wrap64 (x5_1 + 1)) < (t200.size : Int)) = false := decide_eq_false c15
       clear c15
       by_cases c24 : t200.toList = t198.toList
       ·rw [if_pos c24] at H
        have c24b0 : (t200.toList == t198.toList) = true := beq_iff_eq.mpr c24
        have c24b1 : (t200.toList != t198.toList) = false := bne_eq_false_iff_eq.mpr c24
        clear c24
        by_cases c25 : t197 = 0
        ·rw [if_pos c25] at H
         have c25b0 : (t197 == 0) = true := beq_iff_eq.mpr c25
         have c25b1 : (t197 != 0) = false := bne_eq_false_iff_eq.mpr c25
         clear c25
         replace H := Option.bind_eq_some_iff.mp H
         obtain ⟨t204, A260, H⟩ := H
         replace H : (if t204 ≤ 30 then ((glyph_Fold.f t200).bind fun t205 => (if t205.toList = t200.toList then ((glyph_Valid.f t200).bind fun t206 => (some t206)) else (some false))) else (some false)) = some r := H
         have A26 := Aside0.mk A260
         clear A260
         by_cases c27 : t204 ≤ 30
         ·rw [if_pos c27] at H
          have c27b0 : decide (t204 ≤ 30) = true := decide_eq_true c27
          clear c27
          replace H := Option.bind_eq_some_iff.mp H
          obtain ⟨t205, A280, H⟩ := H
          replace H : (if t205.toList = t200.toList then ((glyph_Valid.f t200).bind fun t206 => (some t206)) else (some false)) = some r := H
          have A28 := Aside0.mk A280
          clear A280
          by_cases c29 : t205.toList = t200.toList
          ·rw [if_pos c29] at H
           have c29b0 : (t205.toList == t200.toList) = true := beq_iff_eq.mpr c29
           have c29b1 : (t205.toList != t200.toList) = false := bne_eq_false_iff_eq.mpr c29
           clear c29
           replace H := Option.bind_eq_some_iff.mp H
           obtain ⟨t206, A300, H⟩ := H
           replace H : (some t206) = some r := H
           have A30 := Aside0.mk A300
           clear A300
           obtain rfl := Option.some.inj H
           have hcz31_0 : wr.cell? ⟨gb199, 0, none⟩ = some (.int .i64 t196) := (blk_cell BK199.out 0).trans rfl
           have hcz31_1 : wr.cell? ⟨gb199, 1, none⟩ = some (.int .i64 t197) := (blk_cell BK199.out 1).trans rfl
           have hcz31_2 : wr.cell? ⟨gb199, 2, none⟩ = some (.string t198) := (blk_cell BK199.out 2).trans rfl
           have hfz31_0 := blk_frozen BK199.out 0
           have hfz31_1 := blk_frozen BK199.out 1
           have hfz31_2 := blk_frozen BK199.out 2
           go_wp2_with (first | (go_at_call 20; (with_reducible refine (glyph_Count.calls t200 t204 _ A26.out).mono ?_); rintro e w32 ⟨rfl, hb⟩; have n0_ := Aside0.mk (blk_below (g := gb199) (o := .cells #[.int .i64 t196, .int .i64 t197, .string t198] 24 (0, 0)) bk hb); have n1_ := Aside0.mk (below_step bwS hb); clear BK199; clear HB; have BK199 := n0_; have HB := n1_; clear n0_ n1_; (try clear hb); (try clear hb2); (try clear hk); (try clear hi)) | (go_at_call 21; (with_reducible refine (glyph_Fold.calls t200 t205 _ A28.out).mono ?_); rintro e w33 ⟨rfl, hb⟩; have n0_ := Aside0.mk (blk_below (g := gb199) (o := .cells #[.int .i64 t196, .int .i64 t197, .string t198] 24 (0, 0)) bk hb); have n1_ := Aside0.mk (below_step bwS hb); clear BK199; clear HB; have BK199 := n0_; have HB := n1_; clear n0_ n1_; (try clear hb); (try clear hb2); (try clear hk); (try clear hi)) | (go_at_call 22; (with_reducible refine (glyph_Valid.calls (hG := by first | exact hG | exact Glob.below hG (by first | exact HB.out | (repeat (first | (with_reducible first | exact HB.out | apply below_alloc | apply pw_below_drewN | apply below_drew1) | exact HB.out))) | exact Glob.drawn hG (by repeat (first | exact Drawn0.refl _ | apply Drawn0.step))) t200 t206 _ A30.out).mono ?_); rintro e w34 ⟨rfl, hb⟩; have n0_ := Aside0.mk (blk_below (g := gb199) (o := .cells #[.int .i64 t196, .int .i64 t197, .string t198] 24 (0, 0)) bk hb); have n1_ := Aside0.mk (below_step bwS hb); clear BK199; clear HB; have BK199 := n0_; have HB := n1_; clear n0_ n1_; (try clear hb); (try clear hb2); (try clear hk); (try clear hi)))
           go_ret
           exact ⟨by first | rfl | (simp [errW_none, errW_some] <;> rfl) | (simp [*, errW_none, errW_some] <;> rfl), by repeat (first | (with_reducible first | exact HB.out | apply below_alloc | apply pw_below_drewN | apply below_drew1 | refine below_set ?_ GE199.out) | exact HB.out)⟩
          ·rw [if_neg c29] at H
           have c29b0 : (t205.toList == t200.toList) = false := beq_eq_false_iff_ne.mpr c29
           have c29b1 : (t205.toList != t200.toList) = true := bne_iff_ne.mpr c29
           obtain rfl := Option.some.inj H
           have hcz35_0 : wr.cell? ⟨gb199, 0, none⟩ = some (.int .i64 t196) := (blk_cell BK199.out 0).trans rfl
           have hcz35_1 : wr.cell? ⟨gb199, 1, none⟩ = some (.int .i64 t197) := (blk_cell BK199.out 1).trans rfl
           have hcz35_2 : wr.cell? ⟨gb199, 2, none⟩ = some (.string t198) := (blk_cell BK199.out 2).trans rfl
           have hfz35_0 := blk_frozen BK199.out 0
           have hfz35_1 := blk_frozen BK199.out 1
           have hfz35_2 := blk_frozen BK199.out 2
           go_wp2_with (first | (go_at_call 20; (with_reducible refine (glyph_Count.calls t200 t204 _ A26.out).mono ?_); rintro e w36 ⟨rfl, hb⟩; have n0_ := Aside0.mk (blk_below (g := gb199) (o := .cells #[.int .i64 t196, .int .i64 t197, .string t198] 24 (0, 0)) bk hb); have n1_ := Aside0.mk (below_step bwS hb); clear BK199; clear HB; have BK199 := n0_; have HB := n1_; clear n0_ n1_; (try clear hb); (try clear hb2); (try clear hk); (try clear hi)) | (go_at_call 21; (with_reducible refine (glyph_Fold.calls t200 t205 _ A28.out).mono ?_); rintro e w37 ⟨rfl, hb⟩; have n0_ := Aside0.mk (blk_below (g := gb199) (o := .cells #[.int .i64 t196, .int .i64 t197, .string t198] 24 (0, 0)) bk hb); have n1_ := Aside0.mk (below_step bwS hb); clear BK199; clear HB; have BK199 := n0_; have HB := n1_; clear n0_ n1_; (try clear hb); (try clear hb2); (try clear hk); (try clear hi)))
           go_ret
           exact ⟨by first | rfl | (simp [errW_none, errW_some] <;> rfl) | (simp [*, errW_none, errW_some] <;> rfl), by repeat (first | (with_reducible first | exact HB.out | apply below_alloc | apply pw_below_drewN | apply below_drew1 | refine below_set ?_ GE199.out) | exact HB.out)⟩
         ·rw [if_neg c27] at H
          have c27b0 : decide (t204 ≤ 30) = false := decide_eq_false c27
          clear c27
          obtain rfl := Option.some.inj H
          have hcz38_0 : wr.cell? ⟨gb199, 0, none⟩ = some (.int .i64 t196) := (blk_cell BK199.out 0).trans rfl
          have hcz38_1 : wr.cell? ⟨gb199, 1, none⟩ = some (.int .i64 t197) := (blk_cell BK199.out 1).trans rfl
          have hcz38_2 : wr.cell? ⟨gb199, 2, none⟩ = some (.string t198) := (blk_cell BK199.out 2).trans rfl
          have hfz38_0 := blk_frozen BK199.out 0
          have hfz38_1 := blk_frozen BK199.out 1
          have hfz38_2 := blk_frozen BK199.out 2
          go_wp2_with (first | (go_at_call 20; (with_reducible refine (glyph_Count.calls t200 t204 _ A26.out).mono ?_); rintro e w39 ⟨rfl, hb⟩; have n0_ := Aside0.mk (blk_below (g := gb199) (o := .cells #[.int .i64 t196, .int .i64 t197, .string t198] 24 (0, 0)) bk hb); have n1_ := Aside0.mk (below_step bwS hb); clear BK199; clear HB; have BK199 := n0_; have HB := n1_; clear n0_ n1_; (try clear hb); (try clear hb2); (try clear hk); (try clear hi)))
          go_ret
          exact ⟨by first | rfl | (simp [errW_none, errW_some] <;> rfl) | (simp [*, errW_none, errW_some] <;> rfl), by repeat (first | (with_reducible first | exact HB.out | apply below_alloc | apply pw_below_drewN | apply below_drew1 | refine below_set ?_ GE199.out) | exact HB.out)⟩
        ·rw [if_neg c25] at H
         have c25b0 : (t197 == 0) = false := beq_eq_false_iff_ne.mpr c25
         have c25b1 : (t197 != 0) = true := bne_iff_ne.mpr c25
         obtain rfl := Option.some.inj H
         have hcz40_0 : wr.cell? ⟨gb199, 0, none⟩ = some (.int .i64 t196) := (blk_cell BK199.out 0).trans rfl
         have hcz40_1 : wr.cell? ⟨gb199, 1, none⟩ = some (.int .i64 t197) := (blk_cell BK199.out 1).trans rfl
         have hcz40_2 : wr.cell? ⟨gb199, 2, none⟩ = some (.string t198) := (blk_cell BK199.out 2).trans rfl
         have hfz40_0 := blk_frozen BK199.out 0
         have hfz40_1 := blk_frozen BK199.out 1
         have hfz40_2 := blk_frozen BK199.out 2
         go_wp2
         go_ret
         exact ⟨by first | rfl | (simp [errW_none, errW_some] <;> rfl) | (simp [*, errW_none, errW_some] <;> rfl), by repeat (first | (with_reducible first | exact HB.out | apply below_alloc | apply pw_below_drewN | apply below_drew1 | refine below_set ?_ GE199.out) | exact HB.out)⟩
       ·rw [if_neg c24] at H
        have c24b0 : (t200.toList == t198.toList) = false := beq_eq_false_iff_ne.mpr c24
        have c24b1 : (t200.toList != t198.toList) = true := bne_iff_ne.mpr c24
        obtain rfl := Option.some.inj H
        have hcz41_0 : wr.cell? ⟨gb199, 0, none⟩ = some (.int .i64 t196) := (blk_cell BK199.out 0).trans rfl
        have hcz41_1 : wr.cell? ⟨gb199, 1, none⟩ = some (.int .i64 t197) := (blk_cell BK199.out 1).trans rfl
        have hcz41_2 : wr.cell? ⟨gb199, 2, none⟩ = some (.string t198) := (blk_cell BK199.out 2).trans rfl
        have hfz41_0 := blk_frozen BK199.out 0
        have hfz41_1 := blk_frozen BK199.out 1
        have hfz41_2 := blk_frozen BK199.out 2
        go_wp2
        go_ret
        exact ⟨by first | rfl | (simp [errW_none, errW_some] <;> rfl) | (simp [*, errW_none, errW_some] <;> rfl), by repeat (first | (with_reducible first | exact HB.out | apply below_alloc | apply pw_below_drewN | apply below_drew1 | refine below_set ?_ GE199.out) | exact HB.out)⟩
   ·rw [if_neg c8] at H
    have c8b0 : (t196 == 5) = false := beq_eq_false_iff_ne.mpr c8
    have c8b1 : (t196 != 5) = true := bne_iff_ne.mpr c8
    replace H := Option.bind_eq_some_iff.mp H
    obtain ⟨⟨t201, t202, t203⟩, A420, H⟩ := H
    replace H : (if (t201 == t196 && (t202 == t197 && (t203.toList == t198.toList))) = true then (some (t198.toList == ([] : List UInt8))) else (some false)) = some r := H
    have A42 := Aside0.mk A420
    clear A420
    by_cases c43 : (t201 == t196 && (t202 == t197 && (t203.toList == t198.toList))) = true
    ·rw [if_pos c43] at H
     have c43b0 : (t201 == t196 && (t202 == t197 && (t203.toList == t198.toList))) = true := c43
     (try (have c43b1 : decide (t201 = t196 && (t202 == t197 && (t203.toList == t198.toList))) = true := by simpa using c43))
     (try (have c43b2 : (t201 == t196 && (t202 == t197 && (t203.toList == t198.toList))) = true := by simpa using c43))
     clear c43
     obtain rfl := Option.some.inj H
     go_enter Tryd.func3, Tryd.ntmps3
     try go_wp2_with (first | ((with_reducible refine gate_callee (f := 17) rfl ?_); refine goesL_ (some 6) rfl rfl Tryd.func17 (by kernel_rfl) rfl #[] rfl am ?_; (with_reducible refine (bulletinlaw35_works.calls k  true _ A2.out).mono ?_); rintro e w44 ⟨rfl, hb⟩; refine ⟨_, rfl, ?_⟩; have n0_ := Aside0.mk (below_step bw hb); clear HB; have HB := n0_; clear n0_; (try clear hb); (try clear hb2); (try clear hk); (try clear hi)) | ((with_reducible refine gate_callee (f := 18) rfl ?_); refine goesL_ (some 12) rfl rfl Tryd.func18 (by kernel_rfl) rfl #[.string a0] rfl am ?_; (with_reducible refine (order_Line.calls k a0 t196 t197 t198 _ A6.out).mono ?_); rintro e w45 ⟨rfl, hb⟩; refine ⟨_, rfl, ?_⟩; have n0_ := Aside0.mk (below_step bw hb); clear HB; have HB := n0_; clear n0_; (try clear hb); (try clear hb2); (try clear hk); (try clear hi)) | ((with_reducible refine gate_dst (N := 3) rfl ?_); refine box_event ?hg (N := 3) ?hd (cs := #[.int .i64 0, .int .i64 0, .string (⟨#[]⟩ : ByteArray)]) (t := 24) ?hr ?_; (case hd => rfl); (case hg => rfl); (case hr => first | (go_simp; done) | (go_simp; rfl)); intro gb199 hg w46 hbox hb; have n0_ := Aside0.mk (below_step bw hb); have n1_ := Aside0.mk (hbox); have n2_ := Aside0.mk ((by rw [hg]; exact (below_size bw) : w.heap.size ≤ gb199)); have n3_ := Aside0.mk ((by rw [hg]; exact (below_size bw) : w.heap.size ≤ gb199)); clear HB; have HB := n0_; have BK199 := n1_; have GW199 := n2_; have GE199 := n3_; clear n0_ n1_ n2_ n3_; clear hb hbox hg; have hcz47_0 : w46.cell? ⟨gb199, 0, none⟩ = some (.int .i64 0) := (blk_cell BK199.out 0).trans rfl; have hcz47_1 : w46.cell? ⟨gb199, 1, none⟩ = some (.int .i64 0) := (blk_cell BK199.out 1).trans rfl; have hcz47_2 : w46.cell? ⟨gb199, 2, none⟩ = some (.string (⟨#[]⟩ : ByteArray)) := (blk_cell BK199.out 2).trans rfl; have hfz47_0 := blk_frozen BK199.out 0; have hfz47_1 := blk_frozen BK199.out 1; have hfz47_2 := blk_frozen BK199.out 2) | ((with_reducible refine gate_callee (f := 19) rfl ?_); refine goesL_ (some 14) rfl rfl Tryd.func19 (by kernel_rfl) rfl #[.agg #[.int .i64 t196, .int .i64 t197, .string t198]] rfl am ?_; (with_reducible refine (order_Show.calls k t196 t197 t198 t200 _ A7.out).mono ?_); rintro e w48 ⟨rfl, hb⟩; refine ⟨_, rfl, ?_⟩; have n0_ := Aside0.mk (blk_below (g := gb199) (o := .cells #[.int .i64 t196, .int .i64 t197, .string t198] 24 (0, 0)) (by (with_reducible repeat (first | refine blk_drewN ?_ _ | refine blk_drew ?_ | refine blk_alloc ?_ _)); refine blk_put (cs := #[.int .i64 t196, .int .i64 t197, .string (⟨#[]⟩ : ByteArray)]) ?_ 2 _ rfl; (with_reducible repeat (first | refine blk_drewN ?_ _ | refine blk_drew ?_ | refine blk_alloc ?_ _)); refine blk_put (cs := #[.int .i64 t196, .int .i64 0, .string (⟨#[]⟩ : ByteArray)]) ?_ 1 _ rfl; (with_reducible repeat (first | refine blk_drewN ?_ _ | refine blk_drew ?_ | refine blk_alloc ?_ _)); refine blk_put (cs := #[.int .i64 0, .int .i64 0, .string (⟨#[]⟩ : ByteArray)]) ?_ 0 _ rfl; (with_reducible repeat (first | refine blk_drewN ?_ _ | refine blk_drew ?_ | refine blk_alloc ?_ _)); exact BK199.out) hb); have n1_ := Aside0.mk (below_step bwS hb); clear BK199; clear HB; have BK199 := n0_; have HB := n1_; clear n0_ n1_; (try clear hb); (try clear hb2); (try clear hk); (try clear hi); have hcz49_0 : w48.cell? ⟨gb199, 0, none⟩ = some (.int .i64 t196) := (blk_cell BK199.out 0).trans rfl; have hcz49_1 : w48.cell? ⟨gb199, 1, none⟩ = some (.int .i64 t197) := (blk_cell BK199.out 1).trans rfl; have hcz49_2 : w48.cell? ⟨gb199, 2, none⟩ = some (.string t198) := (blk_cell BK199.out 2).trans rfl; have hfz49_0 := blk_frozen BK199.out 0; have hfz49_1 := blk_frozen BK199.out 1; have hfz49_2 := blk_frozen BK199.out 2))
     have n0_ := Aside0.mk (blk_drew BK199.out)
     have n1_ := Aside0.mk (below_drew1 HB.out)
     clear BK199
     clear HB
     have BK199 := n0_
     have HB := n1_
     clear n0_ n1_
     refine start_ (n := 10) (S := fun w' => w'.cell? ⟨gb199, 0, none⟩ = some (.int .i64 t196) ∧ w'.cell? ⟨gb199, 1, none⟩ = some (.int .i64 t197) ∧ w'.cell? ⟨gb199, 2, none⟩ = some (.string t198)) (ds := []) #[false, false, false, false, false, false, false, false, false, false] (by kernel_rfl) rfl rfl ⟨(blk_cell BK199.out 0).trans rfl, (blk_cell BK199.out 1).trans rfl, (blk_cell BK199.out 2).trans rfl⟩ (fun hHeld => ?_); refine with_tabW bulletinlaw35_OrderBack.tab8 bulletinlaw35_OrderBack.bits8 (fun HT_ HW_ => ?_)
     generalize w48.drew = w50 at BK199 HB hHeld ⊢
     refine pure_ (i := 0) (N := some 18) (v := ?_) (a' := ?_) (bitsL 10 1) rfl rfl (any_of HT_.out (by kernel_rfl)) (fun _ _ _ h => h) (Or.inl ⟨by rfl, ?_⟩) ?_ ?_
     rotate_left
     ·intro w'
      go_simp
      with_reducible rfl
     rotate_left
     ·simp only [Act.put, List.setIfInBounds_toArray, List.set_cons_zero, List.set_cons_succ, i64_w, i32_w]
      rfl
     refine take_ (i := 2) (N := some 20) (v := ?_) (a' := ?_) (bitsL 10 5) rfl rfl (take_ofW HT_.out HW_.out (by kernel_rfl)) (fun _ _ _ h => h) (Or.inl ⟨by rfl, ?_⟩) hHeld ?_ ?_
     rotate_left
     ·rintro w' ⟨s0, s1, s2⟩
      go_simp
      with_reducible rfl
     rotate_left
     ·simp only [Act.put, List.setIfInBounds_toArray, List.set_cons_zero, List.set_cons_succ, i64_w, i32_w]
      rfl
     refine one_ (i := 1) (N := some 19) (bitsL 10 7) rfl rfl (one_of HT_.out (by kernel_rfl)) (by decide) (fun K hK => ?_)
     refine goes_ Tryd.func18 (by kernel_rfl) rfl #[.string t200] (by rfl) rfl rfl am ?_
     with_reducible refine (order_Line.calls k t200 t201 t202 t203 _ A42.out).mono ?_
     rintro e w51 ⟨rfl, hb⟩
     refine ⟨_, rfl, ?_⟩
     have n0_ := Aside0.mk (blk_below (g := gb199) (o := .cells #[.int .i64 t196, .int .i64 t197, .string t198] 24 (0, 0)) bk hb)
     have n1_ := Aside0.mk (below_step bwS hb)
     clear BK199
     clear HB
     have BK199 := n0_
     have HB := n1_
     clear n0_ n1_
     (try clear hb)
     (try clear hb2)
     (try clear hk)
     (try clear hi)
     refine hK.out _ _ ⟨(blk_cell BK199.out 0).trans rfl, (blk_cell BK199.out 1).trans rfl, (blk_cell BK199.out 2).trans rfl⟩ (fun hHeld => ?_)
     clear hK K
     refine norm_ (a' := ?_) ?_ ?_
     rotate_left
     ·show Act.put _ (some 19) _ = _
      simp only [Act.put, List.setIfInBounds_toArray, List.set_cons_zero, List.set_cons_succ, i64_w, i32_w]
      rfl
     refine pure_ (i := 3) (N := some 21) (v := ?_) (a' := ?_) (bitsL 10 15) rfl rfl (any_of HT_.out (by kernel_rfl)) (fun _ _ _ h => h) (Or.inl ⟨by rfl, ?_⟩) ?_ ?_
     rotate_left
     ·intro w'
      go_simp
      with_reducible rfl
     rotate_left
     ·simp only [Act.put, List.setIfInBounds_toArray, List.set_cons_zero, List.set_cons_succ, i64_w, i32_w]
      rfl
     refine pure_ (i := 4) (N := some 22) (v := ?_) (a' := ?_) (bitsL 10 31) rfl rfl (any_of HT_.out (by kernel_rfl)) (fun _ _ _ h => h) (Or.inl ⟨by rfl, ?_⟩) ?_ ?_
     rotate_left
     ·intro w'
      go_simp
      with_reducible rfl
     rotate_left
     ·simp only [Act.put, List.setIfInBounds_toArray, List.set_cons_zero, List.set_cons_succ, i64_w, i32_w]
      rfl
     refine pure_ (i := 5) (N := some 23) (v := ?_) (a' := ?_) (bitsL 10 63) rfl rfl (any_of HT_.out (by kernel_rfl)) (fun _ _ _ h => h) (Or.inl ⟨by rfl, ?_⟩) ?_ ?_
     rotate_left
     ·intro w'
      go_simp
      with_reducible rfl
     rotate_left
     ·simp only [Act.put, List.setIfInBounds_toArray, List.set_cons_zero, List.set_cons_succ, i64_w, i32_w]
      rfl
     refine take_ (i := 6) (N := some 24) (v := ?_) (a' := ?_) (bitsL 10 127) rfl rfl (take_ofW HT_.out HW_.out (by kernel_rfl)) (fun _ _ _ h => h) (Or.inl ⟨by rfl, ?_⟩) hHeld ?_ ?_
     rotate_left
     ·rintro w' ⟨s0, s1, s2⟩
      go_simp
      with_reducible rfl
     rotate_left
     ·simp only [Act.put, List.setIfInBounds_toArray, List.set_cons_zero, List.set_cons_succ, i64_w, i32_w]
      rfl
     refine pure_ (i := 7) (N := some 25) (v := ?_) (a' := ?_) (bitsL 10 255) rfl rfl (any_of HT_.out (by kernel_rfl)) (fun _ _ _ h => h) (Or.inl ⟨by rfl, ?_⟩) ?_ ?_
     rotate_left
     ·intro w'
      go_simp
      with_reducible rfl
     rotate_left
     ·simp only [Act.put, List.setIfInBounds_toArray, List.set_cons_zero, List.set_cons_succ, i64_w, i32_w]
      rfl
     refine pure_ (i := 8) (N := some 26) (v := ?_) (a' := ?_) (bitsL 10 511) rfl rfl (any_of HT_.out (by kernel_rfl)) (fun _ _ _ h => h) (Or.inl ⟨by rfl, ?_⟩) ?_ ?_
     rotate_left
     ·intro w'
      go_simp
      with_reducible rfl
     rotate_left
     ·simp only [Act.put, List.setIfInBounds_toArray, List.set_cons_zero, List.set_cons_succ, i64_w, i32_w]
      rfl
     refine pure_ (i := 9) (N := some 2) (v := ?_) (a' := ?_) (bitsL 10 1023) rfl rfl (any_of HT_.out (by kernel_rfl)) (fun _ _ _ h => h) (Or.inl ⟨by rfl, ?_⟩) ?_ ?_
     rotate_left
     ·intro w'
      go_simp
      with_reducible rfl
     rotate_left
     ·simp only [Act.put, List.setIfInBounds_toArray, List.set_cons_zero, List.set_cons_succ, i64_w, i32_w]
      rfl
     refine done_ (done_of HT_.out (by kernel_rfl)) ?_
     try go_wp2
     go_ret
     exact ⟨by first | rfl | (simp [errW_none, errW_some] <;> rfl) | (simp [*, errW_none, errW_some] <;> rfl), by repeat (first | (with_reducible first | exact HB.out | apply below_alloc | apply pw_below_drewN | apply below_drew1 | refine below_set ?_ GE199.out) | exact HB.out)⟩
    ·rw [if_neg c43] at H
     have c43b0 : (t201 == t196 && (t202 == t197 && (t203.toList == t198.toList))) = false := by simpa using c43
     (try (have c43b1 : decide (t201 = t196 && (t202 == t197 && (t203.toList == t198.toList))) = false := by simpa using c43))
     (try (have c43b2 : (t201 == t196 && (t202 == t197 && (t203.toList == t198.toList))) = false := by simpa using c43))
     (try (have c43b3 : ¬ (t201 = t196 && (t202 == t197 && (t203.toList == t198.toList))) := by simpa using c43))
     clear c43
     obtain rfl := Option.some.inj H
     go_enter Tryd.func3, Tryd.ntmps3
     try go_wp2_with (first | ((with_reducible refine gate_callee (f := 17) rfl ?_); refine goesL_ (some 6) rfl rfl Tryd.func17 (by kernel_rfl) rfl #[] rfl am ?_; (with_reducible refine (bulletinlaw35_works.calls k  true _ A2.out).mono ?_); rintro e w52 ⟨rfl, hb⟩; refine ⟨_, rfl, ?_⟩; have n0_ := Aside0.mk (below_step bw hb); clear HB; have HB := n0_; clear n0_; (try clear hb); (try clear hb2); (try clear hk); (try clear hi)) | ((with_reducible refine gate_callee (f := 18) rfl ?_); refine goesL_ (some 12) rfl rfl Tryd.func18 (by kernel_rfl) rfl #[.string a0] rfl am ?_; (with_reducible refine (order_Line.calls k a0 t196 t197 t198 _ A6.out).mono ?_); rintro e w53 ⟨rfl, hb⟩; refine ⟨_, rfl, ?_⟩; have n0_ := Aside0.mk (below_step bw hb); clear HB; have HB := n0_; clear n0_; (try clear hb); (try clear hb2); (try clear hk); (try clear hi)) | ((with_reducible refine gate_dst (N := 3) rfl ?_); refine box_event ?hg (N := 3) ?hd (cs := #[.int .i64 0, .int .i64 0, .string (⟨#[]⟩ : ByteArray)]) (t := 24) ?hr ?_; (case hd => rfl); (case hg => rfl); (case hr => first | (go_simp; done) | (go_simp; rfl)); intro gb199 hg w54 hbox hb; have n0_ := Aside0.mk (below_step bw hb); have n1_ := Aside0.mk (hbox); have n2_ := Aside0.mk ((by rw [hg]; exact (below_size bw) : w.heap.size ≤ gb199)); have n3_ := Aside0.mk ((by rw [hg]; exact (below_size bw) : w.heap.size ≤ gb199)); clear HB; have HB := n0_; have BK199 := n1_; have GW199 := n2_; have GE199 := n3_; clear n0_ n1_ n2_ n3_; clear hb hbox hg; have hcz55_0 : w54.cell? ⟨gb199, 0, none⟩ = some (.int .i64 0) := (blk_cell BK199.out 0).trans rfl; have hcz55_1 : w54.cell? ⟨gb199, 1, none⟩ = some (.int .i64 0) := (blk_cell BK199.out 1).trans rfl; have hcz55_2 : w54.cell? ⟨gb199, 2, none⟩ = some (.string (⟨#[]⟩ : ByteArray)) := (blk_cell BK199.out 2).trans rfl; have hfz55_0 := blk_frozen BK199.out 0; have hfz55_1 := blk_frozen BK199.out 1; have hfz55_2 := blk_frozen BK199.out 2) | ((with_reducible refine gate_callee (f := 19) rfl ?_); refine goesL_ (some 14) rfl rfl Tryd.func19 (by kernel_rfl) rfl #[.agg #[.int .i64 t196, .int .i64 t197, .string t198]] rfl am ?_; (with_reducible refine (order_Show.calls k t196 t197 t198 t200 _ A7.out).mono ?_); rintro e w56 ⟨rfl, hb⟩; refine ⟨_, rfl, ?_⟩; have n0_ := Aside0.mk (blk_below (g := gb199) (o := .cells #[.int .i64 t196, .int .i64 t197, .string t198] 24 (0, 0)) (by (with_reducible repeat (first | refine blk_drewN ?_ _ | refine blk_drew ?_ | refine blk_alloc ?_ _)); refine blk_put (cs := #[.int .i64 t196, .int .i64 t197, .string (⟨#[]⟩ : ByteArray)]) ?_ 2 _ rfl; (with_reducible repeat (first | refine blk_drewN ?_ _ | refine blk_drew ?_ | refine blk_alloc ?_ _)); refine blk_put (cs := #[.int .i64 t196, .int .i64 0, .string (⟨#[]⟩ : ByteArray)]) ?_ 1 _ rfl; (with_reducible repeat (first | refine blk_drewN ?_ _ | refine blk_drew ?_ | refine blk_alloc ?_ _)); refine blk_put (cs := #[.int .i64 0, .int .i64 0, .string (⟨#[]⟩ : ByteArray)]) ?_ 0 _ rfl; (with_reducible repeat (first | refine blk_drewN ?_ _ | refine blk_drew ?_ | refine blk_alloc ?_ _)); exact BK199.out) hb); have n1_ := Aside0.mk (below_step bwS hb); clear BK199; clear HB; have BK199 := n0_; have HB := n1_; clear n0_ n1_; (try clear hb); (try clear hb2); (try clear hk); (try clear hi); have hcz57_0 : w56.cell? ⟨gb199, 0, none⟩ = some (.int .i64 t196) := (blk_cell BK199.out 0).trans rfl; have hcz57_1 : w56.cell? ⟨gb199, 1, none⟩ = some (.int .i64 t197) := (blk_cell BK199.out 1).trans rfl; have hcz57_2 : w56.cell? ⟨gb199, 2, none⟩ = some (.string t198) := (blk_cell BK199.out 2).trans rfl; have hfz57_0 := blk_frozen BK199.out 0; have hfz57_1 := blk_frozen BK199.out 1; have hfz57_2 := blk_frozen BK199.out 2))
     have n0_ := Aside0.mk (blk_drew BK199.out)
     have n1_ := Aside0.mk (below_drew1 HB.out)
     clear BK199
     clear HB
     have BK199 := n0_
     have HB := n1_
     clear n0_ n1_
     refine start_ (n := 10) (S := fun w' => w'.cell? ⟨gb199, 0, none⟩ = some (.int .i64 t196) ∧ w'.cell? ⟨gb199, 1, none⟩ = some (.int .i64 t197) ∧ w'.cell? ⟨gb199, 2, none⟩ = some (.string t198)) (ds := []) #[false, false, false, false, false, false, false, false, false, false] (by kernel_rfl) rfl rfl ⟨(blk_cell BK199.out 0).trans rfl, (blk_cell BK199.out 1).trans rfl, (blk_cell BK199.out 2).trans rfl⟩ (fun hHeld => ?_); refine with_tabW bulletinlaw35_OrderBack.tab8 bulletinlaw35_OrderBack.bits8 (fun HT_ HW_ => ?_)
     generalize w56.drew = w58 at BK199 HB hHeld ⊢
     refine pure_ (i := 0) (N := some 18) (v := ?_) (a' := ?_) (bitsL 10 1) rfl rfl (any_of HT_.out (by kernel_rfl)) (fun _ _ _ h => h) (Or.inl ⟨by rfl, ?_⟩) ?_ ?_
     rotate_left
     ·intro w'
      go_simp
      with_reducible rfl
     rotate_left
     ·simp only [Act.put, List.setIfInBounds_toArray, List.set_cons_zero, List.set_cons_succ, i64_w, i32_w]
      rfl
     refine take_ (i := 2) (N := some 20) (v := ?_) (a' := ?_) (bitsL 10 5) rfl rfl (take_ofW HT_.out HW_.out (by kernel_rfl)) (fun _ _ _ h => h) (Or.inl ⟨by rfl, ?_⟩) hHeld ?_ ?_
     rotate_left
     ·rintro w' ⟨s0, s1, s2⟩
      go_simp
      with_reducible rfl
     rotate_left
     ·simp only [Act.put, List.setIfInBounds_toArray, List.set_cons_zero, List.set_cons_succ, i64_w, i32_w]
      rfl
     refine one_ (i := 1) (N := some 19) (bitsL 10 7) rfl rfl (one_of HT_.out (by kernel_rfl)) (by decide) (fun K hK => ?_)
     refine goes_ Tryd.func18 (by kernel_rfl) rfl #[.string t200] (by rfl) rfl rfl am ?_
     with_reducible refine (order_Line.calls k t200 t201 t202 t203 _ A42.out).mono ?_
     rintro e w59 ⟨rfl, hb⟩
     refine ⟨_, rfl, ?_⟩
     have n0_ := Aside0.mk (blk_below (g := gb199) (o := .cells #[.int .i64 t196, .int .i64 t197, .string t198] 24 (0, 0)) bk hb)
     have n1_ := Aside0.mk (below_step bwS hb)
     clear BK199
     clear HB
     have BK199 := n0_
     have HB := n1_
     clear n0_ n1_
     (try clear hb)
     (try clear hb2)
     (try clear hk)
     (try clear hi)
     refine hK.out _ _ ⟨(blk_cell BK199.out 0).trans rfl, (blk_cell BK199.out 1).trans rfl, (blk_cell BK199.out 2).trans rfl⟩ (fun hHeld => ?_)
     clear hK K
     refine norm_ (a' := ?_) ?_ ?_
     rotate_left
     ·show Act.put _ (some 19) _ = _
      simp only [Act.put, List.setIfInBounds_toArray, List.set_cons_zero, List.set_cons_succ, i64_w, i32_w]
      rfl
     refine pure_ (i := 3) (N := some 21) (v := ?_) (a' := ?_) (bitsL 10 15) rfl rfl (any_of HT_.out (by kernel_rfl)) (fun _ _ _ h => h) (Or.inl ⟨by rfl, ?_⟩) ?_ ?_
     rotate_left
     ·intro w'
      go_simp
      with_reducible rfl
     rotate_left
     ·simp only [Act.put, List.setIfInBounds_toArray, List.set_cons_zero, List.set_cons_succ, i64_w, i32_w]
      rfl
     refine pure_ (i := 4) (N := some 22) (v := ?_) (a' := ?_) (bitsL 10 31) rfl rfl (any_of HT_.out (by kernel_rfl)) (fun _ _ _ h => h) (Or.inl ⟨by rfl, ?_⟩) ?_ ?_
     rotate_left
     ·intro w'
      go_simp
      with_reducible rfl
     rotate_left
     ·simp only [Act.put, List.setIfInBounds_toArray, List.set_cons_zero, List.set_cons_succ, i64_w, i32_w]
      rfl
     refine pure_ (i := 5) (N := some 23) (v := undef) (a' := ?_) (bitsL 10 63) rfl rfl (any_of HT_.out (by kernel_rfl)) (fun _ _ _ h => h) (Or.inr ⟨by rfl, rfl⟩) ?_ ?_
     rotate_left
     ·simp only [Act.put, List.setIfInBounds_toArray, List.set_cons_zero, List.set_cons_succ, i64_w, i32_w]
      rfl
     refine pure_ (i := 6) (N := some 24) (v := undef) (a' := ?_) (bitsL 10 127) rfl rfl (any_of HT_.out (by kernel_rfl)) (fun _ _ _ h => h) (Or.inr ⟨by rfl, rfl⟩) ?_ ?_
     rotate_left
     ·simp only [Act.put, List.setIfInBounds_toArray, List.set_cons_zero, List.set_cons_succ, i64_w, i32_w]
      rfl
     refine pure_ (i := 7) (N := some 25) (v := undef) (a' := ?_) (bitsL 10 255) rfl rfl (any_of HT_.out (by kernel_rfl)) (fun _ _ _ h => h) (Or.inr ⟨by rfl, rfl⟩) ?_ ?_
     rotate_left
     ·simp only [Act.put, List.setIfInBounds_toArray, List.set_cons_zero, List.set_cons_succ, i64_w, i32_w]
      rfl
     refine pure_ (i := 8) (N := some 26) (v := ?_) (a' := ?_) (bitsL 10 511) rfl rfl (any_of HT_.out (by kernel_rfl)) (fun _ _ _ h => h) (Or.inl ⟨by rfl, ?_⟩) ?_ ?_
     rotate_left
     ·intro w'
      go_simp
      with_reducible rfl
     rotate_left
     ·simp only [Act.put, List.setIfInBounds_toArray, List.set_cons_zero, List.set_cons_succ, i64_w, i32_w]
      rfl
     refine pure_ (i := 9) (N := some 2) (v := ?_) (a' := ?_) (bitsL 10 1023) rfl rfl (any_of HT_.out (by kernel_rfl)) (fun _ _ _ h => h) (Or.inl ⟨by rfl, ?_⟩) ?_ ?_
     rotate_left
     ·intro w'
      go_simp
      with_reducible rfl
     rotate_left
     ·simp only [Act.put, List.setIfInBounds_toArray, List.set_cons_zero, List.set_cons_succ, i64_w, i32_w]
      rfl
     refine done_ (done_of HT_.out (by kernel_rfl)) ?_
     try go_wp2
     go_ret
     exact ⟨by first | rfl | (simp [errW_none, errW_some] <;> rfl) | (simp [*, errW_none, errW_some] <;> rfl), by repeat (first | (with_reducible first | exact HB.out | apply below_alloc | apply pw_below_drewN | apply below_drew1 | refine below_set ?_ GE199.out) | exact HB.out)⟩
 ·replace c3 := Bool.eq_false_iff.mpr c3
  subst c3
  have H1 : (some false) = some r := by rw [if_neg (show ¬ (false = true) by decide)] at H; exact H
  clear H
  have H := H1
  clear H1
  obtain rfl := Option.some.inj H
  go_enter Tryd.func3, Tryd.ntmps3
  go_wp2_with (first | ((with_reducible refine gate_callee (f := 17) rfl ?_); refine goesL_ (some 6) rfl rfl Tryd.func17 (by kernel_rfl) rfl #[] rfl am ?_; (with_reducible refine (bulletinlaw35_works.calls k  false _ A2.out).mono ?_); rintro e w60 ⟨rfl, hb⟩; refine ⟨_, rfl, ?_⟩; have n0_ := Aside0.mk (below_step bw hb); clear HB; have HB := n0_; clear n0_; (try clear hb); (try clear hb2); (try clear hk); (try clear hi)))
  go_ret
  exact ⟨by first | rfl | (simp [errW_none, errW_some] <;> rfl) | (simp [*, errW_none, errW_some] <;> rfl), by repeat (first | (with_reducible first | exact HB.out | apply below_alloc | apply pw_below_drewN | apply below_drew1) | exact HB.out)⟩


end Go.Proofs.YtlomcmdbbnbciaaDoor.Fn
set_option linter.unusedVariables false
namespace Go.Proofs.YtlomcmdbbnbciaaDoor.Pl
open Go.RowKit Go.Proofs.YtlomcmdbbnbciaaDoorW.PrintWords

/-! Tools for the plain laws: byte texts as lists, rounds. -/
def bs (s : ByteArray) : Bytes := s.data.toList
theorem bs_str (l : Bytes) : bs (str l) = l := str_data l
theorem str_bs (s : ByteArray) : str (bs s) = s := str_toList s
theorem bs_length (s : ByteArray) : (bs s).length = s.size := data_length s
theorem toList_bs (s : ByteArray) : s.toList = bs s := ByteArray.toList_eq s
theorem toList_str (l : Bytes) : (str l).toList = l := by rw [toList_bs, bs_str]
theorem bs_inj {a b : ByteArray} (h : bs a = bs b) : a = b := by rw [← str_bs a, ← str_bs b, h]
theorem bs_extract (s : ByteArray) (i j : Nat) : bs (s.extract i j) = ((bs s).take j).drop i := by
  simp [bs, List.extract_eq_take_drop, List.drop_take]
theorem str_extract (l : Bytes) (i j : Nat) : (str l).extract i j = str ((l.take j).drop i) := by
  apply bs_inj
  rw [bs_extract, bs_str, bs_str]
theorem bt_nat (s : ByteArray) (i : Nat) (h : i < s.size) : bt s (i : Int) = (s[i].toNat : Int) := by
  have := bt_at s (i : Int) (by simpa using h)
  simpa using this.symm
theorem bt_bs (s : ByteArray) (i : Nat) (h : i < (bs s).length) : bt s (i : Int) = ((bs s)[i].toNat : Int) := by
  rw [bt_nat s i (by rw [bs_length] at h; exact h)]
  rfl
theorem drop_cons {l : Bytes} {i : Nat} {c : UInt8} {r : Bytes} (h : l.drop i = c :: r) : i < l.length ∧ l[i]? = some c ∧ l.drop (i + 1) = r ∧ (l.take (i + 1)) = l.take i ++ [c] := by
  have hi : i < l.length := by
    rcases Nat.lt_or_ge i l.length with h' | h'
    · exact h'
    · rw [List.drop_of_length_le h'] at h; cases h
  have h1 : l[i]? = some c := by
    have := congrArg List.head? h
    rw [List.head?_drop] at this
    exact this
  refine ⟨hi, h1, ?_, ?_⟩
  · rw [← List.drop_drop, h]; rfl
  · rw [List.take_add_one, h1]; rfl
theorem drop_nil {l : Bytes} {i : Nat} (h : l.drop i = []) : l.length ≤ i := by
  have := congrArg List.length h
  simp at this
  omega
theorem bt_drop {s : ByteArray} {i : Nat} {c : UInt8} {r : Bytes} (h : (bs s).drop i = c :: r) : bt s (i : Int) = (c.toNat : Int) := by
  obtain ⟨h1, h2, _⟩ := drop_cons h
  rw [bt_bs s i h1]
  rw [List.getElem?_eq_getElem h1] at h2
  injection h2 with h2
  rw [h2]
theorem wrap_id {x : Int} (h0 : -9223372036854775808 ≤ x) (h1 : x ≤ 9223372036854775807) : wrap64 x = x := by
  unfold wrap64
  omega
theorem wrap_succ (i : Nat) (h : i ≤ 140737488355328) : wrap64 ((i : Int) + 1) = ((i + 1 : Nat) : Int) := by
  rw [wrap_id (by omega) (by omega)]
  omega
end Go.Proofs.YtlomcmdbbnbciaaDoor.Pl
set_option linter.unusedVariables false
set_option linter.unusedSimpArgs false
namespace Go.Proofs.YtlomcmdbbnbciaaDoor.Pl
open Go.RowKit Go.Proofs.YtlomcmdbbnbciaaDoorW.PrintWords Go.Proofs.YtlomcmdbbnbciaaDoor.Fn

/-! Taken by extract.py out of XPGlyph.lean.tpl, XPWords.lean.tpl, XPClean.lean.tpl, XPClip.lean.tpl, XPOrder.lean.tpl, XPureOrderLines.lean.tpl. -/
theorem get_lt (s : ByteArray) (i : Nat) : (s.get! i).toNat < 256 := (s.get! i).toNat_lt
def isBl (c : UInt8) : Bool := c == 32 || (c == 9 || (c == 13 || c == 10))
def splitW : Bytes → Bytes → List Bytes
  | [], w => if w = [] then [] else [w]
  | c :: r, w => if isBl c then (if w = [] then splitW r [] else w :: splitW r []) else splitW r (w ++ [c])
theorem isBl_nat (c : UInt8) : isBl c = blank c.toNat := by
  unfold isBl blank
  have e : ∀ n : UInt8, (c == n) = (c.toNat == n.toNat) := fun n => by
    rw [Bool.eq_iff_iff, beq_iff_eq, beq_iff_eq]
    exact ⟨fun h => by rw [h], fun h => UInt8.toNat_inj.1 h⟩
  rw [e, e, e, e]
  rfl
theorem tail_high (s : ByteArray) (i j : Nat) (h0 : 0 < j) (h : j < width s i) : 128 ≤ (s.get! (i + j)).toNat := by
  unfold width at h
  rw [Lib.decode_at] at h
  have g0 := get_lt s i
  unfold Lib.decodeN at h
  have hj : j = 1 ∨ j = 2 ∨ j = 3 := by
    repeat' split at h
    all_goals (simp only [] at h; omega)
  rcases hj with rfl | rfl | rfl
  all_goals
    repeat' split at h
    all_goals (simp only [] at h; omega)
theorem get_bs (s : ByteArray) (i : Nat) (h : i < s.size) : (bs s)[i]? = some (s.get! i) := by
  unfold bs
  have h' : i < s.data.size := h
  rw [Array.getElem?_toList, Array.getElem?_eq_getElem h']
  congr 1
  show s.data[i] = s.data[i]!
  rw [getElem!_pos s.data i h']
theorem drop_get (s : ByteArray) (i : Nat) (h : i < s.size) : (bs s).drop i = s.get! i :: (bs s).drop (i + 1) := by
  have h1 : i < (bs s).length := by rw [bs_length]; exact h
  rw [List.drop_eq_getElem_cons h1]
  congr 1
  have := get_bs s i h
  rw [List.getElem?_eq_getElem h1] at this
  exact Option.some.inj this
theorem splitW_run (s : ByteArray) (i : Nat) : ∀ (n : Nat) (w : Bytes), i + n ≤ s.size → (∀ j, j < n → isBl (s.get! (i + j)) = false) →
    splitW ((bs s).drop i) w = splitW ((bs s).drop (i + n)) (w ++ ((bs s).drop i).take n) := by
  intro n
  induction n generalizing i with
  | zero => intro w _ _; simp
  | succ n ih =>
    intro w h hb
    have h0 := hb 0 (by omega)
    rw [Nat.add_zero] at h0
    rw [drop_get s i (by omega), splitW, if_neg (by rw [h0]; decide), ih (i + 1) (w ++ [s.get! i]) (by omega) (fun j hj => by rw [show i + 1 + j = i + (j + 1) by omega]; exact hb (j + 1) (by omega))]
    rw [show i + 1 + n = i + (n + 1) by omega]
    simp
theorem sign_low (s : ByteArray) (i : Nat) (h : (s.get! i).toNat < 128) : sign s i = (s.get! i).toNat ∧ width s i = 1 := by
  unfold sign width
  rw [Lib.decode_at]
  unfold Lib.decodeN
  rw [if_pos h]
  exact ⟨rfl, rfl⟩
theorem sign_high (s : ByteArray) (i : Nat) (h : 128 ≤ (s.get! i).toNat) : 128 ≤ sign s i := by
  unfold sign
  rw [Lib.decode_at]
  have g0 := get_lt s i
  unfold Lib.decodeN
  repeat' split
  all_goals (simp only []; omega)
theorem blank_high (r : Nat) (h : 128 ≤ r) : blank r = false := by
  unfold blank
  have e : ∀ n, n < 128 → (r == n) = false := fun n hn => by
    rw [beq_eq_false_iff_ne]
    omega
  rw [e 32 (by omega), e 9 (by omega), e 13 (by omega), e 10 (by omega)]
  rfl
def open_ (s : ByteArray) (st : Option Nat) (pos : Nat) : Bytes := match st with | none => [] | some a => ((bs s).take pos).drop a
theorem open_snoc (s : ByteArray) (a pos n : Nat) (ha : a ≤ pos) (h : pos + n ≤ s.size) : ((bs s).take (pos + n)).drop a = ((bs s).take pos).drop a ++ ((bs s).drop pos).take n := by
  rw [List.take_add, List.drop_append_of_le_length (by rw [List.length_take, bs_length]; omega)]
theorem spans_words (s : ByteArray) : ∀ (f pos : Nat) (st : Option Nat) (acc : List (Nat × Nat)), pos ≤ s.size → s.size ≤ pos + f → (∀ a, st = some a → a < pos) →
    (Lib.closeSpans s (Lib.spansFromP blank s f pos st acc)).map (fun x => s.extract x.1 x.2) = acc.map (fun x => s.extract x.1 x.2) ++ (splitW ((bs s).drop pos) (open_ s st pos)).map str := by
  intro f
  induction f with
  | zero =>
    intro pos st acc hp hf hst
    obtain rfl : pos = s.size := by omega
    have hd : (bs s).drop s.size = [] := List.drop_of_length_le (by rw [bs_length]; exact Nat.le_refl _)
    rw [hd]
    cases st with
    | none => simp [Lib.spansFromP, Lib.closeSpans, splitW, open_]
    | some a =>
      have ha := hst a rfl
      have he : ((bs s).take s.size).drop a ≠ [] := by
        intro e
        have := congrArg List.length e
        simp [bs_length] at this
        omega
      have hx : s.extract a s.size = str (((bs s).take s.size).drop a) := by rw [← bs_extract, str_bs]
      rw [show open_ s (some a) s.size = ((bs s).take s.size).drop a from rfl, splitW, if_neg he]
      simp only [Lib.spansFromP, Lib.closeSpans]
      simp [hx]
  | succ f ih =>
    intro pos st acc hp hf hst
    by_cases hlt : pos < s.size
    · have hw := width_pos s pos hlt
      have hw2 : pos + width s pos ≤ s.size := width_end s pos hlt
      have hsg : (Utf8.decode s pos).1 = sign s pos := rfl
      have hwd : (Utf8.decode s pos).2 = width s pos := rfl
      unfold Lib.spansFromP
      rw [if_pos hlt, hsg, hwd]
      by_cases hb : blank (sign s pos) = true
      · have hlow : (s.get! pos).toNat < 128 := by
          rcases Nat.lt_or_ge (s.get! pos).toNat 128 with h | h
          · exact h
          · rw [blank_high _ (sign_high s pos h)] at hb
            exact absurd hb (by decide)
        obtain ⟨hs1, hs2⟩ := sign_low s pos hlow
        have hbl : isBl (s.get! pos) = true := by rw [isBl_nat, ← hs1]; exact hb
        rw [if_pos hb, hs2, drop_get s pos hlt, splitW, if_pos hbl]
        cases st with
        | none =>
          simp only []
          rw [ih (pos + 1) none acc (by omega) (by omega) (by simp)]
          simp [open_]
        | some a =>
          have ha := hst a rfl
          have he : ((bs s).take pos).drop a ≠ [] := by
            intro e
            have := congrArg List.length e
            simp [bs_length] at this
            omega
          have hx : s.extract a pos = str (((bs s).take pos).drop a) := by rw [← bs_extract, str_bs]
          simp only []
          rw [ih (pos + 1) none _ (by omega) (by omega) (by simp)]
          rw [show open_ s (some a) pos = ((bs s).take pos).drop a from rfl, if_neg he]
          simp [hx, open_]
      · rw [if_neg hb]
        have hnb : ∀ j, j < width s pos → isBl (s.get! (pos + j)) = false := by
          intro j hj
          rw [isBl_nat]
          by_cases h0 : j = 0
          · subst h0
            rw [Nat.add_zero]
            rcases Nat.lt_or_ge (s.get! pos).toNat 128 with h | h
            · rw [← (sign_low s pos h).1]
              simpa using hb
            · exact blank_high _ h
          · exact blank_high _ (tail_high s pos j (by omega) hj)
        cases st with
        | none =>
          simp only []
          rw [ih (pos + width s pos) (some pos) acc (by omega) (by omega) (fun a e => by injection e with e; omega)]
          simp only [open_]
          rw [splitW_run s pos (width s pos) [] hw2 hnb]
          rw [open_snoc s pos pos (width s pos) (Nat.le_refl _) hw2, List.drop_of_length_le (l := (bs s).take pos) (by rw [List.length_take]; omega)]
        | some a =>
          have ha := hst a rfl
          simp only []
          rw [ih (pos + width s pos) (some a) acc (by omega) (by omega) (fun b e => by injection e with e; omega)]
          simp only [open_]
          rw [splitW_run s pos (width s pos) _ hw2 hnb, open_snoc s a pos (width s pos) (by omega) hw2]
    · obtain rfl : pos = s.size := by omega
      have hd : (bs s).drop s.size = [] := List.drop_of_length_le (by rw [bs_length]; exact Nat.le_refl _)
      rw [Lib.spansFromP_end _ _ _ _ _ _ hlt, hd]
      cases st with
      | none => simp [Lib.closeSpans, splitW, open_]
      | some a =>
        have ha := hst a rfl
        have he : ((bs s).take s.size).drop a ≠ [] := by
          intro e
          have := congrArg List.length e
          simp [bs_length] at this
          omega
        have hx : s.extract a s.size = str (((bs s).take s.size).drop a) := by rw [← bs_extract, str_bs]
        rw [show open_ s (some a) s.size = ((bs s).take s.size).drop a from rfl, splitW, if_neg he]
        simp only [Lib.closeSpans]
        simp [hx]
theorem words_split (s : ByteArray) : words s = (splitW (bs s) []).map str := by
  unfold words Lib.goFieldsP Lib.spansOfP
  rw [spans_words s s.size 0 none [] (by omega) (by omega) (by simp)]
  simp [open_]
theorem splitW_total : ∀ (l w : Bytes), ((splitW l w).map List.length).sum + (splitW l w).length ≤ l.length + w.length + 1 := by
  intro l
  induction l with
  | nil =>
    intro w
    unfold splitW
    split
    · simp
    · simp
  | cons c r ih =>
    intro w
    unfold splitW
    split
    · split
      · have := ih []
        simp at this ⊢ <;> omega
      · have := ih []
        simp at this ⊢ <;> omega
    · have := ih (w ++ [c])
      simp at this ⊢ <;> omega
theorem sign_valid (s : ByteArray) (i : Nat) : sign s i < 55296 ∨ (57344 ≤ sign s i ∧ sign s i ≤ 1114111) := by
  unfold sign
  rw [Lib.decode_at]
  have g0 := get_lt s i
  unfold Lib.decodeN
  repeat' split
  all_goals (simp only []; omega)
theorem enc_length (n : Int) : (Lib.encodeRune n).length ≤ 4 := by
  have := (Lib.runeCells_le n).2
  rwa [Lib.runeCells_length] at this
theorem cleanR_length (r : Nat) : (cleanR r).length ≤ 4 := by
  unfold cleanR
  split
  · simp
  · exact enc_length _
theorem cleanFrom_length (s : ByteArray) : ∀ n i, (cleanFrom s n i).length ≤ 4 * n := by
  intro n
  induction n with
  | zero => intro i; simp [cleanFrom]
  | succ n ih =>
    intro i
    unfold cleanFrom
    split
    · have := ih (i + width s i)
      have := cleanR_length (sign s i)
      simp; omega
    · simp
theorem clean_length (s : ByteArray) : (clean s).length ≤ 4 * s.size := cleanFrom_length s _ _
def jn (l : List Bytes) : Bytes := Lib.join l [32]
def wordN (b : Bytes) : Int := if b = [101, 97, 99, 104] then 1 else if b = [100, 105, 103, 101, 115, 116] then 2 else if b = [115, 105, 108, 101, 110, 116] then 3 else 0
def unk (t : Bytes) : Int × Int × ByteArray := (5, 0, clip (str t) 30)
def cmd : List Bytes → Int × Int × ByteArray
  | [a] =>
    if a = [104, 101, 108, 112] ∨ a = [105, 110, 102, 111] then (1, 0, str []) else if a = [106, 111, 105, 110] ∨ a = [115, 117, 98, 115, 99, 114, 105, 98, 101] then (2, 1, str [])
    else if a = [108, 101, 97, 118, 101] ∨ a = [117, 110, 115, 117, 98, 115, 99, 114, 105, 98, 101] ∨ a = [114, 101, 109, 111, 118, 101] then (3, 0, str []) else unk a
  | [a, b] =>
    if (a = [106, 111, 105, 110] ∨ a = [115, 117, 98, 115, 99, 114, 105, 98, 101]) ∧ wordN b ≠ 0 then (2, wordN b, str []) else if a = [115, 101, 116] ∧ wordN b ≠ 0 then (4, wordN b, str []) else unk (jn [a, b])
  | l => unk (jn l)
theorem rw1 : roster_Word.f 1 = some (str [101, 97, 99, 104]) := by rfl
theorem rw2 : roster_Word.f 2 = some (str [100, 105, 103, 101, 115, 116]) := by rfl
theorem rw3 : roster_Word.f 3 = some (str [115, 105, 108, 101, 110, 116]) := by rfl
theorem mode_is (b : Bytes) (k : Nat) (hk : 4 < k) : roster_Mode.f k (str b) = some (wordN b) := by
  obtain ⟨k, rfl⟩ : ∃ m, k = m + 1 + 1 + 1 + 1 := ⟨k - 4, by omega⟩
  have w1 : wrap64 (1 + 1) = 2 := by unfold wrap64; omega
  have w2 : wrap64 (2 + 1) = 3 := by unfold wrap64; omega
  have w3 : wrap64 (3 + 1) = 4 := by unfold wrap64; omega
  unfold roster_Mode.f wordN
  rw [roster_Mode.l0, if_pos (by decide), rw1]
  simp only [Option.bind_some, toList_str]
  by_cases a : b = [101, 97, 99, 104]
  · rw [if_pos a.symm, if_pos a]
  rw [if_neg (fun h => a h.symm), if_neg a, w1, roster_Mode.l0, if_pos (by decide), rw2]
  simp only [Option.bind_some, toList_str]
  by_cases a2 : b = [100, 105, 103, 101, 115, 116]
  · rw [if_pos a2.symm, if_pos a2]
  rw [if_neg (fun h => a2 h.symm), if_neg a2, w2, roster_Mode.l0, if_pos (by decide), rw3]
  simp only [Option.bind_some, toList_str]
  by_cases a3 : b = [115, 105, 108, 101, 110, 116]
  · rw [if_pos a3.symm, if_pos a3]
  rw [if_neg (fun h => a3 h.symm), if_neg a3, w3, roster_Mode.l0, if_neg (by decide)]
theorem map_data (l : List Bytes) : (l.map str).map (fun x => x.data.toList) = l := by
  rw [List.map_map]
  have : ((fun x : ByteArray => x.data.toList) ∘ str) = id := funext fun x => str_data x
  rw [this, List.map_id]
theorem unknown_is (l : List Bytes) (hl : l.length ≤ 100000000) (hs : (jn l).length ≤ 100000000) : order_unknown.f (l.map str) = some (unk (jn l)) := by
  have e : join (l.map str) (⟨#[32]⟩ : ByteArray) = str (jn l) := by
    unfold join jn
    rw [map_data]
  unfold order_unknown.f strings_Join.f
  rw [if_pos (by simp; omega), e, if_pos (by rw [str_size]; omega)]
  simp only [Option.bind_some]
  unfold glyph_Clip.f
  rw [if_pos (by rw [str_size]; omega), if_pos (by decide)]
  rfl
theorem rdOf_0 (a : Bytes) (r : List Bytes) : rdOf ByteArray.empty ((a :: r).map str) 0 = str a := rfl
theorem rdOf_1 (a b : Bytes) (r : List Bytes) : rdOf ByteArray.empty ((a :: b :: r).map str) 1 = str b := rfl
theorem eta3 (x : Int × Int × ByteArray) : (x.1, x.2.1, x.2.2) = x := rfl
def joinC : List Bytes → Int × Int × ByteArray
  | [a] => (2, 1, str [])
  | [a, b] => if wordN b ≠ 0 then (2, wordN b, str []) else unk (jn [a, b])
  | l => unk (jn l)
theorem join_is (l : List Bytes) (h0 : l ≠ []) (hl : l.length ≤ 100000000) (hs : (jn l).length ≤ 100000000) (k : Nat) (hk : 10 < k) :
    order_join.f k (l.map str) = some (joinC l) := by
  obtain ⟨k, rfl⟩ : ∃ m, k = m + 1 := ⟨k - 1, by omega⟩
  have hu := unknown_is l hl hs
  unfold order_join.f
  match l, h0, hu with
  | [a], _, hu =>
    rw [if_pos (by simp)]
    rfl
  | [a, b], _, hu =>
    rw [if_neg (by simp), if_pos (by simp), if_pos (by simp), rdOf_1, mode_is b _ (by omega)]
    simp only [Option.bind_some]
    by_cases c : wordN b = 0
    · rw [show (wordN b != 0) = false by simp [c], order_join.j0, if_neg (by decide), hu]
      simp only [Option.bind_some, eta3, joinC]
      rw [if_neg (fun h => h c)]
    · rw [show (wordN b != 0) = true by simp [c], order_join.j0, if_pos rfl, if_pos (by simp), rdOf_1, mode_is b _ (by omega)]
      simp only [Option.bind_some, joinC]
      rw [if_pos c]
      rfl
  | a :: b :: c :: r, _, hu =>
    rw [if_neg (by simp; omega), if_neg (by simp; omega), order_join.j0, if_neg (by decide), hu]
    rfl
theorem command_is (l : List Bytes) (hl : l.length ≤ 100000000) (hs : (jn l).length ≤ 100000000) (k : Nat) (hk : 40 < k) :
    order_command.f k (l.map str) = some (cmd l) := by
  obtain ⟨k, rfl⟩ : ∃ m, k = m + 1 + 1 + 1 + 1 := ⟨k - 4, by omega⟩
  have hu := unknown_is l hl hs
  unfold order_command.f
  cases l with
  | nil =>
    rw [if_pos (by simp), hu]
    rfl
  | cons a r =>
    have hj := join_is (a :: r) (by simp) hl hs
    rw [if_neg (by simp <;> omega), if_pos (by simp <;> omega), rdOf_0, toList_str]
    have hone : ((((a :: r).map str).length : Int) == 1) = decide (r = []) := by
      cases r with
      | nil => simp
      | cons b r => simp; omega
    rw [hone]
    have hun : cmd (a :: r) = unk (jn (a :: r)) → ((order_unknown.f ((a :: r).map str)).bind fun x => some (x.1, x.2.1, x.2.2)) = some (cmd (a :: r)) := fun h => by
      rw [hu, h]
      rfl
    -- help, info
    have hA : ∀ m, a = [104, 101, 108, 112] ∨ a = [105, 110, 102, 111] → order_command.j0 (m + 1) ((a :: r).map str) (decide (r = [])) (str a) true = some (cmd (a :: r)) := by
      intro m h
      rw [order_command.j0, if_pos rfl]
      cases r with
      | nil =>
        rw [if_pos (by decide)]
        simp only [cmd]
        rw [if_pos h]
        rfl
      | cons b s =>
        rw [if_neg (by simp)]
        refine hun ?_
        cases s with
        | nil => rcases h with rfl | rfl <;> simp [cmd]
        | cons d s => rfl
    by_cases a1 : a = [104, 101, 108, 112]
    · rw [if_pos a1, show (a == [104, 101, 108, 112]) = true by rw [a1]; rfl]
      exact hA _ (Or.inl a1)
    rw [if_neg a1]
    by_cases a2 : a = [105, 110, 102, 111]
    · rw [show (a == [105, 110, 102, 111]) = true by rw [a2]; rfl]
      exact hA _ (Or.inr a2)
    rw [show (a == [105, 110, 102, 111]) = false by simpa using a2, order_command.j0, if_neg (by decide), toList_str]
    have h1 : ¬ (a = [104, 101, 108, 112] ∨ a = [105, 110, 102, 111]) := fun h => h.elim a1 a2
    -- join, subscribe
    have hB : ∀ m, 20 < m → a = [106, 111, 105, 110] ∨ a = [115, 117, 98, 115, 99, 114, 105, 98, 101] → order_command.j1 (m + 1) ((a :: r).map str) (decide (r = [])) (str a) true = some (cmd (a :: r)) := by
      intro m hm h
      rw [order_command.j1, if_pos rfl, hj m (by omega)]
      simp only [Option.bind_some, eta3]
      cases r with
      | nil =>
        simp only [cmd, joinC]
        rw [if_neg h1, if_pos h]
      | cons b s =>
        cases s with
        | nil =>
          simp only [cmd, joinC]
          by_cases c : wordN b = 0
          · rw [if_neg (fun h => h c), if_neg (fun h => h.2 c), if_neg (fun h => h.2 c)]
          · rw [if_pos c, if_pos ⟨h, c⟩]
        | cons d s => rfl
    by_cases b1 : a = [106, 111, 105, 110]
    · rw [if_pos b1, show (a == [106, 111, 105, 110]) = true by rw [b1]; rfl]
      exact hB _ (by omega) (Or.inl b1)
    rw [if_neg b1]
    by_cases b2 : a = [115, 117, 98, 115, 99, 114, 105, 98, 101]
    · rw [show (a == [115, 117, 98, 115, 99, 114, 105, 98, 101]) = true by rw [b2]; rfl]
      exact hB _ (by omega) (Or.inr b2)
    rw [show (a == [115, 117, 98, 115, 99, 114, 105, 98, 101]) = false by simpa using b2, order_command.j1, if_neg (by decide), toList_str]
    have h2 : ¬ (a = [106, 111, 105, 110] ∨ a = [115, 117, 98, 115, 99, 114, 105, 98, 101]) := fun h => h.elim b1 b2
    -- leave, unsubscribe, remove
    have hC : ∀ m, a = [108, 101, 97, 118, 101] ∨ a = [117, 110, 115, 117, 98, 115, 99, 114, 105, 98, 101] ∨ a = [114, 101, 109, 111, 118, 101] → order_command.j2 (m + 1) ((a :: r).map str) (decide (r = [])) (str a) true = some (cmd (a :: r)) := by
      intro m h
      rw [order_command.j2, if_pos rfl]
      cases r with
      | nil =>
        rw [if_pos (by decide)]
        simp only [cmd]
        rw [if_neg h1, if_neg h2, if_pos h]
        rfl
      | cons b s =>
        rw [if_neg (by simp)]
        refine hun ?_
        cases s with
        | nil => rcases h with rfl | rfl | rfl <;> simp [cmd]
        | cons d s => rfl
    by_cases c1 : a = [108, 101, 97, 118, 101]
    · rw [if_pos c1, show (a == [108, 101, 97, 118, 101]) = true by rw [c1]; rfl]
      exact hC _ (Or.inl c1)
    rw [if_neg c1]
    by_cases c2 : a = [117, 110, 115, 117, 98, 115, 99, 114, 105, 98, 101]
    · rw [if_pos c2, show (a == [117, 110, 115, 117, 98, 115, 99, 114, 105, 98, 101]) = true by rw [c2]; rfl]
      exact hC _ (Or.inr (Or.inl c2))
    rw [if_neg c2]
    by_cases c3 : a = [114, 101, 109, 111, 118, 101]
    · rw [show (a == [114, 101, 109, 111, 118, 101]) = true by rw [c3]; rfl]
      exact hC _ (Or.inr (Or.inr c3))
    rw [show (a == [114, 101, 109, 111, 118, 101]) = false by simpa using c3, order_command.j2, if_neg (by decide), toList_str]
    have h3 : ¬ (a = [108, 101, 97, 118, 101] ∨ a = [117, 110, 115, 117, 98, 115, 99, 114, 105, 98, 101] ∨ a = [114, 101, 109, 111, 118, 101]) := fun h => h.elim c1 (fun h => h.elim c2 c3)
    by_cases d : a = [115, 101, 116]
    · rw [if_pos d]
      cases r with
      | nil =>
        rw [if_neg (by simp), order_command.j3, if_neg (by decide)]
        refine hun ?_
        simp only [cmd]
        rw [if_neg h1, if_neg h2, if_neg h3]
        have e : jn [a] = a := Lib.join_one a [32]
        rw [e]
      | cons b s =>
        cases s with
        | nil =>
          rw [if_pos (by simp), if_pos (by simp), rdOf_1, mode_is b _ (by omega)]
          simp only [Option.bind_some]
          by_cases c : wordN b = 0
          · rw [show (wordN b != 0) = false by simp [c], order_command.j3, if_neg (by decide)]
            refine hun ?_
            simp only [cmd]
            rw [if_neg (fun h => h.2 c), if_neg (fun h => h.2 c)]
          · rw [show (wordN b != 0) = true by simp [c], order_command.j3, if_pos rfl, if_pos (by simp), rdOf_1, mode_is b _ (by omega)]
            simp only [Option.bind_some, cmd]
            rw [if_neg (fun h => h2 h.1), if_pos ⟨d, c⟩]
            rfl
        | cons e s =>
          rw [if_neg (by simp; omega), order_command.j3, if_neg (by decide)]
          exact hun rfl
    · rw [if_neg d]
      refine hun ?_
      cases r with
      | nil =>
        simp only [cmd]
        rw [if_neg h1, if_neg h2, if_neg h3]
        have e : jn [a] = a := Lib.join_one a [32]
        rw [e]
      | cons b s =>
        cases s with
        | nil =>
          simp only [cmd]
          rw [if_neg (fun h => h2 h.1), if_neg (fun h => d h.1)]
        | cons e s => rfl
def lineW (s : ByteArray) : List Bytes := splitW (fold (clean s)) []
theorem sum_tail (l : List Bytes) : (Lib.joinTail [32] l).length = (l.map List.length).sum + l.length := by
  induction l with
  | nil => rfl
  | cons x l ih =>
    have e : Lib.joinTail [32] (x :: l) = 32 :: (x ++ Lib.joinTail [32] l) := by simp [Lib.joinTail]
    rw [e]
    simp [ih]
    omega
theorem jn_length (l : List Bytes) : (jn l).length ≤ (l.map List.length).sum + l.length := by
  cases l with
  | nil => simp [jn, Lib.join_nil]
  | cons x r =>
    have e : jn (x :: r) = x ++ Lib.joinTail [32] r := Lib.join_cons x r [32]
    rw [e, List.length_append, sum_tail]
    simp
    omega
theorem lineW_size (s : ByteArray) : (lineW s).length ≤ 4 * s.size + 1 ∧ (jn (lineW s)).length ≤ 4 * s.size + 1 := by
  have h1 := splitW_total (fold (clean s)) []
  have h2 := jn_length (lineW s)
  have h3 := clean_length s
  have h4 := fold_length (clean s)
  unfold lineW at h2 ⊢
  simp at h1
  omega
theorem words_is (s : ByteArray) (hs : s.size ≤ 1000000) : order_words.f s = some ((lineW s).map str) := by
  have h3 := clean_length s
  have h4 := fold_length (clean s)
  unfold order_words.f glyph_Clean.f
  rw [if_pos (by omega)]
  simp only [Option.bind_some]
  unfold glyph_Fold.f
  rw [if_pos (by rw [str_size]; omega)]
  simp only [Option.bind_some]
  unfold glyph_Words.f
  rw [if_pos (by rw [str_size, str_data]; omega)]
  simp only [Option.bind_some]
  rw [words_split, bs_str, str_data]
  rfl
theorem line_is (s : ByteArray) (hs : s.size ≤ 1000000) (k : Nat) (hk : 40 < k) : order_Line.f k s = some (cmd (lineW s)) := by
  have h := lineW_size s
  unfold order_Line.f
  rw [words_is s hs]
  simp only [Option.bind_some]
  rw [command_is _ (by omega) (by omega) k hk]
  rfl
theorem word_some (n : Int) : ∃ b : Bytes, roster_Word.f n = some (str b) ∧ b.length ≤ 6 := by
  unfold roster_Word.f
  split
  · exact ⟨_, rfl, by decide⟩
  split
  · exact ⟨_, rfl, by decide⟩
  split
  · exact ⟨_, rfl, by decide⟩
  · exact ⟨[], rfl, by decide⟩
def showC (o m : Int) (t : ByteArray) (b : Bytes) : ByteArray :=
  if o = 1 then str [104, 101, 108, 112] else if o = 3 then str [108, 101, 97, 118, 101] else if o = 2 ∧ b ≠ [] then str [106, 111, 105, 110, 32] ++ str b
  else if o = 4 ∧ b ≠ [] then str [115, 101, 116, 32] ++ str b else t
theorem show_is (o m : Int) (t : ByteArray) (b : Bytes) (hb : roster_Word.f m = some (str b)) (hl : b.length ≤ 6) (k : Nat) (hk : 1 < k) : order_Show.f k o m t = some (showC o m t b) := by
  obtain ⟨k, rfl⟩ : ∃ m, k = m + 1 := ⟨k - 1, by omega⟩
  unfold order_Show.f showC
  rw [hb]
  simp only [Option.bind_some, order_Show.j0, toList_str]
  have hz : (str b).size = b.length := str_size b
  by_cases a : o = 1
  · rw [if_pos a, if_pos a]; rfl
  rw [if_neg a, if_neg a]
  by_cases a3 : o = 3
  · rw [if_pos a3, if_pos a3]; rfl
  rw [if_neg a3, if_neg a3]
  by_cases a2 : o = 2
  · rw [if_pos a2]
    by_cases c : b = []
    · rw [if_neg (by simp [c]), if_neg (by omega), if_neg (fun h => h.2 c), if_neg (fun h => h.2 c)]
    · rw [if_pos (by simp [c]), if_pos (by omega), if_pos ⟨a2, c⟩]; rfl
  · have n2 : ¬ (o = 2 ∧ b ≠ []) := fun h => a2 h.1
    rw [if_neg a2, if_neg (by decide), if_neg n2]
    by_cases a4 : o = 4
    · rw [if_pos a4]
      by_cases c : b = []
      · have n4 : ¬ (o = 4 ∧ b ≠ []) := fun h => h.2 c
        rw [if_pos c, if_neg n4]
      · rw [if_neg c, if_pos (by omega), if_pos ⟨a4, c⟩]; rfl
    · have n4 : ¬ (o = 4 ∧ b ≠ []) := fun h => a4 h.1
      rw [if_neg a4, if_neg n4]
set_option maxRecDepth 100000 in
theorem works1 : cmd (lineW (⟨#[32, 83, 117, 98, 115, 99, 114, 105, 98, 101, 32, 32, 100, 105, 103, 101, 115, 116]⟩ : ByteArray)) = (2, 2, str []) := by decide +kernel
set_option maxRecDepth 100000 in
theorem works2 : (cmd (lineW (⟨#[119, 104, 97, 116]⟩ : ByteArray))).1 = 5 := by decide +kernel
theorem works_is (k : Nat) (hk : 40 < k) : bulletinlaw35_works.f k = some true := by
  unfold bulletinlaw35_works.f
  rw [line_is _ (by decide) k hk, works1]
  simp only [Option.bind_some, if_true]
  rw [toList_str, if_pos rfl, show_is 2 2 (str []) _ rw2 (by decide) k (by omega)]
  simp only [Option.bind_some]
  rw [show showC 2 2 (str []) [100, 105, 103, 101, 115, 116] = str [106, 111, 105, 110, 32, 100, 105, 103, 101, 115, 116] from rfl, toList_str, if_pos rfl, line_is _ (by decide) k hk]
  simp only [Option.bind_some]
  rw [works2]
  rfl
end Go.Proofs.YtlomcmdbbnbciaaDoor.Pl
