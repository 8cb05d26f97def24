/- A part of the proof of this sentence: OrderReads (35.5): the commands of any mail, as a member may send it, are as the document reads them; of at most 30 fields, names of at most 200, values and body of at most 3000 bytes. -/
import Derived.Test.YtihabmcaplnbcaaGreatDoorProg
import Derived.Below
import Derived.Deep.Draws
import Derived.Deep.AppendLies
import Derived.Maps.AppendAt
import Derived.OwnWalk
import Derived.Laws.BytesArg
import Derived.Laws.MakeOwn
import Derived.Laws.OwnMore
import Derived.Deep.OwnRows
import Derived.Tactics
import Derived.Lib.ConvBytes
import Derived.Laws.Slices
import Derived.WalkKit
import Derived.KernelRfl
import Derived.RowKit3
import Derived.Deep.LoopGhost
import Derived.Deep.QuietTactic
import Derived.BigQuiet
import Derived.WideLaws
import Derived.Deep.DeepCutAuto
import Derived.Deep.CutBlock
import Derived.Deep.RegionHeld3
import Derived.Laws.Rows
import Derived.Lib.AppendStr
import Derived.ArgAppend
import Derived.Laws.IdiomCopy
import Derived.OrdersHeld
import Derived.Laws.BitsLemmas
import Derived.RowKit
import Derived.Test.YtihabmcaplnbcaaGreatDoorCOrderReadsWWords
import Derived.Test.YtihabmcaplnbcaaGreatDoorCOrderReadsWLast
import Derived.Test.YtihabmcaplnbcaaGreatDoorCOrderReadsWTab
import Derived.Test.YtihabmcaplnbcaaGreatDoorCOrderReadsWFour
import Derived.Test.YtihabmcaplnbcaaGreatDoorCOrderReadsWQPut
import Derived.Test.YtihabmcaplnbcaaGreatDoorCOrderReadsWApart
import Derived.Test.YtihabmcaplnbcaaGreatDoorCOrderReadsWArr
import Derived.Test.YtihabmcaplnbcaaGreatDoorCOrderReadsWZeros
import Derived.Test.YtihabmcaplnbcaaGreatDoorCOrderReadsWFoot
import Derived.Test.YtihabmcaplnbcaaGreatDoorCOrderReadsWKept
import Derived.Test.YtihabmcaplnbcaaGreatDoorCOrderReadsWShare
import Derived.Test.YtihabmcaplnbcaaGreatDoorCOrderReadsWN
import Derived.Test.YtihabmcaplnbcaaGreatDoorCOrderReadsWFootNe
import Derived.Test.YtihabmcaplnbcaaGreatDoorCOrderReadsWAt
import Derived.Test.YtihabmcaplnbcaaGreatDoorCOrderReadsWEqStruct
import Derived.Test.YtihabmcaplnbcaaGreatDoorCOrderReadsWRepsOne
import Derived.Test.YtihabmcaplnbcaaGreatDoorCOrderReadsWInv
import Derived.Test.YtihabmcaplnbcaaGreatDoorCOrderReadsWInvWords
import Derived.Test.YtihabmcaplnbcaaGreatDoorCOrderReadsWGuard
import Derived.Test.YtihabmcaplnbcaaGreatDoorCOrderReadsWNEv
import Derived.Test.YtihabmcaplnbcaaGreatDoorCOrderReadsWMore
import Derived.Shelf.Strings.BuilderRune
import Derived.BigCall
import Derived.Lib.RuneBytes
import Derived.Lib.DecodeN
import Derived.Lib.FieldsP
import Derived.Lib.Join
import Derived.Laws.RangeAny
import Derived.Shelf.Strings.Builder1
import Derived.Shelf.Strings.Builder2
import Derived.Shelf.Strings.OnBuilder
import Derived.Shelf.Strings.Trim
import Derived.Shelf.Small.Utf8
import Derived.Shelf.Small.Strs
import Derived.Shelf.Strings.BuilderF
import Derived.Shelf.Strings.BuilderK
import Derived.Shelf.Utf8.AppendRune
import Derived.Shelf.Utf8.RuneCount
import Derived.Shelf.Strings.Search1
import Derived.Shelf.Strings.Search2
import Derived.Shelf.Strings.Search3
import Derived.Shelf.Strings.Cut
import Derived.Shelf.Strings.Count
import Derived.Shelf.LaysM
import Derived.Shelf.Strings.Shaped
import Derived.Shelf.Strings.Prefix
import Derived.Shelf.Strings.Split
import Derived.Shelf.Strings.SplitShaped
import Derived.Shelf.Unicode.Decode
import Derived.Shelf.Strings.Runes
import Derived.Shelf.Strings.RuneCount
import Derived.Shelf.Strings.IndexAny
import Derived.Shelf.Strings.AsciiSet
import Derived.Shelf.Strings.IndexAnyAll
import Derived.Shelf.Strings.Explode
import Derived.Shelf.Bits.Mul64
import Derived.Shelf.Strings.Repeat
import Derived.Shelf.Unicode.DecodeSlow
import Derived.Shelf.Unicode.DecodeAny
import Derived.Shelf.Unicode.DecodeLast
import Derived.Shelf.Strings.FieldsFuncAny
import Derived.Shelf.Strings.FieldsFuncGrows
namespace Go.Proofs.YtihabmcaplnbcaaGreatDoor.Fn
def bitsL (n m : Nat) : Array Bool := ((List.range n).map m.testBit).toArray
end Go.Proofs.YtihabmcaplnbcaaGreatDoor.Fn
-- written by xprint.py of this session over the kit's printer; not trusted: Lean checks it
namespace Go.Proofs.YtihabmcaplnbcaaGreatDoor.Fn
open Go.RowKit Go.Proofs.YtihabmcaplnbcaaGreatDoorW.PrintWords Go.Proofs.YtihabmcaplnbcaaGreatDoorW.PrintLast Go.Proofs.YtihabmcaplnbcaaGreatDoorW.PrintMore
attribute [local go_sem] max2_int min2_int max_two min_two max_three min_three max_four min_four   -- for this text's walks alone
set_option linter.unusedVariables false
set_option linter.unusedSimpArgs false

def errW : Option Int → Value
 | none => .nilIface
 | some c => .iface 0 (.int .i64 c)
theorem errW_none : errW none = .nilIface := rfl
theorem errW_some (c : Int) : errW (some c) = .iface 0 (.int .i64 c) := rfl

theorem u8_w (n : Int) : IntKind.u8.wrap n = n % 256 := by simp [IntKind.wrap, IntKind.bits, IntKind.signed]
theorem i64w_ (n : Int) : IntKind.i64.wrap n = wrap64 n := by unfold wrap64; exact IntKind.wrap_i64 n
theorem nil_ne (l : List UInt8) : l.isEmpty = !(l != []) := by cases l <;> simp
theorem size_lit (a : Array UInt8) : (ByteArray.mk a).size = a.size := rfl

theorem info3 : (Tryz.prog.info? 3).map (fun i => (i.zero, i.size, i.bytes)) = some (some (.int .i64 0), 1, 8) := by kernel_rfl
theorem info5 : (Tryz.prog.info? 5).map (fun i => (i.zero, i.size, i.bytes)) = some (some (.int .u8 0), 1, 1) := by kernel_rfl
theorem info9 : (Tryz.prog.info? 9).map (fun i => (i.zero, i.size, i.bytes)) = some (some (.string ⟨#[]⟩), 1, 16) := by kernel_rfl
theorem info35 : (Tryz.prog.info? 35).map (fun i => (i.zero, i.size, i.bytes)) = some (some (.agg #[(.string ⟨#[]⟩), (.string ⟨#[]⟩)]), 2, 32) := by kernel_rfl
theorem info63 : (Tryz.prog.info? 63).map (fun i => (i.zero, i.size, i.bytes)) = some (some (.agg #[(.int .i64 0), (.int .i64 0), (.string ⟨#[]⟩)]), 3, 32) := by kernel_rfl
theorem info65 : (Tryz.prog.info? 65).map (fun i => (i.zero, i.size, i.bytes)) = some (some (.agg #[(.int .i64 0), (.int .i64 0), (.string ⟨#[]⟩)]), 3, 32) := by kernel_rfl
-- the values' own types
/-! #### struct type 74 -/
structure S74 where
 f0 : ByteArray
 f1 : ByteArray
def z74 : S74 := ⟨(⟨#[]⟩ : ByteArray), (⟨#[]⟩ : ByteArray)⟩
def k74 : Kd S74 := Kd.iso (Kd.pair Kd.string Kd.string) (fun x : S74 => (x.f0, x.f1))
theorem k74_open {w : World} {x : S74} {cs : List Value} (h : k74.K w x cs) : cs = [.string x.f0, .string x.f1] := by
 obtain ⟨_, _, rfl, rfl, rfl⟩ := h
 exact rfl
theorem k74_mk (w : World) (x : S74)  : k74.K w x [.string x.f0, .string x.f1] := ⟨[.string x.f0], [.string x.f1], rfl, rfl, rfl⟩
def rd_T74 (xs : List S74) (i : Int) : S74 := xs.getD i.toNat z74
theorem at_T74 {w : World} {A : Option Addr} {n : Nat} {xs : List S74} (h : Kd.C k74 w A n xs) (i : Int) (h0 : 0 ≤ i) (h1 : i < n) : ∃ ad , A = some ad ∧ w.cell? (ad.add (i.toNat * 2)) = some (.string (rd_T74 xs i).f0) ∧ w.cell? ⟨(ad.add (i.toNat * 2)).block, (ad.add (i.toNat * 2)).off + 1, none⟩ = some (.string (rd_T74 xs i).f1) := by
 obtain ⟨ad, c, e, _, hK, hc0⟩ := Kd.C_get h z74 i h0 h1
 have hc : ∀ j u, c[j]? = some u → w.cell? (ad.add (i.toNat * 2 + j)) = some u := hc0
 obtain rfl := k74_open hK
 exact ⟨ad, e, hc 0 _ rfl, by rw [← add_field _ _ 1 (by omega)]; exact hc 1 _ rfl⟩

/-! #### struct type 35 -/
structure S35 where
 f0 : ByteArray
 f1 : ByteArray
def z35 : S35 := ⟨(⟨#[]⟩ : ByteArray), (⟨#[]⟩ : ByteArray)⟩
def k35 : Kd S35 := Kd.iso (Kd.pair Kd.string Kd.string) (fun x : S35 => (x.f0, x.f1))
theorem k35_open {w : World} {x : S35} {cs : List Value} (h : k35.K w x cs) : cs = [.string x.f0, .string x.f1] := by
 obtain ⟨_, _, rfl, rfl, rfl⟩ := h
 exact rfl
theorem k35_mkM (w : World) (base : Nat) (ok : Nat → Prop) (x : S35)  : k35.M w base ok x [.string x.f0, .string x.f1] := ⟨[.string x.f0], [.string x.f1], rfl, rfl, rfl⟩
def rd_T35 (xs : List S35) (i : Int) : S35 := xs.getD i.toNat z35
theorem at_T35 {w : World} {A : Option Addr} {n : Nat} {xs : List S35} (h : Kd.C k35 w A n xs) (i : Int) (h0 : 0 ≤ i) (h1 : i < n) : ∃ ad , A = some ad ∧ w.cell? (ad.add (i.toNat * 2)) = some (.string (rd_T35 xs i).f0) ∧ w.cell? ⟨(ad.add (i.toNat * 2)).block, (ad.add (i.toNat * 2)).off + 1, none⟩ = some (.string (rd_T35 xs i).f1) := by
 obtain ⟨ad, c, e, _, hK, hc0⟩ := Kd.C_get h z35 i h0 h1
 have hc : ∀ j u, c[j]? = some u → w.cell? (ad.add (i.toNat * 2 + j)) = some u := hc0
 obtain rfl := k35_open hK
 exact ⟨ad, e, hc 0 _ rfl, by rw [← add_field _ _ 1 (by omega)]; exact hc 1 _ rfl⟩

/-! #### struct type 180 -/
structure S180 where
 f0 : Int
 f1 : ByteArray
/-! #### struct type 38 -/
structure S38 where
 f0 : ByteArray
 f1 : ByteArray
def z38 : S38 := ⟨(⟨#[]⟩ : ByteArray), (⟨#[]⟩ : ByteArray)⟩
/-! #### struct type 40 -/
structure S40 where
 f0 : ByteArray
 f1 : S38
def z40 : S40 := ⟨(⟨#[]⟩ : ByteArray), z38⟩
/-! #### struct type 156 -/
structure S156 where
 f0 : Int
 f1 : ByteArray
/-! #### struct type 113 -/
structure S113 where
 f0 : (List S156)
 f1 : ByteArray
/-! #### struct type 44 -/
structure S44 where
 f0 : ByteArray
 f1 : ByteArray
def z44 : S44 := ⟨(⟨#[]⟩ : ByteArray), (⟨#[]⟩ : ByteArray)⟩
/-! #### struct type 46 -/
structure S46 where
 f0 : ByteArray
 f1 : S44
def z46 : S46 := ⟨(⟨#[]⟩ : ByteArray), z44⟩
/-! #### struct type 63 -/
structure S63 where
 f0 : Int
 f1 : Int
 f2 : ByteArray
def z63 : S63 := ⟨(0 : Int), (0 : Int), (⟨#[]⟩ : ByteArray)⟩
def k63 : Kd S63 := Kd.iso (Kd.pair (Kd.int .i64) (Kd.pair (Kd.int .i64) Kd.string)) (fun x : S63 => (x.f0, x.f1, x.f2))
theorem k63_open {w : World} {x : S63} {cs : List Value} (h : k63.K w x cs) : cs = [.int .i64 x.f0, .int .i64 x.f1, .string x.f2] := by
 obtain ⟨_, _, rfl, rfl, ⟨_, _, rfl, rfl, rfl⟩⟩ := h
 exact rfl
theorem k63_mkM (w : World) (base : Nat) (ok : Nat → Prop) (x : S63)  : k63.M w base ok x [.int .i64 x.f0, .int .i64 x.f1, .string x.f2] := ⟨[.int .i64 x.f0], [.int .i64 x.f1, .string x.f2], rfl, rfl, ⟨[.int .i64 x.f1], [.string x.f2], rfl, rfl, rfl⟩⟩
def rd_T63 (xs : List S63) (i : Int) : S63 := xs.getD i.toNat z63
theorem at_T63 {w : World} {A : Option Addr} {n : Nat} {xs : List S63} (h : Kd.C k63 w A n xs) (i : Int) (h0 : 0 ≤ i) (h1 : i < n) : ∃ ad , A = some ad ∧ w.cell? (ad.add (i.toNat * 3)) = some (.int .i64 (rd_T63 xs i).f0) ∧ w.cell? ⟨(ad.add (i.toNat * 3)).block, (ad.add (i.toNat * 3)).off + 1, none⟩ = some (.int .i64 (rd_T63 xs i).f1) ∧ w.cell? ⟨(ad.add (i.toNat * 3)).block, (ad.add (i.toNat * 3)).off + 2, none⟩ = some (.string (rd_T63 xs i).f2) := by
 obtain ⟨ad, c, e, _, hK, hc0⟩ := Kd.C_get h z63 i h0 h1
 have hc : ∀ j u, c[j]? = some u → w.cell? (ad.add (i.toNat * 3 + j)) = some u := hc0
 obtain rfl := k63_open hK
 exact ⟨ad, e, hc 0 _ rfl, by rw [← add_field _ _ 1 (by omega)]; exact hc 1 _ rfl, by rw [← add_field _ _ 2 (by omega)]; exact hc 2 _ rfl⟩

/-! #### struct type 65 -/
structure S65 where
 f0 : Int
 f1 : Int
 f2 : ByteArray
def z65 : S65 := ⟨(0 : Int), (0 : Int), (⟨#[]⟩ : ByteArray)⟩
def k65 : Kd S65 := Kd.iso (Kd.pair (Kd.int .i64) (Kd.pair (Kd.int .i64) Kd.string)) (fun x : S65 => (x.f0, x.f1, x.f2))
theorem k65_open {w : World} {x : S65} {cs : List Value} (h : k65.K w x cs) : cs = [.int .i64 x.f0, .int .i64 x.f1, .string x.f2] := by
 obtain ⟨_, _, rfl, rfl, ⟨_, _, rfl, rfl, rfl⟩⟩ := h
 exact rfl
theorem k65_mkM (w : World) (base : Nat) (ok : Nat → Prop) (x : S65)  : k65.M w base ok x [.int .i64 x.f0, .int .i64 x.f1, .string x.f2] := ⟨[.int .i64 x.f0], [.int .i64 x.f1, .string x.f2], rfl, rfl, ⟨[.int .i64 x.f1], [.string x.f2], rfl, rfl, rfl⟩⟩
def rd_T65 (xs : List S65) (i : Int) : S65 := xs.getD i.toNat z65
theorem at_T65 {w : World} {A : Option Addr} {n : Nat} {xs : List S65} (h : Kd.C k65 w A n xs) (i : Int) (h0 : 0 ≤ i) (h1 : i < n) : ∃ ad , A = some ad ∧ w.cell? (ad.add (i.toNat * 3)) = some (.int .i64 (rd_T65 xs i).f0) ∧ w.cell? ⟨(ad.add (i.toNat * 3)).block, (ad.add (i.toNat * 3)).off + 1, none⟩ = some (.int .i64 (rd_T65 xs i).f1) ∧ w.cell? ⟨(ad.add (i.toNat * 3)).block, (ad.add (i.toNat * 3)).off + 2, none⟩ = some (.string (rd_T65 xs i).f2) := by
 obtain ⟨ad, c, e, _, hK, hc0⟩ := Kd.C_get h z65 i h0 h1
 have hc : ∀ j u, c[j]? = some u → w.cell? (ad.add (i.toNat * 3 + j)) = some u := hc0
 obtain rfl := k65_open hK
 exact ⟨ad, e, hc 0 _ rfl, by rw [← add_field _ _ 1 (by omega)]; exact hc 1 _ rfl, by rw [← add_field _ _ 2 (by omega)]; exact hc 2 _ rfl⟩

theorem fld63_0 (x0 x1 x2 : Value) (w : World) : (Instr.field 63 (.agg #[x0, x1, x2]) 0).run Tryz.prog w = .ok (x0) w := by kernel_rfl
theorem fld63_1 (x0 x1 x2 : Value) (w : World) : (Instr.field 63 (.agg #[x0, x1, x2]) 1).run Tryz.prog w = .ok (x1) w := by kernel_rfl
theorem fld63_2 (x0 x1 x2 : Value) (w : World) : (Instr.field 63 (.agg #[x0, x1, x2]) 2).run Tryz.prog w = .ok (x2) w := by kernel_rfl
theorem fld65_0 (x0 x1 x2 : Value) (w : World) : (Instr.field 65 (.agg #[x0, x1, x2]) 0).run Tryz.prog w = .ok (x0) w := by kernel_rfl
theorem fld65_1 (x0 x1 x2 : Value) (w : World) : (Instr.field 65 (.agg #[x0, x1, x2]) 1).run Tryz.prog w = .ok (x1) w := by kernel_rfl
theorem fld65_2 (x0 x1 x2 : Value) (w : World) : (Instr.field 65 (.agg #[x0, x1, x2]) 2).run Tryz.prog w = .ok (x2) w := by kernel_rfl
theorem bw {p : Prop} (h : p := by repeat (first | (with_reducible first | exact HB.out | apply below_alloc | apply pw_below_drewN | apply below_drew1) | exact HB.out)) : p := h
theorem bwS {p : Prop} (h : p := by repeat (first | (with_reducible first | exact HB.out | apply below_alloc | apply pw_below_drewN | apply below_drew1 | refine below_set ?_ (Aside0.out (by assumption))) | exact HB.out)) : p := h
theorem am {p : Prop} (h : p := by (try simp only [List.map_toArray, List.map_cons, List.map_nil]); first | done | rfl | (simp only [List.length_drop, List.length_take]; rfl)) : p := h
theorem cl {p : Prop} (h : p := by first | rfl | (simp; done) | (simp [*]; done) | (simp [nil_ne]; done) | (simp [u8_w, i64w_]; done) | (simp [size_lit]; done) | (simp; unfold wrap64; omega)) : p := h
theorem bk {p : Prop} (h : p := by (with_reducible repeat (first | refine blk_drewN ?_ _ | refine blk_drew ?_ | refine blk_alloc ?_ _)); exact Aside0.out (by assumption)) : p := h
theorem od {p : Prop} [Decidable p] (h : decide p = true := by first | (with_reducible assumption) | assumption) : p := of_decide_eq_true h
theorem ra {q p : Prop} (hq : q) (h : q → p := by intro hq; (with_reducible repeat (first | apply Kd.R_alloc | apply Kd.R_drewN | apply Kd.R_drew)); exact hq) : p := h hq
theorem sa {q p : Prop} (hq : q) (h : q → p := by intro hq; (with_reducible repeat (first | apply Kd.S_alloc | apply Kd.S_drewN | apply Kd.S_drew)); exact hq) : p := h hq
theorem d0 {p : Prop} (h : p := by repeat (first | exact Drawn0.refl _ | apply Drawn0.step)) : p := h
theorem ew {p : Prop} (h : p := by first | rfl | (simp [errW_none, errW_some] <;> rfl) | (simp [*, errW_none, errW_some] <;> rfl)) : p := h
theorem nft : ¬ (false = true) := by decide
theorem bk2 {w : World} {g : Nat} {t : TypeId} {a b : Value} (h : w.heap[g]? = some (.cells #[a, b] t (0, 0))) : w.cell? ⟨g, 0, none⟩ = some a ∧ w.cell? ⟨g, 1, none⟩ = some b ∧ w.frozen? ⟨g, 0, none⟩ = false ∧ w.frozen? ⟨g, 1, none⟩ = false := ⟨(blk_cell h 0).trans rfl, (blk_cell h 1).trans rfl, blk_frozen h 0, blk_frozen h 1⟩
theorem bk3 {w : World} {g : Nat} {t : TypeId} {a b c : Value} (h : w.heap[g]? = some (.cells #[a, b, c] t (0, 0))) : w.cell? ⟨g, 0, none⟩ = some a ∧ w.cell? ⟨g, 1, none⟩ = some b ∧ w.cell? ⟨g, 2, none⟩ = some c ∧ w.frozen? ⟨g, 0, none⟩ = false ∧ w.frozen? ⟨g, 1, none⟩ = false ∧ w.frozen? ⟨g, 2, none⟩ = false := ⟨(blk_cell h 0).trans rfl, (blk_cell h 1).trans rfl, (blk_cell h 2).trans rfl, blk_frozen h 0, blk_frozen h 1, blk_frozen h 2⟩
end Go.Proofs.YtihabmcaplnbcaaGreatDoor.Fn
-- written by xprint.py of this session over the kit's printer; not trusted: Lean checks it
namespace Go.Proofs.YtihabmcaplnbcaaGreatDoor.Fn
open Go.RowKit Go.Proofs.YtihabmcaplnbcaaGreatDoorW.PrintWords Go.Proofs.YtihabmcaplnbcaaGreatDoorW.PrintLast Go.Proofs.YtihabmcaplnbcaaGreatDoorW.PrintMore
attribute [local go_sem] max2_int min2_int max_two min_two max_three min_three max_four min_four   -- for this text's walks alone
set_option linter.unusedVariables false
set_option linter.unusedSimpArgs false

theorem eqA63 (d : Nat) (w : World) (x0 y0 : Int) (x1 y1 : Int) (x2 y2 : ByteArray) :
  (Op.equalIn (d + 2) 63 (.agg #[.int .i64 x0, .int .i64 x1, .string x2]) (.agg #[.int .i64 y0, .int .i64 y1, .string y2])).run Tryz.prog w = .ok (x0 == y0 && (x1 == y1 && (x2.toList == y2.toList))) w := by
 refine eqA_of Tryz.underlying63 (by kernel_rfl) ?_
 refine eqf_cons (by rfl) (by go_simp; rfl) (by go_simp; rfl) (by go_simp) ?_
 refine eqf_cons (by rfl) (by go_simp; rfl) (by go_simp; rfl) (by go_simp) ?_
 exact eqf_last (by rfl) (by go_simp; rfl) (by go_simp; rfl) (by go_simp)
end Go.Proofs.YtihabmcaplnbcaaGreatDoor.Fn
namespace Go.Proofs.YtihabmcaplnbcaaGreatDoor.Fn
open Go.RowKit Go.Proofs.YtihabmcaplnbcaaGreatDoorW.PrintWords Go.Proofs.YtihabmcaplnbcaaGreatDoorW.PrintLast Go.Proofs.YtihabmcaplnbcaaGreatDoorW.PrintMore
attribute [local go_sem] max2_int min2_int max_two min_two max_three min_three max_four min_four
set_option linter.unusedVariables false
set_option linter.unusedSimpArgs false

mutual
def bulletinlaw15_Light.l0 : Nat → List (S74) → Int → Option (Bool)
 | 0, _, _ => none
 | k + 1, x0, x3 => if x3 < (x0.length : Int) then (bulletinlaw15_Light.j1 k x0 x3 (decide (x3 < 30))) else (bulletinlaw15_Light.j1 k x0 x3 false)
def bulletinlaw15_Light.j1 : Nat → List (S74) → Int → Bool → Option (Bool)
 | 0, _, _, _ => none
 | k + 1, x0, x3, x11 => if x11 = true then (if 0 ≤ x3 then (if x3 < (x0.length : Int) then (if (((rd_T74 x0 x3).f0).size : Int) > 200 then (some false) else (if (((rd_T74 x0 x3).f1).size : Int) > 3000 then (some false) else (bulletinlaw15_Light.l0 k x0 (wrap64 (x3 + 1))))) else (none)) else (none)) else (some (decide ((x0.length : Int) ≤ 30)))
end
def bulletinlaw15_Light.f (k : Nat) (l0 : List (S74)) : Option (Bool) := bulletinlaw15_Light.l0 k l0 0
set_option maxHeartbeats 8000000 in
set_option maxRecDepth 100000 in
theorem bulletinlaw15_Light.calls (k : Nat) (A0 : Option Addr) (c0 : Nat) (l0 : List (S74)) (r : Bool) (w : World) (hr0 : Kd.C k74 w A0 l0.length l0) (hc0 : l0.length ≤ c0) (h : bulletinlaw15_Light.f k l0 = some r) :
  Calls Tryz.prog 31 #[.slice A0 l0.length c0] w fun e w' => e = .returned (.bool r) ∧ Drawn0 w w' := by
 have HR0 := Aside0.mk hr0; have HC0 := Aside0.mk hc0; clear hr0 hc0; have H : (bulletinlaw15_Light.l0 k l0 0) = some r := h; clear h; have H' := Aside0.mk H; clear H
 go_enter Tryz.func31, Tryz.ntmps31
 go_wp2
 go_loopg [3] k (fun kq v3 w' => ∃ (x3_1 : Int), v3 = .int .i64 x3_1 ∧ Aside0 (bulletinlaw15_Light.l0 kq l0 x3_1 = some r) ∧ Aside0 (kq ≤ k) ∧ Drawn0 w w')
 case atStart => exact ⟨(0), cl, H', ⟨Nat.le_refl _⟩, d0⟩
 case round =>
  clear H'; obtain ⟨x3_1, rfl, HA, HK1, ⟨m1, rfl⟩⟩ := hrel; cases gk with
  | zero => exact absurd HA.out (by simp [bulletinlaw15_Light.l0])
  | succ k1 =>
   have H := HA.out; clear HA; simp only [bulletinlaw15_Light.l0] at H; have HC2 := Aside0.mk H; clear H
   go_upto_region 2 with (fail)
   go_cut [11] (fun v11 wc => ∃ (kq : Nat) (x11_1 : Bool), v11 = .bool x11_1 ∧ Aside0 (bulletinlaw15_Light.j1 kq l0 x3_1 x11_1 = some r) ∧ Aside0 (kq ≤ k1) ∧ Drawn0 w wc)
   case first =>
    have H := HC2.out; clear HC2
    by_cases c3 : x3_1 < (l0.length : Int)
    ·rw [if_pos c3] at H; have c3b0 := decide_eq_true c3; clear c3
     (first | rw [c3b0] | (simp only [i64_w, i32_w]; rw [c3b0]) | skip)
     have H' := Aside0.mk H; clear H
     go_wp2
     go_meet
     case rel => exact ⟨_, (decide (x3_1 < 30)), cl, H', ⟨by have := HK1.out; first | omega | exact Nat.le_refl _⟩, d0⟩
    rw [if_neg c3] at H; have c3b0 := decide_eq_false c3; clear c3
    (first | rw [c3b0] | (simp only [i64_w, i32_w]; rw [c3b0]) | skip)
    have H' := Aside0.mk H; clear H
    go_wp2
    go_meet
    case rel => exact ⟨_, (false), cl, H', ⟨by have := HK1.out; first | omega | exact Nat.le_refl _⟩, d0⟩
   case rest =>
    clear HC2
    try clear p2
    try clear c3
    try clear c3b0
    obtain ⟨kq, x11_1, rfl, HA, HJ1, ⟨mc1, rfl⟩⟩ := hcut; cases kq with
    | zero => exact absurd HA.out (by simp [bulletinlaw15_Light.j1])
    | succ kj1 =>
     have H := HA.out; clear HA; simp only [bulletinlaw15_Light.j1] at H
     by_cases c4 : x11_1 = true
     ·subst c4; rw [if_pos rfl] at H
      by_cases c5 : 0 ≤ x3_1
      ·rw [if_pos c5] at H; have c5b0 := decide_eq_true c5; clear c5
       by_cases c6 : x3_1 < (l0.length : Int)
       ·rw [if_pos c6] at H; have c6b0 := decide_eq_true c6; clear c6
        by_cases c7 : (((rd_T74 l0 x3_1).f0).size : Int) > 200
        ·rw [if_pos c7] at H; have c7b0 : decide (200 < (((rd_T74 l0 x3_1).f0).size : Int)) = true := decide_eq_true c7; have c7b1 : decide (200 < ((rd_T74 l0 x3_1).f0).size) = true := decide_eq_true (by omega); clear c7; obtain rfl := Option.some.inj H; have p101 : 0 ≤ (x3_1 : Int) := od; have q101 : x3_1 < (l0.length : Int) := od; obtain ⟨ad101, e101, hx101_0, hx101_1⟩ := at_T74 HR0.out x3_1 p101 q101; cases e101; replace p101 := eq_true p101; replace q101 := eq_true q101
         go_wp2
         go_ret
         exact ⟨cl, d0⟩
        rw [if_neg c7] at H; have c7b0 : decide (200 < (((rd_T74 l0 x3_1).f0).size : Int)) = false := decide_eq_false c7; have c7b1 : decide (200 < ((rd_T74 l0 x3_1).f0).size) = false := decide_eq_false (by omega); clear c7
        by_cases c8 : (((rd_T74 l0 x3_1).f1).size : Int) > 3000
        ·rw [if_pos c8] at H; have c8b0 : decide (3000 < (((rd_T74 l0 x3_1).f1).size : Int)) = true := decide_eq_true c8; have c8b1 : decide (3000 < ((rd_T74 l0 x3_1).f1).size) = true := decide_eq_true (by omega); clear c8; obtain rfl := Option.some.inj H; have p101 : 0 ≤ (x3_1 : Int) := od; have q101 : x3_1 < (l0.length : Int) := od; obtain ⟨ad101, e101, hx101_0, hx101_1⟩ := at_T74 HR0.out x3_1 p101 q101; cases e101; replace p101 := eq_true p101; replace q101 := eq_true q101; have p102 : 0 ≤ (x3_1 : Int) := od; have q102 : x3_1 < (l0.length : Int) := od; obtain ⟨ad102, e102, hx102_0, hx102_1⟩ := at_T74 HR0.out x3_1 p102 q102; obtain rfl : ad101 = ad102 := (by injection e102)
         replace p102 := eq_true p102; replace q102 := eq_true q102
         go_wp2
         go_ret
         exact ⟨cl, d0⟩
        rw [if_neg c8] at H; have c8b0 : decide (3000 < (((rd_T74 l0 x3_1).f1).size : Int)) = false := decide_eq_false c8; have c8b1 : decide (3000 < ((rd_T74 l0 x3_1).f1).size) = false := decide_eq_false (by omega); clear c8; have H' := Aside0.mk H; clear H; have p101 : 0 ≤ (x3_1 : Int) := od; have q101 : x3_1 < (l0.length : Int) := od; obtain ⟨ad101, e101, hx101_0, hx101_1⟩ := at_T74 HR0.out x3_1 p101 q101; cases e101; replace p101 := eq_true p101; replace q101 := eq_true q101; have p102 : 0 ≤ (x3_1 : Int) := od; have q102 : x3_1 < (l0.length : Int) := od; obtain ⟨ad102, e102, hx102_0, hx102_1⟩ := at_T74 HR0.out x3_1 p102 q102; obtain rfl : ad101 = ad102 := (by injection e102)
        replace p102 := eq_true p102; replace q102 := eq_true q102
        go_wp2
        go_roundg kj1
        case measure => have := HK1.out; have := HJ1.out; omega
        case rel => exact ⟨(wrap64 (x3_1 + 1)), cl, H', ⟨by have := HK1.out; have := HJ1.out; omega⟩, d0⟩
       rw [if_neg c6] at H; exact absurd H (by simp)
      rw [if_neg c5] at H; exact absurd H (by simp)
     replace c4 := Bool.eq_false_iff.mpr c4; subst c4; rw [if_neg nft] at H; obtain rfl := Option.some.inj H
     go_wp2
     go_ret
     exact ⟨cl, d0⟩

end Go.Proofs.YtihabmcaplnbcaaGreatDoor.Fn
namespace Go.Proofs.YtihabmcaplnbcaaGreatDoor.Fn
open Go.RowKit Go.Proofs.YtihabmcaplnbcaaGreatDoorW.PrintWords Go.Proofs.YtihabmcaplnbcaaGreatDoorW.PrintLast Go.Proofs.YtihabmcaplnbcaaGreatDoorW.PrintMore
attribute [local go_sem] max2_int min2_int max_two min_two max_three min_three max_four min_four
set_option linter.unusedVariables false
set_option linter.unusedSimpArgs false
def bulletinlaw16_Light.f (k : Nat) (l0_0 : List (S74)) (a0_1 : ByteArray) : Option (Bool) := (bulletinlaw15_Light.f k l0_0).bind fun t104 => (if t104 = true then (some (decide ((a0_1.size : Int) ≤ 3000))) else (some false))
set_option maxHeartbeats 8000000 in
set_option maxRecDepth 100000 in
theorem bulletinlaw16_Light.calls (k : Nat) (A0_0 : Option Addr) (c0_0 : Nat) (l0_0 : List (S74)) (a0_1 : ByteArray) (r : Bool) (w : World) (hr0_0 : Kd.C k74 w A0_0 l0_0.length l0_0) (hc0_0 : l0_0.length ≤ c0_0) (h : bulletinlaw16_Light.f k l0_0 a0_1 = some r) :
  Calls Tryz.prog 7 #[.agg #[.slice A0_0 l0_0.length c0_0, .string a0_1]] w fun e w' => e = .returned (.bool r) ∧ Below w.heap.size w w' := by
 have hu24 := Tryz.underlying24; have HR0_0 := Aside0.mk hr0_0; have HC0_0 := Aside0.mk hc0_0; clear hr0_0 hc0_0; have HB := Aside0.mk (Below.refl w.heap.size w); have H : ((bulletinlaw15_Light.f k l0_0).bind fun t104 => (if t104 = true then (some (decide ((a0_1.size : Int) ≤ 3000))) else (some false))) = some r := h; clear h; replace H := Option.bind_eq_some_iff.mp H; obtain ⟨t104, A20, H⟩ := H; have A2 := Aside0.mk A20; clear A20
 by_cases c3 : t104 = true
 ·subst c3; rw [if_pos rfl] at H; obtain rfl := Option.some.inj H
  go_enter Tryz.func7, Tryz.ntmps7
  go_wp2_with (first | ((with_reducible refine gate_dst (N := 1) rfl ?_); (try (refine gate_guard (by rfl) ?_; dsimp only)); refine box_event ?hg (N := 1) ?hd (cs := #[.slice A0_0 l0_0.length c0_0, .string a0_1]) (t := 24) ?hr ?_; (case hd => rfl); (case hg => rfl); (case hr => first | (go_simp; done) | (go_simp; rfl)); intro gb103 hg w4 hbox hb; have n0_ := Aside0.mk (below_step bw hb); have n1_ := Aside0.mk (hbox); have n2_ := Aside0.mk ((by rw [hg]; exact (below_size bw) : w.heap.size ≤ gb103)); have n3_ := Aside0.mk ((by rw [hg]; exact (below_size bw) : w.heap.size ≤ gb103)); clear HB; have HB := n0_; have BK103 := n1_; have GW103 := n2_; have GE103 := n3_; clear n0_ n1_ n2_ n3_; clear hb hbox hg; have hcz5_0 : w4.cell? ⟨gb103, 0, none⟩ = some (.slice A0_0 l0_0.length c0_0) := (blk_cell BK103.out 0).trans rfl; have hcz5_1 : w4.cell? ⟨gb103, 1, none⟩ = some (.string a0_1) := (blk_cell BK103.out 1).trans rfl; have hfz5_0 := blk_frozen BK103.out 0; have hfz5_1 := blk_frozen BK103.out 1) | ((with_reducible refine gate_callee (f := 31) rfl ?_); refine goesL_ (some 5) rfl rfl Tryz.func31 (by kernel_rfl) rfl #[.slice A0_0 l0_0.length c0_0] rfl am ?_; (with_reducible refine (bulletinlaw15_Light.calls k _ _ l0_0 true _ ?side1 ?side2 A2.out).mono ?_); (case side1 => repeat (first | exact (Kd.C_below HR0_0.out HB.out) | (with_reducible refine Kd.C_alloc ?_ _) | (with_reducible refine Kd.C_drewN ?_ _) | (with_reducible refine Kd.C_drew ?_))); (case side2 => exact HC0_0.out); rintro e w' ⟨rfl, ⟨nd, rfl⟩⟩; refine ⟨_, rfl, ?_⟩))
  go_ret
  exact ⟨ew, bwS⟩
 replace c3 := Bool.eq_false_iff.mpr c3; subst c3; rw [if_neg nft] at H; obtain rfl := Option.some.inj H
 go_enter Tryz.func7, Tryz.ntmps7
 go_wp2_with (first | ((with_reducible refine gate_dst (N := 1) rfl ?_); (try (refine gate_guard (by rfl) ?_; dsimp only)); refine box_event ?hg (N := 1) ?hd (cs := #[.slice A0_0 l0_0.length c0_0, .string a0_1]) (t := 24) ?hr ?_; (case hd => rfl); (case hg => rfl); (case hr => first | (go_simp; done) | (go_simp; rfl)); intro gb103 hg w6 hbox hb; have n0_ := Aside0.mk (below_step bw hb); have n1_ := Aside0.mk (hbox); have n2_ := Aside0.mk ((by rw [hg]; exact (below_size bw) : w.heap.size ≤ gb103)); have n3_ := Aside0.mk ((by rw [hg]; exact (below_size bw) : w.heap.size ≤ gb103)); clear HB; have HB := n0_; have BK103 := n1_; have GW103 := n2_; have GE103 := n3_; clear n0_ n1_ n2_ n3_; clear hb hbox hg; have hcz7_0 : w6.cell? ⟨gb103, 0, none⟩ = some (.slice A0_0 l0_0.length c0_0) := (blk_cell BK103.out 0).trans rfl; have hcz7_1 : w6.cell? ⟨gb103, 1, none⟩ = some (.string a0_1) := (blk_cell BK103.out 1).trans rfl; have hfz7_0 := blk_frozen BK103.out 0; have hfz7_1 := blk_frozen BK103.out 1) | ((with_reducible refine gate_callee (f := 31) rfl ?_); refine goesL_ (some 5) rfl rfl Tryz.func31 (by kernel_rfl) rfl #[.slice A0_0 l0_0.length c0_0] rfl am ?_; (with_reducible refine (bulletinlaw15_Light.calls k _ _ l0_0 false _ ?side1 ?side2 A2.out).mono ?_); (case side1 => repeat (first | exact (Kd.C_below HR0_0.out HB.out) | (with_reducible refine Kd.C_alloc ?_ _) | (with_reducible refine Kd.C_drewN ?_ _) | (with_reducible refine Kd.C_drew ?_))); (case side2 => exact HC0_0.out); rintro e w' ⟨rfl, ⟨nd, rfl⟩⟩; refine ⟨_, rfl, ?_⟩))
 go_ret
 exact ⟨ew, bwS⟩

def bulletinlaw15_To.l0 : Nat → List (S74) → List (S35) → Int → Option ((List (S35)))
 | 0, _, _, _ => none
 | k + 1, x0, x3, x4 => if x4 < (x0.length : Int) then (if 0 ≤ x4 then (if x3.length < 4398046511104 then (bulletinlaw15_To.l0 k x0 (x3 ++ [(⟨(rd_T74 x0 x4).f0, (rd_T74 x0 x4).f1⟩ : S35)]) (wrap64 (x4 + 1))) else (none)) else (none)) else (some x3)
def bulletinlaw15_To.f (k : Nat) (l0 : List (S74)) : Option ((List (S35))) := bulletinlaw15_To.l0 k l0 ([] : List (S35)) 0
def bulletinlaw15_To.T5 : Bool × List (List Nat × List Nat) := (true, [([], []), ([], []), ([], []), ([1, 2], [1, 2]), ([3], [3]), ([4], [4]), ([], []), ([], []), ([6, 7], [6, 7]), ([8], [8]), ([9], [9]), ([5, 10], [5, 10]), ([11], [11]), ([0, 12], [0, 12]), ([13, 13, 0, 1, 2, 3, 4, 5, 6, 7, 8, 9, 10, 11, 12, 13], [0, 13])])
def bulletinlaw15_To.B5 : List Nat := [0, 0, 0, 6, 14, 30, 0, 0, 192, 448, 960, 2046, 4094, 8191, 16383]
theorem bulletinlaw15_To.tab5 : rtab .any (opsOf Tryz.f33 5) = bulletinlaw15_To.T5 := by kernel_rfl
theorem bulletinlaw15_To.bits5 : waitsOk bulletinlaw15_To.T5.2 bulletinlaw15_To.B5 = true := by kernel_rfl
set_option maxHeartbeats 8000000 in
set_option maxRecDepth 100000 in
theorem bulletinlaw15_To.calls (k : Nat) (A0 : Option Addr) (c0 : Nat) (l0 : List (S74)) (r : List (S35)) (w : World) (hr0 : Kd.C k74 w A0 l0.length l0) (hc0 : l0.length ≤ c0) (h : bulletinlaw15_To.f k l0 = some r) :
  Calls Tryz.prog 33 #[.slice A0 l0.length c0] w fun e w' => ∃ v0_ : Value, e = .returned (v0_) ∧ Kd.R k35 35 w' w.heap.size (fun _ => True) v0_ r ∧ Below w.heap.size w w' := by
 have hu35 := Tryz.underlying35; have HR0 := Aside0.mk hr0; have HC0 := Aside0.mk hc0; clear hr0 hc0; have HB := Aside0.mk (Below.refl w.heap.size w); have H : (bulletinlaw15_To.l0 k l0 ([] : List (S35)) 0) = some r := h; clear h; have H' := Aside0.mk H; clear H
 go_enter Tryz.func33, Tryz.ntmps33
 go_wp2
 go_loopg [3, 4] k (fun kq v3 v4 w' => ∃ (x3_1 : List (S35)) (x4_1 : Int), v4 = .int .i64 x4_1 ∧ Aside0 (bulletinlaw15_To.l0 kq l0 x3_1 x4_1 = some r) ∧ Aside0 (kq ≤ k) ∧ Aside0 (Kd.R k35 35 w' w.heap.size (fun _ => True) v3 x3_1) ∧ Aside0 (Below w.heap.size w w'))
 case atStart => exact ⟨(([] : List (S35))), (0), cl, H', ⟨Nat.le_refl _⟩, ⟨by first | exact Kd.R_nil _ _ _ _ _ | exact Kd.N_nil _ _ _ _ _ | exact Kd.V_nil _ _ _ _ _ | exact Kd.Q_nil _ _ _ _ _ | exact Kd.S_nil _ _ _ _ _⟩, ⟨bw⟩⟩
 case round =>
  clear H'; obtain ⟨x3_1, x4_1, rfl, HA, HK1, HO_3, HB⟩ := hrel; cases gk with
  | zero => exact absurd HA.out (by simp [bulletinlaw15_To.l0])
  | succ k1 =>
   have H := HA.out; clear HA; simp only [bulletinlaw15_To.l0] at H
   by_cases c2 : x4_1 < (l0.length : Int)
   ·rw [if_pos c2] at H; have c2b0 := decide_eq_true c2; clear c2
    by_cases c3 : 0 ≤ x4_1
    ·rw [if_pos c3] at H; have c3b0 := decide_eq_true c3; clear c3
     by_cases c4 : x3_1.length < 4398046511104
     ·rw [if_pos c4] at H; have LMc4 := Aside0.mk c4; clear c4; obtain ⟨y218, hy218⟩ : ∃ y_ : List (S35), y_ = (x3_1 ++ [(⟨(rd_T74 l0 x4_1).f0, (rd_T74 l0 x4_1).f1⟩ : S35)]) := ⟨_, rfl⟩
      replace H : (bulletinlaw15_To.l0 k1 l0 y218 (wrap64 (x4_1 + 1))) = some r := by first | (rw [hy218]; with_reducible exact H) | (have H2_ := (Option.bind_some _ _).symm.trans H; rw [hy218]; with_reducible exact H2_) | (have H2_ := (Option.bind_some _ _).symm.trans H; with_reducible exact H2_) | with_reducible exact H | (rw [hy218]; exact H) | exact H
      have Ny218 := Aside0.mk hy218; clear hy218; have H' := Aside0.mk H; clear H
      try go_wp2
      have n0_ := Aside0.mk (Kd.R_drew HO_3.out); have n1_ := Aside0.mk (below_drew1 HB.out); clear HO_3 HB; have HO_3 := n0_; have HB := n1_; clear n0_ n1_; have p216 : 0 ≤ (x4_1 : Int) := od; have q216 : x4_1 < (l0.length : Int) := od; obtain ⟨ad216, e216, hx216_0, hx216_1⟩ := at_T74 HR0.out x4_1 p216 q216; have hw216_1 := hx216_1; have hw216_0 := hx216_0; cases e216; replace hx216_0 := (HB.out.cell (World.block_lt_of_cell? w _ hx216_0)).trans hx216_0; replace hx216_1 := (HB.out.cell (World.block_lt_of_cell? w _ hx216_1)).trans hx216_1; replace p216 := eq_true p216; replace q216 := eq_true q216; have p217 : 0 ≤ (x4_1 : Int) := od; have q217 : x4_1 < (l0.length : Int) := od; obtain ⟨ad217, e217, hx217_0, hx217_1⟩ := at_T74 HR0.out x4_1 p217 q217; have hw217_1 := hx217_1; have hw217_0 := hx217_0; obtain rfl : ad216 = ad217 := (by injection e217)
      replace hx217_0 := (HB.out.cell (World.block_lt_of_cell? w _ hx217_0)).trans hx217_0; replace hx217_1 := (HB.out.cell (World.block_lt_of_cell? w _ hx217_1)).trans hx217_1; replace p217 := eq_true p217; replace q217 := eq_true q217; refine start_ (n := 15) (S := fun w' => w'.cell? (ad216.add ((x4_1).toNat * 2)) = some (.string ((rd_T74 l0 x4_1).f0)) ∧ w'.cell? ⟨(ad216.add ((x4_1).toNat * 2)).block, (ad216.add ((x4_1).toNat * 2)).off + 1, none⟩ = some (.string ((rd_T74 l0 x4_1).f1)) ∧ w'.cell? (ad216.add ((x4_1).toNat * 2)) = some (.string ((rd_T74 l0 x4_1).f0)) ∧ w'.cell? ⟨(ad216.add ((x4_1).toNat * 2)).block, (ad216.add ((x4_1).toNat * 2)).off + 1, none⟩ = some (.string ((rd_T74 l0 x4_1).f1))) (ds := []) #[false, false, false, false, false, false, false, false, false, false, false, false, false, false, false] (by kernel_rfl) rfl rfl ⟨((HB.out.cell (World.block_lt_of_cell? w _ hw216_0)).trans hw216_0), ((HB.out.cell (World.block_lt_of_cell? w _ hw216_1)).trans hw216_1), ((HB.out.cell (World.block_lt_of_cell? w _ hw217_0)).trans hw217_0), ((HB.out.cell (World.block_lt_of_cell? w _ hw217_1)).trans hw217_1)⟩ (fun hHeld => ?_); refine with_tabW bulletinlaw15_To.tab5 bulletinlaw15_To.bits5 (fun HT_ HW_ => ?_)
      generalize wr.drew = w5 at HO_3 HB hx216_0 hx216_1 hx217_0 hx217_1 hHeld ⊢
      refine pure_ (i := 0) (N := some 11) (v := ?_) (a' := ?_) (bitsL 15 1) rfl rfl (any_of HT_.out (by kernel_rfl)) (fun _ _ _ h => h) (Or.inl ⟨by rfl, ?_⟩) ?_ ?_; rotate_left
      ·intro w'; go_simp; with_reducible rfl
      rotate_left
      ·simp only [Act.put, List.setIfInBounds_toArray, List.set_cons_zero, List.set_cons_succ, i64_w, i32_w]; rfl
      refine pure_ (i := 1) (N := some 12) (v := ?_) (a' := ?_) (bitsL 15 3) rfl rfl (any_of HT_.out (by kernel_rfl)) (fun _ _ _ h => h) (Or.inl ⟨by rfl, ?_⟩) ?_ ?_; rotate_left
      ·intro w'; go_simp; with_reducible rfl
      rotate_left
      ·simp only [Act.put, List.setIfInBounds_toArray, List.set_cons_zero, List.set_cons_succ, i64_w, i32_w]; rfl
      refine pure_ (i := 2) (N := some 13) (v := ?_) (a' := ?_) (bitsL 15 7) rfl rfl (any_of HT_.out (by kernel_rfl)) (fun _ _ _ h => h) (Or.inl ⟨by rfl, ?_⟩) ?_ ?_; rotate_left
      ·intro w'; go_simp; with_reducible rfl
      rotate_left
      ·simp only [Act.put, List.setIfInBounds_toArray, List.set_cons_zero, List.set_cons_succ, i64_w, i32_w]; rfl
      refine pure_ (i := 3) (N := some 14) (v := ?_) (a' := ?_) (bitsL 15 15) rfl rfl (any_of HT_.out (by kernel_rfl)) (fun _ _ _ h => h) (Or.inl ⟨by rfl, ?_⟩) ?_ ?_; rotate_left
      ·intro w'; go_simp; with_reducible rfl
      rotate_left
      ·simp only [Act.put, List.setIfInBounds_toArray, List.set_cons_zero, List.set_cons_succ, i64_w, i32_w]; rfl
      refine pure_ (i := 4) (N := some 15) (v := ?_) (a' := ?_) (bitsL 15 31) rfl rfl (any_of HT_.out (by kernel_rfl)) (fun _ _ _ h => h) (Or.inl ⟨by rfl, ?_⟩) ?_ ?_; rotate_left
      ·intro w'; go_simp; with_reducible rfl
      rotate_left
      ·simp only [Act.put, List.setIfInBounds_toArray, List.set_cons_zero, List.set_cons_succ, i64_w, i32_w]; rfl
      refine pure_ (i := 6) (N := some 17) (v := ?_) (a' := ?_) (bitsL 15 95) rfl rfl (any_of HT_.out (by kernel_rfl)) (fun _ _ _ h => h) (Or.inl ⟨by rfl, ?_⟩) ?_ ?_; rotate_left
      ·intro w'; go_simp; with_reducible rfl
      rotate_left
      ·simp only [Act.put, List.setIfInBounds_toArray, List.set_cons_zero, List.set_cons_succ, i64_w, i32_w]; rfl
      refine pure_ (i := 7) (N := some 18) (v := ?_) (a' := ?_) (bitsL 15 223) rfl rfl (any_of HT_.out (by kernel_rfl)) (fun _ _ _ h => h) (Or.inl ⟨by rfl, ?_⟩) ?_ ?_; rotate_left
      ·intro w'; go_simp; with_reducible rfl
      rotate_left
      ·simp only [Act.put, List.setIfInBounds_toArray, List.set_cons_zero, List.set_cons_succ, i64_w, i32_w]; rfl
      refine pure_ (i := 8) (N := some 19) (v := ?_) (a' := ?_) (bitsL 15 479) rfl rfl (any_of HT_.out (by kernel_rfl)) (fun _ _ _ h => h) (Or.inl ⟨by rfl, ?_⟩) ?_ ?_; rotate_left
      ·intro w'; go_simp; with_reducible rfl
      rotate_left
      ·simp only [Act.put, List.setIfInBounds_toArray, List.set_cons_zero, List.set_cons_succ, i64_w, i32_w]; rfl
      refine pure_ (i := 9) (N := some 20) (v := ?_) (a' := ?_) (bitsL 15 991) rfl rfl (any_of HT_.out (by kernel_rfl)) (fun _ _ _ h => h) (Or.inl ⟨by rfl, ?_⟩) ?_ ?_; rotate_left
      ·intro w'; go_simp; with_reducible rfl
      rotate_left
      ·simp only [Act.put, List.setIfInBounds_toArray, List.set_cons_zero, List.set_cons_succ, i64_w, i32_w]; rfl
      refine take_ (i := 5) (N := some 16) (v := ?_) (a' := ?_) (bitsL 15 1023) rfl rfl (take_ofW HT_.out HW_.out (by kernel_rfl)) (fun _ _ _ h => h) (Or.inl ⟨by rfl, ?_⟩) hHeld ?_ ?_; rotate_left
      ·rintro w' ⟨s0, s1, s2, s3⟩; go_simp; with_reducible rfl
      rotate_left
      ·simp only [Act.put, List.setIfInBounds_toArray, List.set_cons_zero, List.set_cons_succ, i64_w, i32_w]; rfl
      refine take_ (i := 10) (N := some 21) (v := ?_) (a' := ?_) (bitsL 15 2047) rfl rfl (take_ofW HT_.out HW_.out (by kernel_rfl)) (fun _ _ _ h => h) (Or.inl ⟨by rfl, ?_⟩) hHeld ?_ ?_; rotate_left
      ·rintro w' ⟨s0, s1, s2, s3⟩; go_simp; with_reducible rfl
      rotate_left
      ·simp only [Act.put, List.setIfInBounds_toArray, List.set_cons_zero, List.set_cons_succ, i64_w, i32_w]; rfl
      refine pure_ (i := 11) (N := some 22) (v := ?_) (a' := ?_) (bitsL 15 4095) rfl rfl (any_of HT_.out (by kernel_rfl)) (fun _ _ _ h => h) (Or.inl ⟨by rfl, ?_⟩) ?_ ?_; rotate_left
      ·intro w'; go_simp; with_reducible rfl
      rotate_left
      ·simp only [Act.put, List.setIfInBounds_toArray, List.set_cons_zero, List.set_cons_succ, i64_w, i32_w]; rfl
      refine one_ (i := 12) (N := some 23) (bitsL 15 8191) rfl rfl (one_of HT_.out (by kernel_rfl)) (by decide) (fun K hK => ?_); refine value_ (w1 := ?_) (v := ?_) (by rfl) rfl ?_ ?_; rotate_left 2
      ·go_simp
       constructor
       ·rfl
       rfl
      refine hK.out _ _ ⟨(World.cell?_alloc_lt _ _ _ (World.block_lt_of_cell? _ _ (((HB.out.cell (World.block_lt_of_cell? w _ hw216_0)).trans hw216_0)))).trans (((HB.out.cell (World.block_lt_of_cell? w _ hw216_0)).trans hw216_0)), (World.cell?_alloc_lt _ _ _ (World.block_lt_of_cell? _ _ (((HB.out.cell (World.block_lt_of_cell? w _ hw216_1)).trans hw216_1)))).trans (((HB.out.cell (World.block_lt_of_cell? w _ hw216_1)).trans hw216_1)), (World.cell?_alloc_lt _ _ _ (World.block_lt_of_cell? _ _ (((HB.out.cell (World.block_lt_of_cell? w _ hw217_0)).trans hw217_0)))).trans (((HB.out.cell (World.block_lt_of_cell? w _ hw217_0)).trans hw217_0)), (World.cell?_alloc_lt _ _ _ (World.block_lt_of_cell? _ _ (((HB.out.cell (World.block_lt_of_cell? w _ hw217_1)).trans hw217_1)))).trans (((HB.out.cell (World.block_lt_of_cell? w _ hw217_1)).trans hw217_1))⟩ (fun hHeld => ?_); clear hK K; refine norm_ (a' := ?_) ?_ ?_; rotate_left
      ·show Act.put _ (some 23) _ = _
       simp only [Act.put, List.setIfInBounds_toArray, List.set_cons_zero, List.set_cons_succ, i64_w, i32_w]; rfl
      refine one_ (i := 13) (N := some 24) (bitsL 15 16383) rfl rfl (one_of HT_.out (by kernel_rfl)) (by decide) (fun K hK => ?_); refine Kd.R_append_step k35 (w0 := w) w.heap.size (by rfl) (.tmp 11) (.tmp 23) 27 35 (.agg #[(.string ⟨#[]⟩), (.string ⟨#[]⟩)]) 32 rfl Tryz.underlying27 info35 rfl (by decide) (by omega) u3 x3_1 (⟨(rd_T74 l0 x4_1).f0, (rd_T74 l0 x4_1).f1⟩ : S35) [.string ((rd_T74 l0 x4_1).f0), .string ((rd_T74 l0 x4_1).f1)] (fun _ => True) (fun _ => False) rfl rfl ?aP (fun _ hk => hk.elim) ?aF ?aO ?aB ?aS ?aL ?_
      (case aP => exact k35_mkM _ _ _ (⟨(rd_T74 l0 x4_1).f0, (rd_T74 l0 x4_1).f1⟩ : S35))
      (case aB => exact bw)
      (case aF => exact (fun _ _ => trivial))
      (case aO => exact (ra HO_3.out))
      (case aS => exact (below_size bw))
      (case aL => have := LMc4.out; omega)
      intro v219 w6 ho hb hg hat; rw [← Ny218.out] at ho; have n0_ := Aside0.mk (hb); have n1_ := Aside0.mk (ho); clear HB HO_3; have HB := n0_; have HO220 := n1_; clear n0_ n1_ ho hb hg hat; refine hK.out _ _ ⟨((HB.out.cell (World.block_lt_of_cell? w _ hw216_0)).trans hw216_0), ((HB.out.cell (World.block_lt_of_cell? w _ hw216_1)).trans hw216_1), ((HB.out.cell (World.block_lt_of_cell? w _ hw217_0)).trans hw217_0), ((HB.out.cell (World.block_lt_of_cell? w _ hw217_1)).trans hw217_1)⟩ (fun hHeld => ?_); clear hK K; refine norm_ (a' := ?_) ?_ ?_; rotate_left
      ·show Act.put _ (some 24) _ = _
       simp only [Act.put, List.setIfInBounds_toArray, List.set_cons_zero, List.set_cons_succ, i64_w, i32_w]; rfl
      refine pure_ (i := 14) (N := some 3) (v := ?_) (a' := ?_) (bitsL 15 32767) rfl rfl (any_of HT_.out (by kernel_rfl)) (fun _ _ _ h => h) (Or.inl ⟨by rfl, ?_⟩) ?_ ?_; rotate_left
      ·intro w'; go_simp; with_reducible rfl
      rotate_left
      ·simp only [Act.put, List.setIfInBounds_toArray, List.set_cons_zero, List.set_cons_succ, i64_w, i32_w]; rfl
      refine done_ (done_of HT_.out (by kernel_rfl)) ?_
      try go_wp2
      go_roundg k1
      case measure => have := HK1.out; omega
      case rel => exact ⟨(y218), (wrap64 (x4_1 + 1)), cl, H', ⟨by have := HK1.out; omega⟩, ⟨ra HO220.out⟩, ⟨bw⟩⟩
     rw [if_neg c4] at H; exact absurd H (by simp)
    rw [if_neg c3] at H; exact absurd H (by simp)
   rw [if_neg c2] at H; have c2b0 := decide_eq_false c2; clear c2; obtain rfl := Option.some.inj H
   go_wp2
   go_ret
   exact ⟨_, ew, ra HO_3.out, bw⟩

def bulletinlaw16_To.f (k : Nat) (l0_0 : List (S74)) (a0_1 : ByteArray) : Option ((List (S35)) × ByteArray) := (bulletinlaw15_To.f k l0_0).bind fun t223 => (some (t223, a0_1))
set_option maxHeartbeats 8000000 in
set_option maxRecDepth 100000 in
theorem bulletinlaw16_To.calls (k : Nat) (A0_0 : Option Addr) (c0_0 : Nat) (l0_0 : List (S74)) (a0_1 : ByteArray) (r1 : List (S35)) (r2 : ByteArray) (w : World) (hr0_0 : Kd.C k74 w A0_0 l0_0.length l0_0) (hc0_0 : l0_0.length ≤ c0_0) (h : bulletinlaw16_To.f k l0_0 a0_1 = some (r1, r2)) :
  Calls Tryz.prog 9 #[.agg #[.slice A0_0 l0_0.length c0_0, .string a0_1]] w fun e w' => ∃ v0_ : Value, e = .returned (.agg #[v0_, .string r2]) ∧ Kd.R k35 35 w' w.heap.size (fun _ => True) v0_ r1 ∧ Below w.heap.size w w' := by
 have hu24 := Tryz.underlying24; have hu29 := Tryz.underlying29; have HR0_0 := Aside0.mk hr0_0; have HC0_0 := Aside0.mk hc0_0; clear hr0_0 hc0_0; have HB := Aside0.mk (Below.refl w.heap.size w); have H : ((bulletinlaw15_To.f k l0_0).bind fun t223 => (some (t223, a0_1))) = some (r1, r2) := h; clear h; replace H := Option.bind_eq_some_iff.mp H; obtain ⟨t223, A20, H⟩ := H; have A2 := Aside0.mk A20; clear A20; simp only [Option.some.injEq, Prod.mk.injEq] at H; obtain ⟨rfl, rfl⟩ := H
 go_enter Tryz.func9, Tryz.ntmps9
 try go_wp2_with (first | ((with_reducible refine gate_dst (N := 1) rfl ?_); refine box_event ?hg (N := 1) ?hd (cs := #[.slice A0_0 l0_0.length c0_0, .string a0_1]) (t := 24) ?hr ?_; (case hd => rfl); (case hg => rfl); (case hr => first | (go_simp; done) | (go_simp; rfl)); intro gb221 hg w3 hbox hb; have n0_ := Aside0.mk (below_step bw hb); have n1_ := Aside0.mk (hbox); have n2_ := Aside0.mk ((by rw [hg]; exact (below_size bw) : w.heap.size ≤ gb221)); have n3_ := Aside0.mk ((by rw [hg]; exact (below_size bw) : w.heap.size ≤ gb221)); clear HB; have HB := n0_; have BK221 := n1_; have GW221 := n2_; have GE221 := n3_; clear n0_ n1_ n2_ n3_; clear hb hbox hg) | ((with_reducible refine gate_dst (N := 2) rfl ?_); refine box_event ?hg (N := 2) ?hd (cs := #[.slice none 0 0, .string (⟨#[]⟩ : ByteArray)]) (t := 29) ?hr ?_; (case hd => rfl); (case hg => rfl); (case hr => first | (go_simp; done) | (go_simp; rfl)); intro gb222 hg w4 hbox hb; have n0_ := Aside0.mk (blk_below (g := gb221) (o := .cells #[.slice A0_0 l0_0.length c0_0, .string a0_1] 24 (0, 0)) bk hb); have n1_ := Aside0.mk (below_step bwS hb); have n2_ := Aside0.mk (hbox); have n3_ := Aside0.mk ((by rw [hg]; exact (below_size bwS) : w.heap.size ≤ gb222)); have n4_ := Aside0.mk ((by rw [hg]; exact (below_size bwS) : w.heap.size ≤ gb222)); have n5_ := Aside0.mk ((by rw [hg]; exact Nat.ne_of_lt (blk_lt (g := gb221) (o := .cells #[.slice A0_0 l0_0.length c0_0, .string a0_1] 24 (0, 0)) bk) : gb221 ≠ gb222)); have n6_ := Aside0.mk ((by rw [hg]; exact Nat.ne_of_gt (blk_lt (g := gb221) (o := .cells #[.slice A0_0 l0_0.length c0_0, .string a0_1] 24 (0, 0)) bk) : gb222 ≠ gb221)); clear BK221; clear HB; have BK221 := n0_; have HB := n1_; have BK222 := n2_; have GW222 := n3_; have GE222 := n4_; have NB221_222 := n5_; have NB222_221 := n6_; clear n0_ n1_ n2_ n3_ n4_ n5_ n6_; clear hb hbox hg))
 have n0_ := Aside0.mk (blk_drew BK221.out); have n1_ := Aside0.mk (blk_drew BK222.out); have n2_ := Aside0.mk (below_drew1 HB.out); clear BK221 BK222 HB; have BK221 := n0_; have BK222 := n1_; have HB := n2_; clear n0_ n1_ n2_; refine start_ (n := 7) (S := fun w' => w'.cell? ⟨gb221, 0, none⟩ = some (.slice A0_0 l0_0.length c0_0) ∧ w'.cell? ⟨gb221, 1, none⟩ = some (.string a0_1)) (ds := []) #[false, false, false, false, false, false, false] (by kernel_rfl) rfl rfl ⟨(blk_cell BK221.out 0).trans rfl, (blk_cell BK221.out 1).trans rfl⟩ (fun hHeld => ?_); generalize w4.drew = w5 at BK221 BK222 HB hHeld ⊢
 refine pure_ (i := 0) (N := some 3) (v := ?_) (a' := ?_) #[true, false, false, false, false, false, false] rfl rfl (by kernel_rfl) (fun _ _ _ h => h) (Or.inl ⟨by rfl, ?_⟩) ?_ ?_; rotate_left
 ·intro w'; go_simp; with_reducible rfl
 rotate_left
 ·simp only [Act.put, List.setIfInBounds_toArray, List.set_cons_zero, List.set_cons_succ, i64_w, i32_w]; rfl
 refine pure_ (i := 3) (N := some 6) (v := ?_) (a' := ?_) #[true, false, false, true, false, false, false] rfl rfl (by kernel_rfl) (fun _ _ _ h => h) (Or.inl ⟨by rfl, ?_⟩) ?_ ?_; rotate_left
 ·intro w'; go_simp; with_reducible rfl
 rotate_left
 ·simp only [Act.put, List.setIfInBounds_toArray, List.set_cons_zero, List.set_cons_succ, i64_w, i32_w]; rfl
 refine take_ (i := 1) (N := some 4) (v := ?_) (a' := ?_) #[true, true, false, true, false, false, false] rfl rfl (by kernel_rfl) (fun _ _ _ h => h) (Or.inl ⟨by rfl, ?_⟩) hHeld ?_ ?_; rotate_left
 ·rintro w' ⟨s0, s1⟩; go_simp; with_reducible rfl
 rotate_left
 ·simp only [Act.put, List.setIfInBounds_toArray, List.set_cons_zero, List.set_cons_succ, i64_w, i32_w]; rfl
 refine take_ (i := 4) (N := some 7) (v := ?_) (a' := ?_) #[true, true, false, true, true, false, false] rfl rfl (by kernel_rfl) (fun _ _ _ h => h) (Or.inl ⟨by rfl, ?_⟩) hHeld ?_ ?_; rotate_left
 ·rintro w' ⟨s0, s1⟩; go_simp; with_reducible rfl
 rotate_left
 ·simp only [Act.put, List.setIfInBounds_toArray, List.set_cons_zero, List.set_cons_succ, i64_w, i32_w]; rfl
 refine one_ (i := 2) (N := some 5) #[true, true, true, true, true, false, false] rfl rfl (by kernel_rfl) (by decide) (fun K hK => ?_); refine goes_ Tryz.func33 (by kernel_rfl) rfl #[.slice A0_0 l0_0.length c0_0] (by rfl) rfl rfl am ?_; with_reducible refine (bulletinlaw15_To.calls k _ _ l0_0 t223 _ ?side1 ?side2 A2.out).mono ?_
 (case side1 => repeat (first | exact (Kd.C_below HR0_0.out HB.out) | (with_reducible refine Kd.C_alloc ?_ _) | (with_reducible refine Kd.C_drewN ?_ _) | (with_reducible refine Kd.C_drew ?_)))
 (case side2 => exact HC0_0.out)
 rintro e w6 ⟨v224, rfl, ho0, hb⟩; refine ⟨_, rfl, ?_⟩; have n0_ := Aside0.mk (Kd.R_lower ho0 (below_size bwS)); have n1_ := Aside0.mk (blk_below (g := gb221) (o := .cells #[.slice A0_0 l0_0.length c0_0, .string a0_1] 24 (0, 0)) bk hb); have n2_ := Aside0.mk (blk_below (g := gb222) (o := .cells #[.slice none 0 0, .string (⟨#[]⟩ : ByteArray)] 29 (0, 0)) bk hb); have n3_ := Aside0.mk (below_step bwS hb); clear BK221 BK222 HB; have HO225 := n0_; have BK221 := n1_; have BK222 := n2_; have HB := n3_; clear n0_ n1_ n2_ n3_
 (try clear hb)
 (try clear hb2)
 (try clear hk)
 (try clear hi)
 (try clear ho0)
 obtain ⟨Ao7, co7, eo7⟩ := Kd.R_slice HO225.out
 (first | subst eo7 | (injection eo7 with f1_ f2_ f3_; have f4_ := f1_.symm; have f5_ := f3_.symm; clear f1_ f2_ f3_; subst f4_; subst f5_))
 refine hK.out _ _ ⟨(blk_cell BK221.out 0).trans rfl, (blk_cell BK221.out 1).trans rfl⟩ (fun hHeld => ?_); clear hK K; refine norm_ (a' := ?_) ?_ ?_; rotate_left
 ·show Act.put _ (some 5) _ = _
  simp only [Act.put, List.setIfInBounds_toArray, List.set_cons_zero, List.set_cons_succ, i64_w, i32_w]; rfl
 refine pure_ (i := 5) (N := some 8) (v := ?_) (a' := ?_) #[true, true, true, true, true, true, false] rfl rfl (by kernel_rfl) (fun _ _ _ h => h) (Or.inl ⟨by rfl, ?_⟩) ?_ ?_; rotate_left
 ·intro w'; go_simp; with_reducible rfl
 rotate_left
 ·simp only [Act.put, List.setIfInBounds_toArray, List.set_cons_zero, List.set_cons_succ, i64_w, i32_w]; rfl
 refine one_ (i := 6) (N := none) #[true, true, true, true, true, true, true] rfl rfl (by kernel_rfl) (by decide) (fun K hK => ?_); have hs8 : w6.cell? ⟨gb222, 0, none⟩ = some (.slice none 0 0) := (blk_cell BK222.out 0).trans rfl; have hfs8 := blk_frozen BK222.out 0; have hns8_0 := NB221_222.out; have hms8_0 := NB222_221.out; have hs9 : w6.cell? ⟨gb222, 1, none⟩ = some (.string (⟨#[]⟩ : ByteArray)) := (blk_cell BK222.out 1).trans rfl; have hfs9 := blk_frozen BK222.out 1; have hns9_0 := NB221_222.out; have hms9_0 := NB222_221.out; refine skip_ (w1 := ?_) (by rfl) rfl ?_ ?_; rotate_left
 ·go_simp; rfl
 refine hK.out _ _ ⟨((cell_far (p := ⟨gb222, _, none⟩) NB221_222.out _).trans (((cell_far (p := ⟨gb222, _, none⟩) NB221_222.out _).trans (hHeld.1)))), ((cell_far (p := ⟨gb222, _, none⟩) NB221_222.out _).trans (((cell_far (p := ⟨gb222, _, none⟩) NB221_222.out _).trans (hHeld.2))))⟩ (fun hHeld => ?_); clear hK K; refine done_ (by kernel_rfl) ?_
 try go_wp2
 refine bodyPost_ret (results_cell_row rfl _ _ gb222 29 #[.slice Ao7 t223.length co7, .string a0_1] (0, 0) _ rfl (by (with_reducible repeat (first | refine blk_drewN ?_ _ | refine blk_drew ?_ | refine blk_alloc ?_ _)); refine blk_put (cs := #[.slice Ao7 t223.length co7, .string (⟨#[]⟩ : ByteArray)]) ?_ 1 _ rfl; (with_reducible repeat (first | refine blk_drewN ?_ _ | refine blk_drew ?_ | refine blk_alloc ?_ _)); exact blk_put (cs := #[.slice none 0 0, .string (⟨#[]⟩ : ByteArray)]) bk 0 _ rfl) Tryz.underlying29 rfl (by kernel_rfl)) rfl ?_; exact ⟨_, ew, by (with_reducible repeat (first | apply Kd.R_alloc | apply Kd.R_drewN | apply Kd.R_drew)); exact Kd.R_mono (Kd.R_far (p := ⟨gb222, 1, none⟩) (Kd.R_far (p := ⟨gb222, 0, none⟩) (Kd.R_types HO225.out BK222.out (by decide)) (fun _ hk => hk.2) (.slice Ao7 t223.length co7)) (fun _ hk => hk.2) (.string a0_1)) (fun _ hk => trivial), bwS⟩

def bulletinlaw35_To.f (a0_0 : Int) (a0_1 : Int) (a0_2 : ByteArray) : Option (Int × Int × ByteArray) := some (a0_0, a0_1, a0_2)
set_option maxHeartbeats 8000000 in
set_option maxRecDepth 100000 in
theorem bulletinlaw35_To.calls (a0_0 : Int) (a0_1 : Int) (a0_2 : ByteArray) (r1 : Int) (r2 : Int) (r3 : ByteArray) (w : World) (h : bulletinlaw35_To.f a0_0 a0_1 a0_2 = some (r1, r2, r3)) :
  Calls Tryz.prog 30 #[.agg #[.int .i64 a0_0, .int .i64 a0_1, .string a0_2]] w fun e w' => e = .returned (.agg #[.int .i64 r1, .int .i64 r2, .string r3]) ∧ Below w.heap.size w w' := by
 have hu65 := Tryz.underlying65; have hu63 := Tryz.underlying63; have HB := Aside0.mk (Below.refl w.heap.size w); have H : (some (a0_0, a0_1, a0_2)) = some (r1, r2, r3) := h; clear h; simp only [Option.some.injEq, Prod.mk.injEq] at H; obtain ⟨rfl, rfl, rfl⟩ := H
 go_enter Tryz.func30, Tryz.ntmps30
 go_wp2_with (first | ((with_reducible refine gate_dst (N := 1) rfl ?_); refine box_event ?hg (N := 1) ?hd (cs := #[.int .i64 a0_0, .int .i64 a0_1, .string a0_2]) (t := 65) ?hr ?_; (case hd => rfl); (case hg => rfl); (case hr => first | (go_simp; done) | (go_simp; rfl)); intro gb966 hg w2 hbox hb; have n0_ := Aside0.mk (below_step bw hb); have n1_ := Aside0.mk (hbox); have n2_ := Aside0.mk ((by rw [hg]; exact (below_size bw) : w.heap.size ≤ gb966)); have n3_ := Aside0.mk ((by rw [hg]; exact (below_size bw) : w.heap.size ≤ gb966)); clear HB; have HB := n0_; have BK966 := n1_; have GW966 := n2_; have GE966 := n3_; clear n0_ n1_ n2_ n3_; clear hb hbox hg) | ((with_reducible refine gate_dst (N := 2) rfl ?_); refine box_event ?hg (N := 2) ?hd (cs := #[.int .i64 0, .int .i64 0, .string (⟨#[]⟩ : ByteArray)]) (t := 63) ?hr ?_; (case hd => rfl); (case hg => rfl); (case hr => first | (go_simp; done) | (go_simp; rfl)); intro gb967 hg w3 hbox hb; have n0_ := Aside0.mk (blk_below (g := gb966) (o := .cells #[.int .i64 a0_0, .int .i64 a0_1, .string a0_2] 65 (0, 0)) bk hb); have n1_ := Aside0.mk (below_step bwS hb); have n2_ := Aside0.mk (hbox); have n3_ := Aside0.mk ((by rw [hg]; exact (below_size bwS) : w.heap.size ≤ gb967)); have n4_ := Aside0.mk ((by rw [hg]; exact (below_size bwS) : w.heap.size ≤ gb967)); have n5_ := Aside0.mk ((by rw [hg]; exact Nat.ne_of_lt (blk_lt (g := gb966) (o := .cells #[.int .i64 a0_0, .int .i64 a0_1, .string a0_2] 65 (0, 0)) bk) : gb966 ≠ gb967)); have n6_ := Aside0.mk ((by rw [hg]; exact Nat.ne_of_gt (blk_lt (g := gb966) (o := .cells #[.int .i64 a0_0, .int .i64 a0_1, .string a0_2] 65 (0, 0)) bk) : gb967 ≠ gb966)); clear BK966; clear HB; have BK966 := n0_; have HB := n1_; have BK967 := n2_; have GW967 := n3_; have GE967 := n4_; have NB966_967 := n5_; have NB967_966 := n6_; clear n0_ n1_ n2_ n3_ n4_ n5_ n6_; clear hb hbox hg; have hnb4 := NB966_967.out; have hnc4 := NB967_966.out; have hcz5_0 : w3.cell? ⟨gb966, 0, none⟩ = some (.int .i64 a0_0) := (blk_cell BK966.out 0).trans rfl; have hcz5_1 : w3.cell? ⟨gb966, 1, none⟩ = some (.int .i64 a0_1) := (blk_cell BK966.out 1).trans rfl; have hcz5_2 : w3.cell? ⟨gb966, 2, none⟩ = some (.string a0_2) := (blk_cell BK966.out 2).trans rfl; have hfz5_0 := blk_frozen BK966.out 0; have hfz5_1 := blk_frozen BK966.out 1; have hfz5_2 := blk_frozen BK966.out 2; have hcz6_0 : w3.cell? ⟨gb967, 0, none⟩ = some (.int .i64 0) := (blk_cell BK967.out 0).trans rfl; have hcz6_1 : w3.cell? ⟨gb967, 1, none⟩ = some (.int .i64 0) := (blk_cell BK967.out 1).trans rfl; have hcz6_2 : w3.cell? ⟨gb967, 2, none⟩ = some (.string (⟨#[]⟩ : ByteArray)) := (blk_cell BK967.out 2).trans rfl; have hfz6_0 := blk_frozen BK967.out 0; have hfz6_1 := blk_frozen BK967.out 1; have hfz6_2 := blk_frozen BK967.out 2))
 refine bodyPost_ret (results_cell_row rfl _ _ gb967 63 #[.int .i64 a0_0, .int .i64 a0_1, .string a0_2] (0, 0) _ rfl (by (with_reducible repeat (first | refine blk_drewN ?_ _ | refine blk_drew ?_ | refine blk_alloc ?_ _)); refine blk_put (cs := #[.int .i64 a0_0, .int .i64 a0_1, .string (⟨#[]⟩ : ByteArray)]) ?_ 2 _ rfl; (with_reducible repeat (first | refine blk_drewN ?_ _ | refine blk_drew ?_ | refine blk_alloc ?_ _)); refine blk_put (cs := #[.int .i64 a0_0, .int .i64 0, .string (⟨#[]⟩ : ByteArray)]) ?_ 1 _ rfl; (with_reducible repeat (first | refine blk_drewN ?_ _ | refine blk_drew ?_ | refine blk_alloc ?_ _)); exact blk_put (cs := #[.int .i64 0, .int .i64 0, .string (⟨#[]⟩ : ByteArray)]) bk 0 _ rfl) Tryz.underlying63 rfl (by kernel_rfl)) rfl ?_; exact ⟨ew, bwS⟩

end Go.Proofs.YtihabmcaplnbcaaGreatDoor.Fn
set_option linter.unusedVariables false
set_option linter.unusedSimpArgs false
namespace Go.Proofs.YtihabmcaplnbcaaGreatDoor.Fn
open Go.RowKit Go.Proofs.YtihabmcaplnbcaaGreatDoorW.PrintWords

theorem hid {p : Prop} (h : p) : Hid p := h

theorem strings_at {w : World} {A : Option Addr} {n : Nat} {l : List ByteArray} (h : Kd.C Kd.string w A n l) (hp : 0 < n) :
  ∃ bk o, A = some ⟨bk, o, none⟩ ∧ bk < w.heap.size ∧ ∀ (j : Nat) x, l[j]? = some x → w.cell? ⟨bk, o + j, none⟩ = some (.string x) := by
 have hn : l.length = n := h.1
 obtain ⟨ad, rfl, hc⟩ := h.2.2 hp
 have hc' : ∀ (j : Nat) x, l[j]? = some x → w.cell? (ad.add j) = some (.string x) := by
  intro j x hx
  obtain ⟨c, _, hk, hu⟩ := hc j x hx
  have hk' : c = [.string x] := hk
  subst hk'
  have := hu 0 (.string x) rfl
  simpa [Kd.string, Kd.scalar] using this
 obtain ⟨b, off, spot⟩ := ad
 have h0 : ∃ x, l[0]? = some x := ⟨l[0]'(by omega), by simp⟩
 obtain ⟨x0, hx0⟩ := h0
 have e0 := hc' 0 x0 hx0
 have hspot : spot = none := by simpa [Addr.add] using World.cell?_spot e0
 subst hspot
 refine ⟨b, off, rfl, ?_, fun j x hx => ?_⟩
 ·exact World.block_lt_of_cell? w ⟨b, off, none⟩ (by simpa [Addr.add] using e0)
 rw [← Go.WideShapes.add_plain]
 exact hc' j x hx

/-! The builder's methods, over a builder that the call itself has made. -/
theorem infoByte : (Tryz.prog.info? 5).map (fun i => (i.zero, i.size, i.bytes)) = some (some (.int .u8 0), 1, 1) := by kernel_rfl
theorem sizeBuilder : (Tryz.prog.info? 127).map (·.size) = some 2 := by kernel_rfl
theorem liesBuilder : liesAt Tryz.prog Tryz.prog.depth 127 (2 / Tryz.prog.cellsOf 127) 0 127 1 = true := by kernel_rfl
def bdAt (B b : Nat) (bs : List Value) (w : World) : Prop := Lib.BuilderAtF 127 5 B b (.pointer (some ⟨b, 0, none⟩)) bs w
def isBd (B b : Nat) (bs : List Value) (w : World) : Prop := Lib.IsBuilderF 127 5 B b bs w
def kept (b : Nat) (w w' : World) : Prop := Lib.OthersKept 5 (some b) w w'
theorem bdAt.is {B b : Nat} {bs : List Value} {w : World} (h : bdAt B b bs w) : isBd B b bs w := .inr h

set_option maxRecDepth 100000 in
theorem bd_check (B b : Nat) (bs : List Value) (w : World) (h : isBd B b bs w) :
  Calls Tryz.prog 139 #[.pointer (some ⟨b, 0, none⟩)] w fun e w' => e = .returned (.tuple #[]) ∧ bdAt B b bs w' ∧ Below B w w' ∧ kept b w w' := by
 obtain ⟨j, hj, hjs⟩ := Option.map_eq_some_iff.1 sizeBuilder
 rcases h with h | h
 ·have c0 := h.cell0
  have sh := h.shape
  have f0 := h.frozen0
  go_enter Tryz.func139, Tryz.ntmps139
  go_wp2
  rw [Lib.run_to_unsafe w ⟨b, 0, none⟩ Tryz.underlying124 Tryz.underlying186 hj (by rw [hjs]; decide) sh (Nat.zero_lt_succ 1)]
  simp only [Result.andThen]
  rw [Oper.upon_value]
  go_wp2
  rw [run_callFunc_extern Tryz.func176 (by kernel_rfl) (by kernel_rfl) (by kernel_rfl) (e := Extern.AbiNoEscape.same) (by kernel_rfl)]
  rw [Lib.run_noEscape]
  simp only [Result.andThen]
  rw [Oper.upon_value]
  go_wp2
  rw [Lib.run_from_unsafe w ⟨b, 0, none⟩ Tryz.underlying186 Tryz.underlying124 hj sh liesBuilder]
  simp only [Result.andThen]
  rw [Oper.upon_value]
  go_wp2
  go_end0
  exact ⟨rfl, h.used _, (Below.refl B w).setCell (p := ⟨b, 0, none⟩) h.1 _, (Lib.OthersKept.refl _ _ w).setCell ⟨b, 0, none⟩ rfl _⟩
 have c0 := h.cell0
 go_enter Tryz.func139, Tryz.ntmps139
 go_wp2
 rw [Lib.run_neq_ptr_same w _ Tryz.underlying124 hj]
 go_wp2
 go_end0
 exact ⟨rfl, h, Below.refl B _, Lib.OthersKept.refl _ _ _⟩

set_option maxHeartbeats 2000000 in
set_option maxRecDepth 100000 in
theorem bd_byte (B b : Nat) (bs : List Value) (c : Int) (w : World) (h : isBd B b bs w) (hlen : bs.length + 1 ≤ 140737488355328) (hBw : B ≤ w.heap.size) :
  Calls Tryz.prog 88 #[.pointer (some ⟨b, 0, none⟩), .int .u8 c] w fun e w' => e = .returned .nilIface ∧ bdAt B b (bs ++ [.int .u8 c]) w' ∧ Below B w w' ∧ kept b w w' := by
 obtain ⟨i0, hi, hz0, hz1, hz2⟩ := info_parts infoByte
 go_enter Tryz.func88, Tryz.ntmps88
 go_wp2_with (go_at_call 139; refine (bd_check B b bs _ h).mono ?_)
 rintro e w1 ⟨rfl, h1, hb1, hk1⟩
 obtain ⟨hB, v, hbk, hown, hne⟩ := h1
 have c0 : w1.cell? ⟨b, 0, none⟩ = some (.pointer (some ⟨b, 0, none⟩)) := by rw [Lib.cell_of_heap hbk]; rfl
 have c1 : w1.cell? ⟨b, 1, none⟩ = some v := by rw [Lib.cell_of_heap hbk]; rfl
 go_wp2_with (at_builtin; refine wpList_append_ownF _ rfl _ _ 125 rfl B 5 i0 (.int .u8 0) 1 1 Tryz.underlying125 hi hz0 hz1 hz2 rfl (by decide) _ _ _ rfl (hown.alloc _) ⟨w1.heap.size, 0, none⟩ 1 1 [.int .u8 c] rfl rfl ?c1 ?c2 ?c3 ?c4 ?c5 ?_)
 case c1 =>
  intro j u hj
  match j, hj with
  | 0, hj => simp at hj; subst hj; simp [Addr.add]
 case c2 => intro u hu; simp at hu; subst hu; rfl
 case c3 => unfold maxLen; omega
 case c4 => omega
 case c5 => have := hb1.size; simp; omega
 intro v' w2 hown' hgrow _
 have hlt : b < w1.heap.size := by
  rcases Nat.lt_or_ge b w1.heap.size with h' | h'
  ·exact h'
  simp [Array.getElem?_eq_none h'] at hbk
 have hb2 : w2.heap[b]? = some (.cells #[.pointer (some ⟨b, 0, none⟩), v] 127 (0, 0)) := by
  rw [hgrow.block b (by simp; omega) (fun e => hne e.symm), Lib.alloc_old w1 _ b hlt]
  exact hbk
 have d0 : w2.cell? ⟨b, 0, none⟩ = some (.pointer (some ⟨b, 0, none⟩)) := by rw [Lib.cell_of_heap hb2]; rfl
 have d1 : w2.cell? ⟨b, 1, none⟩ = some v := by rw [Lib.cell_of_heap hb2]; rfl
 have f1 : w2.frozen? ⟨b, 1, none⟩ = false := Lib.frozen_of_heap hb2 1
 obtain ⟨g, cap, rfl⟩ : ∃ g cap, v' = .slice (some ⟨g, 0, none⟩) (bs.length + 1) cap := by
  rcases hown'.2 with ⟨_, h0⟩ | ⟨g, cap, cur, fz, hv, _⟩
  ·omega
  exact ⟨g, cap, hv⟩
 go_wp2
 go_ret
 refine ⟨rfl, ?_, ?_, ((hk1.alloc _).grown hgrow (Lib.ownsRowF_kind (hown.alloc _))).setCell ⟨b, 1, none⟩ rfl _⟩
 ·exact Lib.BuilderAtF.put (T := 127) (e := 5) hB hb2 (bs' := bs ++ [.int .u8 c]) (by simpa using hown') (by decide)
 exact ((hb1.alloc (by have := hb1.size; omega) _).grown hgrow (by have := hb1.size; simp; omega) (fun k hk => (hown.lt k hk).1)).setCell (p := ⟨b, 1, none⟩) hB _

set_option maxHeartbeats 2000000 in
set_option maxRecDepth 100000 in
theorem bd_string (B b : Nat) (bs : List Value) (s : ByteArray) (w : World) (h : isBd B b bs w) (hlen : bs.length + s.size ≤ 140737488355328) (hBw : B ≤ w.heap.size) :
  Calls Tryz.prog 106 #[.pointer (some ⟨b, 0, none⟩), .string s] w fun e w' => e = .returned (.tuple #[.int .i64 s.size, .nilIface]) ∧ bdAt B b (bs ++ Lib.strCells s) w' ∧ Below B w w' ∧ kept b w w' := by
 obtain ⟨i0, hi, hz0, hz1, hz2⟩ := info_parts infoByte
 go_enter Tryz.func106, Tryz.ntmps106
 go_wp2_with (go_at_call 139; refine (bd_check B b bs _ h).mono ?_)
 rintro e w1 ⟨rfl, h1, hb1, hk1⟩
 obtain ⟨hB, v, hbk, hown, hne⟩ := h1
 have c0 : w1.cell? ⟨b, 0, none⟩ = some (.pointer (some ⟨b, 0, none⟩)) := by rw [Lib.cell_of_heap hbk]; rfl
 have c1 : w1.cell? ⟨b, 1, none⟩ = some v := by rw [Lib.cell_of_heap hbk]; rfl
 go_wp2_with (at_builtin; refine Lib.wpList_append_own_stringF _ rfl _ _ 125 9 rfl B 5 i0 Tryz.underlying125 Tryz.underlying9 hi hz0 hz1 hz2 _ _ _ rfl hown s rfl ?c3 ?c4 ?c5 ?_)
 case c3 => unfold maxLen; omega
 case c4 => omega
 case c5 => have := hb1.size; omega
 intro v' w2 hown' hgrow _
 have hlt : b < w1.heap.size := by
  rcases Nat.lt_or_ge b w1.heap.size with h' | h'
  ·exact h'
  simp [Array.getElem?_eq_none h'] at hbk
 have hb2 : w2.heap[b]? = some (.cells #[.pointer (some ⟨b, 0, none⟩), v] 127 (0, 0)) := by
  rw [hgrow.block b hlt (fun e => hne e.symm)]
  exact hbk
 have d0 : w2.cell? ⟨b, 0, none⟩ = some (.pointer (some ⟨b, 0, none⟩)) := by rw [Lib.cell_of_heap hb2]; rfl
 have d1 : w2.cell? ⟨b, 1, none⟩ = some v := by rw [Lib.cell_of_heap hb2]; rfl
 have f1 : w2.frozen? ⟨b, 1, none⟩ = false := Lib.frozen_of_heap hb2 1
 obtain ⟨ao, n', cap, rfl⟩ : ∃ ao n' cap, v' = .slice ao n' cap := by
  rcases hown'.2 with ⟨hv, _⟩ | ⟨g, cap, cur, fz, hv, _⟩
  ·exact ⟨_, _, _, hv⟩
  exact ⟨_, _, _, hv⟩
 go_wp2
 go_ret2
 refine ⟨rfl, ?_, ?_, (hk1.grown hgrow (Lib.ownsRowF_kind hown)).setCell ⟨b, 1, none⟩ rfl _⟩
 ·exact Lib.BuilderAtF.put (T := 127) (e := 5) hB hb2 (bs' := bs ++ Lib.strCells s) (by simpa [Lib.strCells_length] using hown') (by decide)
 exact (hb1.grown hgrow (by have := hb1.size; omega) (fun k hk => (hown.lt k hk).1)).setCell (p := ⟨b, 1, none⟩) hB _
end Go.Proofs.YtihabmcaplnbcaaGreatDoor.Fn
set_option linter.unusedVariables false
namespace Go.Proofs.YtihabmcaplnbcaaGreatDoor.Pl

/-! What the functions that are not printed compute: plain Lean. -/
abbrev Bytes := List UInt8
def str (l : Bytes) : ByteArray := ⟨l.toArray⟩
theorem str_data (l : Bytes) : (str l).data.toList = l := by simp [str]
theorem str_toList (s : ByteArray) : str s.data.toList = s := by cases s; simp [str]
theorem str_size (l : Bytes) : (str l).size = l.length := by
 show l.toArray.size = _
 simp
theorem data_length (s : ByteArray) : s.data.toList.length = s.size := by
 show s.data.toList.length = s.data.size
 simp

def foldB (c : UInt8) : UInt8 := if 65 ≤ c.toNat ∧ c.toNat ≤ 90 then c + 32 else c
def fold (l : Bytes) : Bytes := l.map foldB
theorem fold_length (l : Bytes) : (fold l).length = l.length := by simp [fold]
theorem take_snoc (s : ByteArray) (k : Nat) (h : k < s.size) : s.data.toList.take (k + 1) = s.data.toList.take k ++ [s[k]] := by
 rw [List.take_succ_eq_append_getElem (by rw [data_length]; exact h)]
 rfl
theorem fold_snoc (s : ByteArray) (k : Nat) (h : k < s.size) : fold (s.data.toList.take (k + 1)) = fold (s.data.toList.take k) ++ [foldB s[k]] := by
 rw [take_snoc s k h]
 simp [fold]

theorem foldB_up (c : UInt8) (h : 65 ≤ (c.toNat : Int) ∧ (c.toNat : Int) ≤ 90) : (c.toNat : Int) + 32 = (foldB c).toNat := by
 unfold foldB
 rw [if_pos (by omega), UInt8.toNat_add]
 have : (32 : UInt8).toNat = 32 := rfl
 omega
theorem foldB_no (c : UInt8) (h : ¬ (65 ≤ (c.toNat : Int) ∧ (c.toNat : Int) ≤ 90)) : (c.toNat : Int) = (foldB c).toNat := by
 unfold foldB
 rw [if_neg (by omega)]

def width (s : ByteArray) (i : Nat) : Nat := (Utf8.decode s i).2
def sign (s : ByteArray) (i : Nat) : Nat := (Utf8.decode s i).1
theorem width_pos (s : ByteArray) (i : Nat) (h : i < s.size) : 1 ≤ width s i := by
 unfold width
 by_cases ha : (s[i]'h).toNat < 128
 ·rw [decode_ascii s i h ha]
  exact Nat.le_refl _
 exact (decode_high s i h (by omega)).2

theorem width_end (s : ByteArray) (i : Nat) (h : i < s.size) : i + (Utf8.decode s i).2 ≤ s.size := by
 rw [Lib.decode_at]
 unfold Lib.decodeN
 repeat' split
 all_goals (simp only []; omega)

def control (r : Nat) : Bool := decide (r < 32) || (decide (127 ≤ r) && decide (r ≤ 159))
def cleanR (r : Nat) : Bytes := if control r then [32] else Lib.encodeRune r
def cleanFrom (s : ByteArray) : Nat → Nat → Bytes
 | 0, _ => []
 | n + 1, i => if i < s.size then cleanR (sign s i) ++ cleanFrom s n (i + width s i) else []
def clean (s : ByteArray) : Bytes := cleanFrom s s.size 0
theorem cleanFrom_end (s : ByteArray) (n i : Nat) (h : ¬ i < s.size) : cleanFrom s n i = [] := by
 cases n with
 | zero => rfl
 | succ n => simp [cleanFrom, h]

def clipFrom (s : ByteArray) : Nat → Int → Nat → Nat
 | 0, _, i => i
 | f + 1, n, i => if i < s.size then (if n ≤ 0 then i else clipFrom s f (n - 1) (i + width s i)) else s.size
def clip (s : ByteArray) (n : Int) : ByteArray := s.extract 0 (clipFrom s (s.size + 1) n 0)

theorem extract_all (s : ByteArray) : s.extract 0 s.size = s := by
 apply ByteArray.ext
 apply Array.ext'
 simp

def blank (r : Nat) : Bool := r == 32 || (r == 9 || (r == 13 || r == 10))
def words (s : ByteArray) : List ByteArray := Lib.goFieldsP blank s
def join (l : List ByteArray) (sep : ByteArray) : ByteArray := str (Lib.join (l.map fun x => x.data.toList) sep.data.toList)
end Go.Proofs.YtihabmcaplnbcaaGreatDoor.Pl
set_option linter.unusedVariables false
namespace Go.Proofs.YtihabmcaplnbcaaGreatDoor.Fn
open Go.RowKit Go.Proofs.YtihabmcaplnbcaaGreatDoorW.PrintWords

def glyph_Clip.f (a0 : ByteArray) (a1 : Int) : Option ByteArray := if a0.size ≤ 140737488351232 then (if -9000000000000000000 ≤ a1 ∧ a1 ≤ 9000000000000000000 then some (Pl.clip a0 a1) else none) else none

set_option maxHeartbeats 4000000 in
set_option maxRecDepth 100000 in
theorem glyph_Clip.calls (a0 : ByteArray) (a1 : Int) (r : ByteArray) (w : World) (h : glyph_Clip.f a0 a1 = some r) :
  Calls Tryz.prog 142 #[.string a0, .int .i64 a1] w fun e w' => e = .returned (.string r) ∧ Below w.heap.size w w' := by
 unfold glyph_Clip.f at h
 by_cases hs : a0.size ≤ 140737488351232
 ·rw [if_pos hs] at h
  by_cases hn : -9000000000000000000 ≤ a1 ∧ a1 ≤ 9000000000000000000
  ·rw [if_pos hn] at h
   have HR := hid (Option.some.inj h)
   have HN := hid hn
   clear h hn
   go_enter Tryz.func142, Tryz.ntmps142
   go_wp2
   go_loopw [1] (fun v1 wr => ∃ (pos fuel : Nat) (n : Int), v1 = .int .i64 n ∧ Hid (n ≤ 9000000000000000000 ∧ -9000000000000000000 - 1 ≤ n) ∧ wr.heap[w.heap.size]? = some (.stringIter a0 pos) ∧ Below w.heap.size w wr ∧ pos ≤ a0.size ∧ Hid (Pl.clipFrom a0 (fuel + 1) n pos = Pl.clipFrom a0 (a0.size + 1) a1 0) ∧ a0.size ≤ pos + fuel ∧ Hid (0 ≤ n ∨ n = a1)) (fun _ wr => a0.size - wr.iterPos w.heap.size)
   case atStart =>
    refine ⟨0, a0.size, a1, rfl, ⟨HN.out.2, by have := HN.out.1; omega⟩, ?_, (Below.refl _ w).alloc (Nat.le_refl _) _, Nat.zero_le _, rfl, by omega, .inr rfl⟩
    have := World.iter_heap w a0 0
    simpa using this
   case round =>
    obtain ⟨pos, fuel, n, rfl, hnb, hit, hbw, hpl, hacc, hfu, hn0⟩ := hrel
    have hsz : w.heap.size < wr.heap.size := (Array.getElem?_eq_some_iff.1 hit).1
    by_cases hp : pos < a0.size
    ·have hnx : ∀ ty, (Instr.next (.pointer (some ⟨w.heap.size, 0, none⟩)) true ty).run Tryz.prog wr = _ := fun ty => Lib.run_next_any_at wr w.heap.size a0 pos ty hit hp
     have hwd : 1 ≤ (Utf8.decode a0 pos).2 := Pl.width_pos a0 pos hp
     have hd1 := decode_le a0 pos
     have hdw := Pl.width_end a0 pos hp
     have hit2 := Lib.iterAt_heap wr w.heap.size a0 pos (pos + (Utf8.decode a0 pos).2) hit
     have hbw2 := Lib.below_iterAt hbw (k := w.heap.size) (by omega) a0 (pos + (Utf8.decode a0 pos).2)
     obtain ⟨f, rfl⟩ : ∃ f, fuel = f + 1 := ⟨fuel - 1, by omega⟩
     have hnl := hnb.out.1
     have hng := hnb.out.2
     by_cases hz : n ≤ 0
     ·have hstep : Hid (Pl.clipFrom a0 (f + 1 + 1) n pos = pos) := by
       show _ = _
       simp [Pl.clipFrom, hp, hz]
      go_wp2
      go_ret
      refine ⟨?_, hbw2⟩
      rw [← HR.out]
      unfold Pl.clip
      rw [← hacc.out, hstep.out]
      rfl
     have hstep : Hid (Pl.clipFrom a0 (f + 1 + 1) n pos = Pl.clipFrom a0 (f + 1) (n - 1) (pos + (Utf8.decode a0 pos).2)) := by
      show _ = _
      rw [Pl.clipFrom, if_pos hp, if_neg hz]
      rfl
     go_wp2
     go_roundw
     case rel =>
      exact ⟨pos + (Utf8.decode a0 pos).2, f, n - 1, rfl, ⟨by omega, by omega⟩, hit2, hbw2, hdw, (by show _ = _; rw [← hstep.out, hacc.out]), by omega, .inl (by omega)⟩
     case measure =>
      simp only [World.iterPos, hit2, hit]
      omega
    have hnx : ∀ ty, (Instr.next (.pointer (some ⟨w.heap.size, 0, none⟩)) true ty).run Tryz.prog wr = _ := fun ty => Lib.run_next_end_at wr w.heap.size a0 pos ty hit hp
    have hend : Hid (Pl.clipFrom a0 (fuel + 1) n pos = a0.size) := by
     show _ = _
     rw [Pl.clipFrom, if_neg hp]
    go_wp2
    go_ret
    refine ⟨?_, hbw⟩
    rw [← HR.out]
    unfold Pl.clip
    rw [← hacc.out, hend.out, Pl.extract_all]
    rfl
  rw [if_neg hn] at h
  exact absurd h (by simp)
 rw [if_neg hs] at h
 exact absurd h (by simp)
end Go.Proofs.YtihabmcaplnbcaaGreatDoor.Fn
/-
 DERIVED: THE SHELF's CONTRACTS AT THIS DUMP, IN PLAIN WORDS (tools/lay-plain.mjs out of 'TryzShelf.lean', which tools/lay-shelf.mjs wrote): THE SAME DECLARATIONS UNDER THE SAME NAMES: 'import', 'namespace', 'open', 'def', 'theorem' AND NOTHING ELSE: no command of the shelf's: FOR A HAND-IN. Each laying: the table of numbers ('.._ren') and one theorem, a field a fact of the dump's own or the kernel's comparison; each contract: ONE APPLICATION.
-/
namespace Go.Proofs
open Go.Shelf
def Tryz.lays169_ren : Go.Shelf.Ren := ⟨fun | 169 => 89 | n => n, fun | 70 => 124 | 9 => 9 | 0 => 0 | 72 => 127 | 37 => 125 | 127 => 162 | 3 => 3 | 5 => 5 | n => n, fun | n => n⟩
theorem Tryz.lays169 : Go.Proofs.Lays.n169 Tryz.prog Tryz.lays169_ren := {
 mixed := by kernel_rfl
 f169 := Tryz.func89.trans (congrArg some (by kernel_rfl))
 t0 := Tryz.underlying0
 a0 := Tryz.isAgg0
 z0 := Tryz.sizeOf0
 v0 := Tryz.zeroValue0
 t3 := Tryz.underlying3
 a3 := Tryz.isAgg3
 z3 := Tryz.sizeOf3
 v3 := Tryz.zeroValue3
 t9 := Tryz.underlying9
 a9 := Tryz.isAgg9
 z9 := Tryz.sizeOf9
 v9 := Tryz.zeroValue9
 t37 := Tryz.underlying125
 a37 := Tryz.isAgg125
 z37 := Tryz.sizeOf125
 v37 := Tryz.zeroValue125
 t70 := Tryz.underlying124
 a70 := Tryz.isAgg124
 z70 := Tryz.sizeOf124
 v70 := Tryz.zeroValue124
 t72 := Tryz.underlying127
 a72 := Tryz.isAgg127
 z72 := Tryz.sizeOf127
 v72 := Tryz.zeroValue127
 t127 := Tryz.underlying162
 a127 := Tryz.isAgg162
 z127 := Tryz.sizeOf162
 v127 := Tryz.zeroValue162 }
theorem Tryz.Builder_Extra_169 : Builder.Extra Tryz.prog Tryz.lays169_ren := {
 sizeBuilder := by kernel_rfl
 liesBuilder := by kernel_rfl
 t5 := Tryz.underlying5
 a5 := Tryz.isAgg5
 z5 := Tryz.sizeOf5
 v5 := Tryz.zeroValue5
 infoByte := by kernel_rfl
 cellsByte := by kernel_rfl
 sizeByte := by kernel_rfl
 neB5 := by decide }
def Tryz.lays156_ren : Go.Shelf.Ren := ⟨fun | 156 => 143 | 165 => 177 | 166 => 106 | 169 => 89 | 240 => 139 | 241 => 202 | 276 => 176 | 277 => 218 | n => n, fun | 31 => 53 | 9 => 9 | 3 => 3 | 4 => 4 | 0 => 0 | 20 => 20 | 72 => 127 | 76 => 136 | 70 => 124 | 37 => 125 | 75 => 129 | 127 => 162 | 164 => 186 | 5 => 5 | 80 => 78 | n => n, fun | n => n⟩
theorem Tryz.lays156 : Go.Proofs.Lays.n156 Tryz.prog Tryz.lays156_ren := {
 mixed := by kernel_rfl
 f156 := Tryz.func143.trans (congrArg some (by kernel_rfl))
 f165 := Tryz.func177.trans (congrArg some (by kernel_rfl))
 f166 := Tryz.func106.trans (congrArg some (by kernel_rfl))
 f169 := Tryz.func89.trans (congrArg some (by kernel_rfl))
 f240 := Tryz.func139.trans (congrArg some (by kernel_rfl))
 f241 := Tryz.func202.trans (congrArg some (by kernel_rfl))
 f276 := Tryz.func176.trans (congrArg some (by kernel_rfl))
 f277 := Tryz.func218.trans (congrArg some (by kernel_rfl))
 t0 := Tryz.underlying0
 a0 := Tryz.isAgg0
 z0 := Tryz.sizeOf0
 v0 := Tryz.zeroValue0
 t3 := Tryz.underlying3
 a3 := Tryz.isAgg3
 z3 := Tryz.sizeOf3
 v3 := Tryz.zeroValue3
 t4 := Tryz.underlying4
 a4 := Tryz.isAgg4
 z4 := Tryz.sizeOf4
 v4 := Tryz.zeroValue4
 t9 := Tryz.underlying9
 a9 := Tryz.isAgg9
 z9 := Tryz.sizeOf9
 v9 := Tryz.zeroValue9
 t20 := Tryz.underlying20
 a20 := Tryz.isAgg20
 z20 := Tryz.sizeOf20
 v20 := Tryz.zeroValue20
 t31 := Tryz.underlying53
 a31 := Tryz.isAgg53
 z31 := Tryz.sizeOf53
 v31 := Tryz.zeroValue53
 t37 := Tryz.underlying125
 a37 := Tryz.isAgg125
 z37 := Tryz.sizeOf125
 v37 := Tryz.zeroValue125
 t70 := Tryz.underlying124
 a70 := Tryz.isAgg124
 z70 := Tryz.sizeOf124
 v70 := Tryz.zeroValue124
 t72 := Tryz.underlying127
 a72 := Tryz.isAgg127
 z72 := Tryz.sizeOf127
 v72 := Tryz.zeroValue127
 t75 := Tryz.underlying129
 a75 := Tryz.isAgg129
 z75 := Tryz.sizeOf129
 v75 := Tryz.zeroValue129
 t76 := Tryz.underlying136
 a76 := Tryz.isAgg136
 z76 := Tryz.sizeOf136
 v76 := Tryz.zeroValue136
 t127 := Tryz.underlying162
 a127 := Tryz.isAgg162
 z127 := Tryz.sizeOf162
 v127 := Tryz.zeroValue162
 t164 := Tryz.underlying186
 a164 := Tryz.isAgg186
 z164 := Tryz.sizeOf186
 v164 := Tryz.zeroValue186 }
theorem Tryz.Builder_Extra_156 : Builder.Extra Tryz.prog Tryz.lays156_ren := {
 sizeBuilder := by kernel_rfl
 liesBuilder := by kernel_rfl
 t5 := Tryz.underlying5
 a5 := Tryz.isAgg5
 z5 := Tryz.sizeOf5
 v5 := Tryz.zeroValue5
 infoByte := by kernel_rfl
 cellsByte := by kernel_rfl
 sizeByte := by kernel_rfl
 neB5 := by decide }
open Go.RowKit in

theorem Tryz.strings_Join_none (a : Option Addr) (c : Nat) (sep : ByteArray) (w : World) :
  Calls Tryz.prog 143 #[.slice a 0 c, .string sep] w fun e w' => e = .returned (.string ⟨#[]⟩) ∧ w' = w := Any.strings_Join_none Tryz.lays156 Tryz.Builder_Extra_156 a c sep w
open Go.RowKit in

theorem Tryz.strings_Join (bk o c : Nat) (xs : List ByteArray) (sep : ByteArray) (w : World) (hcells : ∀ (j : Nat) x, xs[j]? = some x → w.cell? ⟨bk, o + j, none⟩ = some (.string x)) (hbk : bk < w.heap.size) (hN : xs.length ≤ 140737488355328) (hcap : xs.length ≤ c) (hlen : (Lib.join (xs.map (·.data.toList)) sep.data.toList).length ≤ 140737488355328) :
  Calls Tryz.prog 143 #[.slice (some ⟨bk, o, none⟩) xs.length c, .string sep] w fun e w' => e = .returned (.string ⟨(Lib.join (xs.map (·.data.toList)) sep.data.toList).toArray⟩) ∧ Below w.heap.size w w' := Any.strings_Join Tryz.lays156 Tryz.Builder_Extra_156 bk o c xs sep w hcells hbk hN hcap hlen
def Tryz.lays161_ren : Go.Shelf.Ren := ⟨fun | 161 => 107 | 231 => 114 | 227 => 86 | 233 => 115 | 235 => 116 | 228 => 87 | 197 => 158 | 151 => 157 | 260 => 191 | 152 => 84 | 137 => 135 | 119 => 136 | 224 => 137 | 225 => 138 | 217 => 175 | 266 => 201 | n => n, fun | 9 => 9 | 4 => 4 | 3 => 3 | 5 => 5 | 117 => 121 | 116 => 120 | 0 => 0 | 124 => 144 | 105 => 173 | 21 => 21 | 119 => 207 | 46 => 161 | 139 => 210 | 138 => 209 | n => n, fun | 3 => 1 | 4 => 2 | n => n⟩
theorem Tryz.lays161 : Go.Proofs.Lays.n161 Tryz.prog Tryz.lays161_ren := {
 mixed := by kernel_rfl
 f119 := Tryz.func136.trans (congrArg some (by kernel_rfl))
 f137 := Tryz.func135.trans (congrArg some (by kernel_rfl))
 f151 := Tryz.func157.trans (congrArg some (by kernel_rfl))
 f152 := Tryz.func84.trans (congrArg some (by kernel_rfl))
 f161 := Tryz.func107.trans (congrArg some (by kernel_rfl))
 f197 := Tryz.func158.trans (congrArg some (by kernel_rfl))
 f217 := Tryz.func175.trans (congrArg some (by kernel_rfl))
 f224 := Tryz.func137.trans (congrArg some (by kernel_rfl))
 f225 := Tryz.func138.trans (congrArg some (by kernel_rfl))
 f227 := Tryz.func86.trans (congrArg some (by kernel_rfl))
 f228 := Tryz.func87.trans (congrArg some (by kernel_rfl))
 f231 := Tryz.func114.trans (congrArg some (by kernel_rfl))
 f233 := Tryz.func115.trans (congrArg some (by kernel_rfl))
 f235 := Tryz.func116.trans (congrArg some (by kernel_rfl))
 f260 := Tryz.func191.trans (congrArg some (by kernel_rfl))
 f266 := Tryz.func201.trans (congrArg some (by kernel_rfl))
 t0 := Tryz.underlying0
 a0 := Tryz.isAgg0
 z0 := Tryz.sizeOf0
 v0 := Tryz.zeroValue0
 t3 := Tryz.underlying3
 a3 := Tryz.isAgg3
 z3 := Tryz.sizeOf3
 v3 := Tryz.zeroValue3
 t4 := Tryz.underlying4
 a4 := Tryz.isAgg4
 z4 := Tryz.sizeOf4
 v4 := Tryz.zeroValue4
 t5 := Tryz.underlying5
 a5 := Tryz.isAgg5
 z5 := Tryz.sizeOf5
 v5 := Tryz.zeroValue5
 t9 := Tryz.underlying9
 a9 := Tryz.isAgg9
 z9 := Tryz.sizeOf9
 v9 := Tryz.zeroValue9
 t21 := Tryz.underlying21
 a21 := Tryz.isAgg21
 z21 := Tryz.sizeOf21
 v21 := Tryz.zeroValue21
 t46 := Tryz.underlying161
 a46 := Tryz.isAgg161
 z46 := Tryz.sizeOf161
 v46 := Tryz.zeroValue161
 t105 := Tryz.underlying173
 a105 := Tryz.isAgg173
 z105 := Tryz.sizeOf173
 v105 := Tryz.zeroValue173
 t116 := Tryz.underlying120
 a116 := Tryz.isAgg120
 z116 := Tryz.sizeOf120
 t117 := Tryz.underlying121
 a117 := Tryz.isAgg121
 z117 := Tryz.sizeOf121
 v117 := Tryz.zeroValue121
 t119 := Tryz.underlying207
 a119 := Tryz.isAgg207
 z119 := Tryz.sizeOf207
 t124 := Tryz.underlying144
 a124 := Tryz.isAgg144
 z124 := Tryz.sizeOf144
 v124 := Tryz.zeroValue144
 t138 := Tryz.underlying209
 a138 := Tryz.isAgg209
 z138 := Tryz.sizeOf209
 v138 := Tryz.zeroValue209
 t139 := Tryz.underlying210
 a139 := Tryz.isAgg210
 z139 := Tryz.sizeOf210
 v139 := Tryz.zeroValue210
 g3 := by kernel_rfl
 g4 := by kernel_rfl }
def Tryz.lays162_ren : Go.Shelf.Ren := ⟨fun | 162 => 69 | 232 => 111 | 227 => 86 | 234 => 112 | 236 => 113 | 228 => 87 | 271 => 156 | 151 => 157 | 120 => 190 | 197 => 158 | 152 => 84 | 260 => 191 | 137 => 135 | 119 => 136 | 224 => 137 | 225 => 138 | 217 => 175 | 266 => 201 | n => n, fun | 9 => 9 | 4 => 4 | 3 => 3 | 5 => 5 | 117 => 121 | 116 => 120 | 0 => 0 | 124 => 144 | 21 => 21 | 105 => 173 | 46 => 161 | 119 => 207 | 139 => 210 | 138 => 209 | n => n, fun | 3 => 1 | 4 => 2 | n => n⟩
theorem Tryz.lays162 : Go.Proofs.Lays.n162 Tryz.prog Tryz.lays162_ren := {
 mixed := by kernel_rfl
 f119 := Tryz.func136.trans (congrArg some (by kernel_rfl))
 f120 := Tryz.func190.trans (congrArg some (by kernel_rfl))
 f137 := Tryz.func135.trans (congrArg some (by kernel_rfl))
 f151 := Tryz.func157.trans (congrArg some (by kernel_rfl))
 f152 := Tryz.func84.trans (congrArg some (by kernel_rfl))
 f162 := Tryz.func69.trans (congrArg some (by kernel_rfl))
 f197 := Tryz.func158.trans (congrArg some (by kernel_rfl))
 f217 := Tryz.func175.trans (congrArg some (by kernel_rfl))
 f224 := Tryz.func137.trans (congrArg some (by kernel_rfl))
 f225 := Tryz.func138.trans (congrArg some (by kernel_rfl))
 f227 := Tryz.func86.trans (congrArg some (by kernel_rfl))
 f228 := Tryz.func87.trans (congrArg some (by kernel_rfl))
 f232 := Tryz.func111.trans (congrArg some (by kernel_rfl))
 f234 := Tryz.func112.trans (congrArg some (by kernel_rfl))
 f236 := Tryz.func113.trans (congrArg some (by kernel_rfl))
 f260 := Tryz.func191.trans (congrArg some (by kernel_rfl))
 f266 := Tryz.func201.trans (congrArg some (by kernel_rfl))
 f271 := Tryz.func156.trans (congrArg some (by kernel_rfl))
 t0 := Tryz.underlying0
 a0 := Tryz.isAgg0
 z0 := Tryz.sizeOf0
 v0 := Tryz.zeroValue0
 t3 := Tryz.underlying3
 a3 := Tryz.isAgg3
 z3 := Tryz.sizeOf3
 v3 := Tryz.zeroValue3
 t4 := Tryz.underlying4
 a4 := Tryz.isAgg4
 z4 := Tryz.sizeOf4
 v4 := Tryz.zeroValue4
 t5 := Tryz.underlying5
 a5 := Tryz.isAgg5
 z5 := Tryz.sizeOf5
 v5 := Tryz.zeroValue5
 t9 := Tryz.underlying9
 a9 := Tryz.isAgg9
 z9 := Tryz.sizeOf9
 v9 := Tryz.zeroValue9
 t21 := Tryz.underlying21
 a21 := Tryz.isAgg21
 z21 := Tryz.sizeOf21
 v21 := Tryz.zeroValue21
 t46 := Tryz.underlying161
 a46 := Tryz.isAgg161
 z46 := Tryz.sizeOf161
 v46 := Tryz.zeroValue161
 t105 := Tryz.underlying173
 a105 := Tryz.isAgg173
 z105 := Tryz.sizeOf173
 v105 := Tryz.zeroValue173
 t116 := Tryz.underlying120
 a116 := Tryz.isAgg120
 z116 := Tryz.sizeOf120
 t117 := Tryz.underlying121
 a117 := Tryz.isAgg121
 z117 := Tryz.sizeOf121
 v117 := Tryz.zeroValue121
 t119 := Tryz.underlying207
 a119 := Tryz.isAgg207
 z119 := Tryz.sizeOf207
 t124 := Tryz.underlying144
 a124 := Tryz.isAgg144
 z124 := Tryz.sizeOf144
 v124 := Tryz.zeroValue144
 t138 := Tryz.underlying209
 a138 := Tryz.isAgg209
 z138 := Tryz.sizeOf209
 v138 := Tryz.zeroValue209
 t139 := Tryz.underlying210
 a139 := Tryz.isAgg210
 z139 := Tryz.sizeOf210
 v139 := Tryz.zeroValue210
 g3 := by kernel_rfl
 g4 := by kernel_rfl }
def Tryz.lays137_ren : Go.Shelf.Ren := ⟨fun | 137 => 135 | 217 => 175 | 266 => 201 | n => n, fun | 9 => 9 | 5 => 5 | 3 => 3 | n => n, fun | n => n⟩
theorem Tryz.lays137 : Go.Proofs.Lays.n137 Tryz.prog Tryz.lays137_ren := {
 mixed := by kernel_rfl
 f137 := Tryz.func135.trans (congrArg some (by kernel_rfl))
 f217 := Tryz.func175.trans (congrArg some (by kernel_rfl))
 f266 := Tryz.func201.trans (congrArg some (by kernel_rfl))
 t3 := Tryz.underlying3
 a3 := Tryz.isAgg3
 z3 := Tryz.sizeOf3
 v3 := Tryz.zeroValue3
 t5 := Tryz.underlying5
 a5 := Tryz.isAgg5
 z5 := Tryz.sizeOf5
 v5 := Tryz.zeroValue5
 t9 := Tryz.underlying9
 a9 := Tryz.isAgg9
 z9 := Tryz.sizeOf9
 v9 := Tryz.zeroValue9 }
open Go.RowKit in

theorem Tryz.strings_IndexByte (s : ByteArray) (c : Int) (w : World) :
  Calls Tryz.prog 135 #[.string s, .int .u8 c] w fun e w' => e = .returned (.int .i64 (Lib.indexByte s.data.toList c.toNat.toUInt8)) ∧ w' = w := Any.strings_IndexByte Tryz.lays137 s c w
open Go.RowKit in

theorem Tryz.Builder_String_any_k (B b : Nat) (l : List UInt8) (w : World) (h : Lib.IsBuilderF 127 5 B b (Lib.byteCells l) w) (hBw : B ≤ w.heap.size) :
  Calls Tryz.prog 89 #[.pointer (some ⟨b, 0, none⟩)] w fun e w' => e = .returned (.string ⟨l.toArray⟩) ∧ (Lib.IsBuilderF 127 5 B b (Lib.byteCells l) w' ∧ Below B w w' ∧ Lib.OthersKept 5 (some b) w w') := Any.Builder_String_any_k Tryz.lays169 Tryz.Builder_Extra_169 B b l w h hBw
def Tryz.lays242_ren : Go.Shelf.Ren := ⟨fun | 242 => 148 | 278 => 183 | n => n, fun | 37 => 125 | 21 => 21 | 51 => 194 | 4 => 4 | 5 => 5 | 46 => 161 | n => n, fun | n => n⟩
theorem Tryz.lays242 : Go.Proofs.Lays.n242 Tryz.prog Tryz.lays242_ren := {
 mixed := by kernel_rfl
 f242 := Tryz.func148.trans (congrArg some (by kernel_rfl))
 f278 := Tryz.func183.trans (congrArg some (by kernel_rfl))
 t4 := Tryz.underlying4
 a4 := Tryz.isAgg4
 z4 := Tryz.sizeOf4
 v4 := Tryz.zeroValue4
 t5 := Tryz.underlying5
 a5 := Tryz.isAgg5
 z5 := Tryz.sizeOf5
 v5 := Tryz.zeroValue5
 t21 := Tryz.underlying21
 a21 := Tryz.isAgg21
 z21 := Tryz.sizeOf21
 v21 := Tryz.zeroValue21
 t37 := Tryz.underlying125
 a37 := Tryz.isAgg125
 z37 := Tryz.sizeOf125
 v37 := Tryz.zeroValue125
 t46 := Tryz.underlying161
 a46 := Tryz.isAgg161
 z46 := Tryz.sizeOf161
 v46 := Tryz.zeroValue161
 t51 := Tryz.underlying194
 a51 := Tryz.isAgg194
 z51 := Tryz.sizeOf194
 v51 := Tryz.zeroValue194 }
open Go.RowKit in

theorem Tryz.utf8_AppendRune_row (B : Nat) (v : Value) (n : Nat) (xs : List Value) (r : Int) (hr0 : -2147483648 ≤ r) (hr1 : r ≤ 2147483647) (w : World) (hown : w.ownsRowF B 5 1 v n xs) (hlen : n + 4 ≤ 140737488355328) (hBw : B ≤ w.heap.size) :
  Calls Tryz.prog 148 #[v, .int .i32 r] w fun e w' => ∃ v', e = .returned v' ∧ w'.ownsRowF B 5 1 v' (n + (Lib.runeCells r).length) (xs ++ Lib.runeCells r) ∧ ∃ o, (w.alloc o).grownBy w' v.ownBlock := Any.utf8_AppendRune_row Tryz.lays242 (by kernel_rfl) B v n xs r hr0 hr1 w hown hlen hBw
def Tryz.lays145_ren : Go.Shelf.Ren := ⟨fun | 145 => 76 | 220 => 126 | 219 => 154 | 217 => 175 | 225 => 138 | 224 => 137 | 267 => 189 | 266 => 201 | 314 => 213 | n => n, fun | 9 => 9 | 4 => 4 | 59 => 101 | 3 => 3 | 5 => 5 | 46 => 161 | 146 => 205 | 51 => 194 | n => n, fun | 1 => 0 | n => n⟩
theorem Tryz.lays145 : Go.Proofs.Lays.n145 Tryz.prog Tryz.lays145_ren := {
 mixed := by kernel_rfl
 f145 := Tryz.func76.trans (congrArg some (by kernel_rfl))
 f217 := Tryz.func175.trans (congrArg some (by kernel_rfl))
 f219 := Tryz.func154.trans (congrArg some (by kernel_rfl))
 f220 := Tryz.func126.trans (congrArg some (by kernel_rfl))
 f224 := Tryz.func137.trans (congrArg some (by kernel_rfl))
 f225 := Tryz.func138.trans (congrArg some (by kernel_rfl))
 f266 := Tryz.func201.trans (congrArg some (by kernel_rfl))
 f267 := Tryz.func189.trans (congrArg some (by kernel_rfl))
 f314 := Tryz.func213.trans (congrArg some (by kernel_rfl))
 t3 := Tryz.underlying3
 a3 := Tryz.isAgg3
 z3 := Tryz.sizeOf3
 v3 := Tryz.zeroValue3
 t4 := Tryz.underlying4
 a4 := Tryz.isAgg4
 z4 := Tryz.sizeOf4
 v4 := Tryz.zeroValue4
 t5 := Tryz.underlying5
 a5 := Tryz.isAgg5
 z5 := Tryz.sizeOf5
 v5 := Tryz.zeroValue5
 t9 := Tryz.underlying9
 a9 := Tryz.isAgg9
 z9 := Tryz.sizeOf9
 v9 := Tryz.zeroValue9
 t46 := Tryz.underlying161
 a46 := Tryz.isAgg161
 z46 := Tryz.sizeOf161
 v46 := Tryz.zeroValue161
 t51 := Tryz.underlying194
 a51 := Tryz.isAgg194
 z51 := Tryz.sizeOf194
 v51 := Tryz.zeroValue194
 t59 := Tryz.underlying101
 a59 := Tryz.isAgg101
 z59 := Tryz.sizeOf101
 v59 := Tryz.zeroValue101
 t146 := Tryz.underlying205
 a146 := Tryz.isAgg205
 z146 := Tryz.sizeOf205
 v146 := Tryz.zeroValue205
 g1 := by kernel_rfl }
open Go.RowKit Go.Lib in

theorem Tryz.strings_Cut (s sep : ByteArray) (m : Int) (w : World) (hs : s.size < 4294967281) (hm : w.cell? ⟨0, 0, none⟩ = some (.int .i64 m)) :
  Calls Tryz.prog 76 #[.string s, .string sep] w fun e w' => e = .returned (.tuple #[.string ⟨(Lib.cut s.data.toList sep.data.toList).1.toArray⟩, .string ⟨(Lib.cut s.data.toList sep.data.toList).2.1.toArray⟩, .bool (Lib.cut s.data.toList sep.data.toList).2.2]) ∧ ∃ n, w' = w.drewN n := Any.strings_Cut Tryz.lays145 s sep m w hs hm
def Tryz.lays147_ren : Go.Shelf.Ren := ⟨fun | 147 => 150 | 221 => 185 | 268 => 207 | 138 => 208 | 143 => 108 | 195 => 222 | 197 => 158 | 218 => 223 | 219 => 154 | 260 => 191 | 217 => 175 | 225 => 138 | 224 => 137 | 267 => 189 | 266 => 201 | 314 => 213 | n => n, fun | 9 => 9 | 3 => 3 | 31 => 53 | 4 => 4 | 0 => 0 | 105 => 173 | 21 => 21 | 5 => 5 | 46 => 161 | 119 => 207 | 139 => 210 | 138 => 209 | 146 => 205 | 51 => 194 | n => n, fun | 1 => 0 | 3 => 1 | 4 => 2 | n => n⟩
theorem Tryz.lays147 : Go.Proofs.Lays.n147 Tryz.prog Tryz.lays147_ren := {
 mixed := by kernel_rfl
 f138 := Tryz.func208.trans (congrArg some (by kernel_rfl))
 f143 := Tryz.func108.trans (congrArg some (by kernel_rfl))
 f147 := Tryz.func150.trans (congrArg some (by kernel_rfl))
 f195 := Tryz.func222.trans (congrArg some (by kernel_rfl))
 f197 := Tryz.func158.trans (congrArg some (by kernel_rfl))
 f217 := Tryz.func175.trans (congrArg some (by kernel_rfl))
 f218 := Tryz.func223.trans (congrArg some (by kernel_rfl))
 f219 := Tryz.func154.trans (congrArg some (by kernel_rfl))
 f221 := Tryz.func185.trans (congrArg some (by kernel_rfl))
 f224 := Tryz.func137.trans (congrArg some (by kernel_rfl))
 f225 := Tryz.func138.trans (congrArg some (by kernel_rfl))
 f260 := Tryz.func191.trans (congrArg some (by kernel_rfl))
 f266 := Tryz.func201.trans (congrArg some (by kernel_rfl))
 f267 := Tryz.func189.trans (congrArg some (by kernel_rfl))
 f268 := Tryz.func207.trans (congrArg some (by kernel_rfl))
 f314 := Tryz.func213.trans (congrArg some (by kernel_rfl))
 t0 := Tryz.underlying0
 a0 := Tryz.isAgg0
 z0 := Tryz.sizeOf0
 v0 := Tryz.zeroValue0
 t3 := Tryz.underlying3
 a3 := Tryz.isAgg3
 z3 := Tryz.sizeOf3
 v3 := Tryz.zeroValue3
 t4 := Tryz.underlying4
 a4 := Tryz.isAgg4
 z4 := Tryz.sizeOf4
 v4 := Tryz.zeroValue4
 t5 := Tryz.underlying5
 a5 := Tryz.isAgg5
 z5 := Tryz.sizeOf5
 v5 := Tryz.zeroValue5
 t9 := Tryz.underlying9
 a9 := Tryz.isAgg9
 z9 := Tryz.sizeOf9
 v9 := Tryz.zeroValue9
 t21 := Tryz.underlying21
 a21 := Tryz.isAgg21
 z21 := Tryz.sizeOf21
 v21 := Tryz.zeroValue21
 t31 := Tryz.underlying53
 a31 := Tryz.isAgg53
 z31 := Tryz.sizeOf53
 v31 := Tryz.zeroValue53
 t46 := Tryz.underlying161
 a46 := Tryz.isAgg161
 z46 := Tryz.sizeOf161
 v46 := Tryz.zeroValue161
 t51 := Tryz.underlying194
 a51 := Tryz.isAgg194
 z51 := Tryz.sizeOf194
 v51 := Tryz.zeroValue194
 t105 := Tryz.underlying173
 a105 := Tryz.isAgg173
 z105 := Tryz.sizeOf173
 v105 := Tryz.zeroValue173
 t119 := Tryz.underlying207
 a119 := Tryz.isAgg207
 z119 := Tryz.sizeOf207
 t138 := Tryz.underlying209
 a138 := Tryz.isAgg209
 z138 := Tryz.sizeOf209
 v138 := Tryz.zeroValue209
 t139 := Tryz.underlying210
 a139 := Tryz.isAgg210
 z139 := Tryz.sizeOf210
 v139 := Tryz.zeroValue210
 t146 := Tryz.underlying205
 a146 := Tryz.isAgg205
 z146 := Tryz.sizeOf205
 v146 := Tryz.zeroValue205
 g1 := by kernel_rfl
 g3 := by kernel_rfl
 g4 := by kernel_rfl }
open Go.RowKit Go.Lib in

theorem Tryz.strings_SplitN (s sep : ByteArray) (n : Nat) (m : Int) (w : World) (hs : s.size < 4294967281) (hm : w.cell? ⟨0, 0, none⟩ = some (.int .i64 m)) (h1 : 1 ≤ sep.size) (hn : 1 ≤ n) (hn63 : n ≤ 9223372036854775807) :
  Calls Tryz.prog 150 #[.string s, .string sep, .int .i64 n] w fun e w' =>
   e = .returned (.slice (some ⟨w.heap.size, 0, none⟩) (Lib.splitB sep 0 (min n (s.size + 1) - 1) s).length (min n (s.size + 1))) ∧ w' = w.alloc (.cells (Lib.cellsOf (Lib.splitB sep 0 (min n (s.size + 1) - 1) s) (min n (s.size + 1))) 9) := Any.strings_SplitN Tryz.lays147 (by kernel_rfl) s sep n m w hs hm h1 hn hn63
def Tryz.lays197_ren : Go.Shelf.Ren := ⟨fun | 197 => 158 | 260 => 191 | n => n, fun | 9 => 9 | 21 => 21 | 3 => 3 | 4 => 4 | 5 => 5 | 105 => 173 | 119 => 207 | 0 => 0 | 46 => 161 | 139 => 210 | 138 => 209 | n => n, fun | 3 => 1 | 4 => 2 | n => n⟩
theorem Tryz.lays197 : Go.Proofs.Lays.n197 Tryz.prog Tryz.lays197_ren := {
 mixed := by kernel_rfl
 f197 := Tryz.func158.trans (congrArg some (by kernel_rfl))
 f260 := Tryz.func191.trans (congrArg some (by kernel_rfl))
 t0 := Tryz.underlying0
 a0 := Tryz.isAgg0
 z0 := Tryz.sizeOf0
 v0 := Tryz.zeroValue0
 t3 := Tryz.underlying3
 a3 := Tryz.isAgg3
 z3 := Tryz.sizeOf3
 v3 := Tryz.zeroValue3
 t4 := Tryz.underlying4
 a4 := Tryz.isAgg4
 z4 := Tryz.sizeOf4
 v4 := Tryz.zeroValue4
 t5 := Tryz.underlying5
 a5 := Tryz.isAgg5
 z5 := Tryz.sizeOf5
 v5 := Tryz.zeroValue5
 t9 := Tryz.underlying9
 a9 := Tryz.isAgg9
 z9 := Tryz.sizeOf9
 v9 := Tryz.zeroValue9
 t21 := Tryz.underlying21
 a21 := Tryz.isAgg21
 z21 := Tryz.sizeOf21
 v21 := Tryz.zeroValue21
 t46 := Tryz.underlying161
 a46 := Tryz.isAgg161
 z46 := Tryz.sizeOf161
 v46 := Tryz.zeroValue161
 t105 := Tryz.underlying173
 a105 := Tryz.isAgg173
 z105 := Tryz.sizeOf173
 v105 := Tryz.zeroValue173
 t119 := Tryz.underlying207
 a119 := Tryz.isAgg207
 z119 := Tryz.sizeOf207
 t138 := Tryz.underlying209
 a138 := Tryz.isAgg209
 z138 := Tryz.sizeOf209
 v138 := Tryz.zeroValue209
 t139 := Tryz.underlying210
 a139 := Tryz.isAgg210
 z139 := Tryz.sizeOf210
 v139 := Tryz.zeroValue210
 g3 := by kernel_rfl
 g4 := by kernel_rfl }
def Tryz.lays105_ren : Go.Shelf.Ren := ⟨fun | 105 => 230 | 212 => 232 | 99 => 56 | 165 => 177 | 166 => 106 | 170 => 233 | 169 => 89 | 263 => 235 | 264 => 236 | 206 => 94 | 240 => 139 | 241 => 202 | 276 => 176 | 277 => 218 | n => n, fun | 9 => 9 | 3 => 3 | 4 => 4 | 20 => 20 | 0 => 0 | 46 => 161 | 109 => 221 | 5 => 5 | 72 => 127 | 76 => 136 | 51 => 194 | 146 => 205 | 53 => 224 | 148 => 225 | 70 => 124 | 37 => 125 | 75 => 129 | 127 => 162 | 164 => 186 | 80 => 78 | n => n, fun | n => n⟩
theorem Tryz.lays105 : Go.Proofs.Lays.n105 Tryz.prog Tryz.lays105_ren := {
 mixed := by kernel_rfl
 f99 := Tryz.func56.trans (congrArg some (by kernel_rfl))
 f105 := Tryz.func230.trans (congrArg some (by kernel_rfl))
 f165 := Tryz.func177.trans (congrArg some (by kernel_rfl))
 f166 := Tryz.func106.trans (congrArg some (by kernel_rfl))
 f169 := Tryz.func89.trans (congrArg some (by kernel_rfl))
 f170 := Tryz.func233.trans (congrArg some (by kernel_rfl))
 f206 := Tryz.func94.trans (congrArg some (by kernel_rfl))
 f212 := Tryz.func232.trans (congrArg some (by kernel_rfl))
 f240 := Tryz.func139.trans (congrArg some (by kernel_rfl))
 f241 := Tryz.func202.trans (congrArg some (by kernel_rfl))
 f263 := Tryz.func235.trans (congrArg some (by kernel_rfl))
 f264 := Tryz.func236.trans (congrArg some (by kernel_rfl))
 f276 := Tryz.func176.trans (congrArg some (by kernel_rfl))
 f277 := Tryz.func218.trans (congrArg some (by kernel_rfl))
 t0 := Tryz.underlying0
 a0 := Tryz.isAgg0
 z0 := Tryz.sizeOf0
 v0 := Tryz.zeroValue0
 t3 := Tryz.underlying3
 a3 := Tryz.isAgg3
 z3 := Tryz.sizeOf3
 v3 := Tryz.zeroValue3
 t4 := Tryz.underlying4
 a4 := Tryz.isAgg4
 z4 := Tryz.sizeOf4
 v4 := Tryz.zeroValue4
 t5 := Tryz.underlying5
 a5 := Tryz.isAgg5
 z5 := Tryz.sizeOf5
 v5 := Tryz.zeroValue5
 t9 := Tryz.underlying9
 a9 := Tryz.isAgg9
 z9 := Tryz.sizeOf9
 v9 := Tryz.zeroValue9
 t20 := Tryz.underlying20
 a20 := Tryz.isAgg20
 z20 := Tryz.sizeOf20
 v20 := Tryz.zeroValue20
 t37 := Tryz.underlying125
 a37 := Tryz.isAgg125
 z37 := Tryz.sizeOf125
 v37 := Tryz.zeroValue125
 t46 := Tryz.underlying161
 a46 := Tryz.isAgg161
 z46 := Tryz.sizeOf161
 v46 := Tryz.zeroValue161
 t51 := Tryz.underlying194
 a51 := Tryz.isAgg194
 z51 := Tryz.sizeOf194
 v51 := Tryz.zeroValue194
 t53 := Tryz.underlying224
 a53 := Tryz.isAgg224
 z53 := Tryz.sizeOf224
 v53 := Tryz.zeroValue224
 t70 := Tryz.underlying124
 a70 := Tryz.isAgg124
 z70 := Tryz.sizeOf124
 v70 := Tryz.zeroValue124
 t72 := Tryz.underlying127
 a72 := Tryz.isAgg127
 z72 := Tryz.sizeOf127
 v72 := Tryz.zeroValue127
 t75 := Tryz.underlying129
 a75 := Tryz.isAgg129
 z75 := Tryz.sizeOf129
 v75 := Tryz.zeroValue129
 t76 := Tryz.underlying136
 a76 := Tryz.isAgg136
 z76 := Tryz.sizeOf136
 v76 := Tryz.zeroValue136
 t109 := Tryz.underlying221
 a109 := Tryz.isAgg221
 z109 := Tryz.sizeOf221
 v109 := Tryz.zeroValue221
 t127 := Tryz.underlying162
 a127 := Tryz.isAgg162
 z127 := Tryz.sizeOf162
 v127 := Tryz.zeroValue162
 t146 := Tryz.underlying205
 a146 := Tryz.isAgg205
 z146 := Tryz.sizeOf205
 v146 := Tryz.zeroValue205
 t148 := Tryz.underlying225
 a148 := Tryz.isAgg225
 z148 := Tryz.sizeOf225
 v148 := Tryz.zeroValue225
 t164 := Tryz.underlying186
 a164 := Tryz.isAgg186
 z164 := Tryz.sizeOf186
 v164 := Tryz.zeroValue186 }
theorem Tryz.Builder_Extra_105 : Builder.Extra Tryz.prog Tryz.lays105_ren := {
 sizeBuilder := by kernel_rfl
 liesBuilder := by kernel_rfl
 t5 := Tryz.underlying5
 a5 := Tryz.isAgg5
 z5 := Tryz.sizeOf5
 v5 := Tryz.zeroValue5
 infoByte := by kernel_rfl
 cellsByte := by kernel_rfl
 sizeByte := by kernel_rfl
 neB5 := by decide }
open Go.RowKit Go.Lib in

theorem Tryz.strings_Repeat (s : ByteArray) (c : Nat) (w : World) (hc : c ≤ 9223372036854775807) (hlen : s.size * c ≤ 140737488355328) :
  Calls Tryz.prog 230 #[.string s, .int .i64 c] w fun e w' => e = .returned (.string ⟨(Lib.repeatL s.data.toList c).toArray⟩) ∧ Below w.heap.size w w' := Any.strings_Repeat Tryz.lays105 Tryz.Builder_Extra_105 s c w hc hlen
def Tryz.lays260_ren : Go.Shelf.Ren := ⟨fun | 260 => 191 | n => n, fun | 9 => 9 | 21 => 21 | 3 => 3 | 4 => 4 | 5 => 5 | 119 => 207 | 0 => 0 | 46 => 161 | 139 => 210 | 138 => 209 | n => n, fun | 3 => 1 | 4 => 2 | n => n⟩
theorem Tryz.lays260 : Go.Proofs.Lays.n260 Tryz.prog Tryz.lays260_ren := {
 mixed := by kernel_rfl
 f260 := Tryz.func191.trans (congrArg some (by kernel_rfl))
 t0 := Tryz.underlying0
 a0 := Tryz.isAgg0
 z0 := Tryz.sizeOf0
 v0 := Tryz.zeroValue0
 t3 := Tryz.underlying3
 a3 := Tryz.isAgg3
 z3 := Tryz.sizeOf3
 v3 := Tryz.zeroValue3
 t4 := Tryz.underlying4
 a4 := Tryz.isAgg4
 z4 := Tryz.sizeOf4
 v4 := Tryz.zeroValue4
 t5 := Tryz.underlying5
 a5 := Tryz.isAgg5
 z5 := Tryz.sizeOf5
 v5 := Tryz.zeroValue5
 t9 := Tryz.underlying9
 a9 := Tryz.isAgg9
 z9 := Tryz.sizeOf9
 v9 := Tryz.zeroValue9
 t21 := Tryz.underlying21
 a21 := Tryz.isAgg21
 z21 := Tryz.sizeOf21
 v21 := Tryz.zeroValue21
 t46 := Tryz.underlying161
 a46 := Tryz.isAgg161
 z46 := Tryz.sizeOf161
 v46 := Tryz.zeroValue161
 t119 := Tryz.underlying207
 a119 := Tryz.isAgg207
 z119 := Tryz.sizeOf207
 t138 := Tryz.underlying209
 a138 := Tryz.isAgg209
 z138 := Tryz.sizeOf209
 v138 := Tryz.zeroValue209
 t139 := Tryz.underlying210
 a139 := Tryz.isAgg210
 z139 := Tryz.sizeOf210
 v139 := Tryz.zeroValue210
 g3 := by kernel_rfl
 g4 := by kernel_rfl }
open Go.RowKit Go.Lib in

theorem Tryz.utf8_DecodeRuneInString (s : ByteArray) (w : World) (hT : Lib.Utf8Tabs 1 2 w) :
  Calls Tryz.prog 158 #[.string s] w fun e w' => e = .returned (.tuple #[.int .i32 (Lib.decodeGo s).1, .int .i64 (Lib.decodeGo s).2]) ∧ Below w.heap.size w w' := Any.utf8_DecodeRuneInString Tryz.lays197 s w hT
def Tryz.lays229_ren : Go.Shelf.Ren := ⟨fun | 229 => 140 | n => n, fun | 9 => 9 | 40 => 135 | 31 => 53 | 152 => 188 | 3 => 3 | 0 => 0 | 4 => 4 | 21 => 21 | 154 => 190 | n => n, fun | n => n⟩
theorem Tryz.lays229 : Go.Proofs.Lays.n229 Tryz.prog Tryz.lays229_ren := {
 mixed := by kernel_rfl
 f229 := Tryz.func140.trans (congrArg some (by kernel_rfl))
 t0 := Tryz.underlying0
 a0 := Tryz.isAgg0
 z0 := Tryz.sizeOf0
 v0 := Tryz.zeroValue0
 t3 := Tryz.underlying3
 a3 := Tryz.isAgg3
 z3 := Tryz.sizeOf3
 v3 := Tryz.zeroValue3
 t4 := Tryz.underlying4
 a4 := Tryz.isAgg4
 z4 := Tryz.sizeOf4
 v4 := Tryz.zeroValue4
 t9 := Tryz.underlying9
 a9 := Tryz.isAgg9
 z9 := Tryz.sizeOf9
 v9 := Tryz.zeroValue9
 t21 := Tryz.underlying21
 a21 := Tryz.isAgg21
 z21 := Tryz.sizeOf21
 v21 := Tryz.zeroValue21
 t31 := Tryz.underlying53
 a31 := Tryz.isAgg53
 z31 := Tryz.sizeOf53
 v31 := Tryz.zeroValue53
 t40 := Tryz.underlying135
 a40 := Tryz.isAgg135
 z40 := Tryz.sizeOf135
 v40 := Tryz.zeroValue135
 t152 := Tryz.underlying188
 a152 := Tryz.isAgg188
 z152 := Tryz.sizeOf188
 v152 := Tryz.zeroValue188
 t154 := Tryz.underlying190
 a154 := Tryz.isAgg190
 z154 := Tryz.sizeOf190
 v154 := Tryz.zeroValue190 }
open Go.RowKit Go.Lib in

theorem Tryz.strings_FieldsFunc (g : Nat) (lb : Array Value) (eg : ∀ args w, (callFunc g args).run Tryz.prog w = .ok (.enter g args) w) (p : Nat → Bool) (s : ByteArray) (w : World) (hs : s.size ≤ 4294967296) (hp : PredAt Tryz.prog g lb encR p w) :
  Calls Tryz.prog 140 #[.string s, .func (.func g) #[] lb] w fun e w' => ∃ A, e = .returned (.slice (some ⟨A, 0, none⟩) (Lib.goFieldsP p s).length (Lib.goFieldsP p s).length) ∧ w.heap.size ≤ A ∧
   w'.ownsRow w.heap.size 9 1 (.slice (some ⟨A, 0, none⟩) (Lib.goFieldsP p s).length (Lib.goFieldsP p s).length) (Lib.goFieldsP p s).length ((Lib.goFieldsP p s).map Value.string) ∧ Below w.heap.size w w' := Any.strings_FieldsFunc Tryz.lays229 g lb eg p s w hs hp (by kernel_rfl) (by kernel_rfl)
end Go.Proofs
set_option linter.unusedVariables false
namespace Go.Proofs.YtihabmcaplnbcaaGreatDoor.Fn
open Go.RowKit Go.Proofs.YtihabmcaplnbcaaGreatDoorW.PrintWords

def strings_Join.f (l0 : List ByteArray) (a1 : ByteArray) : Option ByteArray :=
 if l0.length ≤ 140737488355328 then (if (Pl.join l0 a1).size ≤ 140737488355328 then some (Pl.join l0 a1) else none) else none

theorem strings_Join.calls (A0 : Option Addr) (c0 : Nat) (l0 : List ByteArray) (a1 : ByteArray) (r : ByteArray) (w : World) (hr0 : Kd.C Kd.string w A0 l0.length l0) (hc0 : l0.length ≤ c0) (h : strings_Join.f l0 a1 = some r) :
  Calls Tryz.prog 143 #[.slice A0 l0.length c0, .string a1] w fun e w' => e = .returned (.string r) ∧ Below w.heap.size w w' := by
 unfold strings_Join.f at h
 by_cases hs : l0.length ≤ 140737488355328
 ·rw [if_pos hs] at h
  by_cases hn : (Pl.join l0 a1).size ≤ 140737488355328
  ·rw [if_pos hn] at h
   have HR := Option.some.inj h
   clear h
   subst HR
   by_cases h0 : l0.length = 0
   ·have e0 : l0 = [] := List.eq_nil_of_length_eq_zero h0
    subst e0
    refine (Tryz.strings_Join_none A0 c0 a1 w).mono ?_
    rintro e w' ⟨rfl, rfl⟩
    exact ⟨rfl, Below.refl _ _⟩
   obtain ⟨bk, o, rfl, hbk, hcells⟩ := strings_at hr0 (by omega)
   exact Tryz.strings_Join bk o c0 l0 a1 w hcells hbk hs hc0 (by have e := Pl.str_size (Lib.join (l0.map fun x => x.data.toList) a1.data.toList); unfold Pl.join at hn; omega)
  rw [if_neg hn] at h
  exact absurd h (by simp)
 rw [if_neg hs] at h
 exact absurd h (by simp)
end Go.Proofs.YtihabmcaplnbcaaGreatDoor.Fn
namespace Go.Proofs.YtihabmcaplnbcaaGreatDoor.Fn
open Go.RowKit Go.Proofs.YtihabmcaplnbcaaGreatDoorW.PrintWords Go.Proofs.YtihabmcaplnbcaaGreatDoorW.PrintLast Go.Proofs.YtihabmcaplnbcaaGreatDoorW.PrintMore
attribute [local go_sem] max2_int min2_int max_two min_two max_three min_three max_four min_four
set_option linter.unusedVariables false
set_option linter.unusedSimpArgs false
def order_unknown.f (l0 : List ByteArray) : Option (Int × Int × ByteArray) := (strings_Join.f l0 (⟨#[32]⟩ : ByteArray)).bind fun t724 => ((glyph_Clip.f t724 30).bind fun t725 => (some (5, 0, t725)))
set_option maxHeartbeats 8000000 in
set_option maxRecDepth 100000 in
theorem order_unknown.calls (A0 : Option Addr) (c0 : Nat) (l0 : List ByteArray) (r1 : Int) (r2 : Int) (r3 : ByteArray) (w : World) (hr0 : Kd.C Kd.string w A0 l0.length l0) (hc0 : l0.length ≤ c0) (h : order_unknown.f l0 = some (r1, r2, r3)) :
  Calls Tryz.prog 95 #[.slice A0 l0.length c0] w fun e w' => e = .returned (.agg #[.int .i64 r1, .int .i64 r2, .string r3]) ∧ Below w.heap.size w w' := by
 have hu63 := Tryz.underlying63; have HR0 := Aside0.mk hr0; have HC0 := Aside0.mk hc0; clear hr0 hc0; have HB := Aside0.mk (Below.refl w.heap.size w); have H : ((strings_Join.f l0 (⟨#[32]⟩ : ByteArray)).bind fun t724 => ((glyph_Clip.f t724 30).bind fun t725 => (some (5, 0, t725)))) = some (r1, r2, r3) := h; clear h; replace H := Option.bind_eq_some_iff.mp H; obtain ⟨t724, A20, H⟩ := H; have A2 := Aside0.mk A20; clear A20; replace H := Option.bind_eq_some_iff.mp H; obtain ⟨t725, A30, H⟩ := H; have A3 := Aside0.mk A30; clear A30; simp only [Option.some.injEq, Prod.mk.injEq] at H; obtain ⟨rfl, rfl, rfl⟩ := H
 go_enter Tryz.func95, Tryz.ntmps95
 go_wp2_with (first | ((with_reducible refine gate_dst (N := 2) rfl ?_); refine box_event ?hg (N := 2) ?hd (cs := #[.int .i64 0, .int .i64 0, .string (⟨#[]⟩ : ByteArray)]) (t := 63) ?hr ?_; (case hd => rfl); (case hg => rfl); (case hr => first | (go_simp; done) | (go_simp; rfl)); intro gb723 hg w4 hbox hb; have n0_ := Aside0.mk (below_step bw hb); have n1_ := Aside0.mk (hbox); have n2_ := Aside0.mk ((by rw [hg]; exact (below_size bw) : w.heap.size ≤ gb723)); have n3_ := Aside0.mk ((by rw [hg]; exact (below_size bw) : w.heap.size ≤ gb723)); clear HB; have HB := n0_; have BK723 := n1_; have GW723 := n2_; have GE723 := n3_; clear n0_ n1_ n2_ n3_; clear hb hbox hg) | ((with_reducible refine gate_callee (f := 143) rfl ?_); refine goesL_ (some 4) rfl rfl Tryz.func143 (by kernel_rfl) rfl #[.slice A0 l0.length c0, .string (⟨#[32]⟩ : ByteArray)] rfl am ?_; (with_reducible refine (strings_Join.calls _ _ l0 (⟨#[32]⟩ : ByteArray) t724 _ ?side1 ?side2 A2.out).mono ?_); (case side1 => repeat (first | exact (Kd.C_below HR0.out HB.out) | (with_reducible refine Kd.C_alloc ?_ _) | (with_reducible refine Kd.C_drewN ?_ _) | (with_reducible refine Kd.C_drew ?_))); (case side2 => exact HC0.out); rintro e w5 ⟨rfl, hb⟩; refine ⟨_, rfl, ?_⟩; have n0_ := Aside0.mk (blk_below (g := gb723) (o := .cells #[.int .i64 0, .int .i64 0, .string (⟨#[]⟩ : ByteArray)] 63 (0, 0)) bk hb); have n1_ := Aside0.mk (below_step bwS hb); clear BK723; clear HB; have BK723 := n0_; have HB := n1_; clear n0_ n1_; (try clear hb); (try clear hb2); (try clear hk); (try clear hi)) | ((with_reducible refine gate_callee (f := 142) rfl ?_); refine goesL_ (some 5) rfl rfl Tryz.func142 (by kernel_rfl) rfl #[.string t724, .int .i64 30] rfl am ?_; (with_reducible refine (glyph_Clip.calls t724 30 t725 _ A3.out).mono ?_); rintro e w6 ⟨rfl, hb⟩; refine ⟨_, rfl, ?_⟩; have n0_ := Aside0.mk (blk_below (g := gb723) (o := .cells #[.int .i64 0, .int .i64 0, .string (⟨#[]⟩ : ByteArray)] 63 (0, 0)) bk hb); have n1_ := Aside0.mk (below_step bwS hb); clear BK723; clear HB; have BK723 := n0_; have HB := n1_; clear n0_ n1_; (try clear hb); (try clear hb2); (try clear hk); (try clear hi); have hcz7_0 : w6.cell? ⟨gb723, 0, none⟩ = some (.int .i64 0) := (blk_cell BK723.out 0).trans rfl; have hcz7_1 : w6.cell? ⟨gb723, 1, none⟩ = some (.int .i64 0) := (blk_cell BK723.out 1).trans rfl; have hcz7_2 : w6.cell? ⟨gb723, 2, none⟩ = some (.string (⟨#[]⟩ : ByteArray)) := (blk_cell BK723.out 2).trans rfl; have hfz7_0 := blk_frozen BK723.out 0; have hfz7_1 := blk_frozen BK723.out 1; have hfz7_2 := blk_frozen BK723.out 2))
 refine bodyPost_ret (results_cell_row rfl _ _ gb723 63 #[.int .i64 5, .int .i64 0, .string t725] (0, 0) _ rfl (by (with_reducible repeat (first | refine blk_drewN ?_ _ | refine blk_drew ?_ | refine blk_alloc ?_ _)); refine blk_put (cs := #[.int .i64 5, .int .i64 0, .string (⟨#[]⟩ : ByteArray)]) ?_ 2 _ rfl; (with_reducible repeat (first | refine blk_drewN ?_ _ | refine blk_drew ?_ | refine blk_alloc ?_ _)); refine blk_put (cs := #[.int .i64 5, .int .i64 0, .string (⟨#[]⟩ : ByteArray)]) ?_ 1 _ rfl; (with_reducible repeat (first | refine blk_drewN ?_ _ | refine blk_drew ?_ | refine blk_alloc ?_ _)); exact blk_put (cs := #[.int .i64 0, .int .i64 0, .string (⟨#[]⟩ : ByteArray)]) bk 0 _ rfl) Tryz.underlying63 rfl (by kernel_rfl)) rfl ?_; exact ⟨ew, bwS⟩

def roster_Word.f (a0 : Int) : Option (ByteArray) := if a0 = 1 then (some (⟨#[101, 97, 99, 104]⟩ : ByteArray)) else (if a0 = 2 then (some (⟨#[100, 105, 103, 101, 115, 116]⟩ : ByteArray)) else (if a0 = 3 then (some (⟨#[115, 105, 108, 101, 110, 116]⟩ : ByteArray)) else (some (⟨#[]⟩ : ByteArray))))
set_option maxHeartbeats 8000000 in
set_option maxRecDepth 100000 in
theorem roster_Word.calls (a0 : Int) (r : ByteArray) (w : World) (h : roster_Word.f a0 = some r) :
  Calls Tryz.prog 91 #[.int .i64 a0] w fun e w' => e = .returned (.string r) ∧ Drawn0 w w' := by
 have H : (if a0 = 1 then (some (⟨#[101, 97, 99, 104]⟩ : ByteArray)) else (if a0 = 2 then (some (⟨#[100, 105, 103, 101, 115, 116]⟩ : ByteArray)) else (if a0 = 3 then (some (⟨#[115, 105, 108, 101, 110, 116]⟩ : ByteArray)) else (some (⟨#[]⟩ : ByteArray))))) = some r := h; clear h
 by_cases c2 : a0 = 1
 ·rw [if_pos c2] at H; have c2b0 := beq_iff_eq.mpr c2; have c2b1 := bne_eq_false_iff_eq.mpr c2; clear c2; obtain rfl := Option.some.inj H
  go_enter Tryz.func91, Tryz.ntmps91
  go_wp2
  go_ret
  exact ⟨cl, d0⟩
 rw [if_neg c2] at H; have c2b0 := beq_eq_false_iff_ne.mpr c2; have c2b1 := bne_iff_ne.mpr c2
 by_cases c3 : a0 = 2
 ·rw [if_pos c3] at H; have c3b0 := beq_iff_eq.mpr c3; have c3b1 := bne_eq_false_iff_eq.mpr c3; clear c3; obtain rfl := Option.some.inj H
  go_enter Tryz.func91, Tryz.ntmps91
  go_wp2
  go_ret
  exact ⟨cl, d0⟩
 rw [if_neg c3] at H; have c3b0 := beq_eq_false_iff_ne.mpr c3; have c3b1 := bne_iff_ne.mpr c3
 by_cases c4 : a0 = 3
 ·rw [if_pos c4] at H; have c4b0 := beq_iff_eq.mpr c4; have c4b1 := bne_eq_false_iff_eq.mpr c4; clear c4; obtain rfl := Option.some.inj H
  go_enter Tryz.func91, Tryz.ntmps91
  go_wp2
  go_ret
  exact ⟨cl, d0⟩
 rw [if_neg c4] at H; have c4b0 := beq_eq_false_iff_ne.mpr c4; have c4b1 := bne_iff_ne.mpr c4; obtain rfl := Option.some.inj H
 go_enter Tryz.func91, Tryz.ntmps91
 go_wp2
 go_ret
 exact ⟨cl, d0⟩

def roster_Mode.l0 : Nat → ByteArray → Int → Option (Int)
 | 0, _, _ => none
 | k + 1, x0, x3 => if x3 ≤ 3 then ((roster_Word.f x3).bind fun t726 => (if t726.toList = x0.toList then (some x3) else (roster_Mode.l0 k x0 (wrap64 (x3 + 1))))) else (some 0)
def roster_Mode.f (k : Nat) (a0 : ByteArray) : Option (Int) := roster_Mode.l0 k a0 1
set_option maxHeartbeats 8000000 in
set_option maxRecDepth 100000 in
theorem roster_Mode.calls (k : Nat) (a0 : ByteArray) (r : Int) (w : World) (h : roster_Mode.f k a0 = some r) :
  Calls Tryz.prog 97 #[.string a0] w fun e w' => e = .returned (.int .i64 r) ∧ Drawn0 w w' := by
 have H : (roster_Mode.l0 k a0 1) = some r := h; clear h; have H' := Aside0.mk H; clear H
 go_enter Tryz.func97, Tryz.ntmps97
 go_wp2
 go_loopg [3] k (fun kq v3 w' => ∃ (x3_1 : Int), v3 = .int .i64 x3_1 ∧ Aside0 (roster_Mode.l0 kq a0 x3_1 = some r) ∧ Aside0 (kq ≤ k) ∧ Drawn0 w w')
 case atStart => exact ⟨(1), cl, H', ⟨Nat.le_refl _⟩, d0⟩
 case round =>
  clear H'; obtain ⟨x3_1, rfl, HA, HK1, ⟨m1, rfl⟩⟩ := hrel; cases gk with
  | zero => exact absurd HA.out (by simp [roster_Mode.l0])
  | succ k1 =>
   have H := HA.out; clear HA; simp only [roster_Mode.l0] at H
   by_cases c2 : x3_1 ≤ 3
   ·rw [if_pos c2] at H; have c2b0 := decide_eq_true c2; clear c2; replace H := Option.bind_eq_some_iff.mp H; obtain ⟨t726, A30, H⟩ := H; have A3 := Aside0.mk A30; clear A30
    by_cases c4 : t726.toList = a0.toList
    ·rw [if_pos c4] at H; have c4b0 := beq_iff_eq.mpr c4; have c4b1 := bne_eq_false_iff_eq.mpr c4; clear c4; obtain rfl := Option.some.inj H
     go_wp2_with (first | ((with_reducible refine gate_callee (f := 91) rfl ?_); refine goesL_ (some 9) rfl rfl Tryz.func91 (by kernel_rfl) rfl #[.int .i64 x3_1] rfl am ?_; (with_reducible refine (roster_Word.calls x3_1 t726 _ A3.out).mono ?_); rintro e w' ⟨rfl, ⟨nd, rfl⟩⟩; refine ⟨_, rfl, ?_⟩))
     go_ret
     exact ⟨cl, d0⟩
    rw [if_neg c4] at H; have c4b0 := beq_eq_false_iff_ne.mpr c4; have c4b1 := bne_iff_ne.mpr c4; have H' := Aside0.mk H; clear H
    go_wp2_with (first | ((with_reducible refine gate_callee (f := 91) rfl ?_); refine goesL_ (some 9) rfl rfl Tryz.func91 (by kernel_rfl) rfl #[.int .i64 x3_1] rfl am ?_; (with_reducible refine (roster_Word.calls x3_1 t726 _ A3.out).mono ?_); rintro e w' ⟨rfl, ⟨nd, rfl⟩⟩; refine ⟨_, rfl, ?_⟩))
    go_roundg k1
    case measure => have := HK1.out; omega
    case rel => exact ⟨(wrap64 (x3_1 + 1)), cl, H', ⟨by have := HK1.out; omega⟩, d0⟩
   rw [if_neg c2] at H; have c2b0 := decide_eq_false c2; clear c2; obtain rfl := Option.some.inj H
   go_wp2
   go_ret
   exact ⟨cl, d0⟩

def order_join.j0 : Nat → List ByteArray → Bool → Option (Int × Int × ByteArray)
 | 0, _, _ => none
 | k + 1, x0, x8 => if x8 = true then (if 1 < (x0.length : Int) then ((roster_Mode.f k (rdOf ByteArray.empty x0 1)).bind fun t731 => (some (2, t731, (⟨#[]⟩ : ByteArray)))) else (none)) else ((order_unknown.f x0).bind fun bt732 => (some (bt732.1, bt732.2.1, bt732.2.2)))
def order_join.f (k : Nat) (l0 : List ByteArray) : Option (Int × Int × ByteArray) := if (l0.length : Int) = 1 then (some (2, 1, (⟨#[]⟩ : ByteArray))) else (if (l0.length : Int) = 2 then (if 1 < (l0.length : Int) then ((roster_Mode.f k (rdOf ByteArray.empty l0 1)).bind fun t729 => (order_join.j0 k l0 (t729 != 0))) else (none)) else (order_join.j0 k l0 false))
set_option maxHeartbeats 8000000 in
set_option maxRecDepth 100000 in
theorem order_join.calls (k : Nat) (A0 : Option Addr) (c0 : Nat) (l0 : List ByteArray) (r1 : Int) (r2 : Int) (r3 : ByteArray) (w : World) (hr0 : Kd.C Kd.string w A0 l0.length l0) (hc0 : l0.length ≤ c0) (h : order_join.f k l0 = some (r1, r2, r3)) :
  Calls Tryz.prog 96 #[.slice A0 l0.length c0] w fun e w' => e = .returned (.agg #[.int .i64 r1, .int .i64 r2, .string r3]) ∧ Below w.heap.size w w' := by
 have hu63 := Tryz.underlying63; have HR0 := Aside0.mk hr0; have HC0 := Aside0.mk hc0; clear hr0 hc0; have HB := Aside0.mk (Below.refl w.heap.size w); have H : (if (l0.length : Int) = 1 then (some (2, 1, (⟨#[]⟩ : ByteArray))) else (if (l0.length : Int) = 2 then (if 1 < (l0.length : Int) then ((roster_Mode.f k (rdOf ByteArray.empty l0 1)).bind fun t729 => (order_join.j0 k l0 (t729 != 0))) else (none)) else (order_join.j0 k l0 false))) = some (r1, r2, r3) := h; clear h
 by_cases c2 : (l0.length : Int) = 1
 ·rw [if_pos c2] at H; have c2b0 := beq_iff_eq.mpr c2; have c2b1 := bne_eq_false_iff_eq.mpr c2; clear c2; simp only [Option.some.injEq, Prod.mk.injEq] at H; obtain ⟨rfl, rfl, rfl⟩ := H
  go_enter Tryz.func96, Tryz.ntmps96
  go_wp2_with (first | ((with_reducible refine gate_dst (N := 2) rfl ?_); refine box_event ?hg (N := 2) ?hd (cs := #[.int .i64 0, .int .i64 0, .string (⟨#[]⟩ : ByteArray)]) (t := 63) ?hr ?_; (case hd => rfl); (case hg => rfl); (case hr => first | (go_simp; done) | (go_simp; rfl)); intro gb727 hg w3 hbox hb; have n0_ := Aside0.mk (below_step bw hb); have n1_ := Aside0.mk (hbox); have n2_ := Aside0.mk ((by rw [hg]; exact (below_size bw) : w.heap.size ≤ gb727)); have n3_ := Aside0.mk ((by rw [hg]; exact (below_size bw) : w.heap.size ≤ gb727)); clear HB; have HB := n0_; have BK727 := n1_; have GW727 := n2_; have GE727 := n3_; clear n0_ n1_ n2_ n3_; clear hb hbox hg; have hcz4_0 : w3.cell? ⟨gb727, 0, none⟩ = some (.int .i64 0) := (blk_cell BK727.out 0).trans rfl; have hcz4_1 : w3.cell? ⟨gb727, 1, none⟩ = some (.int .i64 0) := (blk_cell BK727.out 1).trans rfl; have hcz4_2 : w3.cell? ⟨gb727, 2, none⟩ = some (.string (⟨#[]⟩ : ByteArray)) := (blk_cell BK727.out 2).trans rfl; have hfz4_0 := blk_frozen BK727.out 0; have hfz4_1 := blk_frozen BK727.out 1; have hfz4_2 := blk_frozen BK727.out 2))
  refine bodyPost_ret (results_cell_row rfl _ _ gb727 63 #[.int .i64 2, .int .i64 1, .string (⟨#[]⟩ : ByteArray)] (0, 0) _ rfl (by (with_reducible repeat (first | refine blk_drewN ?_ _ | refine blk_drew ?_ | refine blk_alloc ?_ _)); refine blk_put (cs := #[.int .i64 2, .int .i64 1, .string (⟨#[]⟩ : ByteArray)]) ?_ 2 _ rfl; (with_reducible repeat (first | refine blk_drewN ?_ _ | refine blk_drew ?_ | refine blk_alloc ?_ _)); refine blk_put (cs := #[.int .i64 2, .int .i64 0, .string (⟨#[]⟩ : ByteArray)]) ?_ 1 _ rfl; (with_reducible repeat (first | refine blk_drewN ?_ _ | refine blk_drew ?_ | refine blk_alloc ?_ _)); exact blk_put (cs := #[.int .i64 0, .int .i64 0, .string (⟨#[]⟩ : ByteArray)]) bk 0 _ rfl) Tryz.underlying63 rfl (by kernel_rfl)) rfl ?_; exact ⟨ew, bwS⟩
 rw [if_neg c2] at H; have c2b0 := beq_eq_false_iff_ne.mpr c2; have c2b1 := bne_iff_ne.mpr c2; have HC5 := Aside0.mk H; clear H
 go_enter Tryz.func96, Tryz.ntmps96
 go_upto_region 3 with (first | ((with_reducible refine gate_dst (N := 2) rfl ?_); refine box_event ?hg (N := 2) ?hd (cs := #[.int .i64 0, .int .i64 0, .string (⟨#[]⟩ : ByteArray)]) (t := 63) ?hr ?_; (case hd => rfl); (case hg => rfl); (case hr => first | (go_simp; done) | (go_simp; rfl)); intro gb727 hg w6 hbox hb; have n0_ := Aside0.mk (below_step bw hb); have n1_ := Aside0.mk (hbox); have n2_ := Aside0.mk ((by rw [hg]; exact (below_size bw) : w.heap.size ≤ gb727)); have n3_ := Aside0.mk ((by rw [hg]; exact (below_size bw) : w.heap.size ≤ gb727)); clear HB; have HB := n0_; have BK727 := n1_; have GW727 := n2_; have GE727 := n3_; clear n0_ n1_ n2_ n3_; clear hb hbox hg))
 (try simp only [Act.put, List.setIfInBounds_toArray, List.set_cons_zero, List.set_cons_succ])
 go_cut [8] (fun v8 wc => ∃ (kq : Nat) (x8_4 : Bool), v8 = .bool x8_4 ∧ Aside0 (order_join.j0 kq l0 x8_4 = some (r1, r2, r3)) ∧ Aside0 (kq ≤ k) ∧ Aside0 (wc.heap[gb727]? = some (.cells #[.int .i64 0, .int .i64 0, .string (⟨#[]⟩ : ByteArray)] 63 (0, 0))) ∧ Aside0 (Below w.heap.size w wc))
 case first =>
  have H := HC5.out; clear HC5
  by_cases c7 : (l0.length : Int) = 2
  ·rw [if_pos c7] at H; have c7b0 := beq_iff_eq.mpr c7; have c7b1 := bne_eq_false_iff_eq.mpr c7; clear c7
   (first | rw [c7b0] | (simp only [i64_w, i32_w]; rw [c7b0]) | skip)
   by_cases c8 : 1 < (l0.length : Int)
   ·rw [if_pos c8] at H; have c8b0 := decide_eq_true c8; have c8b1 : decide (1 < l0.length) = true := decide_eq_true (by omega); clear c8; replace H := Option.bind_eq_some_iff.mp H; obtain ⟨t729, A90, H⟩ := H; have A9 := Aside0.mk A90; clear A90; have H' := Aside0.mk H; clear H; have p728 : 0 ≤ (1 : Int) := (by omega)
    have q728 : 1 < (l0.length : Int) := od; obtain ⟨ad728, e728, hx728_0⟩ := Kd.at_string HR0.out 1 p728 q728; cases e728
    (try simp only [show (1 : Int).toNat = 1 from rfl, Nat.reduceMul, Nat.reduceEqDiff, Go.Addr.add, ↓reduceIte] at hx728_0)
    have qi728 : (1 < l0.length) = True := eq_true (by omega)
    (try rw [show ((1 : Int)).toNat = 1 from rfl] at hx728_0)
    replace hx728_0 := (HB.out.cell (World.block_lt_of_cell? w _ hx728_0)).trans hx728_0; replace p728 := eq_true p728; replace q728 := eq_true q728
    go_wp2_with (first | (go_at_call 97; (with_reducible refine (roster_Mode.calls k (rdOf ByteArray.empty l0 1) t729 _ A9.out).mono ?_); rintro e w' ⟨rfl, ⟨nd, rfl⟩⟩))
    go_meet
    case rel => exact ⟨_, ((t729 != 0)), cl, H', ⟨by first | omega | exact Nat.le_refl _⟩, ⟨bk⟩, ⟨bwS⟩⟩
   rw [if_neg c8] at H; exact absurd H (by simp)
  rw [if_neg c7] at H; have c7b0 := beq_eq_false_iff_ne.mpr c7; have c7b1 := bne_iff_ne.mpr c7
  (first | rw [c7b0] | (simp only [i64_w, i32_w]; rw [c7b0]) | skip)
  have H' := Aside0.mk H; clear H
  go_wp2
  go_meet
  case rel => exact ⟨_, (false), cl, H', ⟨by first | omega | exact Nat.le_refl _⟩, ⟨bk⟩, ⟨bwS⟩⟩
 case rest =>
  clear HC5
  try clear c2
  try clear c2b0
  try clear c2b1
  try clear p2
  try clear c7
  try clear c7b0
  try clear c7b1
  try clear p7
  try clear q7
  try clear hx7
  try clear qi7
  try clear c8
  try clear c8b0
  try clear c8b1
  try clear c9
  try clear hcz4_0
  try clear hcz4_1
  try clear hcz4_2
  try clear hfz4_0
  try clear hfz4_1
  try clear hfz4_2
  try clear hx728_0
  try clear p728
  try clear q728
  obtain ⟨kq, x8_4, rfl, HA, HJ4, BK727, HB⟩ := hcut; cases kq with
  | zero => exact absurd HA.out (by simp [order_join.j0])
  | succ kj4 =>
   have H := HA.out; clear HA; simp only [order_join.j0] at H
   by_cases c10 : x8_4 = true
   ·subst c10; rw [if_pos rfl] at H
    by_cases c11 : 1 < (l0.length : Int)
    ·rw [if_pos c11] at H; have c11b0 := decide_eq_true c11; have c11b1 : decide (1 < l0.length) = true := decide_eq_true (by omega); clear c11; replace H := Option.bind_eq_some_iff.mp H; obtain ⟨t731, A120, H⟩ := H; have A12 := Aside0.mk A120; clear A120; simp only [Option.some.injEq, Prod.mk.injEq] at H; obtain ⟨rfl, rfl, rfl⟩ := H; have p730 : 0 ≤ (1 : Int) := (by omega)
     have q730 : 1 < (l0.length : Int) := od; obtain ⟨ad730, e730, hx730_0⟩ := Kd.at_string HR0.out 1 p730 q730; cases e730
     (try simp only [show (1 : Int).toNat = 1 from rfl, Nat.reduceMul, Nat.reduceEqDiff, Go.Addr.add, ↓reduceIte] at hx730_0)
     have qi730 : (1 < l0.length) = True := eq_true (by omega)
     (try rw [show ((1 : Int)).toNat = 1 from rfl] at hx730_0)
     replace hx730_0 := (HB.out.cell (World.block_lt_of_cell? w _ hx730_0)).trans hx730_0; replace p730 := eq_true p730; replace q730 := eq_true q730
     go_wp2_with (first | ((with_reducible refine gate_callee (f := 97) rfl ?_); refine goesL_ (some 22) rfl rfl Tryz.func97 (by kernel_rfl) rfl #[.string (rdOf ByteArray.empty l0 1)] rfl am ?_; (with_reducible refine (roster_Mode.calls kj4 (rdOf ByteArray.empty l0 1) t731 _ A12.out).mono ?_); rintro e w' ⟨rfl, ⟨nd, rfl⟩⟩; refine ⟨_, rfl, ?_⟩; (try (rw [drewN_self wc]; generalize hq_ : World.drewN wc _ = wc; have n0_ : Aside0 (wc.heap[gb727]? = some (.cells #[.int .i64 0, .int .i64 0, .string (⟨#[]⟩ : ByteArray)] 63 (0, 0))) := ⟨by rw [← hq_]; exact bk⟩; have n1_ : Aside0 (Below w.heap.size w wc) := ⟨by rw [← hq_]; exact bwS⟩; clear BK727 HB hq_; have BK727 := n0_; have HB := n1_; clear n0_ n1_)); have hcz13_0 : wc.cell? ⟨gb727, 0, none⟩ = some (.int .i64 0) := (blk_cell BK727.out 0).trans rfl; have hcz13_1 : wc.cell? ⟨gb727, 1, none⟩ = some (.int .i64 0) := (blk_cell BK727.out 1).trans rfl; have hcz13_2 : wc.cell? ⟨gb727, 2, none⟩ = some (.string (⟨#[]⟩ : ByteArray)) := (blk_cell BK727.out 2).trans rfl; have hfz13_0 := blk_frozen BK727.out 0; have hfz13_1 := blk_frozen BK727.out 1; have hfz13_2 := blk_frozen BK727.out 2))
     refine bodyPost_ret (results_cell_row rfl _ _ gb727 63 #[.int .i64 2, .int .i64 t731, .string (⟨#[]⟩ : ByteArray)] (0, 0) _ rfl (by (with_reducible repeat (first | refine blk_drewN ?_ _ | refine blk_drew ?_ | refine blk_alloc ?_ _)); refine blk_put (cs := #[.int .i64 2, .int .i64 t731, .string (⟨#[]⟩ : ByteArray)]) ?_ 2 _ rfl; (with_reducible repeat (first | refine blk_drewN ?_ _ | refine blk_drew ?_ | refine blk_alloc ?_ _)); refine blk_put (cs := #[.int .i64 2, .int .i64 0, .string (⟨#[]⟩ : ByteArray)]) ?_ 1 _ rfl; (with_reducible repeat (first | refine blk_drewN ?_ _ | refine blk_drew ?_ | refine blk_alloc ?_ _)); exact blk_put (cs := #[.int .i64 0, .int .i64 0, .string (⟨#[]⟩ : ByteArray)]) bk 0 _ rfl) Tryz.underlying63 rfl (by kernel_rfl)) rfl ?_; exact ⟨ew, bwS⟩
    rw [if_neg c11] at H; exact absurd H (by simp)
   replace c10 := Bool.eq_false_iff.mpr c10; subst c10; rw [if_neg nft] at H; replace H := Option.bind_eq_some_iff.mp H; obtain ⟨⟨t732, t733, t734⟩, A140, H⟩ := H; replace H : (some (t732, t733, t734)) = some (r1, r2, r3) := H; have A14 := Aside0.mk A140; clear A140; simp only [Option.some.injEq, Prod.mk.injEq] at H; obtain ⟨rfl, rfl, rfl⟩ := H
   go_wp2_with (first | ((with_reducible refine gate_callee (f := 95) rfl ?_); refine goesL_ (some 25) rfl rfl Tryz.func95 (by kernel_rfl) rfl #[.slice A0 l0.length c0] rfl am ?_; (with_reducible refine (order_unknown.calls _ _ l0 t732 t733 t734 _ ?side1 ?side2 A14.out).mono ?_); (case side1 => repeat (first | exact (Kd.C_below HR0.out HB.out) | (with_reducible refine Kd.C_alloc ?_ _) | (with_reducible refine Kd.C_drewN ?_ _) | (with_reducible refine Kd.C_drew ?_))); (case side2 => exact HC0.out); rintro e w15 ⟨rfl, hb⟩; refine ⟨_, rfl, ?_⟩; have n0_ := Aside0.mk (blk_below (g := gb727) (o := .cells #[.int .i64 0, .int .i64 0, .string (⟨#[]⟩ : ByteArray)] 63 (0, 0)) bk hb); have n1_ := Aside0.mk (below_step bwS hb); clear BK727; clear HB; have BK727 := n0_; have HB := n1_; clear n0_ n1_; (try clear hb); (try clear hb2); (try clear hk); (try clear hi); have hcz16_0 : w15.cell? ⟨gb727, 0, none⟩ = some (.int .i64 0) := (blk_cell BK727.out 0).trans rfl; have hcz16_1 : w15.cell? ⟨gb727, 1, none⟩ = some (.int .i64 0) := (blk_cell BK727.out 1).trans rfl; have hcz16_2 : w15.cell? ⟨gb727, 2, none⟩ = some (.string (⟨#[]⟩ : ByteArray)) := (blk_cell BK727.out 2).trans rfl; have hfz16_0 := blk_frozen BK727.out 0; have hfz16_1 := blk_frozen BK727.out 1; have hfz16_2 := blk_frozen BK727.out 2))
   refine bodyPost_ret (results_cell_row rfl _ _ gb727 63 #[.int .i64 t732, .int .i64 t733, .string t734] (0, 0) _ rfl (by (with_reducible repeat (first | refine blk_drewN ?_ _ | refine blk_drew ?_ | refine blk_alloc ?_ _)); refine blk_put (cs := #[.int .i64 t732, .int .i64 t733, .string (⟨#[]⟩ : ByteArray)]) ?_ 2 _ rfl; (with_reducible repeat (first | refine blk_drewN ?_ _ | refine blk_drew ?_ | refine blk_alloc ?_ _)); refine blk_put (cs := #[.int .i64 t732, .int .i64 0, .string (⟨#[]⟩ : ByteArray)]) ?_ 1 _ rfl; (with_reducible repeat (first | refine blk_drewN ?_ _ | refine blk_drew ?_ | refine blk_alloc ?_ _)); exact blk_put (cs := #[.int .i64 0, .int .i64 0, .string (⟨#[]⟩ : ByteArray)]) bk 0 _ rfl) Tryz.underlying63 rfl (by kernel_rfl)) rfl ?_; exact ⟨ew, bwS⟩

end Go.Proofs.YtihabmcaplnbcaaGreatDoor.Fn
namespace Go.Proofs.YtihabmcaplnbcaaGreatDoor.Fn
open Go.RowKit Go.Proofs.YtihabmcaplnbcaaGreatDoorW.PrintWords Go.Proofs.YtihabmcaplnbcaaGreatDoorW.PrintLast Go.Proofs.YtihabmcaplnbcaaGreatDoorW.PrintMore
attribute [local go_sem] max2_int min2_int max_two min_two max_three min_three max_four min_four
set_option linter.unusedVariables false
set_option linter.unusedSimpArgs false

mutual
def order_command.j0 : Nat → List ByteArray → Bool → ByteArray → Bool → Option (Int × Int × ByteArray)
 | 0, _, _, _, _ => none
 | k + 1, x0, x3, x14, x15 => if x15 = true then (if x3 = true then (some (1, 0, (⟨#[]⟩ : ByteArray))) else ((order_unknown.f x0).bind fun bt740 => (some (bt740.1, bt740.2.1, bt740.2.2)))) else (if x14.toList = ([106, 111, 105, 110] : List UInt8) then (order_command.j1 k x0 x3 x14 (x14.toList == ([106, 111, 105, 110] : List UInt8))) else (order_command.j1 k x0 x3 x14 (x14.toList == ([115, 117, 98, 115, 99, 114, 105, 98, 101] : List UInt8))))
def order_command.j1 : Nat → List ByteArray → Bool → ByteArray → Bool → Option (Int × Int × ByteArray)
 | 0, _, _, _, _ => none
 | k + 1, x0, x3, x14, x20 => if x20 = true then ((order_join.f k x0).bind fun bt743 => (some (bt743.1, bt743.2.1, bt743.2.2))) else (if x14.toList = ([108, 101, 97, 118, 101] : List UInt8) then (order_command.j2 k x0 x3 x14 (x14.toList == ([108, 101, 97, 118, 101] : List UInt8))) else (if x14.toList = ([117, 110, 115, 117, 98, 115, 99, 114, 105, 98, 101] : List UInt8) then (order_command.j2 k x0 x3 x14 (x14.toList == ([117, 110, 115, 117, 98, 115, 99, 114, 105, 98, 101] : List UInt8))) else (order_command.j2 k x0 x3 x14 (x14.toList == ([114, 101, 109, 111, 118, 101] : List UInt8)))))
def order_command.j2 : Nat → List ByteArray → Bool → ByteArray → Bool → Option (Int × Int × ByteArray)
 | 0, _, _, _, _ => none
 | k + 1, x0, x3, x14, x25 => if x25 = true then (if x3 = true then (some (3, 0, (⟨#[]⟩ : ByteArray))) else ((order_unknown.f x0).bind fun bt746 => (some (bt746.1, bt746.2.1, bt746.2.2)))) else (if x14.toList = ([115, 101, 116] : List UInt8) then (if (x0.length : Int) = 2 then (if 1 < (x0.length : Int) then ((roster_Mode.f k (rdOf ByteArray.empty x0 1)).bind fun t750 => (order_command.j3 k x0 (t750 != 0))) else (none)) else (order_command.j3 k x0 false)) else ((order_unknown.f x0).bind fun bt756 => (some (bt756.1, bt756.2.1, bt756.2.2))))
def order_command.j3 : Nat → List ByteArray → Bool → Option (Int × Int × ByteArray)
 | 0, _, _ => none
 | k + 1, x0, x42 => if x42 = true then (if 1 < (x0.length : Int) then ((roster_Mode.f k (rdOf ByteArray.empty x0 1)).bind fun t752 => (some (4, t752, (⟨#[]⟩ : ByteArray)))) else (none)) else ((order_unknown.f x0).bind fun bt753 => (some (bt753.1, bt753.2.1, bt753.2.2)))
end
def order_command.f (k : Nat) (l0 : List ByteArray) : Option (Int × Int × ByteArray) := if (l0.length : Int) = 0 then ((order_unknown.f l0).bind fun bt736 => (some (bt736.1, bt736.2.1, bt736.2.2))) else (if 0 < (l0.length : Int) then (if (rdOf ByteArray.empty l0 0).toList = ([104, 101, 108, 112] : List UInt8) then (order_command.j0 k l0 ((l0.length : Int) == 1) (rdOf ByteArray.empty l0 0) ((rdOf ByteArray.empty l0 0).toList == ([104, 101, 108, 112] : List UInt8))) else (order_command.j0 k l0 ((l0.length : Int) == 1) (rdOf ByteArray.empty l0 0) ((rdOf ByteArray.empty l0 0).toList == ([105, 110, 102, 111] : List UInt8)))) else (none))
set_option maxHeartbeats 8000000 in
set_option maxRecDepth 100000 in
theorem order_command.calls (k : Nat) (A0 : Option Addr) (c0 : Nat) (l0 : List ByteArray) (r1 : Int) (r2 : Int) (r3 : ByteArray) (w : World) (hr0 : Kd.C Kd.string w A0 l0.length l0) (hc0 : l0.length ≤ c0) (h : order_command.f k l0 = some (r1, r2, r3)) :
  Calls Tryz.prog 58 #[.slice A0 l0.length c0] w fun e w' => e = .returned (.agg #[.int .i64 r1, .int .i64 r2, .string r3]) ∧ Below w.heap.size w w' := by
 have hu63 := Tryz.underlying63; have HR0 := Aside0.mk hr0; have HC0 := Aside0.mk hc0; clear hr0 hc0; have HB := Aside0.mk (Below.refl w.heap.size w); have H : (if (l0.length : Int) = 0 then ((order_unknown.f l0).bind fun bt736 => (some (bt736.1, bt736.2.1, bt736.2.2))) else (if 0 < (l0.length : Int) then (if (rdOf ByteArray.empty l0 0).toList = ([104, 101, 108, 112] : List UInt8) then (order_command.j0 k l0 ((l0.length : Int) == 1) (rdOf ByteArray.empty l0 0) ((rdOf ByteArray.empty l0 0).toList == ([104, 101, 108, 112] : List UInt8))) else (order_command.j0 k l0 ((l0.length : Int) == 1) (rdOf ByteArray.empty l0 0) ((rdOf ByteArray.empty l0 0).toList == ([105, 110, 102, 111] : List UInt8)))) else (none))) = some (r1, r2, r3) := h; clear h
 by_cases c2 : (l0.length : Int) = 0
 ·rw [if_pos c2] at H; have c2b0 := beq_iff_eq.mpr c2; have c2b1 := bne_eq_false_iff_eq.mpr c2; clear c2; replace H := Option.bind_eq_some_iff.mp H; obtain ⟨⟨t736, t737, t738⟩, A30, H⟩ := H; replace H : (some (t736, t737, t738)) = some (r1, r2, r3) := H; have A3 := Aside0.mk A30; clear A30; simp only [Option.some.injEq, Prod.mk.injEq] at H; obtain ⟨rfl, rfl, rfl⟩ := H
  go_enter Tryz.func58, Tryz.ntmps58
  go_wp2_with (first | ((with_reducible refine gate_dst (N := 2) rfl ?_); refine box_event ?hg (N := 2) ?hd (cs := #[.int .i64 0, .int .i64 0, .string (⟨#[]⟩ : ByteArray)]) (t := 63) ?hr ?_; (case hd => rfl); (case hg => rfl); (case hr => first | (go_simp; done) | (go_simp; rfl)); intro gb735 hg w4 hbox hb; have n0_ := Aside0.mk (below_step bw hb); have n1_ := Aside0.mk (hbox); have n2_ := Aside0.mk ((by rw [hg]; exact (below_size bw) : w.heap.size ≤ gb735)); have n3_ := Aside0.mk ((by rw [hg]; exact (below_size bw) : w.heap.size ≤ gb735)); clear HB; have HB := n0_; have BK735 := n1_; have GW735 := n2_; have GE735 := n3_; clear n0_ n1_ n2_ n3_; clear hb hbox hg) | ((with_reducible refine gate_callee (f := 95) rfl ?_); refine goesL_ (some 8) rfl rfl Tryz.func95 (by kernel_rfl) rfl #[.slice A0 l0.length c0] rfl am ?_; (with_reducible refine (order_unknown.calls _ _ l0 t736 t737 t738 _ ?side1 ?side2 A3.out).mono ?_); (case side1 => repeat (first | exact (Kd.C_below HR0.out HB.out) | (with_reducible refine Kd.C_alloc ?_ _) | (with_reducible refine Kd.C_drewN ?_ _) | (with_reducible refine Kd.C_drew ?_))); (case side2 => exact HC0.out); rintro e w5 ⟨rfl, hb⟩; refine ⟨_, rfl, ?_⟩; have n0_ := Aside0.mk (blk_below (g := gb735) (o := .cells #[.int .i64 0, .int .i64 0, .string (⟨#[]⟩ : ByteArray)] 63 (0, 0)) bk hb); have n1_ := Aside0.mk (below_step bwS hb); clear BK735; clear HB; have BK735 := n0_; have HB := n1_; clear n0_ n1_; (try clear hb); (try clear hb2); (try clear hk); (try clear hi); have hcz6_0 : w5.cell? ⟨gb735, 0, none⟩ = some (.int .i64 0) := (blk_cell BK735.out 0).trans rfl; have hcz6_1 : w5.cell? ⟨gb735, 1, none⟩ = some (.int .i64 0) := (blk_cell BK735.out 1).trans rfl; have hcz6_2 : w5.cell? ⟨gb735, 2, none⟩ = some (.string (⟨#[]⟩ : ByteArray)) := (blk_cell BK735.out 2).trans rfl; have hfz6_0 := blk_frozen BK735.out 0; have hfz6_1 := blk_frozen BK735.out 1; have hfz6_2 := blk_frozen BK735.out 2))
  refine bodyPost_ret (results_cell_row rfl _ _ gb735 63 #[.int .i64 t736, .int .i64 t737, .string t738] (0, 0) _ rfl (by (with_reducible repeat (first | refine blk_drewN ?_ _ | refine blk_drew ?_ | refine blk_alloc ?_ _)); refine blk_put (cs := #[.int .i64 t736, .int .i64 t737, .string (⟨#[]⟩ : ByteArray)]) ?_ 2 _ rfl; (with_reducible repeat (first | refine blk_drewN ?_ _ | refine blk_drew ?_ | refine blk_alloc ?_ _)); refine blk_put (cs := #[.int .i64 t736, .int .i64 0, .string (⟨#[]⟩ : ByteArray)]) ?_ 1 _ rfl; (with_reducible repeat (first | refine blk_drewN ?_ _ | refine blk_drew ?_ | refine blk_alloc ?_ _)); exact blk_put (cs := #[.int .i64 0, .int .i64 0, .string (⟨#[]⟩ : ByteArray)]) bk 0 _ rfl) Tryz.underlying63 rfl (by kernel_rfl)) rfl ?_; exact ⟨ew, bwS⟩
 rw [if_neg c2] at H; have c2b0 := beq_eq_false_iff_ne.mpr c2; have c2b1 := bne_iff_ne.mpr c2; have c2b2 : ¬ (l0 = []) := fun h_ => c2 (by rw [h_]; rfl)
 by_cases c7 : 0 < (l0.length : Int)
 ·rw [if_pos c7] at H; have c7b0 := decide_eq_true c7; have c7b1 : decide (0 < l0.length) = true := decide_eq_true (by omega); clear c7; have HC8 := Aside0.mk H; clear H
  go_enter Tryz.func58, Tryz.ntmps58
  go_upto_if 15 with (first | ((with_reducible refine gate_dst (N := 2) rfl ?_); refine box_event ?hg (N := 2) ?hd (cs := #[.int .i64 0, .int .i64 0, .string (⟨#[]⟩ : ByteArray)]) (t := 63) ?hr ?_; (case hd => rfl); (case hg => rfl); (case hr => first | (go_simp; done) | (go_simp; rfl)); intro gb735 hg w9 hbox hb; have n0_ := Aside0.mk (below_step bw hb); have n1_ := Aside0.mk (hbox); have n2_ := Aside0.mk ((by rw [hg]; exact (below_size bw) : w.heap.size ≤ gb735)); have n3_ := Aside0.mk ((by rw [hg]; exact (below_size bw) : w.heap.size ≤ gb735)); clear HB; have HB := n0_; have BK735 := n1_; have GW735 := n2_; have GE735 := n3_; clear n0_ n1_ n2_ n3_; clear hb hbox hg; have p739 : 0 ≤ (0 : Int) := (by omega); have q739 : 0 < (l0.length : Int) := od; obtain ⟨ad739, e739, hx739_0⟩ := Kd.at_string HR0.out 0 p739 q739; cases e739; have qi739 : (0 < l0.length) = True := eq_true (by omega); (try rw [show ((0 : Int)).toNat = 0 from rfl] at hx739_0); (try rw [Addr.add_zero'] at hx739_0); replace hx739_0 := (HB.out.cell (World.block_lt_of_cell? w _ hx739_0)).trans hx739_0; replace p739 := eq_true p739; replace q739 := eq_true q739))
  (try simp only [Act.put, List.setIfInBounds_toArray, List.set_cons_zero, List.set_cons_succ])
  go_cut [15] (fun v15 wc => ∃ (kq : Nat) (x15_7 : Bool), v15 = .bool x15_7 ∧ Aside0 (order_command.j0 kq l0 ((l0.length : Int) == 1) (rdOf ByteArray.empty l0 0) x15_7 = some (r1, r2, r3)) ∧ Aside0 (kq ≤ k) ∧ Aside0 (wc.heap[gb735]? = some (.cells #[.int .i64 0, .int .i64 0, .string (⟨#[]⟩ : ByteArray)] 63 (0, 0))) ∧ Aside0 (Below w.heap.size w wc))
  case first =>
   have H := HC8.out; clear HC8
   by_cases c10 : (rdOf ByteArray.empty l0 0).toList = ([104, 101, 108, 112] : List UInt8)
   ·rw [if_pos c10] at H; have c10b0 := beq_iff_eq.mpr c10; have c10b1 := bne_eq_false_iff_eq.mpr c10; clear c10
    (first | rw [c10b0] | (simp only [i64_w, i32_w]; rw [c10b0]) | skip)
    have H' := Aside0.mk H; clear H
    go_wp2
    go_meet
    case rel => exact ⟨_, (((rdOf ByteArray.empty l0 0).toList == ([104, 101, 108, 112] : List UInt8))), cl, H', ⟨by first | omega | exact Nat.le_refl _⟩, ⟨bk⟩, ⟨bwS⟩⟩
   rw [if_neg c10] at H; have c10b0 := beq_eq_false_iff_ne.mpr c10; have c10b1 := bne_iff_ne.mpr c10
   (first | rw [c10b0] | (simp only [i64_w, i32_w]; rw [c10b0]) | skip)
   have H' := Aside0.mk H; clear H
   go_wp2
   go_meet
   case rel => exact ⟨_, (((rdOf ByteArray.empty l0 0).toList == ([105, 110, 102, 111] : List UInt8))), cl, H', ⟨by first | omega | exact Nat.le_refl _⟩, ⟨bk⟩, ⟨bwS⟩⟩
  case rest =>
   clear HC8
   try clear c1
   try clear c2
   try clear c2b0
   try clear c2b1
   try clear c2b2
   try clear p2
   try clear c5
   try clear c7
   try clear c7b0
   try clear c7b1
   try clear p7
   try clear q7
   try clear hx7
   try clear qi7
   try clear c9
   try clear c10
   try clear c10b0
   try clear c10b1
   try clear hcz6_0
   try clear hcz6_1
   try clear hcz6_2
   try clear hfz6_0
   try clear hfz6_1
   try clear hfz6_2
   try clear hx739_0
   try clear p739
   try clear q739
   obtain ⟨kq, x15_7, rfl, HA, HJ7, BK735, HB⟩ := hcut; cases kq with
   | zero => exact absurd HA.out (by simp [order_command.j0])
   | succ kj7 =>
    have H := HA.out; clear HA; simp only [order_command.j0] at H
    by_cases c11 : x15_7 = true
    ·subst c11; rw [if_pos rfl] at H
     by_cases c12 : ((l0.length : Int) == 1) = true
     ·rw [if_pos c12] at H; have c12b0 : ((l0.length : Int) == 1) = true := c12
      (try (have c12b1 : decide ((l0.length : Int) = 1) = true := by simpa using c12))
      (try (have c12b2 : ((l0.length : Int) == 1) = true := by simpa using c12))
      clear c12; simp only [Option.some.injEq, Prod.mk.injEq] at H; obtain ⟨rfl, rfl, rfl⟩ := H; obtain ⟨hcz13_0, hcz13_1, hcz13_2, hfz13_0, hfz13_1, hfz13_2⟩ := bk3 BK735.out
      go_wp2
      refine bodyPost_ret (results_cell_row rfl _ _ gb735 63 #[.int .i64 1, .int .i64 0, .string (⟨#[]⟩ : ByteArray)] (0, 0) _ rfl (by (with_reducible repeat (first | refine blk_drewN ?_ _ | refine blk_drew ?_ | refine blk_alloc ?_ _)); refine blk_put (cs := #[.int .i64 1, .int .i64 0, .string (⟨#[]⟩ : ByteArray)]) ?_ 2 _ rfl; (with_reducible repeat (first | refine blk_drewN ?_ _ | refine blk_drew ?_ | refine blk_alloc ?_ _)); refine blk_put (cs := #[.int .i64 1, .int .i64 0, .string (⟨#[]⟩ : ByteArray)]) ?_ 1 _ rfl; (with_reducible repeat (first | refine blk_drewN ?_ _ | refine blk_drew ?_ | refine blk_alloc ?_ _)); exact blk_put (cs := #[.int .i64 0, .int .i64 0, .string (⟨#[]⟩ : ByteArray)]) bk 0 _ rfl) Tryz.underlying63 rfl (by kernel_rfl)) rfl ?_; exact ⟨ew, bwS⟩
     rw [if_neg c12] at H; have c12b0 : ((l0.length : Int) == 1) = false := by simpa using c12
     (try (have c12b1 : decide ((l0.length : Int) = 1) = false := by simpa using c12))
     (try (have c12b2 : ((l0.length : Int) == 1) = false := by simpa using c12))
     (try (have c12b3 : ¬ ((l0.length : Int) = 1) := by simpa using c12))
     clear c12; replace H := Option.bind_eq_some_iff.mp H; obtain ⟨⟨t740, t741, t742⟩, A140, H⟩ := H; replace H : (some (t740, t741, t742)) = some (r1, r2, r3) := H; have A14 := Aside0.mk A140; clear A140; simp only [Option.some.injEq, Prod.mk.injEq] at H; obtain ⟨rfl, rfl, rfl⟩ := H
     go_wp2_with (first | ((with_reducible refine gate_callee (f := 95) rfl ?_); refine goesL_ (some 49) rfl rfl Tryz.func95 (by kernel_rfl) rfl #[.slice (some ad739) l0.length c0] rfl am ?_; (with_reducible refine (order_unknown.calls _ _ l0 t740 t741 t742 _ ?side1 ?side2 A14.out).mono ?_); (case side1 => repeat (first | exact (Kd.C_below HR0.out HB.out) | (with_reducible refine Kd.C_alloc ?_ _) | (with_reducible refine Kd.C_drewN ?_ _) | (with_reducible refine Kd.C_drew ?_))); (case side2 => exact HC0.out); rintro e w15 ⟨rfl, hb⟩; refine ⟨_, rfl, ?_⟩; have n0_ := Aside0.mk (blk_below (g := gb735) (o := .cells #[.int .i64 0, .int .i64 0, .string (⟨#[]⟩ : ByteArray)] 63 (0, 0)) bk hb); have n1_ := Aside0.mk (below_step bwS hb); clear BK735; clear HB; have BK735 := n0_; have HB := n1_; clear n0_ n1_; (try clear hb); (try clear hb2); (try clear hk); (try clear hi); have hcz16_0 : w15.cell? ⟨gb735, 0, none⟩ = some (.int .i64 0) := (blk_cell BK735.out 0).trans rfl; have hcz16_1 : w15.cell? ⟨gb735, 1, none⟩ = some (.int .i64 0) := (blk_cell BK735.out 1).trans rfl; have hcz16_2 : w15.cell? ⟨gb735, 2, none⟩ = some (.string (⟨#[]⟩ : ByteArray)) := (blk_cell BK735.out 2).trans rfl; have hfz16_0 := blk_frozen BK735.out 0; have hfz16_1 := blk_frozen BK735.out 1; have hfz16_2 := blk_frozen BK735.out 2))
     refine bodyPost_ret (results_cell_row rfl _ _ gb735 63 #[.int .i64 t740, .int .i64 t741, .string t742] (0, 0) _ rfl (by (with_reducible repeat (first | refine blk_drewN ?_ _ | refine blk_drew ?_ | refine blk_alloc ?_ _)); refine blk_put (cs := #[.int .i64 t740, .int .i64 t741, .string (⟨#[]⟩ : ByteArray)]) ?_ 2 _ rfl; (with_reducible repeat (first | refine blk_drewN ?_ _ | refine blk_drew ?_ | refine blk_alloc ?_ _)); refine blk_put (cs := #[.int .i64 t740, .int .i64 0, .string (⟨#[]⟩ : ByteArray)]) ?_ 1 _ rfl; (with_reducible repeat (first | refine blk_drewN ?_ _ | refine blk_drew ?_ | refine blk_alloc ?_ _)); exact blk_put (cs := #[.int .i64 0, .int .i64 0, .string (⟨#[]⟩ : ByteArray)]) bk 0 _ rfl) Tryz.underlying63 rfl (by kernel_rfl)) rfl ?_; exact ⟨ew, bwS⟩
    replace c11 := Bool.eq_false_iff.mpr c11; subst c11; rw [if_neg nft] at H; have HC17 := Aside0.mk H; clear H
    go_upto_if 20 with (fail)
    go_cut [20] (fun v20 wc => ∃ (kq : Nat) (x20_16 : Bool), v20 = .bool x20_16 ∧ Aside0 (order_command.j1 kq l0 ((l0.length : Int) == 1) (rdOf ByteArray.empty l0 0) x20_16 = some (r1, r2, r3)) ∧ Aside0 (kq ≤ kj7) ∧ Aside0 (wc.heap[gb735]? = some (.cells #[.int .i64 0, .int .i64 0, .string (⟨#[]⟩ : ByteArray)] 63 (0, 0))) ∧ Aside0 (Below w.heap.size w wc))
    case first =>
     have H := HC17.out; clear HC17
     by_cases c18 : (rdOf ByteArray.empty l0 0).toList = ([106, 111, 105, 110] : List UInt8)
     ·rw [if_pos c18] at H; have c18b0 := beq_iff_eq.mpr c18; have c18b1 := bne_eq_false_iff_eq.mpr c18; clear c18
      (first | rw [c18b0] | (simp only [i64_w, i32_w]; rw [c18b0]) | skip)
      have H' := Aside0.mk H; clear H
      go_wp2
      go_meet
      case rel => exact ⟨_, (((rdOf ByteArray.empty l0 0).toList == ([106, 111, 105, 110] : List UInt8))), cl, H', ⟨by have := HJ7.out; first | omega | exact Nat.le_refl _⟩, ⟨bk⟩, ⟨bwS⟩⟩
     rw [if_neg c18] at H; have c18b0 := beq_eq_false_iff_ne.mpr c18; have c18b1 := bne_iff_ne.mpr c18
     (first | rw [c18b0] | (simp only [i64_w, i32_w]; rw [c18b0]) | skip)
     have H' := Aside0.mk H; clear H
     go_wp2
     go_meet
     case rel => exact ⟨_, (((rdOf ByteArray.empty l0 0).toList == ([115, 117, 98, 115, 99, 114, 105, 98, 101] : List UInt8))), cl, H', ⟨by have := HJ7.out; first | omega | exact Nat.le_refl _⟩, ⟨bk⟩, ⟨bwS⟩⟩
    case rest =>
     clear HC17
     try clear c1
     try clear c2
     try clear c2b0
     try clear c2b1
     try clear c2b2
     try clear p2
     try clear c5
     try clear c7
     try clear c7b0
     try clear c7b1
     try clear p7
     try clear q7
     try clear hx7
     try clear qi7
     try clear c9
     try clear c10
     try clear c10b0
     try clear c10b1
     try clear c11
     try clear c12
     try clear c12b0
     try clear c12b1
     try clear c12b2
     try clear c18
     try clear c18b0
     try clear c18b1
     try clear hcz13_0
     try clear hcz13_1
     try clear hcz13_2
     try clear hcz16_0
     try clear hcz16_1
     try clear hcz16_2
     try clear hcz6_0
     try clear hcz6_1
     try clear hcz6_2
     try clear hfz13_0
     try clear hfz13_1
     try clear hfz13_2
     try clear hfz16_0
     try clear hfz16_1
     try clear hfz16_2
     try clear hfz6_0
     try clear hfz6_1
     try clear hfz6_2
     try clear hx739_0
     try clear p2
     try clear p7
     try clear p739
     try clear q7
     try clear q739
     obtain ⟨kq, x20_16, rfl, HA, HJ16, BK735, HB⟩ := hcut; cases kq with
     | zero => exact absurd HA.out (by simp [order_command.j1])
     | succ kj16 =>
      have H := HA.out; clear HA; simp only [order_command.j1] at H
      by_cases c19 : x20_16 = true
      ·subst c19; rw [if_pos rfl] at H; replace H := Option.bind_eq_some_iff.mp H; obtain ⟨⟨t743, t744, t745⟩, A200, H⟩ := H; replace H : (some (t743, t744, t745)) = some (r1, r2, r3) := H; have A20 := Aside0.mk A200; clear A200; simp only [Option.some.injEq, Prod.mk.injEq] at H; obtain ⟨rfl, rfl, rfl⟩ := H
       go_wp2_with (first | ((with_reducible refine gate_callee (f := 96) rfl ?_); refine goesL_ (some 24) rfl rfl Tryz.func96 (by kernel_rfl) rfl #[.slice (some ad739) l0.length c0] rfl am ?_; (with_reducible refine (order_join.calls kj16 _ _ l0 t743 t744 t745 _ ?side1 ?side2 A20.out).mono ?_); (case side1 => repeat (first | exact (Kd.C_below HR0.out HB.out) | (with_reducible refine Kd.C_alloc ?_ _) | (with_reducible refine Kd.C_drewN ?_ _) | (with_reducible refine Kd.C_drew ?_))); (case side2 => exact HC0.out); rintro e w21 ⟨rfl, hb⟩; refine ⟨_, rfl, ?_⟩; have n0_ := Aside0.mk (blk_below (g := gb735) (o := .cells #[.int .i64 0, .int .i64 0, .string (⟨#[]⟩ : ByteArray)] 63 (0, 0)) bk hb); have n1_ := Aside0.mk (below_step bwS hb); clear BK735; clear HB; have BK735 := n0_; have HB := n1_; clear n0_ n1_; (try clear hb); (try clear hb2); (try clear hk); (try clear hi); have hcz22_0 : w21.cell? ⟨gb735, 0, none⟩ = some (.int .i64 0) := (blk_cell BK735.out 0).trans rfl; have hcz22_1 : w21.cell? ⟨gb735, 1, none⟩ = some (.int .i64 0) := (blk_cell BK735.out 1).trans rfl; have hcz22_2 : w21.cell? ⟨gb735, 2, none⟩ = some (.string (⟨#[]⟩ : ByteArray)) := (blk_cell BK735.out 2).trans rfl; have hfz22_0 := blk_frozen BK735.out 0; have hfz22_1 := blk_frozen BK735.out 1; have hfz22_2 := blk_frozen BK735.out 2))
       refine bodyPost_ret (results_cell_row rfl _ _ gb735 63 #[.int .i64 t743, .int .i64 t744, .string t745] (0, 0) _ rfl (by (with_reducible repeat (first | refine blk_drewN ?_ _ | refine blk_drew ?_ | refine blk_alloc ?_ _)); refine blk_put (cs := #[.int .i64 t743, .int .i64 t744, .string (⟨#[]⟩ : ByteArray)]) ?_ 2 _ rfl; (with_reducible repeat (first | refine blk_drewN ?_ _ | refine blk_drew ?_ | refine blk_alloc ?_ _)); refine blk_put (cs := #[.int .i64 t743, .int .i64 0, .string (⟨#[]⟩ : ByteArray)]) ?_ 1 _ rfl; (with_reducible repeat (first | refine blk_drewN ?_ _ | refine blk_drew ?_ | refine blk_alloc ?_ _)); exact blk_put (cs := #[.int .i64 0, .int .i64 0, .string (⟨#[]⟩ : ByteArray)]) bk 0 _ rfl) Tryz.underlying63 rfl (by kernel_rfl)) rfl ?_; exact ⟨ew, bwS⟩
      replace c19 := Bool.eq_false_iff.mpr c19; subst c19; rw [if_neg nft] at H; have HC23 := Aside0.mk H; clear H
      go_upto_if 25 with (fail)
      go_cut [25] (fun v25 wc => ∃ (kq : Nat) (x25_22 : Bool), v25 = .bool x25_22 ∧ Aside0 (order_command.j2 kq l0 ((l0.length : Int) == 1) (rdOf ByteArray.empty l0 0) x25_22 = some (r1, r2, r3)) ∧ Aside0 (kq ≤ kj16) ∧ Aside0 (wc.heap[gb735]? = some (.cells #[.int .i64 0, .int .i64 0, .string (⟨#[]⟩ : ByteArray)] 63 (0, 0))) ∧ Aside0 (Below w.heap.size w wc))
      case first =>
       have H := HC23.out; clear HC23
       by_cases c24 : (rdOf ByteArray.empty l0 0).toList = ([108, 101, 97, 118, 101] : List UInt8)
       ·rw [if_pos c24] at H; have c24b0 := beq_iff_eq.mpr c24; have c24b1 := bne_eq_false_iff_eq.mpr c24; clear c24
        (first | rw [c24b0] | (simp only [i64_w, i32_w]; rw [c24b0]) | skip)
        have H' := Aside0.mk H; clear H
        go_wp2
        go_meet
        case rel => exact ⟨_, (((rdOf ByteArray.empty l0 0).toList == ([108, 101, 97, 118, 101] : List UInt8))), cl, H', ⟨by have := HJ7.out; have := HJ16.out; first | omega | exact Nat.le_refl _⟩, ⟨bk⟩, ⟨bwS⟩⟩
       rw [if_neg c24] at H; have c24b0 := beq_eq_false_iff_ne.mpr c24; have c24b1 := bne_iff_ne.mpr c24
       (first | rw [c24b0] | (simp only [i64_w, i32_w]; rw [c24b0]) | skip)
       by_cases c25 : (rdOf ByteArray.empty l0 0).toList = ([117, 110, 115, 117, 98, 115, 99, 114, 105, 98, 101] : List UInt8)
       ·rw [if_pos c25] at H; have c25b0 := beq_iff_eq.mpr c25; have c25b1 := bne_eq_false_iff_eq.mpr c25; clear c25; have H' := Aside0.mk H; clear H
        go_wp2
        go_meet
        case rel => exact ⟨_, (((rdOf ByteArray.empty l0 0).toList == ([117, 110, 115, 117, 98, 115, 99, 114, 105, 98, 101] : List UInt8))), cl, H', ⟨by have := HJ7.out; have := HJ16.out; first | omega | exact Nat.le_refl _⟩, ⟨bk⟩, ⟨bwS⟩⟩
       rw [if_neg c25] at H; have c25b0 := beq_eq_false_iff_ne.mpr c25; have c25b1 := bne_iff_ne.mpr c25; have H' := Aside0.mk H; clear H
       go_wp2
       go_meet
       case rel => exact ⟨_, (((rdOf ByteArray.empty l0 0).toList == ([114, 101, 109, 111, 118, 101] : List UInt8))), cl, H', ⟨by have := HJ7.out; have := HJ16.out; first | omega | exact Nat.le_refl _⟩, ⟨bk⟩, ⟨bwS⟩⟩
      case rest =>
       clear HC23
       try clear c1
       try clear c2
       try clear c2b0
       try clear c2b1
       try clear c2b2
       try clear p2
       try clear c5
       try clear c7
       try clear c7b0
       try clear c7b1
       try clear p7
       try clear q7
       try clear hx7
       try clear qi7
       try clear c9
       try clear c10
       try clear c10b0
       try clear c10b1
       try clear c11
       try clear c12
       try clear c12b0
       try clear c12b1
       try clear c12b2
       try clear c18
       try clear c18b0
       try clear c18b1
       try clear c19
       try clear c24
       try clear c24b0
       try clear c24b1
       try clear c25
       try clear c25b0
       try clear c25b1
       try clear hcz13_0
       try clear hcz13_1
       try clear hcz13_2
       try clear hcz16_0
       try clear hcz16_1
       try clear hcz16_2
       try clear hcz22_0
       try clear hcz22_1
       try clear hcz22_2
       try clear hcz6_0
       try clear hcz6_1
       try clear hcz6_2
       try clear hfz13_0
       try clear hfz13_1
       try clear hfz13_2
       try clear hfz16_0
       try clear hfz16_1
       try clear hfz16_2
       try clear hfz22_0
       try clear hfz22_1
       try clear hfz22_2
       try clear hfz6_0
       try clear hfz6_1
       try clear hfz6_2
       try clear hx739_0
       try clear p2
       try clear p7
       try clear p739
       try clear q7
       try clear q739
       obtain ⟨kq, x25_22, rfl, HA, HJ22, BK735, HB⟩ := hcut; cases kq with
       | zero => exact absurd HA.out (by simp [order_command.j2])
       | succ kj22 =>
        have H := HA.out; clear HA; simp only [order_command.j2] at H
        by_cases c26 : x25_22 = true
        ·subst c26; rw [if_pos rfl] at H
         by_cases c27 : ((l0.length : Int) == 1) = true
         ·rw [if_pos c27] at H; have c27b0 : ((l0.length : Int) == 1) = true := c27
          (try (have c27b1 : decide ((l0.length : Int) = 1) = true := by simpa using c27))
          (try (have c27b2 : ((l0.length : Int) == 1) = true := by simpa using c27))
          clear c27; simp only [Option.some.injEq, Prod.mk.injEq] at H; obtain ⟨rfl, rfl, rfl⟩ := H; obtain ⟨hcz28_0, hcz28_1, hcz28_2, hfz28_0, hfz28_1, hfz28_2⟩ := bk3 BK735.out
          go_wp2
          refine bodyPost_ret (results_cell_row rfl _ _ gb735 63 #[.int .i64 3, .int .i64 0, .string (⟨#[]⟩ : ByteArray)] (0, 0) _ rfl (by (with_reducible repeat (first | refine blk_drewN ?_ _ | refine blk_drew ?_ | refine blk_alloc ?_ _)); refine blk_put (cs := #[.int .i64 3, .int .i64 0, .string (⟨#[]⟩ : ByteArray)]) ?_ 2 _ rfl; (with_reducible repeat (first | refine blk_drewN ?_ _ | refine blk_drew ?_ | refine blk_alloc ?_ _)); refine blk_put (cs := #[.int .i64 3, .int .i64 0, .string (⟨#[]⟩ : ByteArray)]) ?_ 1 _ rfl; (with_reducible repeat (first | refine blk_drewN ?_ _ | refine blk_drew ?_ | refine blk_alloc ?_ _)); exact blk_put (cs := #[.int .i64 0, .int .i64 0, .string (⟨#[]⟩ : ByteArray)]) bk 0 _ rfl) Tryz.underlying63 rfl (by kernel_rfl)) rfl ?_; exact ⟨ew, bwS⟩
         rw [if_neg c27] at H; have c27b0 : ((l0.length : Int) == 1) = false := by simpa using c27
         (try (have c27b1 : decide ((l0.length : Int) = 1) = false := by simpa using c27))
         (try (have c27b2 : ((l0.length : Int) == 1) = false := by simpa using c27))
         (try (have c27b3 : ¬ ((l0.length : Int) = 1) := by simpa using c27))
         clear c27; replace H := Option.bind_eq_some_iff.mp H; obtain ⟨⟨t746, t747, t748⟩, A290, H⟩ := H; replace H : (some (t746, t747, t748)) = some (r1, r2, r3) := H; have A29 := Aside0.mk A290; clear A290; simp only [Option.some.injEq, Prod.mk.injEq] at H; obtain ⟨rfl, rfl, rfl⟩ := H
         go_wp2_with (first | ((with_reducible refine gate_callee (f := 95) rfl ?_); refine goesL_ (some 49) rfl rfl Tryz.func95 (by kernel_rfl) rfl #[.slice (some ad739) l0.length c0] rfl am ?_; (with_reducible refine (order_unknown.calls _ _ l0 t746 t747 t748 _ ?side1 ?side2 A29.out).mono ?_); (case side1 => repeat (first | exact (Kd.C_below HR0.out HB.out) | (with_reducible refine Kd.C_alloc ?_ _) | (with_reducible refine Kd.C_drewN ?_ _) | (with_reducible refine Kd.C_drew ?_))); (case side2 => exact HC0.out); rintro e w30 ⟨rfl, hb⟩; refine ⟨_, rfl, ?_⟩; have n0_ := Aside0.mk (blk_below (g := gb735) (o := .cells #[.int .i64 0, .int .i64 0, .string (⟨#[]⟩ : ByteArray)] 63 (0, 0)) bk hb); have n1_ := Aside0.mk (below_step bwS hb); clear BK735; clear HB; have BK735 := n0_; have HB := n1_; clear n0_ n1_; (try clear hb); (try clear hb2); (try clear hk); (try clear hi); have hcz31_0 : w30.cell? ⟨gb735, 0, none⟩ = some (.int .i64 0) := (blk_cell BK735.out 0).trans rfl; have hcz31_1 : w30.cell? ⟨gb735, 1, none⟩ = some (.int .i64 0) := (blk_cell BK735.out 1).trans rfl; have hcz31_2 : w30.cell? ⟨gb735, 2, none⟩ = some (.string (⟨#[]⟩ : ByteArray)) := (blk_cell BK735.out 2).trans rfl; have hfz31_0 := blk_frozen BK735.out 0; have hfz31_1 := blk_frozen BK735.out 1; have hfz31_2 := blk_frozen BK735.out 2))
         refine bodyPost_ret (results_cell_row rfl _ _ gb735 63 #[.int .i64 t746, .int .i64 t747, .string t748] (0, 0) _ rfl (by (with_reducible repeat (first | refine blk_drewN ?_ _ | refine blk_drew ?_ | refine blk_alloc ?_ _)); refine blk_put (cs := #[.int .i64 t746, .int .i64 t747, .string (⟨#[]⟩ : ByteArray)]) ?_ 2 _ rfl; (with_reducible repeat (first | refine blk_drewN ?_ _ | refine blk_drew ?_ | refine blk_alloc ?_ _)); refine blk_put (cs := #[.int .i64 t746, .int .i64 0, .string (⟨#[]⟩ : ByteArray)]) ?_ 1 _ rfl; (with_reducible repeat (first | refine blk_drewN ?_ _ | refine blk_drew ?_ | refine blk_alloc ?_ _)); exact blk_put (cs := #[.int .i64 0, .int .i64 0, .string (⟨#[]⟩ : ByteArray)]) bk 0 _ rfl) Tryz.underlying63 rfl (by kernel_rfl)) rfl ?_; exact ⟨ew, bwS⟩
        replace c26 := Bool.eq_false_iff.mpr c26; subst c26; rw [if_neg nft] at H
        by_cases c32 : (rdOf ByteArray.empty l0 0).toList = ([115, 101, 116] : List UInt8)
        ·rw [if_pos c32] at H; have c32b0 := beq_iff_eq.mpr c32; have c32b1 := bne_eq_false_iff_eq.mpr c32; clear c32; have HC33 := Aside0.mk H; clear H
         go_upto_region 18 with (fail)
         go_cut [42] (fun v42 wc => ∃ (kq : Nat) (x42_32 : Bool), v42 = .bool x42_32 ∧ Aside0 (order_command.j3 kq l0 x42_32 = some (r1, r2, r3)) ∧ Aside0 (kq ≤ kj22) ∧ Aside0 (wc.heap[gb735]? = some (.cells #[.int .i64 0, .int .i64 0, .string (⟨#[]⟩ : ByteArray)] 63 (0, 0))) ∧ Aside0 (Below w.heap.size w wc))
         case first =>
          have H := HC33.out; clear HC33
          by_cases c34 : (l0.length : Int) = 2
          ·rw [if_pos c34] at H; have c34b0 := beq_iff_eq.mpr c34; have c34b1 := bne_eq_false_iff_eq.mpr c34; clear c34
           (first | rw [c34b0] | (simp only [i64_w, i32_w]; rw [c34b0]) | skip)
           by_cases c35 : 1 < (l0.length : Int)
           ·rw [if_pos c35] at H; have c35b0 := decide_eq_true c35; have c35b1 : decide (1 < l0.length) = true := decide_eq_true (by omega); clear c35; replace H := Option.bind_eq_some_iff.mp H; obtain ⟨t750, A360, H⟩ := H; have A36 := Aside0.mk A360; clear A360; have H' := Aside0.mk H; clear H; have p749 : 0 ≤ (1 : Int) := (by omega)
            have q749 : 1 < (l0.length : Int) := od; obtain ⟨ad749, e749, hx749_0⟩ := Kd.at_string HR0.out 1 p749 q749; obtain rfl : ad739 = ad749 := (by injection e749)
            (try simp only [show (1 : Int).toNat = 1 from rfl, Nat.reduceMul, Nat.reduceEqDiff, Go.Addr.add, ↓reduceIte] at hx749_0)
            have qi749 : (1 < l0.length) = True := eq_true (by omega)
            (try rw [show ((1 : Int)).toNat = 1 from rfl] at hx749_0)
            replace hx749_0 := (HB.out.cell (World.block_lt_of_cell? w _ hx749_0)).trans hx749_0; replace p749 := eq_true p749; replace q749 := eq_true q749
            go_wp2_with (first | (go_at_call 97; (with_reducible refine (roster_Mode.calls kj22 (rdOf ByteArray.empty l0 1) t750 _ A36.out).mono ?_); rintro e w' ⟨rfl, ⟨nd, rfl⟩⟩))
            go_meet
            case rel => exact ⟨_, ((t750 != 0)), cl, H', ⟨by have := HJ7.out; have := HJ16.out; have := HJ22.out; first | omega | exact Nat.le_refl _⟩, ⟨bk⟩, ⟨bwS⟩⟩
           rw [if_neg c35] at H; exact absurd H (by simp)
          rw [if_neg c34] at H; have c34b0 := beq_eq_false_iff_ne.mpr c34; have c34b1 := bne_iff_ne.mpr c34
          (first | rw [c34b0] | (simp only [i64_w, i32_w]; rw [c34b0]) | skip)
          have H' := Aside0.mk H; clear H
          go_wp2
          go_meet
          case rel => exact ⟨_, (false), cl, H', ⟨by have := HJ7.out; have := HJ16.out; have := HJ22.out; first | omega | exact Nat.le_refl _⟩, ⟨bk⟩, ⟨bwS⟩⟩
         case rest =>
          clear HC33
          try clear c1
          try clear c2
          try clear c2b0
          try clear c2b1
          try clear c2b2
          try clear p2
          try clear c3
          try clear c5
          try clear c7
          try clear c7b0
          try clear c7b1
          try clear p7
          try clear q7
          try clear hx7
          try clear qi7
          try clear c9
          try clear c10
          try clear c10b0
          try clear c10b1
          try clear c11
          try clear c12
          try clear c12b0
          try clear c12b1
          try clear c12b2
          try clear c18
          try clear c18b0
          try clear c18b1
          try clear c19
          try clear c24
          try clear c24b0
          try clear c24b1
          try clear c25
          try clear c25b0
          try clear c25b1
          try clear c26
          try clear c27
          try clear c27b0
          try clear c27b1
          try clear c27b2
          try clear c32
          try clear c32b0
          try clear c32b1
          try clear c34
          try clear c34b0
          try clear c34b1
          try clear c35
          try clear c35b0
          try clear c35b1
          try clear hcz13_0
          try clear hcz13_1
          try clear hcz13_2
          try clear hcz16_0
          try clear hcz16_1
          try clear hcz16_2
          try clear hcz22_0
          try clear hcz22_1
          try clear hcz22_2
          try clear hcz28_0
          try clear hcz28_1
          try clear hcz28_2
          try clear hcz31_0
          try clear hcz31_1
          try clear hcz31_2
          try clear hcz6_0
          try clear hcz6_1
          try clear hcz6_2
          try clear hfz13_0
          try clear hfz13_1
          try clear hfz13_2
          try clear hfz16_0
          try clear hfz16_1
          try clear hfz16_2
          try clear hfz22_0
          try clear hfz22_1
          try clear hfz22_2
          try clear hfz28_0
          try clear hfz28_1
          try clear hfz28_2
          try clear hfz31_0
          try clear hfz31_1
          try clear hfz31_2
          try clear hfz6_0
          try clear hfz6_1
          try clear hfz6_2
          try clear hx739_0
          try clear hx749_0
          try clear p2
          try clear p7
          try clear p739
          try clear p749
          try clear q7
          try clear q739
          try clear q749
          obtain ⟨kq, x42_32, rfl, HA, HJ32, BK735, HB⟩ := hcut; cases kq with
          | zero => exact absurd HA.out (by simp [order_command.j3])
          | succ kj32 =>
           have H := HA.out; clear HA; simp only [order_command.j3] at H
           by_cases c37 : x42_32 = true
           ·subst c37; rw [if_pos rfl] at H
            by_cases c38 : 1 < (l0.length : Int)
            ·rw [if_pos c38] at H; have c38b0 := decide_eq_true c38; have c38b1 : decide (1 < l0.length) = true := decide_eq_true (by omega); clear c38; replace H := Option.bind_eq_some_iff.mp H; obtain ⟨t752, A390, H⟩ := H; have A39 := Aside0.mk A390; clear A390; simp only [Option.some.injEq, Prod.mk.injEq] at H; obtain ⟨rfl, rfl, rfl⟩ := H; have p751 : 0 ≤ (1 : Int) := (by omega)
             have q751 : 1 < (l0.length : Int) := od; obtain ⟨ad751, e751, hx751_0⟩ := Kd.at_string HR0.out 1 p751 q751; obtain rfl : ad739 = ad751 := (by injection e751)
             (try simp only [show (1 : Int).toNat = 1 from rfl, Nat.reduceMul, Nat.reduceEqDiff, Go.Addr.add, ↓reduceIte] at hx751_0)
             have qi751 : (1 < l0.length) = True := eq_true (by omega)
             (try rw [show ((1 : Int)).toNat = 1 from rfl] at hx751_0)
             replace hx751_0 := (HB.out.cell (World.block_lt_of_cell? w _ hx751_0)).trans hx751_0; replace p751 := eq_true p751; replace q751 := eq_true q751
             go_wp2_with (first | ((with_reducible refine gate_callee (f := 97) rfl ?_); refine goesL_ (some 46) rfl rfl Tryz.func97 (by kernel_rfl) rfl #[.string (rdOf ByteArray.empty l0 1)] rfl am ?_; (with_reducible refine (roster_Mode.calls kj32 (rdOf ByteArray.empty l0 1) t752 _ A39.out).mono ?_); rintro e w' ⟨rfl, ⟨nd, rfl⟩⟩; refine ⟨_, rfl, ?_⟩; (try (rw [drewN_self wc]; generalize hq_ : World.drewN wc _ = wc; have n0_ : Aside0 (wc.heap[gb735]? = some (.cells #[.int .i64 0, .int .i64 0, .string (⟨#[]⟩ : ByteArray)] 63 (0, 0))) := ⟨by rw [← hq_]; exact bk⟩; have n1_ : Aside0 (Below w.heap.size w wc) := ⟨by rw [← hq_]; exact bwS⟩; clear BK735 HB hq_; have BK735 := n0_; have HB := n1_; clear n0_ n1_)); have hcz40_0 : wc.cell? ⟨gb735, 0, none⟩ = some (.int .i64 0) := (blk_cell BK735.out 0).trans rfl; have hcz40_1 : wc.cell? ⟨gb735, 1, none⟩ = some (.int .i64 0) := (blk_cell BK735.out 1).trans rfl; have hcz40_2 : wc.cell? ⟨gb735, 2, none⟩ = some (.string (⟨#[]⟩ : ByteArray)) := (blk_cell BK735.out 2).trans rfl; have hfz40_0 := blk_frozen BK735.out 0; have hfz40_1 := blk_frozen BK735.out 1; have hfz40_2 := blk_frozen BK735.out 2))
             refine bodyPost_ret (results_cell_row rfl _ _ gb735 63 #[.int .i64 4, .int .i64 t752, .string (⟨#[]⟩ : ByteArray)] (0, 0) _ rfl (by (with_reducible repeat (first | refine blk_drewN ?_ _ | refine blk_drew ?_ | refine blk_alloc ?_ _)); refine blk_put (cs := #[.int .i64 4, .int .i64 t752, .string (⟨#[]⟩ : ByteArray)]) ?_ 2 _ rfl; (with_reducible repeat (first | refine blk_drewN ?_ _ | refine blk_drew ?_ | refine blk_alloc ?_ _)); refine blk_put (cs := #[.int .i64 4, .int .i64 0, .string (⟨#[]⟩ : ByteArray)]) ?_ 1 _ rfl; (with_reducible repeat (first | refine blk_drewN ?_ _ | refine blk_drew ?_ | refine blk_alloc ?_ _)); exact blk_put (cs := #[.int .i64 0, .int .i64 0, .string (⟨#[]⟩ : ByteArray)]) bk 0 _ rfl) Tryz.underlying63 rfl (by kernel_rfl)) rfl ?_; exact ⟨ew, bwS⟩
            rw [if_neg c38] at H; exact absurd H (by simp)
           replace c37 := Bool.eq_false_iff.mpr c37; subst c37; rw [if_neg nft] at H; replace H := Option.bind_eq_some_iff.mp H; obtain ⟨⟨t753, t754, t755⟩, A410, H⟩ := H; replace H : (some (t753, t754, t755)) = some (r1, r2, r3) := H; have A41 := Aside0.mk A410; clear A410; simp only [Option.some.injEq, Prod.mk.injEq] at H; obtain ⟨rfl, rfl, rfl⟩ := H
           go_wp2_with (first | ((with_reducible refine gate_callee (f := 95) rfl ?_); refine goesL_ (some 49) rfl rfl Tryz.func95 (by kernel_rfl) rfl #[.slice (some ad739) l0.length c0] rfl am ?_; (with_reducible refine (order_unknown.calls _ _ l0 t753 t754 t755 _ ?side1 ?side2 A41.out).mono ?_); (case side1 => repeat (first | exact (Kd.C_below HR0.out HB.out) | (with_reducible refine Kd.C_alloc ?_ _) | (with_reducible refine Kd.C_drewN ?_ _) | (with_reducible refine Kd.C_drew ?_))); (case side2 => exact HC0.out); rintro e w42 ⟨rfl, hb⟩; refine ⟨_, rfl, ?_⟩; have n0_ := Aside0.mk (blk_below (g := gb735) (o := .cells #[.int .i64 0, .int .i64 0, .string (⟨#[]⟩ : ByteArray)] 63 (0, 0)) bk hb); have n1_ := Aside0.mk (below_step bwS hb); clear BK735; clear HB; have BK735 := n0_; have HB := n1_; clear n0_ n1_; (try clear hb); (try clear hb2); (try clear hk); (try clear hi); have hcz43_0 : w42.cell? ⟨gb735, 0, none⟩ = some (.int .i64 0) := (blk_cell BK735.out 0).trans rfl; have hcz43_1 : w42.cell? ⟨gb735, 1, none⟩ = some (.int .i64 0) := (blk_cell BK735.out 1).trans rfl; have hcz43_2 : w42.cell? ⟨gb735, 2, none⟩ = some (.string (⟨#[]⟩ : ByteArray)) := (blk_cell BK735.out 2).trans rfl; have hfz43_0 := blk_frozen BK735.out 0; have hfz43_1 := blk_frozen BK735.out 1; have hfz43_2 := blk_frozen BK735.out 2))
           refine bodyPost_ret (results_cell_row rfl _ _ gb735 63 #[.int .i64 t753, .int .i64 t754, .string t755] (0, 0) _ rfl (by (with_reducible repeat (first | refine blk_drewN ?_ _ | refine blk_drew ?_ | refine blk_alloc ?_ _)); refine blk_put (cs := #[.int .i64 t753, .int .i64 t754, .string (⟨#[]⟩ : ByteArray)]) ?_ 2 _ rfl; (with_reducible repeat (first | refine blk_drewN ?_ _ | refine blk_drew ?_ | refine blk_alloc ?_ _)); refine blk_put (cs := #[.int .i64 t753, .int .i64 0, .string (⟨#[]⟩ : ByteArray)]) ?_ 1 _ rfl; (with_reducible repeat (first | refine blk_drewN ?_ _ | refine blk_drew ?_ | refine blk_alloc ?_ _)); exact blk_put (cs := #[.int .i64 0, .int .i64 0, .string (⟨#[]⟩ : ByteArray)]) bk 0 _ rfl) Tryz.underlying63 rfl (by kernel_rfl)) rfl ?_; exact ⟨ew, bwS⟩
        rw [if_neg c32] at H; have c32b0 := beq_eq_false_iff_ne.mpr c32; have c32b1 := bne_iff_ne.mpr c32; replace H := Option.bind_eq_some_iff.mp H; obtain ⟨⟨t756, t757, t758⟩, A440, H⟩ := H; replace H : (some (t756, t757, t758)) = some (r1, r2, r3) := H; have A44 := Aside0.mk A440; clear A440; simp only [Option.some.injEq, Prod.mk.injEq] at H; obtain ⟨rfl, rfl, rfl⟩ := H
        go_wp2_with (first | ((with_reducible refine gate_callee (f := 95) rfl ?_); refine goesL_ (some 49) rfl rfl Tryz.func95 (by kernel_rfl) rfl #[.slice (some ad739) l0.length c0] rfl am ?_; (with_reducible refine (order_unknown.calls _ _ l0 t756 t757 t758 _ ?side1 ?side2 A44.out).mono ?_); (case side1 => repeat (first | exact (Kd.C_below HR0.out HB.out) | (with_reducible refine Kd.C_alloc ?_ _) | (with_reducible refine Kd.C_drewN ?_ _) | (with_reducible refine Kd.C_drew ?_))); (case side2 => exact HC0.out); rintro e w45 ⟨rfl, hb⟩; refine ⟨_, rfl, ?_⟩; have n0_ := Aside0.mk (blk_below (g := gb735) (o := .cells #[.int .i64 0, .int .i64 0, .string (⟨#[]⟩ : ByteArray)] 63 (0, 0)) bk hb); have n1_ := Aside0.mk (below_step bwS hb); clear BK735; clear HB; have BK735 := n0_; have HB := n1_; clear n0_ n1_; (try clear hb); (try clear hb2); (try clear hk); (try clear hi); have hcz46_0 : w45.cell? ⟨gb735, 0, none⟩ = some (.int .i64 0) := (blk_cell BK735.out 0).trans rfl; have hcz46_1 : w45.cell? ⟨gb735, 1, none⟩ = some (.int .i64 0) := (blk_cell BK735.out 1).trans rfl; have hcz46_2 : w45.cell? ⟨gb735, 2, none⟩ = some (.string (⟨#[]⟩ : ByteArray)) := (blk_cell BK735.out 2).trans rfl; have hfz46_0 := blk_frozen BK735.out 0; have hfz46_1 := blk_frozen BK735.out 1; have hfz46_2 := blk_frozen BK735.out 2))
        refine bodyPost_ret (results_cell_row rfl _ _ gb735 63 #[.int .i64 t756, .int .i64 t757, .string t758] (0, 0) _ rfl (by (with_reducible repeat (first | refine blk_drewN ?_ _ | refine blk_drew ?_ | refine blk_alloc ?_ _)); refine blk_put (cs := #[.int .i64 t756, .int .i64 t757, .string (⟨#[]⟩ : ByteArray)]) ?_ 2 _ rfl; (with_reducible repeat (first | refine blk_drewN ?_ _ | refine blk_drew ?_ | refine blk_alloc ?_ _)); refine blk_put (cs := #[.int .i64 t756, .int .i64 0, .string (⟨#[]⟩ : ByteArray)]) ?_ 1 _ rfl; (with_reducible repeat (first | refine blk_drewN ?_ _ | refine blk_drew ?_ | refine blk_alloc ?_ _)); exact blk_put (cs := #[.int .i64 0, .int .i64 0, .string (⟨#[]⟩ : ByteArray)]) bk 0 _ rfl) Tryz.underlying63 rfl (by kernel_rfl)) rfl ?_; exact ⟨ew, bwS⟩
 rw [if_neg c7] at H; exact absurd H (by simp)

end Go.Proofs.YtihabmcaplnbcaaGreatDoor.Fn
set_option linter.unusedVariables false
namespace Go.Proofs.YtihabmcaplnbcaaGreatDoor.Fn
open Go.RowKit

set_option maxHeartbeats 4000000 in
set_option maxRecDepth 100000 in
theorem bd_rune (B b : Nat) (bs : List Value) (r : Int) (hr0 : -2147483648 ≤ r) (hr1 : r ≤ 2147483647) (w : World) (h : isBd B b bs w) (hlen : bs.length + 4 ≤ 140737488355328) (hBw : B ≤ w.heap.size) :
  Calls Tryz.prog 104 #[.pointer (some ⟨b, 0, none⟩), .int .i32 r] w fun e w' => e = .returned (.tuple #[.int .i64 (Lib.runeCells r).length, .nilIface]) ∧ bdAt B b (bs ++ Lib.runeCells r) w' ∧ Below B w w' ∧ kept b w w' := by
 have hk4 := Lib.runeCells_le r
 go_enter Tryz.func104, Tryz.ntmps104
 go_wp2_with (go_at_call 139; refine (bd_check B b bs _ h).mono ?_)
 rintro e w1 ⟨rfl, h1, hb1, hk1⟩
 obtain ⟨hB, v, hbk, hown, hne⟩ := h1
 obtain ⟨ao, cap, rfl⟩ : ∃ ao cap, v = .slice ao bs.length cap := by
  rcases hown.2 with ⟨hv, h0⟩ | ⟨g, cap, cur, fz, hv, _⟩
  ·exact ⟨none, 0, by rw [hv, h0]⟩
  exact ⟨_, _, hv⟩
 have c0 : w1.cell? ⟨b, 0, none⟩ = some (.pointer (some ⟨b, 0, none⟩)) := by rw [Lib.cell_of_heap hbk]; rfl
 have c1 : w1.cell? ⟨b, 1, none⟩ = some (.slice ao bs.length cap) := by rw [Lib.cell_of_heap hbk]; rfl
 go_wp2_with (go_at_call 148; refine (Tryz.utf8_AppendRune_row B _ bs.length bs r hr0 hr1 _ hown hlen (by have := hb1.size; omega)).mono ?_)
 rintro e w2 ⟨v', rfl, hown', o, hgrow⟩
 have hlt : b < w1.heap.size := by
  rcases Nat.lt_or_ge b w1.heap.size with h' | h'
  ·exact h'
  simp [Array.getElem?_eq_none h'] at hbk
 have hb2 : w2.heap[b]? = some (.cells #[.pointer (some ⟨b, 0, none⟩), .slice ao bs.length cap] 127 (0, 0)) := by
  rw [hgrow.block b (by simp; omega) (fun e => hne e.symm), Lib.alloc_old w1 _ b hlt]
  exact hbk
 have d0 : w2.cell? ⟨b, 0, none⟩ = some (.pointer (some ⟨b, 0, none⟩)) := by rw [Lib.cell_of_heap hb2]; rfl
 have d1 : w2.cell? ⟨b, 1, none⟩ = some (.slice ao bs.length cap) := by rw [Lib.cell_of_heap hb2]; rfl
 have f1 : w2.frozen? ⟨b, 1, none⟩ = false := Lib.frozen_of_heap hb2 1
 obtain ⟨g, cap', rfl⟩ : ∃ g cap', v' = .slice (some ⟨g, 0, none⟩) (bs.length + (Lib.runeCells r).length) cap' := by
  rcases hown'.2 with ⟨_, h0⟩ | ⟨g, cap', cur, fz, hv, _⟩
  ·omega
  exact ⟨g, cap', hv⟩
 go_wp2
 go_ret2
 refine ⟨?_, ?_, ?_, ((hk1.alloc _).grown hgrow (Lib.ownsRowF_kind (hown.alloc _))).setCell ⟨b, 1, none⟩ rfl _⟩
 ·have e : ((bs.length : Int) + ((Lib.runeCells r).length : Int) - (bs.length : Int)) = ((Lib.runeCells r).length : Int) := by omega
  simp [e]
 ·exact Lib.BuilderAtF.put (T := 127) (e := 5) hB hb2 (bs' := bs ++ Lib.runeCells r) (by simpa using hown') (by decide)
 exact ((hb1.alloc (by have := hb1.size; omega) _).grown hgrow (by have := hb1.size; simp; omega) (fun k hk => (hown.lt k hk).1)).setCell (p := ⟨b, 1, none⟩) hB _
end Go.Proofs.YtihabmcaplnbcaaGreatDoor.Fn
namespace Go.Proofs.YtihabmcaplnbcaaGreatDoor.Fn
open Go.RowKit Go.Proofs.YtihabmcaplnbcaaGreatDoorW.PrintWords Go.Proofs.YtihabmcaplnbcaaGreatDoorW.PrintLast Go.Proofs.YtihabmcaplnbcaaGreatDoorW.PrintMore
attribute [local go_sem] max2_int min2_int max_two min_two max_three min_three max_four min_four
set_option linter.unusedVariables false
set_option linter.unusedSimpArgs false
def glyph_control.f (a0 : Int) : Option (Bool) := if a0 < 32 then (some true) else (if a0 ≥ 127 then (some (decide (a0 ≤ 159))) else (some false))
set_option maxHeartbeats 8000000 in
set_option maxRecDepth 100000 in
theorem glyph_control.calls (a0 : Int) (r : Bool) (w : World) (h : glyph_control.f a0 = some r) :
  Calls Tryz.prog 103 #[.int .i32 a0] w fun e w' => e = .returned (.bool r) ∧ Drawn0 w w' := by
 have H : (if a0 < 32 then (some true) else (if a0 ≥ 127 then (some (decide (a0 ≤ 159))) else (some false))) = some r := h; clear h
 by_cases c2 : a0 < 32
 ·rw [if_pos c2] at H; have c2b0 := decide_eq_true c2; clear c2; obtain rfl := Option.some.inj H
  go_enter Tryz.func103, Tryz.ntmps103
  go_wp2
  go_ret
  exact ⟨cl, d0⟩
 rw [if_neg c2] at H; have c2b0 := decide_eq_false c2; clear c2
 by_cases c3 : a0 ≥ 127
 ·rw [if_pos c3] at H; have c3b0 : decide (127 ≤ a0) = true := decide_eq_true c3; clear c3; obtain rfl := Option.some.inj H
  go_enter Tryz.func103, Tryz.ntmps103
  go_wp2
  go_ret
  exact ⟨cl, d0⟩
 rw [if_neg c3] at H; have c3b0 : decide (127 ≤ a0) = false := decide_eq_false c3; clear c3; obtain rfl := Option.some.inj H
 go_enter Tryz.func103, Tryz.ntmps103
 go_wp2
 go_ret
 exact ⟨cl, d0⟩

end Go.Proofs.YtihabmcaplnbcaaGreatDoor.Fn
set_option linter.unusedVariables false
namespace Go.Proofs.YtihabmcaplnbcaaGreatDoor.Fn
open Go.RowKit Go.Proofs.YtihabmcaplnbcaaGreatDoorW.PrintWords

def glyph_Clean.f (a0 : ByteArray) : Option ByteArray := if a0.size ≤ 35184372088832 then some (Pl.str (Pl.clean a0)) else none
theorem glyph_control_is (r : Nat) : glyph_control.f (r : Int) = some (Pl.control r) := by
 unfold glyph_control.f Pl.control
 by_cases h1 : (r : Int) < 32
 ·rw [if_pos h1]
  simp [show r < 32 by omega]
 rw [if_neg h1]
 by_cases h2 : (r : Int) ≥ 127
 ·rw [if_pos h2]
  simp [show ¬ r < 32 by omega, show 127 ≤ r by omega]
  omega
 rw [if_neg h2]
 simp [show ¬ r < 32 by omega, show ¬ 127 ≤ r by omega]

set_option maxHeartbeats 4000000 in
set_option maxRecDepth 100000 in
theorem glyph_Clean.calls (a0 : ByteArray) (r : ByteArray) (w : World) (h : glyph_Clean.f a0 = some r) :
  Calls Tryz.prog 64 #[.string a0] w fun e w' => e = .returned (.string r) ∧ Below w.heap.size w w' := by
 unfold glyph_Clean.f at h
 by_cases hs : a0.size ≤ 35184372088832
 ·rw [if_pos hs] at h
  have HR := hid (Option.some.inj h)
  clear h
  go_enter Tryz.func64, Tryz.ntmps64
  go_wp2
  go_loopw [] (fun wr => ∃ (pos fuel : Nat) (acc : List UInt8), isBd w.heap.size w.heap.size (Lib.byteCells acc) wr ∧ wr.heap[w.heap.size + 1]? = some (.stringIter a0 pos) ∧ Below w.heap.size w wr ∧ Hid (acc ++ Pl.cleanFrom a0 fuel pos = Pl.clean a0) ∧ a0.size ≤ pos + fuel ∧ acc.length ≤ 4 * pos) (fun wr => a0.size - wr.iterPos (w.heap.size + 1))
  case atStart =>
   refine ⟨0, a0.size, [], (Lib.IsBuilderF.of (Lib.fresh_isBuilder _ _ w)).alloc _, ?_, ((Below.refl _ w).alloc (Nat.le_refl _) _).alloc (by simp) _, rfl, by omega, by simp⟩
   have := World.iter_heap (w.alloc (.cells #[.pointer none, .slice none 0 0] 127)) a0 0
   simpa using this
  case round =>
   obtain ⟨pos, fuel, acc, hI, hit, hbw, hacc, hfu, hal⟩ := hrel
   have hsz : w.heap.size + 1 < wr.heap.size := (Array.getElem?_eq_some_iff.1 hit).1
   by_cases hp : pos < a0.size
   ·have hnx : ∀ ty, (Instr.next (.pointer (some ⟨w.heap.size + 1, 0, none⟩)) true ty).run Tryz.prog wr = _ := fun ty => Lib.run_next_any_at wr (w.heap.size + 1) a0 pos ty hit hp
    have hwd : 1 ≤ (Utf8.decode a0 pos).2 := Pl.width_pos a0 pos hp
    have hd1 := decode_le a0 pos
    have hI2 := hI.iterAt hit (pos + (Utf8.decode a0 pos).2)
    have hit2 := Lib.iterAt_heap wr (w.heap.size + 1) a0 pos (pos + (Utf8.decode a0 pos).2) hit
    have hbw2 := Lib.below_iterAt hbw (k := w.heap.size + 1) (by omega) a0 (pos + (Utf8.decode a0 pos).2)
    have hsz2 : w.heap.size ≤ (wr.iterAt (w.heap.size + 1) a0 (pos + (Utf8.decode a0 pos).2)).heap.size := by rw [Lib.iterAt_size]; omega
    obtain ⟨f, rfl⟩ : ∃ f, fuel = f + 1 := ⟨fuel - 1, by omega⟩
    have hct := glyph_control_is (Utf8.decode a0 pos).1
    cases hc : Pl.control (Utf8.decode a0 pos).1 with
    | true =>
     have hstep : Hid (Pl.cleanFrom a0 (f + 1) pos = [32] ++ Pl.cleanFrom a0 f (pos + (Utf8.decode a0 pos).2)) := by
      show _ = _
      simp [Pl.cleanFrom, hp, Pl.cleanR, Pl.sign, Pl.width, hc]
     rw [hc] at hct
     have HC := hid hct
     clear hct hc
     go_wp2_with (first | (go_at_call 103; refine (glyph_control.calls _ true _ HC.out).mono ?_; rintro e W0 ⟨rfl, ⟨⟨n0, rfl⟩⟩⟩) | (go_at_call 104; refine (bd_rune w.heap.size w.heap.size _ _ (by omega) (by omega) _ (by exact hI2) (by rw [Lib.byteCells_length]; omega) (by exact hsz2)).mono ?_; rintro e W1 ⟨rfl, h1, b1, k1⟩))
     go_roundw
     case rel =>
      refine ⟨pos + (Utf8.decode a0 pos).2, f, acc ++ [32], ?_, k1.iter hit2 (by omega), (pw_below_drewN hbw2 _).trans b1, ?_, by omega, by simp; omega⟩
      ·rw [Lib.byteCells_append]; exact Or.inr h1
      show _ = _
      rw [← hacc.out, hstep.out]; simp
     case measure =>
      simp only [World.iterPos, k1.iter hit2 (by omega), hit]
      omega
    | false =>
     have hstep : Hid (Pl.cleanFrom a0 (f + 1) pos = Lib.encodeRune (Utf8.decode a0 pos).1 ++ Pl.cleanFrom a0 f (pos + (Utf8.decode a0 pos).2)) := by
      show _ = _
      simp [Pl.cleanFrom, hp, Pl.cleanR, Pl.sign, Pl.width, hc]
     rw [hc] at hct
     have HC := hid hct
     clear hct hc
     go_wp2_with (first | (go_at_call 103; refine (glyph_control.calls _ false _ HC.out).mono ?_; rintro e W0 ⟨rfl, ⟨⟨n0, rfl⟩⟩⟩) | (go_at_call 104; refine (bd_rune w.heap.size w.heap.size _ _ (by omega) (by omega) _ (by exact hI2) (by rw [Lib.byteCells_length]; omega) (by exact hsz2)).mono ?_; rintro e W1 ⟨rfl, h1, b1, k1⟩))
     go_roundw
     case rel =>
      have hl4 := Lib.runeCells_le ((Utf8.decode a0 pos).1 : Int)
      rw [Lib.runeCells_length] at hl4
      refine ⟨pos + (Utf8.decode a0 pos).2, f, acc ++ Lib.encodeRune (Utf8.decode a0 pos).1, ?_, k1.iter hit2 (by omega), (pw_below_drewN hbw2 _).trans b1, ?_, by omega, by simp; omega⟩
      ·rw [Lib.byteCells_append, Lib.byteCells_encodeRune]; exact Or.inr h1
      show _ = _
      rw [← hacc.out, hstep.out]; simp
     case measure =>
      simp only [World.iterPos, k1.iter hit2 (by omega), hit]
      omega
   have hnx : ∀ ty, (Instr.next (.pointer (some ⟨w.heap.size + 1, 0, none⟩)) true ty).run Tryz.prog wr = _ := fun ty => Lib.run_next_end_at wr (w.heap.size + 1) a0 pos ty hit hp
   have hend := hid (Pl.cleanFrom_end a0 fuel pos hp)
   go_wp2_with (go_at_call 89; refine (Tryz.Builder_String_any_k w.heap.size w.heap.size acc _ hI (by omega)).mono ?_; rintro e W1 ⟨rfl, _, b1, _⟩)
   go_ret
   refine ⟨?_, hbw.trans b1⟩
   rw [← HR.out, ← hacc.out, hend.out, List.append_nil]
   rfl
 rw [if_neg hs] at h
 exact absurd h (by simp)
end Go.Proofs.YtihabmcaplnbcaaGreatDoor.Fn
set_option linter.unusedVariables false
namespace Go.Proofs.YtihabmcaplnbcaaGreatDoor.Fn
open Go.RowKit

def glyph_Fold.f (a0 : ByteArray) : Option ByteArray := if a0.size ≤ 35184372088832 then some (Pl.str (Pl.fold a0.data.toList)) else none

set_option maxHeartbeats 2000000 in
set_option maxRecDepth 100000 in
theorem glyph_Fold.calls (a0 : ByteArray) (r : ByteArray) (w : World) (h : glyph_Fold.f a0 = some r) :
  Calls Tryz.prog 48 #[.string a0] w fun e w' => e = .returned (.string r) ∧ Below w.heap.size w w' := by
 unfold glyph_Fold.f at h
 by_cases hs : a0.size ≤ 35184372088832
 ·rw [if_pos hs] at h
  have HR := hid (Option.some.inj h)
  clear h
  go_enter Tryz.func48, Tryz.ntmps48
  go_wp2
  go_loopw [8] (fun v8 wr => ∃ k : Nat, k ≤ a0.size ∧ v8 = .int .i64 k ∧ isBd w.heap.size w.heap.size (Lib.byteCells (Pl.fold (a0.data.toList.take k))) wr ∧ Below w.heap.size w wr) (fun v8 _ => a0.size - (intOf v8).toNat)
  case atStart => exact ⟨0, Nat.zero_le _, rfl, Lib.IsBuilderF.of (Lib.fresh_isBuilder _ _ w), (Below.refl _ w).alloc (Nat.le_refl _) _⟩
  case round =>
   obtain ⟨k, hk, rfl, hI, hbw⟩ := hrel
   have hl : (Pl.fold (a0.data.toList.take k)).length ≤ k := by rw [Pl.fold_length]; exact List.length_take_le _ _
   have hBw := hbw.size
   by_cases hlt : k < a0.size
   ·have hsn := hid (Pl.fold_snoc a0 k hlt)
    have hgo : ∀ c : Int, c = (Pl.foldB a0[k]).toNat → Lib.byteCells (Pl.fold (a0.data.toList.take k)) ++ [Value.int .u8 c] = Lib.byteCells (Pl.fold (a0.data.toList.take (k + 1))) := by
     rintro c rfl
     rw [hsn.out, Lib.byteCells_append]
     rfl
    have HG := hid hgo
    clear hgo
    by_cases hu : 65 ≤ (a0[k].toNat : Int) ∧ (a0[k].toNat : Int) ≤ 90
    ·have hc := hid (Pl.foldB_up a0[k] hu)
     obtain ⟨hu1, hu2⟩ := hu
     go_wp2_with (go_at_call 88; refine (bd_byte w.heap.size w.heap.size _ _ _ hI (by rw [Lib.byteCells_length]; omega) hBw).mono ?_; rintro e W1 ⟨rfl, h1, b1, _⟩; rw [HG.out _ hc.out] at h1)
     go_roundw
     case rel => exact ⟨k + 1, by omega, by go_num, h1.is, hbw.trans b1⟩
     case measure => simp [intOf]; omega
    have hc := hid (Pl.foldB_no a0[k] hu)
    by_cases hu1 : 65 ≤ (a0[k].toNat : Int)
    ·have hu2 : 90 < (a0[k].toNat : Int) := by omega
     clear hu
     go_wp2_with (go_at_call 88; refine (bd_byte w.heap.size w.heap.size _ _ _ hI (by rw [Lib.byteCells_length]; omega) hBw).mono ?_; rintro e W1 ⟨rfl, h1, b1, _⟩; rw [HG.out _ hc.out] at h1)
     go_roundw
     case rel => exact ⟨k + 1, by omega, by go_num, h1.is, hbw.trans b1⟩
     case measure => simp [intOf]; omega
    have hu2 : (a0[k].toNat : Int) < 65 := by omega
    clear hu hu1
    go_wp2_with (go_at_call 88; refine (bd_byte w.heap.size w.heap.size _ _ _ hI (by rw [Lib.byteCells_length]; omega) hBw).mono ?_; rintro e W1 ⟨rfl, h1, b1, _⟩; rw [HG.out _ hc.out] at h1)
    go_roundw
    case rel => exact ⟨k + 1, by omega, by go_num, h1.is, hbw.trans b1⟩
    case measure => simp [intOf]; omega
   have hend := hid (show Pl.fold (a0.data.toList.take k) = Pl.fold a0.data.toList by rw [List.take_of_length_le (by rw [Pl.data_length]; omega)])
   go_wp2_with (go_at_call 89; refine (Tryz.Builder_String_any_k w.heap.size w.heap.size _ _ hI hBw).mono ?_; rintro e W1 ⟨rfl, _, b1, _⟩)
   go_ret
   exact ⟨by rw [← HR.out, ← hend.out]; rfl, hbw.trans b1⟩
 rw [if_neg hs] at h
 exact absurd h (by simp)
end Go.Proofs.YtihabmcaplnbcaaGreatDoor.Fn
namespace Go.Proofs.YtihabmcaplnbcaaGreatDoor.Fn
open Go.RowKit Go.Proofs.YtihabmcaplnbcaaGreatDoorW.PrintWords Go.Proofs.YtihabmcaplnbcaaGreatDoorW.PrintLast Go.Proofs.YtihabmcaplnbcaaGreatDoorW.PrintMore
attribute [local go_sem] max2_int min2_int max_two min_two max_three min_three max_four min_four
set_option linter.unusedVariables false
set_option linter.unusedSimpArgs false
def glyph_blank.f (a0 : Int) : Option (Bool) := if a0 = 32 then (some true) else (if a0 = 9 then (some true) else (if a0 = 13 then (some true) else (some (a0 == 10))))
set_option maxHeartbeats 8000000 in
set_option maxRecDepth 100000 in
theorem glyph_blank.calls (a0 : Int) (r : Bool) (w : World) (h : glyph_blank.f a0 = some r) :
  Calls Tryz.prog 141 #[.int .i32 a0] w fun e w' => e = .returned (.bool r) ∧ Drawn0 w w' := by
 have H : (if a0 = 32 then (some true) else (if a0 = 9 then (some true) else (if a0 = 13 then (some true) else (some (a0 == 10))))) = some r := h; clear h
 by_cases c2 : a0 = 32
 ·rw [if_pos c2] at H; have c2b0 := beq_iff_eq.mpr c2; have c2b1 := bne_eq_false_iff_eq.mpr c2; clear c2; obtain rfl := Option.some.inj H
  go_enter Tryz.func141, Tryz.ntmps141
  go_wp2
  go_ret
  exact ⟨cl, d0⟩
 rw [if_neg c2] at H; have c2b0 := beq_eq_false_iff_ne.mpr c2; have c2b1 := bne_iff_ne.mpr c2
 by_cases c3 : a0 = 9
 ·rw [if_pos c3] at H; have c3b0 := beq_iff_eq.mpr c3; have c3b1 := bne_eq_false_iff_eq.mpr c3; clear c3; obtain rfl := Option.some.inj H
  go_enter Tryz.func141, Tryz.ntmps141
  go_wp2
  go_ret
  exact ⟨cl, d0⟩
 rw [if_neg c3] at H; have c3b0 := beq_eq_false_iff_ne.mpr c3; have c3b1 := bne_iff_ne.mpr c3
 by_cases c4 : a0 = 13
 ·rw [if_pos c4] at H; have c4b0 := beq_iff_eq.mpr c4; have c4b1 := bne_eq_false_iff_eq.mpr c4; clear c4; obtain rfl := Option.some.inj H
  go_enter Tryz.func141, Tryz.ntmps141
  go_wp2
  go_ret
  exact ⟨cl, d0⟩
 rw [if_neg c4] at H; have c4b0 := beq_eq_false_iff_ne.mpr c4; have c4b1 := bne_iff_ne.mpr c4; obtain rfl := Option.some.inj H
 go_enter Tryz.func141, Tryz.ntmps141
 go_wp2
 go_ret
 exact ⟨cl, d0⟩

end Go.Proofs.YtihabmcaplnbcaaGreatDoor.Fn
set_option linter.unusedVariables false
namespace Go.Proofs.YtihabmcaplnbcaaGreatDoor.Fn
open Go.RowKit Go.Proofs.YtihabmcaplnbcaaGreatDoorW.PrintWords

def glyph_Words.f (a0 : ByteArray) : Option (List ByteArray) := if a0.size ≤ 4294967296 then some (Pl.words a0) else none
theorem glyph_blank_is (r : Nat) : glyph_blank.f (r : Int) = some (Pl.blank r) := by
 unfold glyph_blank.f Pl.blank
 have e1 : ((r : Int) = 32) = (r = 32) := propext ⟨fun h => by omega, fun h => by omega⟩
 have e2 : ((r : Int) = 9) = (r = 9) := propext ⟨fun h => by omega, fun h => by omega⟩
 have e3 : ((r : Int) = 13) = (r = 13) := propext ⟨fun h => by omega, fun h => by omega⟩
 have e4 : ((r : Int) == 10) = (r == 10) := by
  rw [Bool.eq_iff_iff, beq_iff_eq, beq_iff_eq]
  omega
 simp only [e1, e2, e3, e4]
 by_cases h1 : r = 32
 ·simp [h1]
 by_cases h2 : r = 9
 ·simp [h2]
 by_cases h3 : r = 13
 ·simp [h3]
 have b1 : (r == 32) = false := by simp [h1]
 have b2 : (r == 9) = false := by simp [h2]
 have b3 : (r == 13) = false := by simp [h3]
 simp [h1, h2, h3]
 rw [b1, b2, b3]
 simp

set_option maxHeartbeats 4000000 in
set_option maxRecDepth 100000 in
theorem glyph_Words.calls (a0 : ByteArray) (r : List ByteArray) (w : World) (h : glyph_Words.f a0 = some r) :
  Calls Tryz.prog 93 #[.string a0] w fun e w' => ∃ v0_ : Value, e = .returned (v0_) ∧ Kd.R Kd.string 9 w' w.heap.size (fun _ => True) v0_ r ∧ Below w.heap.size w w' := by
 unfold glyph_Words.f at h
 by_cases hs : a0.size ≤ 4294967296
 ·rw [if_pos hs] at h
  have HR := hid (Option.some.inj h)
  clear h
  have hp : Go.Proofs.PredAt Tryz.prog 141 #[] Go.Proofs.encR Pl.blank w := by
   intro W x _
   refine (glyph_blank.calls _ _ W (glyph_blank_is x)).mono ?_
   rintro e w' ⟨rfl, ⟨n, rfl⟩⟩
   exact ⟨rfl, n, rfl⟩
  have HP := hid hp
  clear hp
  go_enter Tryz.func93, Tryz.ntmps93
  go_wp2_with (go_at_call 140; refine (Tryz.strings_FieldsFunc 141 #[] (enters_of Tryz.func141 (by kernel_rfl) rfl) Pl.blank a0 _ hs HP.out).mono ?_; rintro e W1 ⟨Ad, rfl, hA, hown, hbw⟩)
  go_ret
  refine ⟨_, rfl, ?_, hbw⟩
  rw [← HR.out]
  exact Kd.R_of_own hown (fun _ _ => trivial)
 rw [if_neg hs] at h
 exact absurd h (by simp)
end Go.Proofs.YtihabmcaplnbcaaGreatDoor.Fn
namespace Go.Proofs.YtihabmcaplnbcaaGreatDoor.Fn
open Go.RowKit Go.Proofs.YtihabmcaplnbcaaGreatDoorW.PrintWords Go.Proofs.YtihabmcaplnbcaaGreatDoorW.PrintLast Go.Proofs.YtihabmcaplnbcaaGreatDoorW.PrintMore
attribute [local go_sem] max2_int min2_int max_two min_two max_three min_three max_four min_four
set_option linter.unusedVariables false
set_option linter.unusedSimpArgs false
def order_words.f (a0 : ByteArray) : Option (List ByteArray) := (glyph_Clean.f a0).bind fun t718 => ((glyph_Fold.f t718).bind fun t719 => ((glyph_Words.f t719).bind fun t720 => (some t720)))
set_option maxHeartbeats 8000000 in
set_option maxRecDepth 100000 in
theorem order_words.calls (a0 : ByteArray) (r : List ByteArray) (w : World) (h : order_words.f a0 = some r) :
  Calls Tryz.prog 55 #[.string a0] w fun e w' => ∃ v0_ : Value, e = .returned (v0_) ∧ Kd.R Kd.string 9 w' w.heap.size (fun _ => True) v0_ r ∧ Below w.heap.size w w' := by
 have HB := Aside0.mk (Below.refl w.heap.size w); have H : ((glyph_Clean.f a0).bind fun t718 => ((glyph_Fold.f t718).bind fun t719 => ((glyph_Words.f t719).bind fun t720 => (some t720)))) = some r := h; clear h; replace H := Option.bind_eq_some_iff.mp H; obtain ⟨t718, A20, H⟩ := H; have A2 := Aside0.mk A20; clear A20; replace H := Option.bind_eq_some_iff.mp H; obtain ⟨t719, A30, H⟩ := H; have A3 := Aside0.mk A30; clear A30; replace H := Option.bind_eq_some_iff.mp H; obtain ⟨t720, A40, H⟩ := H; have A4 := Aside0.mk A40; clear A40; obtain rfl := Option.some.inj H
 go_enter Tryz.func55, Tryz.ntmps55
 go_wp2_with (first | ((with_reducible refine gate_callee (f := 64) rfl ?_); refine goesL_ (some 4) rfl rfl Tryz.func64 (by kernel_rfl) rfl #[.string a0] rfl am ?_; (with_reducible refine (glyph_Clean.calls a0 t718 _ A2.out).mono ?_); rintro e w5 ⟨rfl, hb⟩; refine ⟨_, rfl, ?_⟩; have n0_ := Aside0.mk (below_step bw hb); clear HB; have HB := n0_; clear n0_; (try clear hb); (try clear hb2); (try clear hk); (try clear hi)) | ((with_reducible refine gate_callee (f := 48) rfl ?_); refine goesL_ (some 5) rfl rfl Tryz.func48 (by kernel_rfl) rfl #[.string t718] rfl am ?_; (with_reducible refine (glyph_Fold.calls t718 t719 _ A3.out).mono ?_); rintro e w6 ⟨rfl, hb⟩; refine ⟨_, rfl, ?_⟩; have n0_ := Aside0.mk (below_step bw hb); clear HB; have HB := n0_; clear n0_; (try clear hb); (try clear hb2); (try clear hk); (try clear hi)) | ((with_reducible refine gate_callee (f := 93) rfl ?_); refine goesL_ (some 6) rfl rfl Tryz.func93 (by kernel_rfl) rfl #[.string t719] rfl am ?_; (with_reducible refine (glyph_Words.calls t719 t720 _ A4.out).mono ?_); rintro e w7 ⟨v721, rfl, ho0, hb⟩; refine ⟨_, rfl, ?_⟩; have n0_ := Aside0.mk (Kd.R_lower ho0 (below_size bw)); have n1_ := Aside0.mk (below_step bw hb); clear HB; have HO722 := n0_; have HB := n1_; clear n0_ n1_; (try clear hb); (try clear hb2); (try clear hk); (try clear hi); (try clear ho0)))
 go_ret
 exact ⟨_, ew, ra HO722.out, bw⟩

def order_Line.f (k : Nat) (a0 : ByteArray) : Option (Int × Int × ByteArray) := (order_words.f a0).bind fun t760 => ((order_command.f k t760).bind fun bt763 => (some (bt763.1, bt763.2.1, bt763.2.2)))
set_option maxHeartbeats 8000000 in
set_option maxRecDepth 100000 in
theorem order_Line.calls (k : Nat) (a0 : ByteArray) (r1 : Int) (r2 : Int) (r3 : ByteArray) (w : World) (h : order_Line.f k a0 = some (r1, r2, r3)) :
  Calls Tryz.prog 52 #[.string a0] w fun e w' => e = .returned (.agg #[.int .i64 r1, .int .i64 r2, .string r3]) ∧ Below w.heap.size w w' := by
 have hu63 := Tryz.underlying63; have HB := Aside0.mk (Below.refl w.heap.size w); have H : ((order_words.f a0).bind fun t760 => ((order_command.f k t760).bind fun bt763 => (some (bt763.1, bt763.2.1, bt763.2.2)))) = some (r1, r2, r3) := h; clear h; replace H := Option.bind_eq_some_iff.mp H; obtain ⟨t760, A20, H⟩ := H; have A2 := Aside0.mk A20; clear A20; replace H := Option.bind_eq_some_iff.mp H; obtain ⟨⟨t763, t764, t765⟩, A30, H⟩ := H; replace H : (some (t763, t764, t765)) = some (r1, r2, r3) := H; have A3 := Aside0.mk A30; clear A30; simp only [Option.some.injEq, Prod.mk.injEq] at H; obtain ⟨rfl, rfl, rfl⟩ := H
 go_enter Tryz.func52, Tryz.ntmps52
 go_wp2_with (first | ((with_reducible refine gate_dst (N := 2) rfl ?_); refine box_event ?hg (N := 2) ?hd (cs := #[.int .i64 0, .int .i64 0, .string (⟨#[]⟩ : ByteArray)]) (t := 63) ?hr ?_; (case hd => rfl); (case hg => rfl); (case hr => first | (go_simp; done) | (go_simp; rfl)); intro gb759 hg w4 hbox hb; have n0_ := Aside0.mk (below_step bw hb); have n1_ := Aside0.mk (hbox); have n2_ := Aside0.mk ((by rw [hg]; exact (below_size bw) : w.heap.size ≤ gb759)); have n3_ := Aside0.mk ((by rw [hg]; exact (below_size bw) : w.heap.size ≤ gb759)); clear HB; have HB := n0_; have BK759 := n1_; have GW759 := n2_; have GE759 := n3_; clear n0_ n1_ n2_ n3_; clear hb hbox hg) | ((with_reducible refine gate_callee (f := 55) rfl ?_); refine goesL_ (some 4) rfl rfl Tryz.func55 (by kernel_rfl) rfl #[.string a0] rfl am ?_; (with_reducible refine (order_words.calls a0 t760 _ A2.out).mono ?_); rintro e w5 ⟨v761, rfl, ho0, hb⟩; refine ⟨_, rfl, ?_⟩; have n0_ := Aside0.mk (Kd.R_lower ho0 (below_size bwS)); have n1_ := Aside0.mk (blk_below (g := gb759) (o := .cells #[.int .i64 0, .int .i64 0, .string (⟨#[]⟩ : ByteArray)] 63 (0, 0)) bk hb); have n2_ := Aside0.mk (below_step bwS hb); clear BK759; clear HB; have HO762 := n0_; have BK759 := n1_; have HB := n2_; clear n0_ n1_ n2_; (try clear hb); (try clear hb2); (try clear hk); (try clear hi); (try clear ho0); obtain ⟨Ao6, co6, eo6⟩ := Kd.R_slice HO762.out; subst eo6) | ((with_reducible refine gate_callee (f := 58) rfl ?_); refine goesL_ (some 5) rfl rfl Tryz.func58 (by kernel_rfl) rfl #[.slice Ao6 t760.length co6] rfl am ?_; (with_reducible refine (order_command.calls k _ _ t760 t763 t764 t765 _ ?side1 ?side2 A3.out).mono ?_); (case side1 => repeat (first | exact (Kd.R_reads' HO762.out).2.2 | (with_reducible refine Kd.C_alloc ?_ _) | (with_reducible refine Kd.C_drewN ?_ _) | (with_reducible refine Kd.C_drew ?_))); (case side2 => exact (Kd.R_reads' HO762.out).2.1); rintro e w7 ⟨rfl, hb⟩; refine ⟨_, rfl, ?_⟩; have n0_ := Aside0.mk (Kd.R_below (ra HO762.out) hb); have n1_ := Aside0.mk (blk_below (g := gb759) (o := .cells #[.int .i64 0, .int .i64 0, .string (⟨#[]⟩ : ByteArray)] 63 (0, 0)) bk hb); have n2_ := Aside0.mk (below_step bwS hb); clear HO762; clear BK759; clear HB; have HO762 := n0_; have BK759 := n1_; have HB := n2_; clear n0_ n1_ n2_; (try clear hb); (try clear hb2); (try clear hk); (try clear hi); have hcz8_0 : w7.cell? ⟨gb759, 0, none⟩ = some (.int .i64 0) := (blk_cell BK759.out 0).trans rfl; have hcz8_1 : w7.cell? ⟨gb759, 1, none⟩ = some (.int .i64 0) := (blk_cell BK759.out 1).trans rfl; have hcz8_2 : w7.cell? ⟨gb759, 2, none⟩ = some (.string (⟨#[]⟩ : ByteArray)) := (blk_cell BK759.out 2).trans rfl; have hfz8_0 := blk_frozen BK759.out 0; have hfz8_1 := blk_frozen BK759.out 1; have hfz8_2 := blk_frozen BK759.out 2))
 refine bodyPost_ret (results_cell_row rfl _ _ gb759 63 #[.int .i64 t763, .int .i64 t764, .string t765] (0, 0) _ rfl (by (with_reducible repeat (first | refine blk_drewN ?_ _ | refine blk_drew ?_ | refine blk_alloc ?_ _)); refine blk_put (cs := #[.int .i64 t763, .int .i64 t764, .string (⟨#[]⟩ : ByteArray)]) ?_ 2 _ rfl; (with_reducible repeat (first | refine blk_drewN ?_ _ | refine blk_drew ?_ | refine blk_alloc ?_ _)); refine blk_put (cs := #[.int .i64 t763, .int .i64 0, .string (⟨#[]⟩ : ByteArray)]) ?_ 1 _ rfl; (with_reducible repeat (first | refine blk_drewN ?_ _ | refine blk_drew ?_ | refine blk_alloc ?_ _)); exact blk_put (cs := #[.int .i64 0, .int .i64 0, .string (⟨#[]⟩ : ByteArray)]) bk 0 _ rfl) Tryz.underlying63 rfl (by kernel_rfl)) rfl ?_; exact ⟨ew, bwS⟩

def order_Show.j0 : Nat → ByteArray → Bool → Int → Int → ByteArray → Option (ByteArray)
 | 0, _, _, _, _, _ => none
 | k + 1, x3, x15, x767000, x767001, x767002 => if x15 = true then (if 5 + x3.size ≤ 9223372036854775807 then (some ((⟨#[106, 111, 105, 110, 32]⟩ : ByteArray) ++ x3)) else (none)) else (if x767000 = 4 then (if x3.toList = ([] : List UInt8) then (some x767002) else (if 4 + x3.size ≤ 9223372036854775807 then (some ((⟨#[115, 101, 116, 32]⟩ : ByteArray) ++ x3)) else (none))) else (some x767002))
def order_Show.f (k : Nat) (a0_0 : Int) (a0_1 : Int) (a0_2 : ByteArray) : Option (ByteArray) := (roster_Word.f a0_1).bind fun t767 => (if a0_0 = 1 then (some (⟨#[104, 101, 108, 112]⟩ : ByteArray)) else (if a0_0 = 3 then (some (⟨#[108, 101, 97, 118, 101]⟩ : ByteArray)) else (if a0_0 = 2 then (order_Show.j0 k t767 (t767.toList != ([] : List UInt8)) a0_0 a0_1 a0_2) else (order_Show.j0 k t767 false a0_0 a0_1 a0_2))))
set_option maxHeartbeats 8000000 in
set_option maxRecDepth 100000 in
theorem order_Show.calls (k : Nat) (a0_0 : Int) (a0_1 : Int) (a0_2 : ByteArray) (r : ByteArray) (w : World) (h : order_Show.f k a0_0 a0_1 a0_2 = some r) :
  Calls Tryz.prog 53 #[.agg #[.int .i64 a0_0, .int .i64 a0_1, .string a0_2]] w fun e w' => e = .returned (.string r) ∧ Below w.heap.size w w' := by
 have hu63 := Tryz.underlying63; have HB := Aside0.mk (Below.refl w.heap.size w); have H : ((roster_Word.f a0_1).bind fun t767 => (if a0_0 = 1 then (some (⟨#[104, 101, 108, 112]⟩ : ByteArray)) else (if a0_0 = 3 then (some (⟨#[108, 101, 97, 118, 101]⟩ : ByteArray)) else (if a0_0 = 2 then (order_Show.j0 k t767 (t767.toList != ([] : List UInt8)) a0_0 a0_1 a0_2) else (order_Show.j0 k t767 false a0_0 a0_1 a0_2))))) = some r := h; clear h; replace H := Option.bind_eq_some_iff.mp H; obtain ⟨t767, A20, H⟩ := H; have A2 := Aside0.mk A20; clear A20
 by_cases c3 : a0_0 = 1
 ·rw [if_pos c3] at H; have c3b0 := beq_iff_eq.mpr c3; have c3b1 := bne_eq_false_iff_eq.mpr c3; clear c3; obtain rfl := Option.some.inj H
  go_enter Tryz.func53, Tryz.ntmps53
  go_wp2_with (first | ((with_reducible refine gate_dst (N := 1) rfl ?_); refine box_event ?hg (N := 1) ?hd (cs := #[.int .i64 a0_0, .int .i64 a0_1, .string a0_2]) (t := 63) ?hr ?_; (case hd => rfl); (case hg => rfl); (case hr => first | (go_simp; done) | (go_simp; rfl)); intro gb766 hg w4 hbox hb; have n0_ := Aside0.mk (below_step bw hb); have n1_ := Aside0.mk (hbox); have n2_ := Aside0.mk ((by rw [hg]; exact (below_size bw) : w.heap.size ≤ gb766)); have n3_ := Aside0.mk ((by rw [hg]; exact (below_size bw) : w.heap.size ≤ gb766)); clear HB; have HB := n0_; have BK766 := n1_; have GW766 := n2_; have GE766 := n3_; clear n0_ n1_ n2_ n3_; clear hb hbox hg; have hcz5_0 : w4.cell? ⟨gb766, 0, none⟩ = some (.int .i64 a0_0) := (blk_cell BK766.out 0).trans rfl; have hcz5_1 : w4.cell? ⟨gb766, 1, none⟩ = some (.int .i64 a0_1) := (blk_cell BK766.out 1).trans rfl; have hcz5_2 : w4.cell? ⟨gb766, 2, none⟩ = some (.string a0_2) := (blk_cell BK766.out 2).trans rfl; have hfz5_0 := blk_frozen BK766.out 0; have hfz5_1 := blk_frozen BK766.out 1; have hfz5_2 := blk_frozen BK766.out 2) | ((with_reducible refine gate_callee (f := 91) rfl ?_); refine goesL_ (some 6) rfl rfl Tryz.func91 (by kernel_rfl) rfl #[.int .i64 a0_1] rfl am ?_; (with_reducible refine (roster_Word.calls a0_1 t767 _ A2.out).mono ?_); rintro e w' ⟨rfl, ⟨nd, rfl⟩⟩; refine ⟨_, rfl, ?_⟩))
  go_ret
  exact ⟨ew, bwS⟩
 rw [if_neg c3] at H; have c3b0 := beq_eq_false_iff_ne.mpr c3; have c3b1 := bne_iff_ne.mpr c3
 by_cases c6 : a0_0 = 3
 ·rw [if_pos c6] at H; have c6b0 := beq_iff_eq.mpr c6; have c6b1 := bne_eq_false_iff_eq.mpr c6; clear c6; obtain rfl := Option.some.inj H
  go_enter Tryz.func53, Tryz.ntmps53
  go_wp2_with (first | ((with_reducible refine gate_dst (N := 1) rfl ?_); refine box_event ?hg (N := 1) ?hd (cs := #[.int .i64 a0_0, .int .i64 a0_1, .string a0_2]) (t := 63) ?hr ?_; (case hd => rfl); (case hg => rfl); (case hr => first | (go_simp; done) | (go_simp; rfl)); intro gb766 hg w7 hbox hb; have n0_ := Aside0.mk (below_step bw hb); have n1_ := Aside0.mk (hbox); have n2_ := Aside0.mk ((by rw [hg]; exact (below_size bw) : w.heap.size ≤ gb766)); have n3_ := Aside0.mk ((by rw [hg]; exact (below_size bw) : w.heap.size ≤ gb766)); clear HB; have HB := n0_; have BK766 := n1_; have GW766 := n2_; have GE766 := n3_; clear n0_ n1_ n2_ n3_; clear hb hbox hg; have hcz8_0 : w7.cell? ⟨gb766, 0, none⟩ = some (.int .i64 a0_0) := (blk_cell BK766.out 0).trans rfl; have hcz8_1 : w7.cell? ⟨gb766, 1, none⟩ = some (.int .i64 a0_1) := (blk_cell BK766.out 1).trans rfl; have hcz8_2 : w7.cell? ⟨gb766, 2, none⟩ = some (.string a0_2) := (blk_cell BK766.out 2).trans rfl; have hfz8_0 := blk_frozen BK766.out 0; have hfz8_1 := blk_frozen BK766.out 1; have hfz8_2 := blk_frozen BK766.out 2) | ((with_reducible refine gate_callee (f := 91) rfl ?_); refine goesL_ (some 6) rfl rfl Tryz.func91 (by kernel_rfl) rfl #[.int .i64 a0_1] rfl am ?_; (with_reducible refine (roster_Word.calls a0_1 t767 _ A2.out).mono ?_); rintro e w' ⟨rfl, ⟨nd, rfl⟩⟩; refine ⟨_, rfl, ?_⟩))
  go_ret
  exact ⟨ew, bwS⟩
 rw [if_neg c6] at H; have c6b0 := beq_eq_false_iff_ne.mpr c6; have c6b1 := bne_iff_ne.mpr c6; have HC9 := Aside0.mk H; clear H
 go_enter Tryz.func53, Tryz.ntmps53
 go_upto_region 6 with (first | ((with_reducible refine gate_dst (N := 1) rfl ?_); refine box_event ?hg (N := 1) ?hd (cs := #[.int .i64 a0_0, .int .i64 a0_1, .string a0_2]) (t := 63) ?hr ?_; (case hd => rfl); (case hg => rfl); (case hr => first | (go_simp; done) | (go_simp; rfl)); intro gb766 hg w10 hbox hb; have n0_ := Aside0.mk (below_step bw hb); have n1_ := Aside0.mk (hbox); have n2_ := Aside0.mk ((by rw [hg]; exact (below_size bw) : w.heap.size ≤ gb766)); have n3_ := Aside0.mk ((by rw [hg]; exact (below_size bw) : w.heap.size ≤ gb766)); clear HB; have HB := n0_; have BK766 := n1_; have GW766 := n2_; have GE766 := n3_; clear n0_ n1_ n2_ n3_; clear hb hbox hg; have hcz11_0 : w10.cell? ⟨gb766, 0, none⟩ = some (.int .i64 a0_0) := (blk_cell BK766.out 0).trans rfl; have hcz11_1 : w10.cell? ⟨gb766, 1, none⟩ = some (.int .i64 a0_1) := (blk_cell BK766.out 1).trans rfl; have hcz11_2 : w10.cell? ⟨gb766, 2, none⟩ = some (.string a0_2) := (blk_cell BK766.out 2).trans rfl; have hfz11_0 := blk_frozen BK766.out 0; have hfz11_1 := blk_frozen BK766.out 1; have hfz11_2 := blk_frozen BK766.out 2) | ((with_reducible refine gate_callee (f := 91) rfl ?_); refine goesL_ (some 6) rfl rfl Tryz.func91 (by kernel_rfl) rfl #[.int .i64 a0_1] rfl am ?_; (with_reducible refine (roster_Word.calls a0_1 t767 _ A2.out).mono ?_); rintro e w' ⟨rfl, ⟨nd, rfl⟩⟩; refine ⟨_, rfl, ?_⟩))
 (try simp only [Act.put, List.setIfInBounds_toArray, List.set_cons_zero, List.set_cons_succ])
 go_cut [15] (fun v15 wc => ∃ (kq : Nat) (x15_8 : Bool), v15 = .bool x15_8 ∧ Aside0 (order_Show.j0 kq t767 x15_8 a0_0 a0_1 a0_2 = some r) ∧ Aside0 (kq ≤ k) ∧ Aside0 (wc.heap[gb766]? = some (.cells #[.int .i64 a0_0, .int .i64 a0_1, .string a0_2] 63 (0, 0))) ∧ Aside0 (Below w.heap.size w wc))
 case first =>
  have H := HC9.out; clear HC9
  by_cases c12 : a0_0 = 2
  ·rw [if_pos c12] at H; have c12b0 := beq_iff_eq.mpr c12; have c12b1 := bne_eq_false_iff_eq.mpr c12; clear c12
   (first | rw [c12b0] | (simp only [i64_w, i32_w]; rw [c12b0]) | skip)
   have H' := Aside0.mk H; clear H; obtain ⟨hcz13_0, hcz13_1, hcz13_2, hfz13_0, hfz13_1, hfz13_2⟩ := bk3 BK766.out
   go_wp2
   go_meet
   case rel => exact ⟨_, ((t767.toList != ([] : List UInt8))), cl, H', ⟨by first | omega | exact Nat.le_refl _⟩, ⟨bk⟩, ⟨bwS⟩⟩
  rw [if_neg c12] at H; have c12b0 := beq_eq_false_iff_ne.mpr c12; have c12b1 := bne_iff_ne.mpr c12
  (first | rw [c12b0] | (simp only [i64_w, i32_w]; rw [c12b0]) | skip)
  have H' := Aside0.mk H; clear H; obtain ⟨hcz14_0, hcz14_1, hcz14_2, hfz14_0, hfz14_1, hfz14_2⟩ := bk3 BK766.out
  go_wp2
  go_meet
  case rel => exact ⟨_, (false), cl, H', ⟨by first | omega | exact Nat.le_refl _⟩, ⟨bk⟩, ⟨bwS⟩⟩
 case rest =>
  clear HC9
  try clear c1
  try clear p2
  try clear c3
  try clear c3b0
  try clear c3b1
  try clear c5
  try clear c6
  try clear c6b0
  try clear c6b1
  try clear c9
  try clear c12
  try clear c12b0
  try clear c12b1
  try clear hcz11_0
  try clear hcz11_1
  try clear hcz11_2
  try clear hcz13_0
  try clear hcz13_1
  try clear hcz13_2
  try clear hcz14_0
  try clear hcz14_1
  try clear hcz14_2
  try clear hcz5_0
  try clear hcz5_1
  try clear hcz5_2
  try clear hcz8_0
  try clear hcz8_1
  try clear hcz8_2
  try clear hfz11_0
  try clear hfz11_1
  try clear hfz11_2
  try clear hfz13_0
  try clear hfz13_1
  try clear hfz13_2
  try clear hfz14_0
  try clear hfz14_1
  try clear hfz14_2
  try clear hfz5_0
  try clear hfz5_1
  try clear hfz5_2
  try clear hfz8_0
  try clear hfz8_1
  try clear hfz8_2
  obtain ⟨kq, x15_8, rfl, HA, HJ8, BK766, HB⟩ := hcut; cases kq with
  | zero => exact absurd HA.out (by simp [order_Show.j0])
  | succ kj8 =>
   have H := HA.out; clear HA; simp only [order_Show.j0] at H
   by_cases c15 : x15_8 = true
   ·subst c15; rw [if_pos rfl] at H
    by_cases c16 : 5 + t767.size ≤ 9223372036854775807
    ·rw [if_pos c16] at H; have c16b0 := eq_true c16; have c16b1 := decide_eq_true c16
     try have c16b2 : (9223372036854775807 < 5 + t767.size) = False := eq_false (Nat.not_lt.2 c16)
     obtain rfl := Option.some.inj H
     go_wp2
     go_ret
     exact ⟨ew, bwS⟩
    rw [if_neg c16] at H; exact absurd H (by simp)
   replace c15 := Bool.eq_false_iff.mpr c15; subst c15; rw [if_neg nft] at H
   by_cases c17 : a0_0 = 4
   ·rw [if_pos c17] at H; have c17b0 := beq_iff_eq.mpr c17; have c17b1 := bne_eq_false_iff_eq.mpr c17; clear c17
    by_cases c18 : t767.toList = ([] : List UInt8)
    ·rw [if_pos c18] at H; have c18b0 := beq_iff_eq.mpr c18; have c18b1 := bne_eq_false_iff_eq.mpr c18; clear c18; obtain rfl := Option.some.inj H; obtain ⟨hcz19_0, hcz19_1, hcz19_2, hfz19_0, hfz19_1, hfz19_2⟩ := bk3 BK766.out
     go_wp2
     go_ret
     exact ⟨ew, bwS⟩
    rw [if_neg c18] at H; have c18b0 := beq_eq_false_iff_ne.mpr c18; have c18b1 := bne_iff_ne.mpr c18
    by_cases c20 : 4 + t767.size ≤ 9223372036854775807
    ·rw [if_pos c20] at H; have c20b0 := eq_true c20; have c20b1 := decide_eq_true c20
     try have c20b2 : (9223372036854775807 < 4 + t767.size) = False := eq_false (Nat.not_lt.2 c20)
     obtain rfl := Option.some.inj H; obtain ⟨hcz21_0, hcz21_1, hcz21_2, hfz21_0, hfz21_1, hfz21_2⟩ := bk3 BK766.out
     go_wp2
     go_ret
     exact ⟨ew, bwS⟩
    rw [if_neg c20] at H; exact absurd H (by simp)
   rw [if_neg c17] at H; have c17b0 := beq_eq_false_iff_ne.mpr c17; have c17b1 := bne_iff_ne.mpr c17; obtain rfl := Option.some.inj H; obtain ⟨hcz22_0, hcz22_1, hcz22_2, hfz22_0, hfz22_1, hfz22_2⟩ := bk3 BK766.out
   go_wp2
   go_ret
   exact ⟨ew, bwS⟩

end Go.Proofs.YtihabmcaplnbcaaGreatDoor.Fn
namespace Go.Proofs.YtihabmcaplnbcaaGreatDoor.Fn
open Go.RowKit Go.Proofs.YtihabmcaplnbcaaGreatDoorW.PrintWords Go.Proofs.YtihabmcaplnbcaaGreatDoorW.PrintLast Go.Proofs.YtihabmcaplnbcaaGreatDoorW.PrintMore
attribute [local go_sem] max2_int min2_int max_two min_two max_three min_three max_four min_four
set_option linter.unusedVariables false
set_option linter.unusedSimpArgs false
attribute [local go_sem] fld63_0 fld63_1 fld63_2
def bulletinlaw35_works.f (k : Nat)  : Option (Bool) := (order_Line.f k (⟨#[32, 83, 117, 98, 115, 99, 114, 105, 98, 101, 32, 32, 100, 105, 103, 101, 115, 116]⟩ : ByteArray)).bind fun bt768 => (if bt768.1 = 2 then (if bt768.2.1 = 2 then (if bt768.2.2.toList = ([] : List UInt8) then ((order_Show.f k bt768.1 bt768.2.1 bt768.2.2).bind fun t772 => (if t772.toList = ([106, 111, 105, 110, 32, 100, 105, 103, 101, 115, 116] : List UInt8) then ((order_Line.f k (⟨#[119, 104, 97, 116]⟩ : ByteArray)).bind fun bt773 => (some (bt773.1 == 5))) else (some false))) else (some false)) else (some false)) else (some false))
set_option maxHeartbeats 8000000 in
set_option maxRecDepth 100000 in
theorem bulletinlaw35_works.calls (k : Nat)  (r : Bool) (w : World) (h : bulletinlaw35_works.f k  = some r) :
  Calls Tryz.prog 27 #[] w fun e w' => e = .returned (.bool r) ∧ Below w.heap.size w w' := by
 have hu63 := Tryz.underlying63; have HB := Aside0.mk (Below.refl w.heap.size w); have H : ((order_Line.f k (⟨#[32, 83, 117, 98, 115, 99, 114, 105, 98, 101, 32, 32, 100, 105, 103, 101, 115, 116]⟩ : ByteArray)).bind fun bt768 => (if bt768.1 = 2 then (if bt768.2.1 = 2 then (if bt768.2.2.toList = ([] : List UInt8) then ((order_Show.f k bt768.1 bt768.2.1 bt768.2.2).bind fun t772 => (if t772.toList = ([106, 111, 105, 110, 32, 100, 105, 103, 101, 115, 116] : List UInt8) then ((order_Line.f k (⟨#[119, 104, 97, 116]⟩ : ByteArray)).bind fun bt773 => (some (bt773.1 == 5))) else (some false))) else (some false)) else (some false)) else (some false))) = some r := h; clear h; replace H := Option.bind_eq_some_iff.mp H; obtain ⟨⟨t768, t769, t770⟩, A10, H⟩ := H; replace H : (if t768 = 2 then (if t769 = 2 then (if t770.toList = ([] : List UInt8) then ((order_Show.f k t768 t769 t770).bind fun t772 => (if t772.toList = ([106, 111, 105, 110, 32, 100, 105, 103, 101, 115, 116] : List UInt8) then ((order_Line.f k (⟨#[119, 104, 97, 116]⟩ : ByteArray)).bind fun bt773 => (some (bt773.1 == 5))) else (some false))) else (some false)) else (some false)) else (some false)) = some r := H; have A1 := Aside0.mk A10; clear A10
 by_cases c2 : t768 = 2
 ·rw [if_pos c2] at H; have c2b0 := beq_iff_eq.mpr c2; have c2b1 := bne_eq_false_iff_eq.mpr c2; clear c2
  by_cases c3 : t769 = 2
  ·rw [if_pos c3] at H; have c3b0 := beq_iff_eq.mpr c3; have c3b1 := bne_eq_false_iff_eq.mpr c3; clear c3
   by_cases c4 : t770.toList = ([] : List UInt8)
   ·rw [if_pos c4] at H; have c4b0 := beq_iff_eq.mpr c4; have c4b1 := bne_eq_false_iff_eq.mpr c4; clear c4; replace H := Option.bind_eq_some_iff.mp H; obtain ⟨t772, A50, H⟩ := H; have A5 := Aside0.mk A50; clear A50
    by_cases c6 : t772.toList = ([106, 111, 105, 110, 32, 100, 105, 103, 101, 115, 116] : List UInt8)
    ·rw [if_pos c6] at H; have c6b0 := beq_iff_eq.mpr c6; have c6b1 := bne_eq_false_iff_eq.mpr c6; clear c6; replace H := Option.bind_eq_some_iff.mp H; obtain ⟨⟨t773, t774, t775⟩, A70, H⟩ := H; replace H : (some (t773 == 5)) = some r := H; have A7 := Aside0.mk A70; clear A70; obtain rfl := Option.some.inj H
     go_enter Tryz.func27, Tryz.ntmps27
     go_wp2_with (first | ((with_reducible refine gate_callee (f := 52) rfl ?_); refine goesL_ (some 2) rfl rfl Tryz.func52 (by kernel_rfl) rfl #[.string (⟨#[32, 83, 117, 98, 115, 99, 114, 105, 98, 101, 32, 32, 100, 105, 103, 101, 115, 116]⟩ : ByteArray)] rfl am ?_; (with_reducible refine (order_Line.calls k (⟨#[32, 83, 117, 98, 115, 99, 114, 105, 98, 101, 32, 32, 100, 105, 103, 101, 115, 116]⟩ : ByteArray) t768 t769 t770 _ A1.out).mono ?_); rintro e w8 ⟨rfl, hb⟩; refine ⟨_, rfl, ?_⟩; have n0_ := Aside0.mk (below_step bw hb); clear HB; have HB := n0_; clear n0_; (try clear hb); (try clear hb2); (try clear hk); (try clear hi)) | ((with_reducible refine gate_dst (N := 1) rfl ?_); refine box_event ?hg (N := 1) ?hd (cs := #[.int .i64 0, .int .i64 0, .string (⟨#[]⟩ : ByteArray)]) (t := 63) ?hr ?_; (case hd => rfl); (case hg => rfl); (case hr => first | (go_simp; done) | (go_simp; rfl)); intro gb771 hg w9 hbox hb; have n0_ := Aside0.mk (below_step bw hb); have n1_ := Aside0.mk (hbox); have n2_ := Aside0.mk ((by rw [hg]; exact (below_size bw) : w.heap.size ≤ gb771)); have n3_ := Aside0.mk ((by rw [hg]; exact (below_size bw) : w.heap.size ≤ gb771)); clear HB; have HB := n0_; have BK771 := n1_; have GW771 := n2_; have GE771 := n3_; clear n0_ n1_ n2_ n3_; clear hb hbox hg; have hcz10_0 : w9.cell? ⟨gb771, 0, none⟩ = some (.int .i64 0) := (blk_cell BK771.out 0).trans rfl; have hcz10_1 : w9.cell? ⟨gb771, 1, none⟩ = some (.int .i64 0) := (blk_cell BK771.out 1).trans rfl; have hcz10_2 : w9.cell? ⟨gb771, 2, none⟩ = some (.string (⟨#[]⟩ : ByteArray)) := (blk_cell BK771.out 2).trans rfl; have hfz10_0 := blk_frozen BK771.out 0; have hfz10_1 := blk_frozen BK771.out 1; have hfz10_2 := blk_frozen BK771.out 2) | (go_at_call 53; (with_reducible refine (order_Show.calls k t768 t769 t770 t772 _ A5.out).mono ?_); rintro e w11 ⟨rfl, hb⟩; have n0_ := Aside0.mk (blk_below (g := gb771) (o := .cells #[.int .i64 t768, .int .i64 t769, .string t770] 63 (0, 0)) (by (with_reducible repeat (first | refine blk_drewN ?_ _ | refine blk_drew ?_ | refine blk_alloc ?_ _)); refine blk_put (cs := #[.int .i64 t768, .int .i64 t769, .string (⟨#[]⟩ : ByteArray)]) ?_ 2 _ rfl; (with_reducible repeat (first | refine blk_drewN ?_ _ | refine blk_drew ?_ | refine blk_alloc ?_ _)); refine blk_put (cs := #[.int .i64 t768, .int .i64 0, .string (⟨#[]⟩ : ByteArray)]) ?_ 1 _ rfl; (with_reducible repeat (first | refine blk_drewN ?_ _ | refine blk_drew ?_ | refine blk_alloc ?_ _)); exact blk_put (cs := #[.int .i64 0, .int .i64 0, .string (⟨#[]⟩ : ByteArray)]) bk 0 _ rfl) hb); have n1_ := Aside0.mk (below_step bwS hb); clear BK771; clear HB; have BK771 := n0_; have HB := n1_; clear n0_ n1_; (try clear hb); (try clear hb2); (try clear hk); (try clear hi)) | (go_at_call 52; (with_reducible refine (order_Line.calls k (⟨#[119, 104, 97, 116]⟩ : ByteArray) t773 t774 t775 _ A7.out).mono ?_); rintro e w12 ⟨rfl, hb⟩; have n0_ := Aside0.mk (blk_below (g := gb771) (o := .cells #[.int .i64 t768, .int .i64 t769, .string t770] 63 (0, 0)) bk hb); have n1_ := Aside0.mk (below_step bwS hb); clear BK771; clear HB; have BK771 := n0_; have HB := n1_; clear n0_ n1_; (try clear hb); (try clear hb2); (try clear hk); (try clear hi)))
     go_ret
     exact ⟨ew, bwS⟩
    rw [if_neg c6] at H; have c6b0 := beq_eq_false_iff_ne.mpr c6; have c6b1 := bne_iff_ne.mpr c6; obtain rfl := Option.some.inj H
    go_enter Tryz.func27, Tryz.ntmps27
    go_wp2_with (first | ((with_reducible refine gate_callee (f := 52) rfl ?_); refine goesL_ (some 2) rfl rfl Tryz.func52 (by kernel_rfl) rfl #[.string (⟨#[32, 83, 117, 98, 115, 99, 114, 105, 98, 101, 32, 32, 100, 105, 103, 101, 115, 116]⟩ : ByteArray)] rfl am ?_; (with_reducible refine (order_Line.calls k (⟨#[32, 83, 117, 98, 115, 99, 114, 105, 98, 101, 32, 32, 100, 105, 103, 101, 115, 116]⟩ : ByteArray) t768 t769 t770 _ A1.out).mono ?_); rintro e w13 ⟨rfl, hb⟩; refine ⟨_, rfl, ?_⟩; have n0_ := Aside0.mk (below_step bw hb); clear HB; have HB := n0_; clear n0_; (try clear hb); (try clear hb2); (try clear hk); (try clear hi)) | ((with_reducible refine gate_dst (N := 1) rfl ?_); refine box_event ?hg (N := 1) ?hd (cs := #[.int .i64 0, .int .i64 0, .string (⟨#[]⟩ : ByteArray)]) (t := 63) ?hr ?_; (case hd => rfl); (case hg => rfl); (case hr => first | (go_simp; done) | (go_simp; rfl)); intro gb771 hg w14 hbox hb; have n0_ := Aside0.mk (below_step bw hb); have n1_ := Aside0.mk (hbox); have n2_ := Aside0.mk ((by rw [hg]; exact (below_size bw) : w.heap.size ≤ gb771)); have n3_ := Aside0.mk ((by rw [hg]; exact (below_size bw) : w.heap.size ≤ gb771)); clear HB; have HB := n0_; have BK771 := n1_; have GW771 := n2_; have GE771 := n3_; clear n0_ n1_ n2_ n3_; clear hb hbox hg; have hcz15_0 : w14.cell? ⟨gb771, 0, none⟩ = some (.int .i64 0) := (blk_cell BK771.out 0).trans rfl; have hcz15_1 : w14.cell? ⟨gb771, 1, none⟩ = some (.int .i64 0) := (blk_cell BK771.out 1).trans rfl; have hcz15_2 : w14.cell? ⟨gb771, 2, none⟩ = some (.string (⟨#[]⟩ : ByteArray)) := (blk_cell BK771.out 2).trans rfl; have hfz15_0 := blk_frozen BK771.out 0; have hfz15_1 := blk_frozen BK771.out 1; have hfz15_2 := blk_frozen BK771.out 2) | (go_at_call 53; (with_reducible refine (order_Show.calls k t768 t769 t770 t772 _ A5.out).mono ?_); rintro e w16 ⟨rfl, hb⟩; have n0_ := Aside0.mk (blk_below (g := gb771) (o := .cells #[.int .i64 t768, .int .i64 t769, .string t770] 63 (0, 0)) (by (with_reducible repeat (first | refine blk_drewN ?_ _ | refine blk_drew ?_ | refine blk_alloc ?_ _)); refine blk_put (cs := #[.int .i64 t768, .int .i64 t769, .string (⟨#[]⟩ : ByteArray)]) ?_ 2 _ rfl; (with_reducible repeat (first | refine blk_drewN ?_ _ | refine blk_drew ?_ | refine blk_alloc ?_ _)); refine blk_put (cs := #[.int .i64 t768, .int .i64 0, .string (⟨#[]⟩ : ByteArray)]) ?_ 1 _ rfl; (with_reducible repeat (first | refine blk_drewN ?_ _ | refine blk_drew ?_ | refine blk_alloc ?_ _)); exact blk_put (cs := #[.int .i64 0, .int .i64 0, .string (⟨#[]⟩ : ByteArray)]) bk 0 _ rfl) hb); have n1_ := Aside0.mk (below_step bwS hb); clear BK771; clear HB; have BK771 := n0_; have HB := n1_; clear n0_ n1_; (try clear hb); (try clear hb2); (try clear hk); (try clear hi)))
    go_ret
    exact ⟨ew, bwS⟩
   rw [if_neg c4] at H; have c4b0 := beq_eq_false_iff_ne.mpr c4; have c4b1 := bne_iff_ne.mpr c4; obtain rfl := Option.some.inj H
   go_enter Tryz.func27, Tryz.ntmps27
   go_wp2_with (first | ((with_reducible refine gate_callee (f := 52) rfl ?_); refine goesL_ (some 2) rfl rfl Tryz.func52 (by kernel_rfl) rfl #[.string (⟨#[32, 83, 117, 98, 115, 99, 114, 105, 98, 101, 32, 32, 100, 105, 103, 101, 115, 116]⟩ : ByteArray)] rfl am ?_; (with_reducible refine (order_Line.calls k (⟨#[32, 83, 117, 98, 115, 99, 114, 105, 98, 101, 32, 32, 100, 105, 103, 101, 115, 116]⟩ : ByteArray) t768 t769 t770 _ A1.out).mono ?_); rintro e w17 ⟨rfl, hb⟩; refine ⟨_, rfl, ?_⟩; have n0_ := Aside0.mk (below_step bw hb); clear HB; have HB := n0_; clear n0_; (try clear hb); (try clear hb2); (try clear hk); (try clear hi)) | ((with_reducible refine gate_dst (N := 1) rfl ?_); refine box_event ?hg (N := 1) ?hd (cs := #[.int .i64 0, .int .i64 0, .string (⟨#[]⟩ : ByteArray)]) (t := 63) ?hr ?_; (case hd => rfl); (case hg => rfl); (case hr => first | (go_simp; done) | (go_simp; rfl)); intro gb771 hg w18 hbox hb; have n0_ := Aside0.mk (below_step bw hb); have n1_ := Aside0.mk (hbox); have n2_ := Aside0.mk ((by rw [hg]; exact (below_size bw) : w.heap.size ≤ gb771)); have n3_ := Aside0.mk ((by rw [hg]; exact (below_size bw) : w.heap.size ≤ gb771)); clear HB; have HB := n0_; have BK771 := n1_; have GW771 := n2_; have GE771 := n3_; clear n0_ n1_ n2_ n3_; clear hb hbox hg; have hcz19_0 : w18.cell? ⟨gb771, 0, none⟩ = some (.int .i64 0) := (blk_cell BK771.out 0).trans rfl; have hcz19_1 : w18.cell? ⟨gb771, 1, none⟩ = some (.int .i64 0) := (blk_cell BK771.out 1).trans rfl; have hcz19_2 : w18.cell? ⟨gb771, 2, none⟩ = some (.string (⟨#[]⟩ : ByteArray)) := (blk_cell BK771.out 2).trans rfl; have hfz19_0 := blk_frozen BK771.out 0; have hfz19_1 := blk_frozen BK771.out 1; have hfz19_2 := blk_frozen BK771.out 2))
   go_ret
   exact ⟨ew, bwS⟩
  rw [if_neg c3] at H; have c3b0 := beq_eq_false_iff_ne.mpr c3; have c3b1 := bne_iff_ne.mpr c3; obtain rfl := Option.some.inj H
  go_enter Tryz.func27, Tryz.ntmps27
  go_wp2_with (first | ((with_reducible refine gate_callee (f := 52) rfl ?_); refine goesL_ (some 2) rfl rfl Tryz.func52 (by kernel_rfl) rfl #[.string (⟨#[32, 83, 117, 98, 115, 99, 114, 105, 98, 101, 32, 32, 100, 105, 103, 101, 115, 116]⟩ : ByteArray)] rfl am ?_; (with_reducible refine (order_Line.calls k (⟨#[32, 83, 117, 98, 115, 99, 114, 105, 98, 101, 32, 32, 100, 105, 103, 101, 115, 116]⟩ : ByteArray) t768 t769 t770 _ A1.out).mono ?_); rintro e w20 ⟨rfl, hb⟩; refine ⟨_, rfl, ?_⟩; have n0_ := Aside0.mk (below_step bw hb); clear HB; have HB := n0_; clear n0_; (try clear hb); (try clear hb2); (try clear hk); (try clear hi)) | ((with_reducible refine gate_dst (N := 1) rfl ?_); refine box_event ?hg (N := 1) ?hd (cs := #[.int .i64 0, .int .i64 0, .string (⟨#[]⟩ : ByteArray)]) (t := 63) ?hr ?_; (case hd => rfl); (case hg => rfl); (case hr => first | (go_simp; done) | (go_simp; rfl)); intro gb771 hg w21 hbox hb; have n0_ := Aside0.mk (below_step bw hb); have n1_ := Aside0.mk (hbox); have n2_ := Aside0.mk ((by rw [hg]; exact (below_size bw) : w.heap.size ≤ gb771)); have n3_ := Aside0.mk ((by rw [hg]; exact (below_size bw) : w.heap.size ≤ gb771)); clear HB; have HB := n0_; have BK771 := n1_; have GW771 := n2_; have GE771 := n3_; clear n0_ n1_ n2_ n3_; clear hb hbox hg; have hcz22_0 : w21.cell? ⟨gb771, 0, none⟩ = some (.int .i64 0) := (blk_cell BK771.out 0).trans rfl; have hcz22_1 : w21.cell? ⟨gb771, 1, none⟩ = some (.int .i64 0) := (blk_cell BK771.out 1).trans rfl; have hcz22_2 : w21.cell? ⟨gb771, 2, none⟩ = some (.string (⟨#[]⟩ : ByteArray)) := (blk_cell BK771.out 2).trans rfl; have hfz22_0 := blk_frozen BK771.out 0; have hfz22_1 := blk_frozen BK771.out 1; have hfz22_2 := blk_frozen BK771.out 2))
  go_ret
  exact ⟨ew, bwS⟩
 rw [if_neg c2] at H; have c2b0 := beq_eq_false_iff_ne.mpr c2; have c2b1 := bne_iff_ne.mpr c2; obtain rfl := Option.some.inj H
 go_enter Tryz.func27, Tryz.ntmps27
 go_wp2_with (first | ((with_reducible refine gate_callee (f := 52) rfl ?_); refine goesL_ (some 2) rfl rfl Tryz.func52 (by kernel_rfl) rfl #[.string (⟨#[32, 83, 117, 98, 115, 99, 114, 105, 98, 101, 32, 32, 100, 105, 103, 101, 115, 116]⟩ : ByteArray)] rfl am ?_; (with_reducible refine (order_Line.calls k (⟨#[32, 83, 117, 98, 115, 99, 114, 105, 98, 101, 32, 32, 100, 105, 103, 101, 115, 116]⟩ : ByteArray) t768 t769 t770 _ A1.out).mono ?_); rintro e w23 ⟨rfl, hb⟩; refine ⟨_, rfl, ?_⟩; have n0_ := Aside0.mk (below_step bw hb); clear HB; have HB := n0_; clear n0_; (try clear hb); (try clear hb2); (try clear hk); (try clear hi)) | ((with_reducible refine gate_dst (N := 1) rfl ?_); refine box_event ?hg (N := 1) ?hd (cs := #[.int .i64 0, .int .i64 0, .string (⟨#[]⟩ : ByteArray)]) (t := 63) ?hr ?_; (case hd => rfl); (case hg => rfl); (case hr => first | (go_simp; done) | (go_simp; rfl)); intro gb771 hg w24 hbox hb; have n0_ := Aside0.mk (below_step bw hb); have n1_ := Aside0.mk (hbox); have n2_ := Aside0.mk ((by rw [hg]; exact (below_size bw) : w.heap.size ≤ gb771)); have n3_ := Aside0.mk ((by rw [hg]; exact (below_size bw) : w.heap.size ≤ gb771)); clear HB; have HB := n0_; have BK771 := n1_; have GW771 := n2_; have GE771 := n3_; clear n0_ n1_ n2_ n3_; clear hb hbox hg; have hcz25_0 : w24.cell? ⟨gb771, 0, none⟩ = some (.int .i64 0) := (blk_cell BK771.out 0).trans rfl; have hcz25_1 : w24.cell? ⟨gb771, 1, none⟩ = some (.int .i64 0) := (blk_cell BK771.out 1).trans rfl; have hcz25_2 : w24.cell? ⟨gb771, 2, none⟩ = some (.string (⟨#[]⟩ : ByteArray)) := (blk_cell BK771.out 2).trans rfl; have hfz25_0 := blk_frozen BK771.out 0; have hfz25_1 := blk_frozen BK771.out 1; have hfz25_2 := blk_frozen BK771.out 2))
 go_ret
 exact ⟨ew, bwS⟩

end Go.Proofs.YtihabmcaplnbcaaGreatDoor.Fn
namespace Go.Proofs.YtihabmcaplnbcaaGreatDoor.Fn
open Go.RowKit Go.Proofs.YtihabmcaplnbcaaGreatDoorW.PrintWords Go.Proofs.YtihabmcaplnbcaaGreatDoorW.PrintLast Go.Proofs.YtihabmcaplnbcaaGreatDoorW.PrintMore
attribute [local go_sem] max2_int min2_int max_two min_two max_three min_three max_four min_four
set_option linter.unusedVariables false
set_option linter.unusedSimpArgs false
def bulletinref16_Lines.l0 : Nat → List ByteArray → ByteArray → ByteArray → Int → Option (List ByteArray)
 | 0, _, _, _, _ => none
 | k + 1, x3, x4, x5, x6 => if x6 < (x5.size : Int) then (if 0 ≤ x6 then (if (bt x5 x6) = 13 then (if (wrap64 (x6 + 1)) < (x5.size : Int) then (if 0 ≤ (wrap64 (x6 + 1)) then (if (bt x5 (wrap64 (x6 + 1))) = 10 then (if x3.length < 8796093022208 then (bulletinref16_Lines.l0 k (x3 ++ [x4]) (⟨#[]⟩ : ByteArray) x5 (wrap64 ((wrap64 (x6 + 1)) + 1))) else (none)) else (if x6 ≤ (wrap64 (x6 + 1)) then (if (wrap64 (x6 + 1)) ≤ (x5.size : Int) then (if x4.size + (x5.extract (x6 : Int).toNat ((wrap64 (x6 + 1)) : Int).toNat).size ≤ 9223372036854775807 then (bulletinref16_Lines.l0 k x3 (x4 ++ (x5.extract (x6 : Int).toNat ((wrap64 (x6 + 1)) : Int).toNat)) x5 (wrap64 (x6 + 1))) else (none)) else (none)) else (none))) else (none)) else (if x6 ≤ (wrap64 (x6 + 1)) then (if (wrap64 (x6 + 1)) ≤ (x5.size : Int) then (if x4.size + (x5.extract (x6 : Int).toNat ((wrap64 (x6 + 1)) : Int).toNat).size ≤ 9223372036854775807 then (bulletinref16_Lines.l0 k x3 (x4 ++ (x5.extract (x6 : Int).toNat ((wrap64 (x6 + 1)) : Int).toNat)) x5 (wrap64 (x6 + 1))) else (none)) else (none)) else (none))) else (if x6 ≤ (wrap64 (x6 + 1)) then (if (wrap64 (x6 + 1)) ≤ (x5.size : Int) then (if x4.size + (x5.extract (x6 : Int).toNat ((wrap64 (x6 + 1)) : Int).toNat).size ≤ 9223372036854775807 then (bulletinref16_Lines.l0 k x3 (x4 ++ (x5.extract (x6 : Int).toNat ((wrap64 (x6 + 1)) : Int).toNat)) x5 (wrap64 (x6 + 1))) else (none)) else (none)) else (none))) else (none)) else (if x4.toList = ([] : List UInt8) then (some x3) else (if x3.length < 8796093022208 then (some (x3 ++ [x4])) else (none)))
def bulletinref16_Lines.f (k : Nat) (l0_0 : List (S74)) (a0_1 : ByteArray) : Option (List ByteArray) := bulletinref16_Lines.l0 k ([] : List ByteArray) (⟨#[]⟩ : ByteArray) a0_1 0
set_option maxHeartbeats 8000000 in
set_option maxRecDepth 100000 in
theorem bulletinref16_Lines.calls (k : Nat) (A0_0 : Option Addr) (c0_0 : Nat) (l0_0 : List (S74)) (a0_1 : ByteArray) (r : List ByteArray) (w : World) (hr0_0 : Kd.C k74 w A0_0 l0_0.length l0_0) (hc0_0 : l0_0.length ≤ c0_0) (h : bulletinref16_Lines.f k l0_0 a0_1 = some r) :
  Calls Tryz.prog 63 #[.agg #[.slice A0_0 l0_0.length c0_0, .string a0_1]] w fun e w' => ∃ v0_ : Value, e = .returned (v0_) ∧ Kd.R Kd.string 9 w' w.heap.size (fun _ => True) v0_ r ∧ Below w.heap.size w w' := by
 have hu24 := Tryz.underlying24; have HR0_0 := Aside0.mk hr0_0; have HC0_0 := Aside0.mk hc0_0; clear hr0_0 hc0_0; have HB := Aside0.mk (Below.refl w.heap.size w); have H : (bulletinref16_Lines.l0 k ([] : List ByteArray) (⟨#[]⟩ : ByteArray) a0_1 0) = some r := h; clear h; have H' := Aside0.mk H; clear H
 go_enter Tryz.func63, Tryz.ntmps63
 go_wp2_with (first | ((with_reducible refine gate_dst (N := 1) rfl ?_); (try (refine gate_guard (by rfl) ?_; dsimp only)); refine box_event ?hg (N := 1) ?hd (cs := #[.slice A0_0 l0_0.length c0_0, .string a0_1]) (t := 24) ?hr ?_; (case hd => rfl); (case hg => rfl); (case hr => first | (go_simp; done) | (go_simp; rfl)); intro gb919 hg w2 hbox hb; have n0_ := Aside0.mk (below_step bw hb); have n1_ := Aside0.mk (hbox); have n2_ := Aside0.mk ((by rw [hg]; exact (below_size bw) : w.heap.size ≤ gb919)); have n3_ := Aside0.mk ((by rw [hg]; exact (below_size bw) : w.heap.size ≤ gb919)); clear HB; have HB := n0_; have BK919 := n1_; have GW919 := n2_; have GE919 := n3_; clear n0_ n1_ n2_ n3_; clear hb hbox hg; have hcz3_0 : w2.cell? ⟨gb919, 0, none⟩ = some (.slice A0_0 l0_0.length c0_0) := (blk_cell BK919.out 0).trans rfl; have hcz3_1 : w2.cell? ⟨gb919, 1, none⟩ = some (.string a0_1) := (blk_cell BK919.out 1).trans rfl; have hfz3_0 := blk_frozen BK919.out 0; have hfz3_1 := blk_frozen BK919.out 1))
 go_loopg [3, 4, 6] k (fun kq v3 v4 v6 w' => ∃ (x3_1 : List ByteArray) (x4_1 : ByteArray) (x6_1 : Int), v4 = .string x4_1 ∧ v6 = .int .i64 x6_1 ∧ Aside0 (bulletinref16_Lines.l0 kq x3_1 x4_1 a0_1 x6_1 = some r) ∧ Aside0 (kq ≤ k) ∧ Aside0 (Kd.R Kd.string 9 w' w.heap.size (fun _ => True) v3 x3_1) ∧ Aside0 (w'.heap[gb919]? = some (.cells #[(.slice A0_0 l0_0.length c0_0), .string a0_1] 24 (0, 0))) ∧ Aside0 (Below w.heap.size w w'))
 case atStart => exact ⟨(([] : List ByteArray)), ((⟨#[]⟩ : ByteArray)), (0), cl, cl, H', ⟨Nat.le_refl _⟩, ⟨by first | exact Kd.R_nil _ _ _ _ _ | exact Kd.N_nil _ _ _ _ _ | exact Kd.V_nil _ _ _ _ _ | exact Kd.Q_nil _ _ _ _ _ | exact Kd.S_nil _ _ _ _ _⟩, ⟨bk⟩, ⟨bwS⟩⟩
 case round =>
  clear H'
  try clear p2
  try clear hcz3_0
  try clear hcz3_1
  try clear hfz3_0
  try clear hfz3_1
  obtain ⟨x3_1, x4_1, x6_1, rfl, rfl, HA, HK1, HO_3, BK919, HB⟩ := hrel; cases gk with
  | zero => exact absurd HA.out (by simp [bulletinref16_Lines.l0])
  | succ k1 =>
   have H := HA.out; clear HA; simp only [bulletinref16_Lines.l0] at H
   by_cases c4 : x6_1 < (a0_1.size : Int)
   ·rw [if_pos c4] at H; have c4b0 := decide_eq_true c4; clear c4
    by_cases c5 : 0 ≤ x6_1
    ·rw [if_pos c5] at H; have c5b0 := decide_eq_true c5; clear c5
     by_cases c7 : (bt a0_1 x6_1) = 13
     ·rw [if_pos c7] at H; have c7b0 := beq_iff_eq.mpr c7; have c7b1 := bne_eq_false_iff_eq.mpr c7; clear c7
      by_cases c8 : (wrap64 (x6_1 + 1)) < (a0_1.size : Int)
      ·rw [if_pos c8] at H; have c8b0 := decide_eq_true c8; clear c8; obtain ⟨ji9, hji9⟩ : ∃ j_ : Int, (wrap64 (x6_1 + 1)) = j_ := ⟨_, rfl⟩
       replace H : (if 0 ≤ (ji9) then (if (bt a0_1 (ji9)) = 10 then (if x3_1.length < 8796093022208 then (bulletinref16_Lines.l0 k1 (x3_1 ++ [x4_1]) (⟨#[]⟩ : ByteArray) a0_1 (wrap64 ((ji9) + 1))) else (none)) else (if x6_1 ≤ (ji9) then (if (ji9) ≤ (a0_1.size : Int) then (if x4_1.size + (a0_1.extract (x6_1 : Int).toNat ((ji9) : Int).toNat).size ≤ 9223372036854775807 then (bulletinref16_Lines.l0 k1 x3_1 (x4_1 ++ (a0_1.extract (x6_1 : Int).toNat ((ji9) : Int).toNat)) a0_1 ji9) else (none)) else (none)) else (none))) else (none)) = some r := by first | (rw [hji9] at H; exact H) | (simp only [hji9] at H ⊢; exact H)
       (try rw [hji9] at c8b0)
       have hji9w : (IntKind.i64.wrap (x6_1 + 1)) = ji9 := (i64_w _).trans hji9
       by_cases c10 : 0 ≤ (ji9)
       ·rw [if_pos c10] at H; have c10b0 := decide_eq_true c10; clear c10
        by_cases c12 : (bt a0_1 (ji9)) = 10
        ·rw [if_pos c12] at H; have c12b0 := beq_iff_eq.mpr c12; have c12b1 := bne_eq_false_iff_eq.mpr c12; clear c12
         by_cases c13 : x3_1.length < 8796093022208
         ·rw [if_pos c13] at H; have LMc13 := Aside0.mk c13; clear c13; obtain ⟨y920, hy920⟩ : ∃ y_ : List ByteArray, y_ = (x3_1 ++ [x4_1]) := ⟨_, rfl⟩
          replace H : (bulletinref16_Lines.l0 k1 y920 (⟨#[]⟩ : ByteArray) a0_1 (wrap64 ((ji9) + 1))) = some r := by first | (rw [hy920]; with_reducible exact H) | (have H2_ := (Option.bind_some _ _).symm.trans H; rw [hy920]; with_reducible exact H2_) | (have H2_ := (Option.bind_some _ _).symm.trans H; with_reducible exact H2_) | with_reducible exact H | (rw [hy920]; exact H) | exact H
          have Ny920 := Aside0.mk hy920; clear hy920; have H' := Aside0.mk H; clear H; have p6 : 0 ≤ (x6_1 : Int) := od; have q6 : x6_1 < (a0_1.size : Int) := od; have hx6 := bt_at a0_1 x6_1; replace p6 := eq_true p6; replace q6 := eq_true q6; have p11 : 0 ≤ ((ji9) : Int) := od; have q11 : (ji9) < (a0_1.size : Int) := od; have hx11 := bt_at a0_1 (ji9); replace p11 := eq_true p11; replace q11 := eq_true q11
          go_wp2_with (first | ((with_reducible refine gate_builtin (b := .append) (xs := #[.tmp 33, .tmp 35]) rfl ?_); (try (refine gate_guard (by rfl) ?_; dsimp only)); at_builtin; refine Kd.R_append Kd.string (w0 := w) w.heap.size rfl (.tmp 33) (.tmp 35) 53 9 (.string ⟨#[]⟩) 16 rfl Tryz.underlying53 info9 rfl (by decide) (by omega) u3 x3_1 x4_1 [.string x4_1] (fun _ => True) (fun _ => False) rfl rfl ?aP (fun _ hk => hk.elim) ?aF ?aO ?aB ?aS ?aL ?_; (case aP => exact rfl); (case aB => exact bwS); (case aF => exact (fun _ _ => trivial)); (case aO => exact (ra HO_3.out)); (case aS => exact (below_size bwS)); (case aL => have := LMc13.out; omega); intro v921 w14 ho hb hg hat; rw [← Ny920.out] at ho; have n0_ := Aside0.mk (blk_grown (g := gb919) (o := .cells #[.slice A0_0 l0_0.length c0_0, .string a0_1] 24 (0, 0)) bk hg (Kd.R_ne HO_3.out BK919.out (by decide))); have n1_ := Aside0.mk (hb); have n2_ := Aside0.mk (ho); clear BK919; clear HB; clear HO_3; have BK919 := n0_; have HB := n1_; have HO922 := n2_; clear n0_ n1_ n2_; clear ho hb hg hat))
          go_roundg k1
          case measure => have := HK1.out; omega
          case rel => exact ⟨(y920), ((⟨#[]⟩ : ByteArray)), (wrap64 ((ji9) + 1)), cl, (by first | rfl | (simp; done) | (simp only [← hji9] <;> (first | rfl | simp)) | (simp [*]; done) | (simp [nil_ne]; done) | (simp [u8_w, i64w_]; done) | (simp [size_lit]; done) | (simp; unfold wrap64; omega)), H', ⟨by have := HK1.out; omega⟩, ⟨ra HO922.out⟩, ⟨bk⟩, ⟨bwS⟩⟩
         rw [if_neg c13] at H; exact absurd H (by simp)
        rw [if_neg c12] at H; have c12b0 := beq_eq_false_iff_ne.mpr c12; have c12b1 := bne_iff_ne.mpr c12; have c15b0 := eq_true (od : 0 ≤ x6_1)
        by_cases c16 : x6_1 ≤ (ji9)
        ·rw [if_pos c16] at H; have c16b0 := eq_true c16; have c16b1 := decide_eq_true c16; clear c16
         by_cases c17 : (ji9) ≤ (a0_1.size : Int)
         ·rw [if_pos c17] at H; have c17b0 := eq_true c17; have c17b1 := decide_eq_true c17; clear c17
          by_cases c18 : x4_1.size + (a0_1.extract (x6_1 : Int).toNat ((ji9) : Int).toNat).size ≤ 9223372036854775807
          ·rw [if_pos c18] at H; have c18b0 := eq_true c18; have c18b1 := decide_eq_true c18
           try have c18b2 : (9223372036854775807 < x4_1.size + (a0_1.extract (x6_1 : Int).toNat ((ji9) : Int).toNat).size) = False := eq_false (Nat.not_lt.2 c18)
           try (have c18b3 := c18; simp only [ByteArray.size_append, size_lit, ByteArray.size_extract, List.size_toArray, List.length_cons, List.length_nil, Nat.zero_add, Nat.reduceAdd] at c18b3; have c18b4 := eq_false (Nat.not_lt.2 c18b3))
           have H' := Aside0.mk H; clear H; have p6 : 0 ≤ (x6_1 : Int) := od; have q6 : x6_1 < (a0_1.size : Int) := od; have hx6 := bt_at a0_1 x6_1; replace p6 := eq_true p6; replace q6 := eq_true q6; have p11 : 0 ≤ ((ji9) : Int) := od; have q11 : (ji9) < (a0_1.size : Int) := od; have hx11 := bt_at a0_1 (ji9); replace p11 := eq_true p11; replace q11 := eq_true q11
           go_wp2
           go_roundg k1
           case measure => have := HK1.out; omega
           case rel => exact ⟨(x3_1), (x4_1 ++ (a0_1.extract (x6_1 : Int).toNat ((ji9) : Int).toNat)), (ji9), (by first | rfl | (simp; done) | (simp only [← hji9] <;> (first | rfl | simp)) | (simp [*]; done) | (simp [nil_ne]; done) | (simp [u8_w, i64w_]; done) | (simp [size_lit]; done) | (simp; unfold wrap64; omega)), (by first | rfl | (simp; done) | (simp only [← hji9] <;> (first | rfl | simp)) | (simp [*]; done) | (simp [nil_ne]; done) | (simp [u8_w, i64w_]; done) | (simp [size_lit]; done) | (simp; unfold wrap64; omega)), H', ⟨by have := HK1.out; omega⟩, ⟨ra HO_3.out⟩, ⟨bk⟩, ⟨bwS⟩⟩
          rw [if_neg c18] at H; exact absurd H (by simp)
         rw [if_neg c17] at H; exact absurd H (by simp)
        rw [if_neg c16] at H; exact absurd H (by simp)
       rw [if_neg c10] at H; exact absurd H (by simp)
      rw [if_neg c8] at H; have c8b0 := decide_eq_false c8; clear c8; have c19b0 := eq_true (od : 0 ≤ x6_1)
      by_cases c20 : x6_1 ≤ (wrap64 (x6_1 + 1))
      ·rw [if_pos c20] at H; have c20b0 := eq_true c20; have c20b1 := decide_eq_true c20
       by_cases c21 : (wrap64 (x6_1 + 1)) ≤ (a0_1.size : Int)
       ·rw [if_pos c21] at H; have c21b0 := eq_true c21; have c21b1 := decide_eq_true c21
        by_cases c22 : x4_1.size + (a0_1.extract (x6_1 : Int).toNat ((wrap64 (x6_1 + 1)) : Int).toNat).size ≤ 9223372036854775807
        ·rw [if_pos c22] at H; have c22b0 := eq_true c22; have c22b1 := decide_eq_true c22
         try have c22b2 : (9223372036854775807 < x4_1.size + (a0_1.extract (x6_1 : Int).toNat ((wrap64 (x6_1 + 1)) : Int).toNat).size) = False := eq_false (Nat.not_lt.2 c22)
         try (have c22b3 := c22; simp only [ByteArray.size_append, size_lit, ByteArray.size_extract, List.size_toArray, List.length_cons, List.length_nil, Nat.zero_add, Nat.reduceAdd] at c22b3; have c22b4 := eq_false (Nat.not_lt.2 c22b3))
         have H' := Aside0.mk H; clear H; have p6 : 0 ≤ (x6_1 : Int) := od; have q6 : x6_1 < (a0_1.size : Int) := od; have hx6 := bt_at a0_1 x6_1; replace p6 := eq_true p6; replace q6 := eq_true q6
         go_wp2
         go_roundg k1
         case measure => have := HK1.out; omega
         case rel => exact ⟨(x3_1), (x4_1 ++ (a0_1.extract (x6_1 : Int).toNat ((wrap64 (x6_1 + 1)) : Int).toNat)), (wrap64 (x6_1 + 1)), cl, cl, H', ⟨by have := HK1.out; omega⟩, ⟨ra HO_3.out⟩, ⟨bk⟩, ⟨bwS⟩⟩
        rw [if_neg c22] at H; exact absurd H (by simp)
       rw [if_neg c21] at H; exact absurd H (by simp)
      rw [if_neg c20] at H; exact absurd H (by simp)
     rw [if_neg c7] at H; have c7b0 := beq_eq_false_iff_ne.mpr c7; have c7b1 := bne_iff_ne.mpr c7; have c23b0 := eq_true (od : 0 ≤ x6_1)
     by_cases c24 : x6_1 ≤ (wrap64 (x6_1 + 1))
     ·rw [if_pos c24] at H; have c24b0 := eq_true c24; have c24b1 := decide_eq_true c24
      by_cases c25 : (wrap64 (x6_1 + 1)) ≤ (a0_1.size : Int)
      ·rw [if_pos c25] at H; have c25b0 := eq_true c25; have c25b1 := decide_eq_true c25
       by_cases c26 : x4_1.size + (a0_1.extract (x6_1 : Int).toNat ((wrap64 (x6_1 + 1)) : Int).toNat).size ≤ 9223372036854775807
       ·rw [if_pos c26] at H; have c26b0 := eq_true c26; have c26b1 := decide_eq_true c26
        try have c26b2 : (9223372036854775807 < x4_1.size + (a0_1.extract (x6_1 : Int).toNat ((wrap64 (x6_1 + 1)) : Int).toNat).size) = False := eq_false (Nat.not_lt.2 c26)
        try (have c26b3 := c26; simp only [ByteArray.size_append, size_lit, ByteArray.size_extract, List.size_toArray, List.length_cons, List.length_nil, Nat.zero_add, Nat.reduceAdd] at c26b3; have c26b4 := eq_false (Nat.not_lt.2 c26b3))
        have H' := Aside0.mk H; clear H; have p6 : 0 ≤ (x6_1 : Int) := od; have q6 : x6_1 < (a0_1.size : Int) := od; have hx6 := bt_at a0_1 x6_1; replace p6 := eq_true p6; replace q6 := eq_true q6
        go_wp2
        go_roundg k1
        case measure => have := HK1.out; omega
        case rel => exact ⟨(x3_1), (x4_1 ++ (a0_1.extract (x6_1 : Int).toNat ((wrap64 (x6_1 + 1)) : Int).toNat)), (wrap64 (x6_1 + 1)), cl, cl, H', ⟨by have := HK1.out; omega⟩, ⟨ra HO_3.out⟩, ⟨bk⟩, ⟨bwS⟩⟩
       rw [if_neg c26] at H; exact absurd H (by simp)
      rw [if_neg c25] at H; exact absurd H (by simp)
     rw [if_neg c24] at H; exact absurd H (by simp)
    rw [if_neg c5] at H; exact absurd H (by simp)
   rw [if_neg c4] at H; have c4b0 := decide_eq_false c4; clear c4
   by_cases c27 : x4_1.toList = ([] : List UInt8)
   ·rw [if_pos c27] at H; have c27b0 := beq_iff_eq.mpr c27; have c27b1 := bne_eq_false_iff_eq.mpr c27; clear c27; obtain rfl := Option.some.inj H
    go_wp2
    go_ret
    exact ⟨_, ew, ra HO_3.out, bwS⟩
   rw [if_neg c27] at H; have c27b0 := beq_eq_false_iff_ne.mpr c27; have c27b1 := bne_iff_ne.mpr c27
   by_cases c28 : x3_1.length < 8796093022208
   ·rw [if_pos c28] at H; have LMc28 := Aside0.mk c28; clear c28; obtain ⟨y923, hy923⟩ : ∃ y_ : List ByteArray, y_ = (x3_1 ++ [x4_1]) := ⟨_, rfl⟩
    replace H : (some y923) = some r := by first | (rw [hy923]; with_reducible exact H) | (have H2_ := (Option.bind_some _ _).symm.trans H; rw [hy923]; with_reducible exact H2_) | (have H2_ := (Option.bind_some _ _).symm.trans H; with_reducible exact H2_) | with_reducible exact H | (rw [hy923]; exact H) | exact H
    have Ny923 := Aside0.mk hy923; clear hy923; obtain rfl := Option.some.inj H
    go_wp2_with (first | ((with_reducible refine gate_builtin (b := .append) (xs := #[.tmp 48, .tmp 50]) rfl ?_); (try (refine gate_guard (by rfl) ?_; dsimp only)); at_builtin; refine Kd.R_append Kd.string (w0 := w) w.heap.size rfl (.tmp 48) (.tmp 50) 53 9 (.string ⟨#[]⟩) 16 rfl Tryz.underlying53 info9 rfl (by decide) (by omega) u3 x3_1 x4_1 [.string x4_1] (fun _ => True) (fun _ => False) rfl rfl ?aP (fun _ hk => hk.elim) ?aF ?aO ?aB ?aS ?aL ?_; (case aP => exact rfl); (case aB => exact bwS); (case aF => exact (fun _ _ => trivial)); (case aO => exact (ra HO_3.out)); (case aS => exact (below_size bwS)); (case aL => have := LMc28.out; omega); intro v924 w29 ho hb hg hat; rw [← Ny923.out] at ho; have n0_ := Aside0.mk (blk_grown (g := gb919) (o := .cells #[.slice A0_0 l0_0.length c0_0, .string a0_1] 24 (0, 0)) bk hg (Kd.R_ne HO_3.out BK919.out (by decide))); have n1_ := Aside0.mk (hb); have n2_ := Aside0.mk (ho); clear BK919; clear HB; clear HO_3; have BK919 := n0_; have HB := n1_; have HO925 := n2_; clear n0_ n1_ n2_; clear ho hb hg hat))
    go_ret
    exact ⟨_, ew, ra HO925.out, bwS⟩
   rw [if_neg c28] at H; exact absurd H (by simp)

def bulletinref06_tail.f (a0 : ByteArray) (a1 : Int) : Option (Int) := if a1 ≥ (a0.size : Int) then (some (-1)) else (if 0 ≤ a1 then (if a1 < (a0.size : Int) then (if (bt a0 a1) < 128 then (some (-1)) else (if (bt a0 a1) > 191 then (some (-1)) else (some (wrap64 ((wrap64 (bt a0 a1)) - 128))))) else (none)) else (none))
set_option maxHeartbeats 8000000 in
set_option maxRecDepth 100000 in
theorem bulletinref06_tail.calls (a0 : ByteArray) (a1 : Int) (r : Int) (w : World) (h : bulletinref06_tail.f a0 a1 = some r) :
  Calls Tryz.prog 182 #[.string a0, .int .i64 a1] w fun e w' => e = .returned (.int .i64 r) ∧ Drawn0 w w' := by
 have H : (if a1 ≥ (a0.size : Int) then (some (-1)) else (if 0 ≤ a1 then (if a1 < (a0.size : Int) then (if (bt a0 a1) < 128 then (some (-1)) else (if (bt a0 a1) > 191 then (some (-1)) else (some (wrap64 ((wrap64 (bt a0 a1)) - 128))))) else (none)) else (none))) = some r := h; clear h
 by_cases c3 : a1 ≥ (a0.size : Int)
 ·rw [if_pos c3] at H; have c3b0 : decide ((a0.size : Int) ≤ a1) = true := decide_eq_true c3; clear c3; obtain rfl := Option.some.inj H
  go_enter Tryz.func182, Tryz.ntmps182
  go_wp2
  go_ret
  exact ⟨cl, d0⟩
 rw [if_neg c3] at H; have c3b0 : decide ((a0.size : Int) ≤ a1) = false := decide_eq_false c3; clear c3
 by_cases c4 : 0 ≤ a1
 ·rw [if_pos c4] at H; have c4b0 := decide_eq_true c4; clear c4
  by_cases c5 : a1 < (a0.size : Int)
  ·rw [if_pos c5] at H; have c5b0 := decide_eq_true c5; clear c5
   by_cases c7 : (bt a0 a1) < 128
   ·rw [if_pos c7] at H; have c7b0 := decide_eq_true c7; clear c7; obtain rfl := Option.some.inj H; have p6 : 0 ≤ (a1 : Int) := od; have q6 : a1 < (a0.size : Int) := od; have hx6 := bt_at a0 a1; replace p6 := eq_true p6; replace q6 := eq_true q6
    go_enter Tryz.func182, Tryz.ntmps182
    go_wp2
    go_ret
    exact ⟨cl, d0⟩
   rw [if_neg c7] at H; have c7b0 := decide_eq_false c7; clear c7
   by_cases c9 : (bt a0 a1) > 191
   ·rw [if_pos c9] at H; have c9b0 : decide (191 < (bt a0 a1)) = true := decide_eq_true c9; clear c9; obtain rfl := Option.some.inj H; have p6 : 0 ≤ (a1 : Int) := od; have q6 : a1 < (a0.size : Int) := od; have hx6 := bt_at a0 a1; replace p6 := eq_true p6; replace q6 := eq_true q6; have p8 : 0 ≤ (a1 : Int) := od; have q8 : a1 < (a0.size : Int) := od; have hx8 := bt_at a0 a1; replace p8 := eq_true p8; replace q8 := eq_true q8
    go_enter Tryz.func182, Tryz.ntmps182
    go_wp2
    go_ret
    exact ⟨cl, d0⟩
   rw [if_neg c9] at H; have c9b0 : decide (191 < (bt a0 a1)) = false := decide_eq_false c9; clear c9; obtain rfl := Option.some.inj H; have p6 : 0 ≤ (a1 : Int) := od; have q6 : a1 < (a0.size : Int) := od; have hx6 := bt_at a0 a1; replace p6 := eq_true p6; replace q6 := eq_true q6; have p8 : 0 ≤ (a1 : Int) := od; have q8 : a1 < (a0.size : Int) := od; have hx8 := bt_at a0 a1; replace p8 := eq_true p8; replace q8 := eq_true q8; have p10 : 0 ≤ (a1 : Int) := od; have q10 : a1 < (a0.size : Int) := od; have hx10 := bt_at a0 a1; replace p10 := eq_true p10; replace q10 := eq_true q10
   go_enter Tryz.func182, Tryz.ntmps182
   go_wp2
   go_ret
   exact ⟨cl, d0⟩
  rw [if_neg c5] at H; exact absurd H (by simp)
 rw [if_neg c4] at H; exact absurd H (by simp)

end Go.Proofs.YtihabmcaplnbcaaGreatDoor.Fn
namespace Go.Proofs.YtihabmcaplnbcaaGreatDoor.Fn
open Go.RowKit Go.Proofs.YtihabmcaplnbcaaGreatDoorW.PrintWords Go.Proofs.YtihabmcaplnbcaaGreatDoorW.PrintLast Go.Proofs.YtihabmcaplnbcaaGreatDoorW.PrintMore
attribute [local go_sem] max2_int min2_int max_two min_two max_three min_three max_four min_four
set_option linter.unusedVariables false
set_option linter.unusedSimpArgs false

mutual
def bulletinref06_One.j0 : Nat → ByteArray → Int → Int → Int → Int → Bool → Option (Int × Int)
 | 0, _, _, _, _, _, _ => none
 | k + 1, x0, x1, x6, x7, x8, x24 => if x24 = true then (bulletinref06_One.j1 k x0 x1 x6 2 (wrap64 (x6 - 192))) else (bulletinref06_One.j1 k x0 x1 x6 x7 x8)
def bulletinref06_One.j1 : Nat → ByteArray → Int → Int → Int → Int → Option (Int × Int)
 | 0, _, _, _, _, _ => none
 | k + 1, x0, x1, x6, x7, x8 => if x6 ≥ 224 then (bulletinref06_One.j2 k x0 x1 x6 x7 x8 (decide (x6 < 240))) else (bulletinref06_One.j2 k x0 x1 x6 x7 x8 false)
def bulletinref06_One.j2 : Nat → ByteArray → Int → Int → Int → Int → Bool → Option (Int × Int)
 | 0, _, _, _, _, _, _ => none
 | k + 1, x0, x1, x6, x7, x8, x32 => if x32 = true then (bulletinref06_One.j3 k x0 x1 x6 3 (wrap64 (x6 - 224))) else (bulletinref06_One.j3 k x0 x1 x6 x7 x8)
def bulletinref06_One.j3 : Nat → ByteArray → Int → Int → Int → Int → Option (Int × Int)
 | 0, _, _, _, _, _ => none
 | k + 1, x0, x1, x6, x7, x8 => if x6 ≥ 240 then (bulletinref06_One.j4 k x0 x1 x6 x7 x8 (decide (x6 < 248))) else (bulletinref06_One.j4 k x0 x1 x6 x7 x8 false)
def bulletinref06_One.j4 : Nat → ByteArray → Int → Int → Int → Int → Bool → Option (Int × Int)
 | 0, _, _, _, _, _, _ => none
 | k + 1, x0, x1, x6, x7, x8, x40 => if x40 = true then (bulletinref06_One.j5 k x0 x1 4 (wrap64 (x6 - 240))) else (bulletinref06_One.j5 k x0 x1 x7 x8)
def bulletinref06_One.j5 : Nat → ByteArray → Int → Int → Int → Option (Int × Int)
 | 0, _, _, _, _ => none
 | k + 1, x0, x1, x7, x8 => bulletinref06_One.l0 k x0 x1 x7 x8 1
def bulletinref06_One.l0 : Nat → ByteArray → Int → Int → Int → Int → Option (Int × Int)
 | 0, _, _, _, _, _ => none
 | k + 1, x0, x1, x7, x8, x9 => if x9 < x7 then ((bulletinref06_tail.f x0 (wrap64 (x1 + x9))).bind fun t825 => (if t825 < 0 then (some ((-1), 1)) else (bulletinref06_One.l0 k x0 x1 x7 (wrap64 ((wrap64 (64 * x8)) + t825)) (wrap64 (x9 + 1))))) else ((some (([0, 0, 128, 2048, 65536] : List Int) : List Int)).bind fun y826 => (if x7 = 0 then (some ((-1), 1)) else (if 0 ≤ x7 then (if x7 < (y826.length : Int) then (if x8 < (rd y826 x7) then (some ((-1), 1)) else (if x8 ≥ 55296 then (if x8 ≤ 57343 then (some ((-1), 1)) else (if x8 > 1114111 then (some ((-1), 1)) else (some (x8, x7)))) else (if x8 > 1114111 then (some ((-1), 1)) else (some (x8, x7))))) else (none)) else (none))))
end
def bulletinref06_One.f (k : Nat) (a0 : ByteArray) (a1 : Int) : Option (Int × Int) := if 0 ≤ a1 then (if a1 < (a0.size : Int) then (if (wrap64 (bt a0 a1)) < 128 then (some (wrap64 (bt a0 a1), 1)) else (if (wrap64 (bt a0 a1)) ≥ 192 then (bulletinref06_One.j0 k a0 a1 (wrap64 (bt a0 a1)) 0 0 (decide ((wrap64 (bt a0 a1)) < 224))) else (bulletinref06_One.j0 k a0 a1 (wrap64 (bt a0 a1)) 0 0 false))) else (none)) else (none)
set_option maxHeartbeats 8000000 in
set_option maxRecDepth 100000 in
theorem bulletinref06_One.calls (k : Nat) (a0 : ByteArray) (a1 : Int) (r1 : Int) (r2 : Int) (w : World) (h : bulletinref06_One.f k a0 a1 = some (r1, r2)) :
  Calls Tryz.prog 147 #[.string a0, .int .i64 a1] w fun e w' => e = .returned (.tuple #[.int .i64 r1, .int .i64 r2]) ∧ Below w.heap.size w w' := by
 have HB := Aside0.mk (Below.refl w.heap.size w); have H : (if 0 ≤ a1 then (if a1 < (a0.size : Int) then (if (wrap64 (bt a0 a1)) < 128 then (some (wrap64 (bt a0 a1), 1)) else (if (wrap64 (bt a0 a1)) ≥ 192 then (bulletinref06_One.j0 k a0 a1 (wrap64 (bt a0 a1)) 0 0 (decide ((wrap64 (bt a0 a1)) < 224))) else (bulletinref06_One.j0 k a0 a1 (wrap64 (bt a0 a1)) 0 0 false))) else (none)) else (none)) = some (r1, r2) := h; clear h
 by_cases c3 : 0 ≤ a1
 ·rw [if_pos c3] at H; have c3b0 := decide_eq_true c3; clear c3
  by_cases c4 : a1 < (a0.size : Int)
  ·rw [if_pos c4] at H; have c4b0 := decide_eq_true c4; clear c4
   by_cases c6 : (wrap64 (bt a0 a1)) < 128
   ·rw [if_pos c6] at H; have c6b0 := decide_eq_true c6; clear c6; simp only [Option.some.injEq, Prod.mk.injEq] at H; obtain ⟨rfl, rfl⟩ := H; have p5 : 0 ≤ (a1 : Int) := od; have q5 : a1 < (a0.size : Int) := od; have hx5 := bt_at a0 a1; replace p5 := eq_true p5; replace q5 := eq_true q5
    go_enter Tryz.func147, Tryz.ntmps147
    go_wp2
    go_ret2
    exact ⟨ew, bw⟩
   rw [if_neg c6] at H; have c6b0 := decide_eq_false c6; clear c6; have HC7 := Aside0.mk H; clear H; have p5 : 0 ≤ (a1 : Int) := od; have q5 : a1 < (a0.size : Int) := od; have hx5 := bt_at a0 a1; replace p5 := eq_true p5; replace q5 := eq_true q5
   go_enter Tryz.func147, Tryz.ntmps147
   go_upto_region 6 with (fail)
   go_cut [24] (fun v24 wc => ∃ (kq : Nat) (x24_6 : Bool), v24 = .bool x24_6 ∧ Aside0 (bulletinref06_One.j0 kq a0 a1 (wrap64 (bt a0 a1)) 0 0 x24_6 = some (r1, r2)) ∧ Aside0 (kq ≤ k) ∧ Aside0 (Below w.heap.size w wc))
   case first =>
    have H := HC7.out; clear HC7
    by_cases c8 : (wrap64 (bt a0 a1)) ≥ 192
    ·rw [if_pos c8] at H; have c8b0 : decide (192 ≤ (wrap64 (bt a0 a1))) = true := decide_eq_true c8; clear c8
     (first | rw [c8b0] | (simp only [i64_w, i32_w]; rw [c8b0]) | skip)
     have H' := Aside0.mk H; clear H
     go_wp2
     go_meet
     case rel => exact ⟨_, (decide ((wrap64 (bt a0 a1)) < 224)), cl, H', ⟨by first | omega | exact Nat.le_refl _⟩, ⟨bw⟩⟩
    rw [if_neg c8] at H; have c8b0 : decide (192 ≤ (wrap64 (bt a0 a1))) = false := decide_eq_false c8; clear c8
    (first | rw [c8b0] | (simp only [i64_w, i32_w]; rw [c8b0]) | skip)
    have H' := Aside0.mk H; clear H
    go_wp2
    go_meet
    case rel => exact ⟨_, (false), cl, H', ⟨by first | omega | exact Nat.le_refl _⟩, ⟨bw⟩⟩
   case rest =>
    clear HC7
    try clear c1
    try clear p2
    try clear c3
    try clear c3b0
    try clear c4
    try clear c4b0
    try clear p5
    try clear q5
    try clear hx5
    try clear c6
    try clear c6b0
    try clear p6
    try clear c8
    try clear c8b0
    try clear p5
    try clear q5
    obtain ⟨kq, x24_6, rfl, HA, HJ6, HB⟩ := hcut; cases kq with
    | zero => exact absurd HA.out (by simp [bulletinref06_One.j0])
    | succ kj6 =>
     have H := HA.out; clear HA; simp only [bulletinref06_One.j0] at H; have HC9 := Aside0.mk H; clear H
     go_upto_if 24 with (fail)
     go_cut [7, 8] (fun v7 v8 wc => ∃ (kq : Nat) (x7_8 : Int) (x8_8 : Int), v7 = .int .i64 x7_8 ∧ v8 = .int .i64 x8_8 ∧ Aside0 (bulletinref06_One.j1 kq a0 a1 (wrap64 (bt a0 a1)) x7_8 x8_8 = some (r1, r2)) ∧ Aside0 (kq ≤ kj6) ∧ Aside0 (Below w.heap.size w wc))
     case first =>
      have H := HC9.out; clear HC9
      by_cases c10 : x24_6 = true
      ·subst c10; rw [if_pos rfl] at H; have H' := Aside0.mk H; clear H
       go_wp2
       go_meet
       case rel => exact ⟨_, (2), (wrap64 ((wrap64 (bt a0 a1)) - 192)), cl, cl, H', ⟨by have := HJ6.out; first | omega | exact Nat.le_refl _⟩, ⟨bw⟩⟩
      replace c10 := Bool.eq_false_iff.mpr c10; subst c10; rw [if_neg nft] at H; have H' := Aside0.mk H; clear H
      go_wp2
      go_meet
      case rel => exact ⟨_, (0), (0), cl, cl, H', ⟨by have := HJ6.out; first | omega | exact Nat.le_refl _⟩, ⟨bw⟩⟩
     case rest =>
      clear HC9
      try clear c1
      try clear p2
      try clear c3
      try clear c3b0
      try clear c4
      try clear c4b0
      try clear p5
      try clear q5
      try clear hx5
      try clear c6
      try clear c6b0
      try clear p6
      try clear c8
      try clear c8b0
      try clear c10
      try clear p2
      try clear p5
      try clear p6
      try clear q5
      obtain ⟨kq, x7_8, x8_8, rfl, rfl, HA, HJ8, HB⟩ := hcut; cases kq with
      | zero => exact absurd HA.out (by simp [bulletinref06_One.j1])
      | succ kj8 =>
       have H := HA.out; clear HA; simp only [bulletinref06_One.j1] at H; have HC11 := Aside0.mk H; clear H
       go_upto_region 9 with (fail)
       go_cut [32] (fun v32 wc => ∃ (kq : Nat) (x32_10 : Bool), v32 = .bool x32_10 ∧ Aside0 (bulletinref06_One.j2 kq a0 a1 (wrap64 (bt a0 a1)) x7_8 x8_8 x32_10 = some (r1, r2)) ∧ Aside0 (kq ≤ kj8) ∧ Aside0 (Below w.heap.size w wc))
       case first =>
        have H := HC11.out; clear HC11
        by_cases c12 : (wrap64 (bt a0 a1)) ≥ 224
        ·rw [if_pos c12] at H; have c12b0 : decide (224 ≤ (wrap64 (bt a0 a1))) = true := decide_eq_true c12; clear c12
         (first | rw [c12b0] | (simp only [i64_w, i32_w]; rw [c12b0]) | skip)
         have H' := Aside0.mk H; clear H
         go_wp2
         go_meet
         case rel => exact ⟨_, (decide ((wrap64 (bt a0 a1)) < 240)), cl, H', ⟨by have := HJ6.out; have := HJ8.out; first | omega | exact Nat.le_refl _⟩, ⟨bw⟩⟩
        rw [if_neg c12] at H; have c12b0 : decide (224 ≤ (wrap64 (bt a0 a1))) = false := decide_eq_false c12; clear c12
        (first | rw [c12b0] | (simp only [i64_w, i32_w]; rw [c12b0]) | skip)
        have H' := Aside0.mk H; clear H
        go_wp2
        go_meet
        case rel => exact ⟨_, (false), cl, H', ⟨by have := HJ6.out; have := HJ8.out; first | omega | exact Nat.le_refl _⟩, ⟨bw⟩⟩
       case rest =>
        clear HC11
        try clear c1
        try clear p2
        try clear c3
        try clear c3b0
        try clear c4
        try clear c4b0
        try clear p5
        try clear q5
        try clear hx5
        try clear c6
        try clear c6b0
        try clear p6
        try clear c8
        try clear c8b0
        try clear c10
        try clear c12
        try clear c12b0
        try clear p2
        try clear p5
        try clear p6
        try clear q5
        obtain ⟨kq, x32_10, rfl, HA, HJ10, HB⟩ := hcut; cases kq with
        | zero => exact absurd HA.out (by simp [bulletinref06_One.j2])
        | succ kj10 =>
         have H := HA.out; clear HA; simp only [bulletinref06_One.j2] at H; have HC13 := Aside0.mk H; clear H
         go_upto_if 32 with (fail)
         go_cut [7, 8] (fun v7 v8 wc => ∃ (kq : Nat) (x7_12 : Int) (x8_12 : Int), v7 = .int .i64 x7_12 ∧ v8 = .int .i64 x8_12 ∧ Aside0 (bulletinref06_One.j3 kq a0 a1 (wrap64 (bt a0 a1)) x7_12 x8_12 = some (r1, r2)) ∧ Aside0 (kq ≤ kj10) ∧ Aside0 (Below w.heap.size w wc))
         case first =>
          have H := HC13.out; clear HC13
          by_cases c14 : x32_10 = true
          ·subst c14; rw [if_pos rfl] at H; have H' := Aside0.mk H; clear H
           go_wp2
           go_meet
           case rel => exact ⟨_, (3), (wrap64 ((wrap64 (bt a0 a1)) - 224)), cl, cl, H', ⟨by have := HJ6.out; have := HJ8.out; have := HJ10.out; first | omega | exact Nat.le_refl _⟩, ⟨bw⟩⟩
          replace c14 := Bool.eq_false_iff.mpr c14; subst c14; rw [if_neg nft] at H; have H' := Aside0.mk H; clear H
          go_wp2
          go_meet
          case rel => exact ⟨_, (x7_8), (x8_8), cl, cl, H', ⟨by have := HJ6.out; have := HJ8.out; have := HJ10.out; first | omega | exact Nat.le_refl _⟩, ⟨bw⟩⟩
         case rest =>
          clear HC13
          try clear c1
          try clear p2
          try clear c3
          try clear c3b0
          try clear c4
          try clear c4b0
          try clear p5
          try clear q5
          try clear hx5
          try clear c6
          try clear c6b0
          try clear p6
          try clear c8
          try clear c8b0
          try clear c10
          try clear c12
          try clear c12b0
          try clear c14
          try clear p2
          try clear p5
          try clear p6
          try clear q5
          obtain ⟨kq, x7_12, x8_12, rfl, rfl, HA, HJ12, HB⟩ := hcut; cases kq with
          | zero => exact absurd HA.out (by simp [bulletinref06_One.j3])
          | succ kj12 =>
           have H := HA.out; clear HA; simp only [bulletinref06_One.j3] at H; have HC15 := Aside0.mk H; clear H
           go_upto_region 12 with (fail)
           go_cut [40] (fun v40 wc => ∃ (kq : Nat) (x40_14 : Bool), v40 = .bool x40_14 ∧ Aside0 (bulletinref06_One.j4 kq a0 a1 (wrap64 (bt a0 a1)) x7_12 x8_12 x40_14 = some (r1, r2)) ∧ Aside0 (kq ≤ kj12) ∧ Aside0 (Below w.heap.size w wc))
           case first =>
            have H := HC15.out; clear HC15
            by_cases c16 : (wrap64 (bt a0 a1)) ≥ 240
            ·rw [if_pos c16] at H; have c16b0 : decide (240 ≤ (wrap64 (bt a0 a1))) = true := decide_eq_true c16; clear c16
             (first | rw [c16b0] | (simp only [i64_w, i32_w]; rw [c16b0]) | skip)
             have H' := Aside0.mk H; clear H
             go_wp2
             go_meet
             case rel => exact ⟨_, (decide ((wrap64 (bt a0 a1)) < 248)), cl, H', ⟨by have := HJ6.out; have := HJ8.out; have := HJ10.out; have := HJ12.out; first | omega | exact Nat.le_refl _⟩, ⟨bw⟩⟩
            rw [if_neg c16] at H; have c16b0 : decide (240 ≤ (wrap64 (bt a0 a1))) = false := decide_eq_false c16; clear c16
            (first | rw [c16b0] | (simp only [i64_w, i32_w]; rw [c16b0]) | skip)
            have H' := Aside0.mk H; clear H
            go_wp2
            go_meet
            case rel => exact ⟨_, (false), cl, H', ⟨by have := HJ6.out; have := HJ8.out; have := HJ10.out; have := HJ12.out; first | omega | exact Nat.le_refl _⟩, ⟨bw⟩⟩
           case rest =>
            clear HC15
            try clear c1
            try clear p2
            try clear c3
            try clear c3b0
            try clear c4
            try clear c4b0
            try clear p5
            try clear q5
            try clear hx5
            try clear c6
            try clear c6b0
            try clear p6
            try clear c8
            try clear c8b0
            try clear c10
            try clear c12
            try clear c12b0
            try clear c14
            try clear c16
            try clear c16b0
            try clear p2
            try clear p5
            try clear p6
            try clear q5
            obtain ⟨kq, x40_14, rfl, HA, HJ14, HB⟩ := hcut; cases kq with
            | zero => exact absurd HA.out (by simp [bulletinref06_One.j4])
            | succ kj14 =>
             have H := HA.out; clear HA; simp only [bulletinref06_One.j4] at H; have HC17 := Aside0.mk H; clear H
             go_upto_if 40 with (fail)
             go_cut [7, 8] (fun v7 v8 wc => ∃ (kq : Nat) (x7_16 : Int) (x8_16 : Int), v7 = .int .i64 x7_16 ∧ v8 = .int .i64 x8_16 ∧ Aside0 (bulletinref06_One.j5 kq a0 a1 x7_16 x8_16 = some (r1, r2)) ∧ Aside0 (kq ≤ kj14) ∧ Aside0 (Below w.heap.size w wc))
             case first =>
              have H := HC17.out; clear HC17
              by_cases c18 : x40_14 = true
              ·subst c18; rw [if_pos rfl] at H; have H' := Aside0.mk H; clear H
               go_wp2
               go_meet
               case rel => exact ⟨_, (4), (wrap64 ((wrap64 (bt a0 a1)) - 240)), cl, cl, H', ⟨by have := HJ6.out; have := HJ8.out; have := HJ10.out; have := HJ12.out; have := HJ14.out; first | omega | exact Nat.le_refl _⟩, ⟨bw⟩⟩
              replace c18 := Bool.eq_false_iff.mpr c18; subst c18; rw [if_neg nft] at H; have H' := Aside0.mk H; clear H
              go_wp2
              go_meet
              case rel => exact ⟨_, (x7_12), (x8_12), cl, cl, H', ⟨by have := HJ6.out; have := HJ8.out; have := HJ10.out; have := HJ12.out; have := HJ14.out; first | omega | exact Nat.le_refl _⟩, ⟨bw⟩⟩
             case rest =>
              clear HC17
              try clear c1
              try clear p2
              try clear c3
              try clear c3b0
              try clear c4
              try clear c4b0
              try clear p5
              try clear q5
              try clear hx5
              try clear c6
              try clear c6b0
              try clear p6
              try clear c8
              try clear c8b0
              try clear c10
              try clear c12
              try clear c12b0
              try clear c14
              try clear c16
              try clear c16b0
              try clear c18
              try clear p2
              try clear p5
              try clear p6
              try clear q5
              obtain ⟨kq, x7_16, x8_16, rfl, rfl, HA, HJ16, HB⟩ := hcut; cases kq with
              | zero => exact absurd HA.out (by simp [bulletinref06_One.j5])
              | succ kj16 =>
               have H := HA.out; clear HA; simp only [bulletinref06_One.j5] at H; have H' := Aside0.mk H; clear H
               go_wp2
               go_loopg [8, 9] kj16 (fun kq v8 v9 w' => ∃ (x8_7 : Int) (x9_7 : Int), v8 = .int .i64 x8_7 ∧ v9 = .int .i64 x9_7 ∧ Aside0 (bulletinref06_One.l0 kq a0 a1 x7_16 x8_7 x9_7 = some (r1, r2)) ∧ Aside0 (kq ≤ kj16) ∧ Aside0 (Below w.heap.size w w'))
               case atStart => exact ⟨(x8_16), (1), cl, cl, H', ⟨Nat.le_refl _⟩, ⟨bw⟩⟩
               case round =>
                clear H'
                try clear c1
                try clear p2
                try clear c3
                try clear c3b0
                try clear c4
                try clear c4b0
                try clear p5
                try clear q5
                try clear hx5
                try clear c6
                try clear c6b0
                try clear p6
                try clear c8
                try clear c8b0
                try clear c10
                try clear c12
                try clear c12b0
                try clear c14
                try clear c16
                try clear c16b0
                try clear c18
                try clear p2
                try clear p5
                try clear p6
                try clear q5
                obtain ⟨x8_7, x9_7, rfl, rfl, HA, HK7, HB⟩ := hrel; cases gk with
                | zero => exact absurd HA.out (by simp [bulletinref06_One.l0])
                | succ k7 =>
                 have H := HA.out; clear HA; simp only [bulletinref06_One.l0] at H
                 by_cases c19 : x9_7 < x7_16
                 ·rw [if_pos c19] at H; have c19b0 := decide_eq_true c19; clear c19; replace H := Option.bind_eq_some_iff.mp H; obtain ⟨t825, A200, H⟩ := H; have A20 := Aside0.mk A200; clear A200
                  by_cases c21 : t825 < 0
                  ·rw [if_pos c21] at H; have c21b0 := decide_eq_true c21; clear c21; simp only [Option.some.injEq, Prod.mk.injEq] at H; obtain ⟨rfl, rfl⟩ := H
                   go_wp2_with (first | ((with_reducible refine gate_callee (f := 182) rfl ?_); refine goesL_ (some 52) rfl rfl Tryz.func182 (by kernel_rfl) rfl #[.string a0, .int .i64 (wrap64 (a1 + x9_7))] rfl am ?_; (with_reducible refine (bulletinref06_tail.calls a0 (wrap64 (a1 + x9_7)) t825 _ A20.out).mono ?_); rintro e w' ⟨rfl, ⟨nd, rfl⟩⟩; refine ⟨_, rfl, ?_⟩))
                   go_ret2
                   exact ⟨ew, bw⟩
                  rw [if_neg c21] at H; have c21b0 := decide_eq_false c21; clear c21; have H' := Aside0.mk H; clear H
                  go_wp2_with (first | ((with_reducible refine gate_callee (f := 182) rfl ?_); refine goesL_ (some 52) rfl rfl Tryz.func182 (by kernel_rfl) rfl #[.string a0, .int .i64 (wrap64 (a1 + x9_7))] rfl am ?_; (with_reducible refine (bulletinref06_tail.calls a0 (wrap64 (a1 + x9_7)) t825 _ A20.out).mono ?_); rintro e w' ⟨rfl, ⟨nd, rfl⟩⟩; refine ⟨_, rfl, ?_⟩))
                  go_roundg k7
                  case measure => have := HJ6.out; have := HJ8.out; have := HJ10.out; have := HJ12.out; have := HJ14.out; have := HJ16.out; have := HK7.out; omega
                  case rel => exact ⟨(wrap64 ((wrap64 (64 * x8_7)) + t825)), (wrap64 (x9_7 + 1)), cl, cl, H', ⟨by have := HJ6.out; have := HJ8.out; have := HJ10.out; have := HJ12.out; have := HJ14.out; have := HJ16.out; have := HK7.out; omega⟩, ⟨bw⟩⟩
                 rw [if_neg c19] at H; have c19b0 := decide_eq_false c19; clear c19; obtain ⟨y826, hy826⟩ : ∃ y_ : List Int, y_ = (([0, 0, 128, 2048, 65536] : List Int)) := ⟨_, rfl⟩
                 replace H : (if x7_16 = 0 then (some ((-1), 1)) else (if 0 ≤ x7_16 then (if x7_16 < (y826.length : Int) then (if x8_7 < (rd y826 x7_16) then (some ((-1), 1)) else (if x8_7 ≥ 55296 then (if x8_7 ≤ 57343 then (some ((-1), 1)) else (if x8_7 > 1114111 then (some ((-1), 1)) else (some (x8_7, x7_16)))) else (if x8_7 > 1114111 then (some ((-1), 1)) else (some (x8_7, x7_16))))) else (none)) else (none))) = some (r1, r2) := by first | (rw [hy826]; with_reducible exact H) | (have H2_ := (Option.bind_some _ _).symm.trans H; rw [hy826]; with_reducible exact H2_) | (have H2_ := (Option.bind_some _ _).symm.trans H; with_reducible exact H2_) | with_reducible exact H | (rw [hy826]; exact H) | exact H
                 have Ny826 := Aside0.mk hy826; clear hy826
                 by_cases c22 : x7_16 = 0
                 ·rw [if_pos c22] at H; have c22b0 := beq_iff_eq.mpr c22; have c22b1 := bne_eq_false_iff_eq.mpr c22; clear c22; simp only [Option.some.injEq, Prod.mk.injEq] at H; obtain ⟨rfl, rfl⟩ := H
                  go_wp2_with (first | ((with_reducible refine gate_dst (N := 59) rfl ?_); refine Kd.R_lit (Kd.int .i64) _ 3 ?hg (N := 59) ?hd (xs := ([0, 0, 128, 2048, 65536] : List Int)) (inner := [.int .i64 0, .int .i64 0, .int .i64 128, .int .i64 2048, .int .i64 65536]) (ok := fun _ => True) (okp := fun _ => True) ?hr ?hp (fun _ hk => hk) trivial (Below.refl _ _) (Nat.le_refl _) (by simp) ?_; (case hd => rfl); (case hg => rfl); (case hr => first | (go_simp; done) | (go_simp; rfl)); (case hp => exact (Reps.one (show Kd.M (Kd.int .i64) _ _ _ 0 [.int .i64 0] from rfl) (Reps.one (show Kd.M (Kd.int .i64) _ _ _ 0 [.int .i64 0] from rfl) (Reps.one (show Kd.M (Kd.int .i64) _ _ _ 128 [.int .i64 128] from rfl) (Reps.one (show Kd.M (Kd.int .i64) _ _ _ 2048 [.int .i64 2048] from rfl) (Reps.one (show Kd.M (Kd.int .i64) _ _ _ 65536 [.int .i64 65536] from rfl) (Reps.none _ _))))))); intro v827 w23 ho24 hb hg_ hnew_; clear hg_ hnew_; (first | rw [← Ny826.out] at ho24 | (simp only [Int.reduceToNat] at ho24; rw [← Ny826.out] at ho24)); have n0_ := Aside0.mk (Kd.R_lower ho24 (below_size bw)); have n1_ := Aside0.mk (below_step bw hb); clear HB; have HO828 := n0_; have HB := n1_; clear n0_ n1_; clear hb ho24))
                  go_ret2
                  exact ⟨ew, bw⟩
                 rw [if_neg c22] at H; have c22b0 := beq_eq_false_iff_ne.mpr c22; have c22b1 := bne_iff_ne.mpr c22
                 by_cases c25 : 0 ≤ x7_16
                 ·rw [if_pos c25] at H; have c25b0 := decide_eq_true c25; clear c25
                  by_cases c26 : x7_16 < (y826.length : Int)
                  ·rw [if_pos c26] at H; have c26b0 := decide_eq_true c26; clear c26
                   by_cases c27 : x8_7 < (rd y826 x7_16)
                   ·rw [if_pos c27] at H; have c27b0 := decide_eq_true c27; clear c27; simp only [Option.some.injEq, Prod.mk.injEq] at H; obtain ⟨rfl, rfl⟩ := H
                    go_wp2_with (first | ((with_reducible refine gate_dst (N := 59) rfl ?_); refine Kd.R_lit (Kd.int .i64) _ 3 ?hg (N := 59) ?hd (xs := ([0, 0, 128, 2048, 65536] : List Int)) (inner := [.int .i64 0, .int .i64 0, .int .i64 128, .int .i64 2048, .int .i64 65536]) (ok := fun _ => True) (okp := fun _ => True) ?hr ?hp (fun _ hk => hk) trivial (Below.refl _ _) (Nat.le_refl _) (by simp) ?_; (case hd => rfl); (case hg => rfl); (case hr => first | (go_simp; done) | (go_simp; rfl)); (case hp => exact (Reps.one (show Kd.M (Kd.int .i64) _ _ _ 0 [.int .i64 0] from rfl) (Reps.one (show Kd.M (Kd.int .i64) _ _ _ 0 [.int .i64 0] from rfl) (Reps.one (show Kd.M (Kd.int .i64) _ _ _ 128 [.int .i64 128] from rfl) (Reps.one (show Kd.M (Kd.int .i64) _ _ _ 2048 [.int .i64 2048] from rfl) (Reps.one (show Kd.M (Kd.int .i64) _ _ _ 65536 [.int .i64 65536] from rfl) (Reps.none _ _))))))); intro v827 w28 ho29 hb hg_ hnew_; clear hg_ hnew_; (first | rw [← Ny826.out] at ho29 | (simp only [Int.reduceToNat] at ho29; rw [← Ny826.out] at ho29)); have n0_ := Aside0.mk (Kd.R_lower ho29 (below_size bw)); have n1_ := Aside0.mk (below_step bw hb); clear HB; have HO828 := n0_; have HB := n1_; clear n0_ n1_; clear hb ho29; obtain ⟨Ao30, co30, eo30⟩ := Kd.R_slice HO828.out; subst eo30; have p829 : 0 ≤ (x7_16 : Int) := od; have q829 : x7_16 < (y826.length : Int) := od; obtain ⟨ad829, e829, hx829_0⟩ := Kd.at_int (Kd.R_reads' HO828.out).2.2 x7_16 p829 q829; cases e829; replace p829 := eq_true p829; replace q829 := eq_true q829))
                    go_ret2
                    exact ⟨ew, bw⟩
                   rw [if_neg c27] at H; have c27b0 := decide_eq_false c27; clear c27
                   by_cases c31 : x8_7 ≥ 55296
                   ·rw [if_pos c31] at H; have c31b0 : decide (55296 ≤ x8_7) = true := decide_eq_true c31; clear c31
                    by_cases c32 : x8_7 ≤ 57343
                    ·rw [if_pos c32] at H; have c32b0 := decide_eq_true c32; clear c32; simp only [Option.some.injEq, Prod.mk.injEq] at H; obtain ⟨rfl, rfl⟩ := H
                     go_wp2_with (first | ((with_reducible refine gate_dst (N := 59) rfl ?_); refine Kd.R_lit (Kd.int .i64) _ 3 ?hg (N := 59) ?hd (xs := ([0, 0, 128, 2048, 65536] : List Int)) (inner := [.int .i64 0, .int .i64 0, .int .i64 128, .int .i64 2048, .int .i64 65536]) (ok := fun _ => True) (okp := fun _ => True) ?hr ?hp (fun _ hk => hk) trivial (Below.refl _ _) (Nat.le_refl _) (by simp) ?_; (case hd => rfl); (case hg => rfl); (case hr => first | (go_simp; done) | (go_simp; rfl)); (case hp => exact (Reps.one (show Kd.M (Kd.int .i64) _ _ _ 0 [.int .i64 0] from rfl) (Reps.one (show Kd.M (Kd.int .i64) _ _ _ 0 [.int .i64 0] from rfl) (Reps.one (show Kd.M (Kd.int .i64) _ _ _ 128 [.int .i64 128] from rfl) (Reps.one (show Kd.M (Kd.int .i64) _ _ _ 2048 [.int .i64 2048] from rfl) (Reps.one (show Kd.M (Kd.int .i64) _ _ _ 65536 [.int .i64 65536] from rfl) (Reps.none _ _))))))); intro v827 w33 ho34 hb hg_ hnew_; clear hg_ hnew_; (first | rw [← Ny826.out] at ho34 | (simp only [Int.reduceToNat] at ho34; rw [← Ny826.out] at ho34)); have n0_ := Aside0.mk (Kd.R_lower ho34 (below_size bw)); have n1_ := Aside0.mk (below_step bw hb); clear HB; have HO828 := n0_; have HB := n1_; clear n0_ n1_; clear hb ho34; obtain ⟨Ao35, co35, eo35⟩ := Kd.R_slice HO828.out; subst eo35; have p829 : 0 ≤ (x7_16 : Int) := od; have q829 : x7_16 < (y826.length : Int) := od; obtain ⟨ad829, e829, hx829_0⟩ := Kd.at_int (Kd.R_reads' HO828.out).2.2 x7_16 p829 q829; cases e829; replace p829 := eq_true p829; replace q829 := eq_true q829))
                     go_ret2
                     exact ⟨ew, bw⟩
                    rw [if_neg c32] at H; have c32b0 := decide_eq_false c32; clear c32
                    by_cases c36 : x8_7 > 1114111
                    ·rw [if_pos c36] at H; have c36b0 : decide (1114111 < x8_7) = true := decide_eq_true c36; clear c36; simp only [Option.some.injEq, Prod.mk.injEq] at H; obtain ⟨rfl, rfl⟩ := H
                     go_wp2_with (first | ((with_reducible refine gate_dst (N := 59) rfl ?_); refine Kd.R_lit (Kd.int .i64) _ 3 ?hg (N := 59) ?hd (xs := ([0, 0, 128, 2048, 65536] : List Int)) (inner := [.int .i64 0, .int .i64 0, .int .i64 128, .int .i64 2048, .int .i64 65536]) (ok := fun _ => True) (okp := fun _ => True) ?hr ?hp (fun _ hk => hk) trivial (Below.refl _ _) (Nat.le_refl _) (by simp) ?_; (case hd => rfl); (case hg => rfl); (case hr => first | (go_simp; done) | (go_simp; rfl)); (case hp => exact (Reps.one (show Kd.M (Kd.int .i64) _ _ _ 0 [.int .i64 0] from rfl) (Reps.one (show Kd.M (Kd.int .i64) _ _ _ 0 [.int .i64 0] from rfl) (Reps.one (show Kd.M (Kd.int .i64) _ _ _ 128 [.int .i64 128] from rfl) (Reps.one (show Kd.M (Kd.int .i64) _ _ _ 2048 [.int .i64 2048] from rfl) (Reps.one (show Kd.M (Kd.int .i64) _ _ _ 65536 [.int .i64 65536] from rfl) (Reps.none _ _))))))); intro v827 w37 ho38 hb hg_ hnew_; clear hg_ hnew_; (first | rw [← Ny826.out] at ho38 | (simp only [Int.reduceToNat] at ho38; rw [← Ny826.out] at ho38)); have n0_ := Aside0.mk (Kd.R_lower ho38 (below_size bw)); have n1_ := Aside0.mk (below_step bw hb); clear HB; have HO828 := n0_; have HB := n1_; clear n0_ n1_; clear hb ho38; obtain ⟨Ao39, co39, eo39⟩ := Kd.R_slice HO828.out; subst eo39; have p829 : 0 ≤ (x7_16 : Int) := od; have q829 : x7_16 < (y826.length : Int) := od; obtain ⟨ad829, e829, hx829_0⟩ := Kd.at_int (Kd.R_reads' HO828.out).2.2 x7_16 p829 q829; cases e829; replace p829 := eq_true p829; replace q829 := eq_true q829))
                     go_ret2
                     exact ⟨ew, bw⟩
                    rw [if_neg c36] at H; have c36b0 : decide (1114111 < x8_7) = false := decide_eq_false c36; clear c36; simp only [Option.some.injEq, Prod.mk.injEq] at H; obtain ⟨rfl, rfl⟩ := H
                    go_wp2_with (first | ((with_reducible refine gate_dst (N := 59) rfl ?_); refine Kd.R_lit (Kd.int .i64) _ 3 ?hg (N := 59) ?hd (xs := ([0, 0, 128, 2048, 65536] : List Int)) (inner := [.int .i64 0, .int .i64 0, .int .i64 128, .int .i64 2048, .int .i64 65536]) (ok := fun _ => True) (okp := fun _ => True) ?hr ?hp (fun _ hk => hk) trivial (Below.refl _ _) (Nat.le_refl _) (by simp) ?_; (case hd => rfl); (case hg => rfl); (case hr => first | (go_simp; done) | (go_simp; rfl)); (case hp => exact (Reps.one (show Kd.M (Kd.int .i64) _ _ _ 0 [.int .i64 0] from rfl) (Reps.one (show Kd.M (Kd.int .i64) _ _ _ 0 [.int .i64 0] from rfl) (Reps.one (show Kd.M (Kd.int .i64) _ _ _ 128 [.int .i64 128] from rfl) (Reps.one (show Kd.M (Kd.int .i64) _ _ _ 2048 [.int .i64 2048] from rfl) (Reps.one (show Kd.M (Kd.int .i64) _ _ _ 65536 [.int .i64 65536] from rfl) (Reps.none _ _))))))); intro v827 w40 ho41 hb hg_ hnew_; clear hg_ hnew_; (first | rw [← Ny826.out] at ho41 | (simp only [Int.reduceToNat] at ho41; rw [← Ny826.out] at ho41)); have n0_ := Aside0.mk (Kd.R_lower ho41 (below_size bw)); have n1_ := Aside0.mk (below_step bw hb); clear HB; have HO828 := n0_; have HB := n1_; clear n0_ n1_; clear hb ho41; obtain ⟨Ao42, co42, eo42⟩ := Kd.R_slice HO828.out; subst eo42; have p829 : 0 ≤ (x7_16 : Int) := od; have q829 : x7_16 < (y826.length : Int) := od; obtain ⟨ad829, e829, hx829_0⟩ := Kd.at_int (Kd.R_reads' HO828.out).2.2 x7_16 p829 q829; cases e829; replace p829 := eq_true p829; replace q829 := eq_true q829))
                    go_ret2
                    exact ⟨ew, bw⟩
                   rw [if_neg c31] at H; have c31b0 : decide (55296 ≤ x8_7) = false := decide_eq_false c31; clear c31
                   by_cases c43 : x8_7 > 1114111
                   ·rw [if_pos c43] at H; have c43b0 : decide (1114111 < x8_7) = true := decide_eq_true c43; clear c43; simp only [Option.some.injEq, Prod.mk.injEq] at H; obtain ⟨rfl, rfl⟩ := H
                    go_wp2_with (first | ((with_reducible refine gate_dst (N := 59) rfl ?_); refine Kd.R_lit (Kd.int .i64) _ 3 ?hg (N := 59) ?hd (xs := ([0, 0, 128, 2048, 65536] : List Int)) (inner := [.int .i64 0, .int .i64 0, .int .i64 128, .int .i64 2048, .int .i64 65536]) (ok := fun _ => True) (okp := fun _ => True) ?hr ?hp (fun _ hk => hk) trivial (Below.refl _ _) (Nat.le_refl _) (by simp) ?_; (case hd => rfl); (case hg => rfl); (case hr => first | (go_simp; done) | (go_simp; rfl)); (case hp => exact (Reps.one (show Kd.M (Kd.int .i64) _ _ _ 0 [.int .i64 0] from rfl) (Reps.one (show Kd.M (Kd.int .i64) _ _ _ 0 [.int .i64 0] from rfl) (Reps.one (show Kd.M (Kd.int .i64) _ _ _ 128 [.int .i64 128] from rfl) (Reps.one (show Kd.M (Kd.int .i64) _ _ _ 2048 [.int .i64 2048] from rfl) (Reps.one (show Kd.M (Kd.int .i64) _ _ _ 65536 [.int .i64 65536] from rfl) (Reps.none _ _))))))); intro v827 w44 ho45 hb hg_ hnew_; clear hg_ hnew_; (first | rw [← Ny826.out] at ho45 | (simp only [Int.reduceToNat] at ho45; rw [← Ny826.out] at ho45)); have n0_ := Aside0.mk (Kd.R_lower ho45 (below_size bw)); have n1_ := Aside0.mk (below_step bw hb); clear HB; have HO828 := n0_; have HB := n1_; clear n0_ n1_; clear hb ho45; obtain ⟨Ao46, co46, eo46⟩ := Kd.R_slice HO828.out; subst eo46; have p829 : 0 ≤ (x7_16 : Int) := od; have q829 : x7_16 < (y826.length : Int) := od; obtain ⟨ad829, e829, hx829_0⟩ := Kd.at_int (Kd.R_reads' HO828.out).2.2 x7_16 p829 q829; cases e829; replace p829 := eq_true p829; replace q829 := eq_true q829))
                    go_ret2
                    exact ⟨ew, bw⟩
                   rw [if_neg c43] at H; have c43b0 : decide (1114111 < x8_7) = false := decide_eq_false c43; clear c43; simp only [Option.some.injEq, Prod.mk.injEq] at H; obtain ⟨rfl, rfl⟩ := H
                   go_wp2_with (first | ((with_reducible refine gate_dst (N := 59) rfl ?_); refine Kd.R_lit (Kd.int .i64) _ 3 ?hg (N := 59) ?hd (xs := ([0, 0, 128, 2048, 65536] : List Int)) (inner := [.int .i64 0, .int .i64 0, .int .i64 128, .int .i64 2048, .int .i64 65536]) (ok := fun _ => True) (okp := fun _ => True) ?hr ?hp (fun _ hk => hk) trivial (Below.refl _ _) (Nat.le_refl _) (by simp) ?_; (case hd => rfl); (case hg => rfl); (case hr => first | (go_simp; done) | (go_simp; rfl)); (case hp => exact (Reps.one (show Kd.M (Kd.int .i64) _ _ _ 0 [.int .i64 0] from rfl) (Reps.one (show Kd.M (Kd.int .i64) _ _ _ 0 [.int .i64 0] from rfl) (Reps.one (show Kd.M (Kd.int .i64) _ _ _ 128 [.int .i64 128] from rfl) (Reps.one (show Kd.M (Kd.int .i64) _ _ _ 2048 [.int .i64 2048] from rfl) (Reps.one (show Kd.M (Kd.int .i64) _ _ _ 65536 [.int .i64 65536] from rfl) (Reps.none _ _))))))); intro v827 w47 ho48 hb hg_ hnew_; clear hg_ hnew_; (first | rw [← Ny826.out] at ho48 | (simp only [Int.reduceToNat] at ho48; rw [← Ny826.out] at ho48)); have n0_ := Aside0.mk (Kd.R_lower ho48 (below_size bw)); have n1_ := Aside0.mk (below_step bw hb); clear HB; have HO828 := n0_; have HB := n1_; clear n0_ n1_; clear hb ho48; obtain ⟨Ao49, co49, eo49⟩ := Kd.R_slice HO828.out; subst eo49; have p829 : 0 ≤ (x7_16 : Int) := od; have q829 : x7_16 < (y826.length : Int) := od; obtain ⟨ad829, e829, hx829_0⟩ := Kd.at_int (Kd.R_reads' HO828.out).2.2 x7_16 p829 q829; cases e829; replace p829 := eq_true p829; replace q829 := eq_true q829))
                   go_ret2
                   exact ⟨ew, bw⟩
                  rw [if_neg c26] at H; exact absurd H (by simp)
                 rw [if_neg c25] at H; exact absurd H (by simp)
  rw [if_neg c4] at H; exact absurd H (by simp)
 rw [if_neg c3] at H; exact absurd H (by simp)

end Go.Proofs.YtihabmcaplnbcaaGreatDoor.Fn
namespace Go.Proofs.YtihabmcaplnbcaaGreatDoor.Fn
open Go.RowKit Go.Proofs.YtihabmcaplnbcaaGreatDoorW.PrintWords Go.Proofs.YtihabmcaplnbcaaGreatDoorW.PrintLast Go.Proofs.YtihabmcaplnbcaaGreatDoorW.PrintMore
attribute [local go_sem] max2_int min2_int max_two min_two max_three min_three max_four min_four
set_option linter.unusedVariables false
set_option linter.unusedSimpArgs false
def bulletinref06_Signs.l0 : Nat → ByteArray → List Int → Int → Option (List Int)
 | 0, _, _, _ => none
 | k + 1, x0, x3, x4 => if x4 < (x0.size : Int) then ((bulletinref06_One.f k x0 x4).bind fun bt830 => (if x3.length < 17592186044416 then (bulletinref06_Signs.l0 k x0 (x3 ++ [bt830.1]) (wrap64 (x4 + bt830.2))) else (none))) else (some x3)
def bulletinref06_Signs.f (k : Nat) (a0 : ByteArray) : Option (List Int) := bulletinref06_Signs.l0 k a0 ([] : List Int) 0
set_option maxHeartbeats 8000000 in
set_option maxRecDepth 100000 in
theorem bulletinref06_Signs.calls (k : Nat) (a0 : ByteArray) (r : List Int) (w : World) (h : bulletinref06_Signs.f k a0 = some r) :
  Calls Tryz.prog 144 #[.string a0] w fun e w' => ∃ v0_ : Value, e = .returned (v0_) ∧ Kd.R (Kd.int .i64) 3 w' w.heap.size (fun _ => True) v0_ r ∧ Below w.heap.size w w' := by
 have HB := Aside0.mk (Below.refl w.heap.size w); have H : (bulletinref06_Signs.l0 k a0 ([] : List Int) 0) = some r := h; clear h; have H' := Aside0.mk H; clear H
 go_enter Tryz.func144, Tryz.ntmps144
 go_wp2
 go_loopg [3, 4] k (fun kq v3 v4 w' => ∃ (x3_1 : List Int) (x4_1 : Int), v4 = .int .i64 x4_1 ∧ Aside0 (bulletinref06_Signs.l0 kq a0 x3_1 x4_1 = some r) ∧ Aside0 (kq ≤ k) ∧ Aside0 (Kd.R (Kd.int .i64) 3 w' w.heap.size (fun _ => True) v3 x3_1) ∧ Aside0 (Below w.heap.size w w'))
 case atStart => exact ⟨(([] : List Int)), (0), cl, H', ⟨Nat.le_refl _⟩, ⟨by first | exact Kd.R_nil _ _ _ _ _ | exact Kd.N_nil _ _ _ _ _ | exact Kd.V_nil _ _ _ _ _ | exact Kd.Q_nil _ _ _ _ _ | exact Kd.S_nil _ _ _ _ _⟩, ⟨bw⟩⟩
 case round =>
  clear H'
  try clear c1
  obtain ⟨x3_1, x4_1, rfl, HA, HK1, HO_3, HB⟩ := hrel; cases gk with
  | zero => exact absurd HA.out (by simp [bulletinref06_Signs.l0])
  | succ k1 =>
   have H := HA.out; clear HA; simp only [bulletinref06_Signs.l0] at H
   by_cases c2 : x4_1 < (a0.size : Int)
   ·rw [if_pos c2] at H; have c2b0 := decide_eq_true c2; clear c2; replace H := Option.bind_eq_some_iff.mp H; obtain ⟨⟨t830, t831⟩, A30, H⟩ := H; replace H : (if x3_1.length < 17592186044416 then (bulletinref06_Signs.l0 k1 a0 (x3_1 ++ [t830]) (wrap64 (x4_1 + t831))) else (none)) = some r := H; have A3 := Aside0.mk A30; clear A30
    by_cases c4 : x3_1.length < 17592186044416
    ·rw [if_pos c4] at H; have LMc4 := Aside0.mk c4; clear c4; obtain ⟨y832, hy832⟩ : ∃ y_ : List Int, y_ = (x3_1 ++ [t830]) := ⟨_, rfl⟩
     replace H : (bulletinref06_Signs.l0 k1 a0 y832 (wrap64 (x4_1 + t831))) = some r := by first | (rw [hy832]; with_reducible exact H) | (have H2_ := (Option.bind_some _ _).symm.trans H; rw [hy832]; with_reducible exact H2_) | (have H2_ := (Option.bind_some _ _).symm.trans H; with_reducible exact H2_) | with_reducible exact H | (rw [hy832]; exact H) | exact H
     have Ny832 := Aside0.mk hy832; clear hy832; have H' := Aside0.mk H; clear H
     go_wp2_with (first | ((with_reducible refine gate_callee (f := 147) rfl ?_); refine goesL_ (some 14) rfl rfl Tryz.func147 (by kernel_rfl) rfl #[.string a0, .int .i64 x4_1] rfl am ?_; (with_reducible refine (bulletinref06_One.calls k1 a0 x4_1 t830 t831 _ A3.out).mono ?_); rintro e w5 ⟨rfl, hb⟩; refine ⟨_, rfl, ?_⟩; have n0_ := Aside0.mk (Kd.R_below (ra HO_3.out) hb); have n1_ := Aside0.mk (below_step bw hb); clear HO_3; clear HB; have HO_3 := n0_; have HB := n1_; clear n0_ n1_; (try clear hb); (try clear hb2); (try clear hk); (try clear hi)) | ((with_reducible refine gate_builtin (b := .append) (xs := #[.tmp 17, .tmp 19]) rfl ?_); at_builtin; refine Kd.R_append (Kd.int .i64) (w0 := w) w.heap.size rfl (.tmp 17) (.tmp 19) 165 3 (.int .i64 0) 8 rfl Tryz.underlying165 info3 rfl (by decide) (by omega) u3 x3_1 t830 [.int .i64 t830] (fun _ => True) (fun _ => False) rfl rfl ?aP (fun _ hk => hk.elim) ?aF ?aO ?aB ?aS ?aL ?_; (case aP => exact rfl); (case aB => exact bw); (case aF => exact (fun _ _ => trivial)); (case aO => exact (ra HO_3.out)); (case aS => exact (below_size bw)); (case aL => have := LMc4.out; omega); intro v833 w6 ho hb hg hat; rw [← Ny832.out] at ho; have n0_ := Aside0.mk (hb); have n1_ := Aside0.mk (ho); clear HB; clear HO_3; have HB := n0_; have HO834 := n1_; clear n0_ n1_; clear ho hb hg hat))
     go_roundg k1
     case measure => have := HK1.out; omega
     case rel => exact ⟨(y832), (wrap64 (x4_1 + t831)), cl, H', ⟨by have := HK1.out; omega⟩, ⟨ra HO834.out⟩, ⟨bw⟩⟩
    rw [if_neg c4] at H; exact absurd H (by simp)
   rw [if_neg c2] at H; have c2b0 := decide_eq_false c2; clear c2; obtain rfl := Option.some.inj H
   go_wp2
   go_ret
   exact ⟨_, ew, ra HO_3.out, bw⟩

end Go.Proofs.YtihabmcaplnbcaaGreatDoor.Fn
