/- A part of the proof of this sentence: The law bulletinlaw15.HeadFolds returns true for every input: no line of a right field, written, has more than 78 bytes, if no piece of it has more than 70, nor its name more than 7, and each begins with a blank but the first; the tables of unicode/utf8 are as the program's text lays them. -/
import Derived.Test.YtlomcmdbbnbciaaDoorProg
import Derived.Below
import Derived.Deep.Draws
import Derived.Deep.AppendLies
import Derived.Maps.AppendAt
import Derived.OwnWalk
import Derived.Laws.BytesArg
import Derived.Laws.MakeOwn
import Derived.Laws.OwnMore
import Derived.Deep.OwnRows
import Derived.Tactics
import Derived.Lib.ConvBytes
import Derived.Laws.Slices
import Derived.WalkKit
import Derived.KernelRfl
import Derived.RowKit3
import Derived.Deep.LoopGhost
import Derived.Deep.QuietTactic
import Derived.BigQuiet
import Derived.WideLaws
import Derived.Deep.DeepCutAuto
import Derived.Deep.CutBlock
import Derived.Deep.RegionHeld3
import Derived.Laws.Rows
import Derived.Lib.AppendStr
import Derived.ArgAppend
import Derived.Laws.IdiomCopy
import Derived.OrdersHeld
import Derived.Laws.BitsLemmas
import Derived.RowKit
import Derived.Test.YtlomcmdbbnbciaaDoorCHeadFoldsWWords
import Derived.Test.YtlomcmdbbnbciaaDoorCHeadFoldsWLast
import Derived.Test.YtlomcmdbbnbciaaDoorCHeadFoldsWTab
import Derived.Test.YtlomcmdbbnbciaaDoorCHeadFoldsWFour
import Derived.Test.YtlomcmdbbnbciaaDoorCHeadFoldsWQPut
import Derived.Test.YtlomcmdbbnbciaaDoorCHeadFoldsWApart
import Derived.Test.YtlomcmdbbnbciaaDoorCHeadFoldsWArr
import Derived.Test.YtlomcmdbbnbciaaDoorCHeadFoldsWZeros
import Derived.Test.YtlomcmdbbnbciaaDoorCHeadFoldsWFoot
import Derived.Test.YtlomcmdbbnbciaaDoorCHeadFoldsWKept
import Derived.Test.YtlomcmdbbnbciaaDoorCHeadFoldsWShare
import Derived.Test.YtlomcmdbbnbciaaDoorCHeadFoldsWN
import Derived.Test.YtlomcmdbbnbciaaDoorCHeadFoldsWFootNe
import Derived.Test.YtlomcmdbbnbciaaDoorCHeadFoldsWAt
import Derived.Test.YtlomcmdbbnbciaaDoorCHeadFoldsWEqStruct
import Derived.Test.YtlomcmdbbnbciaaDoorCHeadFoldsWRepsOne
import Derived.Test.YtlomcmdbbnbciaaDoorCHeadFoldsWInv
import Derived.Test.YtlomcmdbbnbciaaDoorCHeadFoldsWInvWords
import Derived.Test.YtlomcmdbbnbciaaDoorCHeadFoldsWGuard
import Derived.Test.YtlomcmdbbnbciaaDoorCHeadFoldsWNEv
import Derived.Test.YtlomcmdbbnbciaaDoorCHeadFoldsWMore
import Derived.Test.YtlomcmdbbnbciaaDoorRows
import Derived.HandedShaped
import Derived.LaidLaws
import Derived.LaidHandle
import Derived.Deep.DeepLaidRun
import Derived.Stop.Joined
import Derived.PinnedBridge
import Derived.Lib.LaidU8
import Derived.ProofKit
import Derived.Shelf.Strings.Builder1
import Derived.Shelf.Strings.Builder2
import Derived.Shelf.Strings.OnBuilder
import Derived.Shelf.Strings.Trim
import Derived.Shelf.Small.Utf8
import Derived.Shelf.Small.Strs
import Derived.Shelf.Strings.BuilderF
import Derived.Shelf.Strings.BuilderK
import Derived.Shelf.Strings.BuilderRune
import Derived.Shelf.Utf8.AppendRune
import Derived.Shelf.Strings.Search1
import Derived.Shelf.Strings.Search2
import Derived.Shelf.Strings.Search3
import Derived.Shelf.Strings.Cut
import Derived.Shelf.LaysM
import Derived.Shelf.Strings.Shaped
import Derived.Shelf.Strings.Runes
import Derived.Shelf.Strings.IndexAny
import Derived.Shelf.Strings.AsciiSet
import Derived.Shelf.Strings.IndexAnyAll
import Derived.Shelf.Unicode.DecodeSlow
import Derived.Shelf.Unicode.DecodeAny
import Derived.Shelf.Unicode.DecodeLast
import Derived.Shelf.Strings.FieldsFuncAny
import Derived.Shelf.Strings.FieldsFuncGrows
import Derived.RangeFuncSeq
import Derived.Lib.RuneBytes
import Derived.Lib.DecodeN
import Derived.Lib.FieldsP
import Derived.Lib.Join
import Derived.Laws.RangeAny
import Derived.Shelf.Strings.SlTrimAscii
import Derived.BigCall
import Derived.RangeFuncRecord
import Derived.RangeFuncNested
import Derived.RangeFuncBound
import Derived.RangeFuncCalls
import Derived.RangeFuncLeaves
import Derived.Shelf.Abstract
import Derived.Shelf.RegionOpen
import Derived.OwnWalkIn
import Derived.TacticsInMore
import Derived.LoopNIn
import Derived.LoopIn
namespace Go.Proofs.YtlomcmdbbnbciaaDoor.Fn
def bitsL (n m : Nat) : Array Bool := ((List.range n).map m.testBit).toArray
end Go.Proofs.YtlomcmdbbnbciaaDoor.Fn
-- written by xprint.py of this session over the kit's printer; not trusted: Lean checks it
namespace Go.Proofs.YtlomcmdbbnbciaaDoor.Fn
open Go.RowKit Go.Proofs.YtlomcmdbbnbciaaDoorW.PrintWords Go.Proofs.YtlomcmdbbnbciaaDoorW.PrintLast Go.Proofs.YtlomcmdbbnbciaaDoorW.PrintMore
attribute [local go_sem] max2_int min2_int max_two min_two max_three min_three max_four min_four   -- for this text's walks alone
set_option linter.unusedVariables false
set_option linter.unusedSimpArgs false

def errW : Option Int → Value
  | none => .nilIface
  | some c => .iface 0 (.int .i64 c)
theorem errW_none : errW none = .nilIface := rfl
theorem errW_some (c : Int) : errW (some c) = .iface 0 (.int .i64 c) := rfl

theorem nil_ne (l : List UInt8) : l.isEmpty = !(l != []) := by cases l <;> simp
theorem info60 : (Tryd.prog.info? 60).map (fun i => (i.zero, i.size, i.bytes)) = some (some (.agg #[(.string ⟨#[]⟩), (.string ⟨#[]⟩)]), 2, 32) := by kernel_rfl
-- the values' own types
/-! #### struct type 142 -/
structure S142 where
  f0 : Int
  f1 : ByteArray
/-! #### struct type 148 -/
structure S148 where
  f0 : Int
  f1 : ByteArray
/-! #### struct type 60 -/
structure S60 where
  f0 : ByteArray
  f1 : ByteArray
def z60 : S60 := ⟨(⟨#[]⟩ : ByteArray), (⟨#[]⟩ : ByteArray)⟩
def k60 : Kd S60 := Kd.iso (Kd.pair Kd.string Kd.string) (fun x : S60 => (x.f0, x.f1))
theorem k60_open {w : World} {x : S60} {cs : List Value} (h : k60.K w x cs) : cs = [.string x.f0, .string x.f1] := by
  obtain ⟨_, _, rfl, rfl, rfl⟩ := h
  exact rfl
theorem k60_openM {w : World} {base : Nat} {ok : Nat → Prop} {x : S60} {cs : List Value} (h : k60.M w base ok x cs) : cs = [.string x.f0, .string x.f1] := by
  obtain ⟨_, _, rfl, rfl, rfl⟩ := h
  exact rfl
theorem k60_mkM (w : World) (base : Nat) (ok : Nat → Prop) (x : S60)  : k60.M w base ok x [.string x.f0, .string x.f1] := ⟨[.string x.f0], [.string x.f1], rfl, rfl, rfl⟩
def rd_T60 (xs : List S60) (i : Int) : S60 := xs.getD i.toNat z60
theorem at_T60 {w : World} {A : Option Addr} {n : Nat} {xs : List S60} (h : Kd.C k60 w A n xs) (i : Int) (h0 : 0 ≤ i) (h1 : i < n) : ∃ ad , A = some ad ∧ w.cell? (ad.add (i.toNat * 2)) = some (.string (rd_T60 xs i).f0) ∧ w.cell? ⟨(ad.add (i.toNat * 2)).block, (ad.add (i.toNat * 2)).off + 1, none⟩ = some (.string (rd_T60 xs i).f1) := by
  obtain ⟨ad, c, e, _, hK, hc0⟩ := Kd.C_get h z60 i h0 h1
  have hc : ∀ j u, c[j]? = some u → w.cell? (ad.add (i.toNat * 2 + j)) = some u := hc0
  obtain rfl := k60_open hK
  exact ⟨ad, e, hc 0 _ rfl, by rw [← add_field _ _ 1 (by omega)]; exact hc 1 _ rfl⟩

/-! #### struct type 59 -/
structure S59 where
  f0 : ByteArray
  f1 : ByteArray
def z59 : S59 := ⟨(⟨#[]⟩ : ByteArray), (⟨#[]⟩ : ByteArray)⟩
def rd_T59 (xs : List S59) (i : Int) : S59 := xs.getD i.toNat z59
/-! #### struct type 32 -/
structure S32 where
  f0 : ByteArray
  f1 : ByteArray
/-! #### struct type 87 -/
structure S87 where
  f0 : ByteArray
  f1 : S32
/-! #### struct type 31 -/
structure S31 where
  f0 : ByteArray
  f1 : ByteArray
/-! #### struct type 85 -/
structure S85 where
  f0 : ByteArray
  f1 : S31
theorem bw {p : Prop} (h : p := by repeat (first | (with_reducible first | exact HB.out | apply below_alloc | apply pw_below_drewN | apply below_drew1) | exact HB.out)) : p := h
theorem bwS {p : Prop} (h : p := by repeat (first | (with_reducible first | exact HB.out | apply below_alloc | apply pw_below_drewN | apply below_drew1 | refine below_set ?_ (Aside0.out (by assumption))) | exact HB.out)) : p := h
theorem am {p : Prop} (h : p := by (try simp only [List.map_toArray, List.map_cons, List.map_nil]); first | done | rfl | (simp only [List.length_drop, List.length_take]; rfl)) : p := h
theorem cl {p : Prop} (h : p := by first | rfl | (simp; done) | (simp [*]; done) | (simp [nil_ne]; done)) : p := h
theorem bk {p : Prop} (h : p := by (with_reducible repeat (first | refine blk_drewN ?_ _ | refine blk_drew ?_ | refine blk_alloc ?_ _)); exact Aside0.out (by assumption)) : p := h
theorem od {p : Prop} [Decidable p] (h : decide p = true := by first | (with_reducible assumption) | assumption) : p := of_decide_eq_true h
end Go.Proofs.YtlomcmdbbnbciaaDoor.Fn
-- written by xprint.py of this session over the kit's printer; not trusted: Lean checks it
namespace Go.Proofs.YtlomcmdbbnbciaaDoor.Fn
open Go.RowKit Go.Proofs.YtlomcmdbbnbciaaDoorW.PrintWords Go.Proofs.YtlomcmdbbnbciaaDoorW.PrintLast Go.Proofs.YtlomcmdbbnbciaaDoorW.PrintMore
attribute [local go_sem] max2_int min2_int max_two min_two max_three min_three max_four min_four   -- for this text's walks alone
set_option linter.unusedVariables false
set_option linter.unusedSimpArgs false

theorem eqA60 (d : Nat) (w : World) (x0 y0 : ByteArray) (x1 y1 : ByteArray) :
    (Op.equalIn (d + 2) 60 (.agg #[.string x0, .string x1]) (.agg #[.string y0, .string y1])).run Tryd.prog w = .ok (x0.toList == y0.toList && (x1.toList == y1.toList)) w := by
  refine eqA_of Tryd.underlying60 (by kernel_rfl) ?_
  refine eqf_cons (by rfl) (by go_simp; rfl) (by go_simp; rfl) (by go_simp) ?_
  exact eqf_last (by rfl) (by go_simp; rfl) (by go_simp; rfl) (by go_simp)
end Go.Proofs.YtlomcmdbbnbciaaDoor.Fn
-- written by xprint.py of this session over the kit's printer; not trusted: Lean checks it
namespace Go.Proofs.YtlomcmdbbnbciaaDoor.Fn
open Go.RowKit Go.Proofs.YtlomcmdbbnbciaaDoorW.PrintWords Go.Proofs.YtlomcmdbbnbciaaDoorW.PrintLast Go.Proofs.YtlomcmdbbnbciaaDoorW.PrintMore
attribute [local go_sem] max2_int min2_int max_two min_two max_three min_three max_four min_four   -- for this text's walks alone
set_option linter.unusedVariables false
set_option linter.unusedSimpArgs false

/-! ### head_named: function 97 -/
def head_named.l0 : Nat → ByteArray → Int → Int → Option (Bool)
 | 0, _, _, _ => none
 | k + 1, x0, x6, x7 => if x7 < x6 then (if 0 ≤ x7 then (if x7 < (x0.size : Int) then (if (bt x0 x7) ≤ 32 then (some false) else (if (bt x0 x7) > 126 then (some false) else (if (bt x0 x7) = 58 then (some false) else (head_named.l0 k x0 x6 (wrap64 (x7 + 1)))))) else (none)) else (none)) else (if x0.toList = ([] : List UInt8) then (some false) else (some (decide ((x0.size : Int) ≤ 76))))
def head_named.f (k : Nat) (a0 : ByteArray) : Option (Bool) := head_named.l0 k a0 (a0.size : Int) 0
theorem head_named.mono_l : ∀ k, (∀ y0 y1 y2, LeO (head_named.l0 k y0 y1 y2) (head_named.l0 (k + 1) y0 y1 y2))
 | 0 => fun _ _ _ r h => by simp [head_named.l0] at h
 | k + 1 => by
  have ih0 := head_named.mono_l k
  ·intro y0 y1 y2
   unfold head_named.l0
   repeat' first
   | (with_reducible exact ih0 _ _ _)
   | (with_reducible exact LeO.refl _)
   | (with_reducible exact LeO.none _)
   | (with_reducible refine LeO.ite ?_ ?_)
   | (with_reducible refine LeO.bind ?_ (fun _ => ?_))
   | exact ih0 _ _ _
   | exact LeO.none _
   | refine LeO.ite ?_ ?_
   | refine LeO.bind ?_ (fun _ => ?_)
theorem head_named.mono : ∀ a0 k, LeO (head_named.f k a0) (head_named.f (k + 1) a0) := by
 intro a0 k
 have ih0 := head_named.mono_l k
 unfold head_named.f
 repeat' first
   | (with_reducible exact ih0 _ _ _)
   | (with_reducible exact LeO.refl _)
   | (with_reducible exact LeO.none _)
   | (with_reducible refine LeO.ite ?_ ?_)
   | (with_reducible refine LeO.bind ?_ (fun _ => ?_))
   | exact ih0 _ _ _
   | exact LeO.none _
   | refine LeO.ite ?_ ?_
   | refine LeO.bind ?_ (fun _ => ?_)
set_option maxHeartbeats 8000000 in
set_option maxRecDepth 100000 in
theorem head_named.calls (k : Nat) (a0 : ByteArray) (r : Bool) (w : World) (h : head_named.f k a0 = some r) :
  Calls Tryd.prog 97 #[.string a0] w fun e w' => e = .returned (.bool r) ∧ Drawn0 w w' := by
 have H : (head_named.l0 k a0 (a0.size : Int) 0) = some r := h
 clear h
 have H' := Aside0.mk H
 clear H
 go_enter Tryd.func97, Tryd.ntmps97
 go_wp2
 go_loopg [7] k (fun kq v7 w' => ∃ (x7_1 : Int), v7 = .int .i64 x7_1 ∧ Aside0 (head_named.l0 kq a0 (a0.size : Int) x7_1 = some r) ∧ Aside0 (kq ≤ k) ∧ Drawn0 w w')
 case atStart => exact ⟨(0), cl, H', ⟨Nat.le_refl _⟩, by repeat (first | exact Drawn0.refl _ | apply Drawn0.step)⟩
 case round =>
  clear H'
  obtain ⟨x7_1, rfl, HA, HK1, ⟨m1, rfl⟩⟩ := hrel
  cases gk with
  | zero => exact absurd HA.out (by simp [head_named.l0])
  | succ k1 =>
   have H := HA.out
   clear HA
   simp only [head_named.l0] at H
   by_cases c2 : x7_1 < (a0.size : Int)
   ·rw [if_pos c2] at H
    have c2b0 : decide (x7_1 < (a0.size : Int)) = true := decide_eq_true c2
    clear c2
    by_cases c3 : 0 ≤ x7_1
    ·rw [if_pos c3] at H
     have c3b0 : decide (0 ≤ x7_1) = true := decide_eq_true c3
     clear c3
     by_cases c4 : x7_1 < (a0.size : Int)
     ·rw [if_pos c4] at H
      have c4b0 : decide (x7_1 < (a0.size : Int)) = true := decide_eq_true c4
      clear c4
      by_cases c6 : (bt a0 x7_1) ≤ 32
      ·rw [if_pos c6] at H
       have c6b0 : decide ((bt a0 x7_1) ≤ 32) = true := decide_eq_true c6
       clear c6
       obtain rfl := Option.some.inj H
       have p5 : 0 ≤ (x7_1 : Int) := od
       have q5 : x7_1 < (a0.size : Int) := od
       have hx5 := bt_at a0 x7_1
       replace p5 := eq_true p5
       replace q5 := eq_true q5
       go_wp2
       go_ret
       exact ⟨by first | rfl | (simp; done) | (simp [*]; done) | (simp [nil_ne]; done), by repeat (first | exact Drawn0.refl _ | apply Drawn0.step)⟩
      ·rw [if_neg c6] at H
       have c6b0 : decide ((bt a0 x7_1) ≤ 32) = false := decide_eq_false c6
       clear c6
       by_cases c7 : (bt a0 x7_1) > 126
       ·rw [if_pos c7] at H
        have c7b0 : decide (126 < (bt a0 x7_1)) = true := decide_eq_true c7
        clear c7
        obtain rfl := Option.some.inj H
        have p5 : 0 ≤ (x7_1 : Int) := od
        have q5 : x7_1 < (a0.size : Int) := od
        have hx5 := bt_at a0 x7_1
        replace p5 := eq_true p5
        replace q5 := eq_true q5
        go_wp2
        go_ret
        exact ⟨by first | rfl | (simp; done) | (simp [*]; done) | (simp [nil_ne]; done), by repeat (first | exact Drawn0.refl _ | apply Drawn0.step)⟩
       ·rw [if_neg c7] at H
        have c7b0 : decide (126 < (bt a0 x7_1)) = false := decide_eq_false c7
        clear c7
        by_cases c8 : (bt a0 x7_1) = 58
        ·rw [if_pos c8] at H
         have c8b0 : ((bt a0 x7_1) == 58) = true := beq_iff_eq.mpr c8
         have c8b1 : ((bt a0 x7_1) != 58) = false := bne_eq_false_iff_eq.mpr c8
         clear c8
         obtain rfl := Option.some.inj H
         have p5 : 0 ≤ (x7_1 : Int) := od
         have q5 : x7_1 < (a0.size : Int) := od
         have hx5 := bt_at a0 x7_1
         replace p5 := eq_true p5
         replace q5 := eq_true q5
         go_wp2
         go_ret
         exact ⟨by first | rfl | (simp; done) | (simp [*]; done) | (simp [nil_ne]; done), by repeat (first | exact Drawn0.refl _ | apply Drawn0.step)⟩
        ·rw [if_neg c8] at H
         have c8b0 : ((bt a0 x7_1) == 58) = false := beq_eq_false_iff_ne.mpr c8
         have c8b1 : ((bt a0 x7_1) != 58) = true := bne_iff_ne.mpr c8
         have H' := Aside0.mk H
         clear H
         have p5 : 0 ≤ (x7_1 : Int) := od
         have q5 : x7_1 < (a0.size : Int) := od
         have hx5 := bt_at a0 x7_1
         replace p5 := eq_true p5
         replace q5 := eq_true q5
         go_wp2
         go_roundg k1
         case measure => have := HK1.out; omega
         case rel => exact ⟨(wrap64 (x7_1 + 1)), cl, H', ⟨by have := HK1.out; omega⟩, by repeat (first | exact Drawn0.refl _ | apply Drawn0.step)⟩
     ·rw [if_neg c4] at H
      exact absurd H (by simp)
    ·rw [if_neg c3] at H
     exact absurd H (by simp)
   ·rw [if_neg c2] at H
    have c2b0 : decide (x7_1 < (a0.size : Int)) = false := decide_eq_false c2
    clear c2
    by_cases c9 : a0.toList = ([] : List UInt8)
    ·rw [if_pos c9] at H
     have c9b0 : (a0.toList == ([] : List UInt8)) = true := beq_iff_eq.mpr c9
     have c9b1 : (a0.toList != ([] : List UInt8)) = false := bne_eq_false_iff_eq.mpr c9
     clear c9
     obtain rfl := Option.some.inj H
     go_wp2
     go_ret
     exact ⟨by first | rfl | (simp; done) | (simp [*]; done) | (simp [nil_ne]; done), by repeat (first | exact Drawn0.refl _ | apply Drawn0.step)⟩
    ·rw [if_neg c9] at H
     have c9b0 : (a0.toList == ([] : List UInt8)) = false := beq_eq_false_iff_ne.mpr c9
     have c9b1 : (a0.toList != ([] : List UInt8)) = true := bne_iff_ne.mpr c9
     obtain rfl := Option.some.inj H
     go_wp2
     go_ret
     exact ⟨by first | rfl | (simp; done) | (simp [*]; done) | (simp [nil_ne]; done), by repeat (first | exact Drawn0.refl _ | apply Drawn0.step)⟩

end Go.Proofs.YtlomcmdbbnbciaaDoor.Fn
-- written by xprint.py of this session over the kit's printer; not trusted: Lean checks it
namespace Go.Proofs.YtlomcmdbbnbciaaDoor.Fn
open Go.RowKit Go.Proofs.YtlomcmdbbnbciaaDoorW.PrintWords Go.Proofs.YtlomcmdbbnbciaaDoorW.PrintLast Go.Proofs.YtlomcmdbbnbciaaDoorW.PrintMore
attribute [local go_sem] max2_int min2_int max_two min_two max_three min_three max_four min_four   -- for this text's walks alone
set_option linter.unusedVariables false
set_option linter.unusedSimpArgs false

/-! ### head_text: function 98 -/
def head_text.l0 : Nat → ByteArray → Int → Int → Option (Bool)
 | 0, _, _, _ => none
 | k + 1, x0, x6, x7 => if x7 < x6 then (if 0 ≤ x7 then (if x7 < (x0.size : Int) then (if (bt x0 x7) < 32 then (if (bt x0 x7) = 9 then (if (bt x0 x7) = 127 then (some false) else (head_text.l0 k x0 x6 (wrap64 (x7 + 1)))) else (some false)) else (if (bt x0 x7) = 127 then (some false) else (head_text.l0 k x0 x6 (wrap64 (x7 + 1))))) else (none)) else (none)) else (some true)
def head_text.f (k : Nat) (a0 : ByteArray) : Option (Bool) := head_text.l0 k a0 (a0.size : Int) 0
theorem head_text.mono_l : ∀ k, (∀ y0 y1 y2, LeO (head_text.l0 k y0 y1 y2) (head_text.l0 (k + 1) y0 y1 y2))
 | 0 => fun _ _ _ r h => by simp [head_text.l0] at h
 | k + 1 => by
  have ih0 := head_text.mono_l k
  ·intro y0 y1 y2
   unfold head_text.l0
   repeat' first
   | (with_reducible exact ih0 _ _ _)
   | (with_reducible exact LeO.refl _)
   | (with_reducible exact LeO.none _)
   | (with_reducible refine LeO.ite ?_ ?_)
   | (with_reducible refine LeO.bind ?_ (fun _ => ?_))
   | exact ih0 _ _ _
   | exact LeO.none _
   | refine LeO.ite ?_ ?_
   | refine LeO.bind ?_ (fun _ => ?_)
theorem head_text.mono : ∀ a0 k, LeO (head_text.f k a0) (head_text.f (k + 1) a0) := by
 intro a0 k
 have ih0 := head_text.mono_l k
 unfold head_text.f
 repeat' first
   | (with_reducible exact ih0 _ _ _)
   | (with_reducible exact LeO.refl _)
   | (with_reducible exact LeO.none _)
   | (with_reducible refine LeO.ite ?_ ?_)
   | (with_reducible refine LeO.bind ?_ (fun _ => ?_))
   | exact ih0 _ _ _
   | exact LeO.none _
   | refine LeO.ite ?_ ?_
   | refine LeO.bind ?_ (fun _ => ?_)
set_option maxHeartbeats 8000000 in
set_option maxRecDepth 100000 in
theorem head_text.calls (k : Nat) (a0 : ByteArray) (r : Bool) (w : World) (h : head_text.f k a0 = some r) :
  Calls Tryd.prog 98 #[.string a0] w fun e w' => e = .returned (.bool r) ∧ Drawn0 w w' := by
 have H : (head_text.l0 k a0 (a0.size : Int) 0) = some r := h
 clear h
 have H' := Aside0.mk H
 clear H
 go_enter Tryd.func98, Tryd.ntmps98
 go_wp2
 go_loopg [7] k (fun kq v7 w' => ∃ (x7_1 : Int), v7 = .int .i64 x7_1 ∧ Aside0 (head_text.l0 kq a0 (a0.size : Int) x7_1 = some r) ∧ Aside0 (kq ≤ k) ∧ Drawn0 w w')
 case atStart => exact ⟨(0), cl, H', ⟨Nat.le_refl _⟩, by repeat (first | exact Drawn0.refl _ | apply Drawn0.step)⟩
 case round =>
  clear H'
  obtain ⟨x7_1, rfl, HA, HK1, ⟨m1, rfl⟩⟩ := hrel
  cases gk with
  | zero => exact absurd HA.out (by simp [head_text.l0])
  | succ k1 =>
   have H := HA.out
   clear HA
   simp only [head_text.l0] at H
   by_cases c2 : x7_1 < (a0.size : Int)
   ·rw [if_pos c2] at H
    have c2b0 : decide (x7_1 < (a0.size : Int)) = true := decide_eq_true c2
    clear c2
    by_cases c3 : 0 ≤ x7_1
    ·rw [if_pos c3] at H
     have c3b0 : decide (0 ≤ x7_1) = true := decide_eq_true c3
     clear c3
     by_cases c4 : x7_1 < (a0.size : Int)
     ·rw [if_pos c4] at H
      have c4b0 : decide (x7_1 < (a0.size : Int)) = true := decide_eq_true c4
      clear c4
      by_cases c6 : (bt a0 x7_1) < 32
      ·rw [if_pos c6] at H
       have c6b0 : decide ((bt a0 x7_1) < 32) = true := decide_eq_true c6
       clear c6
       by_cases c7 : (bt a0 x7_1) = 9
       ·rw [if_pos c7] at H
        have c7b0 : ((bt a0 x7_1) == 9) = true := beq_iff_eq.mpr c7
        have c7b1 : ((bt a0 x7_1) != 9) = false := bne_eq_false_iff_eq.mpr c7
        clear c7
        by_cases c8 : (bt a0 x7_1) = 127
        ·rw [if_pos c8] at H
         have c8b0 : ((bt a0 x7_1) == 127) = true := beq_iff_eq.mpr c8
         have c8b1 : ((bt a0 x7_1) != 127) = false := bne_eq_false_iff_eq.mpr c8
         clear c8
         obtain rfl := Option.some.inj H
         have p5 : 0 ≤ (x7_1 : Int) := od
         have q5 : x7_1 < (a0.size : Int) := od
         have hx5 := bt_at a0 x7_1
         replace p5 := eq_true p5
         replace q5 := eq_true q5
         go_wp2
         go_ret
         exact ⟨by first | rfl | (simp; done) | (simp [*]; done) | (simp [nil_ne]; done), by repeat (first | exact Drawn0.refl _ | apply Drawn0.step)⟩
        ·rw [if_neg c8] at H
         have c8b0 : ((bt a0 x7_1) == 127) = false := beq_eq_false_iff_ne.mpr c8
         have c8b1 : ((bt a0 x7_1) != 127) = true := bne_iff_ne.mpr c8
         have H' := Aside0.mk H
         clear H
         have p5 : 0 ≤ (x7_1 : Int) := od
         have q5 : x7_1 < (a0.size : Int) := od
         have hx5 := bt_at a0 x7_1
         replace p5 := eq_true p5
         replace q5 := eq_true q5
         go_wp2
         go_roundg k1
         case measure => have := HK1.out; omega
         case rel => exact ⟨(wrap64 (x7_1 + 1)), cl, H', ⟨by have := HK1.out; omega⟩, by repeat (first | exact Drawn0.refl _ | apply Drawn0.step)⟩
       ·rw [if_neg c7] at H
        have c7b0 : ((bt a0 x7_1) == 9) = false := beq_eq_false_iff_ne.mpr c7
        have c7b1 : ((bt a0 x7_1) != 9) = true := bne_iff_ne.mpr c7
        obtain rfl := Option.some.inj H
        have p5 : 0 ≤ (x7_1 : Int) := od
        have q5 : x7_1 < (a0.size : Int) := od
        have hx5 := bt_at a0 x7_1
        replace p5 := eq_true p5
        replace q5 := eq_true q5
        go_wp2
        go_ret
        exact ⟨by first | rfl | (simp; done) | (simp [*]; done) | (simp [nil_ne]; done), by repeat (first | exact Drawn0.refl _ | apply Drawn0.step)⟩
      ·rw [if_neg c6] at H
       have c6b0 : decide ((bt a0 x7_1) < 32) = false := decide_eq_false c6
       clear c6
       by_cases c9 : (bt a0 x7_1) = 127
       ·rw [if_pos c9] at H
        have c9b0 : ((bt a0 x7_1) == 127) = true := beq_iff_eq.mpr c9
        have c9b1 : ((bt a0 x7_1) != 127) = false := bne_eq_false_iff_eq.mpr c9
        clear c9
        obtain rfl := Option.some.inj H
        have p5 : 0 ≤ (x7_1 : Int) := od
        have q5 : x7_1 < (a0.size : Int) := od
        have hx5 := bt_at a0 x7_1
        replace p5 := eq_true p5
        replace q5 := eq_true q5
        go_wp2
        go_ret
        exact ⟨by first | rfl | (simp; done) | (simp [*]; done) | (simp [nil_ne]; done), by repeat (first | exact Drawn0.refl _ | apply Drawn0.step)⟩
       ·rw [if_neg c9] at H
        have c9b0 : ((bt a0 x7_1) == 127) = false := beq_eq_false_iff_ne.mpr c9
        have c9b1 : ((bt a0 x7_1) != 127) = true := bne_iff_ne.mpr c9
        have H' := Aside0.mk H
        clear H
        have p5 : 0 ≤ (x7_1 : Int) := od
        have q5 : x7_1 < (a0.size : Int) := od
        have hx5 := bt_at a0 x7_1
        replace p5 := eq_true p5
        replace q5 := eq_true q5
        go_wp2
        go_roundg k1
        case measure => have := HK1.out; omega
        case rel => exact ⟨(wrap64 (x7_1 + 1)), cl, H', ⟨by have := HK1.out; omega⟩, by repeat (first | exact Drawn0.refl _ | apply Drawn0.step)⟩
     ·rw [if_neg c4] at H
      exact absurd H (by simp)
    ·rw [if_neg c3] at H
     exact absurd H (by simp)
   ·rw [if_neg c2] at H
    have c2b0 : decide (x7_1 < (a0.size : Int)) = false := decide_eq_false c2
    clear c2
    obtain rfl := Option.some.inj H
    go_wp2
    go_ret
    exact ⟨by first | rfl | (simp; done) | (simp [*]; done) | (simp [nil_ne]; done), by repeat (first | exact Drawn0.refl _ | apply Drawn0.step)⟩

end Go.Proofs.YtlomcmdbbnbciaaDoor.Fn
-- written by xprint.py of this session over the kit's printer; not trusted: Lean checks it
namespace Go.Proofs.YtlomcmdbbnbciaaDoor.Fn
open Go.RowKit Go.Proofs.YtlomcmdbbnbciaaDoorW.PrintWords Go.Proofs.YtlomcmdbbnbciaaDoorW.PrintLast Go.Proofs.YtlomcmdbbnbciaaDoorW.PrintMore
attribute [local go_sem] max2_int min2_int max_two min_two max_three min_three max_four min_four   -- for this text's walks alone
set_option linter.unusedVariables false
set_option linter.unusedSimpArgs false

/-! ### head_white: function 129 -/
def head_white.f (a0 : ByteArray) : Option (Bool) := if a0.toList = ([] : List UInt8) then (some false) else (if 0 < (a0.size : Int) then (if (bt a0 0) = 32 then (some true) else (some ((bt a0 0) == 9))) else (none))
set_option maxHeartbeats 8000000 in
set_option maxRecDepth 100000 in
theorem head_white.calls (a0 : ByteArray) (r : Bool) (w : World) (h : head_white.f a0 = some r) :
  Calls Tryd.prog 129 #[.string a0] w fun e w' => e = .returned (.bool r) ∧ Drawn0 w w' := by
 have H : (if a0.toList = ([] : List UInt8) then (some false) else (if 0 < (a0.size : Int) then (if (bt a0 0) = 32 then (some true) else (some ((bt a0 0) == 9))) else (none))) = some r := h
 clear h
 by_cases c2 : a0.toList = ([] : List UInt8)
 ·rw [if_pos c2] at H
  have c2b0 : (a0.toList == ([] : List UInt8)) = true := beq_iff_eq.mpr c2
  have c2b1 : (a0.toList != ([] : List UInt8)) = false := bne_eq_false_iff_eq.mpr c2
  clear c2
  obtain rfl := Option.some.inj H
  go_enter Tryd.func129, Tryd.ntmps129
  go_wp2
  go_ret
  exact ⟨by first | rfl | (simp; done) | (simp [*]; done) | (simp [nil_ne]; done), by repeat (first | exact Drawn0.refl _ | apply Drawn0.step)⟩
 ·rw [if_neg c2] at H
  have c2b0 : (a0.toList == ([] : List UInt8)) = false := beq_eq_false_iff_ne.mpr c2
  have c2b1 : (a0.toList != ([] : List UInt8)) = true := bne_iff_ne.mpr c2
  by_cases c3 : 0 < (a0.size : Int)
  ·rw [if_pos c3] at H
   have c3b0 : decide (0 < (a0.size : Int)) = true := decide_eq_true c3
   have c3b1 : decide (0 < a0.size) = true := decide_eq_true (by omega)
   clear c3
   by_cases c5 : (bt a0 0) = 32
   ·rw [if_pos c5] at H
    have c5b0 : ((bt a0 0) == 32) = true := beq_iff_eq.mpr c5
    have c5b1 : ((bt a0 0) != 32) = false := bne_eq_false_iff_eq.mpr c5
    clear c5
    obtain rfl := Option.some.inj H
    have p4 : 0 ≤ (0 : Int) := (by omega)
    have q4 : 0 < a0.size := (by have : (0 : Int) < (a0.size : Int) := od; omega)
    have hx4 : ∀ h : 0 < a0.size, ((a0[0]'h).toNat : Int) = bt a0 0 := bt_at a0 0
    clear p4
    have qi4 : (0 < (a0.size : Int)) = True := eq_true (od)
    replace q4 := eq_true q4
    go_enter Tryd.func129, Tryd.ntmps129
    go_wp2
    go_ret
    exact ⟨by first | rfl | (simp; done) | (simp [*]; done) | (simp [nil_ne]; done), by repeat (first | exact Drawn0.refl _ | apply Drawn0.step)⟩
   ·rw [if_neg c5] at H
    have c5b0 : ((bt a0 0) == 32) = false := beq_eq_false_iff_ne.mpr c5
    have c5b1 : ((bt a0 0) != 32) = true := bne_iff_ne.mpr c5
    obtain rfl := Option.some.inj H
    have p4 : 0 ≤ (0 : Int) := (by omega)
    have q4 : 0 < a0.size := (by have : (0 : Int) < (a0.size : Int) := od; omega)
    have hx4 : ∀ h : 0 < a0.size, ((a0[0]'h).toNat : Int) = bt a0 0 := bt_at a0 0
    clear p4
    have qi4 : (0 < (a0.size : Int)) = True := eq_true (od)
    replace q4 := eq_true q4
    have p6 : 0 ≤ (0 : Int) := (by omega)
    have q6 : 0 < a0.size := (by have : (0 : Int) < (a0.size : Int) := od; omega)
    have hx6 : ∀ h : 0 < a0.size, ((a0[0]'h).toNat : Int) = bt a0 0 := bt_at a0 0
    clear p6
    have qi6 : (0 < (a0.size : Int)) = True := eq_true (od)
    replace q6 := eq_true q6
    go_enter Tryd.func129, Tryd.ntmps129
    go_wp2
    go_ret
    exact ⟨by first | rfl | (simp; done) | (simp [*]; done) | (simp [nil_ne]; done), by repeat (first | exact Drawn0.refl _ | apply Drawn0.step)⟩
  ·rw [if_neg c3] at H
   exact absurd H (by simp)

end Go.Proofs.YtlomcmdbbnbciaaDoor.Fn
set_option linter.unusedVariables false
namespace Go.Proofs.YtlomcmdbbnbciaaDoor
open Go.ChangeShapes Go.WideShapes Go.ChangeAt Go.RowKit

/-! What all rows of this seat share: a world that meets the condition; the premises as the walks want them. -/
theorem own : ownKnob Tryd.prog.godebug = none := by kernel_rfl
theorem laidOut : laidOutB Tryd.prog = true := by kernel_rfl
def listed : List (String × DataW Unit) := [("unicode/utf8.acceptRanges", Rows.laid_unicode_utf8_acceptRanges), ("unicode/utf8.first", Rows.laid_unicode_utf8_first)]
noncomputable def laidWorld (os : Os) : World :=
  let w0 := World.holding Tryd.prog os ⟨#[], #[], []⟩
  let put (h : Array Obj) (g : Nat) (cs : Array Value) : Array Obj := h.modify g fun
    | .cells _ t frozen => .cells cs t frozen
    | o => o
  let h1 := put w0.heap 0 (Lib.firstTab.map fun z => Value.int .u8 z).toArray
  let h2 := put h1 1 ((List.range 16).flatMap fun i => [Value.int .u8 (Lib.accLo i), Value.int .u8 (Lib.accHi i)]).toArray
  { w0 with heap := h2 }
set_option maxRecDepth 100000 in
theorem laid_met (os : Os) (args : Array Value) : laidMetH Tryd.prog listed ((laidWorld os).forCall (fun _ _ => 0) ⟨#[], args, []⟩).memory :=
  laidMetH_of_parts (laidMet_of_run' 8 (by kernel_rfl) (by kernel_rfl)) (by kernel_rfl)

theorem lift_both {H : Type} {enc : TypeId × Value → H} {a : Assume} {C : Checked} {os : Os} {f : FuncId} {fn : Func} {s : ChangeSpec} {conds : List PathCond} {apart fresh handsOn again : Bool} {X : World → Array Value → Prop}
    (hX : ∀ (w w' : World) (args : Array Value), w.heap = w'.heap → X w args → X w' args)
    (own : ownKnob C.prog.godebug = none) (started : os.Started) (noInit : C.prog.inits.idxOf? f = none) (hfn : C.prog.funcs[f]? = some fn)
    (witness : ∃ (w : World) (tape : Tape) (i : Input), w.os = os ∧ (w.forCall tape i).Shaped C.prog ∧ i.vars = [] ∧ Input.okWide C.prog (w.forCall tape i) .any w.heap.size f i ∧
      ((s.pre enc C.prog fn conds apart (w.forCall tape i).memory i.args ∧ X (w.forCall tape i).memory i.args) ∧ sizedMet enc C.prog fn (OpenSpec.ofChange s) apart (w.forCall tape i).memory i.args) ∧ a.holds C.prog (lone (Frame.enter C.prog f i.args .normal) [] (w.forCall tape i)))
    (contract : ∀ (W : World) (base : Nat) (args : Array Value) (ds gs : List (DataW H)) (before : List MemPlace),
      (∀ (j : Nat) t v, fn.params[j]? = some t → args[j]? = some v → Value.okWide C.prog W .any base t v) →
      DataW.Whole enc C.prog fn.params.toList s.vars apart W args.toList ds gs before →
      (DataW.weightsEach C.prog (fn.params.toList ++ s.plain.varTypes C.prog) (ds ++ gs)).all (· ≤ reachBytes) = true → X W args → W.ShapedOpen C.prog →
      Calls C.prog f args W fun e W' => ∃ v, e = .returned v ∧ s.post enc C.prog fn apart fresh handsOn again W args v W') :
    ReturnsInHanded a C os f .any (fun w args => (s.pre enc C.prog fn conds apart w args ∧ X w args) ∧ sizedMet enc C.prog fn (OpenSpec.ofChange s) apart w args) (s.post enc C.prog fn apart fresh handsOn again) := by
  refine returnsInHanded_of_calls own started noInit witness ?_
  intro w tape i _ hsh _ hok hpre _
  obtain ⟨_, _, _, fn', hfn', _, _, _, _, hval⟩ := hok
  have e : fn' = fn := Option.some.inj (hfn'.symm.trans hfn)
  subst e
  obtain ⟨⟨⟨ds, gs, before, hw, _⟩, hx⟩, hz⟩ := hpre
  have hw' := DataW.Whole.of_heap (w' := w.forCall tape i) (by rfl) hw
  refine (contract (w.forCall tape i) w.heap.size i.args ds gs before hval hw' (hz.weights hw) (hX _ _ _ (by rfl) hx) hsh).mono fun e W' ⟨v, he, hp⟩ => ?_
  subst he
  exact ChangeSpec.post_blind hp
end Go.Proofs.YtlomcmdbbnbciaaDoor
/-
  DERIVED: THE SHELF's CONTRACTS AT THIS DUMP, IN PLAIN WORDS (tools/lay-plain.mjs out of 'TrydShelf.lean', which tools/lay-shelf.mjs wrote): THE SAME DECLARATIONS UNDER THE SAME NAMES: 'import', 'namespace', 'open', 'def', 'theorem' AND NOTHING ELSE: no command of the shelf's: FOR A HAND-IN. Each laying: the table of numbers ('.._ren') and one theorem, a field a fact of the dump's own or the kernel's comparison; each contract: ONE APPLICATION.
-/
namespace Go.Proofs
open Go.Shelf
def Tryd.lays169_ren : Go.Shelf.Ren := ⟨fun | 169 => 72 | n => n, fun | 70 => 100 | 9 => 9 | 0 => 0 | 72 => 102 | 37 => 56 | 127 => 137 | 3 => 3 | 5 => 5 | n => n, fun | n => n⟩
theorem Tryd.lays169 : Go.Proofs.Lays.n169 Tryd.prog Tryd.lays169_ren := {
  mixed := by kernel_rfl
  f169 := Tryd.func72.trans (congrArg some (by kernel_rfl))
  t0 := Tryd.underlying0
  a0 := Tryd.isAgg0
  z0 := Tryd.sizeOf0
  v0 := Tryd.zeroValue0
  t3 := Tryd.underlying3
  a3 := Tryd.isAgg3
  z3 := Tryd.sizeOf3
  v3 := Tryd.zeroValue3
  t9 := Tryd.underlying9
  a9 := Tryd.isAgg9
  z9 := Tryd.sizeOf9
  v9 := Tryd.zeroValue9
  t37 := Tryd.underlying56
  a37 := Tryd.isAgg56
  z37 := Tryd.sizeOf56
  v37 := Tryd.zeroValue56
  t70 := Tryd.underlying100
  a70 := Tryd.isAgg100
  z70 := Tryd.sizeOf100
  v70 := Tryd.zeroValue100
  t72 := Tryd.underlying102
  a72 := Tryd.isAgg102
  z72 := Tryd.sizeOf102
  v72 := Tryd.zeroValue102
  t127 := Tryd.underlying137
  a127 := Tryd.isAgg137
  z127 := Tryd.sizeOf137
  v127 := Tryd.zeroValue137 }
theorem Tryd.Builder_Extra_169 : Builder.Extra Tryd.prog Tryd.lays169_ren := {
  sizeBuilder := by kernel_rfl
  liesBuilder := by kernel_rfl
  t5 := Tryd.underlying5
  a5 := Tryd.isAgg5
  z5 := Tryd.sizeOf5
  v5 := Tryd.zeroValue5
  infoByte := by kernel_rfl
  cellsByte := by kernel_rfl
  sizeByte := by kernel_rfl
  neB5 := by decide }
def Tryd.lays161_ren : Go.Shelf.Ren := ⟨fun | 161 => 131 | 231 => 157 | 227 => 159 | 233 => 160 | 235 => 162 | 228 => 166 | 197 => 116 | 151 => 175 | 260 => 145 | 152 => 164 | 137 => 150 | 119 => 177 | 224 => 173 | 225 => 172 | 217 => 170 | 266 => 181 | n => n, fun | 9 => 9 | 4 => 4 | 3 => 3 | 5 => 5 | 117 => 166 | 116 => 165 | 0 => 0 | 124 => 169 | 105 => 138 | 21 => 21 | 119 => 176 | 46 => 177 | 139 => 180 | 138 => 179 | n => n, fun | 3 => 0 | 4 => 1 | n => n⟩
theorem Tryd.lays161 : Go.Proofs.Lays.n161 Tryd.prog Tryd.lays161_ren := {
  mixed := by kernel_rfl
  f119 := Tryd.func177.trans (congrArg some (by kernel_rfl))
  f137 := Tryd.func150.trans (congrArg some (by kernel_rfl))
  f151 := Tryd.func175.trans (congrArg some (by kernel_rfl))
  f152 := Tryd.func164.trans (congrArg some (by kernel_rfl))
  f161 := Tryd.func131.trans (congrArg some (by kernel_rfl))
  f197 := Tryd.func116.trans (congrArg some (by kernel_rfl))
  f217 := Tryd.func170.trans (congrArg some (by kernel_rfl))
  f224 := Tryd.func173.trans (congrArg some (by kernel_rfl))
  f225 := Tryd.func172.trans (congrArg some (by kernel_rfl))
  f227 := Tryd.func159.trans (congrArg some (by kernel_rfl))
  f228 := Tryd.func166.trans (congrArg some (by kernel_rfl))
  f231 := Tryd.func157.trans (congrArg some (by kernel_rfl))
  f233 := Tryd.func160.trans (congrArg some (by kernel_rfl))
  f235 := Tryd.func162.trans (congrArg some (by kernel_rfl))
  f260 := Tryd.func145.trans (congrArg some (by kernel_rfl))
  f266 := Tryd.func181.trans (congrArg some (by kernel_rfl))
  t0 := Tryd.underlying0
  a0 := Tryd.isAgg0
  z0 := Tryd.sizeOf0
  v0 := Tryd.zeroValue0
  t3 := Tryd.underlying3
  a3 := Tryd.isAgg3
  z3 := Tryd.sizeOf3
  v3 := Tryd.zeroValue3
  t4 := Tryd.underlying4
  a4 := Tryd.isAgg4
  z4 := Tryd.sizeOf4
  v4 := Tryd.zeroValue4
  t5 := Tryd.underlying5
  a5 := Tryd.isAgg5
  z5 := Tryd.sizeOf5
  v5 := Tryd.zeroValue5
  t9 := Tryd.underlying9
  a9 := Tryd.isAgg9
  z9 := Tryd.sizeOf9
  v9 := Tryd.zeroValue9
  t21 := Tryd.underlying21
  a21 := Tryd.isAgg21
  z21 := Tryd.sizeOf21
  v21 := Tryd.zeroValue21
  t46 := Tryd.underlying177
  a46 := Tryd.isAgg177
  z46 := Tryd.sizeOf177
  v46 := Tryd.zeroValue177
  t105 := Tryd.underlying138
  a105 := Tryd.isAgg138
  z105 := Tryd.sizeOf138
  v105 := Tryd.zeroValue138
  t116 := Tryd.underlying165
  a116 := Tryd.isAgg165
  z116 := Tryd.sizeOf165
  t117 := Tryd.underlying166
  a117 := Tryd.isAgg166
  z117 := Tryd.sizeOf166
  v117 := Tryd.zeroValue166
  t119 := Tryd.underlying176
  a119 := Tryd.isAgg176
  z119 := Tryd.sizeOf176
  t124 := Tryd.underlying169
  a124 := Tryd.isAgg169
  z124 := Tryd.sizeOf169
  v124 := Tryd.zeroValue169
  t138 := Tryd.underlying179
  a138 := Tryd.isAgg179
  z138 := Tryd.sizeOf179
  v138 := Tryd.zeroValue179
  t139 := Tryd.underlying180
  a139 := Tryd.isAgg180
  z139 := Tryd.sizeOf180
  v139 := Tryd.zeroValue180
  g3 := by kernel_rfl
  g4 := by kernel_rfl }
def Tryd.lays160_ren : Go.Shelf.Ren := ⟨fun | 160 => 130 | 232 => 158 | 231 => 157 | 227 => 159 | 234 => 161 | 233 => 160 | 236 => 163 | 235 => 162 | 228 => 166 | 271 => 176 | 151 => 175 | 197 => 116 | 120 => 183 | 152 => 164 | 260 => 145 | 137 => 150 | 119 => 177 | 224 => 173 | 225 => 172 | 217 => 170 | 266 => 181 | n => n, fun | 9 => 9 | 4 => 4 | 3 => 3 | 5 => 5 | 117 => 166 | 116 => 165 | 0 => 0 | 124 => 169 | 21 => 21 | 105 => 138 | 46 => 177 | 119 => 176 | 139 => 180 | 138 => 179 | n => n, fun | 3 => 0 | 4 => 1 | n => n⟩
theorem Tryd.lays160 : Go.Proofs.Lays.n160 Tryd.prog Tryd.lays160_ren := {
  mixed := by kernel_rfl
  f119 := Tryd.func177.trans (congrArg some (by kernel_rfl))
  f120 := Tryd.func183.trans (congrArg some (by kernel_rfl))
  f137 := Tryd.func150.trans (congrArg some (by kernel_rfl))
  f151 := Tryd.func175.trans (congrArg some (by kernel_rfl))
  f152 := Tryd.func164.trans (congrArg some (by kernel_rfl))
  f160 := Tryd.func130.trans (congrArg some (by kernel_rfl))
  f197 := Tryd.func116.trans (congrArg some (by kernel_rfl))
  f217 := Tryd.func170.trans (congrArg some (by kernel_rfl))
  f224 := Tryd.func173.trans (congrArg some (by kernel_rfl))
  f225 := Tryd.func172.trans (congrArg some (by kernel_rfl))
  f227 := Tryd.func159.trans (congrArg some (by kernel_rfl))
  f228 := Tryd.func166.trans (congrArg some (by kernel_rfl))
  f231 := Tryd.func157.trans (congrArg some (by kernel_rfl))
  f232 := Tryd.func158.trans (congrArg some (by kernel_rfl))
  f233 := Tryd.func160.trans (congrArg some (by kernel_rfl))
  f234 := Tryd.func161.trans (congrArg some (by kernel_rfl))
  f235 := Tryd.func162.trans (congrArg some (by kernel_rfl))
  f236 := Tryd.func163.trans (congrArg some (by kernel_rfl))
  f260 := Tryd.func145.trans (congrArg some (by kernel_rfl))
  f266 := Tryd.func181.trans (congrArg some (by kernel_rfl))
  f271 := Tryd.func176.trans (congrArg some (by kernel_rfl))
  t0 := Tryd.underlying0
  a0 := Tryd.isAgg0
  z0 := Tryd.sizeOf0
  v0 := Tryd.zeroValue0
  t3 := Tryd.underlying3
  a3 := Tryd.isAgg3
  z3 := Tryd.sizeOf3
  v3 := Tryd.zeroValue3
  t4 := Tryd.underlying4
  a4 := Tryd.isAgg4
  z4 := Tryd.sizeOf4
  v4 := Tryd.zeroValue4
  t5 := Tryd.underlying5
  a5 := Tryd.isAgg5
  z5 := Tryd.sizeOf5
  v5 := Tryd.zeroValue5
  t9 := Tryd.underlying9
  a9 := Tryd.isAgg9
  z9 := Tryd.sizeOf9
  v9 := Tryd.zeroValue9
  t21 := Tryd.underlying21
  a21 := Tryd.isAgg21
  z21 := Tryd.sizeOf21
  v21 := Tryd.zeroValue21
  t46 := Tryd.underlying177
  a46 := Tryd.isAgg177
  z46 := Tryd.sizeOf177
  v46 := Tryd.zeroValue177
  t105 := Tryd.underlying138
  a105 := Tryd.isAgg138
  z105 := Tryd.sizeOf138
  v105 := Tryd.zeroValue138
  t116 := Tryd.underlying165
  a116 := Tryd.isAgg165
  z116 := Tryd.sizeOf165
  t117 := Tryd.underlying166
  a117 := Tryd.isAgg166
  z117 := Tryd.sizeOf166
  v117 := Tryd.zeroValue166
  t119 := Tryd.underlying176
  a119 := Tryd.isAgg176
  z119 := Tryd.sizeOf176
  t124 := Tryd.underlying169
  a124 := Tryd.isAgg169
  z124 := Tryd.sizeOf169
  v124 := Tryd.zeroValue169
  t138 := Tryd.underlying179
  a138 := Tryd.isAgg179
  z138 := Tryd.sizeOf179
  v138 := Tryd.zeroValue179
  t139 := Tryd.underlying180
  a139 := Tryd.isAgg180
  z139 := Tryd.sizeOf180
  v139 := Tryd.zeroValue180
  g3 := by kernel_rfl
  g4 := by kernel_rfl }
def Tryd.lays119_ren : Go.Shelf.Ren := ⟨fun | 119 => 177 | n => n, fun | 21 => 21 | 4 => 4 | n => n, fun | n => n⟩
theorem Tryd.lays119 : Go.Proofs.Lays.n119 Tryd.prog Tryd.lays119_ren := {
  mixed := by kernel_rfl
  f119 := Tryd.func177.trans (congrArg some (by kernel_rfl))
  t4 := Tryd.underlying4
  a4 := Tryd.isAgg4
  z4 := Tryd.sizeOf4
  v4 := Tryd.zeroValue4
  t21 := Tryd.underlying21
  a21 := Tryd.isAgg21
  z21 := Tryd.sizeOf21
  v21 := Tryd.zeroValue21 }

theorem Tryd.utf8_ValidRune (r : Int) (w : World) :
    Calls Tryd.prog 177 #[.int .i32 r] w fun e w' => e = .returned (.bool (Lib.validRune r)) ∧ w' = w := Any.utf8_ValidRune Tryd.lays119 r w
def Tryd.lays137_ren : Go.Shelf.Ren := ⟨fun | 137 => 150 | 217 => 170 | 266 => 181 | n => n, fun | 9 => 9 | 5 => 5 | 3 => 3 | n => n, fun | n => n⟩
theorem Tryd.lays137 : Go.Proofs.Lays.n137 Tryd.prog Tryd.lays137_ren := {
  mixed := by kernel_rfl
  f137 := Tryd.func150.trans (congrArg some (by kernel_rfl))
  f217 := Tryd.func170.trans (congrArg some (by kernel_rfl))
  f266 := Tryd.func181.trans (congrArg some (by kernel_rfl))
  t3 := Tryd.underlying3
  a3 := Tryd.isAgg3
  z3 := Tryd.sizeOf3
  v3 := Tryd.zeroValue3
  t5 := Tryd.underlying5
  a5 := Tryd.isAgg5
  z5 := Tryd.sizeOf5
  v5 := Tryd.zeroValue5
  t9 := Tryd.underlying9
  a9 := Tryd.isAgg9
  z9 := Tryd.sizeOf9
  v9 := Tryd.zeroValue9 }
open Go.RowKit in

theorem Tryd.strings_IndexByte (s : ByteArray) (c : Int) (w : World) :
    Calls Tryd.prog 150 #[.string s, .int .u8 c] w fun e w' => e = .returned (.int .i64 (Lib.indexByte s.data.toList c.toNat.toUInt8)) ∧ w' = w := Any.strings_IndexByte Tryd.lays137 s c w
open Go.RowKit in

theorem Tryd.Builder_String_any_k (B b : Nat) (l : List UInt8) (w : World) (h : Lib.IsBuilderF 102 5 B b (Lib.byteCells l) w) (hBw : B ≤ w.heap.size) :
    Calls Tryd.prog 72 #[.pointer (some ⟨b, 0, none⟩)] w fun e w' => e = .returned (.string ⟨l.toArray⟩) ∧ (Lib.IsBuilderF 102 5 B b (Lib.byteCells l) w' ∧ Below B w w' ∧ Lib.OthersKept 5 (some b) w w') := Any.Builder_String_any_k Tryd.lays169 Tryd.Builder_Extra_169 B b l w h hBw
def Tryd.lays143_ren : Go.Shelf.Ren := ⟨fun | 143 => 149 | 219 => 156 | 217 => 170 | 225 => 172 | 224 => 173 | 267 => 174 | 266 => 181 | 314 => 182 | n => n, fun | 9 => 9 | 3 => 3 | 4 => 4 | 5 => 5 | 46 => 177 | 146 => 186 | 51 => 185 | n => n, fun | 1 => 2 | n => n⟩
theorem Tryd.lays143 : Go.Proofs.Lays.n143 Tryd.prog Tryd.lays143_ren := {
  mixed := by kernel_rfl
  f143 := Tryd.func149.trans (congrArg some (by kernel_rfl))
  f217 := Tryd.func170.trans (congrArg some (by kernel_rfl))
  f219 := Tryd.func156.trans (congrArg some (by kernel_rfl))
  f224 := Tryd.func173.trans (congrArg some (by kernel_rfl))
  f225 := Tryd.func172.trans (congrArg some (by kernel_rfl))
  f266 := Tryd.func181.trans (congrArg some (by kernel_rfl))
  f267 := Tryd.func174.trans (congrArg some (by kernel_rfl))
  f314 := Tryd.func182.trans (congrArg some (by kernel_rfl))
  t3 := Tryd.underlying3
  a3 := Tryd.isAgg3
  z3 := Tryd.sizeOf3
  v3 := Tryd.zeroValue3
  t4 := Tryd.underlying4
  a4 := Tryd.isAgg4
  z4 := Tryd.sizeOf4
  v4 := Tryd.zeroValue4
  t5 := Tryd.underlying5
  a5 := Tryd.isAgg5
  z5 := Tryd.sizeOf5
  v5 := Tryd.zeroValue5
  t9 := Tryd.underlying9
  a9 := Tryd.isAgg9
  z9 := Tryd.sizeOf9
  v9 := Tryd.zeroValue9
  t46 := Tryd.underlying177
  a46 := Tryd.isAgg177
  z46 := Tryd.sizeOf177
  v46 := Tryd.zeroValue177
  t51 := Tryd.underlying185
  a51 := Tryd.isAgg185
  z51 := Tryd.sizeOf185
  v51 := Tryd.zeroValue185
  t146 := Tryd.underlying186
  a146 := Tryd.isAgg186
  z146 := Tryd.sizeOf186
  v146 := Tryd.zeroValue186
  g1 := by kernel_rfl }
open Go.RowKit Go.Lib in

theorem Tryd.strings_Index (s sub : ByteArray) (m : Int) (w : World) (hs : s.size < 4294967281) (hm : w.cell? ⟨2, 0, none⟩ = some (.int .i64 m)) :
    Calls Tryd.prog 149 #[.string s, .string sub] w fun e w' => e = .returned (.int .i64 (Lib.index s.data.toList sub.data.toList)) ∧ w' = w := Any.strings_Index Tryd.lays143 s sub m w hs hm
def Tryd.lays145_ren : Go.Shelf.Ren := ⟨fun | 145 => 89 | 220 => 128 | 219 => 156 | 217 => 170 | 225 => 172 | 224 => 173 | 267 => 174 | 266 => 181 | 314 => 182 | n => n, fun | 9 => 9 | 4 => 4 | 59 => 122 | 3 => 3 | 5 => 5 | 46 => 177 | 146 => 186 | 51 => 185 | n => n, fun | 1 => 2 | n => n⟩
theorem Tryd.lays145 : Go.Proofs.Lays.n145 Tryd.prog Tryd.lays145_ren := {
  mixed := by kernel_rfl
  f145 := Tryd.func89.trans (congrArg some (by kernel_rfl))
  f217 := Tryd.func170.trans (congrArg some (by kernel_rfl))
  f219 := Tryd.func156.trans (congrArg some (by kernel_rfl))
  f220 := Tryd.func128.trans (congrArg some (by kernel_rfl))
  f224 := Tryd.func173.trans (congrArg some (by kernel_rfl))
  f225 := Tryd.func172.trans (congrArg some (by kernel_rfl))
  f266 := Tryd.func181.trans (congrArg some (by kernel_rfl))
  f267 := Tryd.func174.trans (congrArg some (by kernel_rfl))
  f314 := Tryd.func182.trans (congrArg some (by kernel_rfl))
  t3 := Tryd.underlying3
  a3 := Tryd.isAgg3
  z3 := Tryd.sizeOf3
  v3 := Tryd.zeroValue3
  t4 := Tryd.underlying4
  a4 := Tryd.isAgg4
  z4 := Tryd.sizeOf4
  v4 := Tryd.zeroValue4
  t5 := Tryd.underlying5
  a5 := Tryd.isAgg5
  z5 := Tryd.sizeOf5
  v5 := Tryd.zeroValue5
  t9 := Tryd.underlying9
  a9 := Tryd.isAgg9
  z9 := Tryd.sizeOf9
  v9 := Tryd.zeroValue9
  t46 := Tryd.underlying177
  a46 := Tryd.isAgg177
  z46 := Tryd.sizeOf177
  v46 := Tryd.zeroValue177
  t51 := Tryd.underlying185
  a51 := Tryd.isAgg185
  z51 := Tryd.sizeOf185
  v51 := Tryd.zeroValue185
  t59 := Tryd.underlying122
  a59 := Tryd.isAgg122
  z59 := Tryd.sizeOf122
  v59 := Tryd.zeroValue122
  t146 := Tryd.underlying186
  a146 := Tryd.isAgg186
  z146 := Tryd.sizeOf186
  v146 := Tryd.zeroValue186
  g1 := by kernel_rfl }
open Go.RowKit Go.Lib in

theorem Tryd.strings_Cut (s sep : ByteArray) (m : Int) (w : World) (hs : s.size < 4294967281) (hm : w.cell? ⟨2, 0, none⟩ = some (.int .i64 m)) :
    Calls Tryd.prog 89 #[.string s, .string sep] w fun e w' => e = .returned (.tuple #[.string ⟨(Lib.cut s.data.toList sep.data.toList).1.toArray⟩, .string ⟨(Lib.cut s.data.toList sep.data.toList).2.1.toArray⟩, .bool (Lib.cut s.data.toList sep.data.toList).2.2]) ∧ ∃ n, w' = w.drewN n := Any.strings_Cut Tryd.lays145 s sep m w hs hm
def Tryd.lays152_ren : Go.Shelf.Ren := ⟨fun | 152 => 164 | 137 => 150 | 119 => 177 | 224 => 173 | 225 => 172 | 217 => 170 | 266 => 181 | n => n, fun | 9 => 9 | 21 => 21 | 3 => 3 | 4 => 4 | 5 => 5 | 0 => 0 | 46 => 177 | n => n, fun | n => n⟩
theorem Tryd.lays152 : Go.Proofs.Lays.n152 Tryd.prog Tryd.lays152_ren := {
  mixed := by kernel_rfl
  f119 := Tryd.func177.trans (congrArg some (by kernel_rfl))
  f137 := Tryd.func150.trans (congrArg some (by kernel_rfl))
  f152 := Tryd.func164.trans (congrArg some (by kernel_rfl))
  f217 := Tryd.func170.trans (congrArg some (by kernel_rfl))
  f224 := Tryd.func173.trans (congrArg some (by kernel_rfl))
  f225 := Tryd.func172.trans (congrArg some (by kernel_rfl))
  f266 := Tryd.func181.trans (congrArg some (by kernel_rfl))
  t0 := Tryd.underlying0
  a0 := Tryd.isAgg0
  z0 := Tryd.sizeOf0
  v0 := Tryd.zeroValue0
  t3 := Tryd.underlying3
  a3 := Tryd.isAgg3
  z3 := Tryd.sizeOf3
  v3 := Tryd.zeroValue3
  t4 := Tryd.underlying4
  a4 := Tryd.isAgg4
  z4 := Tryd.sizeOf4
  v4 := Tryd.zeroValue4
  t5 := Tryd.underlying5
  a5 := Tryd.isAgg5
  z5 := Tryd.sizeOf5
  v5 := Tryd.zeroValue5
  t9 := Tryd.underlying9
  a9 := Tryd.isAgg9
  z9 := Tryd.sizeOf9
  v9 := Tryd.zeroValue9
  t21 := Tryd.underlying21
  a21 := Tryd.isAgg21
  z21 := Tryd.sizeOf21
  v21 := Tryd.zeroValue21
  t46 := Tryd.underlying177
  a46 := Tryd.isAgg177
  z46 := Tryd.sizeOf177
  v46 := Tryd.zeroValue177 }
open Go.RowKit Go.Lib in
theorem Tryd.strings_IndexRune_ascii (s : ByteArray) (r : Int) (w : World) (h0 : 0 ≤ r) (h1 : r < 128) :
    Calls Tryd.prog 164 #[.string s, .int .i32 r] w fun e w' => e = .returned (.int .i64 (Lib.indexByte s.data.toList r.toNat.toUInt8)) ∧ w' = w := Any.strings_IndexRune_ascii Tryd.lays152 s r w h0 h1
def Tryd.lays226_ren : Go.Shelf.Ren := ⟨fun | 226 => 165 | n => n, fun | 3 => 3 | 4 => 4 | n => n, fun | n => n⟩
theorem Tryd.lays226 : Go.Proofs.Lays.n226 Tryd.prog Tryd.lays226_ren := {
  mixed := by kernel_rfl
  f226 := Tryd.func165.trans (congrArg some (by kernel_rfl))
  t3 := Tryd.underlying3
  a3 := Tryd.isAgg3
  z3 := Tryd.sizeOf3
  v3 := Tryd.zeroValue3
  t4 := Tryd.underlying4
  a4 := Tryd.isAgg4
  z4 := Tryd.sizeOf4
  v4 := Tryd.zeroValue4 }
open Go.RowKit Go.Lib in
theorem Tryd.strings_shouldUseASCIISet (n : Int) (w : World) :
    Calls Tryd.prog 165 #[.int .i64 n] w fun e w' => e = .returned (.bool (decide (8 < n))) ∧ w' = w := Any.strings_shouldUseASCIISet Tryd.lays226 n w
def Tryd.lays153_ren : Go.Shelf.Ren := ⟨fun | 153 => 132 | 152 => 164 | 226 => 165 | 227 => 159 | 228 => 166 | 137 => 150 | 119 => 177 | 224 => 173 | 225 => 172 | 217 => 170 | 266 => 181 | n => n, fun | 9 => 9 | 3 => 3 | 4 => 4 | 5 => 5 | 21 => 21 | 117 => 166 | 116 => 165 | 0 => 0 | 46 => 177 | 124 => 169 | n => n, fun | n => n⟩
theorem Tryd.lays153 : Go.Proofs.Lays.n153 Tryd.prog Tryd.lays153_ren := {
  mixed := by kernel_rfl
  f119 := Tryd.func177.trans (congrArg some (by kernel_rfl))
  f137 := Tryd.func150.trans (congrArg some (by kernel_rfl))
  f152 := Tryd.func164.trans (congrArg some (by kernel_rfl))
  f153 := Tryd.func132.trans (congrArg some (by kernel_rfl))
  f217 := Tryd.func170.trans (congrArg some (by kernel_rfl))
  f224 := Tryd.func173.trans (congrArg some (by kernel_rfl))
  f225 := Tryd.func172.trans (congrArg some (by kernel_rfl))
  f226 := Tryd.func165.trans (congrArg some (by kernel_rfl))
  f227 := Tryd.func159.trans (congrArg some (by kernel_rfl))
  f228 := Tryd.func166.trans (congrArg some (by kernel_rfl))
  f266 := Tryd.func181.trans (congrArg some (by kernel_rfl))
  t0 := Tryd.underlying0
  a0 := Tryd.isAgg0
  z0 := Tryd.sizeOf0
  v0 := Tryd.zeroValue0
  t3 := Tryd.underlying3
  a3 := Tryd.isAgg3
  z3 := Tryd.sizeOf3
  v3 := Tryd.zeroValue3
  t4 := Tryd.underlying4
  a4 := Tryd.isAgg4
  z4 := Tryd.sizeOf4
  v4 := Tryd.zeroValue4
  t5 := Tryd.underlying5
  a5 := Tryd.isAgg5
  z5 := Tryd.sizeOf5
  v5 := Tryd.zeroValue5
  t9 := Tryd.underlying9
  a9 := Tryd.isAgg9
  z9 := Tryd.sizeOf9
  v9 := Tryd.zeroValue9
  t21 := Tryd.underlying21
  a21 := Tryd.isAgg21
  z21 := Tryd.sizeOf21
  v21 := Tryd.zeroValue21
  t46 := Tryd.underlying177
  a46 := Tryd.isAgg177
  z46 := Tryd.sizeOf177
  v46 := Tryd.zeroValue177
  t116 := Tryd.underlying165
  a116 := Tryd.isAgg165
  z116 := Tryd.sizeOf165
  t117 := Tryd.underlying166
  a117 := Tryd.isAgg166
  z117 := Tryd.sizeOf166
  v117 := Tryd.zeroValue166
  t124 := Tryd.underlying169
  a124 := Tryd.isAgg169
  z124 := Tryd.sizeOf169
  v124 := Tryd.zeroValue169 }
def Tryd.lays260_ren : Go.Shelf.Ren := ⟨fun | 260 => 145 | n => n, fun | 9 => 9 | 21 => 21 | 3 => 3 | 4 => 4 | 5 => 5 | 119 => 176 | 0 => 0 | 46 => 177 | 139 => 180 | 138 => 179 | n => n, fun | 3 => 0 | 4 => 1 | n => n⟩
theorem Tryd.lays260 : Go.Proofs.Lays.n260 Tryd.prog Tryd.lays260_ren := {
  mixed := by kernel_rfl
  f260 := Tryd.func145.trans (congrArg some (by kernel_rfl))
  t0 := Tryd.underlying0
  a0 := Tryd.isAgg0
  z0 := Tryd.sizeOf0
  v0 := Tryd.zeroValue0
  t3 := Tryd.underlying3
  a3 := Tryd.isAgg3
  z3 := Tryd.sizeOf3
  v3 := Tryd.zeroValue3
  t4 := Tryd.underlying4
  a4 := Tryd.isAgg4
  z4 := Tryd.sizeOf4
  v4 := Tryd.zeroValue4
  t5 := Tryd.underlying5
  a5 := Tryd.isAgg5
  z5 := Tryd.sizeOf5
  v5 := Tryd.zeroValue5
  t9 := Tryd.underlying9
  a9 := Tryd.isAgg9
  z9 := Tryd.sizeOf9
  v9 := Tryd.zeroValue9
  t21 := Tryd.underlying21
  a21 := Tryd.isAgg21
  z21 := Tryd.sizeOf21
  v21 := Tryd.zeroValue21
  t46 := Tryd.underlying177
  a46 := Tryd.isAgg177
  z46 := Tryd.sizeOf177
  v46 := Tryd.zeroValue177
  t119 := Tryd.underlying176
  a119 := Tryd.isAgg176
  z119 := Tryd.sizeOf176
  t138 := Tryd.underlying179
  a138 := Tryd.isAgg179
  z138 := Tryd.sizeOf179
  v138 := Tryd.zeroValue179
  t139 := Tryd.underlying180
  a139 := Tryd.isAgg180
  z139 := Tryd.sizeOf180
  v139 := Tryd.zeroValue180
  g3 := by kernel_rfl
  g4 := by kernel_rfl }
end Go.Proofs
set_option linter.unusedVariables false
namespace Go.Proofs.YtlomcmdbbnbciaaDoor.Fn
open Go.RowKit Go.Proofs.YtlomcmdbbnbciaaDoorW.PrintWords

/-! The package variables that the walks read: unicode/utf8's tables; internal/bytealg.MaxLen, some number. -/
structure Glob (w : World) : Prop where
  tabs : Lib.Utf8Tabs 0 1 w
  max : ∃ m : Int, w.cell? ⟨2, 0, none⟩ = some (.int .i64 m)
theorem cell_inside {w : World} {a : Addr} {v : Value} (h : w.cell? a = some v) : a.block < w.heap.size := by
  obtain ⟨o, ho, _⟩ := not_walk_of_cell h
  exact (Array.getElem?_eq_some_iff.1 ho).1
theorem Glob.below {w W : World} (h : Glob w) (hb : Below w.heap.size w W) : Glob W := by
  obtain ⟨m, hm⟩ := h.max
  exact ⟨Utf8Tabs_below h.tabs hb, m, (hb.cell (cell_inside hm)).trans hm⟩
theorem Glob.drawn {w W : World} (h : Glob w) (hd : Drawn0 w W) : Glob W := h.below hd.below
theorem glob_of {W : World} (hL : laidMetH Tryd.prog listed W) (hS : W.ShapedOpen Tryd.prog) : Glob W := by
  have hL' : laidMet Tryd.prog listed W := hL
  have h1 : Lib.VarReads Tryd.prog W "unicode/utf8.first" Lib.firstData := by
    have := Lib.laidMet.reads hL' (n := "unicode/utf8.first") (d := Rows.laid_unicode_utf8_first) (.tail _ (.head _))
    rw [show Rows.laid_unicode_utf8_first = Lib.firstData from Pinned.utf8First_eq] at this
    exact this
  have h2 : Lib.VarReads Tryd.prog W "unicode/utf8.acceptRanges" Lib.acceptData := Lib.laidMet.reads hL' (.head _)
  refine ⟨utf8Tabs_of_reads (ρ := Tryd.lays260_ren) Tryd.lays260 ⟨by kernel_rfl, by kernel_rfl, by kernel_rfl, by kernel_rfl, by kernel_rfl, by kernel_rfl, by kernel_rfl⟩ h1 h2, ?_⟩
  exact cell_of_shapedOpen_int (P := Tryd.prog) (g := 2) (t := 3) (zero := #[.int .i64 0]) hS (of_decide_eq_true (by kernel_rfl)) (by kernel_rfl) rfl (by kernel_rfl) (by kernel_rfl) Tryd.underlying3
end Go.Proofs.YtlomcmdbbnbciaaDoor.Fn
set_option linter.unusedVariables false
namespace Go.Proofs.YtlomcmdbbnbciaaDoor.Pl

/-! What the functions that are not printed compute: plain Lean. -/
abbrev Bytes := List UInt8
def str (l : Bytes) : ByteArray := ⟨l.toArray⟩
theorem str_data (l : Bytes) : (str l).data.toList = l := by simp [str]
theorem str_toList (s : ByteArray) : str s.data.toList = s := by cases s; simp [str]
theorem str_size (l : Bytes) : (str l).size = l.length := by
  show l.toArray.size = _
  simp
theorem data_length (s : ByteArray) : s.data.toList.length = s.size := by
  show s.data.toList.length = s.data.size
  simp

def width (s : ByteArray) (i : Nat) : Nat := (Utf8.decode s i).2
def sign (s : ByteArray) (i : Nat) : Nat := (Utf8.decode s i).1
theorem width_pos (s : ByteArray) (i : Nat) (h : i < s.size) : 1 ≤ width s i := by
  unfold width
  by_cases ha : (s[i]'h).toNat < 128
  · rw [decode_ascii s i h ha]
    exact Nat.le_refl _
  · exact (decode_high s i h (by omega)).2

theorem width_end (s : ByteArray) (i : Nat) (h : i < s.size) : i + (Utf8.decode s i).2 ≤ s.size := by
  rw [Lib.decode_at]
  unfold Lib.decodeN
  repeat' split
  all_goals (simp only []; omega)

def blank (r : Nat) : Bool := r == 32 || (r == 9 || (r == 13 || r == 10))
def words (s : ByteArray) : List ByteArray := Lib.goFieldsP blank s
end Go.Proofs.YtlomcmdbbnbciaaDoor.Pl
set_option linter.unusedVariables false
namespace Go.Proofs.YtlomcmdbbnbciaaDoor.Fn
open Go.RowKit Go.Proofs.YtlomcmdbbnbciaaDoorW.PrintWords

def strings_Cut.f (a0 a1 : ByteArray) : Option (ByteArray × ByteArray × Bool) :=
  if a0.size < 4294967281 then some (Pl.str (Lib.cut a0.data.toList a1.data.toList).1, Pl.str (Lib.cut a0.data.toList a1.data.toList).2.1, (Lib.cut a0.data.toList a1.data.toList).2.2) else none
theorem strings_Cut.calls (a0 a1 r1 r2 : ByteArray) (r3 : Bool) (w : World) (hG : Glob w) (h : strings_Cut.f a0 a1 = some (r1, r2, r3)) :
    Calls Tryd.prog 89 #[.string a0, .string a1] w fun e w' => e = .returned (.tuple #[.string r1, .string r2, .bool r3]) ∧ Below w.heap.size w w' := by
  unfold strings_Cut.f at h
  by_cases hs : a0.size < 4294967281
  · rw [if_pos hs] at h
    have HR := Option.some.inj h
    injection HR with e1 HR
    injection HR with e2 e3
    obtain ⟨m, hm⟩ := hG.max
    refine (Tryd.strings_Cut a0 a1 m w hs hm).mono ?_
    rintro e w' ⟨rfl, n, rfl⟩
    refine ⟨?_, pw_below_drewN (Below.refl _ w) n⟩
    rw [← e1, ← e2, ← e3]
    rfl
  · rw [if_neg hs] at h
    exact absurd h (by simp)
end Go.Proofs.YtlomcmdbbnbciaaDoor.Fn
-- written by xprint.py of this session over the kit's printer; not trusted: Lean checks it
namespace Go.Proofs.YtlomcmdbbnbciaaDoor.Fn
open Go.RowKit Go.Proofs.YtlomcmdbbnbciaaDoorW.PrintWords Go.Proofs.YtlomcmdbbnbciaaDoorW.PrintLast Go.Proofs.YtlomcmdbbnbciaaDoorW.PrintMore
attribute [local go_sem] max2_int min2_int max_two min_two max_three min_three max_four min_four   -- for this text's walks alone
set_option linter.unusedVariables false
set_option linter.unusedSimpArgs false

/-! ### head_grow: function 90 -/
mutual
def head_grow.j0 : Nat → List (S60) → ByteArray → Bool → Option ((List (S60)) × Int)
 | 0, _, _, _ => none
 | k + 1, x0, x1, x13 => if x13 = true then (some (([] : List (S60)), 150)) else ((head_white.f x1).bind fun t523 => (if t523 = true then (if 0 ≤ (wrap64 ((x0.length : Int) - 1)) then (if (wrap64 ((x0.length : Int) - 1)) < (x0.length : Int) then (if ((rd_T60 x0 (wrap64 ((x0.length : Int) - 1))).f1).size + x1.size ≤ 9223372036854775807 then (some ((x0.set ((wrap64 ((x0.length : Int) - 1)) : Int).toNat (⟨(rd_T60 x0 (wrap64 ((x0.length : Int) - 1))).f0, ((rd_T60 x0 (wrap64 ((x0.length : Int) - 1))).f1) ++ x1⟩ : S60)), 0)) else (none)) else (none)) else (none)) else ((strings_Cut.f x1 (⟨#[58]⟩ : ByteArray)).bind fun bt526 => (if bt526.2.2 = true then ((head_named.f k bt526.1).bind fun t529 => (head_grow.j1 k x0 bt526.1 bt526.2.1 (!t529))) else (head_grow.j1 k x0 bt526.1 bt526.2.1 true)))))
def head_grow.j1 : Nat → List (S60) → ByteArray → ByteArray → Bool → Option ((List (S60)) × Int)
 | 0, _, _, _, _ => none
 | k + 1, x0, x6, x7, x47 => if x47 = true then (some (([] : List (S60)), 150)) else (if (x0.length : Int) = 100 then (some (([] : List (S60)), 8)) else (if x0.length < 4398046511104 then (some ((x0 ++ [(⟨x6, x7⟩ : S60)]), 0)) else (none)))
end
def head_grow.f (k : Nat) (l0 : List (S60)) (a1 : ByteArray) : Option ((List (S60)) × Int) := if (a1.size : Int) > 998 then (some (([] : List (S60)), 2)) else ((head_text.f k a1).bind fun t521 => (if t521 = true then ((head_white.f a1).bind fun t522 => (if t522 = true then (head_grow.j0 k l0 a1 ((l0.length : Int) == 0)) else (head_grow.j0 k l0 a1 false))) else (head_grow.j0 k l0 a1 true)))
theorem head_grow.mono_l : ∀ k, (∀ y0 y1 y2, LeO (head_grow.j0 k y0 y1 y2) (head_grow.j0 (k + 1) y0 y1 y2)) ∧ (∀ y0 y1 y2 y3, LeO (head_grow.j1 k y0 y1 y2 y3) (head_grow.j1 (k + 1) y0 y1 y2 y3))
 | 0 => ⟨fun _ _ _ r h => by simp [head_grow.j0] at h, fun _ _ _ _ r h => by simp [head_grow.j1] at h⟩
 | k + 1 => by
  obtain ⟨ih0, ih1⟩ := head_grow.mono_l k
  refine ⟨?_, ?_⟩
  ·intro y0 y1 y2
   unfold head_grow.j0
   repeat' first
   | (with_reducible exact ih0 _ _ _)
   | (with_reducible exact ih1 _ _ _ _)
   | (with_reducible exact head_named.mono _ _)
   | (with_reducible exact head_text.mono _ _)
   | (with_reducible exact LeO.refl _)
   | (with_reducible exact LeO.none _)
   | (with_reducible refine LeO.ite ?_ ?_)
   | (with_reducible refine LeO.bind ?_ (fun _ => ?_))
   | exact ih0 _ _ _
   | exact ih1 _ _ _ _
   | exact head_named.mono _ _
   | exact head_text.mono _ _
   | exact LeO.none _
   | refine LeO.ite ?_ ?_
   | refine LeO.bind ?_ (fun _ => ?_)
  ·intro y0 y1 y2 y3
   unfold head_grow.j1
   repeat' first
   | (with_reducible exact ih0 _ _ _)
   | (with_reducible exact ih1 _ _ _ _)
   | (with_reducible exact head_named.mono _ _)
   | (with_reducible exact head_text.mono _ _)
   | (with_reducible exact LeO.refl _)
   | (with_reducible exact LeO.none _)
   | (with_reducible refine LeO.ite ?_ ?_)
   | (with_reducible refine LeO.bind ?_ (fun _ => ?_))
   | exact ih0 _ _ _
   | exact ih1 _ _ _ _
   | exact head_named.mono _ _
   | exact head_text.mono _ _
   | exact LeO.none _
   | refine LeO.ite ?_ ?_
   | refine LeO.bind ?_ (fun _ => ?_)
theorem head_grow.mono : ∀ a0 a1 k, LeO (head_grow.f k a0 a1) (head_grow.f (k + 1) a0 a1) := by
 intro a0 a1 k
 obtain ⟨ih0, ih1⟩ := head_grow.mono_l k
 unfold head_grow.f
 repeat' first
   | (with_reducible exact ih0 _ _ _)
   | (with_reducible exact ih1 _ _ _ _)
   | (with_reducible exact head_named.mono _ _)
   | (with_reducible exact head_text.mono _ _)
   | (with_reducible exact LeO.refl _)
   | (with_reducible exact LeO.none _)
   | (with_reducible refine LeO.ite ?_ ?_)
   | (with_reducible refine LeO.bind ?_ (fun _ => ?_))
   | exact ih0 _ _ _
   | exact ih1 _ _ _ _
   | exact head_named.mono _ _
   | exact head_text.mono _ _
   | exact LeO.none _
   | refine LeO.ite ?_ ?_
   | refine LeO.bind ?_ (fun _ => ?_)
set_option maxHeartbeats 8000000 in
set_option maxRecDepth 100000 in
theorem head_grow.calls (k : Nat) (P0_ : Nat → Prop) (u9000_ : Value) (l0 : List (S60)) (a1 : ByteArray) (r1 : List (S60)) (r2 : Int) (w0 w : World) (hG : Glob w0) (hB : Below w0.heap.size w0 w) (ho0 : Kd.R k60 60 w w0.heap.size P0_ u9000_ l0) (h : head_grow.f k l0 a1 = some (r1, r2)) :
  Calls Tryd.prog 90 #[u9000_, .string a1] w fun e w' => ∃ v0_ : Value, e = .returned (.tuple #[v0_, .int .i64 r2]) ∧ Kd.R k60 60 w' w0.heap.size (fun k_ => (P0_ k_ ∨ w.heap.size ≤ k_)) v0_ r1 ∧ Below w0.heap.size w0 w' ∧ Kept w w' (fun k_ => P0_ k_) := by
 have hu60 := Tryd.underlying60
 have HO0 := Aside0.mk (show Kd.R k60 60 w w0.heap.size (fun k_ => (P0_ k_ ∨ w.heap.size ≤ k_)) u9000_ l0 from Kd.R_mono ho0 (fun k_ hk => (.inl hk)))
 have HK := Aside0.mk (Kept.refl w (fun k_ => P0_ k_))
 have HW0 := Aside0.mk hB.size
 have HB := Aside0.mk hB
 clear hB
 have H : (if (a1.size : Int) > 998 then (some (([] : List (S60)), 2)) else ((head_text.f k a1).bind fun t521 => (if t521 = true then ((head_white.f a1).bind fun t522 => (if t522 = true then (head_grow.j0 k l0 a1 ((l0.length : Int) == 0)) else (head_grow.j0 k l0 a1 false))) else (head_grow.j0 k l0 a1 true)))) = some (r1, r2) := h
 clear h
 by_cases c3 : (a1.size : Int) > 998
 ·rw [if_pos c3] at H
  have c3b0 : decide (998 < (a1.size : Int)) = true := decide_eq_true c3
  have c3b1 : decide (998 < a1.size) = true := decide_eq_true (by omega)
  clear c3
  simp only [Option.some.injEq, Prod.mk.injEq] at H
  obtain ⟨rfl, rfl⟩ := H
  go_enter Tryd.func90, Tryd.ntmps90
  go_wp2
  go_ret2
  exact ⟨_, by first | rfl | (simp [errW_none, errW_some] <;> rfl) | (simp [*, errW_none, errW_some] <;> rfl), by first | exact Kd.R_nil _ _ _ _ _ | exact Kd.N_nil _ _ _ _ _ | exact Kd.V_nil _ _ _ _ _ | exact Kd.Q_nil _ _ _ _ _ | exact Kd.S_nil _ _ _ _ _, by repeat (first | (with_reducible first | exact HB.out | apply below_alloc | apply pw_below_drewN | apply below_drew1) | exact HB.out), by repeat (first | (with_reducible first | exact HK.out | apply Kept.alloc | apply Kept.drewN | apply Kept.drew) | exact HK.out)⟩
 ·rw [if_neg c3] at H
  have c3b0 : decide (998 < (a1.size : Int)) = false := decide_eq_false c3
  have c3b1 : decide (998 < a1.size) = false := decide_eq_false (by omega)
  clear c3
  have HC4 := Aside0.mk H
  clear H
  go_enter Tryd.func90, Tryd.ntmps90
  go_upto_region 3 with (fail)
  go_cut [13] (fun v13 wc => ∃ (kq : Nat) (x13_3 : Bool), v13 = .bool x13_3 ∧ Aside0 (head_grow.j0 kq l0 a1 x13_3 = some (r1, r2)) ∧ Aside0 (kq ≤ k) ∧ Aside0 (Kd.R k60 60 wc w0.heap.size (fun k_ => (P0_ k_ ∨ w.heap.size ≤ k_)) u9000_ l0) ∧ Aside0 (Kept w wc (fun k_ => P0_ k_)) ∧ Aside0 (Below w0.heap.size w0 wc))
  case first =>
   have H := HC4.out
   clear HC4
   replace H := Option.bind_eq_some_iff.mp H
   obtain ⟨t521, A50, H⟩ := H
   replace H : (if t521 = true then ((head_white.f a1).bind fun t522 => (if t522 = true then (head_grow.j0 k l0 a1 ((l0.length : Int) == 0)) else (head_grow.j0 k l0 a1 false))) else (head_grow.j0 k l0 a1 true)) = some (r1, r2) := H
   have A5 := Aside0.mk A50
   clear A50
   by_cases c6 : t521 = true
   ·subst c6
    have H1 : ((head_white.f a1).bind fun t522 => (if t522 = true then (head_grow.j0 k l0 a1 ((l0.length : Int) == 0)) else (head_grow.j0 k l0 a1 false))) = some (r1, r2) := by rw [if_pos rfl] at H; exact H
    clear H
    have H := H1
    clear H1
    replace H := Option.bind_eq_some_iff.mp H
    obtain ⟨t522, A70, H⟩ := H
    replace H : (if t522 = true then (head_grow.j0 k l0 a1 ((l0.length : Int) == 0)) else (head_grow.j0 k l0 a1 false)) = some (r1, r2) := H
    have A7 := Aside0.mk A70
    clear A70
    by_cases c8 : t522 = true
    ·subst c8
     have H1 : (head_grow.j0 k l0 a1 ((l0.length : Int) == 0)) = some (r1, r2) := by rw [if_pos rfl] at H; exact H
     clear H
     have H := H1
     clear H1
     have H' := Aside0.mk H
     clear H
     go_wp2_with (first | ((with_reducible refine gate_callee (f := 98) rfl ?_); refine goesL_ (some 15) rfl rfl Tryd.func98 (by kernel_rfl) rfl #[.string a1] rfl am ?_; (with_reducible refine (head_text.calls k a1 true _ A5.out).mono ?_); rintro e w' ⟨rfl, ⟨nd, rfl⟩⟩; refine ⟨_, rfl, ?_⟩) | (go_at_call 129; (with_reducible refine (head_white.calls a1 true _ A7.out).mono ?_); rintro e w' ⟨rfl, ⟨nd, rfl⟩⟩; obtain ⟨Ao9, co9, eo9⟩ := Kd.R_slice HO0.out; subst eo9))
     go_meet
     case rel => exact ⟨_, (((l0.length : Int) == 0)), cl, H', ⟨by first | omega | exact Nat.le_refl _⟩, ⟨by (with_reducible repeat (first | apply Kd.R_alloc | apply Kd.R_drewN | apply Kd.R_drew)); exact HO0.out⟩, ⟨by repeat (first | (with_reducible first | exact HK.out | apply Kept.alloc | apply Kept.drewN | apply Kept.drew) | exact HK.out)⟩, ⟨by repeat (first | (with_reducible first | exact HB.out | apply below_alloc | apply pw_below_drewN | apply below_drew1) | exact HB.out)⟩⟩
    ·replace c8 := Bool.eq_false_iff.mpr c8
     subst c8
     have H1 : (head_grow.j0 k l0 a1 false) = some (r1, r2) := by rw [if_neg (show ¬ (false = true) by decide)] at H; exact H
     clear H
     have H := H1
     clear H1
     have H' := Aside0.mk H
     clear H
     go_wp2_with (first | ((with_reducible refine gate_callee (f := 98) rfl ?_); refine goesL_ (some 15) rfl rfl Tryd.func98 (by kernel_rfl) rfl #[.string a1] rfl am ?_; (with_reducible refine (head_text.calls k a1 true _ A5.out).mono ?_); rintro e w' ⟨rfl, ⟨nd, rfl⟩⟩; refine ⟨_, rfl, ?_⟩) | (go_at_call 129; (with_reducible refine (head_white.calls a1 false _ A7.out).mono ?_); rintro e w' ⟨rfl, ⟨nd, rfl⟩⟩))
     go_meet
     case rel => exact ⟨_, (false), cl, H', ⟨by first | omega | exact Nat.le_refl _⟩, ⟨by (with_reducible repeat (first | apply Kd.R_alloc | apply Kd.R_drewN | apply Kd.R_drew)); exact HO0.out⟩, ⟨by repeat (first | (with_reducible first | exact HK.out | apply Kept.alloc | apply Kept.drewN | apply Kept.drew) | exact HK.out)⟩, ⟨by repeat (first | (with_reducible first | exact HB.out | apply below_alloc | apply pw_below_drewN | apply below_drew1) | exact HB.out)⟩⟩
   ·replace c6 := Bool.eq_false_iff.mpr c6
    subst c6
    have H1 : (head_grow.j0 k l0 a1 true) = some (r1, r2) := by rw [if_neg (show ¬ (false = true) by decide)] at H; exact H
    clear H
    have H := H1
    clear H1
    have H' := Aside0.mk H
    clear H
    go_wp2_with (first | ((with_reducible refine gate_callee (f := 98) rfl ?_); refine goesL_ (some 15) rfl rfl Tryd.func98 (by kernel_rfl) rfl #[.string a1] rfl am ?_; (with_reducible refine (head_text.calls k a1 false _ A5.out).mono ?_); rintro e w' ⟨rfl, ⟨nd, rfl⟩⟩; refine ⟨_, rfl, ?_⟩))
    go_meet
    case rel => exact ⟨_, (true), cl, H', ⟨by first | omega | exact Nat.le_refl _⟩, ⟨by (with_reducible repeat (first | apply Kd.R_alloc | apply Kd.R_drewN | apply Kd.R_drew)); exact HO0.out⟩, ⟨by repeat (first | (with_reducible first | exact HK.out | apply Kept.alloc | apply Kept.drewN | apply Kept.drew) | exact HK.out)⟩, ⟨by repeat (first | (with_reducible first | exact HB.out | apply below_alloc | apply pw_below_drewN | apply below_drew1) | exact HB.out)⟩⟩
  case rest =>
   clear HC4
   try clear p2
   try clear c3
   try clear c3b0
   try clear c3b1
   try clear c6
   try clear c8
   try clear c9
   obtain ⟨kq, x13_3, rfl, HA, HJ3, HO_0, HK, HB⟩ := hcut
   cases kq with
   | zero => exact absurd HA.out (by simp [head_grow.j0])
   | succ kj3 =>
    have H := HA.out
    clear HA
    simp only [head_grow.j0] at H
    by_cases c10 : x13_3 = true
    ·subst c10
     have H1 : (some (([] : List (S60)), 150)) = some (r1, r2) := by rw [if_pos rfl] at H; exact H
     clear H
     have H := H1
     clear H1
     simp only [Option.some.injEq, Prod.mk.injEq] at H
     obtain ⟨rfl, rfl⟩ := H
     go_wp2
     go_ret2
     exact ⟨_, by first | rfl | (simp [errW_none, errW_some] <;> rfl) | (simp [*, errW_none, errW_some] <;> rfl), by first | exact Kd.R_nil _ _ _ _ _ | exact Kd.N_nil _ _ _ _ _ | exact Kd.V_nil _ _ _ _ _ | exact Kd.Q_nil _ _ _ _ _ | exact Kd.S_nil _ _ _ _ _, by repeat (first | (with_reducible first | exact HB.out | apply below_alloc | apply pw_below_drewN | apply below_drew1) | exact HB.out), by repeat (first | (with_reducible first | exact HK.out | apply Kept.alloc | apply Kept.drewN | apply Kept.drew) | exact HK.out)⟩
    ·replace c10 := Bool.eq_false_iff.mpr c10
     subst c10
     have H1 : ((head_white.f a1).bind fun t523 => (if t523 = true then (if 0 ≤ (wrap64 ((l0.length : Int) - 1)) then (if (wrap64 ((l0.length : Int) - 1)) < (l0.length : Int) then (if ((rd_T60 l0 (wrap64 ((l0.length : Int) - 1))).f1).size + a1.size ≤ 9223372036854775807 then (some ((l0.set ((wrap64 ((l0.length : Int) - 1)) : Int).toNat (⟨(rd_T60 l0 (wrap64 ((l0.length : Int) - 1))).f0, ((rd_T60 l0 (wrap64 ((l0.length : Int) - 1))).f1) ++ a1⟩ : S60)), 0)) else (none)) else (none)) else (none)) else ((strings_Cut.f a1 (⟨#[58]⟩ : ByteArray)).bind fun bt526 => (if bt526.2.2 = true then ((head_named.f kj3 bt526.1).bind fun t529 => (head_grow.j1 kj3 l0 bt526.1 bt526.2.1 (!t529))) else (head_grow.j1 kj3 l0 bt526.1 bt526.2.1 true))))) = some (r1, r2) := by rw [if_neg (show ¬ (false = true) by decide)] at H; exact H
     clear H
     have H := H1
     clear H1
     replace H := Option.bind_eq_some_iff.mp H
     obtain ⟨t523, A110, H⟩ := H
     replace H : (if t523 = true then (if 0 ≤ (wrap64 ((l0.length : Int) - 1)) then (if (wrap64 ((l0.length : Int) - 1)) < (l0.length : Int) then (if ((rd_T60 l0 (wrap64 ((l0.length : Int) - 1))).f1).size + a1.size ≤ 9223372036854775807 then (some ((l0.set ((wrap64 ((l0.length : Int) - 1)) : Int).toNat (⟨(rd_T60 l0 (wrap64 ((l0.length : Int) - 1))).f0, ((rd_T60 l0 (wrap64 ((l0.length : Int) - 1))).f1) ++ a1⟩ : S60)), 0)) else (none)) else (none)) else (none)) else ((strings_Cut.f a1 (⟨#[58]⟩ : ByteArray)).bind fun bt526 => (if bt526.2.2 = true then ((head_named.f kj3 bt526.1).bind fun t529 => (head_grow.j1 kj3 l0 bt526.1 bt526.2.1 (!t529))) else (head_grow.j1 kj3 l0 bt526.1 bt526.2.1 true)))) = some (r1, r2) := H
     have A11 := Aside0.mk A110
     clear A110
     by_cases c12 : t523 = true
     ·subst c12
      have H1 : (if 0 ≤ (wrap64 ((l0.length : Int) - 1)) then (if (wrap64 ((l0.length : Int) - 1)) < (l0.length : Int) then (if ((rd_T60 l0 (wrap64 ((l0.length : Int) - 1))).f1).size + a1.size ≤ 9223372036854775807 then (some ((l0.set ((wrap64 ((l0.length : Int) - 1)) : Int).toNat (⟨(rd_T60 l0 (wrap64 ((l0.length : Int) - 1))).f0, ((rd_T60 l0 (wrap64 ((l0.length : Int) - 1))).f1) ++ a1⟩ : S60)), 0)) else (none)) else (none)) else (none)) = some (r1, r2) := by rw [if_pos rfl] at H; exact H
      clear H
      have H := H1
      clear H1
      obtain ⟨ji13, hji13⟩ : ∃ j_ : Int, (wrap64 ((l0.length : Int) - 1)) = j_ := ⟨_, rfl⟩
      replace H : (if 0 ≤ (ji13) then (if (ji13) < (l0.length : Int) then (if ((rd_T60 l0 (ji13)).f1).size + a1.size ≤ 9223372036854775807 then (some ((l0.set ((ji13) : Int).toNat (⟨(rd_T60 l0 (ji13)).f0, ((rd_T60 l0 (ji13)).f1) ++ a1⟩ : S60)), 0)) else (none)) else (none)) else (none)) = some (r1, r2) := by first | (rw [hji13] at H; exact H) | (simp only [hji13] at H ⊢; exact H)
      (try rw [hji13] at A11)
      have hji13w : (IntKind.i64.wrap ((l0.length : Int) - 1)) = ji13 := (i64_w _).trans hji13
      by_cases c14 : 0 ≤ (ji13)
      ·rw [if_pos c14] at H
       have c14b0 : decide (0 ≤ (ji13)) = true := decide_eq_true c14
       clear c14
       by_cases c15 : (ji13) < (l0.length : Int)
       ·rw [if_pos c15] at H
        have c15b0 : decide ((ji13) < (l0.length : Int)) = true := decide_eq_true c15
        clear c15
        by_cases c16 : ((rd_T60 l0 (ji13)).f1).size + a1.size ≤ 9223372036854775807
        ·rw [if_pos c16] at H
         have c16b0 := eq_true c16
         have c16b1 : decide (((rd_T60 l0 (ji13)).f1).size + a1.size ≤ 9223372036854775807) = true := decide_eq_true c16
         try have c16b2 : (9223372036854775807 < ((rd_T60 l0 (ji13)).f1).size + a1.size) = False := eq_false (Nat.not_lt.2 c16)
         obtain ⟨y525, hy525⟩ : ∃ y_ : List (S60), y_ = (l0.set ((ji13) : Int).toNat (⟨(rd_T60 l0 (ji13)).f0, ((rd_T60 l0 (ji13)).f1) ++ a1⟩ : S60)) := ⟨_, rfl⟩
         replace H : (some (y525, 0)) = some (r1, r2) := by first | (rw [hy525]; with_reducible exact H) | (have H2_ := (Option.bind_some _ _).symm.trans H; rw [hy525]; with_reducible exact H2_) | (have H2_ := (Option.bind_some _ _).symm.trans H; with_reducible exact H2_) | with_reducible exact H | (rw [hy525]; exact H) | exact H
         have Ny525 := Aside0.mk hy525
         clear hy525
         simp only [Option.some.injEq, Prod.mk.injEq] at H
         obtain ⟨rfl, rfl⟩ := H
         go_wp2_with (first | ((with_reducible refine gate_callee (f := 129) rfl ?_); refine goesL_ (some 28) rfl rfl Tryd.func129 (by kernel_rfl) rfl #[.string a1] rfl am ?_; (with_reducible refine (head_white.calls a1 true _ A11.out).mono ?_); rintro e w' ⟨rfl, ⟨nd, rfl⟩⟩; refine ⟨_, rfl, ?_⟩; (try (rw [drewN_self wc]; generalize hq_ : World.drewN wc _ = wc; have n0_ : Aside0 (Kd.R k60 60 wc w0.heap.size (fun k_ => (P0_ k_ ∨ w.heap.size ≤ k_)) u9000_ l0) := ⟨by rw [← hq_]; exact (by (with_reducible repeat (first | apply Kd.R_alloc | apply Kd.R_drewN | apply Kd.R_drew)); exact HO_0.out)⟩; have n1_ : Aside0 (Kept w wc (fun k_ => P0_ k_)) := ⟨by rw [← hq_]; exact (by repeat (first | (with_reducible first | exact HK.out | apply Kept.alloc | apply Kept.drewN | apply Kept.drew) | exact HK.out))⟩; have n2_ : Aside0 (Below w0.heap.size w0 wc) := ⟨by rw [← hq_]; exact bw⟩; clear HO_0 HK HB hq_; have HO_0 := n0_; have HK := n1_; have HB := n2_; clear n0_ n1_ n2_)); obtain ⟨Ao18, co18, eo18⟩ := Kd.R_slice HO_0.out; subst eo18; have p524 : 0 ≤ ((ji13) : Int) := od; have q524 : (ji13) < (l0.length : Int) := od; obtain ⟨ad524, e524, hx524_0, hx524_1⟩ := at_T60 (Kd.R_reads' HO_0.out).2.2 (ji13) p524 q524; cases e524; replace p524 := eq_true p524; replace q524 := eq_true q524; have p17 : 0 ≤ ((ji13) : Int) := od; have q17 : ((ji13) : Int) < ((l0.length : Int) : Int) := od; obtain ⟨go17, co17, eo17, gb17, gl17, cl17, HG17⟩ := Kd.R_form HO_0.out (by omega); (first | cases eo17 | (injection eo17 with ea_ en_ ec_; (first | subst ea_ | (injection ea_ with ea_; subst ea_)); subst ec_; clear en_)); have GB17 := Aside0.mk gb17; have GG17 := Aside0.mk HG17; clear gb17 gl17 HG17; have HMgo17 := Aside0.mk (show (P0_ go17 ∨ w.heap.size ≤ go17) from (HO_0.out.1 _ rfl)); (first | simp only [add_plain] at hx524_0 | skip); (first | simp only [add_plain] at hx524_1 | skip); obtain ⟨ce17, hcl17, hM17, hcc17, hfr17⟩ := Kd.R_elem HO_0.out z60 ((ji13) : Int) p17 q17; obtain rfl := k60_openM hM17; have hx17_0 : wc.cell? ⟨go17, ((ji13) : Int).toNat * 2, none⟩ = some (.string ((rd_T60 l0 (ji13)).f0)) := hcc17 0 _ rfl; have hx17_1 : wc.cell? ⟨go17, ((ji13) : Int).toNat * 2 + 1, none⟩ = some (.string ((rd_T60 l0 (ji13)).f1)) := hcc17 1 _ rfl; have hf17_0 : wc.frozen? ⟨go17, ((ji13) : Int).toNat * 2, none⟩ = false := hfr17 0; have hf17_1 : wc.frozen? ⟨go17, ((ji13) : Int).toNat * 2 + 1, none⟩ = false := hfr17 1; clear hcl17 hcc17 hfr17 hM17; replace p17 := eq_true p17; replace q17 := eq_true q17; have HX19 := Aside0.mk (show Kd.R k60 60 wc w0.heap.size (fun k_ => (P0_ k_ ∨ w.heap.size ≤ k_)) (.slice (some ⟨go17, 0, none⟩) l0.length co18) l0 from (by (with_reducible repeat (first | apply Kd.R_alloc | apply Kd.R_drewN | apply Kd.R_drew)); exact HO_0.out)); obtain ⟨ce19, hcl19, hM19, hcc19, hfr19⟩ := Kd.R_elem HX19.out z60 ((ji13) : Int) (od) (by have h_ : ((ji13) : Int) < ((l0.length : Int) : Int) := od; first | exact h_ | (have e_ := (Kd.R_reads' HO_0.out).1; omega) | simpa using h_); obtain rfl := k60_openM hM19; have HP19 := Kd.R_seg HX19.out ((ji13) : Int) (od) (by have h_ : ((ji13) : Int) < ((l0.length : Int) : Int) := od; first | exact h_ | (have e_ := (Kd.R_reads' HO_0.out).1; omega) | simpa using h_) (seg := [.string (((rd_T60 l0 (ji13)).f1) ++ a1)]) (j := 1) hcl19 hcc19 (show 2 ≤ 2 from by decide) (x' := (⟨(rd_T60 l0 (ji13)).f0, ((rd_T60 l0 (ji13)).f1) ++ a1⟩ : S60)) (k60_mkM _ _ _ (⟨(rd_T60 l0 (ji13)).f0, ((rd_T60 l0 (ji13)).f1) ++ a1⟩ : S60) ) (fun _ hk => hk); have hx19_1 := hcc19 1 _ rfl; (try simp only [show (k60).sz = 2 from rfl, Nat.mul_one, Nat.add_zero] at hx19_1); have hf19_1 := hfr19 1; (try simp only [show (k60).sz = 2 from rfl, Nat.mul_one, Nat.add_zero] at hf19_1); clear hcl19 hcc19 hfr19 hM19) | ((with_reducible refine gate_store (t := 9) (p := 39) rfl ?_); refine store_event (t := 9) (p := 39) (v := ?vo_w20) (w1 := (wc.setCell ⟨go17, ((ji13) : Int).toNat * 2 + 1, none⟩ (.string (((rd_T60 l0 (ji13)).f1) ++ a1)))) ?hg ?ho ?hn ?hr ?_; (case ho => rfl); (case hg => rfl); (case hn => rfl); (case hr => first | (go_simp; done) | (go_simp; rfl)); intro w20 hw; have hg : wc.grownBy w20 (some go17) := (by rw [hw]; exact HP19.2); have hp_ : Kd.R k60 60 w20 w0.heap.size (fun k_ => (P0_ k_ ∨ w.heap.size ≤ k_)) (.slice (some ⟨go17, 0, none⟩) l0.length co18) y525 := (by rw [hw, Ny525.out]; exact HP19.1); clear HP19; have n0_ := Aside0.mk (hp_); have n1_ := Aside0.mk ((by rw [hw]; exact below_set (HB.out) GB17.out : Below w0.heap.size w0 w20)); have n2_ := Aside0.mk (Kept.of_grown (S := (fun k_ => P0_ k_)) hg (by repeat (first | (with_reducible first | exact HK.out | apply Kept.alloc | apply Kept.drewN | apply Kept.drew) | exact HK.out)) (fun k_ e_ => (HO_0.out.1 k_ e_))); clear HO_0; clear HB; clear HK; have HO_0 := n0_; have HB := n1_; have HK := n2_; clear n0_ n1_ n2_; clear hg hw hp_))
         go_ret2
         exact ⟨_, by first | rfl | (simp [errW_none, errW_some] <;> rfl) | (simp only [← hji13]; first | rfl | (simp [errW_none, errW_some] <;> rfl)) | (simp [*, errW_none, errW_some] <;> rfl), by (with_reducible repeat (first | apply Kd.R_alloc | apply Kd.R_drewN | apply Kd.R_drew)); exact HO_0.out, by repeat (first | (with_reducible first | exact HB.out | apply below_alloc | apply pw_below_drewN | apply below_drew1) | exact HB.out), by repeat (first | (with_reducible first | exact HK.out | apply Kept.alloc | apply Kept.drewN | apply Kept.drew) | exact HK.out)⟩
        ·rw [if_neg c16] at H
         exact absurd H (by simp)
       ·rw [if_neg c15] at H
        exact absurd H (by simp)
      ·rw [if_neg c14] at H
       exact absurd H (by simp)
     ·replace c12 := Bool.eq_false_iff.mpr c12
      subst c12
      have H1 : ((strings_Cut.f a1 (⟨#[58]⟩ : ByteArray)).bind fun bt526 => (if bt526.2.2 = true then ((head_named.f kj3 bt526.1).bind fun t529 => (head_grow.j1 kj3 l0 bt526.1 bt526.2.1 (!t529))) else (head_grow.j1 kj3 l0 bt526.1 bt526.2.1 true))) = some (r1, r2) := by rw [if_neg (show ¬ (false = true) by decide)] at H; exact H
      clear H
      have H := H1
      clear H1
      replace H := Option.bind_eq_some_iff.mp H
      obtain ⟨⟨t526, t527, t528⟩, A210, H⟩ := H
      replace H : (if t528 = true then ((head_named.f kj3 t526).bind fun t529 => (head_grow.j1 kj3 l0 t526 t527 (!t529))) else (head_grow.j1 kj3 l0 t526 t527 true)) = some (r1, r2) := H
      have A21 := Aside0.mk A210
      clear A210
      have HC22 := Aside0.mk H
      clear H
      go_upto_region 9 with (first | ((with_reducible refine gate_callee (f := 129) rfl ?_); refine goesL_ (some 28) rfl rfl Tryd.func129 (by kernel_rfl) rfl #[.string a1] rfl am ?_; (with_reducible refine (head_white.calls a1 false _ A11.out).mono ?_); rintro e w' ⟨rfl, ⟨nd, rfl⟩⟩; refine ⟨_, rfl, ?_⟩) | ((with_reducible refine gate_callee (f := 89) rfl ?_); refine goesL_ (some 43) rfl rfl Tryd.func89 (by kernel_rfl) rfl #[.string a1, .string (⟨#[58]⟩ : ByteArray)] rfl am ?_; (with_reducible refine (strings_Cut.calls (hG := by first | exact hG | exact Glob.below hG (by first | exact HB.out | (repeat (first | (with_reducible first | exact HB.out | apply below_alloc | apply pw_below_drewN | apply below_drew1) | exact HB.out))) | exact Glob.drawn hG (by repeat (first | exact Drawn0.refl _ | apply Drawn0.step))) a1 (⟨#[58]⟩ : ByteArray) t526 t527 t528 _ A21.out).mono ?_); rintro e w23 ⟨rfl, hb⟩; refine ⟨_, rfl, ?_⟩; have n0_ := Aside0.mk (Kd.R_below (by (with_reducible repeat (first | apply Kd.R_alloc | apply Kd.R_drewN | apply Kd.R_drew)); exact HO_0.out) hb); have n1_ := Aside0.mk (Kept.below (S := (fun k_ => P0_ k_)) (by repeat (first | (with_reducible first | exact HK.out | apply Kept.alloc | apply Kept.drewN | apply Kept.drew) | exact HK.out)) hb); have n2_ := Aside0.mk (below_step bw hb); clear HO_0; clear HK; clear HB; have HO_0 := n0_; have HK := n1_; have HB := n2_; clear n0_ n1_ n2_; (try clear hb); (try clear hb2); (try clear hk); (try clear hi)))
      (try simp only [Act.put, List.setIfInBounds_toArray, List.set_cons_zero, List.set_cons_succ])
      go_cut [47] (fun v47 wc => ∃ (kq : Nat) (x47_21 : Bool), v47 = .bool x47_21 ∧ Aside0 (head_grow.j1 kq l0 t526 t527 x47_21 = some (r1, r2)) ∧ Aside0 (kq ≤ kj3) ∧ Aside0 (Kd.R k60 60 wc w0.heap.size (fun k_ => (P0_ k_ ∨ w.heap.size ≤ k_)) u9000_ l0) ∧ Aside0 (Kept w wc (fun k_ => P0_ k_)) ∧ Aside0 (Below w0.heap.size w0 wc))
      case first =>
       have H := HC22.out
       clear HC22
       by_cases c24 : t528 = true
       ·subst c24
        have H1 : ((head_named.f kj3 t526).bind fun t529 => (head_grow.j1 kj3 l0 t526 t527 (!t529))) = some (r1, r2) := by rw [if_pos rfl] at H; exact H
        clear H
        have H := H1
        clear H1
        replace H := Option.bind_eq_some_iff.mp H
        obtain ⟨t529, A250, H⟩ := H
        replace H : (head_grow.j1 kj3 l0 t526 t527 (!t529)) = some (r1, r2) := H
        have A25 := Aside0.mk A250
        clear A250
        have H' := Aside0.mk H
        clear H
        go_wp2_with (first | (go_at_call 97; (with_reducible refine (head_named.calls kj3 t526 t529 _ A25.out).mono ?_); rintro e w' ⟨rfl, ⟨nd, rfl⟩⟩))
        go_meet
        case rel => exact ⟨_, (!t529), cl, H', ⟨by have := HJ3.out; first | omega | exact Nat.le_refl _⟩, ⟨by (with_reducible repeat (first | apply Kd.R_alloc | apply Kd.R_drewN | apply Kd.R_drew)); exact HO_0.out⟩, ⟨by repeat (first | (with_reducible first | exact HK.out | apply Kept.alloc | apply Kept.drewN | apply Kept.drew) | exact HK.out)⟩, ⟨by repeat (first | (with_reducible first | exact HB.out | apply below_alloc | apply pw_below_drewN | apply below_drew1) | exact HB.out)⟩⟩
       ·replace c24 := Bool.eq_false_iff.mpr c24
        subst c24
        have H1 : (head_grow.j1 kj3 l0 t526 t527 true) = some (r1, r2) := by rw [if_neg (show ¬ (false = true) by decide)] at H; exact H
        clear H
        have H := H1
        clear H1
        have H' := Aside0.mk H
        clear H
        go_wp2
        go_meet
        case rel => exact ⟨_, (true), cl, H', ⟨by have := HJ3.out; first | omega | exact Nat.le_refl _⟩, ⟨by (with_reducible repeat (first | apply Kd.R_alloc | apply Kd.R_drewN | apply Kd.R_drew)); exact HO_0.out⟩, ⟨by repeat (first | (with_reducible first | exact HK.out | apply Kept.alloc | apply Kept.drewN | apply Kept.drew) | exact HK.out)⟩, ⟨by repeat (first | (with_reducible first | exact HB.out | apply below_alloc | apply pw_below_drewN | apply below_drew1) | exact HB.out)⟩⟩
      case rest =>
       clear HC22
       try clear c1
       try clear p1
       try clear q1
       try clear hx1
       try clear c2
       try clear p2
       try clear c3
       try clear c3b0
       try clear c3b1
       try clear p5
       try clear q5
       try clear hx5
       try clear c6
       try clear p6
       try clear c8
       try clear c9
       try clear c10
       try clear c12
       try clear c14
       try clear c14b0
       try clear c15
       try clear c15b0
       try clear c16
       try clear c16b0
       try clear c16b1
       try clear c16b2
       try clear c17
       try clear p17
       try clear q17
       try clear hx17
       try clear hf17
       try clear c19
       try clear hx19
       try clear hf19
       try clear c24
       try clear hx17_0
       try clear hx17_1
       try clear hx19_1
       try clear hx524_0
       try clear hx524_1
       try clear p17
       try clear p2
       try clear p524
       try clear q17
       try clear q524
       obtain ⟨kq, x47_21, rfl, HA, HJ21, HO_0, HK, HB⟩ := hcut
       cases kq with
       | zero => exact absurd HA.out (by simp [head_grow.j1])
       | succ kj21 =>
        have H := HA.out
        clear HA
        simp only [head_grow.j1] at H
        by_cases c26 : x47_21 = true
        ·subst c26
         have H1 : (some (([] : List (S60)), 150)) = some (r1, r2) := by rw [if_pos rfl] at H; exact H
         clear H
         have H := H1
         clear H1
         simp only [Option.some.injEq, Prod.mk.injEq] at H
         obtain ⟨rfl, rfl⟩ := H
         go_wp2
         go_ret2
         exact ⟨_, by first | rfl | (simp [errW_none, errW_some] <;> rfl) | (simp [*, errW_none, errW_some] <;> rfl), by first | exact Kd.R_nil _ _ _ _ _ | exact Kd.N_nil _ _ _ _ _ | exact Kd.V_nil _ _ _ _ _ | exact Kd.Q_nil _ _ _ _ _ | exact Kd.S_nil _ _ _ _ _, by repeat (first | (with_reducible first | exact HB.out | apply below_alloc | apply pw_below_drewN | apply below_drew1) | exact HB.out), by repeat (first | (with_reducible first | exact HK.out | apply Kept.alloc | apply Kept.drewN | apply Kept.drew) | exact HK.out)⟩
        ·replace c26 := Bool.eq_false_iff.mpr c26
         subst c26
         have H1 : (if (l0.length : Int) = 100 then (some (([] : List (S60)), 8)) else (if l0.length < 4398046511104 then (some ((l0 ++ [(⟨t526, t527⟩ : S60)]), 0)) else (none))) = some (r1, r2) := by rw [if_neg (show ¬ (false = true) by decide)] at H; exact H
         clear H
         have H := H1
         clear H1
         by_cases c27 : (l0.length : Int) = 100
         ·rw [if_pos c27] at H
          have c27b0 : ((l0.length : Int) == 100) = true := beq_iff_eq.mpr c27
          have c27b1 : ((l0.length : Int) != 100) = false := bne_eq_false_iff_eq.mpr c27
          clear c27
          simp only [Option.some.injEq, Prod.mk.injEq] at H
          obtain ⟨rfl, rfl⟩ := H
          obtain ⟨Ao28, co28, eo28⟩ := Kd.R_slice HO_0.out
          subst eo28
          go_wp2
          go_ret2
          exact ⟨_, by first | rfl | (simp [errW_none, errW_some] <;> rfl) | (simp [*, errW_none, errW_some] <;> rfl), by first | exact Kd.R_nil _ _ _ _ _ | exact Kd.N_nil _ _ _ _ _ | exact Kd.V_nil _ _ _ _ _ | exact Kd.Q_nil _ _ _ _ _ | exact Kd.S_nil _ _ _ _ _, by repeat (first | (with_reducible first | exact HB.out | apply below_alloc | apply pw_below_drewN | apply below_drew1) | exact HB.out), by repeat (first | (with_reducible first | exact HK.out | apply Kept.alloc | apply Kept.drewN | apply Kept.drew) | exact HK.out)⟩
         ·rw [if_neg c27] at H
          have c27b0 : ((l0.length : Int) == 100) = false := beq_eq_false_iff_ne.mpr c27
          have c27b1 : ((l0.length : Int) != 100) = true := bne_iff_ne.mpr c27
          by_cases c29 : l0.length < 4398046511104
          ·rw [if_pos c29] at H
           have LMc29 := Aside0.mk c29
           clear c29
           obtain ⟨y530, hy530⟩ : ∃ y_ : List (S60), y_ = (l0 ++ [(⟨t526, t527⟩ : S60)]) := ⟨_, rfl⟩
           replace H : (some (y530, 0)) = some (r1, r2) := by first | (rw [hy530]; with_reducible exact H) | (have H2_ := (Option.bind_some _ _).symm.trans H; rw [hy530]; with_reducible exact H2_) | (have H2_ := (Option.bind_some _ _).symm.trans H; with_reducible exact H2_) | with_reducible exact H | (rw [hy530]; exact H) | exact H
           have Ny530 := Aside0.mk hy530
           clear hy530
           simp only [Option.some.injEq, Prod.mk.injEq] at H
           obtain ⟨rfl, rfl⟩ := H
           obtain ⟨Ao30, co30, eo30⟩ := Kd.R_slice HO_0.out
           subst eo30
           go_wp2_with (first | ((with_reducible refine gate_builtin (b := .append) (xs := #[.tmp 59, .tmp 63]) rfl ?_); (try (refine gate_guard (by rfl) ?_; dsimp only)); at_builtin; refine Kd.R_append k60 (w0 := w0) w0.heap.size rfl (.tmp 59) (.tmp 63) 49 60 (.agg #[(.string ⟨#[]⟩), (.string ⟨#[]⟩)]) 32 rfl Tryd.underlying49 info60 rfl (by decide) (by omega) (.slice Ao30 l0.length co30) l0 (⟨t526, t527⟩ : S60) [.string t526, .string t527] (fun k_ => (P0_ k_ ∨ w.heap.size ≤ k_)) (fun _ => False) rfl rfl ?aP (fun _ hk => hk.elim) ?aF ?aO ?aB ?aS ?aL ?_; (case aP => exact k60_mkM _ _ _ (⟨t526, t527⟩ : S60)); (case aB => exact bw); (case aF => exact (fun k_ hk => (.inr (Nat.le_trans (by first | exact HK.out.1 | exact (show Kept w _ (fun k_ => P0_ k_) from by repeat (first | (with_reducible first | exact HK.out | apply Kept.alloc | apply Kept.drewN | apply Kept.drew) | exact HK.out)).1) hk)))); (case aO => exact (by (with_reducible repeat (first | apply Kd.R_alloc | apply Kd.R_drewN | apply Kd.R_drew)); exact HO_0.out)); (case aS => exact (below_size bw)); (case aL => have := LMc29.out; omega); intro v531 w31 ho hb hg hat; rw [← Ny530.out] at ho; have n0_ := Aside0.mk (hb); have n1_ := Aside0.mk (Kept.of_grown (S := (fun k_ => P0_ k_)) hg (by repeat (first | (with_reducible first | exact HK.out | apply Kept.alloc | apply Kept.drewN | apply Kept.drew) | exact HK.out)) (fun k_ e_ => (HO_0.out.1 k_ e_))); have n2_ := Aside0.mk (ho); clear HB; clear HK; clear HO_0; have HB := n0_; have HK := n1_; have HO532 := n2_; clear n0_ n1_ n2_; clear ho hb hg hat))
           go_ret2
           exact ⟨_, by first | rfl | (simp [errW_none, errW_some] <;> rfl) | (simp [*, errW_none, errW_some] <;> rfl), by (with_reducible repeat (first | apply Kd.R_alloc | apply Kd.R_drewN | apply Kd.R_drew)); exact HO532.out, by repeat (first | (with_reducible first | exact HB.out | apply below_alloc | apply pw_below_drewN | apply below_drew1) | exact HB.out), by repeat (first | (with_reducible first | exact HK.out | apply Kept.alloc | apply Kept.drewN | apply Kept.drew) | exact HK.out)⟩
          ·rw [if_neg c29] at H
           exact absurd H (by simp)

end Go.Proofs.YtlomcmdbbnbciaaDoor.Fn
set_option linter.unusedVariables false
namespace Go.Proofs.YtlomcmdbbnbciaaDoor.Fn
open Go.RowKit Go.Proofs.YtlomcmdbbnbciaaDoorW.PrintWords

def strings_Trim.f (a0 a1 : ByteArray) : Option ByteArray :=
  if a0.size ≤ 140737488355328 then (if a1.size ≤ 1000 then (if a1.data.toList.all (fun b => decide (b.toNat < 128)) = true then some (Pl.str (Lib.trimS a0.data.toList a1.data.toList)) else none) else none) else none
theorem strings_Trim.calls (a0 a1 r : ByteArray) (w : World) (h : strings_Trim.f a0 a1 = some r) :
    Calls Tryd.prog 130 #[.string a0, .string a1] w fun e w' => e = .returned (.string r) ∧ Below w.heap.size w w' := by
  unfold strings_Trim.f at h
  by_cases hs : a0.size ≤ 140737488355328
  · rw [if_pos hs] at h
    by_cases hc : a1.size ≤ 1000
    · rw [if_pos hc] at h
      by_cases ha : a1.data.toList.all (fun b => decide (b.toNat < 128)) = true
      · rw [if_pos ha] at h
        have HR := Option.some.inj h
        subst HR
        exact Any.strings_Trim_laid Tryd.lays160 (by kernel_rfl) a0 a1 w (by omega) (by omega) (ascii_of_all ha)
      · rw [if_neg ha] at h; exact absurd h (by simp)
    · rw [if_neg hc] at h; exact absurd h (by simp)
  · rw [if_neg hs] at h; exact absurd h (by simp)
end Go.Proofs.YtlomcmdbbnbciaaDoor.Fn
-- written by xprint.py of this session over the kit's printer; not trusted: Lean checks it
namespace Go.Proofs.YtlomcmdbbnbciaaDoor.Fn
open Go.RowKit Go.Proofs.YtlomcmdbbnbciaaDoorW.PrintWords Go.Proofs.YtlomcmdbbnbciaaDoorW.PrintLast Go.Proofs.YtlomcmdbbnbciaaDoorW.PrintMore
attribute [local go_sem] max2_int min2_int max_two min_two max_three min_three max_four min_four   -- for this text's walks alone
set_option linter.unusedVariables false
set_option linter.unusedSimpArgs false

/-! ### head_trim: function 91 -/
def head_trim.f (a0 : ByteArray) : Option (ByteArray) := (strings_Trim.f a0 (⟨#[32, 9]⟩ : ByteArray)).bind fun t535 => (some t535)
set_option maxHeartbeats 8000000 in
set_option maxRecDepth 100000 in
theorem head_trim.calls (a0 : ByteArray) (r : ByteArray) (w : World) (h : head_trim.f a0 = some r) :
  Calls Tryd.prog 91 #[.string a0] w fun e w' => e = .returned (.string r) ∧ Below w.heap.size w w' := by
 have HB := Aside0.mk (Below.refl w.heap.size w)
 have H : ((strings_Trim.f a0 (⟨#[32, 9]⟩ : ByteArray)).bind fun t535 => (some t535)) = some r := h
 clear h
 replace H := Option.bind_eq_some_iff.mp H
 obtain ⟨t535, A20, H⟩ := H
 replace H : (some t535) = some r := H
 have A2 := Aside0.mk A20
 clear A20
 obtain rfl := Option.some.inj H
 go_enter Tryd.func91, Tryd.ntmps91
 go_wp2_with (first | ((with_reducible refine gate_callee (f := 130) rfl ?_); refine goesL_ (some 4) rfl rfl Tryd.func130 (by kernel_rfl) rfl #[.string a0, .string (⟨#[32, 9]⟩ : ByteArray)] rfl am ?_; (with_reducible refine (strings_Trim.calls a0 (⟨#[32, 9]⟩ : ByteArray) t535 _ A2.out).mono ?_); rintro e w3 ⟨rfl, hb⟩; refine ⟨_, rfl, ?_⟩; have n0_ := Aside0.mk (below_step bw hb); clear HB; have HB := n0_; clear n0_; (try clear hb); (try clear hb2); (try clear hk); (try clear hi)))
 go_ret
 exact ⟨by first | rfl | (simp [errW_none, errW_some] <;> rfl) | (simp [*, errW_none, errW_some] <;> rfl), by repeat (first | (with_reducible first | exact HB.out | apply below_alloc | apply pw_below_drewN | apply below_drew1) | exact HB.out)⟩

end Go.Proofs.YtlomcmdbbnbciaaDoor.Fn
-- written by xprint.py of this session over the kit's printer; not trusted: Lean checks it
namespace Go.Proofs.YtlomcmdbbnbciaaDoor.Fn
open Go.RowKit Go.Proofs.YtlomcmdbbnbciaaDoorW.PrintWords Go.Proofs.YtlomcmdbbnbciaaDoorW.PrintLast Go.Proofs.YtlomcmdbbnbciaaDoorW.PrintMore
attribute [local go_sem] max2_int min2_int max_two min_two max_three min_three max_four min_four   -- for this text's walks alone
set_option linter.unusedVariables false
set_option linter.unusedSimpArgs false

/-! ### head_Parse: function 41 -/
mutual
def head_Parse.j1 : Nat → List (S60) → ByteArray → Option ((List (S60)) × ByteArray × Int)
 | 0, _, _ => none
 | k + 1, x2, x3 => head_Parse.l1 k x2 x3 (x2.length : Int) 0
def head_Parse.l1 : Nat → List (S60) → ByteArray → Int → Int → Option ((List (S60)) × ByteArray × Int)
 | 0, _, _, _, _ => none
 | k + 1, x2, x3, x33, x34 => if x34 < x33 then (if 0 ≤ x34 then (if x34 < (x2.length : Int) then ((head_trim.f ((rd_T60 x2 x34).f1)).bind fun t544 => (head_Parse.l1 k (x2.set (x34 : Int).toNat (⟨(rd_T60 x2 x34).f0, t544⟩ : S60)) x3 x33 (wrap64 (x34 + 1)))) else (none)) else (none)) else (some (x2, x3, 0))
def head_Parse.l0 : Nat → ByteArray → List (S60) → ByteArray → Option ((List (S60)) × ByteArray × Int)
 | 0, _, _, _ => none
 | k + 1, x0, x2, x3 => if x0.toList = ([] : List UInt8) then (head_Parse.j1 k x2 x3) else ((strings_Cut.f x0 (⟨#[13, 10]⟩ : ByteArray)).bind fun bt536 => (if bt536.2.2 = true then (if bt536.1.toList = ([] : List UInt8) then (head_Parse.j1 k x2 bt536.2.1) else ((head_grow.f k x2 bt536.1).bind fun bt539 => (if bt539.2 = 0 then (head_Parse.l0 k bt536.2.1 bt539.1 x3) else (some (([] : List (S60)), (⟨#[]⟩ : ByteArray), bt539.2))))) else (some (([] : List (S60)), (⟨#[]⟩ : ByteArray), 9))))
end
def head_Parse.f (k : Nat) (a0 : ByteArray) : Option ((List (S60)) × ByteArray × Int) := head_Parse.l0 k a0 ([] : List (S60)) (⟨#[]⟩ : ByteArray)
theorem head_Parse.mono_l : ∀ k, (∀ y0 y1, LeO (head_Parse.j1 k y0 y1) (head_Parse.j1 (k + 1) y0 y1)) ∧ (∀ y0 y1 y2 y3, LeO (head_Parse.l1 k y0 y1 y2 y3) (head_Parse.l1 (k + 1) y0 y1 y2 y3)) ∧ (∀ y0 y1 y2, LeO (head_Parse.l0 k y0 y1 y2) (head_Parse.l0 (k + 1) y0 y1 y2))
 | 0 => ⟨fun _ _ r h => by simp [head_Parse.j1] at h, fun _ _ _ _ r h => by simp [head_Parse.l1] at h, fun _ _ _ r h => by simp [head_Parse.l0] at h⟩
 | k + 1 => by
  obtain ⟨ih0, ih1, ih2⟩ := head_Parse.mono_l k
  refine ⟨?_, ?_, ?_⟩
  ·intro y0 y1
   unfold head_Parse.j1
   repeat' first
   | (with_reducible exact ih0 _ _)
   | (with_reducible exact ih1 _ _ _ _)
   | (with_reducible exact ih2 _ _ _)
   | (with_reducible exact head_grow.mono _ _ _)
   | (with_reducible exact LeO.refl _)
   | (with_reducible exact LeO.none _)
   | (with_reducible refine LeO.ite ?_ ?_)
   | (with_reducible refine LeO.bind ?_ (fun _ => ?_))
   | exact ih0 _ _
   | exact ih1 _ _ _ _
   | exact ih2 _ _ _
   | exact head_grow.mono _ _ _
   | exact LeO.none _
   | refine LeO.ite ?_ ?_
   | refine LeO.bind ?_ (fun _ => ?_)
  ·intro y0 y1 y2 y3
   unfold head_Parse.l1
   repeat' first
   | (with_reducible exact ih0 _ _)
   | (with_reducible exact ih1 _ _ _ _)
   | (with_reducible exact ih2 _ _ _)
   | (with_reducible exact head_grow.mono _ _ _)
   | (with_reducible exact LeO.refl _)
   | (with_reducible exact LeO.none _)
   | (with_reducible refine LeO.ite ?_ ?_)
   | (with_reducible refine LeO.bind ?_ (fun _ => ?_))
   | exact ih0 _ _
   | exact ih1 _ _ _ _
   | exact ih2 _ _ _
   | exact head_grow.mono _ _ _
   | exact LeO.none _
   | refine LeO.ite ?_ ?_
   | refine LeO.bind ?_ (fun _ => ?_)
  ·intro y0 y1 y2
   unfold head_Parse.l0
   repeat' first
   | (with_reducible exact ih0 _ _)
   | (with_reducible exact ih1 _ _ _ _)
   | (with_reducible exact ih2 _ _ _)
   | (with_reducible exact head_grow.mono _ _ _)
   | (with_reducible exact LeO.refl _)
   | (with_reducible exact LeO.none _)
   | (with_reducible refine LeO.ite ?_ ?_)
   | (with_reducible refine LeO.bind ?_ (fun _ => ?_))
   | exact ih0 _ _
   | exact ih1 _ _ _ _
   | exact ih2 _ _ _
   | exact head_grow.mono _ _ _
   | exact LeO.none _
   | refine LeO.ite ?_ ?_
   | refine LeO.bind ?_ (fun _ => ?_)
theorem head_Parse.mono : ∀ a0 k, LeO (head_Parse.f k a0) (head_Parse.f (k + 1) a0) := by
 intro a0 k
 obtain ⟨ih0, ih1, ih2⟩ := head_Parse.mono_l k
 unfold head_Parse.f
 repeat' first
   | (with_reducible exact ih0 _ _)
   | (with_reducible exact ih1 _ _ _ _)
   | (with_reducible exact ih2 _ _ _)
   | (with_reducible exact head_grow.mono _ _ _)
   | (with_reducible exact LeO.refl _)
   | (with_reducible exact LeO.none _)
   | (with_reducible refine LeO.ite ?_ ?_)
   | (with_reducible refine LeO.bind ?_ (fun _ => ?_))
   | exact ih0 _ _
   | exact ih1 _ _ _ _
   | exact ih2 _ _ _
   | exact head_grow.mono _ _ _
   | exact LeO.none _
   | refine LeO.ite ?_ ?_
   | refine LeO.bind ?_ (fun _ => ?_)
set_option maxHeartbeats 8000000 in
set_option maxRecDepth 100000 in
theorem head_Parse.calls (k : Nat) (a0 : ByteArray) (r1 : List (S60)) (r2 : ByteArray) (r3 : Int) (w : World) (hG : Glob w) (h : head_Parse.f k a0 = some (r1, r2, r3)) :
  Calls Tryd.prog 41 #[.string a0] w fun e w' => ∃ v0_ : Value, e = .returned (.tuple #[v0_, .string r2, .int .i64 r3]) ∧ Kd.R k60 60 w' w.heap.size (fun _ => True) v0_ r1 ∧ Below w.heap.size w w' := by
 have HB := Aside0.mk (Below.refl w.heap.size w)
 have H : (head_Parse.l0 k a0 ([] : List (S60)) (⟨#[]⟩ : ByteArray)) = some (r1, r2, r3) := h
 clear h
 have HC2 := Aside0.mk H
 clear H
 go_enter Tryd.func41, Tryd.ntmps41
 go_upto_block 0 with (fail)
 go_cut [2, 3] (fun v2 v3 wc => ∃ (kq : Nat) (x2_1 : List (S60)) (x3_1 : ByteArray), v3 = .string x3_1 ∧ Aside0 (head_Parse.j1 kq x2_1 x3_1 = some (r1, r2, r3)) ∧ Aside0 (kq ≤ k) ∧ Aside0 (Kd.R k60 60 wc w.heap.size (fun _ => True) v2 x2_1) ∧ Aside0 (Below w.heap.size w wc))
 case first =>
  have H := HC2.out
  clear HC2
  have H' := Aside0.mk H
  clear H
  go_wp2
  go_loopg [0, 2, 3] k (fun kq v0 v2 v3 w' => ∃ (x0_1 : ByteArray) (x2_1 : List (S60)) (x3_1 : ByteArray), v0 = .string x0_1 ∧ v3 = .string x3_1 ∧ Aside0 (head_Parse.l0 kq x0_1 x2_1 x3_1 = some (r1, r2, r3)) ∧ Aside0 (kq ≤ k) ∧ Aside0 (Kd.R k60 60 w' w.heap.size (fun _ => True) v2 x2_1) ∧ Aside0 (Below w.heap.size w w'))
  case atStart => exact ⟨(a0), (([] : List (S60))), ((⟨#[]⟩ : ByteArray)), cl, cl, H', ⟨Nat.le_refl _⟩, ⟨by first | exact Kd.R_nil _ _ _ _ _ | exact Kd.N_nil _ _ _ _ _ | exact Kd.V_nil _ _ _ _ _ | exact Kd.Q_nil _ _ _ _ _ | exact Kd.S_nil _ _ _ _ _⟩, ⟨by repeat (first | (with_reducible first | exact HB.out | apply below_alloc | apply pw_below_drewN | apply below_drew1) | exact HB.out)⟩⟩
  case round =>
   clear H'
   try clear p2
   obtain ⟨x0_1, x2_1, x3_1, rfl, rfl, HA, HK1, HO_2, HB⟩ := hrel
   cases gk with
   | zero => exact absurd HA.out (by simp [head_Parse.l0])
   | succ k1 =>
    have H := HA.out
    clear HA
    simp only [head_Parse.l0] at H
    by_cases c3 : x0_1.toList = ([] : List UInt8)
    ·rw [if_pos c3] at H
     have c3b0 : (x0_1.toList == ([] : List UInt8)) = true := beq_iff_eq.mpr c3
     have c3b1 : (x0_1.toList != ([] : List UInt8)) = false := bne_eq_false_iff_eq.mpr c3
     clear c3
     (first | rw [c3b0] | (simp only [i64_w, i32_w]; rw [c3b0]) | skip)
     have H' := Aside0.mk H
     clear H
     go_wp2
     go_meet
     case rel => exact ⟨_, (x2_1), (x3_1), cl, H', ⟨by have := HK1.out; first | omega | exact Nat.le_refl _⟩, ⟨by (with_reducible repeat (first | apply Kd.R_alloc | apply Kd.R_drewN | apply Kd.R_drew)); exact HO_2.out⟩, ⟨by repeat (first | (with_reducible first | exact HB.out | apply below_alloc | apply pw_below_drewN | apply below_drew1) | exact HB.out)⟩⟩
    ·rw [if_neg c3] at H
     have c3b0 : (x0_1.toList == ([] : List UInt8)) = false := beq_eq_false_iff_ne.mpr c3
     have c3b1 : (x0_1.toList != ([] : List UInt8)) = true := bne_iff_ne.mpr c3
     (first | rw [c3b0] | (simp only [i64_w, i32_w]; rw [c3b0]) | skip)
     replace H := Option.bind_eq_some_iff.mp H
     obtain ⟨⟨t536, t537, t538⟩, A40, H⟩ := H
     replace H : (if t538 = true then (if t536.toList = ([] : List UInt8) then (head_Parse.j1 k1 x2_1 t537) else ((head_grow.f k1 x2_1 t536).bind fun bt539 => (if bt539.2 = 0 then (head_Parse.l0 k1 t537 bt539.1 x3_1) else (some (([] : List (S60)), (⟨#[]⟩ : ByteArray), bt539.2))))) else (some (([] : List (S60)), (⟨#[]⟩ : ByteArray), 9))) = some (r1, r2, r3) := H
     have A4 := Aside0.mk A40
     clear A40
     by_cases c5 : t538 = true
     ·subst c5
      have H1 : (if t536.toList = ([] : List UInt8) then (head_Parse.j1 k1 x2_1 t537) else ((head_grow.f k1 x2_1 t536).bind fun bt539 => (if bt539.2 = 0 then (head_Parse.l0 k1 t537 bt539.1 x3_1) else (some (([] : List (S60)), (⟨#[]⟩ : ByteArray), bt539.2))))) = some (r1, r2, r3) := by rw [if_pos rfl] at H; exact H
      clear H
      have H := H1
      clear H1
      by_cases c6 : t536.toList = ([] : List UInt8)
      ·rw [if_pos c6] at H
       have c6b0 : (t536.toList == ([] : List UInt8)) = true := beq_iff_eq.mpr c6
       have c6b1 : (t536.toList != ([] : List UInt8)) = false := bne_eq_false_iff_eq.mpr c6
       clear c6
       have H' := Aside0.mk H
       clear H
       go_wp2_with (first | ((with_reducible refine gate_callee (f := 89) rfl ?_); refine goesL_ (some 13) rfl rfl Tryd.func89 (by kernel_rfl) rfl #[.string x0_1, .string (⟨#[13, 10]⟩ : ByteArray)] rfl am ?_; (with_reducible refine (strings_Cut.calls (hG := by first | exact hG | exact Glob.below hG (by first | exact HB.out | (repeat (first | (with_reducible first | exact HB.out | apply below_alloc | apply pw_below_drewN | apply below_drew1) | exact HB.out))) | exact Glob.drawn hG (by repeat (first | exact Drawn0.refl _ | apply Drawn0.step))) x0_1 (⟨#[13, 10]⟩ : ByteArray) t536 t537 true _ A4.out).mono ?_); rintro e w7 ⟨rfl, hb⟩; refine ⟨_, rfl, ?_⟩; have n0_ := Aside0.mk (Kd.R_below (by (with_reducible repeat (first | apply Kd.R_alloc | apply Kd.R_drewN | apply Kd.R_drew)); exact HO_2.out) hb); have n1_ := Aside0.mk (below_step bw hb); clear HO_2; clear HB; have HO_2 := n0_; have HB := n1_; clear n0_ n1_; (try clear hb); (try clear hb2); (try clear hk); (try clear hi)))
       go_meet
       case rel => exact ⟨_, (x2_1), (t537), cl, H', ⟨by have := HK1.out; first | omega | exact Nat.le_refl _⟩, ⟨by (with_reducible repeat (first | apply Kd.R_alloc | apply Kd.R_drewN | apply Kd.R_drew)); exact HO_2.out⟩, ⟨by repeat (first | (with_reducible first | exact HB.out | apply below_alloc | apply pw_below_drewN | apply below_drew1) | exact HB.out)⟩⟩
      ·rw [if_neg c6] at H
       have c6b0 : (t536.toList == ([] : List UInt8)) = false := beq_eq_false_iff_ne.mpr c6
       have c6b1 : (t536.toList != ([] : List UInt8)) = true := bne_iff_ne.mpr c6
       replace H := Option.bind_eq_some_iff.mp H
       obtain ⟨⟨t539, t542⟩, A80, H⟩ := H
       replace H : (if t542 = 0 then (head_Parse.l0 k1 t537 t539 x3_1) else (some (([] : List (S60)), (⟨#[]⟩ : ByteArray), t542))) = some (r1, r2, r3) := H
       have A8 := Aside0.mk A80
       clear A80
       by_cases c9 : t542 = 0
       ·rw [if_pos c9] at H
        have c9b0 : (t542 == 0) = true := beq_iff_eq.mpr c9
        have c9b1 : (t542 != 0) = false := bne_eq_false_iff_eq.mpr c9
        clear c9
        have H' := Aside0.mk H
        clear H
        go_wp2_with (first | ((with_reducible refine gate_callee (f := 89) rfl ?_); refine goesL_ (some 13) rfl rfl Tryd.func89 (by kernel_rfl) rfl #[.string x0_1, .string (⟨#[13, 10]⟩ : ByteArray)] rfl am ?_; (with_reducible refine (strings_Cut.calls (hG := by first | exact hG | exact Glob.below hG (by first | exact HB.out | (repeat (first | (with_reducible first | exact HB.out | apply below_alloc | apply pw_below_drewN | apply below_drew1) | exact HB.out))) | exact Glob.drawn hG (by repeat (first | exact Drawn0.refl _ | apply Drawn0.step))) x0_1 (⟨#[13, 10]⟩ : ByteArray) t536 t537 true _ A4.out).mono ?_); rintro e w10 ⟨rfl, hb⟩; refine ⟨_, rfl, ?_⟩; have n0_ := Aside0.mk (Kd.R_below (by (with_reducible repeat (first | apply Kd.R_alloc | apply Kd.R_drewN | apply Kd.R_drew)); exact HO_2.out) hb); have n1_ := Aside0.mk (below_step bw hb); clear HO_2; clear HB; have HO_2 := n0_; have HB := n1_; clear n0_ n1_; (try clear hb); (try clear hb2); (try clear hk); (try clear hi); obtain ⟨Ao11, co11, eo11⟩ := Kd.R_slice HO_2.out; subst eo11) | ((with_reducible refine gate_callee (f := 90) rfl ?_); refine goesL_ (some 26) rfl rfl Tryd.func90 (by kernel_rfl) rfl #[.slice Ao11 x2_1.length co11, .string t536] rfl am ?_; (with_reducible refine (head_grow.calls (hG := by first | exact hG | exact Glob.below hG (by first | exact HB.out | (repeat (first | (with_reducible first | exact HB.out | apply below_alloc | apply pw_below_drewN | apply below_drew1) | exact HB.out))) | exact Glob.drawn hG (by repeat (first | exact Drawn0.refl _ | apply Drawn0.step))) k1 (fun k_ => some k_ = (.slice Ao11 x2_1.length co11 : Value).ownBlock) (.slice Ao11 x2_1.length co11) x2_1 t536 t539 t542 w _ ?side1 ?side2 A8.out).mono ?_); (case side1 => repeat (first | (with_reducible first | exact HB.out | apply below_alloc | apply pw_below_drewN | apply below_drew1) | exact HB.out)); (case side2 => exact Kd.R_tight rfl HO_2.out); rintro e w12 ⟨v540, rfl, ho0, hb, hkp⟩; refine ⟨_, rfl, ?_⟩; have n0_ := Aside0.mk (Kd.R_mono (ok' := fun k_ => True) ho0 (fun k_ hk_ => trivial)); have n1_ := Aside0.mk (hb); clear HB; clear HO_2; have HO541 := n0_; have HB := n1_; clear n0_ n1_; (try clear hb); (try clear hkp); (try clear ho0)))
        go_roundg k1
        case measure => have := HK1.out; omega
        case rel => exact ⟨(t537), (t539), (x3_1), cl, cl, H', ⟨by have := HK1.out; omega⟩, ⟨by (with_reducible repeat (first | apply Kd.R_alloc | apply Kd.R_drewN | apply Kd.R_drew)); exact HO541.out⟩, ⟨by repeat (first | (with_reducible first | exact HB.out | apply below_alloc | apply pw_below_drewN | apply below_drew1) | exact HB.out)⟩⟩
       ·rw [if_neg c9] at H
        have c9b0 : (t542 == 0) = false := beq_eq_false_iff_ne.mpr c9
        have c9b1 : (t542 != 0) = true := bne_iff_ne.mpr c9
        simp only [Option.some.injEq, Prod.mk.injEq] at H
        obtain ⟨rfl, rfl, rfl⟩ := H
        go_wp2_with (first | ((with_reducible refine gate_callee (f := 89) rfl ?_); refine goesL_ (some 13) rfl rfl Tryd.func89 (by kernel_rfl) rfl #[.string x0_1, .string (⟨#[13, 10]⟩ : ByteArray)] rfl am ?_; (with_reducible refine (strings_Cut.calls (hG := by first | exact hG | exact Glob.below hG (by first | exact HB.out | (repeat (first | (with_reducible first | exact HB.out | apply below_alloc | apply pw_below_drewN | apply below_drew1) | exact HB.out))) | exact Glob.drawn hG (by repeat (first | exact Drawn0.refl _ | apply Drawn0.step))) x0_1 (⟨#[13, 10]⟩ : ByteArray) t536 t537 true _ A4.out).mono ?_); rintro e w13 ⟨rfl, hb⟩; refine ⟨_, rfl, ?_⟩; have n0_ := Aside0.mk (Kd.R_below (by (with_reducible repeat (first | apply Kd.R_alloc | apply Kd.R_drewN | apply Kd.R_drew)); exact HO_2.out) hb); have n1_ := Aside0.mk (below_step bw hb); clear HO_2; clear HB; have HO_2 := n0_; have HB := n1_; clear n0_ n1_; (try clear hb); (try clear hb2); (try clear hk); (try clear hi); obtain ⟨Ao14, co14, eo14⟩ := Kd.R_slice HO_2.out; subst eo14) | ((with_reducible refine gate_callee (f := 90) rfl ?_); refine goesL_ (some 26) rfl rfl Tryd.func90 (by kernel_rfl) rfl #[.slice Ao14 x2_1.length co14, .string t536] rfl am ?_; (with_reducible refine (head_grow.calls (hG := by first | exact hG | exact Glob.below hG (by first | exact HB.out | (repeat (first | (with_reducible first | exact HB.out | apply below_alloc | apply pw_below_drewN | apply below_drew1) | exact HB.out))) | exact Glob.drawn hG (by repeat (first | exact Drawn0.refl _ | apply Drawn0.step))) k1 (fun k_ => some k_ = (.slice Ao14 x2_1.length co14 : Value).ownBlock) (.slice Ao14 x2_1.length co14) x2_1 t536 t539 t542 w _ ?side1 ?side2 A8.out).mono ?_); (case side1 => repeat (first | (with_reducible first | exact HB.out | apply below_alloc | apply pw_below_drewN | apply below_drew1) | exact HB.out)); (case side2 => exact Kd.R_tight rfl HO_2.out); rintro e w15 ⟨v540, rfl, ho0, hb, hkp⟩; refine ⟨_, rfl, ?_⟩; have n0_ := Aside0.mk (Kd.R_mono (ok' := fun k_ => True) ho0 (fun k_ hk_ => trivial)); have n1_ := Aside0.mk (hb); clear HB; clear HO_2; have HO541 := n0_; have HB := n1_; clear n0_ n1_; (try clear hb); (try clear hkp); (try clear ho0)))
        go_ret3
        exact ⟨_, by first | rfl | (simp [errW_none, errW_some] <;> rfl) | (simp [*, errW_none, errW_some] <;> rfl), by first | exact Kd.R_nil _ _ _ _ _ | exact Kd.N_nil _ _ _ _ _ | exact Kd.V_nil _ _ _ _ _ | exact Kd.Q_nil _ _ _ _ _ | exact Kd.S_nil _ _ _ _ _, by repeat (first | (with_reducible first | exact HB.out | apply below_alloc | apply pw_below_drewN | apply below_drew1) | exact HB.out)⟩
     ·replace c5 := Bool.eq_false_iff.mpr c5
      subst c5
      have H1 : (some (([] : List (S60)), (⟨#[]⟩ : ByteArray), 9)) = some (r1, r2, r3) := by rw [if_neg (show ¬ (false = true) by decide)] at H; exact H
      clear H
      have H := H1
      clear H1
      simp only [Option.some.injEq, Prod.mk.injEq] at H
      obtain ⟨rfl, rfl, rfl⟩ := H
      go_wp2_with (first | ((with_reducible refine gate_callee (f := 89) rfl ?_); refine goesL_ (some 13) rfl rfl Tryd.func89 (by kernel_rfl) rfl #[.string x0_1, .string (⟨#[13, 10]⟩ : ByteArray)] rfl am ?_; (with_reducible refine (strings_Cut.calls (hG := by first | exact hG | exact Glob.below hG (by first | exact HB.out | (repeat (first | (with_reducible first | exact HB.out | apply below_alloc | apply pw_below_drewN | apply below_drew1) | exact HB.out))) | exact Glob.drawn hG (by repeat (first | exact Drawn0.refl _ | apply Drawn0.step))) x0_1 (⟨#[13, 10]⟩ : ByteArray) t536 t537 false _ A4.out).mono ?_); rintro e w16 ⟨rfl, hb⟩; refine ⟨_, rfl, ?_⟩; have n0_ := Aside0.mk (Kd.R_below (by (with_reducible repeat (first | apply Kd.R_alloc | apply Kd.R_drewN | apply Kd.R_drew)); exact HO_2.out) hb); have n1_ := Aside0.mk (below_step bw hb); clear HO_2; clear HB; have HO_2 := n0_; have HB := n1_; clear n0_ n1_; (try clear hb); (try clear hb2); (try clear hk); (try clear hi)))
      go_ret3
      exact ⟨_, by first | rfl | (simp [errW_none, errW_some] <;> rfl) | (simp [*, errW_none, errW_some] <;> rfl), by first | exact Kd.R_nil _ _ _ _ _ | exact Kd.N_nil _ _ _ _ _ | exact Kd.V_nil _ _ _ _ _ | exact Kd.Q_nil _ _ _ _ _ | exact Kd.S_nil _ _ _ _ _, by repeat (first | (with_reducible first | exact HB.out | apply below_alloc | apply pw_below_drewN | apply below_drew1) | exact HB.out)⟩
 case rest =>
  clear HC2
  try clear p2
  try clear c3
  try clear c3b0
  try clear c3b1
  try clear c4
  try clear c5
  try clear c6
  try clear c6b0
  try clear c6b1
  try clear c8
  try clear c9
  try clear c9b0
  try clear c9b1
  try clear p2
  obtain ⟨kq, x2_1, x3_1, rfl, HA, HJ1, HO_2, HB⟩ := hcut
  cases kq with
  | zero => exact absurd HA.out (by simp [head_Parse.j1])
  | succ kj1 =>
   have H := HA.out
   clear HA
   simp only [head_Parse.j1] at H
   have H' := Aside0.mk H
   clear H
   obtain ⟨Ao17, co17, eo17⟩ := Kd.R_slice HO_2.out
   subst eo17
   go_wp2
   go_loopg [34] kj1 (fun kq v34 w' => ∃ (x2_2 : List (S60)) (x34_2 : Int), v34 = .int .i64 x34_2 ∧ Aside0 (head_Parse.l1 kq x2_2 x3_1 (x2_1.length : Int) x34_2 = some (r1, r2, r3)) ∧ Aside0 (kq ≤ kj1) ∧ Aside0 (Kd.R k60 60 w' w.heap.size (fun _ => True) (.slice Ao17 x2_1.length co17) x2_2) ∧ Aside0 (Below w.heap.size w w'))
   case atStart => exact ⟨(x2_1), (0), cl, H', ⟨Nat.le_refl _⟩, ⟨by (with_reducible repeat (first | apply Kd.R_alloc | apply Kd.R_drewN | apply Kd.R_drew)); exact HO_2.out⟩, ⟨by repeat (first | (with_reducible first | exact HB.out | apply below_alloc | apply pw_below_drewN | apply below_drew1) | exact HB.out)⟩⟩
   case round =>
    clear H'
    try clear p2
    try clear c3
    try clear c3b0
    try clear c3b1
    try clear c4
    try clear c5
    try clear c6
    try clear c6b0
    try clear c6b1
    try clear c8
    try clear c9
    try clear c9b0
    try clear c9b1
    try clear p2
    obtain ⟨x2_2, x34_2, rfl, HA, HK2, HO_2, HB⟩ := hrel
    have hl2_2 := (Kd.R_reads' HO_2.out).1
    rw [hl2_2] at HO_2
    (try simp only [hl2_2])
    cases gk with
    | zero => exact absurd HA.out (by simp [head_Parse.l1])
    | succ k2 =>
     have H := HA.out
     clear HA
     simp only [head_Parse.l1] at H
     by_cases c18 : x34_2 < (x2_1.length : Int)
     ·rw [if_pos c18] at H
      have c18b0 : decide (x34_2 < (x2_1.length : Int)) = true := decide_eq_true c18
      clear c18
      by_cases c19 : 0 ≤ x34_2
      ·rw [if_pos c19] at H
       have c19b0 : decide (0 ≤ x34_2) = true := decide_eq_true c19
       clear c19
       by_cases c20 : x34_2 < (x2_2.length : Int)
       ·rw [if_pos c20] at H
        have c20b0 : decide (x34_2 < (x2_2.length : Int)) = true := decide_eq_true c20
        clear c20
        replace H := Option.bind_eq_some_iff.mp H
        obtain ⟨t544, A210, H⟩ := H
        replace H : (head_Parse.l1 k2 (x2_2.set (x34_2 : Int).toNat (⟨(rd_T60 x2_2 x34_2).f0, t544⟩ : S60)) x3_1 (x2_1.length : Int) (wrap64 (x34_2 + 1))) = some (r1, r2, r3) := H
        have A21 := Aside0.mk A210
        clear A210
        obtain ⟨y545, hy545⟩ : ∃ y_ : List (S60), y_ = (x2_2.set (x34_2 : Int).toNat (⟨(rd_T60 x2_2 x34_2).f0, t544⟩ : S60)) := ⟨_, rfl⟩
        replace H : (head_Parse.l1 k2 y545 x3_1 (x2_1.length : Int) (wrap64 (x34_2 + 1))) = some (r1, r2, r3) := by first | (rw [hy545]; with_reducible exact H) | (have H2_ := (Option.bind_some _ _).symm.trans H; rw [hy545]; with_reducible exact H2_) | (have H2_ := (Option.bind_some _ _).symm.trans H; with_reducible exact H2_) | with_reducible exact H | (rw [hy545]; exact H) | exact H
        have Ny545 := Aside0.mk hy545
        clear hy545
        have H' := Aside0.mk H
        clear H
        have p543 : 0 ≤ (x34_2 : Int) := od
        have q543 : x34_2 < (x2_2.length : Int) := od
        obtain ⟨ad543, e543, hx543_0, hx543_1⟩ := at_T60 (Kd.R_reads' HO_2.out).2.2 x34_2 p543 q543
        cases e543
        replace p543 := eq_true p543
        replace q543 := eq_true q543
        go_wp2_with (first | ((with_reducible refine gate_callee (f := 91) rfl ?_); refine goesL_ (some 44) rfl rfl Tryd.func91 (by kernel_rfl) rfl #[.string ((rd_T60 x2_2 x34_2).f1)] rfl am ?_; (with_reducible refine (head_trim.calls ((rd_T60 x2_2 x34_2).f1) t544 _ A21.out).mono ?_); rintro e w23 ⟨rfl, hb⟩; refine ⟨_, rfl, ?_⟩; have n0_ := Aside0.mk (Kd.R_below (by (with_reducible repeat (first | apply Kd.R_alloc | apply Kd.R_drewN | apply Kd.R_drew)); exact HO_2.out) hb); have n1_ := Aside0.mk (below_step bw hb); clear HO_2; clear HB; have HO_2 := n0_; have HB := n1_; clear n0_ n1_; (try clear hb); (try clear hb2); (try clear hk); (try clear hi); have p22 : 0 ≤ (x34_2 : Int) := od; have q22 : (x34_2 : Int) < ((x2_2.length : Int) : Int) := od; obtain ⟨go22, co22, eo22, gb22, gl22, cl22, HG22⟩ := Kd.R_form HO_2.out (by omega); (first | cases eo22 | (injection eo22 with ea_ en_ ec_; (first | subst ea_ | (injection ea_ with ea_; subst ea_)); subst ec_; clear en_)); have GB22 := Aside0.mk gb22; have GG22 := Aside0.mk HG22; clear gb22 gl22 HG22; (first | simp only [add_plain] at hx543_0 | skip); (first | simp only [add_plain] at hx543_1 | skip); obtain ⟨ce22, hcl22, hM22, hcc22, hfr22⟩ := Kd.R_elem HO_2.out z60 (x34_2 : Int) p22 q22; obtain rfl := k60_openM hM22; have hx22_0 : w23.cell? ⟨go22, (x34_2 : Int).toNat * 2, none⟩ = some (.string ((rd_T60 x2_2 x34_2).f0)) := hcc22 0 _ rfl; have hx22_1 : w23.cell? ⟨go22, (x34_2 : Int).toNat * 2 + 1, none⟩ = some (.string ((rd_T60 x2_2 x34_2).f1)) := hcc22 1 _ rfl; have hf22_0 : w23.frozen? ⟨go22, (x34_2 : Int).toNat * 2, none⟩ = false := hfr22 0; have hf22_1 : w23.frozen? ⟨go22, (x34_2 : Int).toNat * 2 + 1, none⟩ = false := hfr22 1; clear hcl22 hcc22 hfr22 hM22; replace p22 := eq_true p22; replace q22 := eq_true q22; have HX24 := Aside0.mk (show Kd.R k60 60 w23 w.heap.size (fun _ => True) (.slice (some ⟨go22, 0, none⟩) x2_2.length co17) x2_2 from (by (with_reducible repeat (first | apply Kd.R_alloc | apply Kd.R_drewN | apply Kd.R_drew)); exact HO_2.out)); obtain ⟨ce24, hcl24, hM24, hcc24, hfr24⟩ := Kd.R_elem HX24.out z60 (x34_2 : Int) (od) (by have h_ : (x34_2 : Int) < ((x2_2.length : Int) : Int) := od; first | exact h_ | (have e_ := (Kd.R_reads' HO_2.out).1; omega) | simpa using h_); obtain rfl := k60_openM hM24; have HP24 := Kd.R_seg HX24.out (x34_2 : Int) (od) (by have h_ : (x34_2 : Int) < ((x2_2.length : Int) : Int) := od; first | exact h_ | (have e_ := (Kd.R_reads' HO_2.out).1; omega) | simpa using h_) (seg := [.string t544]) (j := 1) hcl24 hcc24 (show 2 ≤ 2 from by decide) (x' := (⟨(rd_T60 x2_2 x34_2).f0, t544⟩ : S60)) (k60_mkM _ _ _ (⟨(rd_T60 x2_2 x34_2).f0, t544⟩ : S60) ) (fun _ hk => hk); have hx24_1 := hcc24 1 _ rfl; (try simp only [show (k60).sz = 2 from rfl, Nat.mul_one, Nat.add_zero] at hx24_1); have hf24_1 := hfr24 1; (try simp only [show (k60).sz = 2 from rfl, Nat.mul_one, Nat.add_zero] at hf24_1); clear hcl24 hcc24 hfr24 hM24) | ((with_reducible refine gate_store (t := 9) (p := 46) rfl ?_); refine store_event (t := 9) (p := 46) (v := ?vo_w25) (w1 := (w23.setCell ⟨go22, (x34_2 : Int).toNat * 2 + 1, none⟩ (.string t544))) ?hg ?ho ?hn ?hr ?_; (case ho => rfl); (case hg => rfl); (case hn => rfl); (case hr => first | (go_simp; done) | (go_simp; rfl)); intro w25 hw; have hg : w23.grownBy w25 (some go22) := (by rw [hw]; exact HP24.2); have hp_ : Kd.R k60 60 w25 w.heap.size (fun _ => True) (.slice (some ⟨go22, 0, none⟩) x2_2.length co17) y545 := (by rw [hw, Ny545.out]; exact HP24.1); clear HP24; have n0_ := Aside0.mk (hp_); have n1_ := Aside0.mk ((by rw [hw]; exact below_set (HB.out) GB22.out : Below w.heap.size w w25)); clear HO_2; clear HB; have HO_2 := n0_; have HB := n1_; clear n0_ n1_; clear hg hw hp_))
        (try simp only [← hl2_2])
        go_roundg k2
        case measure => have := HJ1.out; have := HK2.out; omega
        case rel => exact ⟨(y545), (wrap64 (x34_2 + 1)), cl, H', ⟨by have := HJ1.out; have := HK2.out; omega⟩, ⟨by (try simp only [hl2_2]); (with_reducible repeat (first | apply Kd.R_alloc | apply Kd.R_drewN | apply Kd.R_drew)); exact HO_2.out⟩, ⟨by repeat (first | (with_reducible first | exact HB.out | apply below_alloc | apply pw_below_drewN | apply below_drew1) | exact HB.out)⟩⟩
       ·rw [if_neg c20] at H
        exact absurd H (by simp)
      ·rw [if_neg c19] at H
       exact absurd H (by simp)
     ·rw [if_neg c18] at H
      have c18b0 : decide (x34_2 < (x2_1.length : Int)) = false := decide_eq_false c18
      (try simp only [hl2_2] at c18b0)
      clear c18
      simp only [Option.some.injEq, Prod.mk.injEq] at H
      obtain ⟨rfl, rfl, rfl⟩ := H
      go_wp2
      go_ret3
      exact ⟨_, by first | rfl | (simp [errW_none, errW_some] <;> rfl) | (simp [*, errW_none, errW_some] <;> rfl), by (with_reducible repeat (first | apply Kd.R_alloc | apply Kd.R_drewN | apply Kd.R_drew)); exact HO_2.out, by repeat (first | (with_reducible first | exact HB.out | apply below_alloc | apply pw_below_drewN | apply below_drew1) | exact HB.out)⟩

end Go.Proofs.YtlomcmdbbnbciaaDoor.Fn
set_option linter.unusedVariables false
set_option linter.unusedSimpArgs false
namespace Go.Proofs.YtlomcmdbbnbciaaDoor.Fn
open Go.RowKit Go.Proofs.YtlomcmdbbnbciaaDoorW.PrintWords

theorem hid {p : Prop} (h : p) : Hid p := h

/-! The builder's methods, over a builder that the call itself has made. -/
theorem infoByte : (Tryd.prog.info? 5).map (fun i => (i.zero, i.size, i.bytes)) = some (some (.int .u8 0), 1, 1) := by kernel_rfl
theorem sizeBuilder : (Tryd.prog.info? 102).map (·.size) = some 2 := by kernel_rfl
theorem liesBuilder : liesAt Tryd.prog Tryd.prog.depth 102 (2 / Tryd.prog.cellsOf 102) 0 102 1 = true := by kernel_rfl
def bdAt (B b : Nat) (bs : List Value) (w : World) : Prop := Lib.BuilderAtF 102 5 B b (.pointer (some ⟨b, 0, none⟩)) bs w
def isBd (B b : Nat) (bs : List Value) (w : World) : Prop := Lib.IsBuilderF 102 5 B b bs w
def kept (b : Nat) (w w' : World) : Prop := Lib.OthersKept 5 (some b) w w'
theorem bdAt.is {B b : Nat} {bs : List Value} {w : World} (h : bdAt B b bs w) : isBd B b bs w := .inr h

set_option maxRecDepth 100000 in
theorem bd_check (B b : Nat) (bs : List Value) (w : World) (h : isBd B b bs w) :
    Calls Tryd.prog 115 #[.pointer (some ⟨b, 0, none⟩)] w fun e w' => e = .returned (.tuple #[]) ∧ bdAt B b bs w' ∧ Below B w w' ∧ kept b w w' := by
  obtain ⟨j, hj, hjs⟩ := Option.map_eq_some_iff.1 sizeBuilder
  rcases h with h | h
  · have c0 := h.cell0
    have sh := h.shape
    have f0 := h.frozen0
    go_enter Tryd.func115, Tryd.ntmps115
    go_wp2
    rw [Lib.run_to_unsafe w ⟨b, 0, none⟩ Tryd.underlying100 Tryd.underlying160 hj (by rw [hjs]; decide) sh (Nat.zero_lt_succ 1)]
    simp only [Result.andThen]
    rw [Oper.upon_value]
    go_wp2
    rw [run_callFunc_extern Tryd.func144 (by kernel_rfl) (by kernel_rfl) (by kernel_rfl) (e := Extern.AbiNoEscape.same) (by kernel_rfl)]
    rw [Lib.run_noEscape]
    simp only [Result.andThen]
    rw [Oper.upon_value]
    go_wp2
    rw [Lib.run_from_unsafe w ⟨b, 0, none⟩ Tryd.underlying160 Tryd.underlying100 hj sh liesBuilder]
    simp only [Result.andThen]
    rw [Oper.upon_value]
    go_wp2
    go_end0
    exact ⟨rfl, h.used _, (Below.refl B w).setCell (p := ⟨b, 0, none⟩) h.1 _, (Lib.OthersKept.refl _ _ w).setCell ⟨b, 0, none⟩ rfl _⟩
  · have c0 := h.cell0
    go_enter Tryd.func115, Tryd.ntmps115
    go_wp2
    rw [Lib.run_neq_ptr_same w _ Tryd.underlying100 hj]
    go_wp2
    go_end0
    exact ⟨rfl, h, Below.refl B _, Lib.OthersKept.refl _ _ _⟩

set_option maxHeartbeats 2000000 in
set_option maxRecDepth 100000 in
theorem bd_string (B b : Nat) (bs : List Value) (s : ByteArray) (w : World) (h : isBd B b bs w) (hlen : bs.length + s.size ≤ 140737488355328) (hBw : B ≤ w.heap.size) :
    Calls Tryd.prog 99 #[.pointer (some ⟨b, 0, none⟩), .string s] w fun e w' => e = .returned (.tuple #[.int .i64 s.size, .nilIface]) ∧ bdAt B b (bs ++ Lib.strCells s) w' ∧ Below B w w' ∧ kept b w w' := by
  obtain ⟨i0, hi, hz0, hz1, hz2⟩ := info_parts infoByte
  go_enter Tryd.func99, Tryd.ntmps99
  go_wp2_with (go_at_call 115; refine (bd_check B b bs _ h).mono ?_)
  rintro e w1 ⟨rfl, h1, hb1, hk1⟩
  obtain ⟨hB, v, hbk, hown, hne⟩ := h1
  have c0 : w1.cell? ⟨b, 0, none⟩ = some (.pointer (some ⟨b, 0, none⟩)) := by rw [Lib.cell_of_heap hbk]; rfl
  have c1 : w1.cell? ⟨b, 1, none⟩ = some v := by rw [Lib.cell_of_heap hbk]; rfl
  go_wp2_with (at_builtin; refine Lib.wpList_append_own_stringF _ rfl _ _ 56 9 rfl B 5 i0 Tryd.underlying56 Tryd.underlying9 hi hz0 hz1 hz2 _ _ _ rfl hown s rfl ?c3 ?c4 ?c5 ?_)
  case c3 => unfold maxLen; omega
  case c4 => omega
  case c5 => have := hb1.size; omega
  intro v' w2 hown' hgrow _
  have hlt : b < w1.heap.size := by
    rcases Nat.lt_or_ge b w1.heap.size with h' | h'
    · exact h'
    · simp [Array.getElem?_eq_none h'] at hbk
  have hb2 : w2.heap[b]? = some (.cells #[.pointer (some ⟨b, 0, none⟩), v] 102 (0, 0)) := by
    rw [hgrow.block b hlt (fun e => hne e.symm)]
    exact hbk
  have d0 : w2.cell? ⟨b, 0, none⟩ = some (.pointer (some ⟨b, 0, none⟩)) := by rw [Lib.cell_of_heap hb2]; rfl
  have d1 : w2.cell? ⟨b, 1, none⟩ = some v := by rw [Lib.cell_of_heap hb2]; rfl
  have f1 : w2.frozen? ⟨b, 1, none⟩ = false := Lib.frozen_of_heap hb2 1
  obtain ⟨ao, n', cap, rfl⟩ : ∃ ao n' cap, v' = .slice ao n' cap := by
    rcases hown'.2 with ⟨hv, _⟩ | ⟨g, cap, cur, fz, hv, _⟩
    · exact ⟨_, _, _, hv⟩
    · exact ⟨_, _, _, hv⟩
  go_wp2
  go_ret2
  refine ⟨rfl, ?_, ?_, (hk1.grown hgrow (Lib.ownsRowF_kind hown)).setCell ⟨b, 1, none⟩ rfl _⟩
  · exact Lib.BuilderAtF.put (T := 102) (e := 5) hB hb2 (bs' := bs ++ Lib.strCells s) (by simpa [Lib.strCells_length] using hown') (by decide)
  · exact (hb1.grown hgrow (by have := hb1.size; omega) (fun k hk => (hown.lt k hk).1)).setCell (p := ⟨b, 1, none⟩) hB _
end Go.Proofs.YtlomcmdbbnbciaaDoor.Fn
set_option linter.unusedVariables false
namespace Go.Proofs.YtlomcmdbbnbciaaDoor.Pl
open Go.RowKit Go.Proofs.YtlomcmdbbnbciaaDoorW.PrintWords

/-! Tools for the plain laws: byte texts as lists, rounds. -/
def bs (s : ByteArray) : Bytes := s.data.toList
theorem bs_str (l : Bytes) : bs (str l) = l := str_data l
theorem str_bs (s : ByteArray) : str (bs s) = s := str_toList s
theorem bs_length (s : ByteArray) : (bs s).length = s.size := data_length s
theorem toList_bs (s : ByteArray) : s.toList = bs s := ByteArray.toList_eq s
theorem toList_str (l : Bytes) : (str l).toList = l := by rw [toList_bs, bs_str]
theorem bs_inj {a b : ByteArray} (h : bs a = bs b) : a = b := by rw [← str_bs a, ← str_bs b, h]
theorem bs_app (a b : ByteArray) : bs (a ++ b) = bs a ++ bs b := by simp [bs]
theorem bs_extract (s : ByteArray) (i j : Nat) : bs (s.extract i j) = ((bs s).take j).drop i := by
  simp [bs, List.extract_eq_take_drop, List.drop_take]
theorem str_extract (l : Bytes) (i j : Nat) : (str l).extract i j = str ((l.take j).drop i) := by
  apply bs_inj
  rw [bs_extract, bs_str, bs_str]
theorem bt_nat (s : ByteArray) (i : Nat) (h : i < s.size) : bt s (i : Int) = (s[i].toNat : Int) := by
  have := bt_at s (i : Int) (by simpa using h)
  simpa using this.symm
theorem bt_bs (s : ByteArray) (i : Nat) (h : i < (bs s).length) : bt s (i : Int) = ((bs s)[i].toNat : Int) := by
  rw [bt_nat s i (by rw [bs_length] at h; exact h)]
  rfl
theorem drop_cons {l : Bytes} {i : Nat} {c : UInt8} {r : Bytes} (h : l.drop i = c :: r) : i < l.length ∧ l[i]? = some c ∧ l.drop (i + 1) = r ∧ (l.take (i + 1)) = l.take i ++ [c] := by
  have hi : i < l.length := by
    rcases Nat.lt_or_ge i l.length with h' | h'
    · exact h'
    · rw [List.drop_of_length_le h'] at h; cases h
  have h1 : l[i]? = some c := by
    have := congrArg List.head? h
    rw [List.head?_drop] at this
    exact this
  refine ⟨hi, h1, ?_, ?_⟩
  · rw [← List.drop_drop, h]; rfl
  · rw [List.take_add_one, h1]; rfl
theorem drop_nil {l : Bytes} {i : Nat} (h : l.drop i = []) : l.length ≤ i := by
  have := congrArg List.length h
  simp at this
  omega
theorem bt_drop {s : ByteArray} {i : Nat} {c : UInt8} {r : Bytes} (h : (bs s).drop i = c :: r) : bt s (i : Int) = (c.toNat : Int) := by
  obtain ⟨h1, h2, _⟩ := drop_cons h
  rw [bt_bs s i h1]
  rw [List.getElem?_eq_getElem h1] at h2
  injection h2 with h2
  rw [h2]
theorem wrap_id {x : Int} (h0 : -9223372036854775808 ≤ x) (h1 : x ≤ 9223372036854775807) : wrap64 x = x := by
  unfold wrap64
  omega
theorem wrap_succ (i : Nat) (h : i ≤ 140737488355328) : wrap64 ((i : Int) + 1) = ((i + 1 : Nat) : Int) := by
  rw [wrap_id (by omega) (by omega)]
  omega
end Go.Proofs.YtlomcmdbbnbciaaDoor.Pl
set_option linter.unusedVariables false
namespace Go.Proofs.YtlomcmdbbnbciaaDoor.Fn
open Go.RowKit Go.Proofs.YtlomcmdbbnbciaaDoorW.PrintWords

/-! strings.IndexRune of a blank text at a sign beyond ASCII: -1. -/
theorem blank_decode0 : Utf8.decode ⟨#[32, 9]⟩ 0 = (32, 1) := by decide
theorem blank_decode1 : Utf8.decode ⟨#[32, 9]⟩ 1 = (9, 1) := by decide
theorem enc_two (r : Nat) (h1 : 128 ≤ r) (h2 : r < 2048) : Utf8.encode (r : Int) = ⟨#[UInt8.ofNat (192 + r / 64), UInt8.ofNat (128 + r % 64)]⟩ := by
  have hv : Utf8.valid (r : Int) = true := by unfold Utf8.valid; simp; omega
  unfold Utf8.encode
  simp only [hv, if_true, Int.toNat_natCast]
  rw [if_neg (by omega), if_pos (by omega)]
theorem enc_more (r : Nat) (h1 : 2048 ≤ r) : 3 ≤ (Utf8.encode (r : Int)).size ∧ (Utf8.encode (r : Int)).size ≤ 4 := by
  unfold Utf8.encode
  by_cases hv : Utf8.valid (r : Int) = true
  · simp only [hv, if_true, Int.toNat_natCast]
    rw [if_neg (by omega), if_neg (by omega)]
    split
    · exact ⟨by show 3 ≤ 3; omega, by show 3 ≤ 4; omega⟩
    · exact ⟨by show 3 ≤ 4; omega, by show 4 ≤ 4; omega⟩
  · simp only [hv]
    exact ⟨by show 3 ≤ 3; omega, by show 3 ≤ 4; omega⟩

set_option maxHeartbeats 4000000 in
set_option maxRecDepth 100000 in
theorem indexRune_bad (w : World) :
    Calls Tryd.prog 164 #[.string ⟨#[32, 9]⟩, .int .i32 65533] w fun e w' => e = .returned (.int .i64 (-1)) ∧ Below w.heap.size w w' := by
  go_enter Tryd.func164, Tryd.ntmps164
  go_wp2
  go_loopw [] (fun wr => ∃ (pos : Nat), pos ≤ 2 ∧ wr.heap[w.heap.size]? = some (.stringIter ⟨#[32, 9]⟩ pos) ∧ Below w.heap.size w wr) (fun wr => 2 - wr.iterPos w.heap.size)
  case atStart =>
    refine ⟨0, by omega, ?_, (Below.refl _ w).alloc (by simp) _⟩
    have := World.iter_heap w ⟨#[32, 9]⟩ 0
    simpa using this
  case round =>
    obtain ⟨pos, hp2, hit, hbw⟩ := hrel
    have hsz : w.heap.size < wr.heap.size := (Array.getElem?_eq_some_iff.1 hit).1
    rcases (show pos = 0 ∨ pos = 1 ∨ pos = 2 by omega) with rfl | rfl | rfl
    · have hnx : ∀ ty, (Instr.next (.pointer (some ⟨w.heap.size, 0, none⟩)) true ty).run Tryd.prog wr = _ := fun ty => Lib.run_next_any_at wr w.heap.size ⟨#[32, 9]⟩ 0 ty hit (by decide)
      rw [blank_decode0] at hnx
      have hit2 := Lib.iterAt_heap wr w.heap.size ⟨#[32, 9]⟩ 0 (0 + 1) hit
      have hbw2 := Lib.below_iterAt hbw (k := w.heap.size) (by omega) ⟨#[32, 9]⟩ (0 + 1)
      go_wp2
      go_roundw
      case rel => exact ⟨1, by omega, hit2, hbw2⟩
      case measure => simp only [World.iterPos, hit2, hit]; omega
    · have hnx : ∀ ty, (Instr.next (.pointer (some ⟨w.heap.size, 0, none⟩)) true ty).run Tryd.prog wr = _ := fun ty => Lib.run_next_any_at wr w.heap.size ⟨#[32, 9]⟩ 1 ty hit (by decide)
      rw [blank_decode1] at hnx
      have hit2 := Lib.iterAt_heap wr w.heap.size ⟨#[32, 9]⟩ 1 (1 + 1) hit
      have hbw2 := Lib.below_iterAt hbw (k := w.heap.size) (by omega) ⟨#[32, 9]⟩ (1 + 1)
      go_wp2
      go_roundw
      case rel => exact ⟨2, by omega, hit2, hbw2⟩
      case measure => simp only [World.iterPos, hit2, hit]; omega
    · have hnx : ∀ ty, (Instr.next (.pointer (some ⟨w.heap.size, 0, none⟩)) true ty).run Tryd.prog wr = _ := fun ty => Lib.run_next_end_at wr w.heap.size ⟨#[32, 9]⟩ 2 ty hit (by decide)
      go_wp2
      go_ret
      exact ⟨rfl, hbw⟩

set_option maxHeartbeats 4000000 in
set_option maxRecDepth 1000000 in
theorem indexRune_more (r : Nat) (w : World) (h1 : 2048 ≤ r) (h2 : r ≤ 1114111) (h3 : r < 55296 ∨ 57344 ≤ r) (h4 : r ≠ 65533) :
    Calls Tryd.prog 164 #[.string ⟨#[32, 9]⟩, .int .i32 r] w fun e w' => e = .returned (.int .i64 (-1)) ∧ Below w.heap.size w w' := by
  obtain ⟨g1, g2⟩ := enc_more r h1
  have e1 : ((0 : Int) ≤ (r : Int)) = True := eq_true (by omega)
  have e2 : ((r : Int) < 128) = False := eq_false (by omega)
  have e3 : ((r : Int) == 65533) = false := beq_eq_false_iff_ne.2 (by omega)
  have e4 : Lib.validRune (r : Int) = true := by unfold Lib.validRune; simp; omega
  have e5 : decide ((r : Int) < 128) = false := decide_eq_false (by omega)
  have e6 : decide ((0 : Int) ≤ (r : Int)) = true := decide_eq_true (by omega)
  go_enter Tryd.func164, Tryd.ntmps164
  have e7 : (Utf8.encode (r : Int)).size ≤ maxLen := by unfold maxLen; omega
  have e8 : wrap64 (((Utf8.encode (r : Int)).size : Int) - 1) = ((Utf8.encode (r : Int)).size : Int) - 1 := by unfold wrap64; omega
  go_wp2_with (go_at_call 177; refine (Tryd.utf8_ValidRune _ _).mono ?_; rintro e W1 ⟨rfl, rfl⟩; rw [e4])
  go_step3
  go_wp2
  go_loopw [9] (fun v9 wr => v9 = .int .i64 (((Utf8.encode (r : Int)).size : Int) - 1) ∧ wr = W1) (fun v9 wr => 0)
  case atStart => exact ⟨rfl, rfl⟩
  case round =>
    obtain ⟨rfl, rfl⟩ := hrel
    have e9 : decide ((((Utf8.encode (r : Int)).size : Int) - 1) < 2) = false := decide_eq_false (by omega)
    go_wp2
    (try rw [Exit.noGoto_exit])
    go_wp2
    (try rw [Exit.noGoto_ret])
    go_ret
    exact ⟨rfl, Below.refl _ _⟩

set_option maxHeartbeats 4000000 in
set_option maxRecDepth 1000000 in
theorem indexRune_two (r : Nat) (w : World) (h1 : 128 ≤ r) (h2 : r < 2048) :
    Calls Tryd.prog 164 #[.string ⟨#[32, 9]⟩, .int .i32 r] w fun e w' => e = .returned (.int .i64 (-1)) ∧ Below w.heap.size w w' := by
  have HE := hid (enc_two r h1 h2)
  obtain ⟨b, hb⟩ : ∃ b : UInt8, UInt8.ofNat (128 + r % 64) = b := ⟨_, rfl⟩
  obtain ⟨c, hc⟩ : ∃ c : UInt8, UInt8.ofNat (192 + r / 64) = c := ⟨_, rfl⟩
  have hbn : b.toNat = 128 + r % 64 := by rw [← hb]; simp; omega
  rw [hb, hc] at HE
  have e3 : ((r : Int) == 65533) = false := beq_eq_false_iff_ne.2 (by omega)
  have e4 : Lib.validRune (r : Int) = true := by unfold Lib.validRune; simp; omega
  have e5 : decide ((r : Int) < 128) = false := decide_eq_false (by omega)
  have e6 : decide ((0 : Int) ≤ (r : Int)) = true := decide_eq_true (by omega)
  have e10 : (9 != (b.toNat : Int)) = true := by rw [bne_iff_ne]; omega
  have e8 : wrap64 (((⟨#[c, b]⟩ : ByteArray).size : Int) - 1) = 1 := by show wrap64 (((2 : Nat) : Int) - 1) = 1; unfold wrap64; omega
  have e11 : Lib.indexByte [] (b.toNat : Int).toNat.toUInt8 = -1 := rfl
  go_enter Tryd.func164, Tryd.ntmps164
  go_wp2_with (go_at_call 177; refine (Tryd.utf8_ValidRune _ _).mono ?_; rintro e W1 ⟨rfl, rfl⟩; rw [e4])
  go_step3
  go_wp2
  rw [HE.out]
  simp only [e8]
  go_loopw [9] (fun v9 wr => v9 = .int .i64 1 ∧ wr = W1) (fun v9 wr => 0)
  case atStart => exact ⟨rfl, rfl⟩
  case round =>
    obtain ⟨rfl, rfl⟩ := hrel
    go_wp2
    go_step3
    go_wp2
    go_quiet (fail)
    simp only [show ((((⟨#[32, 9]⟩ : ByteArray)[1]'(by decide)).toNat : Int) != (((⟨#[c, b]⟩ : ByteArray)[1]'(by show 1 < 2; decide)).toNat : Int)) = true from e10]
    go_wp2
    have hB3 := pw_below_drewN (Below.refl wr.heap.size wr) nq
    generalize wr.drewN nq = W3 at hB3 ⊢
    have e12 : IntKind.i64.wrap 2 = 2 := by decide
    have e13 : ((2 : Int) ≤ ((⟨#[32, 9]⟩ : ByteArray).size : Int)) = True := eq_true (by decide)
    go_quiet (first | (go_at_call 150; refine Calls.quiet_of_same (Tryd.strings_IndexByte _ _ _)))
    simp only [show ∀ x, Lib.indexByte ByteArray.empty.data.toList x = -1 from fun _ => rfl]
    go_wp2
    rw [Exit.noGoto_ret]
    show Exit.noGoto _ .ret _ _
    repeat (first | rw [Exit.noGoto_ret] | (simp only [Exit.then, Exit.inBlock]))
    go_ret
    exact ⟨rfl, pw_below_drewN hB3 _⟩

theorem indexRune_high (r : Nat) (w : World) (h1 : 128 ≤ r) (ok : r < 55296 ∨ (57344 ≤ r ∧ r ≤ 1114111)) :
    Calls Tryd.prog 164 #[.string ⟨#[32, 9]⟩, .int .i32 r] w fun e w' => e = .returned (.int .i64 (-1)) ∧ Below w.heap.size w w' := by
  by_cases h2 : r < 2048
  · exact indexRune_two r w h1 h2
  · by_cases h3 : r = 65533
    · subst h3
      exact indexRune_bad w
    · exact indexRune_more r w (by omega) (by omega) (by omega) h3
end Go.Proofs.YtlomcmdbbnbciaaDoor.Fn
set_option linter.unusedVariables false
namespace Go.Proofs.YtlomcmdbbnbciaaDoor.Fn
open Go.RowKit Go.Proofs.YtlomcmdbbnbciaaDoorW.PrintWords

def strings_IndexAny.f (a0 a1 : ByteArray) : Option Int :=
  if a1 = ⟨#[32, 9]⟩ then (if a0.size < 4294967281 then some (Lib.indexAny a0.data.toList [32, 9]) else none) else none
theorem at_list (s : ByteArray) (j : Nat) (h : j < s.size) : s.data.toList[j]? = some (s.get! j) := by
  have h' : j < s.data.size := h
  rw [Array.getElem?_toList, Array.getElem?_eq_getElem h']
  congr 1
  show s.data[j] = s.data[j]!
  rw [getElem!_pos s.data j h']
theorem noAny_run {s : ByteArray} {i : Nat} : ∀ n, i + n ≤ s.size → (∀ j, j < n → 128 ≤ (s.get! (i + j)).toNat) → Lib.NoAny s.data.toList [32, 9] i → Lib.NoAny s.data.toList [32, 9] (i + n)
  | 0, _, _, h => h
  | n + 1, h0, hb, h => by
    have ih := noAny_run n (by omega) (fun j hj => hb j (by omega)) h
    have hx := at_list s (i + n) (by omega)
    refine ih.succ hx ?_
    have := hb n (by omega)
    generalize s.get! (i + n) = c at this
    have h1 : c ≠ 32 := by rintro rfl; revert this; decide
    have h2 : c ≠ 9 := by rintro rfl; revert this; decide
    simp [h1, h2]
theorem high_run (s : ByteArray) (i : Nat) (h : i < s.size) (h1 : 128 ≤ (s.get! i).toNat) : ∀ j, j < (Utf8.decode s i).2 → 128 ≤ (s.get! (i + j)).toNat := by
  intro j hj
  by_cases h0 : j = 0
  · subst h0; exact h1
  · rw [Lib.decode_at] at hj
    have g0 : (s.get! i).toNat < 256 := (s.get! i).toNat_lt
    unfold Lib.decodeN at hj
    have hj' : j = 1 ∨ j = 2 ∨ j = 3 := by
      repeat' split at hj
      all_goals (simp only [] at hj; omega)
    rcases hj' with rfl | rfl | rfl
    all_goals
      repeat' split at hj
      all_goals (simp only [] at hj; omega)
theorem sign_ok (s : ByteArray) (i : Nat) : (Utf8.decode s i).1 < 55296 ∨ (57344 ≤ (Utf8.decode s i).1 ∧ (Utf8.decode s i).1 ≤ 1114111) := by
  rw [Lib.decode_at]
  have g0 : (s.get! i).toNat < 256 := (s.get! i).toNat_lt
  unfold Lib.decodeN
  repeat' split
  all_goals (simp only []; omega)
theorem sign_beyond (s : ByteArray) (i : Nat) (h : 128 ≤ (s.get! i).toNat) : 128 ≤ (Utf8.decode s i).1 := by
  rw [Lib.decode_at]
  have g0 : (s.get! i).toNat < 256 := (s.get! i).toNat_lt
  unfold Lib.decodeN
  repeat' split
  all_goals (simp only []; omega)
set_option maxHeartbeats 4000000 in
set_option maxRecDepth 1000000 in
theorem indexAny_short (s : ByteArray) (w : World) (h8 : s.size ≤ 8) :
    Calls Tryd.prog 132 #[.string s, .string ⟨#[32, 9]⟩] w fun e w' => e = .returned (.int .i64 (Lib.indexAny s.data.toList [32, 9])) ∧ Below w.heap.size w w' := by
  have h8z : decide ((8 : Int) < (s.size : Int)) = false := decide_eq_false (by omega)
  go_enter Tryd.func132, Tryd.ntmps132
  go_wp2_with (go_at_call 165; refine (Tryd.strings_shouldUseASCIISet _ _).mono ?_; rintro e w' ⟨rfl, hw⟩; rw [hw, h8z])
  go_loopw [] (fun wr => ∃ (pos : Nat), pos ≤ s.size ∧ wr.heap[w.heap.size]? = some (.stringIter s pos) ∧ Below w.heap.size w wr ∧ Hid (Lib.NoAny s.data.toList [32, 9] pos)) (fun wr => s.size - wr.iterPos w.heap.size)
  case atStart =>
    refine ⟨0, Nat.zero_le _, ?_, (Below.refl _ w).alloc (by simp) _, hid (Lib.NoAny.zero _ _)⟩
    have := World.iter_heap w s 0
    simpa using this
  case round =>
    obtain ⟨pos, hps, hit, hbw, hno⟩ := hrel
    have hsz : w.heap.size < wr.heap.size := (Array.getElem?_eq_some_iff.1 hit).1
    by_cases hp : pos < s.size
    · have hwd : 1 ≤ (Utf8.decode s pos).2 := Pl.width_pos s pos hp
      have hwe : pos + (Utf8.decode s pos).2 ≤ s.size := Pl.width_end s pos hp
      have hnx : ∀ ty, (Instr.next (.pointer (some ⟨w.heap.size, 0, none⟩)) true ty).run Tryd.prog wr = _ := fun ty => Lib.run_next_any_at wr w.heap.size s pos ty hit hp
      have hit2 := Lib.iterAt_heap wr w.heap.size s pos (pos + (Utf8.decode s pos).2) hit
      have hbw2 := Lib.below_iterAt hbw (k := w.heap.size) (by omega) s (pos + (Utf8.decode s pos).2)
      by_cases h1 : 128 ≤ (s.get! pos).toNat
      · have HI := hid (indexRune_high (Utf8.decode s pos).1 (wr.iterAt w.heap.size s (pos + (Utf8.decode s pos).2)) (sign_beyond s pos h1) (sign_ok s pos))
        have hno2 := hid (noAny_run _ hwe (high_run s pos hp h1) hno.out)
        clear h1 hno
        go_wp2_with (go_at_call 164; refine HI.out.mono ?_; rintro e W1 ⟨rfl, hb1⟩)
        go_roundw
        case rel =>
          refine ⟨pos + (Utf8.decode s pos).2, hwe, ?_, hbw2.trans (hb1.mono (by rw [Lib.iterAt_size]; omega)), hno2⟩
          rw [hb1.block w.heap.size (by rw [Lib.iterAt_size]; exact hsz)]
          exact hit2
        case measure =>
          have hit3 : W1.heap[w.heap.size]? = some (.stringIter s (pos + (Utf8.decode s pos).2)) := by
            rw [hb1.block w.heap.size (by rw [Lib.iterAt_size]; exact hsz)]
            exact hit2
          simp only [World.iterPos, hit3, hit]
          omega
      · have hd : Utf8.decode s pos = ((s.get! pos).toNat, 1) := by
          rw [Lib.decode_at]
          unfold Lib.decodeN
          rw [if_pos (by omega)]
        have hx := at_list s pos hp
        have hl : (s.get! pos).toNat < 128 := by omega
        clear h1
        rw [hd] at hnx hit2 hbw2
        generalize s.get! pos = c at *
        have hback : ((c.toNat : Int)).toNat.toUInt8 = c := by simp
        have HR := hid (Tryd.strings_IndexRune_ascii ⟨#[32, 9]⟩ (c.toNat : Int) (wr.iterAt w.heap.size s (pos + 1)) (by omega) (by omega))
        rw [hback] at HR
        by_cases hin : ([32, 9] : List UInt8).contains c = true
        · have hv : decide ((0 : Int) ≤ Lib.indexByte (⟨#[32, 9]⟩ : ByteArray).data.toList c) = true := by
            rw [← Lib.contains_iff_indexByte]; exact hin
          have hres := hid (Lib.indexAny_hit hno.out hx hin)
          clear hin hno hx
          go_wp2_with (go_at_call 164; refine HR.out.mono ?_; rintro e W1 ⟨rfl, hw⟩; rw [hw])
          go_ret
          exact ⟨by rw [hres.out]; rfl, hbw2⟩
        · have hin' : ([32, 9] : List UInt8).contains c = false := by simpa using hin
          have hv : decide ((0 : Int) ≤ Lib.indexByte (⟨#[32, 9]⟩ : ByteArray).data.toList c) = false := by
            rw [← Lib.contains_iff_indexByte]; exact hin'
          have hno2 := hid (hno.out.succ hx hin')
          clear hin hin' hno hx
          go_wp2_with (go_at_call 164; refine HR.out.mono ?_; rintro e W1 ⟨rfl, hw⟩; rw [hw])
          go_roundw
          case rel => exact ⟨pos + 1, by omega, hit2, hbw2, hno2⟩
          case measure => simp only [World.iterPos, hit2, hit]; omega
    · obtain rfl : pos = s.size := by omega
      have hnx : ∀ ty, (Instr.next (.pointer (some ⟨w.heap.size, 0, none⟩)) true ty).run Tryd.prog wr = _ := fun ty => Lib.run_next_end_at wr w.heap.size s s.size ty hit hp
      have hres := hid (Lib.indexAny_none (s := s.data.toList) (chars := [32, 9]) (by rw [Pl.data_length]; exact hno.out))
      go_wp2
      go_ret
      exact ⟨by rw [hres.out]; rfl, hbw⟩

theorem ascii9 : ∀ (j : Nat) b, (⟨#[32, 9]⟩ : ByteArray).data.toList[j]? = some b → b.toNat < 128 := fun _ b hb => of_decide_eq_true (List.all_eq_true.1 (show ([32, 9] : List UInt8).all (fun b => decide (b.toNat < 128)) = true by decide) b (List.mem_of_getElem? hb))
theorem strings_IndexAny.calls (a0 a1 : ByteArray) (r : Int) (w : World) (h : strings_IndexAny.f a0 a1 = some r) :
    Calls Tryd.prog 132 #[.string a0, .string a1] w fun e w' => e = .returned (.int .i64 r) ∧ Below w.heap.size w w' := by
  unfold strings_IndexAny.f at h
  by_cases hc : a1 = ⟨#[32, 9]⟩
  · rw [if_pos hc] at h
    by_cases hs : a0.size < 4294967281
    · rw [if_pos hs] at h
      have HR := Option.some.inj h
      subst HR
      subst hc
      by_cases h8 : a0.size ≤ 8
      · exact indexAny_short a0 w h8
      · have h116 : (Tryd.prog.info? (Tryd.lays153_ren.t 116)).map (fun i => (i.zero, i.size)) = some (some (.agg (Array.replicate 256 (.bool false))), 256) := by kernel_rfl
        refine (Any.strings_IndexAny_long Tryd.lays153 (zero_of_info h116).1 (zero_of_info h116).2 a0 ⟨#[32, 9]⟩ w (by decide) (by omega) hs (by decide) ascii9).mono fun e w' ⟨h1, h2⟩ => ⟨h1, ?_⟩
        rw [h2]
        exact ((Below.refl _ _).alloc (Nat.le_refl _) _).alloc (by simp) _
    · rw [if_neg hs] at h
      exact absurd h (by simp)
  · rw [if_neg hc] at h
    exact absurd h (by simp)
end Go.Proofs.YtlomcmdbbnbciaaDoor.Fn
set_option linter.unusedVariables false
namespace Go.Proofs.YtlomcmdbbnbciaaDoor.Fn
open Go.RowKit Go.Proofs.YtlomcmdbbnbciaaDoorW.PrintWords

def strings_TrimLeft.f (a0 a1 : ByteArray) : Option ByteArray :=
  if a0.size ≤ 140737488355328 then (if a1.size ≤ 1000 then (if a1.data.toList.all (fun b => decide (b.toNat < 128)) = true then some (Pl.str (Lib.trimLeftS a0.data.toList a1.data.toList)) else none) else none) else none
theorem strings_TrimLeft.calls (a0 a1 r : ByteArray) (w : World) (h : strings_TrimLeft.f a0 a1 = some r) :
    Calls Tryd.prog 131 #[.string a0, .string a1] w fun e w' => e = .returned (.string r) ∧ Below w.heap.size w w' := by
  unfold strings_TrimLeft.f at h
  by_cases hs : a0.size ≤ 140737488355328
  · rw [if_pos hs] at h
    by_cases hc : a1.size ≤ 1000
    · rw [if_pos hc] at h
      by_cases ha : a1.data.toList.all (fun b => decide (b.toNat < 128)) = true
      · rw [if_pos ha] at h
        have HR := Option.some.inj h
        subst HR
        exact Any.strings_TrimLeft_laid Tryd.lays161 (by kernel_rfl) a0 a1 w (by omega) (ascii_of_all ha)
      · rw [if_neg ha] at h; exact absurd h (by simp)
    · rw [if_neg hc] at h; exact absurd h (by simp)
  · rw [if_neg hs] at h; exact absurd h (by simp)
end Go.Proofs.YtlomcmdbbnbciaaDoor.Fn
-- written by xprint.py of this session over the kit's printer; not trusted: Lean checks it
namespace Go.Proofs.YtlomcmdbbnbciaaDoor.Fn
open Go.RowKit Go.Proofs.YtlomcmdbbnbciaaDoorW.PrintWords Go.Proofs.YtlomcmdbbnbciaaDoorW.PrintLast Go.Proofs.YtlomcmdbbnbciaaDoorW.PrintMore
attribute [local go_sem] max2_int min2_int max_two min_two max_three min_three max_four min_four   -- for this text's walks alone
set_option linter.unusedVariables false
set_option linter.unusedSimpArgs false

/-! ### head_piece: function 100 -/
def head_piece.f (a0 : ByteArray) : Option (Int) := (strings_TrimLeft.f a0 (⟨#[32, 9]⟩ : ByteArray)).bind fun t546 => (if 0 ≤ (wrap64 ((a0.size : Int) - (t546.size : Int))) then (if (wrap64 ((a0.size : Int) - (t546.size : Int))) ≤ (a0.size : Int) then ((strings_IndexAny.f (a0.extract ((wrap64 ((a0.size : Int) - (t546.size : Int))) : Int).toNat a0.size) (⟨#[32, 9]⟩ : ByteArray)).bind fun t547 => (if t547 ≥ 0 then (some (wrap64 ((wrap64 ((a0.size : Int) - (t546.size : Int))) + t547))) else (some (a0.size : Int)))) else (none)) else (none))
set_option maxHeartbeats 8000000 in
set_option maxRecDepth 100000 in
theorem head_piece.calls (a0 : ByteArray) (r : Int) (w : World) (h : head_piece.f a0 = some r) :
  Calls Tryd.prog 100 #[.string a0] w fun e w' => e = .returned (.int .i64 r) ∧ Below w.heap.size w w' := by
 have HB := Aside0.mk (Below.refl w.heap.size w)
 have H : ((strings_TrimLeft.f a0 (⟨#[32, 9]⟩ : ByteArray)).bind fun t546 => (if 0 ≤ (wrap64 ((a0.size : Int) - (t546.size : Int))) then (if (wrap64 ((a0.size : Int) - (t546.size : Int))) ≤ (a0.size : Int) then ((strings_IndexAny.f (a0.extract ((wrap64 ((a0.size : Int) - (t546.size : Int))) : Int).toNat a0.size) (⟨#[32, 9]⟩ : ByteArray)).bind fun t547 => (if t547 ≥ 0 then (some (wrap64 ((wrap64 ((a0.size : Int) - (t546.size : Int))) + t547))) else (some (a0.size : Int)))) else (none)) else (none))) = some r := h
 clear h
 replace H := Option.bind_eq_some_iff.mp H
 obtain ⟨t546, A20, H⟩ := H
 replace H : (if 0 ≤ (wrap64 ((a0.size : Int) - (t546.size : Int))) then (if (wrap64 ((a0.size : Int) - (t546.size : Int))) ≤ (a0.size : Int) then ((strings_IndexAny.f (a0.extract ((wrap64 ((a0.size : Int) - (t546.size : Int))) : Int).toNat a0.size) (⟨#[32, 9]⟩ : ByteArray)).bind fun t547 => (if t547 ≥ 0 then (some (wrap64 ((wrap64 ((a0.size : Int) - (t546.size : Int))) + t547))) else (some (a0.size : Int)))) else (none)) else (none)) = some r := H
 have A2 := Aside0.mk A20
 clear A20
 obtain ⟨ji3, hji3⟩ : ∃ j_ : Int, (wrap64 ((a0.size : Int) - (t546.size : Int))) = j_ := ⟨_, rfl⟩
 replace H : (if 0 ≤ (ji3) then (if (ji3) ≤ (a0.size : Int) then ((strings_IndexAny.f (a0.extract ((ji3) : Int).toNat a0.size) (⟨#[32, 9]⟩ : ByteArray)).bind fun t547 => (if t547 ≥ 0 then (some (wrap64 ((ji3) + t547))) else (some (a0.size : Int)))) else (none)) else (none)) = some r := by first | (rw [hji3] at H; exact H) | (simp only [hji3] at H ⊢; exact H)
 (try rw [hji3] at A2)
 have hji3w : (IntKind.i64.wrap ((a0.size : Int) - (t546.size : Int))) = ji3 := (i64_w _).trans hji3
 by_cases c4 : 0 ≤ (ji3)
 ·rw [if_pos c4] at H
  have c4b0 := eq_true c4
  have c4b1 : decide (0 ≤ (ji3)) = true := decide_eq_true c4
  clear c4
  by_cases c5 : (ji3) ≤ (a0.size : Int)
  ·rw [if_pos c5] at H
   have c5b0 := eq_true c5
   have c5b1 : decide ((ji3) ≤ (a0.size : Int)) = true := decide_eq_true c5
   clear c5
   replace H := Option.bind_eq_some_iff.mp H
   obtain ⟨t547, A60, H⟩ := H
   replace H : (if t547 ≥ 0 then (some (wrap64 ((ji3) + t547))) else (some (a0.size : Int))) = some r := H
   have A6 := Aside0.mk A60
   clear A60
   by_cases c7 : t547 ≥ 0
   ·rw [if_pos c7] at H
    have c7b0 : decide (0 ≤ t547) = true := decide_eq_true c7
    clear c7
    obtain rfl := Option.some.inj H
    go_enter Tryd.func100, Tryd.ntmps100
    go_wp2_with (first | ((with_reducible refine gate_callee (f := 131) rfl ?_); refine goesL_ (some 8) rfl rfl Tryd.func131 (by kernel_rfl) rfl #[.string a0, .string (⟨#[32, 9]⟩ : ByteArray)] rfl am ?_; (with_reducible refine (strings_TrimLeft.calls a0 (⟨#[32, 9]⟩ : ByteArray) t546 _ A2.out).mono ?_); rintro e w8 ⟨rfl, hb⟩; refine ⟨_, rfl, ?_⟩; have n0_ := Aside0.mk (below_step bw hb); clear HB; have HB := n0_; clear n0_; (try clear hb); (try clear hb2); (try clear hk); (try clear hi)) | ((with_reducible refine gate_callee (f := 132) rfl ?_); refine goesL_ (some 14) rfl rfl Tryd.func132 (by kernel_rfl) rfl #[.string (a0.extract ((ji3) : Int).toNat a0.size), .string (⟨#[32, 9]⟩ : ByteArray)] rfl (by (try simp only [List.map_toArray, List.map_cons, List.map_nil]); first | done | (simp only [hji3]; rfl) | rfl | (simp only [List.length_drop, List.length_take]; rfl)) ?_; (with_reducible refine (strings_IndexAny.calls (a0.extract ((ji3) : Int).toNat a0.size) (⟨#[32, 9]⟩ : ByteArray) t547 _ A6.out).mono ?_); rintro e w9 ⟨rfl, hb⟩; refine ⟨_, rfl, ?_⟩; have n0_ := Aside0.mk (below_step bw hb); clear HB; have HB := n0_; clear n0_; (try clear hb); (try clear hb2); (try clear hk); (try clear hi)))
    go_ret
    exact ⟨by first | rfl | (simp [errW_none, errW_some] <;> rfl) | (simp only [← hji3]; first | rfl | (simp [errW_none, errW_some] <;> rfl)) | (simp [*, errW_none, errW_some] <;> rfl), by repeat (first | (with_reducible first | exact HB.out | apply below_alloc | apply pw_below_drewN | apply below_drew1) | exact HB.out)⟩
   ·rw [if_neg c7] at H
    have c7b0 : decide (0 ≤ t547) = false := decide_eq_false c7
    clear c7
    obtain rfl := Option.some.inj H
    go_enter Tryd.func100, Tryd.ntmps100
    go_wp2_with (first | ((with_reducible refine gate_callee (f := 131) rfl ?_); refine goesL_ (some 8) rfl rfl Tryd.func131 (by kernel_rfl) rfl #[.string a0, .string (⟨#[32, 9]⟩ : ByteArray)] rfl am ?_; (with_reducible refine (strings_TrimLeft.calls a0 (⟨#[32, 9]⟩ : ByteArray) t546 _ A2.out).mono ?_); rintro e w10 ⟨rfl, hb⟩; refine ⟨_, rfl, ?_⟩; have n0_ := Aside0.mk (below_step bw hb); clear HB; have HB := n0_; clear n0_; (try clear hb); (try clear hb2); (try clear hk); (try clear hi)) | ((with_reducible refine gate_callee (f := 132) rfl ?_); refine goesL_ (some 14) rfl rfl Tryd.func132 (by kernel_rfl) rfl #[.string (a0.extract ((ji3) : Int).toNat a0.size), .string (⟨#[32, 9]⟩ : ByteArray)] rfl (by (try simp only [List.map_toArray, List.map_cons, List.map_nil]); first | done | (simp only [hji3]; rfl) | rfl | (simp only [List.length_drop, List.length_take]; rfl)) ?_; (with_reducible refine (strings_IndexAny.calls (a0.extract ((ji3) : Int).toNat a0.size) (⟨#[32, 9]⟩ : ByteArray) t547 _ A6.out).mono ?_); rintro e w11 ⟨rfl, hb⟩; refine ⟨_, rfl, ?_⟩; have n0_ := Aside0.mk (below_step bw hb); clear HB; have HB := n0_; clear n0_; (try clear hb); (try clear hb2); (try clear hk); (try clear hi)))
    go_ret
    exact ⟨by first | rfl | (simp [errW_none, errW_some] <;> rfl) | (simp only [← hji3]; first | rfl | (simp [errW_none, errW_some] <;> rfl)) | (simp [*, errW_none, errW_some] <;> rfl), by repeat (first | (with_reducible first | exact HB.out | apply below_alloc | apply pw_below_drewN | apply below_drew1) | exact HB.out)⟩
  ·rw [if_neg c5] at H
   exact absurd H (by simp)
 ·rw [if_neg c4] at H
  exact absurd H (by simp)

end Go.Proofs.YtlomcmdbbnbciaaDoor.Fn
set_option linter.unusedVariables false
set_option linter.unusedSimpArgs false
namespace Go.Proofs.YtlomcmdbbnbciaaDoor.Pl
open Go.RowKit Go.Proofs.YtlomcmdbbnbciaaDoorW.PrintWords Go.Proofs.YtlomcmdbbnbciaaDoor.Fn

/-! head: how a field is written, in pieces. -/
def wb (c : UInt8) : Bool := ([32, 9] : List UInt8).contains c
def lead (s : Bytes) : Nat := (s.takeWhile wb).length
def word (s : Bytes) : Nat := (s.takeWhile (fun c => !wb c)).length
def pieceL (s : Bytes) : Nat := lead s + word (s.drop (lead s))
theorem lead_le (s : Bytes) : lead s ≤ s.length := (List.takeWhile_prefix wb).length_le
theorem word_le (s : Bytes) : word s ≤ s.length := (List.takeWhile_prefix _).length_le
theorem pieceL_le (s : Bytes) : pieceL s ≤ s.length := by
  unfold pieceL
  have h1 := lead_le s
  have h2 := word_le (s.drop (lead s))
  rw [List.length_drop] at h2
  omega
theorem pieceL_pos (s : Bytes) (h : s ≠ []) : 0 < pieceL s := by
  cases s with
  | nil => exact absurd rfl h
  | cons c r =>
    unfold pieceL lead
    by_cases hc : wb c = true
    · rw [List.takeWhile_cons_of_pos hc]; simp; omega
    · rw [List.takeWhile_cons_of_neg hc]
      simp only [List.length_nil, List.drop_zero]
      unfold word
      rw [List.takeWhile_cons_of_pos (by simpa using hc)]; simp
theorem drop_lead : ∀ s : Bytes, s.dropWhile wb = s.drop (lead s)
  | [] => rfl
  | c :: r => by
    unfold lead
    by_cases hc : wb c = true
    · rw [List.takeWhile_cons_of_pos hc, List.dropWhile_cons_of_pos hc, drop_lead r]; rfl
    · rw [List.takeWhile_cons_of_neg hc, List.dropWhile_cons_of_neg hc]; rfl
theorem indexAny_word : ∀ s : Bytes, Lib.indexAny s [32, 9] = if word s = s.length then -1 else (word s : Int)
  | [] => by rfl
  | c :: r => by
    have ih := indexAny_word r
    have hl := word_le r
    unfold word at ih hl ⊢
    by_cases hc : wb c = true
    · have hc' : ([32, 9] : List UInt8).contains c = true := hc
      rw [List.takeWhile_cons_of_neg (by simp [hc])]
      simp [Lib.indexAny]
      intro h1 h2
      exfalso
      simp at hc'
      rcases hc' with rfl | rfl <;> simp at *
    · have hc' : ([32, 9] : List UInt8).contains c = false := Bool.eq_false_iff.mpr hc
      rw [List.takeWhile_cons_of_pos (by simpa using hc), Lib.indexAny]
      rw [hc', if_neg (by decide), ih]
      simp only [List.length_cons]
      by_cases h : (List.takeWhile (fun c => !wb c) r).length = r.length
      · rw [if_pos h, if_pos (by decide), if_pos (by omega)]
      · rw [if_neg h, if_neg (by first | (simp; done) | (simp; omega)), if_neg (by omega)]
        omega
theorem headpiece_is (s : ByteArray) (h : s.size ≤ 4000000000) : head_piece.f s = some (pieceL (bs s) : Int) := by
  have hb := bs_length s
  have h1 := lead_le (bs s)
  have h3 := pieceL_le (bs s)
  have e1 : strings_TrimLeft.f s ⟨#[32, 9]⟩ = some (str ((bs s).drop (lead (bs s)))) := by
    unfold strings_TrimLeft.f
    rw [if_pos (by omega), if_pos (by decide), if_pos (by decide)]
    congr 2
    exact drop_lead _
  have e2 : (str ((bs s).drop (lead (bs s)))).size = s.size - lead (bs s) := by rw [str_size, List.length_drop, hb]
  have e3 : wrap64 ((s.size : Int) - ((s.size - lead (bs s) : Nat) : Int)) = (lead (bs s) : Int) := by
    rw [wrap_id (by omega) (by omega)]
    omega
  unfold head_piece.f
  rw [e1]
  simp only [Option.bind_some]
  rw [e2, e3, if_pos (by omega), if_pos (by omega), Int.toNat_natCast]
  have e4 : strings_IndexAny.f (s.extract (lead (bs s)) s.size) ⟨#[32, 9]⟩ = some (Lib.indexAny ((bs s).drop (lead (bs s))) [32, 9]) := by
    unfold strings_IndexAny.f
    have e5 : bs (s.extract (lead (bs s)) s.size) = (bs s).drop (lead (bs s)) := by
      rw [bs_extract, List.take_of_length_le (by omega)]
    have e6 : (s.extract (lead (bs s)) s.size).size = s.size - lead (bs s) := by rw [← bs_length, e5, List.length_drop, hb]
    rw [if_pos rfl, if_pos (by omega)]
    show some (Lib.indexAny (bs _) _) = _
    rw [e5]
  rw [e4]
  simp only [Option.bind_some]
  rw [indexAny_word]
  have h4 := word_le ((bs s).drop (lead (bs s)))
  rw [List.length_drop] at h4
  unfold pieceL
  by_cases hw : word ((bs s).drop (lead (bs s))) = ((bs s).drop (lead (bs s))).length
  · rw [if_pos hw, if_neg (by decide)]
    rw [List.length_drop] at hw
    congr 1
    omega
  · rw [if_neg hw, if_pos (by omega), wrap_id (by omega) (by omega)]
    congr 1
def brk (first : Bool) (pos : Nat) (s : Bytes) : Bool := !first && decide (78 < pos + pieceL s)
def showFrom : Nat → Bool → Nat → Bytes → Bytes
  | 0, _, _, _ => []
  | f + 1, first, pos, s => if s = [] then [] else (if brk first pos s = true then [13, 10] else []) ++ (s.take (pieceL s) ++ showFrom f false ((if brk first pos s = true then 0 else pos) + pieceL s) (s.drop (pieceL s)))
def showL (n v : Bytes) : Bytes := (n ++ [58]) ++ (showFrom (v.length + 1) true (n.length + 1) (if v = [] then [] else 32 :: v) ++ [13, 10])
theorem showFrom_length : ∀ (f : Nat) (first : Bool) (pos : Nat) (s : Bytes), (showFrom f first pos s).length ≤ 3 * s.length
  | 0, _, _, _ => by simp [showFrom]
  | f + 1, first, pos, s => by
    unfold showFrom
    by_cases h : s = []
    · rw [if_pos h]; simp
    · have hp := pieceL_pos s h
      have hl := pieceL_le s
      have ih : ∀ q, (showFrom f false q (s.drop (pieceL s))).length ≤ 3 * (s.length - pieceL s) := fun q => by
        have := showFrom_length f false q (s.drop (pieceL s))
        rwa [List.length_drop] at this
      have i1 := ih (0 + pieceL s)
      have i2 := ih (pos + pieceL s)
      rw [if_neg h, List.length_append, List.length_append, List.length_take, Nat.min_eq_left hl]
      split
      · simp only [List.length_cons, List.length_nil]; omega
      · simp only [List.length_nil]; omega
theorem showL_length (n v : Bytes) : (showL n v).length ≤ n.length + 3 * v.length + 6 := by
  unfold showL
  have h := showFrom_length (v.length + 1) true (n.length + 1) (if v = [] then [] else 32 :: v)
  have : (if v = [] then ([] : Bytes) else 32 :: v).length ≤ v.length + 1 := by split <;> simp
  simp only [List.length_append, List.length_cons, List.length_nil]
  omega
end Go.Proofs.YtlomcmdbbnbciaaDoor.Pl
set_option linter.unusedVariables false
set_option linter.unusedSimpArgs false
namespace Go.Proofs.YtlomcmdbbnbciaaDoor.Fn
open Go.RowKit Go.Proofs.YtlomcmdbbnbciaaDoorW.PrintWords

def head_Show.f (a0 a1 : ByteArray) : Option ByteArray := if a0.size ≤ 1000000000 then (if a1.size ≤ 1000000000 then some (Pl.str (Pl.showL (Pl.bs a0) (Pl.bs a1))) else none) else none
theorem strCells_bs (s : ByteArray) : Lib.strCells s = Lib.byteCells (Pl.bs s) := rfl

theorem bd_below {B b : Nat} {l : List Value} {W W' : World} (h : isBd B b l W) (hb : Below W.heap.size W W') : isBd B b l W' := by
  rcases h with h | h
  · refine .inl ?_
    have hl := h.lt
    obtain ⟨h1, v, h2, h3, h4⟩ := h
    exact ⟨h1, v, (hb.block b hl).trans h2, h3.kept (row := none) ⟨hb.os, hb.tape, hb.output, hb.size, fun k hk _ => hb.block k hk⟩ (Classical.em _), h4⟩
  · refine .inr ?_
    have hl := h.lt
    obtain ⟨h1, v, h2, h3, h4⟩ := h
    exact ⟨h1, v, (hb.block b hl).trans h2, h3.kept (row := none) ⟨hb.os, hb.tape, hb.output, hb.size, fun k hk _ => hb.block k hk⟩ (Classical.em _), h4⟩
theorem bd_lt {B b : Nat} {l : List Value} {W : World} (h : isBd B b l W) : b < W.heap.size := by
  rcases h with h | h <;> exact h.lt
def strLen : Value → Nat | .string s => s.size | _ => 0
theorem toList_ne {s : ByteArray} (h : s.toList = ([] : List UInt8)) : (s.toList == ([] : List UInt8)) = true ∧ (s.toList != ([] : List UInt8)) = false := ⟨beq_iff_eq.mpr h, bne_eq_false_iff_eq.mpr h⟩
theorem toList_ne' {s : ByteArray} (h : ¬ s.toList = ([] : List UInt8)) : (s.toList == ([] : List UInt8)) = false ∧ (s.toList != ([] : List UInt8)) = true := ⟨beq_eq_false_iff_ne.mpr h, bne_iff_ne.mpr h⟩

set_option maxHeartbeats 8000000 in
set_option maxRecDepth 100000 in
theorem head_Show.calls (a0 a1 r : ByteArray) (w : World) (h : head_Show.f a0 a1 = some r) :
    Calls Tryd.prog 45 #[.agg #[.string a0, .string a1]] w fun e w' => e = .returned (.string r) ∧ Below w.heap.size w w' := by
  unfold head_Show.f at h
  by_cases hs : a0.size ≤ 1000000000
  · rw [if_pos hs] at h
    by_cases hs1 : a1.size ≤ 1000000000
    · rw [if_pos hs1] at h
      have HR := hid (Option.some.inj h)
      clear h
      have hz1 : (a0 ++ (⟨#[58]⟩ : ByteArray)).size = a0.size + 1 := by rw [ByteArray.size_append]; rfl
      have hz2 : ((⟨#[32]⟩ : ByteArray) ++ a1).size = 1 + a1.size := by rw [ByteArray.size_append]; rfl
      have hB1 : Below w.heap.size w (w.alloc (.cells #[.string a0, .string a1] 60)) := (Below.refl _ w).alloc (Nat.le_refl _) _
      have hF : isBd (w.heap.size + 1) (w.heap.size + 1) [] ((w.alloc (.cells #[.string a0, .string a1] 60)).alloc (.cells #[.pointer none, .slice none 0 0] 102)) := by
        have := Lib.IsBuilderF.of (Lib.fresh_isBuilder 102 5 (w.alloc (.cells #[.string a0, .string a1] 60)))
        rwa [World.size_alloc] at this
      have hbx : (w.alloc (.cells #[.string a0, .string a1] 60)).heap[w.heap.size]? = some (.cells #[.string a0, .string a1] 60 (0, 0)) := World.alloc_heap_new w _
      have HX : Hid (∀ W, Below (w.heap.size + 1) ((w.alloc (.cells #[.string a0, .string a1] 60)).alloc (.cells #[.pointer none, .slice none 0 0] 102)) W → W.heap[w.heap.size]? = some (.cells #[.string a0, .string a1] 60 (0, 0)) ∧ Below w.heap.size w W) := fun W hW => by
        have h0 := ((Below.refl (w.heap.size + 1) (w.alloc (.cells #[.string a0, .string a1] 60))).alloc (by simp) (.cells #[.pointer none, .slice none 0 0] 102)).trans hW
        exact ⟨(h0.block w.heap.size (by omega)).trans hbx, hB1.trans (h0.mono (by omega))⟩
      have HF := hid hF
      clear hF hbx hB1
      have HT : Hid (∃ S0 : ByteArray, S0 = (if a1.toList = [] then ⟨#[]⟩ else ⟨#[32]⟩ ++ a1) ∧ S0.size ≤ a1.size + 1 ∧ Pl.bs S0 = (if Pl.bs a1 = [] then [] else 32 :: Pl.bs a1)) := by
        refine ⟨_, rfl, ?_, ?_⟩
        · split
          · exact Nat.zero_le _
          · rw [hz2]; omega
        · rw [Pl.toList_bs]
          split
          · rfl
          · rw [Pl.bs_app]; rfl
      have hz3 := Pl.bs_length a0
      have hz4 := Pl.bs_length a1
      obtain ⟨S0, hS, hSz, hSb⟩ := HT.out
      have HI : Hid ((Pl.bs a0 ++ [58]) ++ (Pl.showFrom (a1.size + 1) true (a0.size + 1) (Pl.bs S0) ++ [13, 10]) = Pl.showL (Pl.bs a0) (Pl.bs a1)) := by
        show _ = _
        unfold Pl.showL
        rw [hSb, hz3, hz4]
      clear HT hSb
      have hv : (a1.toList = [] ∧ (a1.toList == ([] : List UInt8)) = true ∧ (a1.toList != ([] : List UInt8)) = false ∧ Hid (Value.string ⟨#[]⟩ = .string S0)) ∨ (¬ a1.toList = [] ∧ (a1.toList == ([] : List UInt8)) = false ∧ (a1.toList != ([] : List UInt8)) = true ∧ Hid (Value.string (⟨#[32]⟩ ++ a1) = .string S0)) := by
        by_cases h : a1.toList = []
        · exact .inl ⟨h, (toList_ne h).1, (toList_ne h).2, hid (by rw [hS, if_pos h])⟩
        · exact .inr ⟨h, (toList_ne' h).1, (toList_ne' h).2, hid (by rw [hS, if_neg h])⟩
      clear hS
      rcases hv with ⟨hv, hv0, hv1, hS⟩ | ⟨hv, hv0, hv1, hS⟩
      all_goals
        go_enter Tryd.func45, Tryd.ntmps45
        go_wp2_with (go_at_call 99; refine (bd_string (w.heap.size + 1) (w.heap.size + 1) [] _ _ HF.out (by rw [hz1]; simp only [List.length_nil]; omega) (by simp)).mono ?_; rintro e W1 ⟨rfl, h1, b1, k1⟩; obtain ⟨hb1, B1⟩ := HX.out _ b1; have c0 : W1.cell? ⟨w.heap.size, 0, none⟩ = some (.string a0) := (by rw [Lib.cell_of_heap hb1]; rfl); have c1 : W1.cell? ⟨w.heap.size, 1, none⟩ = some (.string a1) := (by rw [Lib.cell_of_heap hb1]; rfl); clear b1 k1 hb1)
        go_loopw [4, 5, 6] (fun v4 v5 v6 wr => ∃ (pos fuel : Nat) (fst : Bool) (s : ByteArray) (acc : List UInt8), v4 = .int .i64 pos ∧ v5 = .string s ∧ v6 = .bool fst ∧ isBd (w.heap.size + 1) (w.heap.size + 1) (Lib.byteCells acc) wr ∧ Below w.heap.size w wr ∧ Hid (acc ++ (Pl.showFrom fuel fst pos (Pl.bs s) ++ [13, 10]) = Pl.showL (Pl.bs a0) (Pl.bs a1)) ∧ s.size ≤ fuel ∧ pos ≤ acc.length ∧ acc.length + 3 * s.size ≤ 4000000100) (fun v4 v5 v6 wr => strLen v5)
        case atStart =>
          refine ⟨a0.size + 1, a1.size + 1, true, S0, Pl.bs a0 ++ [58], rfl, hS.out, rfl, ?_, B1, HI, hSz, by rw [List.length_append, hz3]; exact Nat.le_refl _, by rw [List.length_append, hz3]; simp only [List.length_cons, List.length_nil]; omega⟩
          have := h1.is
          rw [List.nil_append, strCells_bs, Pl.bs_app] at this
          exact this
        case round =>
          obtain ⟨pos, fuel, fst, s, acc, rfl, rfl, rfl, hI, hbw, hacc, hfu, hpa, hsz⟩ := hrel
          have hzs := Pl.bs_length s
          have hwsz := hbw.size
          have hblt := bd_lt hI
          by_cases he : s.toList = []
          · obtain ⟨e0, e1⟩ := toList_ne he
            have hend : Hid (acc ++ [13, 10] = Pl.showL (Pl.bs a0) (Pl.bs a1)) := by
              have h0 := hacc.out
              rw [show Pl.bs s = [] from by rw [← Pl.toList_bs]; exact he] at h0
              cases fuel with
              | zero => exact h0
              | succ f => rw [Pl.showFrom, if_pos rfl] at h0; exact h0
            clear hacc he
            go_wp2_with (first
              | (go_at_call 99; refine (bd_string (w.heap.size + 1) (w.heap.size + 1) (Lib.byteCells acc) ⟨#[13, 10]⟩ _ hI (by rw [Lib.byteCells_length]; show acc.length + 2 ≤ _; omega) (by omega)).mono ?_; rintro e W2 ⟨rfl, h2, b2, k2⟩; have h3 : isBd (w.heap.size + 1) (w.heap.size + 1) (Lib.byteCells (acc ++ [13, 10])) W2 := (by rw [Lib.byteCells_append]; exact h2.is))
              | (go_at_call 72; refine (Tryd.Builder_String_any_k (w.heap.size + 1) (w.heap.size + 1) (acc ++ [13, 10]) _ h3 (by have := b2.size; omega)).mono ?_; rintro e W3 ⟨rfl, _, b3, _⟩))
            go_ret
            refine ⟨?_, hbw.trans ((b2.mono (by omega)).trans (b3.mono (by omega)))⟩
            rw [← HR.out, ← hend.out]
            rfl
          · obtain ⟨e0, e1⟩ := toList_ne' he
            have hne : Pl.bs s ≠ [] := by rw [← Pl.toList_bs]; exact he
            have hp1 := Pl.pieceL_pos _ hne
            have hp2 := Pl.pieceL_le (Pl.bs s)
            have hp3 := Pl.headpiece_is s (by omega)
            obtain ⟨f, rfl⟩ : ∃ f, fuel = f + 1 := ⟨fuel - 1, by omega⟩
            have hstep := hacc.out
            rw [Pl.showFrom, if_neg hne] at hstep
            unfold Pl.brk at hstep
            obtain ⟨n, hn⟩ : ∃ n, Pl.pieceL (Pl.bs s) = n := ⟨_, rfl⟩
            rw [hn] at hp1 hp2 hp3 hstep
            have HP := hid hp3
            have hx1 : Pl.bs (s.extract 0 n) = (Pl.bs s).take n := by rw [Pl.bs_extract, List.drop_zero]
            have hx2 : Pl.bs (s.extract n s.size) = (Pl.bs s).drop n := by rw [Pl.bs_extract, List.take_of_length_le (by omega)]
            have hx3 : (s.extract 0 n).size = n := by rw [← Pl.bs_length, hx1, List.length_take]; omega
            have hx4 : (s.extract n s.size).size = s.size - n := by rw [← Pl.bs_length, hx2, List.length_drop]; omega
            have hn1 : ((n : Int) ≤ (s.size : Int)) = True := eq_true (by omega)
            have hn2 : ((0 : Int) ≤ (n : Int)) = True := eq_true (by omega)
            clear hacc he hne hn hp3
            rcases (show fst = true ∨ (fst = false ∧ ¬ 78 < pos + n) ∨ (fst = false ∧ 78 < pos + n) from by cases fst <;> by_cases h : 78 < pos + n <;> simp [h]) with rfl | ⟨rfl, hb⟩ | ⟨rfl, hb⟩
            · have hnew := hid hstep
              clear hstep
              go_wp2_with (first
                | (go_at_call 100; refine (head_piece.calls s n _ HP.out).mono ?_; rintro e W2 ⟨rfl, b2⟩; have hI2 := bd_below hI b2)
                | (go_at_call 99; refine (bd_string (w.heap.size + 1) (w.heap.size + 1) (Lib.byteCells acc) (s.extract 0 n) _ hI2 (by rw [Lib.byteCells_length, hx3]; omega) (by have := b2.size; omega)).mono ?_; rintro e W3 ⟨rfl, h2, b3, k2⟩))
              go_roundw
              case rel =>
                refine ⟨pos + n, f, false, s.extract n s.size, acc ++ (Pl.bs s).take n, by go_num, rfl, rfl, ?_, hbw.trans ((b2.mono (by omega)).trans (b3.mono (by omega))), ?_, by omega, by rw [List.length_append, List.length_take]; omega, by rw [List.length_append, List.length_take, hx4]; omega⟩
                · rw [Lib.byteCells_append, ← hx1]; exact h2.is
                · show _ = _
                  rw [hx2, ← hnew.out]
                  simp []
              case measure => simp only [strLen, hx4]; omega
            · have d0 : decide ((78 : Int) < (pos : Int) + (n : Int)) = false := decide_eq_false (by omega)
              have hnew := hid hstep
              clear hstep
              go_wp2_with (first
                | (go_at_call 100; refine (head_piece.calls s n _ HP.out).mono ?_; rintro e W2 ⟨rfl, b2⟩; have hI2 := bd_below hI b2)
                | (go_at_call 99; refine (bd_string (w.heap.size + 1) (w.heap.size + 1) (Lib.byteCells acc) (s.extract 0 n) _ hI2 (by rw [Lib.byteCells_length, hx3]; omega) (by have := b2.size; omega)).mono ?_; rintro e W3 ⟨rfl, h2, b3, k2⟩))
              go_roundw
              case rel =>
                refine ⟨pos + n, f, false, s.extract n s.size, acc ++ (Pl.bs s).take n, by go_num, rfl, rfl, ?_, hbw.trans ((b2.mono (by omega)).trans (b3.mono (by omega))), ?_, by omega, by rw [List.length_append, List.length_take]; omega, by rw [List.length_append, List.length_take, hx4]; omega⟩
                · rw [Lib.byteCells_append, ← hx1]; exact h2.is
                · show _ = _
                  rw [hx2, ← hnew.out]
                  simp [hb]
              case measure => simp only [strLen, hx4]; omega
            · have d0 : decide ((78 : Int) < (pos : Int) + (n : Int)) = true := decide_eq_true (by omega)
              have hnew := hid hstep
              clear hstep
              go_wp2_with (first
                | (go_at_call 100; refine (head_piece.calls s n _ HP.out).mono ?_; rintro e W2 ⟨rfl, b2⟩; have hI2 := bd_below hI b2)
                | (go_at_call 99; refine (bd_string (w.heap.size + 1) (w.heap.size + 1) (Lib.byteCells (acc ++ [13, 10])) (s.extract 0 n) _ h3 (by rw [Lib.byteCells_length, hx3, List.length_append]; show acc.length + 2 + n ≤ _; omega) (by have := b2.size; have := b3.size; omega)).mono ?_; rintro e W4 ⟨rfl, h4, b4, k4⟩)
                | (go_at_call 99; refine (bd_string (w.heap.size + 1) (w.heap.size + 1) (Lib.byteCells acc) ⟨#[13, 10]⟩ _ hI2 (by rw [Lib.byteCells_length]; show acc.length + 2 ≤ _; omega) (by have := b2.size; omega)).mono ?_; rintro e W3 ⟨rfl, h2, b3, k2⟩; have h3 : isBd (w.heap.size + 1) (w.heap.size + 1) (Lib.byteCells (acc ++ [13, 10])) W3 := (by rw [Lib.byteCells_append]; exact h2.is)))
              go_roundw
              case rel =>
                refine ⟨n, f, false, s.extract n s.size, acc ++ [13, 10] ++ (Pl.bs s).take n, by go_num, rfl, rfl, ?_, hbw.trans ((b2.mono (by omega)).trans ((b3.mono (by omega)).trans (b4.mono (by omega)))), ?_, by omega, by rw [List.length_append, List.length_take]; omega, ?_⟩
                · rw [Lib.byteCells_append, ← hx1]; exact h4.is
                · show _ = _
                  rw [hx2, ← hnew.out]
                  simp [hb]
                · rw [List.length_append, List.length_append, List.length_take, hx4]
                  simp only [List.length_cons, List.length_nil]
                  omega
              case measure => simp only [strLen, hx4]; omega
    · rw [if_neg hs1] at h; exact absurd h (by simp)
  · rw [if_neg hs] at h; exact absurd h (by simp)
end Go.Proofs.YtlomcmdbbnbciaaDoor.Fn
-- written by xprint.py of this session over the kit's printer; not trusted: Lean checks it
namespace Go.Proofs.YtlomcmdbbnbciaaDoor.Fn
open Go.RowKit Go.Proofs.YtlomcmdbbnbciaaDoorW.PrintWords Go.Proofs.YtlomcmdbbnbciaaDoorW.PrintLast Go.Proofs.YtlomcmdbbnbciaaDoorW.PrintMore
attribute [local go_sem] max2_int min2_int max_two min_two max_three min_three max_four min_four   -- for this text's walks alone
set_option linter.unusedVariables false
set_option linter.unusedSimpArgs false

attribute [local go_sem high] eqA60
/-! ### bulletinlaw15_works: function 40 -/
def bulletinlaw15_works.f (k : Nat)  : Option (Bool) := (head_Parse.f k (⟨#[65, 58, 32, 98, 13, 10, 32, 99, 13, 10, 13, 10, 100]⟩ : ByteArray)).bind fun bt548 => (if bt548.2.2 = 0 then (if (bt548.1.length : Int) = 1 then (if 0 < (bt548.1.length : Int) then (if ((((rd_T60 bt548.1 0).f0).toList) == ([65] : List UInt8) && ((((rd_T60 bt548.1 0).f1).toList) == ([98, 32, 99] : List UInt8))) = true then (if bt548.2.1.toList = ([100] : List UInt8) then ((head_Show.f ((rd_T60 bt548.1 0).f0) ((rd_T60 bt548.1 0).f1)).bind fun t555 => (some (t555.toList == ([65, 58, 32, 98, 32, 99, 13, 10] : List UInt8)))) else (some false)) else (some false)) else (none)) else (some false)) else (some false))
theorem bulletinlaw15_works.mono : ∀ k, LeO (bulletinlaw15_works.f k ) (bulletinlaw15_works.f (k + 1) ) := by
 intro  k
 unfold bulletinlaw15_works.f
 repeat' first
   | (with_reducible exact head_Parse.mono _ _)
   | (with_reducible exact LeO.refl _)
   | (with_reducible exact LeO.none _)
   | (with_reducible refine LeO.ite ?_ ?_)
   | (with_reducible refine LeO.bind ?_ (fun _ => ?_))
   | exact head_Parse.mono _ _
   | exact LeO.none _
   | refine LeO.ite ?_ ?_
   | refine LeO.bind ?_ (fun _ => ?_)
set_option maxHeartbeats 8000000 in
set_option maxRecDepth 100000 in
theorem bulletinlaw15_works.calls (k : Nat)  (r : Bool) (w : World) (hG : Glob w) (h : bulletinlaw15_works.f k  = some r) :
  Calls Tryd.prog 40 #[] w fun e w' => e = .returned (.bool r) ∧ Below w.heap.size w w' := by
 have hu60 := Tryd.underlying60
 have HB := Aside0.mk (Below.refl w.heap.size w)
 have H : ((head_Parse.f k (⟨#[65, 58, 32, 98, 13, 10, 32, 99, 13, 10, 13, 10, 100]⟩ : ByteArray)).bind fun bt548 => (if bt548.2.2 = 0 then (if (bt548.1.length : Int) = 1 then (if 0 < (bt548.1.length : Int) then (if ((((rd_T60 bt548.1 0).f0).toList) == ([65] : List UInt8) && ((((rd_T60 bt548.1 0).f1).toList) == ([98, 32, 99] : List UInt8))) = true then (if bt548.2.1.toList = ([100] : List UInt8) then ((head_Show.f ((rd_T60 bt548.1 0).f0) ((rd_T60 bt548.1 0).f1)).bind fun t555 => (some (t555.toList == ([65, 58, 32, 98, 32, 99, 13, 10] : List UInt8)))) else (some false)) else (some false)) else (none)) else (some false)) else (some false))) = some r := h
 clear h
 replace H := Option.bind_eq_some_iff.mp H
 obtain ⟨⟨t548, t549, t550⟩, A10, H⟩ := H
 replace H : (if t550 = 0 then (if (t548.length : Int) = 1 then (if 0 < (t548.length : Int) then (if ((((rd_T60 t548 0).f0).toList) == ([65] : List UInt8) && ((((rd_T60 t548 0).f1).toList) == ([98, 32, 99] : List UInt8))) = true then (if t549.toList = ([100] : List UInt8) then ((head_Show.f ((rd_T60 t548 0).f0) ((rd_T60 t548 0).f1)).bind fun t555 => (some (t555.toList == ([65, 58, 32, 98, 32, 99, 13, 10] : List UInt8)))) else (some false)) else (some false)) else (none)) else (some false)) else (some false)) = some r := H
 have A1 := Aside0.mk A10
 clear A10
 by_cases c2 : t550 = 0
 ·rw [if_pos c2] at H
  have c2b0 : (t550 == 0) = true := beq_iff_eq.mpr c2
  have c2b1 : (t550 != 0) = false := bne_eq_false_iff_eq.mpr c2
  clear c2
  by_cases c3 : (t548.length : Int) = 1
  ·rw [if_pos c3] at H
   have c3b0 : ((t548.length : Int) == 1) = true := beq_iff_eq.mpr c3
   have c3b1 : ((t548.length : Int) != 1) = false := bne_eq_false_iff_eq.mpr c3
   clear c3
   by_cases c4 : 0 < (t548.length : Int)
   ·rw [if_pos c4] at H
    have c4b0 : decide (0 < (t548.length : Int)) = true := decide_eq_true c4
    have c4b1 : decide (0 < t548.length) = true := decide_eq_true (by omega)
    clear c4
    by_cases c5 : ((((rd_T60 t548 0).f0).toList) == ([65] : List UInt8) && ((((rd_T60 t548 0).f1).toList) == ([98, 32, 99] : List UInt8))) = true
    ·rw [if_pos c5] at H
     have c5b0 : ((((rd_T60 t548 0).f0).toList) == ([65] : List UInt8) && ((((rd_T60 t548 0).f1).toList) == ([98, 32, 99] : List UInt8))) = true := c5
     (try (have c5b1 : decide ((((rd_T60 t548 0).f0).toList) = ([65] : List UInt8) && ((((rd_T60 t548 0).f1).toList) == ([98, 32, 99] : List UInt8))) = true := by simpa using c5))
     (try (have c5b2 : ((((rd_T60 t548 0).f0).toList) == ([65] : List UInt8) && ((((rd_T60 t548 0).f1).toList) == ([98, 32, 99] : List UInt8))) = true := by simpa using c5))
     clear c5
     by_cases c6 : t549.toList = ([100] : List UInt8)
     ·rw [if_pos c6] at H
      have c6b0 : (t549.toList == ([100] : List UInt8)) = true := beq_iff_eq.mpr c6
      have c6b1 : (t549.toList != ([100] : List UInt8)) = false := bne_eq_false_iff_eq.mpr c6
      clear c6
      replace H := Option.bind_eq_some_iff.mp H
      obtain ⟨t555, A70, H⟩ := H
      replace H : (some (t555.toList == ([65, 58, 32, 98, 32, 99, 13, 10] : List UInt8))) = some r := H
      have A7 := Aside0.mk A70
      clear A70
      obtain rfl := Option.some.inj H
      go_enter Tryd.func40, Tryd.ntmps40
      go_wp2_with (first | ((with_reducible refine gate_callee (f := 41) rfl ?_); refine goesL_ (some 5) rfl rfl Tryd.func41 (by kernel_rfl) rfl #[.string (⟨#[65, 58, 32, 98, 13, 10, 32, 99, 13, 10, 13, 10, 100]⟩ : ByteArray)] rfl am ?_; (with_reducible refine (head_Parse.calls (hG := by first | exact hG | exact Glob.below hG (by first | exact HB.out | (repeat (first | (with_reducible first | exact HB.out | apply below_alloc | apply pw_below_drewN | apply below_drew1) | exact HB.out))) | exact Glob.drawn hG (by repeat (first | exact Drawn0.refl _ | apply Drawn0.step))) k (⟨#[65, 58, 32, 98, 13, 10, 32, 99, 13, 10, 13, 10, 100]⟩ : ByteArray) t548 t549 t550 _ A1.out).mono ?_); rintro e w8 ⟨v551, rfl, ho0, hb⟩; refine ⟨_, rfl, ?_⟩; have n0_ := Aside0.mk (Kd.R_lower ho0 (below_size bw)); have n1_ := Aside0.mk (below_step bw hb); clear HB; have HO552 := n0_; have HB := n1_; clear n0_ n1_; (try clear hb); (try clear hb2); (try clear hk); (try clear hi); (try clear ho0); obtain ⟨Ao9, co9, eo9⟩ := Kd.R_slice HO552.out; subst eo9; have p553 : 0 ≤ (0 : Int) := (by omega); have q553 : 0 < (t548.length : Int) := od; obtain ⟨ad553, e553, hx553_0, hx553_1⟩ := at_T60 (Kd.R_reads' HO552.out).2.2 0 p553 q553; cases e553; have qi553 : (0 < t548.length) = True := eq_true (by omega); (try rw [show ((0 : Int)).toNat = 0 from rfl] at hx553_0); (try rw [show 0 * 2 = 0 from rfl] at hx553_0); (try rw [Addr.add_zero'] at hx553_0); (try rw [show ((0 : Int)).toNat = 0 from rfl] at hx553_1); (try rw [show 0 * 2 = 0 from rfl] at hx553_1); (try rw [Addr.add_zero'] at hx553_1); replace p553 := eq_true p553; replace q553 := eq_true q553; have p554 : 0 ≤ (0 : Int) := (by omega); have q554 : 0 < (t548.length : Int) := od; obtain ⟨ad554, e554, hx554_0, hx554_1⟩ := at_T60 (Kd.R_reads' HO552.out).2.2 0 p554 q554; obtain rfl : ad553 = ad554 := (by injection e554); have qi554 : (0 < t548.length) = True := eq_true (by omega); (try rw [show ((0 : Int)).toNat = 0 from rfl] at hx554_0); (try rw [show 0 * 2 = 0 from rfl] at hx554_0); (try rw [Addr.add_zero'] at hx554_0); (try rw [show ((0 : Int)).toNat = 0 from rfl] at hx554_1); (try rw [show 0 * 2 = 0 from rfl] at hx554_1); (try rw [Addr.add_zero'] at hx554_1); replace p554 := eq_true p554; replace q554 := eq_true q554) | (go_at_call 45; (with_reducible refine (head_Show.calls ((rd_T60 t548 0).f0) ((rd_T60 t548 0).f1) t555 _ A7.out).mono ?_); rintro e w10 ⟨rfl, hb⟩; have n0_ := Aside0.mk (Kd.R_below (by (with_reducible repeat (first | apply Kd.R_alloc | apply Kd.R_drewN | apply Kd.R_drew)); exact HO552.out) hb); have n1_ := Aside0.mk (below_step bw hb); clear HO552; clear HB; have HO552 := n0_; have HB := n1_; clear n0_ n1_; (try clear hb); (try clear hb2); (try clear hk); (try clear hi)))
      go_ret
      exact ⟨by first | rfl | (simp [errW_none, errW_some] <;> rfl) | (simp [*, errW_none, errW_some] <;> rfl), by repeat (first | (with_reducible first | exact HB.out | apply below_alloc | apply pw_below_drewN | apply below_drew1) | exact HB.out)⟩
     ·rw [if_neg c6] at H
      have c6b0 : (t549.toList == ([100] : List UInt8)) = false := beq_eq_false_iff_ne.mpr c6
      have c6b1 : (t549.toList != ([100] : List UInt8)) = true := bne_iff_ne.mpr c6
      obtain rfl := Option.some.inj H
      go_enter Tryd.func40, Tryd.ntmps40
      go_wp2_with (first | ((with_reducible refine gate_callee (f := 41) rfl ?_); refine goesL_ (some 5) rfl rfl Tryd.func41 (by kernel_rfl) rfl #[.string (⟨#[65, 58, 32, 98, 13, 10, 32, 99, 13, 10, 13, 10, 100]⟩ : ByteArray)] rfl am ?_; (with_reducible refine (head_Parse.calls (hG := by first | exact hG | exact Glob.below hG (by first | exact HB.out | (repeat (first | (with_reducible first | exact HB.out | apply below_alloc | apply pw_below_drewN | apply below_drew1) | exact HB.out))) | exact Glob.drawn hG (by repeat (first | exact Drawn0.refl _ | apply Drawn0.step))) k (⟨#[65, 58, 32, 98, 13, 10, 32, 99, 13, 10, 13, 10, 100]⟩ : ByteArray) t548 t549 t550 _ A1.out).mono ?_); rintro e w11 ⟨v551, rfl, ho0, hb⟩; refine ⟨_, rfl, ?_⟩; have n0_ := Aside0.mk (Kd.R_lower ho0 (below_size bw)); have n1_ := Aside0.mk (below_step bw hb); clear HB; have HO552 := n0_; have HB := n1_; clear n0_ n1_; (try clear hb); (try clear hb2); (try clear hk); (try clear hi); (try clear ho0); obtain ⟨Ao12, co12, eo12⟩ := Kd.R_slice HO552.out; subst eo12; have p553 : 0 ≤ (0 : Int) := (by omega); have q553 : 0 < (t548.length : Int) := od; obtain ⟨ad553, e553, hx553_0, hx553_1⟩ := at_T60 (Kd.R_reads' HO552.out).2.2 0 p553 q553; cases e553; have qi553 : (0 < t548.length) = True := eq_true (by omega); (try rw [show ((0 : Int)).toNat = 0 from rfl] at hx553_0); (try rw [show 0 * 2 = 0 from rfl] at hx553_0); (try rw [Addr.add_zero'] at hx553_0); (try rw [show ((0 : Int)).toNat = 0 from rfl] at hx553_1); (try rw [show 0 * 2 = 0 from rfl] at hx553_1); (try rw [Addr.add_zero'] at hx553_1); replace p553 := eq_true p553; replace q553 := eq_true q553))
      go_ret
      exact ⟨by first | rfl | (simp [errW_none, errW_some] <;> rfl) | (simp [*, errW_none, errW_some] <;> rfl), by repeat (first | (with_reducible first | exact HB.out | apply below_alloc | apply pw_below_drewN | apply below_drew1) | exact HB.out)⟩
    ·rw [if_neg c5] at H
     have c5b0 : ((((rd_T60 t548 0).f0).toList) == ([65] : List UInt8) && ((((rd_T60 t548 0).f1).toList) == ([98, 32, 99] : List UInt8))) = false := by simpa using c5
     (try (have c5b1 : decide ((((rd_T60 t548 0).f0).toList) = ([65] : List UInt8) && ((((rd_T60 t548 0).f1).toList) == ([98, 32, 99] : List UInt8))) = false := by simpa using c5))
     (try (have c5b2 : ((((rd_T60 t548 0).f0).toList) == ([65] : List UInt8) && ((((rd_T60 t548 0).f1).toList) == ([98, 32, 99] : List UInt8))) = false := by simpa using c5))
     (try (have c5b3 : ¬ ((((rd_T60 t548 0).f0).toList) = ([65] : List UInt8) && ((((rd_T60 t548 0).f1).toList) == ([98, 32, 99] : List UInt8))) := by simpa using c5))
     clear c5
     obtain rfl := Option.some.inj H
     go_enter Tryd.func40, Tryd.ntmps40
     go_wp2_with (first | ((with_reducible refine gate_callee (f := 41) rfl ?_); refine goesL_ (some 5) rfl rfl Tryd.func41 (by kernel_rfl) rfl #[.string (⟨#[65, 58, 32, 98, 13, 10, 32, 99, 13, 10, 13, 10, 100]⟩ : ByteArray)] rfl am ?_; (with_reducible refine (head_Parse.calls (hG := by first | exact hG | exact Glob.below hG (by first | exact HB.out | (repeat (first | (with_reducible first | exact HB.out | apply below_alloc | apply pw_below_drewN | apply below_drew1) | exact HB.out))) | exact Glob.drawn hG (by repeat (first | exact Drawn0.refl _ | apply Drawn0.step))) k (⟨#[65, 58, 32, 98, 13, 10, 32, 99, 13, 10, 13, 10, 100]⟩ : ByteArray) t548 t549 t550 _ A1.out).mono ?_); rintro e w13 ⟨v551, rfl, ho0, hb⟩; refine ⟨_, rfl, ?_⟩; have n0_ := Aside0.mk (Kd.R_lower ho0 (below_size bw)); have n1_ := Aside0.mk (below_step bw hb); clear HB; have HO552 := n0_; have HB := n1_; clear n0_ n1_; (try clear hb); (try clear hb2); (try clear hk); (try clear hi); (try clear ho0); obtain ⟨Ao14, co14, eo14⟩ := Kd.R_slice HO552.out; subst eo14; have p553 : 0 ≤ (0 : Int) := (by omega); have q553 : 0 < (t548.length : Int) := od; obtain ⟨ad553, e553, hx553_0, hx553_1⟩ := at_T60 (Kd.R_reads' HO552.out).2.2 0 p553 q553; cases e553; have qi553 : (0 < t548.length) = True := eq_true (by omega); (try rw [show ((0 : Int)).toNat = 0 from rfl] at hx553_0); (try rw [show 0 * 2 = 0 from rfl] at hx553_0); (try rw [Addr.add_zero'] at hx553_0); (try rw [show ((0 : Int)).toNat = 0 from rfl] at hx553_1); (try rw [show 0 * 2 = 0 from rfl] at hx553_1); (try rw [Addr.add_zero'] at hx553_1); replace p553 := eq_true p553; replace q553 := eq_true q553))
     go_ret
     exact ⟨by first | rfl | (simp [errW_none, errW_some] <;> rfl) | (simp [*, errW_none, errW_some] <;> rfl), by repeat (first | (with_reducible first | exact HB.out | apply below_alloc | apply pw_below_drewN | apply below_drew1) | exact HB.out)⟩
   ·rw [if_neg c4] at H
    exact absurd H (by simp)
  ·rw [if_neg c3] at H
   have c3b0 : ((t548.length : Int) == 1) = false := beq_eq_false_iff_ne.mpr c3
   have c3b1 : ((t548.length : Int) != 1) = true := bne_iff_ne.mpr c3
   obtain rfl := Option.some.inj H
   go_enter Tryd.func40, Tryd.ntmps40
   go_wp2_with (first | ((with_reducible refine gate_callee (f := 41) rfl ?_); refine goesL_ (some 5) rfl rfl Tryd.func41 (by kernel_rfl) rfl #[.string (⟨#[65, 58, 32, 98, 13, 10, 32, 99, 13, 10, 13, 10, 100]⟩ : ByteArray)] rfl am ?_; (with_reducible refine (head_Parse.calls (hG := by first | exact hG | exact Glob.below hG (by first | exact HB.out | (repeat (first | (with_reducible first | exact HB.out | apply below_alloc | apply pw_below_drewN | apply below_drew1) | exact HB.out))) | exact Glob.drawn hG (by repeat (first | exact Drawn0.refl _ | apply Drawn0.step))) k (⟨#[65, 58, 32, 98, 13, 10, 32, 99, 13, 10, 13, 10, 100]⟩ : ByteArray) t548 t549 t550 _ A1.out).mono ?_); rintro e w15 ⟨v551, rfl, ho0, hb⟩; refine ⟨_, rfl, ?_⟩; have n0_ := Aside0.mk (Kd.R_lower ho0 (below_size bw)); have n1_ := Aside0.mk (below_step bw hb); clear HB; have HO552 := n0_; have HB := n1_; clear n0_ n1_; (try clear hb); (try clear hb2); (try clear hk); (try clear hi); (try clear ho0); obtain ⟨Ao16, co16, eo16⟩ := Kd.R_slice HO552.out; subst eo16))
   go_ret
   exact ⟨by first | rfl | (simp [errW_none, errW_some] <;> rfl) | (simp [*, errW_none, errW_some] <;> rfl), by repeat (first | (with_reducible first | exact HB.out | apply below_alloc | apply pw_below_drewN | apply below_drew1) | exact HB.out)⟩
 ·rw [if_neg c2] at H
  have c2b0 : (t550 == 0) = false := beq_eq_false_iff_ne.mpr c2
  have c2b1 : (t550 != 0) = true := bne_iff_ne.mpr c2
  obtain rfl := Option.some.inj H
  go_enter Tryd.func40, Tryd.ntmps40
  go_wp2_with (first | ((with_reducible refine gate_callee (f := 41) rfl ?_); refine goesL_ (some 5) rfl rfl Tryd.func41 (by kernel_rfl) rfl #[.string (⟨#[65, 58, 32, 98, 13, 10, 32, 99, 13, 10, 13, 10, 100]⟩ : ByteArray)] rfl am ?_; (with_reducible refine (head_Parse.calls (hG := by first | exact hG | exact Glob.below hG (by first | exact HB.out | (repeat (first | (with_reducible first | exact HB.out | apply below_alloc | apply pw_below_drewN | apply below_drew1) | exact HB.out))) | exact Glob.drawn hG (by repeat (first | exact Drawn0.refl _ | apply Drawn0.step))) k (⟨#[65, 58, 32, 98, 13, 10, 32, 99, 13, 10, 13, 10, 100]⟩ : ByteArray) t548 t549 t550 _ A1.out).mono ?_); rintro e w17 ⟨v551, rfl, ho0, hb⟩; refine ⟨_, rfl, ?_⟩; have n0_ := Aside0.mk (Kd.R_lower ho0 (below_size bw)); have n1_ := Aside0.mk (below_step bw hb); clear HB; have HO552 := n0_; have HB := n1_; clear n0_ n1_; (try clear hb); (try clear hb2); (try clear hk); (try clear hi); (try clear ho0)))
  go_ret
  exact ⟨by first | rfl | (simp [errW_none, errW_some] <;> rfl) | (simp [*, errW_none, errW_some] <;> rfl), by repeat (first | (with_reducible first | exact HB.out | apply below_alloc | apply pw_below_drewN | apply below_drew1) | exact HB.out)⟩

end Go.Proofs.YtlomcmdbbnbciaaDoor.Fn
set_option linter.unusedVariables false
set_option linter.unusedSimpArgs false
namespace Go.Proofs.YtlomcmdbbnbciaaDoor.Pl
open Go.RowKit Go.Proofs.YtlomcmdbbnbciaaDoorW.PrintWords Go.Proofs.YtlomcmdbbnbciaaDoor.Fn

/-! head.Parse as a machine over lists of bytes. -/
abbrev Fld := Bytes × Bytes
def textB (c : UInt8) : Bool := decide (c.toNat = 9) || (!decide (c.toNat < 32) && !decide (c.toNat = 127))
def textual (s : Bytes) : Bool := s.all textB
def nameB (c : UInt8) : Bool := !decide (c.toNat < 33) && (!decide (126 < c.toNat) && !decide (c.toNat = 58))
def named (s : Bytes) : Bool := s.all nameB && (!decide (s = []) && decide (s.length ≤ 76))
def crlf : Bytes → Option Nat
  | [] => none
  | c :: r => if c = 13 ∧ r.head? = some 10 then some 0 else (crlf r).map (· + 1)
def upto (c : UInt8) : Bytes → Nat
  | [] => 0
  | d :: r => if d = c then 0 else upto c r + 1
def trim (s : Bytes) : Bytes := Lib.trimS s [32, 9]
theorem index_crlf : ∀ (s : Bytes), Lib.index s [13, 10] = (match crlf s with | some i => (i : Int) | none => -1)
  | [] => rfl
  | c :: r => by
    have ih := index_crlf r
    rw [Lib.index, crlf]
    by_cases h : c = 13 ∧ r.head? = some 10
    · rw [if_pos h]
      obtain ⟨rfl, h2⟩ := h
      cases r with
      | nil => simp at h2
      | cons d r =>
        simp at h2
        subst h2
        rw [if_pos (by simp [List.isPrefixOf])]
        rfl
    · rw [if_neg h]
      have hp : ([13, 10] : Bytes).isPrefixOf (c :: r) = false := by
        cases r with
        | nil => simp [List.isPrefixOf]
        | cons d r =>
          simp only [List.head?_cons, Option.some.injEq] at h
          simp [List.isPrefixOf]
          intro h1 h2
          exact h ⟨h1.symm, h2.symm⟩
      rw [hp, if_neg (by decide), ih]
      cases crlf r with
      | none => rfl
      | some i =>
        simp only [Option.map_some]
        rw [if_neg (by first | (simp; done) | (simp; omega))]
        show (i : Int) + 1 = ((i + 1 : Nat) : Int)
        omega
theorem textual_rounds (s : ByteArray) (hs : s.size ≤ 1000000000) : ∀ (l : Bytes) (k i : Nat), (bs s).drop i = l → i ≤ s.size → l.length < k → head_text.l0 k s (s.size : Int) (i : Int) = some (l.all textB) := by
  intro l
  induction l with
  | nil =>
    intro k i h hi hk
    obtain ⟨k, rfl⟩ : ∃ m, k = m + 1 := ⟨k - 1, by omega⟩
    have := drop_nil h
    rw [bs_length] at this
    rw [head_text.l0, if_neg (by omega)]
    rfl
  | cons c r ih =>
    intro k i h hi hk
    obtain ⟨k, rfl⟩ : ∃ m, k = m + 1 := ⟨k - 1, by omega⟩
    obtain ⟨h1, h2, h3, h4⟩ := drop_cons h
    rw [bs_length] at h1
    have hn := ih k (i + 1) h3 (by omega) (by simp only [List.length_cons] at hk; omega)
    rw [head_text.l0, if_pos (by omega), if_pos (by omega), if_pos (by omega), bt_drop h, wrap_succ i (by omega), hn]
    rw [List.all_cons]
    unfold textB
    by_cases a : c.toNat < 32
    · rw [if_pos (by omega)]
      by_cases b : c.toNat = 9
      · rw [if_pos (by omega), if_neg (by omega)]; simp [b]
      · rw [if_neg (by omega)]; simp [a, b]
    · rw [if_neg (by omega)]
      by_cases b : c.toNat = 127
      · rw [if_pos (by omega)]; simp [b]
      · rw [if_neg (by omega)]; simp [a, b]
theorem headtext_is (s : ByteArray) (hs : s.size ≤ 1000000000) (k : Nat) (hk : s.size < k) : head_text.f k s = some (textual (bs s)) := by
  unfold head_text.f
  exact textual_rounds s hs (bs s) k 0 (by simp) (by omega) (by rw [bs_length]; exact hk)
theorem named_rounds (s : ByteArray) (hs : s.size ≤ 1000000000) : ∀ (l : Bytes) (k i : Nat), (bs s).drop i = l → i ≤ s.size → l.length < k → head_named.l0 k s (s.size : Int) (i : Int) = some (l.all nameB && (!decide (bs s = []) && decide ((bs s).length ≤ 76))) := by
  intro l
  induction l with
  | nil =>
    intro k i h hi hk
    obtain ⟨k, rfl⟩ : ∃ m, k = m + 1 := ⟨k - 1, by omega⟩
    have := drop_nil h
    rw [bs_length] at this
    rw [head_named.l0, if_neg (by omega), toList_bs]
    by_cases e : bs s = []
    · rw [if_pos e]; simp [e]
    · rw [if_neg e, bs_length]
      simp [e]
      omega
  | cons c r ih =>
    intro k i h hi hk
    obtain ⟨k, rfl⟩ : ∃ m, k = m + 1 := ⟨k - 1, by omega⟩
    obtain ⟨h1, h2, h3, h4⟩ := drop_cons h
    rw [bs_length] at h1
    have hn := ih k (i + 1) h3 (by omega) (by simp only [List.length_cons] at hk; omega)
    rw [head_named.l0, if_pos (by omega), if_pos (by omega), if_pos (by omega), bt_drop h, wrap_succ i (by omega), hn]
    rw [List.all_cons]
    have hnb : nameB c = (!decide (c.toNat < 33) && (!decide (126 < c.toNat) && !decide (c.toNat = 58))) := rfl
    by_cases a : c.toNat < 33
    · rw [if_pos (by omega), hnb]; simp [a]
    · rw [if_neg (by omega)]
      by_cases b : 126 < c.toNat
      · rw [if_pos (by omega), hnb]; simp [b]
      · rw [if_neg (by omega)]
        by_cases d : c.toNat = 58
        · rw [if_pos (by omega), hnb]; simp [d]
        · rw [if_neg (by omega), hnb]; simp [a, b, d]
theorem headnamed_is (s : ByteArray) (hs : s.size ≤ 1000000000) (k : Nat) (hk : s.size < k) : head_named.f k s = some (named (bs s)) := by
  unfold head_named.f
  exact named_rounds s hs (bs s) k 0 (by simp) (by omega) (by rw [bs_length]; exact hk)
end Go.Proofs.YtlomcmdbbnbciaaDoor.Pl
set_option linter.unusedVariables false
set_option linter.unusedSimpArgs false
namespace Go.Proofs.YtlomcmdbbnbciaaDoor.Pl
open Go.RowKit Go.Proofs.YtlomcmdbbnbciaaDoorW.PrintWords Go.Proofs.YtlomcmdbbnbciaaDoor.Fn

/-! head.Parse computes the machine. -/
theorem headtrim_is (s : ByteArray) (hs : s.size ≤ 1000000000) : head_trim.f s = some (str (trim (bs s))) := by
  unfold head_trim.f strings_Trim.f
  rw [if_pos (by omega), if_pos (by decide), if_pos (by decide)]
  rfl
def fits (T : Nat) (l : List Fld) (n : Nat) : Prop := l.length + n ≤ T ∧ ∀ f ∈ l, f.1.length + f.2.length + n ≤ T
end Go.Proofs.YtlomcmdbbnbciaaDoor.Pl
set_option linter.unusedVariables false
namespace Go.Proofs.YtlomcmdbbnbciaaDoor.Fn
open Go.RowKit Go.Shelf

/-! strings.SplitSeq: its iterator keeps what is left of the text in a cell of its own. -/

def cutsN (find : ByteArray → Int) (L : Nat) : Nat → ByteArray → List ByteArray
  | 0, s => [s]
  | k + 1, s => if find s < 0 then [s] else s.extract 0 (find s).toNat :: cutsN find L k (s.extract ((find s).toNat + L) s.size)
def cuts (find : ByteArray → Int) (L : Nat) (s : ByteArray) : List ByteArray := cutsN find L s.size s

structure Finds (find : ByteArray → Int) (L : Nat) : Prop where
  pos : 1 ≤ L
  fits : ∀ s, 0 ≤ find s → (find s).toNat + L ≤ s.size

theorem cutsN_more {find : ByteArray → Int} {L : Nat} (hf : Finds find L) : ∀ (k : Nat) (s : ByteArray), s.size ≤ k → cutsN find L k s = cutsN find L (k + 1) s
  | 0, s, h => by
    have : find s < 0 := by
      rcases Int.lt_or_le (find s) 0 with h0 | h0
      · exact h0
      · have := hf.fits s h0; have := hf.pos; omega
    simp [cutsN, this]
  | k + 1, s, h => by
    rw [cutsN, cutsN]
    by_cases h0 : find s < 0
    · rw [if_pos h0, if_pos h0]
    · rw [if_neg h0, if_neg h0]
      have h1 := hf.fits s (by omega)
      have h2 := hf.pos
      rw [cutsN_more hf k _ (by simp only [ByteArray.size_extract]; omega)]
theorem cutsN_enough {find : ByteArray → Int} {L : Nat} (hf : Finds find L) (k : Nat) (s : ByteArray) (h : s.size ≤ k) : cutsN find L k s = cuts find L s := by
  unfold cuts
  obtain ⟨d, rfl⟩ : ∃ d, k = s.size + d := ⟨k - s.size, by omega⟩
  clear h
  induction d with
  | zero => rfl
  | succ d ih => rw [← Nat.add_assoc, ← cutsN_more hf _ _ (by omega)]; exact ih
theorem cuts_last {find : ByteArray → Int} {L : Nat} (hf : Finds find L) (s : ByteArray) (h : find s < 0) : cuts find L s = [s] := by
  rw [← cutsN_enough hf (s.size + 1) s (by omega), cutsN, if_pos h]
theorem cuts_more {find : ByteArray → Int} {L : Nat} (hf : Finds find L) (s : ByteArray) (h : ¬ find s < 0) : cuts find L s = s.extract 0 (find s).toNat :: cuts find L (s.extract ((find s).toNat + L) s.size) := by
  have h1 := hf.fits s (by omega)
  have h2 := hf.pos
  rw [← cutsN_enough hf (s.size + 1) s (by omega), cutsN, if_neg h, cutsN_enough hf _ _ (by simp only [ByteArray.size_extract]; omega)]

def Kept (D : Nat → Prop) (A B : World) : Prop := ∀ b, D b → B.heap[b]? = A.heap[b]?
theorem Kept.refl (D : Nat → Prop) (A : World) : Kept D A A := fun _ _ => rfl
theorem Kept.trans {D : Nat → Prop} {A B C : World} (h : Kept D A B) (k : Kept D B C) : Kept D A C := fun b hb => (k b hb).trans (h b hb)
theorem Kept.cell {D : Nat → Prop} {A B : World} (h : Kept D A B) {p : Addr} (hp : D p.block) : B.cell? p = A.cell? p := World.cell?_of_block (h p.block hp)
theorem Kept.frozen {D : Nat → Prop} {A B : World} (h : Kept D A B) {p : Addr} (hp : D p.block) : B.frozen? p = A.frozen? p := World.frozen?_of_block (h p.block hp)
theorem Kept.of_below {D : Nat → Prop} {n : Nat} {A B : World} (h : Below n A B) (hD : ∀ b, D b → b < n) : Kept D A B := fun b hb => h.block b (hD b hb)
theorem KeepsOthers.of_below {A B : World} (h : Below A.heap.size A B) : KeepsOthers A B := ⟨h.size, fun k o hk _ => (h.block k (Array.getElem?_eq_some_iff.1 hk).1).trans hk⟩

def SplitGives (n : Nat) (bs : Nat) (D : Nat → Prop) (xs : List ByteArray) (w : World) : Prop :=
  ∀ (l : Nat) (J Jx : List ByteArray → World → Prop) (W : World), Below w.heap.size w W → AbidesFrom W.heap.size J → AbidesFrom W.heap.size Jx →
    (∀ s A v, J s A → J s (A.setCell ⟨bs, 0, none⟩ v)) →
    (∀ pre x W1, J pre W1 → pre.length < xs.length → pre ++ [x] <+: xs → YieldAt Fence.wide (n - 1) Tryd.prog l #[.string x] W1 fun e W' =>
      (e = .returned (.bool true) ∧ J (pre ++ [x]) W' ∧ Kept D W1 W') ∨ (e = .returned (.bool false) ∧ Jx (pre ++ [x]) W')) →
    J [] W →
    CallsIn Fence.wide n Tryd.prog 148 (#[.func (.yield l) #[] #[]] ++ #[.pointer (some ⟨bs + 1, 0, none⟩), .pointer (some ⟨bs, 0, none⟩), .pointer (some ⟨bs + 2, 0, none⟩)]) W fun e W' =>
      (∃ v, e = .returned v) ∧ (J xs W' ∨ ∃ pre, pre <+: xs ∧ Jx pre W')

attribute [local go_sem] Oper.semAt_some

def leftIn (bs : Nat) (W : World) : Nat := match W.cell? ⟨bs, 0, none⟩ with | some (.string s) => s.size + 1 | _ => 0
theorem leftIn_eq {bs : Nat} {W : World} {s : ByteArray} (h : W.cell? ⟨bs, 0, none⟩ = some (.string s)) : leftIn bs W = s.size + 1 := by simp [leftIn, h]

set_option maxRecDepth 100000 in
set_option maxHeartbeats 4000000 in
theorem split_gives (n : Nat) (hn : 1 ≤ n) (bs : Nat) (D : Nat → Prop) (hD : ∀ b, bs ≤ b → b ≤ bs + 2 → D b) (s sep : ByteArray) (find : ByteArray → Int) (hf : Finds find sep.size) (hL : sep.size < 4611686018427387904) (hs : s.size < 4611686018427387904) (w : World) (hw : ∀ b, D b → b < w.heap.size)
    (hidx : ∀ (t : ByteArray) (W : World), t.size ≤ s.size → (∀ b, D b → b ≠ bs → W.heap[b]? = w.heap[b]?) → Calls Tryd.prog 149 #[.string t, .string sep] W fun e w' => e = .returned (.int .i64 (find t)) ∧ w' = W)
    (h0 : w.cell? ⟨bs, 0, none⟩ = some (.string s)) (z0 : w.frozen? ⟨bs, 0, none⟩ = false) (h1 : w.cell? ⟨bs + 1, 0, none⟩ = some (.string sep)) (h2 : w.cell? ⟨bs + 2, 0, none⟩ = some (.int .i64 0)) :
    SplitGives n bs D (cuts find sep.size s) w := by
  intro l J Jx W hW hJ hJx hJs hY hJ0
  have kW : Kept D w W := Kept.of_below hW hw
  have c0 := (kW.cell (p := ⟨bs, 0, none⟩) (hD _ (by simp) (by simp))).trans h0
  have d0 := (kW.frozen (p := ⟨bs, 0, none⟩) (hD _ (by simp) (by simp))).trans z0
  have c1 := (kW.cell (p := ⟨bs + 1, 0, none⟩) (hD _ (by simp) (by simp))).trans h1
  have c2 := (kW.cell (p := ⟨bs + 2, 0, none⟩) (hD _ (by simp) (by simp))).trans h2
  refine callsIn_of_wp Tryd.func148 rfl trivial ?_ rfl
  simp only [Tryd.ntmps148, List.size_toArray, List.length_cons, List.length_nil, Nat.reduceAdd, Nat.reduceSub, Array.replicate_succ, Array.replicate_zero, List.push_toArray, List.append_toArray, List.nil_append, List.cons_append]
  have hpos := hf.pos
  have hsep : ((sep.size : Int) == 0) = false := by rw [beq_eq_false_iff_ne]; omega
  gi_wp2
  gi_loopw [7, 8] (fun p7 p8 wr => ∃ (pre : List ByteArray) (cur : ByteArray), cuts find sep.size s = pre ++ cuts find sep.size cur ∧ cur.size ≤ s.size ∧ J pre wr ∧ wr.cell? ⟨bs, 0, none⟩ = some (.string cur) ∧ wr.frozen? ⟨bs, 0, none⟩ = false ∧ (∀ b, D b → b ≠ bs → wr.heap[b]? = w.heap[b]?))
    (fun p7 p8 wr => leftIn bs wr)
  case atStart =>
    exact ⟨[], s, rfl, Nat.le_refl _, hJ0, c0, d0, fun b hb _ => kW b hb⟩
  case round =>
    obtain ⟨pre, cur, hcut, hcs, hJ1, e0, f0, hK⟩ := hrel
    have e1 : wr.cell? ⟨bs + 1, 0, none⟩ = some (.string sep) := (World.cell?_of_block (hK (bs + 1) (hD _ (by omega) (by omega)) (by omega))).trans h1
    have e2 : wr.cell? ⟨bs + 2, 0, none⟩ = some (.int .i64 0) := (World.cell?_of_block (hK (bs + 2) (hD _ (by omega) (by omega)) (by omega))).trans h2
    by_cases hneg : find cur < 0
    · have hcl := cuts_last hf cur hneg
      rw [hcl] at hcut
      obtain ⟨fn, tmps, assign, body, hy, hR⟩ := hY pre cur wr hJ1 (by rw [hcut]; simp) (by rw [hcut]; exact List.prefix_refl _)
      gi_wp2_with (refine ⟨trivial, ?_⟩; gi_at_call 149; refine (callsIn_wide.2 (hidx cur wr hcs hK)).mono ?_; rintro e w' ⟨rfl, rfl⟩)
      refine hR.mono ?_
      rintro e W3 (⟨rfl, hJ3, hk3⟩ | ⟨rfl, hJx3⟩)
      · gi_wp2
        go_end0
        exact ⟨⟨_, rfl⟩, .inl (by rw [hcut]; exact hJ3)⟩
      · gi_wp2
        go_end0
        exact ⟨⟨_, rfl⟩, .inr ⟨_, by rw [hcut]; exact List.prefix_refl _, hJx3⟩⟩
    · have hcl := cuts_more hf cur hneg
      rw [hcl] at hcut
      obtain ⟨N, hN⟩ : ∃ N : Nat, find cur = (N : Int) := ⟨(find cur).toNat, by omega⟩
      have hfit := hf.fits cur (by omega)
      rw [hN] at hfit
      rw [hN] at hcut
      simp only [Int.toNat_natCast] at hfit hcut
      obtain ⟨fn, tmps, assign, body, hy, hR⟩ := hY pre (cur.extract 0 N) wr hJ1 (by rw [hcut]; simp) (by rw [hcut]; exact (List.prefix_append_right_inj pre).2 (by simp))
      have x1 : wrap64 (N : Int) = N := Pl.wrap_id (by omega) (by omega)
      have x2 : wrap64 ((N : Int) + (sep.size : Int)) = ((N + sep.size : Nat) : Int) := by rw [← Int.natCast_add]; exact Pl.wrap_id (by omega) (by omega)
      have x3 : ((N : Int) < 0) = False := eq_false (by omega)
      have x4 : ((N : Int) ≤ (cur.size : Int)) = True := eq_true (by omega)
      have x5 : (0 ≤ (N : Int)) = True := eq_true (by omega)
      have x6 : (((N + sep.size : Nat) : Int) ≤ (cur.size : Int)) = True := eq_true (by omega)
      have x7 : (0 ≤ ((N + sep.size : Nat) : Int)) = True := eq_true (by omega)
      have hidx1 := hidx cur wr hcs hK
      rw [hN] at hidx1
      gi_wp2_with (refine ⟨trivial, ?_⟩; gi_at_call 149; refine (callsIn_wide.2 hidx1).mono ?_; clear hidx1; rintro e w' ⟨rfl, rfl⟩)
      refine hR.mono ?_
      rintro e W3 (⟨rfl, hJ3, hk3⟩ | ⟨rfl, hJx3⟩)
      · have g0 := (hk3.cell (p := ⟨bs, 0, none⟩) (hD _ (by simp) (by simp))).trans e0
        have g1 := (hk3.cell (p := ⟨bs + 1, 0, none⟩) (hD _ (by simp) (by simp))).trans e1
        have gz := (hk3.frozen (p := ⟨bs, 0, none⟩) (hD _ (by simp) (by simp))).trans f0
        gi_wp2
        go_roundw
        case rel =>
          refine ⟨pre ++ [cur.extract 0 N], cur.extract (N + sep.size) cur.size, by rw [hcut]; simp, by simp only [ByteArray.size_extract]; omega, hJs _ _ _ hJ3, ?_, by rw [World.frozen?_setCell]; exact gz, ?_⟩
          · exact World.cell?_setCell_same' _ _ _ (by rw [g0]; rfl)
          · intro b hb hne
            rw [Below.heap_setCell _ _ _ _ (by simpa using hne), hk3 b hb]
            exact hK b hb hne
        case measure =>
          rw [leftIn_eq (World.cell?_setCell_same' _ _ _ (by rw [g0]; rfl)), leftIn_eq e0]
          simp only [ByteArray.size_extract]
          omega
      · gi_wp2
        refine bodyPost_ret (results_none rfl _ _ _) rfl ?_
        exact ⟨⟨_, rfl⟩, .inr ⟨_, by rw [hcut]; exact (List.prefix_append_right_inj pre).2 (by simp), hJx3⟩⟩

def roundPost (D : Nat → Prop) (I : List ByteArray → World → Prop) (Ix : Code → List ByteArray → World → Prop) (xs : List ByteArray) (W : World) : Exit → Act → World → Prop
  | .normal, _, W' => KeepsOthers W W' ∧ Kept D W W' ∧ I xs W'
  | .ret, _, W' => KeepsOthers W W' ∧ Ix .ret xs W'
  | .exit id, _, W' => KeepsOthers W W' ∧ Ix (.exit id) xs W'
  | .goto t, _, W' => KeepsOthers W W' ∧ Ix (.goto t) xs W'
  | .panic _, _, _ => False
  | .outgrown, _, _ => False

set_option maxHeartbeats 2000000 in
theorem split_range {n : Nat} (h1 : 1 ≤ n) {g : Operand} {p : Tmp} {assign body : Code} {Q : Exit → Act → World → Prop} {a : Act} {w : World} {bs : Nat} {D : Nat → Prop} {xs : List ByteArray}
    (hg : a.eval g = .func (.func 148) #[] #[.pointer (some ⟨bs + 1, 0, none⟩), .pointer (some ⟨bs, 0, none⟩), .pointer (some ⟨bs + 2, 0, none⟩)])
    (hseq : SplitGives (n - 1) bs D xs w) (hD : ∀ b, D b → b < w.heap.size)
    (I : List ByteArray → World → Prop) (Ix : Code → List ByteArray → World → Prop) (hI : OwnFrom w.heap.size I) (hIx : ∀ c, OwnFrom w.heap.size (Ix c)) (hIs : ∀ s A v, I s A → I s (A.setCell ⟨bs, 0, none⟩ v)) (h0 : I [] w) (a₁ : ByteArray → Act)
    (hassign : ∀ (l : Nat) (x : ByteArray) (W : World) (K : Act → World → Prop), K (a₁ x) W →
      assign.wpIn (Fence.wide.inRound l) (n - 1 - 1) Tryd.prog (Exit.then K (fun _ _ _ => False)) { tmps := ((#[p] : Array Tmp).zip #[Value.string x]).foldl (fun t (p, v) => t.setIfInBounds p v) a.tmps, defers := [] } W)
    (hbody : ∀ (l : Nat) (pre : List ByteArray) (x : ByteArray) (W : World), I pre W → pre ++ [x] <+: xs → body.wpIn (Fence.wide.inRound l) (n - 1 - 1) Tryd.prog (roundPost D I Ix (pre ++ [x]) W) (a₁ x) W)
    (hdone : ∀ (d : Nat) (W : World), w.heap.size ≤ d → I xs W → W.heap[d]? = some (.deferred (some [])) → Q .normal { a with defers := { target := .collected d, args := #[] } :: a.defers } W)
    (hstop : ∀ (d : Nat) (c : Code) (pre : List ByteArray) (W : World), w.heap.size ≤ d → pre <+: xs → Ix c pre W → W.heap[d]? = some (.deferred (some [])) → c.wpIn Fence.wide n Tryd.prog Q { a with defers := { target := .collected d, args := #[] } :: a.defers } W) :
    (Code.rangeFunc g #[p] assign body).wpIn Fence.wide n Tryd.prog Q a w := by
  refine wpIn_rangeFunc ?_
  intro fn hfn
  -- the loop's record, by its state and its pending jump
  let R : LoopState → Option Code → Loop := fun st pe => { state := st, pending := pe, fn, tmps := a.tmps, params := #[p], assign, body, defers := w.heap.size }
  have putKept : ∀ (W : World) (l : Nat) (o : Obj), w.heap.size ≤ l → Kept D W (W.putObj l o) := fun W l o hl b hb => World.putObj_heap_other (by have := hD b hb; omega)
  let d := w.heap.size
  let W1 := (w.alloc (.deferred (some []))).alloc (.loop (R .ready none))
  have hLoop : W1.heap[d + 1]? = some (.loop (R .ready none)) := by
    have := World.alloc_heap_new (w.alloc (.deferred (some []))) (.loop (R .ready none)); rwa [World.size_alloc] at this
  have hDef : W1.heap[d]? = some (.deferred (some [])) := (Below.heap_alloc _ _ _ (by simp [d])).trans (World.alloc_heap_new w _)
  have hW1 : Below w.heap.size w W1 := ((Below.refl _ w).alloc (Nat.le_refl _) _).alloc (by simp) _
  have size1 : W1.heap.size = d + 2 := by simp [W1, d]
  refine ⟨d + 1, [{ target := .collected d, args := #[] }], W1, { target := .fn (.func 148) #[.pointer (some ⟨bs + 1, 0, none⟩), .pointer (some ⟨bs, 0, none⟩), .pointer (some ⟨bs + 2, 0, none⟩)], args := #[.func (.yield (d + 1)) #[] #[]] }, W1, 148,
    #[.func (.yield (d + 1)) #[] #[]] ++ #[.pointer (some ⟨bs + 1, 0, none⟩), .pointer (some ⟨bs, 0, none⟩), .pointer (some ⟨bs + 2, 0, none⟩)], W1, ?_, ?_, fun f' hf' => trivial, ?_, fun _ => h1, ?_⟩
  · exact run_enterLoop_outer _ _ _ _ _
  · simp only [resolve, hg]
    simp [go_sem]
  · simp [invoke, go_sem]
  · -- what the loop keeps between two rounds, and when a round has left it
    have far : ∀ {A B : World} {row : Option Nat}, (∀ r, row = some r → W1.heap.size ≤ r ∧ ∃ o : Obj, A.heap[r]? = some o ∧ o.isWalk = true) → (∀ r, row = some r → w.heap.size ≤ r ∧ ∃ o : Obj, A.heap[r]? = some o ∧ o.isCells = false) := by
      intro A B row hr r e
      obtain ⟨hB, o, ho, hw⟩ := hr r e
      exact ⟨by rw [size1] at hB; simp only [d] at hB; omega, o, ho, Obj.not_cells_of_walk hw⟩
    refine (hseq (d + 1)
      (fun pre W => I pre W ∧ W.heap[d + 1]? = some (.loop (R .ready none)) ∧ W.heap[d]? = some (.deferred (some [])))
      (fun pre W => ∃ c, Ix c pre W ∧ W.heap[d + 1]? = some (.loop (R .done (some c))) ∧ W.heap[d]? = some (.deferred (some [])))
      W1 hW1 ?abides ?abides2 ?stores ?rounds ⟨hI.alloc _ (hI.alloc _ h0), hLoop, hDef⟩).mono ?after
    case abides =>
      intro s A B row hs hg' hr
      exact ⟨hI s A B row hs.1 hg' (far (B := B) hr), (grownBy_keeps hg' (fun r e => (hr r e).2) hs.2.1 rfl).trans hs.2.1, (grownBy_keeps hg' (fun r e => (hr r e).2) hs.2.2 rfl).trans hs.2.2⟩
    case abides2 =>
      rintro s A B row ⟨c, hc, hl, hk⟩ hg' hr
      exact ⟨c, hIx c s A B row hc hg' (far (B := B) hr), (grownBy_keeps hg' (fun r e => (hr r e).2) hl rfl).trans hl, (grownBy_keeps hg' (fun r e => (hr r e).2) hk rfl).trans hk⟩
    case stores =>
      rintro s A v ⟨hi, hl, hk⟩
      exact ⟨hIs s A v hi, (KeepsOthers.setCell A _ v).same _ _ hl rfl, (KeepsOthers.setCell A _ v).same _ _ hk rfl⟩
    case rounds =>
      rintro pre x W ⟨hi, hl, hk⟩ _ hpx
      have hy := run_yield (P := Tryd.prog) (args := #[.string x]) hl rfl
      refine ⟨fn, _, assign, body, hy, roundIn_of_wpIn hfn ?_⟩
      refine hassign _ x W _ ?_
      refine ⟨_, run_beginRound hl rfl, ?_⟩
      have hlt : d + 1 < W.heap.size := (Array.getElem?_eq_some_iff.1 hl).1
      have busy : (W.putObj (d + 1) (.loop (R .busy none))).heap[d + 1]? = some (.loop (R .busy none)) := World.putObj_heap_same hlt
      have busyD : (W.putObj (d + 1) (.loop (R .busy none))).heap[d]? = some (.deferred (some [])) := (World.putObj_heap_other (by omega)).trans hk
      have kept1 : Kept D W (W.putObj (d + 1) (.loop (R .busy none))) := putKept _ _ _ (by simp only [d]; omega)
      refine wpIn_mono (hbody _ pre x _ (hI.putObj _ hi (by simp only [d]; omega) hl rfl) hpx) ?_
      have ended : ∀ (jump : Option Code) (W3 : World), KeepsOthers (W.putObj (d + 1) (.loop (R .busy none))) W3 →
          W3.heap[d + 1]? = some (.loop (R .busy none)) ∧
          (Instr.endRound (d + 1) jump).run Tryd.prog W3 = .ok (.bool jump.isNone) (W3.putObj (d + 1) (.loop (R (if jump.isNone then .ready else .done) jump))) ∧
          (W3.putObj (d + 1) (.loop (R (if jump.isNone then .ready else .done) jump))).heap[d + 1]? = some (.loop (R (if jump.isNone then .ready else .done) jump)) ∧
          (W3.putObj (d + 1) (.loop (R (if jump.isNone then .ready else .done) jump))).heap[d]? = some (.deferred (some [])) := by
        intro jump W3 hk3
        have hl3 := hk3.same _ _ busy rfl
        exact ⟨hl3, run_endRound (P := Tryd.prog) jump hl3, World.putObj_heap_same (Array.getElem?_eq_some_iff.1 hl3).1, (World.putObj_heap_other (by omega)).trans (hk3.same _ _ busyD rfl)⟩
      have left : ∀ (c : Code) (W3 : World), KeepsOthers (W.putObj (d + 1) (.loop (R .busy none))) W3 → Ix c (pre ++ [x]) W3 →
          ∃ v W4, (Instr.endRound (d + 1) (some c)).run Tryd.prog W3 = .ok v W4 ∧ (v = .bool false ∧ ∃ c', Ix c' (pre ++ [x]) W4 ∧ W4.heap[d + 1]? = some (.loop (R .done (some c'))) ∧ W4.heap[d]? = some (.deferred (some []))) := by
        intro c W3 hk3 hi3
        obtain ⟨hl3, hr, hl4, hk4⟩ := ended (some c) W3 hk3
        exact ⟨_, _, hr, rfl, c, (hIx c).putObj _ hi3 (by simp only [d]; omega) hl3 rfl, hl4, hk4⟩
      rintro e a3 W3 hp
      cases e with
      | normal =>
        obtain ⟨hk3, hkp3, hi3⟩ := hp
        obtain ⟨hl3, hr, hl4, hk4⟩ := ended none W3 hk3
        exact ⟨_, _, hr, .inl ⟨rfl, ⟨hI.putObj _ hi3 (by simp only [d]; omega) hl3 rfl, hl4, hk4⟩, (kept1.trans hkp3).trans (putKept _ _ _ (by simp only [d]; omega))⟩⟩
      | ret => 
        obtain ⟨v, W4, hr, rfl, hx⟩ := left .ret W3 hp.1 hp.2
        exact ⟨_, _, hr, .inr ⟨rfl, hx⟩⟩
      | exit id =>
        obtain ⟨v, W4, hr, rfl, hx⟩ := left (.exit id) W3 hp.1 hp.2
        exact ⟨_, _, hr, .inr ⟨rfl, hx⟩⟩
      | goto t =>
        obtain ⟨v, W4, hr, rfl, hx⟩ := left (.goto t) W3 hp.1 hp.2
        exact ⟨_, _, hr, .inr ⟨rfl, hx⟩⟩
      | panic ch => exact hp.elim
      | outgrown => exact hp.elim
    case after =>
      rintro e W2 ⟨⟨v, rfl⟩, (⟨hi, hl, hk⟩ | ⟨pre, hSp, c, hi, hl, hk⟩)⟩
      · exact ⟨none, _, run_endLoop (P := Tryd.prog) hl (by simp [R]), hdone d _ (Nat.le_refl _) (hI.putObj _ hi (by simp only [d]; omega) hl rfl) ((World.putObj_heap_other (by omega)).trans hk)⟩
      · exact ⟨some c, _, run_endLoop (P := Tryd.prog) hl (by simp [R]), hstop d c pre _ (Nat.le_refl _) hSp ((hIx c).putObj _ hi (by simp only [d]; omega) hl rfl) ((World.putObj_heap_other (by omega)).trans hk)⟩
end Go.Proofs.YtlomcmdbbnbciaaDoor.Fn
set_option linter.unusedVariables false
namespace Go.Proofs.YtlomcmdbbnbciaaDoor.Fn
open Go.RowKit Go.Shelf

theorem cell_of_new {W : World} {B : Nat} {v : Value} {t : TypeId} (h : W.heap[B]? = some (.cells #[v] t (0, 0))) : W.cell? ⟨B, 0, none⟩ = some v ∧ W.frozen? ⟨B, 0, none⟩ = false := by
  constructor <;> simp [World.cell?, World.frozen?, h]
theorem box_cell (W : World) (v : Value) (t : TypeId) : (W.alloc (.cells #[v] t)).cell? ⟨W.heap.size, 0, none⟩ = some v ∧ (W.alloc (.cells #[v] t)).frozen? ⟨W.heap.size, 0, none⟩ = false := by
  have h := World.alloc_heap_new W (.cells #[v] t)
  exact cell_of_new h
theorem cell_on {W : World} {a : Addr} {v : Value} (o : Obj) (h : W.cell? a = some v) : (W.alloc o).cell? a = some v := cell_kept h (World.grownBy_alloc W o none) (fun r e => by cases e)
theorem frozen_on {W : World} {a : Addr} {v : Value} (o : Obj) (h : W.cell? a = some v) (hf : W.frozen? a = false) : (W.alloc o).frozen? a = false := (frozen_kept h (World.grownBy_alloc W o none) (fun r e => by cases e)).trans hf

structure SplitBoxes (bs : Nat) (s sep : ByteArray) (w : World) : Prop where
  text : w.cell? ⟨bs, 0, none⟩ = some (.string s)
  free : w.frozen? ⟨bs, 0, none⟩ = false
  sep : w.cell? ⟨bs + 1, 0, none⟩ = some (.string sep)
  zero : w.cell? ⟨bs + 2, 0, none⟩ = some (.int .i64 0)

set_option maxHeartbeats 2000000 in
set_option maxRecDepth 100000 in
theorem splitSeq_calls (s sep : ByteArray) (w : World) :
    Calls Tryd.prog 121 #[.string s, .string sep, .int .i64 0] w fun e w' =>
      e = .returned (.func (.func 148) #[] #[.pointer (some ⟨w.heap.size + 1, 0, none⟩), .pointer (some ⟨w.heap.size, 0, none⟩), .pointer (some ⟨w.heap.size + 2, 0, none⟩)]) ∧
      SplitBoxes w.heap.size s sep w' ∧ w'.heap.size = w.heap.size + 3 ∧ Below w.heap.size w w' := by
  go_enter Tryd.func121, Tryd.ntmps121
  go_wp2
  go_ret
  have b0 := box_cell w (.string s) 9
  have b1 := box_cell (w.alloc (.cells #[.string s] 9)) (.string sep) 9
  have b2 := box_cell ((w.alloc (.cells #[.string s] 9)).alloc (.cells #[.string sep] 9)) (.int .i64 0) 3
  simp only [World.size_alloc] at b1 b2
  refine ⟨by simp, ⟨cell_on _ (cell_on _ b0.1), frozen_on _ (cell_on _ b0.1) (frozen_on _ b0.1 b0.2), cell_on _ b1.1, b2.1⟩, by simp, (((Below.refl _ w).alloc (Nat.le_refl _) _).alloc (by simp) _).alloc (by simp; omega) _⟩

set_option maxHeartbeats 2000000 in
set_option maxRecDepth 100000 in
theorem SplitSeq_calls (s sep : ByteArray) (w : World) :
    Calls Tryd.prog 82 #[.string s, .string sep] w fun e w' =>
      e = .returned (.func (.func 148) #[] #[.pointer (some ⟨w.heap.size + 1, 0, none⟩), .pointer (some ⟨w.heap.size, 0, none⟩), .pointer (some ⟨w.heap.size + 2, 0, none⟩)]) ∧
      SplitBoxes w.heap.size s sep w' ∧ w'.heap.size = w.heap.size + 3 ∧ Below w.heap.size w w' := by
  go_enter Tryd.func82, Tryd.ntmps82
  go_wp2_with (go_at_call 121; refine (splitSeq_calls s sep _).mono ?_; rintro e w' ⟨rfl, hb, hz, hB⟩)
  go_ret
  exact ⟨rfl, hb, hz, hB⟩

end Go.Proofs.YtlomcmdbbnbciaaDoor.Fn
set_option linter.unusedVariables false
set_option linter.unusedSimpArgs false
namespace Go.Proofs.YtlomcmdbbnbciaaDoor.Pl
def findCrlf (t : ByteArray) : Int := Lib.index t.data.toList [13, 10]
def linesL (s : ByteArray) : List ByteArray := Fn.cuts findCrlf 2 s
def fitsL (x : ByteArray) : Bool := decide (x.size ≤ 998)
def rightL (n v : Bytes) : Bool := named n && (textual v && (decide (trim v = v) && (linesL (str (showL n v))).all fitsL))
end Go.Proofs.YtlomcmdbbnbciaaDoor.Pl
namespace Go.Proofs.YtlomcmdbbnbciaaDoor.Fn
open Go.RowKit Go.Shelf Go.Proofs.YtlomcmdbbnbciaaDoorW.PrintWords Go.Proofs.YtlomcmdbbnbciaaDoorW.PrintLast Go.Proofs.YtlomcmdbbnbciaaDoorW.PrintMore

def head_Right.f (a0 a1 : ByteArray) : Option Bool := if a0.size ≤ 1000000 then (if a1.size ≤ 1000000 then some (Pl.rightL (Pl.bs a0) (Pl.bs a1)) else none) else none

theorem finds_crlf : Finds Pl.findCrlf 2 := ⟨by omega, fun s h => by
  have h1 := Lib.index_room s.data.toList [13, 10] h
  have h2 : s.data.toList.length = s.size := Pl.data_length s
  have h3 : ([13, 10] : List UInt8).length = 2 := rfl
  have h4 : (Pl.findCrlf s) = Lib.index s.data.toList [13, 10] := rfl
  omega⟩
theorem split_gives_crlf (n : Nat) (hn : 1 ≤ n) (bs : Nat) (s : ByteArray) (hs : s.size < 4294967281) (w : World) (hG : Glob w) (hb : 2 < bs) (hw : bs + 3 ≤ w.heap.size) (h : SplitBoxes bs s ⟨#[13, 10]⟩ w) :
    SplitGives n bs (fun b => b = 2 ∨ (bs ≤ b ∧ b ≤ bs + 2)) (Pl.linesL s) w := by
  obtain ⟨m, hm⟩ := hG.max
  refine split_gives n hn bs _ (fun b h1 h2 => .inr ⟨h1, h2⟩) s ⟨#[13, 10]⟩ Pl.findCrlf finds_crlf (show 2 < 4611686018427387904 by decide) (by omega) w (fun b hb => by rcases hb with rfl | hb <;> omega) (fun t W ht hk => ?_) h.text h.free h.sep h.zero
  have hb2 := hk 2 (.inl rfl) (by omega)
  have hm2 : W.cell? ⟨2, 0, none⟩ = some (.int .i64 m) := (World.cell?_of_block hb2).trans hm
  exact Tryd.strings_Index t ⟨#[13, 10]⟩ m W (by omega) hm2

def onlyN (J : Act → World → Prop) : Exit → Act → World → Prop
  | .normal, a, w => J a w
  | _, _, _ => False
attribute [local go_sem] max2_int min2_int max_two min_two max_three min_three max_four min_four
attribute [local go_sem] Oper.semAt_some
def right1.f (k : Nat) (a0_0 : ByteArray) (a0_1 : ByteArray) : Option (Bool) := (head_named.f k a0_0).bind fun t606 => (if t606 = true then ((head_text.f k a0_1).bind fun t607 => (if t607 = true then ((head_trim.f a0_1).bind fun t608 => (if t608.toList = a0_1.toList then (some true) else (some false))) else (some false))) else (some false))
def right1.T1 : Bool × List (List Nat × List Nat) := (true, [([], []), ([0], [0]), ([1], [1]), ([2], [2]), ([3, 2], [3]), ([4], [4]), ([5, 4], [4, 5]), ([6, 4, 4], [4, 6]), ([7, 4], [4, 7]), ([4, 8], [4, 8]), ([9, 7], [9]), ([10], [10]), ([11, 10], [10, 11]), ([12, 10, 10], [10, 12]), ([10], [10]), ([14, 10], [10, 14]), ([13, 15, 10], [10, 13, 15]), ([10, 16], [10, 16])])
def right1.B1 : List Nat := [0, 1, 3, 7, 15, 31, 63, 127, 255, 511, 1023, 2047, 4095, 8191, 2047, 18431, 65535, 131071]
theorem right1.tab1 : rtab .any (opsOf Tryd.f44 1) = right1.T1 := by kernel_rfl
theorem right1.bits1 : waitsOk right1.T1.2 right1.B1 = true := by kernel_rfl
set_option maxHeartbeats 8000000 in
set_option maxRecDepth 100000 in
theorem right_walk (k : Nat) (a0_0 a0_1 sh : ByteArray) (r1 : Bool) (w : World) (hG : Glob w) (hS : head_Show.f a0_0 a0_1 = some sh) (hsz : sh.size ≤ 100000000) (h : right1.f k a0_0 a0_1 = some r1) :
    Calls Tryd.prog 44 #[.agg #[.string a0_0, .string a0_1]] w fun e w' => e = .returned (.bool (r1 && (Pl.linesL sh).all Pl.fitsL)) ∧ Below w.heap.size w w' := by
  have HS := hid hS
  have HG := hid hG
  clear hS hG
  have hu60 := Tryd.underlying60
  have HB := Aside0.mk (Below.refl w.heap.size w)
  have H : ((head_named.f k a0_0).bind fun t606 => (if t606 = true then ((head_text.f k a0_1).bind fun t607 => (if t607 = true then ((head_trim.f a0_1).bind fun t608 => (if t608.toList = a0_1.toList then (some true) else (some false))) else (some false))) else (some false))) = some r1 := h
  clear h
  replace H := Option.bind_eq_some_iff.mp H
  obtain ⟨t606, A20, H⟩ := H
  replace H : (if t606 = true then ((head_text.f k a0_1).bind fun t607 => (if t607 = true then ((head_trim.f a0_1).bind fun t608 => (if t608.toList = a0_1.toList then (some true) else (some false))) else (some false))) else (some false)) = some r1 := H
  have A2 := Aside0.mk A20
  clear A20
  by_cases c3 : t606 = true
  · subst c3
    have H1 : ((head_text.f k a0_1).bind fun t607 => (if t607 = true then ((head_trim.f a0_1).bind fun t608 => (if t608.toList = a0_1.toList then (some true) else (some false))) else (some false))) = some r1 := by rw [if_pos rfl] at H; exact H
    clear H
    have H := H1
    clear H1
    replace H := Option.bind_eq_some_iff.mp H
    obtain ⟨t607, A40, H⟩ := H
    replace H : (if t607 = true then ((head_trim.f a0_1).bind fun t608 => (if t608.toList = a0_1.toList then (some true) else (some false))) else (some false)) = some r1 := H
    have A4 := Aside0.mk A40
    clear A40
    by_cases c5 : t607 = true
    · subst c5
      have H1 : ((head_trim.f a0_1).bind fun t608 => (if t608.toList = a0_1.toList then (some true) else (some false))) = some r1 := by rw [if_pos rfl] at H; exact H
      clear H
      have H := H1
      clear H1
      replace H := Option.bind_eq_some_iff.mp H
      obtain ⟨t608, A60, H⟩ := H
      replace H : (if t608.toList = a0_1.toList then (some true) else (some false)) = some r1 := H
      have A6 := Aside0.mk A60
      clear A60
      by_cases c7 : t608.toList = a0_1.toList
      · rw [if_pos c7] at H
        have c7b0 : (t608.toList == a0_1.toList) = true := beq_iff_eq.mpr c7
        have c7b1 : (t608.toList != a0_1.toList) = false := bne_eq_false_iff_eq.mpr c7
        clear c7
        obtain rfl := Option.some.inj H
        refine (callsIn_wide (n := 3)).1 ?_
        refine callsIn_of_wp_marks Tryd.func44 rfl trivial ?_ rfl
        simp only [Tryd.ntmps44, List.size_toArray, List.length_cons, List.length_nil, Nat.reduceAdd, Nat.reduceSub, Array.replicate_succ, Array.replicate_zero, List.push_toArray, List.append_toArray, List.nil_append, List.cons_append]
        refine wpIn_wide.2 ?_
        try go_wp2_with (first | ((with_reducible refine gate_dst (N := 1) rfl ?_); refine box_event ?hg (N := 1) ?hd (cs := #[.string a0_0, .string a0_1]) (t := 60) ?hr ?_; (case hd => rfl); (case hg => rfl); (case hr => first | (go_simp; done) | (go_simp; rfl)); intro gb605 hg w8 hbox hb; have n0_ := Aside0.mk (below_step (by repeat (first | (with_reducible first | exact HB.out | apply below_alloc | apply pw_below_drewN | apply below_drew1) | exact HB.out)) hb); have n1_ := Aside0.mk (hbox); have n2_ := Aside0.mk ((by rw [hg]; exact (below_size (by repeat (first | (with_reducible first | exact HB.out | apply below_alloc | apply pw_below_drewN | apply below_drew1) | exact HB.out))) : w.heap.size ≤ gb605)); have n3_ := Aside0.mk ((by rw [hg]; exact (below_size (by repeat (first | (with_reducible first | exact HB.out | apply below_alloc | apply pw_below_drewN | apply below_drew1) | exact HB.out))) : w.heap.size ≤ gb605)); clear HB; have HB := n0_; have BK605 := n1_; have GW605 := n2_; have GE605 := n3_; clear n0_ n1_ n2_ n3_; clear hb hbox hg))
        have hcs := HB.out.size
        have n0_ := Aside0.mk (blk_drew (blk_alloc BK605.out (.cells #[.bool false] 4)))
        have n1_ := Aside0.mk (below_drew1 (below_alloc (o := .cells #[.bool false] 4) HB.out))
        have BC := Aside0.mk (blk_drew (World.alloc_heap_new w8 (.cells #[.bool false] 4)))
        clear BK605
        clear HB
        have BK605 := n0_
        have HB := n1_
        clear n0_ n1_
        generalize w8.heap.size = cb at BC hcs ⊢
        rename_i hKK
        refine Code.wp_mono (Q := onlyN (fun a' w' => ∃ t4 t5 t6 t7 t8 t9 t10 t11 t12 t13 t14 t15 t16 t17 t18 t19 t20 : Value, a' = { tmps := #[.agg #[.string a0_0, .string a0_1], .pointer (some ⟨gb605, 0, none⟩), .pointer (some ⟨cb, 0, none⟩), undef, t4, t5, t6, t7, t8, t9, t10, t11, t12, t13, t14, t15, t16, t17, t18, t19, t20, .bool false, undef, undef, undef, undef, undef, undef, undef], defers := [] } ∧ w'.heap[gb605]? = some (.cells #[.string a0_0, .string a0_1] 60 (0, 0)) ∧ w'.heap[cb]? = some (.cells #[.bool false] 4 (0, 0)) ∧ Below w.heap.size w w')) ?hq1 ?hw1
        case hq1 =>
          intro e a' w' h
          cases e with
          | normal =>
            obtain ⟨t4, t5, t6, t7, t8, t9, t10, t11, t12, t13, t14, t15, t16, t17, t18, t19, t20, rfl, hbk, hbc, hbw⟩ := h
            refine hKK _ _ ?_
            have c0 := (blk_cell hbk 0).trans rfl
            have c1 := (blk_cell hbk 1).trans rfl
            obtain ⟨cc, fc⟩ := cell_of_new hbc
            have hlt : cb < w'.heap.size := (Array.getElem?_eq_some_iff.1 hbc).1
            have hgl : 2 < w.heap.size := by
              obtain ⟨m, hm⟩ := HG.out.max
              exact cell_inside hm
            have hwz := hbw.size
            have HA := Aside0.mk hbw
            have HC := Aside0.mk cc
            have HF := Aside0.mk fc
            clear cc fc hbc hbk hKK hbw
            go_wp2_with (first
              | (go_at_call 45; refine (head_Show.calls a0_0 a0_1 sh _ HS.out).mono ?_; rintro e W1 ⟨rfl, b1⟩)
              | (go_at_call 82; refine (SplitSeq_calls sh ⟨#[13, 10]⟩ _).mono ?_; rintro e W2 ⟨rfl, hb, hz, hB⟩))
            rename_i hK7
            have hz1 : w'.heap.size ≤ W1.heap.size := b1.size
            have B2 : Below w.heap.size w W2 := HA.out.trans ((b1.mono (by omega)).trans (hB.mono (by omega)))
            have cc2 : W2.cell? ⟨cb, 0, none⟩ = some (.bool false) := (hB.cell (p := ⟨cb, 0, none⟩) (by show cb < W1.heap.size; omega)).trans ((b1.cell (p := ⟨cb, 0, none⟩) hlt).trans HC.out)
            have fc2 : W2.frozen? ⟨cb, 0, none⟩ = false := (hB.frozen (p := ⟨cb, 0, none⟩) (by show cb < W1.heap.size; omega)).trans ((b1.frozen (p := ⟨cb, 0, none⟩) hlt).trans HF.out)
            have hG2 := HG.out.below B2
            have h1 : 1 ≤ 3 := by decide
            refine (wpIn_wide (n := 3)).1 ?_
            refine split_range (bs := W1.heap.size) (D := fun b => b = 2 ∨ (W1.heap.size ≤ b ∧ b ≤ W1.heap.size + 2)) (xs := Pl.linesL sh) h1 rfl
              (split_gives_crlf 2 (by decide) W1.heap.size sh (by omega) W2 hG2 (by omega) (by omega) hb) (fun b hb => by rcases hb with rfl | hb <;> omega)
              (fun pre W => (pre.all Pl.fitsL = true ∧ W.cell? ⟨cb, 0, none⟩ = some (.bool false) ∧ W.frozen? ⟨cb, 0, none⟩ = false) ∧ Below w.heap.size w W)
              (fun c pre W => (c = .ret ∧ pre.all Pl.fitsL = false ∧ W.cell? ⟨cb, 0, none⟩ = some (.bool false)) ∧ Below w.heap.size w W)
              (OwnFrom.and (Own.from (fun s A B row hs hg hr => ⟨hs.1, cell_kept hs.2.1 hg hr, (frozen_kept hs.2.1 hg hr).trans hs.2.2⟩) _) (ownFrom_below (Nat.le_refl _) (by omega)))
              (fun c => OwnFrom.and (Own.from (fun s A B row hs hg hr => ⟨hs.1, hs.2.1, cell_kept hs.2.2 hg hr⟩) _) (ownFrom_below (Nat.le_refl _) (by omega)))
              (fun s A v hs => ⟨⟨hs.1.1, (World.cell?_setCell_other _ _ _ _ (by first | (simp; done) | (simp; omega))).trans hs.1.2.1, by rw [World.frozen?_setCell]; exact hs.1.2.2⟩, hs.2.setCell (p := ⟨W1.heap.size, 0, none⟩) (by show w.heap.size ≤ W1.heap.size; omega) _⟩)
              ⟨⟨rfl, cc2, fc2⟩, B2⟩
              (fun x => { tmps := #[.agg #[.string a0_0, .string a0_1], .pointer (some ⟨gb605, 0, none⟩), .pointer (some ⟨cb, 0, none⟩), .string x, t4, t5, t6, t7, t8, t9, t10, t11, t12, t13, t14, t15, t16, t17, t18, t19, t20, .bool false, .agg #[.string a0_0, .string a0_1], .string sh, .func (.func 148) #[] #[.pointer (some ⟨W1.heap.size + 1, 0, none⟩), .pointer (some ⟨W1.heap.size, 0, none⟩), .pointer (some ⟨W1.heap.size + 2, 0, none⟩)], .string x, undef, undef, undef], defers := [] }) ?assign ?body ?done ?stop
            case assign =>
              intro l x W K hK
              gi_wp2
              exact hK
            case body =>
              rintro l pre x W ⟨⟨hp, hc, hf⟩, hBW⟩ hpx
              have hsz1 : cb < W.heap.size := by
                obtain ⟨o, ho, _⟩ := not_walk_of_cell hc
                exact (Array.getElem?_eq_some_iff.1 ho).1
              have h11 : 1 ≤ 3 - 1 - 1 := by decide
              by_cases ha : 998 < x.size
              · have hd : decide ((998 : Int) < (x.size : Int)) = true := decide_eq_true (by omega)
                have hfx : Pl.fitsL x = false := by unfold Pl.fitsL; exact decide_eq_false (by omega)
                gi_wp2
                exact ⟨KeepsOthers.setCell _ _ _, ⟨rfl, by simp [hfx], World.cell?_setCell_same' _ _ _ (by rw [hc]; rfl)⟩, hBW.setCell (p := ⟨cb, 0, none⟩) (by show w.heap.size ≤ cb; omega) _⟩
              · have hd : decide ((998 : Int) < (x.size : Int)) = false := decide_eq_false (by omega)
                have hfx : Pl.fitsL x = true := by unfold Pl.fitsL; exact decide_eq_true (by omega)
                gi_wp2
                exact ⟨⟨Nat.le_refl _, fun _ _ h _ => h⟩, fun _ _ => rfl, ⟨by simp [hp, hfx], hc, hf⟩, hBW⟩
            case done =>
              rintro d W hd ⟨⟨hp, hc, hf⟩, hBW⟩ hK
              refine hK7 _ _ ?_
              go_wp2
              have hK' := (KeepsOthers.setCell W ⟨cb, 0, none⟩ (.bool true)).same d _ hK rfl
              refine ⟨by simp, .inl ⟨_, _, rfl, run_takeDeferred hK', ?_⟩⟩
              have hc5 := cell_kept (World.cell?_setCell_same' W ⟨cb, 0, none⟩ (.bool true) (by rw [hc]; rfl)) (grownBy_putObj' _ d (.deferred none)) (fun r e => by cases e; exact ⟨_, hK', rfl⟩)
              refine ⟨.bool true, ?_, by rw [show (Pl.linesL sh).all Pl.fitsL = true from hp]; rfl, (hBW.setCell (p := ⟨cb, 0, none⟩) (by show w.heap.size ≤ cb; omega) _).trans (belowK_b (w := w) (by omega) _ d _ _ (by omega) hK' rfl rfl)⟩
              simp [results, Tryd.f44, go_sem, hc5]
            case stop =>
              rintro d c pre W hd hpre ⟨⟨rfl, hp, hc⟩, hBW⟩ hK
              gi_wp2
              refine ⟨by simp, .inl ⟨_, _, rfl, run_takeDeferred hK, ?_⟩⟩
              have hc5 := cell_kept hc (grownBy_putObj' _ d (.deferred none)) (fun r e => by cases e; exact ⟨_, hK, rfl⟩)
              have hall : (Pl.linesL sh).all Pl.fitsL = false := by
                rw [List.all_eq_false] at hp ⊢
                obtain ⟨y, hy, hn⟩ := hp
                exact ⟨y, hpre.subset hy, hn⟩
              refine ⟨.bool false, ?_, by rw [hall]; rfl, hBW.trans (belowK_b (w := w) (by omega) W d _ _ (by omega) hK rfl rfl)⟩
              simp [results, Tryd.f44, go_sem, hc5]
          | _ => exact h.elim
          
        case hw1 =>
          refine start_ (n := 18) (S := fun w' => w'.cell? ⟨gb605, 0, none⟩ = some (.string a0_0) ∧ w'.cell? ⟨gb605, 1, none⟩ = some (.string a0_1)) (ds := []) #[false, false, false, false, false, false, false, false, false, false, false, false, false, false, false, false, false, false] (by kernel_rfl) rfl rfl ⟨(blk_cell BK605.out 0).trans rfl, (blk_cell BK605.out 1).trans rfl⟩ (fun hHeld => ?_); refine with_tabW right1.tab1 right1.bits1 (fun HT_ HW_ => ?_)
          generalize (w8.alloc (.cells #[.bool false] 4)).drew = w9 at BK605 HB BC hHeld ⊢
          refine pure_ (i := 0) (N := some 4) (v := ?_) (a' := ?_) #[true, false, false, false, false, false, false, false, false, false, false, false, false, false, false, false, false, false] rfl rfl (any_of HT_.out (by kernel_rfl)) (fun _ _ _ h => h) (Or.inl ⟨by rfl, ?_⟩) ?_ ?_
          rotate_left
          · intro w'
            go_simp
            with_reducible rfl
          rotate_left
          · simp only [Act.put, List.setIfInBounds_toArray, List.set_cons_zero, List.set_cons_succ, i64_w, i32_w]
            rfl
          refine take_ (i := 1) (N := some 5) (v := ?_) (a' := ?_) #[true, true, false, false, false, false, false, false, false, false, false, false, false, false, false, false, false, false] rfl rfl (take_ofW HT_.out HW_.out (by kernel_rfl)) (fun _ _ _ h => h) (Or.inl ⟨by rfl, ?_⟩) hHeld ?_ ?_
          rotate_left
          · rintro w' ⟨s0, s1⟩
            go_simp
            with_reducible rfl
          rotate_left
          · simp only [Act.put, List.setIfInBounds_toArray, List.set_cons_zero, List.set_cons_succ, i64_w, i32_w]
            rfl
          refine one_ (i := 2) (N := some 6) #[true, true, true, false, false, false, false, false, false, false, false, false, false, false, false, false, false, false] rfl rfl (one_of HT_.out (by kernel_rfl)) (by decide) (fun K hK => ?_)
          refine goes_ Tryd.func97 (by kernel_rfl) rfl #[.string a0_0] (by rfl) rfl rfl (by (try simp only [List.map_toArray, List.map_cons, List.map_nil]); first | done | rfl | (simp only [List.length_drop, List.length_take]; rfl)) ?_
          with_reducible refine (head_named.calls k a0_0 true _ A2.out).mono ?_
          rintro e w' ⟨rfl, ⟨nd, rfl⟩⟩
          refine ⟨_, rfl, ?_⟩
          refine hK.out _ _ ⟨(blk_cell BK605.out 0).trans rfl, (blk_cell BK605.out 1).trans rfl⟩ (fun hHeld => ?_)
          clear hK K
          refine norm_ (a' := ?_) ?_ ?_
          rotate_left
          · show Act.put _ (some 6) _ = _
            simp only [Act.put, List.setIfInBounds_toArray, List.set_cons_zero, List.set_cons_succ, i64_w, i32_w]
            rfl
          refine pure_ (i := 3) (N := some 7) (v := ?_) (a' := ?_) #[true, true, true, true, false, false, false, false, false, false, false, false, false, false, false, false, false, false] rfl rfl (any_of HT_.out (by kernel_rfl)) (fun _ _ _ h => h) (Or.inl ⟨by rfl, ?_⟩) ?_ ?_
          rotate_left
          · intro w'
            go_simp
            with_reducible rfl
          rotate_left
          · simp only [Act.put, List.setIfInBounds_toArray, List.set_cons_zero, List.set_cons_succ, i64_w, i32_w]
            rfl
          refine pure_ (i := 4) (N := some 8) (v := ?_) (a' := ?_) #[true, true, true, true, true, false, false, false, false, false, false, false, false, false, false, false, false, false] rfl rfl (any_of HT_.out (by kernel_rfl)) (fun _ _ _ h => h) (Or.inl ⟨by rfl, ?_⟩) ?_ ?_
          rotate_left
          · intro w'
            go_simp
            with_reducible rfl
          rotate_left
          · simp only [Act.put, List.setIfInBounds_toArray, List.set_cons_zero, List.set_cons_succ, i64_w, i32_w]
            rfl
          refine pure_ (i := 5) (N := some 9) (v := ?_) (a' := ?_) #[true, true, true, true, true, true, false, false, false, false, false, false, false, false, false, false, false, false] rfl rfl (any_of HT_.out (by kernel_rfl)) (fun _ _ _ h => h) (Or.inl ⟨by rfl, ?_⟩) ?_ ?_
          rotate_left
          · intro w'
            go_simp
            with_reducible rfl
          rotate_left
          · simp only [Act.put, List.setIfInBounds_toArray, List.set_cons_zero, List.set_cons_succ, i64_w, i32_w]
            rfl
          refine take_ (i := 6) (N := some 10) (v := ?_) (a' := ?_) #[true, true, true, true, true, true, true, false, false, false, false, false, false, false, false, false, false, false] rfl rfl (take_ofW HT_.out HW_.out (by kernel_rfl)) (fun _ _ _ h => h) (Or.inl ⟨by rfl, ?_⟩) hHeld ?_ ?_
          rotate_left
          · rintro w' ⟨s0, s1⟩
            go_simp
            with_reducible rfl
          rotate_left
          · simp only [Act.put, List.setIfInBounds_toArray, List.set_cons_zero, List.set_cons_succ, i64_w, i32_w]
            rfl
          refine one_ (i := 7) (N := some 11) #[true, true, true, true, true, true, true, true, false, false, false, false, false, false, false, false, false, false] rfl rfl (one_of HT_.out (by kernel_rfl)) (by decide) (fun K hK => ?_)
          refine goes_ Tryd.func98 (by kernel_rfl) rfl #[.string a0_1] (by rfl) rfl rfl (by (try simp only [List.map_toArray, List.map_cons, List.map_nil]); first | done | rfl | (simp only [List.length_drop, List.length_take]; rfl)) ?_
          with_reducible refine (head_text.calls k a0_1 true _ A4.out).mono ?_
          rintro e w' ⟨rfl, ⟨nd, rfl⟩⟩
          refine ⟨_, rfl, ?_⟩
          refine hK.out _ _ ⟨(blk_cell BK605.out 0).trans rfl, (blk_cell BK605.out 1).trans rfl⟩ (fun hHeld => ?_)
          clear hK K
          refine norm_ (a' := ?_) ?_ ?_
          rotate_left
          · show Act.put _ (some 11) _ = _
            simp only [Act.put, List.setIfInBounds_toArray, List.set_cons_zero, List.set_cons_succ, i64_w, i32_w]
            rfl
          refine pure_ (i := 8) (N := some 12) (v := ?_) (a' := ?_) #[true, true, true, true, true, true, true, true, true, false, false, false, false, false, false, false, false, false] rfl rfl (any_of HT_.out (by kernel_rfl)) (fun _ _ _ h => h) (Or.inl ⟨by rfl, ?_⟩) ?_ ?_
          rotate_left
          · intro w'
            go_simp
            with_reducible rfl
          rotate_left
          · simp only [Act.put, List.setIfInBounds_toArray, List.set_cons_zero, List.set_cons_succ, i64_w, i32_w]
            rfl
          refine pure_ (i := 9) (N := some 13) (v := ?_) (a' := ?_) #[true, true, true, true, true, true, true, true, true, true, false, false, false, false, false, false, false, false] rfl rfl (any_of HT_.out (by kernel_rfl)) (fun _ _ _ h => h) (Or.inl ⟨by rfl, ?_⟩) ?_ ?_
          rotate_left
          · intro w'
            go_simp
            with_reducible rfl
          rotate_left
          · simp only [Act.put, List.setIfInBounds_toArray, List.set_cons_zero, List.set_cons_succ, i64_w, i32_w]
            rfl
          refine pure_ (i := 10) (N := some 14) (v := ?_) (a' := ?_) #[true, true, true, true, true, true, true, true, true, true, true, false, false, false, false, false, false, false] rfl rfl (any_of HT_.out (by kernel_rfl)) (fun _ _ _ h => h) (Or.inl ⟨by rfl, ?_⟩) ?_ ?_
          rotate_left
          · intro w'
            go_simp
            with_reducible rfl
          rotate_left
          · simp only [Act.put, List.setIfInBounds_toArray, List.set_cons_zero, List.set_cons_succ, i64_w, i32_w]
            rfl
          refine pure_ (i := 11) (N := some 15) (v := ?_) (a' := ?_) #[true, true, true, true, true, true, true, true, true, true, true, true, false, false, false, false, false, false] rfl rfl (any_of HT_.out (by kernel_rfl)) (fun _ _ _ h => h) (Or.inl ⟨by rfl, ?_⟩) ?_ ?_
          rotate_left
          · intro w'
            go_simp
            with_reducible rfl
          rotate_left
          · simp only [Act.put, List.setIfInBounds_toArray, List.set_cons_zero, List.set_cons_succ, i64_w, i32_w]
            rfl
          refine pure_ (i := 14) (N := some 18) (v := ?_) (a' := ?_) #[true, true, true, true, true, true, true, true, true, true, true, true, false, false, true, false, false, false] rfl rfl (any_of HT_.out (by kernel_rfl)) (fun _ _ _ h => h) (Or.inl ⟨by rfl, ?_⟩) ?_ ?_
          rotate_left
          · intro w'
            go_simp
            with_reducible rfl
          rotate_left
          · simp only [Act.put, List.setIfInBounds_toArray, List.set_cons_zero, List.set_cons_succ, i64_w, i32_w]
            rfl
          refine take_ (i := 12) (N := some 16) (v := ?_) (a' := ?_) #[true, true, true, true, true, true, true, true, true, true, true, true, true, false, true, false, false, false] rfl rfl (take_ofW HT_.out HW_.out (by kernel_rfl)) (fun _ _ _ h => h) (Or.inl ⟨by rfl, ?_⟩) hHeld ?_ ?_
          rotate_left
          · rintro w' ⟨s0, s1⟩
            go_simp
            with_reducible rfl
          rotate_left
          · simp only [Act.put, List.setIfInBounds_toArray, List.set_cons_zero, List.set_cons_succ, i64_w, i32_w]
            rfl
          refine take_ (i := 15) (N := some 19) (v := ?_) (a' := ?_) #[true, true, true, true, true, true, true, true, true, true, true, true, true, false, true, true, false, false] rfl rfl (take_ofW HT_.out HW_.out (by kernel_rfl)) (fun _ _ _ h => h) (Or.inl ⟨by rfl, ?_⟩) hHeld ?_ ?_
          rotate_left
          · rintro w' ⟨s0, s1⟩
            go_simp
            with_reducible rfl
          rotate_left
          · simp only [Act.put, List.setIfInBounds_toArray, List.set_cons_zero, List.set_cons_succ, i64_w, i32_w]
            rfl
          refine one_ (i := 13) (N := some 17) #[true, true, true, true, true, true, true, true, true, true, true, true, true, true, true, true, false, false] rfl rfl (one_of HT_.out (by kernel_rfl)) (by decide) (fun K hK => ?_)
          refine goes_ Tryd.func91 (by kernel_rfl) rfl #[.string a0_1] (by rfl) rfl rfl (by (try simp only [List.map_toArray, List.map_cons, List.map_nil]); first | done | rfl | (simp only [List.length_drop, List.length_take]; rfl)) ?_
          with_reducible refine (head_trim.calls a0_1 t608 _ A6.out).mono ?_
          rintro e w10 ⟨rfl, hb⟩
          refine ⟨_, rfl, ?_⟩
          have n0_ := Aside0.mk (blk_below (g := gb605) (o := .cells #[.string a0_0, .string a0_1] 60 (0, 0)) (by (with_reducible repeat (first | refine blk_drewN ?_ _ | refine blk_drew ?_ | refine blk_alloc ?_ _)); exact BK605.out) hb)
          have n1_ := Aside0.mk (below_step (by repeat (first | (with_reducible first | exact HB.out | apply below_alloc | apply pw_below_drewN | apply below_drew1 | refine below_set ?_ GE605.out) | exact HB.out)) hb)
          have nc_ := Aside0.mk (blk_below (g := cb) (o := .cells #[.bool false] 4 (0, 0)) (by (with_reducible repeat (first | refine blk_drewN ?_ _ | refine blk_drew ?_ | refine blk_alloc ?_ _)); exact BC.out) hb)
          clear BC
          have BC := nc_
          clear nc_
          clear BK605
          clear HB
          have BK605 := n0_
          have HB := n1_
          clear n0_ n1_
          (try clear hb)
          (try clear hb2)
          (try clear hk)
          (try clear hi)
          refine hK.out _ _ ⟨(blk_cell BK605.out 0).trans rfl, (blk_cell BK605.out 1).trans rfl⟩ (fun hHeld => ?_)
          clear hK K
          refine norm_ (a' := ?_) ?_ ?_
          rotate_left
          · show Act.put _ (some 17) _ = _
            simp only [Act.put, List.setIfInBounds_toArray, List.set_cons_zero, List.set_cons_succ, i64_w, i32_w]
            rfl
          refine pure_ (i := 16) (N := some 20) (v := ?_) (a' := ?_) #[true, true, true, true, true, true, true, true, true, true, true, true, true, true, true, true, true, false] rfl rfl (any_of HT_.out (by kernel_rfl)) (fun _ _ _ h => h) (Or.inl ⟨by rfl, ?_⟩) ?_ ?_
          rotate_left
          · intro w'
            go_simp
            with_reducible rfl
          rotate_left
          · simp only [Act.put, List.setIfInBounds_toArray, List.set_cons_zero, List.set_cons_succ, i64_w, i32_w]
            rfl
          refine pure_ (i := 17) (N := some 21) (v := ?_) (a' := ?_) #[true, true, true, true, true, true, true, true, true, true, true, true, true, true, true, true, true, true] rfl rfl (any_of HT_.out (by kernel_rfl)) (fun _ _ _ h => h) (Or.inl ⟨by rfl, ?_⟩) ?_ ?_
          rotate_left
          · intro w'
            go_simp
            with_reducible rfl
          rotate_left
          · simp only [Act.put, List.setIfInBounds_toArray, List.set_cons_zero, List.set_cons_succ, i64_w, i32_w]
            rfl
          refine done_ (done_of HT_.out (by kernel_rfl)) ?_
          exact ⟨_, _, _, _, _, _, _, _, _, _, _, _, _, _, _, _, _, rfl, BK605.out, BC.out, by repeat (first | (with_reducible first | exact HB.out | apply below_alloc | apply pw_below_drewN | apply below_drew1) | exact HB.out)⟩
      · rw [if_neg c7] at H
        have c7b0 : (t608.toList == a0_1.toList) = false := beq_eq_false_iff_ne.mpr c7
        have c7b1 : (t608.toList != a0_1.toList) = true := bne_iff_ne.mpr c7
        obtain rfl := Option.some.inj H
        go_enter Tryd.func44, Tryd.ntmps44
        try go_wp2_with (first | ((with_reducible refine gate_dst (N := 1) rfl ?_); refine box_event ?hg (N := 1) ?hd (cs := #[.string a0_0, .string a0_1]) (t := 60) ?hr ?_; (case hd => rfl); (case hg => rfl); (case hr => first | (go_simp; done) | (go_simp; rfl)); intro gb605 hg w11 hbox hb; have n0_ := Aside0.mk (below_step (by repeat (first | (with_reducible first | exact HB.out | apply below_alloc | apply pw_below_drewN | apply below_drew1) | exact HB.out)) hb); have n1_ := Aside0.mk (hbox); have n2_ := Aside0.mk ((by rw [hg]; exact (below_size (by repeat (first | (with_reducible first | exact HB.out | apply below_alloc | apply pw_below_drewN | apply below_drew1) | exact HB.out))) : w.heap.size ≤ gb605)); have n3_ := Aside0.mk ((by rw [hg]; exact (below_size (by repeat (first | (with_reducible first | exact HB.out | apply below_alloc | apply pw_below_drewN | apply below_drew1) | exact HB.out))) : w.heap.size ≤ gb605)); clear HB; have HB := n0_; have BK605 := n1_; have GW605 := n2_; have GE605 := n3_; clear n0_ n1_ n2_ n3_; clear hb hbox hg))
        have hcs := HB.out.size
        have n0_ := Aside0.mk (blk_drew (blk_alloc BK605.out (.cells #[.bool false] 4)))
        have n1_ := Aside0.mk (below_drew1 (below_alloc (o := .cells #[.bool false] 4) HB.out))
        have BC := Aside0.mk (blk_drew (World.alloc_heap_new w11 (.cells #[.bool false] 4)))
        clear BK605
        clear HB
        have BK605 := n0_
        have HB := n1_
        clear n0_ n1_
        generalize w11.heap.size = cb at BC hcs ⊢
        refine start_ (n := 18) (S := fun w' => w'.cell? ⟨gb605, 0, none⟩ = some (.string a0_0) ∧ w'.cell? ⟨gb605, 1, none⟩ = some (.string a0_1)) (ds := []) #[false, false, false, false, false, false, false, false, false, false, false, false, false, false, false, false, false, false] (by kernel_rfl) rfl rfl ⟨(blk_cell BK605.out 0).trans rfl, (blk_cell BK605.out 1).trans rfl⟩ (fun hHeld => ?_); refine with_tabW right1.tab1 right1.bits1 (fun HT_ HW_ => ?_)
        generalize (w11.alloc (.cells #[.bool false] 4)).drew = w12 at BK605 HB BC hHeld ⊢
        refine pure_ (i := 0) (N := some 4) (v := ?_) (a' := ?_) #[true, false, false, false, false, false, false, false, false, false, false, false, false, false, false, false, false, false] rfl rfl (any_of HT_.out (by kernel_rfl)) (fun _ _ _ h => h) (Or.inl ⟨by rfl, ?_⟩) ?_ ?_
        rotate_left
        · intro w'
          go_simp
          with_reducible rfl
        rotate_left
        · simp only [Act.put, List.setIfInBounds_toArray, List.set_cons_zero, List.set_cons_succ, i64_w, i32_w]
          rfl
        refine take_ (i := 1) (N := some 5) (v := ?_) (a' := ?_) #[true, true, false, false, false, false, false, false, false, false, false, false, false, false, false, false, false, false] rfl rfl (take_ofW HT_.out HW_.out (by kernel_rfl)) (fun _ _ _ h => h) (Or.inl ⟨by rfl, ?_⟩) hHeld ?_ ?_
        rotate_left
        · rintro w' ⟨s0, s1⟩
          go_simp
          with_reducible rfl
        rotate_left
        · simp only [Act.put, List.setIfInBounds_toArray, List.set_cons_zero, List.set_cons_succ, i64_w, i32_w]
          rfl
        refine one_ (i := 2) (N := some 6) #[true, true, true, false, false, false, false, false, false, false, false, false, false, false, false, false, false, false] rfl rfl (one_of HT_.out (by kernel_rfl)) (by decide) (fun K hK => ?_)
        refine goes_ Tryd.func97 (by kernel_rfl) rfl #[.string a0_0] (by rfl) rfl rfl (by (try simp only [List.map_toArray, List.map_cons, List.map_nil]); first | done | rfl | (simp only [List.length_drop, List.length_take]; rfl)) ?_
        with_reducible refine (head_named.calls k a0_0 true _ A2.out).mono ?_
        rintro e w' ⟨rfl, ⟨nd, rfl⟩⟩
        refine ⟨_, rfl, ?_⟩
        refine hK.out _ _ ⟨(blk_cell BK605.out 0).trans rfl, (blk_cell BK605.out 1).trans rfl⟩ (fun hHeld => ?_)
        clear hK K
        refine norm_ (a' := ?_) ?_ ?_
        rotate_left
        · show Act.put _ (some 6) _ = _
          simp only [Act.put, List.setIfInBounds_toArray, List.set_cons_zero, List.set_cons_succ, i64_w, i32_w]
          rfl
        refine pure_ (i := 3) (N := some 7) (v := ?_) (a' := ?_) #[true, true, true, true, false, false, false, false, false, false, false, false, false, false, false, false, false, false] rfl rfl (any_of HT_.out (by kernel_rfl)) (fun _ _ _ h => h) (Or.inl ⟨by rfl, ?_⟩) ?_ ?_
        rotate_left
        · intro w'
          go_simp
          with_reducible rfl
        rotate_left
        · simp only [Act.put, List.setIfInBounds_toArray, List.set_cons_zero, List.set_cons_succ, i64_w, i32_w]
          rfl
        refine pure_ (i := 4) (N := some 8) (v := ?_) (a' := ?_) #[true, true, true, true, true, false, false, false, false, false, false, false, false, false, false, false, false, false] rfl rfl (any_of HT_.out (by kernel_rfl)) (fun _ _ _ h => h) (Or.inl ⟨by rfl, ?_⟩) ?_ ?_
        rotate_left
        · intro w'
          go_simp
          with_reducible rfl
        rotate_left
        · simp only [Act.put, List.setIfInBounds_toArray, List.set_cons_zero, List.set_cons_succ, i64_w, i32_w]
          rfl
        refine pure_ (i := 5) (N := some 9) (v := ?_) (a' := ?_) #[true, true, true, true, true, true, false, false, false, false, false, false, false, false, false, false, false, false] rfl rfl (any_of HT_.out (by kernel_rfl)) (fun _ _ _ h => h) (Or.inl ⟨by rfl, ?_⟩) ?_ ?_
        rotate_left
        · intro w'
          go_simp
          with_reducible rfl
        rotate_left
        · simp only [Act.put, List.setIfInBounds_toArray, List.set_cons_zero, List.set_cons_succ, i64_w, i32_w]
          rfl
        refine take_ (i := 6) (N := some 10) (v := ?_) (a' := ?_) #[true, true, true, true, true, true, true, false, false, false, false, false, false, false, false, false, false, false] rfl rfl (take_ofW HT_.out HW_.out (by kernel_rfl)) (fun _ _ _ h => h) (Or.inl ⟨by rfl, ?_⟩) hHeld ?_ ?_
        rotate_left
        · rintro w' ⟨s0, s1⟩
          go_simp
          with_reducible rfl
        rotate_left
        · simp only [Act.put, List.setIfInBounds_toArray, List.set_cons_zero, List.set_cons_succ, i64_w, i32_w]
          rfl
        refine one_ (i := 7) (N := some 11) #[true, true, true, true, true, true, true, true, false, false, false, false, false, false, false, false, false, false] rfl rfl (one_of HT_.out (by kernel_rfl)) (by decide) (fun K hK => ?_)
        refine goes_ Tryd.func98 (by kernel_rfl) rfl #[.string a0_1] (by rfl) rfl rfl (by (try simp only [List.map_toArray, List.map_cons, List.map_nil]); first | done | rfl | (simp only [List.length_drop, List.length_take]; rfl)) ?_
        with_reducible refine (head_text.calls k a0_1 true _ A4.out).mono ?_
        rintro e w' ⟨rfl, ⟨nd, rfl⟩⟩
        refine ⟨_, rfl, ?_⟩
        refine hK.out _ _ ⟨(blk_cell BK605.out 0).trans rfl, (blk_cell BK605.out 1).trans rfl⟩ (fun hHeld => ?_)
        clear hK K
        refine norm_ (a' := ?_) ?_ ?_
        rotate_left
        · show Act.put _ (some 11) _ = _
          simp only [Act.put, List.setIfInBounds_toArray, List.set_cons_zero, List.set_cons_succ, i64_w, i32_w]
          rfl
        refine pure_ (i := 8) (N := some 12) (v := ?_) (a' := ?_) #[true, true, true, true, true, true, true, true, true, false, false, false, false, false, false, false, false, false] rfl rfl (any_of HT_.out (by kernel_rfl)) (fun _ _ _ h => h) (Or.inl ⟨by rfl, ?_⟩) ?_ ?_
        rotate_left
        · intro w'
          go_simp
          with_reducible rfl
        rotate_left
        · simp only [Act.put, List.setIfInBounds_toArray, List.set_cons_zero, List.set_cons_succ, i64_w, i32_w]
          rfl
        refine pure_ (i := 9) (N := some 13) (v := ?_) (a' := ?_) #[true, true, true, true, true, true, true, true, true, true, false, false, false, false, false, false, false, false] rfl rfl (any_of HT_.out (by kernel_rfl)) (fun _ _ _ h => h) (Or.inl ⟨by rfl, ?_⟩) ?_ ?_
        rotate_left
        · intro w'
          go_simp
          with_reducible rfl
        rotate_left
        · simp only [Act.put, List.setIfInBounds_toArray, List.set_cons_zero, List.set_cons_succ, i64_w, i32_w]
          rfl
        refine pure_ (i := 10) (N := some 14) (v := ?_) (a' := ?_) #[true, true, true, true, true, true, true, true, true, true, true, false, false, false, false, false, false, false] rfl rfl (any_of HT_.out (by kernel_rfl)) (fun _ _ _ h => h) (Or.inl ⟨by rfl, ?_⟩) ?_ ?_
        rotate_left
        · intro w'
          go_simp
          with_reducible rfl
        rotate_left
        · simp only [Act.put, List.setIfInBounds_toArray, List.set_cons_zero, List.set_cons_succ, i64_w, i32_w]
          rfl
        refine pure_ (i := 11) (N := some 15) (v := ?_) (a' := ?_) #[true, true, true, true, true, true, true, true, true, true, true, true, false, false, false, false, false, false] rfl rfl (any_of HT_.out (by kernel_rfl)) (fun _ _ _ h => h) (Or.inl ⟨by rfl, ?_⟩) ?_ ?_
        rotate_left
        · intro w'
          go_simp
          with_reducible rfl
        rotate_left
        · simp only [Act.put, List.setIfInBounds_toArray, List.set_cons_zero, List.set_cons_succ, i64_w, i32_w]
          rfl
        refine pure_ (i := 14) (N := some 18) (v := ?_) (a' := ?_) #[true, true, true, true, true, true, true, true, true, true, true, true, false, false, true, false, false, false] rfl rfl (any_of HT_.out (by kernel_rfl)) (fun _ _ _ h => h) (Or.inl ⟨by rfl, ?_⟩) ?_ ?_
        rotate_left
        · intro w'
          go_simp
          with_reducible rfl
        rotate_left
        · simp only [Act.put, List.setIfInBounds_toArray, List.set_cons_zero, List.set_cons_succ, i64_w, i32_w]
          rfl
        refine take_ (i := 12) (N := some 16) (v := ?_) (a' := ?_) #[true, true, true, true, true, true, true, true, true, true, true, true, true, false, true, false, false, false] rfl rfl (take_ofW HT_.out HW_.out (by kernel_rfl)) (fun _ _ _ h => h) (Or.inl ⟨by rfl, ?_⟩) hHeld ?_ ?_
        rotate_left
        · rintro w' ⟨s0, s1⟩
          go_simp
          with_reducible rfl
        rotate_left
        · simp only [Act.put, List.setIfInBounds_toArray, List.set_cons_zero, List.set_cons_succ, i64_w, i32_w]
          rfl
        refine take_ (i := 15) (N := some 19) (v := ?_) (a' := ?_) #[true, true, true, true, true, true, true, true, true, true, true, true, true, false, true, true, false, false] rfl rfl (take_ofW HT_.out HW_.out (by kernel_rfl)) (fun _ _ _ h => h) (Or.inl ⟨by rfl, ?_⟩) hHeld ?_ ?_
        rotate_left
        · rintro w' ⟨s0, s1⟩
          go_simp
          with_reducible rfl
        rotate_left
        · simp only [Act.put, List.setIfInBounds_toArray, List.set_cons_zero, List.set_cons_succ, i64_w, i32_w]
          rfl
        refine one_ (i := 13) (N := some 17) #[true, true, true, true, true, true, true, true, true, true, true, true, true, true, true, true, false, false] rfl rfl (one_of HT_.out (by kernel_rfl)) (by decide) (fun K hK => ?_)
        refine goes_ Tryd.func91 (by kernel_rfl) rfl #[.string a0_1] (by rfl) rfl rfl (by (try simp only [List.map_toArray, List.map_cons, List.map_nil]); first | done | rfl | (simp only [List.length_drop, List.length_take]; rfl)) ?_
        with_reducible refine (head_trim.calls a0_1 t608 _ A6.out).mono ?_
        rintro e w13 ⟨rfl, hb⟩
        refine ⟨_, rfl, ?_⟩
        have n0_ := Aside0.mk (blk_below (g := gb605) (o := .cells #[.string a0_0, .string a0_1] 60 (0, 0)) (by (with_reducible repeat (first | refine blk_drewN ?_ _ | refine blk_drew ?_ | refine blk_alloc ?_ _)); exact BK605.out) hb)
        have n1_ := Aside0.mk (below_step (by repeat (first | (with_reducible first | exact HB.out | apply below_alloc | apply pw_below_drewN | apply below_drew1 | refine below_set ?_ GE605.out) | exact HB.out)) hb)
        have nc_ := Aside0.mk (blk_below (g := cb) (o := .cells #[.bool false] 4 (0, 0)) (by (with_reducible repeat (first | refine blk_drewN ?_ _ | refine blk_drew ?_ | refine blk_alloc ?_ _)); exact BC.out) hb)
        clear BC
        have BC := nc_
        clear nc_
        clear BK605
        clear HB
        have BK605 := n0_
        have HB := n1_
        clear n0_ n1_
        (try clear hb)
        (try clear hb2)
        (try clear hk)
        (try clear hi)
        refine hK.out _ _ ⟨(blk_cell BK605.out 0).trans rfl, (blk_cell BK605.out 1).trans rfl⟩ (fun hHeld => ?_)
        clear hK K
        refine norm_ (a' := ?_) ?_ ?_
        rotate_left
        · show Act.put _ (some 17) _ = _
          simp only [Act.put, List.setIfInBounds_toArray, List.set_cons_zero, List.set_cons_succ, i64_w, i32_w]
          rfl
        refine pure_ (i := 16) (N := some 20) (v := ?_) (a' := ?_) #[true, true, true, true, true, true, true, true, true, true, true, true, true, true, true, true, true, false] rfl rfl (any_of HT_.out (by kernel_rfl)) (fun _ _ _ h => h) (Or.inl ⟨by rfl, ?_⟩) ?_ ?_
        rotate_left
        · intro w'
          go_simp
          with_reducible rfl
        rotate_left
        · simp only [Act.put, List.setIfInBounds_toArray, List.set_cons_zero, List.set_cons_succ, i64_w, i32_w]
          rfl
        refine pure_ (i := 17) (N := some 21) (v := ?_) (a' := ?_) #[true, true, true, true, true, true, true, true, true, true, true, true, true, true, true, true, true, true] rfl rfl (any_of HT_.out (by kernel_rfl)) (fun _ _ _ h => h) (Or.inl ⟨by rfl, ?_⟩) ?_ ?_
        rotate_left
        · intro w'
          go_simp
          with_reducible rfl
        rotate_left
        · simp only [Act.put, List.setIfInBounds_toArray, List.set_cons_zero, List.set_cons_succ, i64_w, i32_w]
          rfl
        refine done_ (done_of HT_.out (by kernel_rfl)) ?_
        (try obtain ⟨c0, f0⟩ := cell_of_new BC.out)
        go_wp2
        refine bodyPost_ret (v := .bool false) ?_ rfl ⟨rfl, ?_⟩
        · simp [results, Tryd.f44, go_sem, c0]
        · exact (by repeat (first | (with_reducible first | exact HB.out | apply below_alloc | apply pw_below_drewN | apply below_drew1 | (refine Below.setCell (p := ⟨cb, 0, none⟩) ?_ (by omega) _)) | exact HB.out))
    · replace c5 := Bool.eq_false_iff.mpr c5
      subst c5
      have H1 : (some false) = some r1 := by rw [if_neg (show ¬ (false = true) by decide)] at H; exact H
      clear H
      have H := H1
      clear H1
      obtain rfl := Option.some.inj H
      go_enter Tryd.func44, Tryd.ntmps44
      try go_wp2_with (first | ((with_reducible refine gate_dst (N := 1) rfl ?_); refine box_event ?hg (N := 1) ?hd (cs := #[.string a0_0, .string a0_1]) (t := 60) ?hr ?_; (case hd => rfl); (case hg => rfl); (case hr => first | (go_simp; done) | (go_simp; rfl)); intro gb605 hg w14 hbox hb; have n0_ := Aside0.mk (below_step (by repeat (first | (with_reducible first | exact HB.out | apply below_alloc | apply pw_below_drewN | apply below_drew1) | exact HB.out)) hb); have n1_ := Aside0.mk (hbox); have n2_ := Aside0.mk ((by rw [hg]; exact (below_size (by repeat (first | (with_reducible first | exact HB.out | apply below_alloc | apply pw_below_drewN | apply below_drew1) | exact HB.out))) : w.heap.size ≤ gb605)); have n3_ := Aside0.mk ((by rw [hg]; exact (below_size (by repeat (first | (with_reducible first | exact HB.out | apply below_alloc | apply pw_below_drewN | apply below_drew1) | exact HB.out))) : w.heap.size ≤ gb605)); clear HB; have HB := n0_; have BK605 := n1_; have GW605 := n2_; have GE605 := n3_; clear n0_ n1_ n2_ n3_; clear hb hbox hg))
      have hcs := HB.out.size
      have n0_ := Aside0.mk (blk_drew (blk_alloc BK605.out (.cells #[.bool false] 4)))
      have n1_ := Aside0.mk (below_drew1 (below_alloc (o := .cells #[.bool false] 4) HB.out))
      have BC := Aside0.mk (blk_drew (World.alloc_heap_new w14 (.cells #[.bool false] 4)))
      clear BK605
      clear HB
      have BK605 := n0_
      have HB := n1_
      clear n0_ n1_
      generalize w14.heap.size = cb at BC hcs ⊢
      refine start_ (n := 18) (S := fun w' => w'.cell? ⟨gb605, 0, none⟩ = some (.string a0_0) ∧ w'.cell? ⟨gb605, 1, none⟩ = some (.string a0_1)) (ds := []) #[false, false, false, false, false, false, false, false, false, false, false, false, false, false, false, false, false, false] (by kernel_rfl) rfl rfl ⟨(blk_cell BK605.out 0).trans rfl, (blk_cell BK605.out 1).trans rfl⟩ (fun hHeld => ?_); refine with_tabW right1.tab1 right1.bits1 (fun HT_ HW_ => ?_)
      generalize (w14.alloc (.cells #[.bool false] 4)).drew = w15 at BK605 HB BC hHeld ⊢
      refine pure_ (i := 0) (N := some 4) (v := ?_) (a' := ?_) #[true, false, false, false, false, false, false, false, false, false, false, false, false, false, false, false, false, false] rfl rfl (any_of HT_.out (by kernel_rfl)) (fun _ _ _ h => h) (Or.inl ⟨by rfl, ?_⟩) ?_ ?_
      rotate_left
      · intro w'
        go_simp
        with_reducible rfl
      rotate_left
      · simp only [Act.put, List.setIfInBounds_toArray, List.set_cons_zero, List.set_cons_succ, i64_w, i32_w]
        rfl
      refine take_ (i := 1) (N := some 5) (v := ?_) (a' := ?_) #[true, true, false, false, false, false, false, false, false, false, false, false, false, false, false, false, false, false] rfl rfl (take_ofW HT_.out HW_.out (by kernel_rfl)) (fun _ _ _ h => h) (Or.inl ⟨by rfl, ?_⟩) hHeld ?_ ?_
      rotate_left
      · rintro w' ⟨s0, s1⟩
        go_simp
        with_reducible rfl
      rotate_left
      · simp only [Act.put, List.setIfInBounds_toArray, List.set_cons_zero, List.set_cons_succ, i64_w, i32_w]
        rfl
      refine one_ (i := 2) (N := some 6) #[true, true, true, false, false, false, false, false, false, false, false, false, false, false, false, false, false, false] rfl rfl (one_of HT_.out (by kernel_rfl)) (by decide) (fun K hK => ?_)
      refine goes_ Tryd.func97 (by kernel_rfl) rfl #[.string a0_0] (by rfl) rfl rfl (by (try simp only [List.map_toArray, List.map_cons, List.map_nil]); first | done | rfl | (simp only [List.length_drop, List.length_take]; rfl)) ?_
      with_reducible refine (head_named.calls k a0_0 true _ A2.out).mono ?_
      rintro e w' ⟨rfl, ⟨nd, rfl⟩⟩
      refine ⟨_, rfl, ?_⟩
      refine hK.out _ _ ⟨(blk_cell BK605.out 0).trans rfl, (blk_cell BK605.out 1).trans rfl⟩ (fun hHeld => ?_)
      clear hK K
      refine norm_ (a' := ?_) ?_ ?_
      rotate_left
      · show Act.put _ (some 6) _ = _
        simp only [Act.put, List.setIfInBounds_toArray, List.set_cons_zero, List.set_cons_succ, i64_w, i32_w]
        rfl
      refine pure_ (i := 3) (N := some 7) (v := ?_) (a' := ?_) #[true, true, true, true, false, false, false, false, false, false, false, false, false, false, false, false, false, false] rfl rfl (any_of HT_.out (by kernel_rfl)) (fun _ _ _ h => h) (Or.inl ⟨by rfl, ?_⟩) ?_ ?_
      rotate_left
      · intro w'
        go_simp
        with_reducible rfl
      rotate_left
      · simp only [Act.put, List.setIfInBounds_toArray, List.set_cons_zero, List.set_cons_succ, i64_w, i32_w]
        rfl
      refine pure_ (i := 4) (N := some 8) (v := ?_) (a' := ?_) #[true, true, true, true, true, false, false, false, false, false, false, false, false, false, false, false, false, false] rfl rfl (any_of HT_.out (by kernel_rfl)) (fun _ _ _ h => h) (Or.inl ⟨by rfl, ?_⟩) ?_ ?_
      rotate_left
      · intro w'
        go_simp
        with_reducible rfl
      rotate_left
      · simp only [Act.put, List.setIfInBounds_toArray, List.set_cons_zero, List.set_cons_succ, i64_w, i32_w]
        rfl
      refine pure_ (i := 5) (N := some 9) (v := ?_) (a' := ?_) #[true, true, true, true, true, true, false, false, false, false, false, false, false, false, false, false, false, false] rfl rfl (any_of HT_.out (by kernel_rfl)) (fun _ _ _ h => h) (Or.inl ⟨by rfl, ?_⟩) ?_ ?_
      rotate_left
      · intro w'
        go_simp
        with_reducible rfl
      rotate_left
      · simp only [Act.put, List.setIfInBounds_toArray, List.set_cons_zero, List.set_cons_succ, i64_w, i32_w]
        rfl
      refine take_ (i := 6) (N := some 10) (v := ?_) (a' := ?_) #[true, true, true, true, true, true, true, false, false, false, false, false, false, false, false, false, false, false] rfl rfl (take_ofW HT_.out HW_.out (by kernel_rfl)) (fun _ _ _ h => h) (Or.inl ⟨by rfl, ?_⟩) hHeld ?_ ?_
      rotate_left
      · rintro w' ⟨s0, s1⟩
        go_simp
        with_reducible rfl
      rotate_left
      · simp only [Act.put, List.setIfInBounds_toArray, List.set_cons_zero, List.set_cons_succ, i64_w, i32_w]
        rfl
      refine one_ (i := 7) (N := some 11) #[true, true, true, true, true, true, true, true, false, false, false, false, false, false, false, false, false, false] rfl rfl (one_of HT_.out (by kernel_rfl)) (by decide) (fun K hK => ?_)
      refine goes_ Tryd.func98 (by kernel_rfl) rfl #[.string a0_1] (by rfl) rfl rfl (by (try simp only [List.map_toArray, List.map_cons, List.map_nil]); first | done | rfl | (simp only [List.length_drop, List.length_take]; rfl)) ?_
      with_reducible refine (head_text.calls k a0_1 false _ A4.out).mono ?_
      rintro e w' ⟨rfl, ⟨nd, rfl⟩⟩
      refine ⟨_, rfl, ?_⟩
      refine hK.out _ _ ⟨(blk_cell BK605.out 0).trans rfl, (blk_cell BK605.out 1).trans rfl⟩ (fun hHeld => ?_)
      clear hK K
      refine norm_ (a' := ?_) ?_ ?_
      rotate_left
      · show Act.put _ (some 11) _ = _
        simp only [Act.put, List.setIfInBounds_toArray, List.set_cons_zero, List.set_cons_succ, i64_w, i32_w]
        rfl
      refine pure_ (i := 8) (N := some 12) (v := ?_) (a' := ?_) #[true, true, true, true, true, true, true, true, true, false, false, false, false, false, false, false, false, false] rfl rfl (any_of HT_.out (by kernel_rfl)) (fun _ _ _ h => h) (Or.inl ⟨by rfl, ?_⟩) ?_ ?_
      rotate_left
      · intro w'
        go_simp
        with_reducible rfl
      rotate_left
      · simp only [Act.put, List.setIfInBounds_toArray, List.set_cons_zero, List.set_cons_succ, i64_w, i32_w]
        rfl
      refine pure_ (i := 9) (N := some 13) (v := ?_) (a' := ?_) #[true, true, true, true, true, true, true, true, true, true, false, false, false, false, false, false, false, false] rfl rfl (any_of HT_.out (by kernel_rfl)) (fun _ _ _ h => h) (Or.inl ⟨by rfl, ?_⟩) ?_ ?_
      rotate_left
      · intro w'
        go_simp
        with_reducible rfl
      rotate_left
      · simp only [Act.put, List.setIfInBounds_toArray, List.set_cons_zero, List.set_cons_succ, i64_w, i32_w]
        rfl
      refine pure_ (i := 10) (N := some 14) (v := ?_) (a' := ?_) #[true, true, true, true, true, true, true, true, true, true, true, false, false, false, false, false, false, false] rfl rfl (any_of HT_.out (by kernel_rfl)) (fun _ _ _ h => h) (Or.inl ⟨by rfl, ?_⟩) ?_ ?_
      rotate_left
      · intro w'
        go_simp
        with_reducible rfl
      rotate_left
      · simp only [Act.put, List.setIfInBounds_toArray, List.set_cons_zero, List.set_cons_succ, i64_w, i32_w]
        rfl
      refine pure_ (i := 11) (N := some 15) (v := undef) (a' := ?_) #[true, true, true, true, true, true, true, true, true, true, true, true, false, false, false, false, false, false] rfl rfl (any_of HT_.out (by kernel_rfl)) (fun _ _ _ h => h) (Or.inr ⟨by rfl, rfl⟩) ?_ ?_
      rotate_left
      · simp only [Act.put, List.setIfInBounds_toArray, List.set_cons_zero, List.set_cons_succ, i64_w, i32_w]
        rfl
      refine pure_ (i := 12) (N := some 16) (v := undef) (a' := ?_) #[true, true, true, true, true, true, true, true, true, true, true, true, true, false, false, false, false, false] rfl rfl (any_of HT_.out (by kernel_rfl)) (fun _ _ _ h => h) (Or.inr ⟨by rfl, rfl⟩) ?_ ?_
      rotate_left
      · simp only [Act.put, List.setIfInBounds_toArray, List.set_cons_zero, List.set_cons_succ, i64_w, i32_w]
        rfl
      refine pure_ (i := 13) (N := some 17) (v := undef) (a' := ?_) #[true, true, true, true, true, true, true, true, true, true, true, true, true, true, false, false, false, false] rfl rfl (any_of HT_.out (by kernel_rfl)) (fun _ _ _ h => h) (Or.inr ⟨by rfl, rfl⟩) ?_ ?_
      rotate_left
      · simp only [Act.put, List.setIfInBounds_toArray, List.set_cons_zero, List.set_cons_succ, i64_w, i32_w]
        rfl
      refine pure_ (i := 14) (N := some 18) (v := undef) (a' := ?_) #[true, true, true, true, true, true, true, true, true, true, true, true, true, true, true, false, false, false] rfl rfl (any_of HT_.out (by kernel_rfl)) (fun _ _ _ h => h) (Or.inr ⟨by rfl, rfl⟩) ?_ ?_
      rotate_left
      · simp only [Act.put, List.setIfInBounds_toArray, List.set_cons_zero, List.set_cons_succ, i64_w, i32_w]
        rfl
      refine pure_ (i := 15) (N := some 19) (v := undef) (a' := ?_) #[true, true, true, true, true, true, true, true, true, true, true, true, true, true, true, true, false, false] rfl rfl (any_of HT_.out (by kernel_rfl)) (fun _ _ _ h => h) (Or.inr ⟨by rfl, rfl⟩) ?_ ?_
      rotate_left
      · simp only [Act.put, List.setIfInBounds_toArray, List.set_cons_zero, List.set_cons_succ, i64_w, i32_w]
        rfl
      refine pure_ (i := 16) (N := some 20) (v := undef) (a' := ?_) #[true, true, true, true, true, true, true, true, true, true, true, true, true, true, true, true, true, false] rfl rfl (any_of HT_.out (by kernel_rfl)) (fun _ _ _ h => h) (Or.inr ⟨by rfl, rfl⟩) ?_ ?_
      rotate_left
      · simp only [Act.put, List.setIfInBounds_toArray, List.set_cons_zero, List.set_cons_succ, i64_w, i32_w]
        rfl
      refine pure_ (i := 17) (N := some 21) (v := ?_) (a' := ?_) #[true, true, true, true, true, true, true, true, true, true, true, true, true, true, true, true, true, true] rfl rfl (any_of HT_.out (by kernel_rfl)) (fun _ _ _ h => h) (Or.inl ⟨by rfl, ?_⟩) ?_ ?_
      rotate_left
      · intro w'
        go_simp
        with_reducible rfl
      rotate_left
      · simp only [Act.put, List.setIfInBounds_toArray, List.set_cons_zero, List.set_cons_succ, i64_w, i32_w]
        rfl
      refine done_ (done_of HT_.out (by kernel_rfl)) ?_
      (try obtain ⟨c0, f0⟩ := cell_of_new BC.out)
      go_wp2
      refine bodyPost_ret (v := .bool false) ?_ rfl ⟨rfl, ?_⟩
      · simp [results, Tryd.f44, go_sem, c0]
      · exact (by repeat (first | (with_reducible first | exact HB.out | apply below_alloc | apply pw_below_drewN | apply below_drew1 | (refine Below.setCell (p := ⟨cb, 0, none⟩) ?_ (by omega) _)) | exact HB.out))
  · replace c3 := Bool.eq_false_iff.mpr c3
    subst c3
    have H1 : (some false) = some r1 := by rw [if_neg (show ¬ (false = true) by decide)] at H; exact H
    clear H
    have H := H1
    clear H1
    obtain rfl := Option.some.inj H
    go_enter Tryd.func44, Tryd.ntmps44
    try go_wp2_with (first | ((with_reducible refine gate_dst (N := 1) rfl ?_); refine box_event ?hg (N := 1) ?hd (cs := #[.string a0_0, .string a0_1]) (t := 60) ?hr ?_; (case hd => rfl); (case hg => rfl); (case hr => first | (go_simp; done) | (go_simp; rfl)); intro gb605 hg w16 hbox hb; have n0_ := Aside0.mk (below_step (by repeat (first | (with_reducible first | exact HB.out | apply below_alloc | apply pw_below_drewN | apply below_drew1) | exact HB.out)) hb); have n1_ := Aside0.mk (hbox); have n2_ := Aside0.mk ((by rw [hg]; exact (below_size (by repeat (first | (with_reducible first | exact HB.out | apply below_alloc | apply pw_below_drewN | apply below_drew1) | exact HB.out))) : w.heap.size ≤ gb605)); have n3_ := Aside0.mk ((by rw [hg]; exact (below_size (by repeat (first | (with_reducible first | exact HB.out | apply below_alloc | apply pw_below_drewN | apply below_drew1) | exact HB.out))) : w.heap.size ≤ gb605)); clear HB; have HB := n0_; have BK605 := n1_; have GW605 := n2_; have GE605 := n3_; clear n0_ n1_ n2_ n3_; clear hb hbox hg))
    have hcs := HB.out.size
    have n0_ := Aside0.mk (blk_drew (blk_alloc BK605.out (.cells #[.bool false] 4)))
    have n1_ := Aside0.mk (below_drew1 (below_alloc (o := .cells #[.bool false] 4) HB.out))
    have BC := Aside0.mk (blk_drew (World.alloc_heap_new w16 (.cells #[.bool false] 4)))
    clear BK605
    clear HB
    have BK605 := n0_
    have HB := n1_
    clear n0_ n1_
    generalize w16.heap.size = cb at BC hcs ⊢
    refine start_ (n := 18) (S := fun w' => w'.cell? ⟨gb605, 0, none⟩ = some (.string a0_0) ∧ w'.cell? ⟨gb605, 1, none⟩ = some (.string a0_1)) (ds := []) #[false, false, false, false, false, false, false, false, false, false, false, false, false, false, false, false, false, false] (by kernel_rfl) rfl rfl ⟨(blk_cell BK605.out 0).trans rfl, (blk_cell BK605.out 1).trans rfl⟩ (fun hHeld => ?_); refine with_tabW right1.tab1 right1.bits1 (fun HT_ HW_ => ?_)
    generalize (w16.alloc (.cells #[.bool false] 4)).drew = w17 at BK605 HB BC hHeld ⊢
    refine pure_ (i := 0) (N := some 4) (v := ?_) (a' := ?_) #[true, false, false, false, false, false, false, false, false, false, false, false, false, false, false, false, false, false] rfl rfl (any_of HT_.out (by kernel_rfl)) (fun _ _ _ h => h) (Or.inl ⟨by rfl, ?_⟩) ?_ ?_
    rotate_left
    · intro w'
      go_simp
      with_reducible rfl
    rotate_left
    · simp only [Act.put, List.setIfInBounds_toArray, List.set_cons_zero, List.set_cons_succ, i64_w, i32_w]
      rfl
    refine take_ (i := 1) (N := some 5) (v := ?_) (a' := ?_) #[true, true, false, false, false, false, false, false, false, false, false, false, false, false, false, false, false, false] rfl rfl (take_ofW HT_.out HW_.out (by kernel_rfl)) (fun _ _ _ h => h) (Or.inl ⟨by rfl, ?_⟩) hHeld ?_ ?_
    rotate_left
    · rintro w' ⟨s0, s1⟩
      go_simp
      with_reducible rfl
    rotate_left
    · simp only [Act.put, List.setIfInBounds_toArray, List.set_cons_zero, List.set_cons_succ, i64_w, i32_w]
      rfl
    refine one_ (i := 2) (N := some 6) #[true, true, true, false, false, false, false, false, false, false, false, false, false, false, false, false, false, false] rfl rfl (one_of HT_.out (by kernel_rfl)) (by decide) (fun K hK => ?_)
    refine goes_ Tryd.func97 (by kernel_rfl) rfl #[.string a0_0] (by rfl) rfl rfl (by (try simp only [List.map_toArray, List.map_cons, List.map_nil]); first | done | rfl | (simp only [List.length_drop, List.length_take]; rfl)) ?_
    with_reducible refine (head_named.calls k a0_0 false _ A2.out).mono ?_
    rintro e w' ⟨rfl, ⟨nd, rfl⟩⟩
    refine ⟨_, rfl, ?_⟩
    refine hK.out _ _ ⟨(blk_cell BK605.out 0).trans rfl, (blk_cell BK605.out 1).trans rfl⟩ (fun hHeld => ?_)
    clear hK K
    refine norm_ (a' := ?_) ?_ ?_
    rotate_left
    · show Act.put _ (some 6) _ = _
      simp only [Act.put, List.setIfInBounds_toArray, List.set_cons_zero, List.set_cons_succ, i64_w, i32_w]
      rfl
    refine pure_ (i := 3) (N := some 7) (v := ?_) (a' := ?_) #[true, true, true, true, false, false, false, false, false, false, false, false, false, false, false, false, false, false] rfl rfl (any_of HT_.out (by kernel_rfl)) (fun _ _ _ h => h) (Or.inl ⟨by rfl, ?_⟩) ?_ ?_
    rotate_left
    · intro w'
      go_simp
      with_reducible rfl
    rotate_left
    · simp only [Act.put, List.setIfInBounds_toArray, List.set_cons_zero, List.set_cons_succ, i64_w, i32_w]
      rfl
    refine pure_ (i := 4) (N := some 8) (v := ?_) (a' := ?_) #[true, true, true, true, true, false, false, false, false, false, false, false, false, false, false, false, false, false] rfl rfl (any_of HT_.out (by kernel_rfl)) (fun _ _ _ h => h) (Or.inl ⟨by rfl, ?_⟩) ?_ ?_
    rotate_left
    · intro w'
      go_simp
      with_reducible rfl
    rotate_left
    · simp only [Act.put, List.setIfInBounds_toArray, List.set_cons_zero, List.set_cons_succ, i64_w, i32_w]
      rfl
    refine pure_ (i := 5) (N := some 9) (v := undef) (a' := ?_) #[true, true, true, true, true, true, false, false, false, false, false, false, false, false, false, false, false, false] rfl rfl (any_of HT_.out (by kernel_rfl)) (fun _ _ _ h => h) (Or.inr ⟨by rfl, rfl⟩) ?_ ?_
    rotate_left
    · simp only [Act.put, List.setIfInBounds_toArray, List.set_cons_zero, List.set_cons_succ, i64_w, i32_w]
      rfl
    refine pure_ (i := 6) (N := some 10) (v := undef) (a' := ?_) #[true, true, true, true, true, true, true, false, false, false, false, false, false, false, false, false, false, false] rfl rfl (any_of HT_.out (by kernel_rfl)) (fun _ _ _ h => h) (Or.inr ⟨by rfl, rfl⟩) ?_ ?_
    rotate_left
    · simp only [Act.put, List.setIfInBounds_toArray, List.set_cons_zero, List.set_cons_succ, i64_w, i32_w]
      rfl
    refine pure_ (i := 7) (N := some 11) (v := undef) (a' := ?_) #[true, true, true, true, true, true, true, true, false, false, false, false, false, false, false, false, false, false] rfl rfl (any_of HT_.out (by kernel_rfl)) (fun _ _ _ h => h) (Or.inr ⟨by rfl, rfl⟩) ?_ ?_
    rotate_left
    · simp only [Act.put, List.setIfInBounds_toArray, List.set_cons_zero, List.set_cons_succ, i64_w, i32_w]
      rfl
    refine pure_ (i := 8) (N := some 12) (v := undef) (a' := ?_) #[true, true, true, true, true, true, true, true, true, false, false, false, false, false, false, false, false, false] rfl rfl (any_of HT_.out (by kernel_rfl)) (fun _ _ _ h => h) (Or.inr ⟨by rfl, rfl⟩) ?_ ?_
    rotate_left
    · simp only [Act.put, List.setIfInBounds_toArray, List.set_cons_zero, List.set_cons_succ, i64_w, i32_w]
      rfl
    refine pure_ (i := 9) (N := some 13) (v := ?_) (a' := ?_) #[true, true, true, true, true, true, true, true, true, true, false, false, false, false, false, false, false, false] rfl rfl (any_of HT_.out (by kernel_rfl)) (fun _ _ _ h => h) (Or.inl ⟨by rfl, ?_⟩) ?_ ?_
    rotate_left
    · intro w'
      go_simp
      with_reducible rfl
    rotate_left
    · simp only [Act.put, List.setIfInBounds_toArray, List.set_cons_zero, List.set_cons_succ, i64_w, i32_w]
      rfl
    refine pure_ (i := 10) (N := some 14) (v := ?_) (a' := ?_) #[true, true, true, true, true, true, true, true, true, true, true, false, false, false, false, false, false, false] rfl rfl (any_of HT_.out (by kernel_rfl)) (fun _ _ _ h => h) (Or.inl ⟨by rfl, ?_⟩) ?_ ?_
    rotate_left
    · intro w'
      go_simp
      with_reducible rfl
    rotate_left
    · simp only [Act.put, List.setIfInBounds_toArray, List.set_cons_zero, List.set_cons_succ, i64_w, i32_w]
      rfl
    refine pure_ (i := 11) (N := some 15) (v := undef) (a' := ?_) #[true, true, true, true, true, true, true, true, true, true, true, true, false, false, false, false, false, false] rfl rfl (any_of HT_.out (by kernel_rfl)) (fun _ _ _ h => h) (Or.inr ⟨by rfl, rfl⟩) ?_ ?_
    rotate_left
    · simp only [Act.put, List.setIfInBounds_toArray, List.set_cons_zero, List.set_cons_succ, i64_w, i32_w]
      rfl
    refine pure_ (i := 12) (N := some 16) (v := undef) (a' := ?_) #[true, true, true, true, true, true, true, true, true, true, true, true, true, false, false, false, false, false] rfl rfl (any_of HT_.out (by kernel_rfl)) (fun _ _ _ h => h) (Or.inr ⟨by rfl, rfl⟩) ?_ ?_
    rotate_left
    · simp only [Act.put, List.setIfInBounds_toArray, List.set_cons_zero, List.set_cons_succ, i64_w, i32_w]
      rfl
    refine pure_ (i := 13) (N := some 17) (v := undef) (a' := ?_) #[true, true, true, true, true, true, true, true, true, true, true, true, true, true, false, false, false, false] rfl rfl (any_of HT_.out (by kernel_rfl)) (fun _ _ _ h => h) (Or.inr ⟨by rfl, rfl⟩) ?_ ?_
    rotate_left
    · simp only [Act.put, List.setIfInBounds_toArray, List.set_cons_zero, List.set_cons_succ, i64_w, i32_w]
      rfl
    refine pure_ (i := 14) (N := some 18) (v := undef) (a' := ?_) #[true, true, true, true, true, true, true, true, true, true, true, true, true, true, true, false, false, false] rfl rfl (any_of HT_.out (by kernel_rfl)) (fun _ _ _ h => h) (Or.inr ⟨by rfl, rfl⟩) ?_ ?_
    rotate_left
    · simp only [Act.put, List.setIfInBounds_toArray, List.set_cons_zero, List.set_cons_succ, i64_w, i32_w]
      rfl
    refine pure_ (i := 15) (N := some 19) (v := undef) (a' := ?_) #[true, true, true, true, true, true, true, true, true, true, true, true, true, true, true, true, false, false] rfl rfl (any_of HT_.out (by kernel_rfl)) (fun _ _ _ h => h) (Or.inr ⟨by rfl, rfl⟩) ?_ ?_
    rotate_left
    · simp only [Act.put, List.setIfInBounds_toArray, List.set_cons_zero, List.set_cons_succ, i64_w, i32_w]
      rfl
    refine pure_ (i := 16) (N := some 20) (v := undef) (a' := ?_) #[true, true, true, true, true, true, true, true, true, true, true, true, true, true, true, true, true, false] rfl rfl (any_of HT_.out (by kernel_rfl)) (fun _ _ _ h => h) (Or.inr ⟨by rfl, rfl⟩) ?_ ?_
    rotate_left
    · simp only [Act.put, List.setIfInBounds_toArray, List.set_cons_zero, List.set_cons_succ, i64_w, i32_w]
      rfl
    refine pure_ (i := 17) (N := some 21) (v := ?_) (a' := ?_) #[true, true, true, true, true, true, true, true, true, true, true, true, true, true, true, true, true, true] rfl rfl (any_of HT_.out (by kernel_rfl)) (fun _ _ _ h => h) (Or.inl ⟨by rfl, ?_⟩) ?_ ?_
    rotate_left
    · intro w'
      go_simp
      with_reducible rfl
    rotate_left
    · simp only [Act.put, List.setIfInBounds_toArray, List.set_cons_zero, List.set_cons_succ, i64_w, i32_w]
      rfl
    refine done_ (done_of HT_.out (by kernel_rfl)) ?_
    (try obtain ⟨c0, f0⟩ := cell_of_new BC.out)
    go_wp2
    refine bodyPost_ret (v := .bool false) ?_ rfl ⟨rfl, ?_⟩
    · simp [results, Tryd.f44, go_sem, c0]
    · exact (by repeat (first | (with_reducible first | exact HB.out | apply below_alloc | apply pw_below_drewN | apply below_drew1 | (refine Below.setCell (p := ⟨cb, 0, none⟩) ?_ (by omega) _)) | exact HB.out))


theorem head_Right.calls (a0 a1 : ByteArray) (r : Bool) (w : World) (hG : Glob w) (h : head_Right.f a0 a1 = some r) :
    Calls Tryd.prog 44 #[.agg #[.string a0, .string a1]] w fun e w' => e = .returned (.bool r) ∧ Below w.heap.size w w' := by
  unfold head_Right.f at h
  by_cases hs : a0.size ≤ 1000000
  · rw [if_pos hs] at h
    by_cases hs1 : a1.size ≤ 1000000
    · rw [if_pos hs1] at h
      have HR := Option.some.inj h
      have hS : head_Show.f a0 a1 = some (Pl.str (Pl.showL (Pl.bs a0) (Pl.bs a1))) := by
        unfold head_Show.f
        rw [if_pos (by omega), if_pos (by omega)]
      have hz : (Pl.str (Pl.showL (Pl.bs a0) (Pl.bs a1))).size ≤ 100000000 := by
        have h1 := Pl.showL_length (Pl.bs a0) (Pl.bs a1)
        rw [Pl.bs_length, Pl.bs_length] at h1
        rw [Pl.str_size]
        omega
      have h1 : right1.f 1000002 a0 a1 = some (Pl.named (Pl.bs a0) && (Pl.textual (Pl.bs a1) && decide (Pl.trim (Pl.bs a1) = Pl.bs a1))) := by
        unfold right1.f
        rw [Pl.headnamed_is a0 (by omega) _ (by omega), Option.bind_some, Pl.headtext_is a1 (by omega) _ (by omega), Option.bind_some, Pl.headtrim_is a1 (by omega), Option.bind_some, Pl.toList_str, Pl.toList_bs]
        cases Pl.named (Pl.bs a0) with
        | false => rfl
        | true =>
          cases Pl.textual (Pl.bs a1) with
          | false => rfl
          | true =>
            by_cases e : Pl.trim (Pl.bs a1) = Pl.bs a1
            · rw [if_pos rfl, if_pos rfl, if_pos e]; simp [e]
            · rw [if_pos rfl, if_pos rfl, if_neg e]; simp [e]
      refine (right_walk 1000002 a0 a1 _ _ w hG hS hz h1).mono ?_
      rintro e w' ⟨rfl, hb⟩
      refine ⟨?_, hb⟩
      rw [← HR]
      unfold Pl.rightL
      simp only [Bool.and_assoc]
    · rw [if_neg hs1] at h; exact absurd h (by simp)
  · rw [if_neg hs] at h; exact absurd h (by simp)
end Go.Proofs.YtlomcmdbbnbciaaDoor.Fn
