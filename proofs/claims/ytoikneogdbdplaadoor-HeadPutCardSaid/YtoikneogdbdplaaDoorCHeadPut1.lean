/- A part of the proof of this sentence: the tables of unicode/utf8 are as the program's text lays them. -/
import Derived.Test.YtoikneogdbdplaaDoorProg
import Derived.Below
import Derived.Deep.Draws
import Derived.Deep.AppendLies
import Derived.Maps.AppendAt
import Derived.OwnWalk
import Derived.Laws.BytesArg
import Derived.Laws.MakeOwn
import Derived.Laws.OwnMore
import Derived.Deep.OwnRows
import Derived.Tactics
import Derived.Lib.ConvBytes
import Derived.Laws.Slices
import Derived.WalkKit
import Derived.KernelRfl
import Derived.RowKit3
import Derived.Deep.LoopGhost
import Derived.Deep.QuietTactic
import Derived.BigQuiet
import Derived.WideLaws
import Derived.Deep.DeepCutAuto
import Derived.Deep.CutBlock
import Derived.Deep.RegionHeld3
import Derived.Laws.Rows
import Derived.Lib.AppendStr
import Derived.ArgAppend
import Derived.Laws.IdiomCopy
import Derived.OrdersHeld
import Derived.Laws.BitsLemmas
import Derived.RowKit
import Derived.Test.YtoikneogdbdplaaDoorCHeadPutWWords
import Derived.Test.YtoikneogdbdplaaDoorCHeadPutWLast
import Derived.Test.YtoikneogdbdplaaDoorCHeadPutWTab
import Derived.Test.YtoikneogdbdplaaDoorCHeadPutWFour
import Derived.Test.YtoikneogdbdplaaDoorCHeadPutWQPut
import Derived.Test.YtoikneogdbdplaaDoorCHeadPutWApart
import Derived.Test.YtoikneogdbdplaaDoorCHeadPutWArr
import Derived.Test.YtoikneogdbdplaaDoorCHeadPutWZeros
import Derived.Test.YtoikneogdbdplaaDoorCHeadPutWFoot
import Derived.Test.YtoikneogdbdplaaDoorCHeadPutWKept
import Derived.Test.YtoikneogdbdplaaDoorCHeadPutWShare
import Derived.Test.YtoikneogdbdplaaDoorCHeadPutWN
import Derived.Test.YtoikneogdbdplaaDoorCHeadPutWFootNe
import Derived.Test.YtoikneogdbdplaaDoorCHeadPutWAt
import Derived.Test.YtoikneogdbdplaaDoorCHeadPutWEqStruct
import Derived.Test.YtoikneogdbdplaaDoorCHeadPutWRepsOne
import Derived.Test.YtoikneogdbdplaaDoorCHeadPutWInv
import Derived.Test.YtoikneogdbdplaaDoorCHeadPutWInvWords
import Derived.Test.YtoikneogdbdplaaDoorCHeadPutWGuard
import Derived.Test.YtoikneogdbdplaaDoorCHeadPutWNEv
import Derived.Test.YtoikneogdbdplaaDoorCHeadPutWMore
import Derived.Test.YtoikneogdbdplaaDoorRows
import Derived.HandedShaped
import Derived.LaidLaws
import Derived.LaidHandle
import Derived.Deep.DeepLaidRun
import Derived.Stop.Joined
import Derived.PinnedBridge
import Derived.Lib.LaidU8
import Derived.ProofKit
import Derived.Shelf.Strings.Builder1
import Derived.Shelf.Strings.Builder2
import Derived.Shelf.Strings.OnBuilder
import Derived.Shelf.Strings.Trim
import Derived.Shelf.Small.Utf8
import Derived.Shelf.Small.Strs
import Derived.Shelf.Strings.BuilderF
import Derived.Shelf.Strings.BuilderK
import Derived.Shelf.Strconv.Itoa0
import Derived.Shelf.Strconv.Itoa1
import Derived.Shelf.LaysM
import Derived.Shelf.Strconv.Itoa2
import Derived.Shelf.Strconv.Itoa3
import Derived.Shelf.Strings.Search1
import Derived.Shelf.Strings.Search2
import Derived.Shelf.Strings.Search3
import Derived.Shelf.Strings.Cut
import Derived.Shelf.Strings.Shaped
import Derived.Shelf.Strings.Runes
import Derived.Shelf.Strings.IndexAny
import Derived.Shelf.Strings.AsciiSet
import Derived.Shelf.Strings.IndexAnyAll
import Derived.Shelf.Unicode.DecodeSlow
import Derived.Shelf.Unicode.DecodeAny
import Derived.Shelf.Unicode.DecodeLast
import Derived.RangeFuncSeq
import Derived.Lib.RuneBytes
import Derived.Lib.DecodeN
import Derived.Lib.FieldsP
import Derived.Lib.Join
import Derived.Laws.RangeAny
import Derived.Shelf.Strings.SlTrimAscii
import Derived.Shelf.Strings.BuilderRune
import Derived.BigCall
import Derived.RangeFuncRecord
import Derived.Lib.SliceRun
import Derived.Shelf.RegionOpenPlain
namespace Go.Proofs.YtoikneogdbdplaaDoor.Fn
def bitsL (n m : Nat) : Array Bool := ((List.range n).map m.testBit).toArray
end Go.Proofs.YtoikneogdbdplaaDoor.Fn
-- written by xprint.py of this session over the kit's printer; not trusted: Lean checks it
namespace Go.Proofs.YtoikneogdbdplaaDoor.Fn
open Go.RowKit Go.Proofs.YtoikneogdbdplaaDoorW.PrintWords Go.Proofs.YtoikneogdbdplaaDoorW.PrintLast Go.Proofs.YtoikneogdbdplaaDoorW.PrintMore
attribute [local go_sem] max2_int min2_int max_two min_two max_three min_three max_four min_four   -- for this text's walks alone
set_option linter.unusedVariables false
set_option linter.unusedSimpArgs false

def errW : Option Int → Value
  | none => .nilIface
  | some c => .iface 0 (.int .i64 c)
theorem errW_none : errW none = .nilIface := rfl
theorem errW_some (c : Int) : errW (some c) = .iface 0 (.int .i64 c) := rfl

theorem nil_ne (l : List UInt8) : l.isEmpty = !(l != []) := by cases l <;> simp
theorem size_lit (a : Array UInt8) : (ByteArray.mk a).size = a.size := rfl

theorem info9 : (Tryd.prog.info? 9).map (fun i => (i.zero, i.size, i.bytes)) = some (some (.string ⟨#[]⟩), 1, 16) := by kernel_rfl
theorem info30 : (Tryd.prog.info? 30).map (fun i => (i.zero, i.size, i.bytes)) = some (some (.agg #[(.string ⟨#[]⟩), (.string ⟨#[]⟩)]), 2, 32) := by kernel_rfl
-- the values' own types
/-! #### struct type 30 -/
structure S30 where
  f0 : ByteArray
  f1 : ByteArray
def z30 : S30 := ⟨(⟨#[]⟩ : ByteArray), (⟨#[]⟩ : ByteArray)⟩
def k30 : Kd S30 := Kd.iso (Kd.pair Kd.string Kd.string) (fun x : S30 => (x.f0, x.f1))
theorem k30_open {w : World} {x : S30} {cs : List Value} (h : k30.K w x cs) : cs = [.string x.f0, .string x.f1] := by
  obtain ⟨_, _, rfl, rfl, rfl⟩ := h
  exact rfl
theorem k30_openM {w : World} {base : Nat} {ok : Nat → Prop} {x : S30} {cs : List Value} (h : k30.M w base ok x cs) : cs = [.string x.f0, .string x.f1] := by
  obtain ⟨_, _, rfl, rfl, rfl⟩ := h
  exact rfl
theorem k30_mkM (w : World) (base : Nat) (ok : Nat → Prop) (x : S30)  : k30.M w base ok x [.string x.f0, .string x.f1] := ⟨[.string x.f0], [.string x.f1], rfl, rfl, rfl⟩
def rd_T30 (xs : List S30) (i : Int) : S30 := xs.getD i.toNat z30
theorem at_T30 {w : World} {A : Option Addr} {n : Nat} {xs : List S30} (h : Kd.C k30 w A n xs) (i : Int) (h0 : 0 ≤ i) (h1 : i < n) : ∃ ad , A = some ad ∧ w.cell? (ad.add (i.toNat * 2)) = some (.string (rd_T30 xs i).f0) ∧ w.cell? ⟨(ad.add (i.toNat * 2)).block, (ad.add (i.toNat * 2)).off + 1, none⟩ = some (.string (rd_T30 xs i).f1) := by
  obtain ⟨ad, c, e, _, hK, hc0⟩ := Kd.C_get h z30 i h0 h1
  have hc : ∀ j u, c[j]? = some u → w.cell? (ad.add (i.toNat * 2 + j)) = some u := hc0
  obtain rfl := k30_open hK
  exact ⟨ad, e, hc 0 _ rfl, by rw [← add_field _ _ 1 (by omega)]; exact hc 1 _ rfl⟩

/-! #### struct type 24 -/
structure S24 where
  f0 : ByteArray
  f1 : ByteArray
def z24 : S24 := ⟨(⟨#[]⟩ : ByteArray), (⟨#[]⟩ : ByteArray)⟩
def k24 : Kd S24 := Kd.iso (Kd.pair Kd.string Kd.string) (fun x : S24 => (x.f0, x.f1))
theorem k24_open {w : World} {x : S24} {cs : List Value} (h : k24.K w x cs) : cs = [.string x.f0, .string x.f1] := by
  obtain ⟨_, _, rfl, rfl, rfl⟩ := h
  exact rfl
theorem k24_mk (w : World) (x : S24)  : k24.K w x [.string x.f0, .string x.f1] := ⟨[.string x.f0], [.string x.f1], rfl, rfl, rfl⟩
def rd_T24 (xs : List S24) (i : Int) : S24 := xs.getD i.toNat z24
theorem at_T24 {w : World} {A : Option Addr} {n : Nat} {xs : List S24} (h : Kd.C k24 w A n xs) (i : Int) (h0 : 0 ≤ i) (h1 : i < n) : ∃ ad , A = some ad ∧ w.cell? (ad.add (i.toNat * 2)) = some (.string (rd_T24 xs i).f0) ∧ w.cell? ⟨(ad.add (i.toNat * 2)).block, (ad.add (i.toNat * 2)).off + 1, none⟩ = some (.string (rd_T24 xs i).f1) := by
  obtain ⟨ad, c, e, _, hK, hc0⟩ := Kd.C_get h z24 i h0 h1
  have hc : ∀ j u, c[j]? = some u → w.cell? (ad.add (i.toNat * 2 + j)) = some u := hc0
  obtain rfl := k24_open hK
  exact ⟨ad, e, hc 0 _ rfl, by rw [← add_field _ _ 1 (by omega)]; exact hc 1 _ rfl⟩

/-! #### struct type 97 -/
structure S97 where
  f0 : ByteArray
  f1 : ByteArray
/-! #### struct type 136 -/
structure S136 where
  f0 : Int
  f1 : ByteArray
/-! #### struct type 104 -/
structure S104 where
  f0 : ByteArray
  f1 : ByteArray
/-! #### struct type 109 -/
structure S109 where
  f0 : Int
  f1 : ByteArray
theorem bw {p : Prop} (h : p := by repeat (first | (with_reducible first | exact HB.out | apply below_alloc | apply pw_below_drewN | apply below_drew1) | exact HB.out)) : p := h
theorem bwS {p : Prop} (h : p := by repeat (first | (with_reducible first | exact HB.out | apply below_alloc | apply pw_below_drewN | apply below_drew1 | refine below_set ?_ (Aside0.out (by assumption))) | exact HB.out)) : p := h
theorem am {p : Prop} (h : p := by (try simp only [List.map_toArray, List.map_cons, List.map_nil]); first | done | rfl | (simp only [List.length_drop, List.length_take]; rfl)) : p := h
theorem cl {p : Prop} (h : p := by first | rfl | (simp; done) | (simp [*]; done) | (simp [nil_ne]; done)) : p := h
theorem bk {p : Prop} (h : p := by (with_reducible repeat (first | refine blk_drewN ?_ _ | refine blk_drew ?_ | refine blk_alloc ?_ _)); exact Aside0.out (by assumption)) : p := h
theorem od {p : Prop} [Decidable p] (h : decide p = true := by first | (with_reducible assumption) | assumption) : p := of_decide_eq_true h
end Go.Proofs.YtoikneogdbdplaaDoor.Fn
namespace Go.Proofs.YtoikneogdbdplaaDoor.Fn
open Go.RowKit Go.Proofs.YtoikneogdbdplaaDoorW.PrintWords Go.Proofs.YtoikneogdbdplaaDoorW.PrintLast Go.Proofs.YtoikneogdbdplaaDoorW.PrintMore
attribute [local go_sem] max2_int min2_int max_two min_two max_three min_three max_four min_four
set_option linter.unusedVariables false
set_option linter.unusedSimpArgs false

/-! ### bulletinlaw15_Light: function 12 -/
mutual
def bulletinlaw15_Light.l0 : Nat → List (S24) → Int → Option (Bool)
 | 0, _, _ => none
 | k + 1, x0, x3 => if x3 < (x0.length : Int) then (bulletinlaw15_Light.j1 k x0 x3 (decide (x3 < 30))) else (bulletinlaw15_Light.j1 k x0 x3 false)
def bulletinlaw15_Light.j1 : Nat → List (S24) → Int → Bool → Option (Bool)
 | 0, _, _, _ => none
 | k + 1, x0, x3, x11 => if x11 = true then (if 0 ≤ x3 then (if x3 < (x0.length : Int) then (if (((rd_T24 x0 x3).f0).size : Int) > 200 then (some false) else (if (((rd_T24 x0 x3).f1).size : Int) > 3000 then (some false) else (bulletinlaw15_Light.l0 k x0 (wrap64 (x3 + 1))))) else (none)) else (none)) else (some (decide ((x0.length : Int) ≤ 30)))
end
def bulletinlaw15_Light.f (k : Nat) (l0 : List (S24)) : Option (Bool) := bulletinlaw15_Light.l0 k l0 0
set_option maxHeartbeats 8000000 in
set_option maxRecDepth 100000 in
theorem bulletinlaw15_Light.calls (k : Nat) (A0 : Option Addr) (c0 : Nat) (l0 : List (S24)) (r : Bool) (w : World) (hr0 : Kd.C k24 w A0 l0.length l0) (hc0 : l0.length ≤ c0) (h : bulletinlaw15_Light.f k l0 = some r) :
  Calls Tryd.prog 12 #[.slice A0 l0.length c0] w fun e w' => e = .returned (.bool r) ∧ Drawn0 w w' := by
 have HR0 := Aside0.mk hr0
 have HC0 := Aside0.mk hc0
 clear hr0 hc0
 have H : (bulletinlaw15_Light.l0 k l0 0) = some r := h
 clear h
 have H' := Aside0.mk H
 clear H
 go_enter Tryd.func12, Tryd.ntmps12
 go_wp2
 go_loopg [3] k (fun kq v3 w' => ∃ (x3_1 : Int), v3 = .int .i64 x3_1 ∧ Aside0 (bulletinlaw15_Light.l0 kq l0 x3_1 = some r) ∧ Aside0 (kq ≤ k) ∧ Drawn0 w w')
 case atStart => exact ⟨(0), cl, H', ⟨Nat.le_refl _⟩, by repeat (first | exact Drawn0.refl _ | apply Drawn0.step)⟩
 case round =>
  clear H'
  try clear c1
  obtain ⟨x3_1, rfl, HA, HK1, ⟨m1, rfl⟩⟩ := hrel
  cases gk with
  | zero => exact absurd HA.out (by simp [bulletinlaw15_Light.l0])
  | succ k1 =>
   have H := HA.out
   clear HA
   simp only [bulletinlaw15_Light.l0] at H
   have HC2 := Aside0.mk H
   clear H
   go_upto_region 2 with (fail)
   go_cut [11] (fun v11 wc => ∃ (kq : Nat) (x11_1 : Bool), v11 = .bool x11_1 ∧ Aside0 (bulletinlaw15_Light.j1 kq l0 x3_1 x11_1 = some r) ∧ Aside0 (kq ≤ k1) ∧ Drawn0 w wc)
   case first =>
    have H := HC2.out
    clear HC2
    by_cases c3 : x3_1 < (l0.length : Int)
    ·rw [if_pos c3] at H
     have c3b0 : decide (x3_1 < (l0.length : Int)) = true := decide_eq_true c3
     clear c3
     (first | rw [c3b0] | (simp only [i64_w, i32_w]; rw [c3b0]) | skip)
     have H' := Aside0.mk H
     clear H
     go_wp2
     go_meet
     case rel => exact ⟨_, (decide (x3_1 < 30)), cl, H', ⟨by have := HK1.out; first | omega | exact Nat.le_refl _⟩, by repeat (first | exact Drawn0.refl _ | apply Drawn0.step)⟩
    ·rw [if_neg c3] at H
     have c3b0 : decide (x3_1 < (l0.length : Int)) = false := decide_eq_false c3
     clear c3
     (first | rw [c3b0] | (simp only [i64_w, i32_w]; rw [c3b0]) | skip)
     have H' := Aside0.mk H
     clear H
     go_wp2
     go_meet
     case rel => exact ⟨_, (false), cl, H', ⟨by have := HK1.out; first | omega | exact Nat.le_refl _⟩, by repeat (first | exact Drawn0.refl _ | apply Drawn0.step)⟩
   case rest =>
    clear HC2
    try clear c1
    try clear p2
    try clear c3
    try clear c3b0
    obtain ⟨kq, x11_1, rfl, HA, HJ1, ⟨mc1, rfl⟩⟩ := hcut
    cases kq with
    | zero => exact absurd HA.out (by simp [bulletinlaw15_Light.j1])
    | succ kj1 =>
     have H := HA.out
     clear HA
     simp only [bulletinlaw15_Light.j1] at H
     by_cases c4 : x11_1 = true
     ·subst c4
      have H1 : (if 0 ≤ x3_1 then (if x3_1 < (l0.length : Int) then (if (((rd_T24 l0 x3_1).f0).size : Int) > 200 then (some false) else (if (((rd_T24 l0 x3_1).f1).size : Int) > 3000 then (some false) else (bulletinlaw15_Light.l0 kj1 l0 (wrap64 (x3_1 + 1))))) else (none)) else (none)) = some r := by rw [if_pos rfl] at H; exact H
      clear H
      have H := H1
      clear H1
      by_cases c5 : 0 ≤ x3_1
      ·rw [if_pos c5] at H
       have c5b0 : decide (0 ≤ x3_1) = true := decide_eq_true c5
       clear c5
       by_cases c6 : x3_1 < (l0.length : Int)
       ·rw [if_pos c6] at H
        have c6b0 : decide (x3_1 < (l0.length : Int)) = true := decide_eq_true c6
        clear c6
        by_cases c7 : (((rd_T24 l0 x3_1).f0).size : Int) > 200
        ·rw [if_pos c7] at H
         have c7b0 : decide (200 < (((rd_T24 l0 x3_1).f0).size : Int)) = true := decide_eq_true c7
         have c7b1 : decide (200 < ((rd_T24 l0 x3_1).f0).size) = true := decide_eq_true (by omega)
         clear c7
         obtain rfl := Option.some.inj H
         have p177 : 0 ≤ (x3_1 : Int) := od
         have q177 : x3_1 < (l0.length : Int) := od
         obtain ⟨ad177, e177, hx177_0, hx177_1⟩ := at_T24 HR0.out x3_1 p177 q177
         cases e177
         replace p177 := eq_true p177
         replace q177 := eq_true q177
         go_wp2
         go_ret
         exact ⟨by first | rfl | (simp; done) | (simp [*]; done) | (simp [nil_ne]; done), by repeat (first | exact Drawn0.refl _ | apply Drawn0.step)⟩
        ·rw [if_neg c7] at H
         have c7b0 : decide (200 < (((rd_T24 l0 x3_1).f0).size : Int)) = false := decide_eq_false c7
         have c7b1 : decide (200 < ((rd_T24 l0 x3_1).f0).size) = false := decide_eq_false (by omega)
         clear c7
         by_cases c8 : (((rd_T24 l0 x3_1).f1).size : Int) > 3000
         ·rw [if_pos c8] at H
          have c8b0 : decide (3000 < (((rd_T24 l0 x3_1).f1).size : Int)) = true := decide_eq_true c8
          have c8b1 : decide (3000 < ((rd_T24 l0 x3_1).f1).size) = true := decide_eq_true (by omega)
          clear c8
          obtain rfl := Option.some.inj H
          have p177 : 0 ≤ (x3_1 : Int) := od
          have q177 : x3_1 < (l0.length : Int) := od
          obtain ⟨ad177, e177, hx177_0, hx177_1⟩ := at_T24 HR0.out x3_1 p177 q177
          cases e177
          replace p177 := eq_true p177
          replace q177 := eq_true q177
          have p178 : 0 ≤ (x3_1 : Int) := od
          have q178 : x3_1 < (l0.length : Int) := od
          obtain ⟨ad178, e178, hx178_0, hx178_1⟩ := at_T24 HR0.out x3_1 p178 q178
          obtain rfl : ad177 = ad178 := (by injection e178)
          replace p178 := eq_true p178
          replace q178 := eq_true q178
          go_wp2
          go_ret
          exact ⟨by first | rfl | (simp; done) | (simp [*]; done) | (simp [nil_ne]; done), by repeat (first | exact Drawn0.refl _ | apply Drawn0.step)⟩
         ·rw [if_neg c8] at H
          have c8b0 : decide (3000 < (((rd_T24 l0 x3_1).f1).size : Int)) = false := decide_eq_false c8
          have c8b1 : decide (3000 < ((rd_T24 l0 x3_1).f1).size) = false := decide_eq_false (by omega)
          clear c8
          have H' := Aside0.mk H
          clear H
          have p177 : 0 ≤ (x3_1 : Int) := od
          have q177 : x3_1 < (l0.length : Int) := od
          obtain ⟨ad177, e177, hx177_0, hx177_1⟩ := at_T24 HR0.out x3_1 p177 q177
          cases e177
          replace p177 := eq_true p177
          replace q177 := eq_true q177
          have p178 : 0 ≤ (x3_1 : Int) := od
          have q178 : x3_1 < (l0.length : Int) := od
          obtain ⟨ad178, e178, hx178_0, hx178_1⟩ := at_T24 HR0.out x3_1 p178 q178
          obtain rfl : ad177 = ad178 := (by injection e178)
          replace p178 := eq_true p178
          replace q178 := eq_true q178
          go_wp2
          go_roundg kj1
          case measure => have := HK1.out; have := HJ1.out; omega
          case rel => exact ⟨(wrap64 (x3_1 + 1)), cl, H', ⟨by have := HK1.out; have := HJ1.out; omega⟩, by repeat (first | exact Drawn0.refl _ | apply Drawn0.step)⟩
       ·rw [if_neg c6] at H
        exact absurd H (by simp)
      ·rw [if_neg c5] at H
       exact absurd H (by simp)
     ·replace c4 := Bool.eq_false_iff.mpr c4
      subst c4
      have H1 : (some (decide ((l0.length : Int) ≤ 30))) = some r := by rw [if_neg (show ¬ (false = true) by decide)] at H; exact H
      clear H
      have H := H1
      clear H1
      obtain rfl := Option.some.inj H
      go_wp2
      go_ret
      exact ⟨by first | rfl | (simp; done) | (simp [*]; done) | (simp [nil_ne]; done), by repeat (first | exact Drawn0.refl _ | apply Drawn0.step)⟩

end Go.Proofs.YtoikneogdbdplaaDoor.Fn
namespace Go.Proofs.YtoikneogdbdplaaDoor.Fn
open Go.RowKit Go.Proofs.YtoikneogdbdplaaDoorW.PrintWords Go.Proofs.YtoikneogdbdplaaDoorW.PrintLast Go.Proofs.YtoikneogdbdplaaDoorW.PrintMore
attribute [local go_sem] max2_int min2_int max_two min_two max_three min_three max_four min_four
set_option linter.unusedVariables false
set_option linter.unusedSimpArgs false

/-! ### bulletinlaw15_To: function 13 -/
def bulletinlaw15_To.l0 : Nat → List (S24) → List (S30) → Int → Option ((List (S30)))
 | 0, _, _, _ => none
 | k + 1, x0, x3, x4 => if x4 < (x0.length : Int) then (if 0 ≤ x4 then (if x3.length < 4398046511104 then (bulletinlaw15_To.l0 k x0 (x3 ++ [(⟨(rd_T24 x0 x4).f0, (rd_T24 x0 x4).f1⟩ : S30)]) (wrap64 (x4 + 1))) else (none)) else (none)) else (some x3)
def bulletinlaw15_To.f (k : Nat) (l0 : List (S24)) : Option ((List (S30))) := bulletinlaw15_To.l0 k l0 ([] : List (S30)) 0
def bulletinlaw15_To.T5 : Bool × List (List Nat × List Nat) := (true, [([], []), ([], []), ([], []), ([1, 2], [1, 2]), ([3], [3]), ([4], [4]), ([], []), ([], []), ([6, 7], [6, 7]), ([8], [8]), ([9], [9]), ([5, 10], [5, 10]), ([11], [11]), ([0, 12], [0, 12]), ([13, 13, 0, 1, 2, 3, 4, 5, 6, 7, 8, 9, 10, 11, 12, 13], [0, 13])])
def bulletinlaw15_To.B5 : List Nat := [0, 0, 0, 6, 14, 30, 0, 0, 192, 448, 960, 2046, 4094, 8191, 16383]
theorem bulletinlaw15_To.tab5 : rtab .any (opsOf Tryd.f13 5) = bulletinlaw15_To.T5 := by kernel_rfl
theorem bulletinlaw15_To.bits5 : waitsOk bulletinlaw15_To.T5.2 bulletinlaw15_To.B5 = true := by kernel_rfl
set_option maxHeartbeats 8000000 in
set_option maxRecDepth 100000 in
theorem bulletinlaw15_To.calls (k : Nat) (A0 : Option Addr) (c0 : Nat) (l0 : List (S24)) (r : List (S30)) (w : World) (hr0 : Kd.C k24 w A0 l0.length l0) (hc0 : l0.length ≤ c0) (h : bulletinlaw15_To.f k l0 = some r) :
  Calls Tryd.prog 13 #[.slice A0 l0.length c0] w fun e w' => ∃ v0_ : Value, e = .returned (v0_) ∧ Kd.R k30 30 w' w.heap.size (fun _ => True) v0_ r ∧ Below w.heap.size w w' := by
 have hu30 := Tryd.underlying30
 have HR0 := Aside0.mk hr0
 have HC0 := Aside0.mk hc0
 clear hr0 hc0
 have HB := Aside0.mk (Below.refl w.heap.size w)
 have H : (bulletinlaw15_To.l0 k l0 ([] : List (S30)) 0) = some r := h
 clear h
 have H' := Aside0.mk H
 clear H
 go_enter Tryd.func13, Tryd.ntmps13
 go_wp2
 go_loopg [3, 4] k (fun kq v3 v4 w' => ∃ (x3_1 : List (S30)) (x4_1 : Int), v4 = .int .i64 x4_1 ∧ Aside0 (bulletinlaw15_To.l0 kq l0 x3_1 x4_1 = some r) ∧ Aside0 (kq ≤ k) ∧ Aside0 (Kd.R k30 30 w' w.heap.size (fun _ => True) v3 x3_1) ∧ Aside0 (Below w.heap.size w w'))
 case atStart => exact ⟨(([] : List (S30))), (0), cl, H', ⟨Nat.le_refl _⟩, ⟨by first | exact Kd.R_nil _ _ _ _ _ | exact Kd.N_nil _ _ _ _ _ | exact Kd.V_nil _ _ _ _ _ | exact Kd.Q_nil _ _ _ _ _ | exact Kd.S_nil _ _ _ _ _⟩, ⟨bw⟩⟩
 case round =>
  clear H'
  try clear c1
  obtain ⟨x3_1, x4_1, rfl, HA, HK1, HO_3, HB⟩ := hrel
  cases gk with
  | zero => exact absurd HA.out (by simp [bulletinlaw15_To.l0])
  | succ k1 =>
   have H := HA.out
   clear HA
   simp only [bulletinlaw15_To.l0] at H
   by_cases c2 : x4_1 < (l0.length : Int)
   ·rw [if_pos c2] at H
    have c2b0 : decide (x4_1 < (l0.length : Int)) = true := decide_eq_true c2
    clear c2
    by_cases c3 : 0 ≤ x4_1
    ·rw [if_pos c3] at H
     have c3b0 : decide (0 ≤ x4_1) = true := decide_eq_true c3
     clear c3
     by_cases c4 : x3_1.length < 4398046511104
     ·rw [if_pos c4] at H
      have LMc4 := Aside0.mk c4
      clear c4
      obtain ⟨y181, hy181⟩ : ∃ y_ : List (S30), y_ = (x3_1 ++ [(⟨(rd_T24 l0 x4_1).f0, (rd_T24 l0 x4_1).f1⟩ : S30)]) := ⟨_, rfl⟩
      replace H : (bulletinlaw15_To.l0 k1 l0 y181 (wrap64 (x4_1 + 1))) = some r := by first | (rw [hy181]; with_reducible exact H) | (have H2_ := (Option.bind_some _ _).symm.trans H; rw [hy181]; with_reducible exact H2_) | (have H2_ := (Option.bind_some _ _).symm.trans H; with_reducible exact H2_) | with_reducible exact H | (rw [hy181]; exact H) | exact H
      have Ny181 := Aside0.mk hy181
      clear hy181
      have H' := Aside0.mk H
      clear H
      try go_wp2
      have n0_ := Aside0.mk (Kd.R_drew HO_3.out)
      have n1_ := Aside0.mk (below_drew1 HB.out)
      clear HO_3
      clear HB
      have HO_3 := n0_
      have HB := n1_
      clear n0_ n1_
      have p179 : 0 ≤ (x4_1 : Int) := od
      have q179 : x4_1 < (l0.length : Int) := od
      obtain ⟨ad179, e179, hx179_0, hx179_1⟩ := at_T24 HR0.out x4_1 p179 q179
      have hw179_1 := hx179_1
      have hw179_0 := hx179_0
      cases e179
      replace hx179_0 := (HB.out.cell (World.block_lt_of_cell? w _ hx179_0)).trans hx179_0
      replace hx179_1 := (HB.out.cell (World.block_lt_of_cell? w _ hx179_1)).trans hx179_1
      replace p179 := eq_true p179
      replace q179 := eq_true q179
      have p180 : 0 ≤ (x4_1 : Int) := od
      have q180 : x4_1 < (l0.length : Int) := od
      obtain ⟨ad180, e180, hx180_0, hx180_1⟩ := at_T24 HR0.out x4_1 p180 q180
      have hw180_1 := hx180_1
      have hw180_0 := hx180_0
      obtain rfl : ad179 = ad180 := (by injection e180)
      replace hx180_0 := (HB.out.cell (World.block_lt_of_cell? w _ hx180_0)).trans hx180_0
      replace hx180_1 := (HB.out.cell (World.block_lt_of_cell? w _ hx180_1)).trans hx180_1
      replace p180 := eq_true p180
      replace q180 := eq_true q180
      refine start_ (n := 15) (S := fun w' => w'.cell? (ad179.add ((x4_1).toNat * 2)) = some (.string ((rd_T24 l0 x4_1).f0)) ∧ w'.cell? ⟨(ad179.add ((x4_1).toNat * 2)).block, (ad179.add ((x4_1).toNat * 2)).off + 1, none⟩ = some (.string ((rd_T24 l0 x4_1).f1)) ∧ w'.cell? (ad179.add ((x4_1).toNat * 2)) = some (.string ((rd_T24 l0 x4_1).f0)) ∧ w'.cell? ⟨(ad179.add ((x4_1).toNat * 2)).block, (ad179.add ((x4_1).toNat * 2)).off + 1, none⟩ = some (.string ((rd_T24 l0 x4_1).f1))) (ds := []) #[false, false, false, false, false, false, false, false, false, false, false, false, false, false, false] (by kernel_rfl) rfl rfl ⟨((HB.out.cell (World.block_lt_of_cell? w _ hw179_0)).trans hw179_0), ((HB.out.cell (World.block_lt_of_cell? w _ hw179_1)).trans hw179_1), ((HB.out.cell (World.block_lt_of_cell? w _ hw180_0)).trans hw180_0), ((HB.out.cell (World.block_lt_of_cell? w _ hw180_1)).trans hw180_1)⟩ (fun hHeld => ?_); refine with_tabW bulletinlaw15_To.tab5 bulletinlaw15_To.bits5 (fun HT_ HW_ => ?_)
      generalize wr.drew = w5 at HO_3 HB hx179_0 hx179_1 hx180_0 hx180_1 hHeld ⊢
      refine pure_ (i := 0) (N := some 11) (v := ?_) (a' := ?_) (bitsL 15 1) rfl rfl (any_of HT_.out (by kernel_rfl)) (fun _ _ _ h => h) (Or.inl ⟨by rfl, ?_⟩) ?_ ?_
      rotate_left
      ·intro w'
       go_simp
       with_reducible rfl
      rotate_left
      ·simp only [Act.put, List.setIfInBounds_toArray, List.set_cons_zero, List.set_cons_succ, i64_w, i32_w]
       rfl
      refine pure_ (i := 1) (N := some 12) (v := ?_) (a' := ?_) (bitsL 15 3) rfl rfl (any_of HT_.out (by kernel_rfl)) (fun _ _ _ h => h) (Or.inl ⟨by rfl, ?_⟩) ?_ ?_
      rotate_left
      ·intro w'
       go_simp
       with_reducible rfl
      rotate_left
      ·simp only [Act.put, List.setIfInBounds_toArray, List.set_cons_zero, List.set_cons_succ, i64_w, i32_w]
       rfl
      refine pure_ (i := 2) (N := some 13) (v := ?_) (a' := ?_) (bitsL 15 7) rfl rfl (any_of HT_.out (by kernel_rfl)) (fun _ _ _ h => h) (Or.inl ⟨by rfl, ?_⟩) ?_ ?_
      rotate_left
      ·intro w'
       go_simp
       with_reducible rfl
      rotate_left
      ·simp only [Act.put, List.setIfInBounds_toArray, List.set_cons_zero, List.set_cons_succ, i64_w, i32_w]
       rfl
      refine pure_ (i := 3) (N := some 14) (v := ?_) (a' := ?_) (bitsL 15 15) rfl rfl (any_of HT_.out (by kernel_rfl)) (fun _ _ _ h => h) (Or.inl ⟨by rfl, ?_⟩) ?_ ?_
      rotate_left
      ·intro w'
       go_simp
       with_reducible rfl
      rotate_left
      ·simp only [Act.put, List.setIfInBounds_toArray, List.set_cons_zero, List.set_cons_succ, i64_w, i32_w]
       rfl
      refine pure_ (i := 4) (N := some 15) (v := ?_) (a' := ?_) (bitsL 15 31) rfl rfl (any_of HT_.out (by kernel_rfl)) (fun _ _ _ h => h) (Or.inl ⟨by rfl, ?_⟩) ?_ ?_
      rotate_left
      ·intro w'
       go_simp
       with_reducible rfl
      rotate_left
      ·simp only [Act.put, List.setIfInBounds_toArray, List.set_cons_zero, List.set_cons_succ, i64_w, i32_w]
       rfl
      refine pure_ (i := 6) (N := some 17) (v := ?_) (a' := ?_) (bitsL 15 95) rfl rfl (any_of HT_.out (by kernel_rfl)) (fun _ _ _ h => h) (Or.inl ⟨by rfl, ?_⟩) ?_ ?_
      rotate_left
      ·intro w'
       go_simp
       with_reducible rfl
      rotate_left
      ·simp only [Act.put, List.setIfInBounds_toArray, List.set_cons_zero, List.set_cons_succ, i64_w, i32_w]
       rfl
      refine pure_ (i := 7) (N := some 18) (v := ?_) (a' := ?_) (bitsL 15 223) rfl rfl (any_of HT_.out (by kernel_rfl)) (fun _ _ _ h => h) (Or.inl ⟨by rfl, ?_⟩) ?_ ?_
      rotate_left
      ·intro w'
       go_simp
       with_reducible rfl
      rotate_left
      ·simp only [Act.put, List.setIfInBounds_toArray, List.set_cons_zero, List.set_cons_succ, i64_w, i32_w]
       rfl
      refine pure_ (i := 8) (N := some 19) (v := ?_) (a' := ?_) (bitsL 15 479) rfl rfl (any_of HT_.out (by kernel_rfl)) (fun _ _ _ h => h) (Or.inl ⟨by rfl, ?_⟩) ?_ ?_
      rotate_left
      ·intro w'
       go_simp
       with_reducible rfl
      rotate_left
      ·simp only [Act.put, List.setIfInBounds_toArray, List.set_cons_zero, List.set_cons_succ, i64_w, i32_w]
       rfl
      refine pure_ (i := 9) (N := some 20) (v := ?_) (a' := ?_) (bitsL 15 991) rfl rfl (any_of HT_.out (by kernel_rfl)) (fun _ _ _ h => h) (Or.inl ⟨by rfl, ?_⟩) ?_ ?_
      rotate_left
      ·intro w'
       go_simp
       with_reducible rfl
      rotate_left
      ·simp only [Act.put, List.setIfInBounds_toArray, List.set_cons_zero, List.set_cons_succ, i64_w, i32_w]
       rfl
      refine take_ (i := 5) (N := some 16) (v := ?_) (a' := ?_) (bitsL 15 1023) rfl rfl (take_ofW HT_.out HW_.out (by kernel_rfl)) (fun _ _ _ h => h) (Or.inl ⟨by rfl, ?_⟩) hHeld ?_ ?_
      rotate_left
      ·rintro w' ⟨s0, s1, s2, s3⟩
       go_simp
       with_reducible rfl
      rotate_left
      ·simp only [Act.put, List.setIfInBounds_toArray, List.set_cons_zero, List.set_cons_succ, i64_w, i32_w]
       rfl
      refine take_ (i := 10) (N := some 21) (v := ?_) (a' := ?_) (bitsL 15 2047) rfl rfl (take_ofW HT_.out HW_.out (by kernel_rfl)) (fun _ _ _ h => h) (Or.inl ⟨by rfl, ?_⟩) hHeld ?_ ?_
      rotate_left
      ·rintro w' ⟨s0, s1, s2, s3⟩
       go_simp
       with_reducible rfl
      rotate_left
      ·simp only [Act.put, List.setIfInBounds_toArray, List.set_cons_zero, List.set_cons_succ, i64_w, i32_w]
       rfl
      refine pure_ (i := 11) (N := some 22) (v := ?_) (a' := ?_) (bitsL 15 4095) rfl rfl (any_of HT_.out (by kernel_rfl)) (fun _ _ _ h => h) (Or.inl ⟨by rfl, ?_⟩) ?_ ?_
      rotate_left
      ·intro w'
       go_simp
       with_reducible rfl
      rotate_left
      ·simp only [Act.put, List.setIfInBounds_toArray, List.set_cons_zero, List.set_cons_succ, i64_w, i32_w]
       rfl
      refine one_ (i := 12) (N := some 23) (bitsL 15 8191) rfl rfl (one_of HT_.out (by kernel_rfl)) (by decide) (fun K hK => ?_)
      refine value_ (w1 := ?_) (v := ?_) (by rfl) rfl ?_ ?_
      rotate_left 2
      ·go_simp
       constructor
       ·rfl
       ·rfl
      refine hK.out _ _ ⟨(World.cell?_alloc_lt _ _ _ (World.block_lt_of_cell? _ _ (((HB.out.cell (World.block_lt_of_cell? w _ hw179_0)).trans hw179_0)))).trans (((HB.out.cell (World.block_lt_of_cell? w _ hw179_0)).trans hw179_0)), (World.cell?_alloc_lt _ _ _ (World.block_lt_of_cell? _ _ (((HB.out.cell (World.block_lt_of_cell? w _ hw179_1)).trans hw179_1)))).trans (((HB.out.cell (World.block_lt_of_cell? w _ hw179_1)).trans hw179_1)), (World.cell?_alloc_lt _ _ _ (World.block_lt_of_cell? _ _ (((HB.out.cell (World.block_lt_of_cell? w _ hw180_0)).trans hw180_0)))).trans (((HB.out.cell (World.block_lt_of_cell? w _ hw180_0)).trans hw180_0)), (World.cell?_alloc_lt _ _ _ (World.block_lt_of_cell? _ _ (((HB.out.cell (World.block_lt_of_cell? w _ hw180_1)).trans hw180_1)))).trans (((HB.out.cell (World.block_lt_of_cell? w _ hw180_1)).trans hw180_1))⟩ (fun hHeld => ?_)
      clear hK K
      refine norm_ (a' := ?_) ?_ ?_
      rotate_left
      ·show Act.put _ (some 23) _ = _
       simp only [Act.put, List.setIfInBounds_toArray, List.set_cons_zero, List.set_cons_succ, i64_w, i32_w]
       rfl
      refine one_ (i := 13) (N := some 24) (bitsL 15 16383) rfl rfl (one_of HT_.out (by kernel_rfl)) (by decide) (fun K hK => ?_)
      refine Kd.R_append_step k30 (w0 := w) w.heap.size (by rfl) (.tmp 11) (.tmp 23) 27 30 (.agg #[(.string ⟨#[]⟩), (.string ⟨#[]⟩)]) 32 rfl Tryd.underlying27 info30 rfl (by decide) (by omega) u3 x3_1 (⟨(rd_T24 l0 x4_1).f0, (rd_T24 l0 x4_1).f1⟩ : S30) [.string ((rd_T24 l0 x4_1).f0), .string ((rd_T24 l0 x4_1).f1)] (fun _ => True) (fun _ => False) rfl rfl ?aP (fun _ hk => hk.elim) ?aF ?aO ?aB ?aS ?aL ?_
      (case aP => exact k30_mkM _ _ _ (⟨(rd_T24 l0 x4_1).f0, (rd_T24 l0 x4_1).f1⟩ : S30))
      (case aB => exact bw)
      (case aF => exact (fun _ _ => trivial))
      (case aO => exact (by (with_reducible repeat (first | apply Kd.R_alloc | apply Kd.R_drewN | apply Kd.R_drew)); exact HO_3.out))
      (case aS => exact (below_size bw))
      (case aL => have := LMc4.out; omega)
      intro v182 w6 ho hb hg hat
      rw [← Ny181.out] at ho
      have n0_ := Aside0.mk (hb)
      have n1_ := Aside0.mk (ho)
      clear HB
      clear HO_3
      have HB := n0_
      have HO183 := n1_
      clear n0_ n1_
      clear ho hb hg hat
      refine hK.out _ _ ⟨((HB.out.cell (World.block_lt_of_cell? w _ hw179_0)).trans hw179_0), ((HB.out.cell (World.block_lt_of_cell? w _ hw179_1)).trans hw179_1), ((HB.out.cell (World.block_lt_of_cell? w _ hw180_0)).trans hw180_0), ((HB.out.cell (World.block_lt_of_cell? w _ hw180_1)).trans hw180_1)⟩ (fun hHeld => ?_)
      clear hK K
      refine norm_ (a' := ?_) ?_ ?_
      rotate_left
      ·show Act.put _ (some 24) _ = _
       simp only [Act.put, List.setIfInBounds_toArray, List.set_cons_zero, List.set_cons_succ, i64_w, i32_w]
       rfl
      refine pure_ (i := 14) (N := some 3) (v := ?_) (a' := ?_) (bitsL 15 32767) rfl rfl (any_of HT_.out (by kernel_rfl)) (fun _ _ _ h => h) (Or.inl ⟨by rfl, ?_⟩) ?_ ?_
      rotate_left
      ·intro w'
       go_simp
       with_reducible rfl
      rotate_left
      ·simp only [Act.put, List.setIfInBounds_toArray, List.set_cons_zero, List.set_cons_succ, i64_w, i32_w]
       rfl
      refine done_ (done_of HT_.out (by kernel_rfl)) ?_
      try go_wp2
      go_roundg k1
      case measure => have := HK1.out; omega
      case rel => exact ⟨(y181), (wrap64 (x4_1 + 1)), cl, H', ⟨by have := HK1.out; omega⟩, ⟨by (with_reducible repeat (first | apply Kd.R_alloc | apply Kd.R_drewN | apply Kd.R_drew)); exact HO183.out⟩, ⟨bw⟩⟩
     ·rw [if_neg c4] at H
      exact absurd H (by simp)
    ·rw [if_neg c3] at H
     exact absurd H (by simp)
   ·rw [if_neg c2] at H
    have c2b0 : decide (x4_1 < (l0.length : Int)) = false := decide_eq_false c2
    clear c2
    obtain rfl := Option.some.inj H
    go_wp2
    go_ret
    exact ⟨_, by first | rfl | (simp [errW_none, errW_some] <;> rfl) | (simp [*, errW_none, errW_some] <;> rfl), by (with_reducible repeat (first | apply Kd.R_alloc | apply Kd.R_drewN | apply Kd.R_drew)); exact HO_3.out, bw⟩

end Go.Proofs.YtoikneogdbdplaaDoor.Fn
-- written by xprint.py of this session over the kit's printer; not trusted: Lean checks it
namespace Go.Proofs.YtoikneogdbdplaaDoor.Fn
open Go.RowKit Go.Proofs.YtoikneogdbdplaaDoorW.PrintWords Go.Proofs.YtoikneogdbdplaaDoorW.PrintLast Go.Proofs.YtoikneogdbdplaaDoorW.PrintMore
attribute [local go_sem] max2_int min2_int max_two min_two max_three min_three max_four min_four   -- for this text's walks alone
set_option linter.unusedVariables false
set_option linter.unusedSimpArgs false

theorem eqA30 (d : Nat) (w : World) (x0 y0 : ByteArray) (x1 y1 : ByteArray) :
    (Op.equalIn (d + 2) 30 (.agg #[.string x0, .string x1]) (.agg #[.string y0, .string y1])).run Tryd.prog w = .ok (x0.toList == y0.toList && (x1.toList == y1.toList)) w := by
  refine eqA_of Tryd.underlying30 (by kernel_rfl) ?_
  refine eqf_cons (by rfl) (by go_simp; rfl) (by go_simp; rfl) (by go_simp) ?_
  exact eqf_last (by rfl) (by go_simp; rfl) (by go_simp; rfl) (by go_simp)
end Go.Proofs.YtoikneogdbdplaaDoor.Fn
namespace Go.Proofs.YtoikneogdbdplaaDoor.Fn
open Go.RowKit Go.Proofs.YtoikneogdbdplaaDoorW.PrintWords Go.Proofs.YtoikneogdbdplaaDoorW.PrintLast Go.Proofs.YtoikneogdbdplaaDoorW.PrintMore
attribute [local go_sem] max2_int min2_int max_two min_two max_three min_three max_four min_four
set_option linter.unusedVariables false
set_option linter.unusedSimpArgs false

/-! ### head_named: function 120 -/
def head_named.l0 : Nat → ByteArray → Int → Int → Option (Bool)
 | 0, _, _, _ => none
 | k + 1, x0, x6, x7 => if x7 < x6 then (if 0 ≤ x7 then (if x7 < (x0.size : Int) then (if (bt x0 x7) ≤ 32 then (some false) else (if (bt x0 x7) > 126 then (some false) else (if (bt x0 x7) = 58 then (some false) else (head_named.l0 k x0 x6 (wrap64 (x7 + 1)))))) else (none)) else (none)) else (if x0.toList = ([] : List UInt8) then (some false) else (some (decide ((x0.size : Int) ≤ 76))))
def head_named.f (k : Nat) (a0 : ByteArray) : Option (Bool) := head_named.l0 k a0 (a0.size : Int) 0
theorem head_named.mono_l : ∀ k, (∀ y0 y1 y2, LeO (head_named.l0 k y0 y1 y2) (head_named.l0 (k + 1) y0 y1 y2))
 | 0 => fun _ _ _ r h => by simp [head_named.l0] at h
 | k + 1 => by
  have ih0 := head_named.mono_l k
  ·intro y0 y1 y2
   unfold head_named.l0
   repeat' first
   | (with_reducible exact ih0 _ _ _)
   | (with_reducible exact LeO.refl _)
   | (with_reducible exact LeO.none _)
   | (with_reducible refine LeO.ite ?_ ?_)
   | (with_reducible refine LeO.bind ?_ (fun _ => ?_))
   | exact ih0 _ _ _
   | exact LeO.none _
   | refine LeO.ite ?_ ?_
   | refine LeO.bind ?_ (fun _ => ?_)
theorem head_named.mono : ∀ a0 k, LeO (head_named.f k a0) (head_named.f (k + 1) a0) := by
 intro a0 k
 have ih0 := head_named.mono_l k
 unfold head_named.f
 repeat' first
   | (with_reducible exact ih0 _ _ _)
   | (with_reducible exact LeO.refl _)
   | (with_reducible exact LeO.none _)
   | (with_reducible refine LeO.ite ?_ ?_)
   | (with_reducible refine LeO.bind ?_ (fun _ => ?_))
   | exact ih0 _ _ _
   | exact LeO.none _
   | refine LeO.ite ?_ ?_
   | refine LeO.bind ?_ (fun _ => ?_)
set_option maxHeartbeats 8000000 in
set_option maxRecDepth 100000 in
theorem head_named.calls (k : Nat) (a0 : ByteArray) (r : Bool) (w : World) (h : head_named.f k a0 = some r) :
  Calls Tryd.prog 120 #[.string a0] w fun e w' => e = .returned (.bool r) ∧ Drawn0 w w' := by
 have H : (head_named.l0 k a0 (a0.size : Int) 0) = some r := h
 clear h
 have H' := Aside0.mk H
 clear H
 go_enter Tryd.func120, Tryd.ntmps120
 go_wp2
 go_loopg [7] k (fun kq v7 w' => ∃ (x7_1 : Int), v7 = .int .i64 x7_1 ∧ Aside0 (head_named.l0 kq a0 (a0.size : Int) x7_1 = some r) ∧ Aside0 (kq ≤ k) ∧ Drawn0 w w')
 case atStart => exact ⟨(0), cl, H', ⟨Nat.le_refl _⟩, by repeat (first | exact Drawn0.refl _ | apply Drawn0.step)⟩
 case round =>
  clear H'
  try clear c1
  obtain ⟨x7_1, rfl, HA, HK1, ⟨m1, rfl⟩⟩ := hrel
  cases gk with
  | zero => exact absurd HA.out (by simp [head_named.l0])
  | succ k1 =>
   have H := HA.out
   clear HA
   simp only [head_named.l0] at H
   by_cases c2 : x7_1 < (a0.size : Int)
   ·rw [if_pos c2] at H
    have c2b0 : decide (x7_1 < (a0.size : Int)) = true := decide_eq_true c2
    clear c2
    by_cases c3 : 0 ≤ x7_1
    ·rw [if_pos c3] at H
     have c3b0 : decide (0 ≤ x7_1) = true := decide_eq_true c3
     clear c3
     by_cases c4 : x7_1 < (a0.size : Int)
     ·rw [if_pos c4] at H
      have c4b0 : decide (x7_1 < (a0.size : Int)) = true := decide_eq_true c4
      clear c4
      by_cases c6 : (bt a0 x7_1) ≤ 32
      ·rw [if_pos c6] at H
       have c6b0 : decide ((bt a0 x7_1) ≤ 32) = true := decide_eq_true c6
       clear c6
       obtain rfl := Option.some.inj H
       have p5 : 0 ≤ (x7_1 : Int) := od
       have q5 : x7_1 < (a0.size : Int) := od
       have hx5 := bt_at a0 x7_1
       replace p5 := eq_true p5
       replace q5 := eq_true q5
       go_wp2
       go_ret
       exact ⟨by first | rfl | (simp; done) | (simp [*]; done) | (simp [nil_ne]; done), by repeat (first | exact Drawn0.refl _ | apply Drawn0.step)⟩
      ·rw [if_neg c6] at H
       have c6b0 : decide ((bt a0 x7_1) ≤ 32) = false := decide_eq_false c6
       clear c6
       by_cases c7 : (bt a0 x7_1) > 126
       ·rw [if_pos c7] at H
        have c7b0 : decide (126 < (bt a0 x7_1)) = true := decide_eq_true c7
        clear c7
        obtain rfl := Option.some.inj H
        have p5 : 0 ≤ (x7_1 : Int) := od
        have q5 : x7_1 < (a0.size : Int) := od
        have hx5 := bt_at a0 x7_1
        replace p5 := eq_true p5
        replace q5 := eq_true q5
        go_wp2
        go_ret
        exact ⟨by first | rfl | (simp; done) | (simp [*]; done) | (simp [nil_ne]; done), by repeat (first | exact Drawn0.refl _ | apply Drawn0.step)⟩
       ·rw [if_neg c7] at H
        have c7b0 : decide (126 < (bt a0 x7_1)) = false := decide_eq_false c7
        clear c7
        by_cases c8 : (bt a0 x7_1) = 58
        ·rw [if_pos c8] at H
         have c8b0 : ((bt a0 x7_1) == 58) = true := beq_iff_eq.mpr c8
         have c8b1 : ((bt a0 x7_1) != 58) = false := bne_eq_false_iff_eq.mpr c8
         clear c8
         obtain rfl := Option.some.inj H
         have p5 : 0 ≤ (x7_1 : Int) := od
         have q5 : x7_1 < (a0.size : Int) := od
         have hx5 := bt_at a0 x7_1
         replace p5 := eq_true p5
         replace q5 := eq_true q5
         go_wp2
         go_ret
         exact ⟨by first | rfl | (simp; done) | (simp [*]; done) | (simp [nil_ne]; done), by repeat (first | exact Drawn0.refl _ | apply Drawn0.step)⟩
        ·rw [if_neg c8] at H
         have c8b0 : ((bt a0 x7_1) == 58) = false := beq_eq_false_iff_ne.mpr c8
         have c8b1 : ((bt a0 x7_1) != 58) = true := bne_iff_ne.mpr c8
         have H' := Aside0.mk H
         clear H
         have p5 : 0 ≤ (x7_1 : Int) := od
         have q5 : x7_1 < (a0.size : Int) := od
         have hx5 := bt_at a0 x7_1
         replace p5 := eq_true p5
         replace q5 := eq_true q5
         go_wp2
         go_roundg k1
         case measure => have := HK1.out; omega
         case rel => exact ⟨(wrap64 (x7_1 + 1)), cl, H', ⟨by have := HK1.out; omega⟩, by repeat (first | exact Drawn0.refl _ | apply Drawn0.step)⟩
     ·rw [if_neg c4] at H
      exact absurd H (by simp)
    ·rw [if_neg c3] at H
     exact absurd H (by simp)
   ·rw [if_neg c2] at H
    have c2b0 : decide (x7_1 < (a0.size : Int)) = false := decide_eq_false c2
    clear c2
    by_cases c9 : a0.toList = ([] : List UInt8)
    ·rw [if_pos c9] at H
     have c9b0 : (a0.toList == ([] : List UInt8)) = true := beq_iff_eq.mpr c9
     have c9b1 : (a0.toList != ([] : List UInt8)) = false := bne_eq_false_iff_eq.mpr c9
     clear c9
     obtain rfl := Option.some.inj H
     go_wp2
     go_ret
     exact ⟨by first | rfl | (simp; done) | (simp [*]; done) | (simp [nil_ne]; done), by repeat (first | exact Drawn0.refl _ | apply Drawn0.step)⟩
    ·rw [if_neg c9] at H
     have c9b0 : (a0.toList == ([] : List UInt8)) = false := beq_eq_false_iff_ne.mpr c9
     have c9b1 : (a0.toList != ([] : List UInt8)) = true := bne_iff_ne.mpr c9
     obtain rfl := Option.some.inj H
     go_wp2
     go_ret
     exact ⟨by first | rfl | (simp; done) | (simp [*]; done) | (simp [nil_ne]; done), by repeat (first | exact Drawn0.refl _ | apply Drawn0.step)⟩

end Go.Proofs.YtoikneogdbdplaaDoor.Fn
namespace Go.Proofs.YtoikneogdbdplaaDoor.Fn
open Go.RowKit Go.Proofs.YtoikneogdbdplaaDoorW.PrintWords Go.Proofs.YtoikneogdbdplaaDoorW.PrintLast Go.Proofs.YtoikneogdbdplaaDoorW.PrintMore
attribute [local go_sem] max2_int min2_int max_two min_two max_three min_three max_four min_four
set_option linter.unusedVariables false
set_option linter.unusedSimpArgs false

/-! ### head_text: function 118 -/
def head_text.l0 : Nat → ByteArray → Int → Int → Option (Bool)
 | 0, _, _, _ => none
 | k + 1, x0, x6, x7 => if x7 < x6 then (if 0 ≤ x7 then (if x7 < (x0.size : Int) then (if (bt x0 x7) < 32 then (if (bt x0 x7) = 9 then (if (bt x0 x7) = 127 then (some false) else (head_text.l0 k x0 x6 (wrap64 (x7 + 1)))) else (some false)) else (if (bt x0 x7) = 127 then (some false) else (head_text.l0 k x0 x6 (wrap64 (x7 + 1))))) else (none)) else (none)) else (some true)
def head_text.f (k : Nat) (a0 : ByteArray) : Option (Bool) := head_text.l0 k a0 (a0.size : Int) 0
theorem head_text.mono_l : ∀ k, (∀ y0 y1 y2, LeO (head_text.l0 k y0 y1 y2) (head_text.l0 (k + 1) y0 y1 y2))
 | 0 => fun _ _ _ r h => by simp [head_text.l0] at h
 | k + 1 => by
  have ih0 := head_text.mono_l k
  ·intro y0 y1 y2
   unfold head_text.l0
   repeat' first
   | (with_reducible exact ih0 _ _ _)
   | (with_reducible exact LeO.refl _)
   | (with_reducible exact LeO.none _)
   | (with_reducible refine LeO.ite ?_ ?_)
   | (with_reducible refine LeO.bind ?_ (fun _ => ?_))
   | exact ih0 _ _ _
   | exact LeO.none _
   | refine LeO.ite ?_ ?_
   | refine LeO.bind ?_ (fun _ => ?_)
theorem head_text.mono : ∀ a0 k, LeO (head_text.f k a0) (head_text.f (k + 1) a0) := by
 intro a0 k
 have ih0 := head_text.mono_l k
 unfold head_text.f
 repeat' first
   | (with_reducible exact ih0 _ _ _)
   | (with_reducible exact LeO.refl _)
   | (with_reducible exact LeO.none _)
   | (with_reducible refine LeO.ite ?_ ?_)
   | (with_reducible refine LeO.bind ?_ (fun _ => ?_))
   | exact ih0 _ _ _
   | exact LeO.none _
   | refine LeO.ite ?_ ?_
   | refine LeO.bind ?_ (fun _ => ?_)
set_option maxHeartbeats 8000000 in
set_option maxRecDepth 100000 in
theorem head_text.calls (k : Nat) (a0 : ByteArray) (r : Bool) (w : World) (h : head_text.f k a0 = some r) :
  Calls Tryd.prog 118 #[.string a0] w fun e w' => e = .returned (.bool r) ∧ Drawn0 w w' := by
 have H : (head_text.l0 k a0 (a0.size : Int) 0) = some r := h
 clear h
 have H' := Aside0.mk H
 clear H
 go_enter Tryd.func118, Tryd.ntmps118
 go_wp2
 go_loopg [7] k (fun kq v7 w' => ∃ (x7_1 : Int), v7 = .int .i64 x7_1 ∧ Aside0 (head_text.l0 kq a0 (a0.size : Int) x7_1 = some r) ∧ Aside0 (kq ≤ k) ∧ Drawn0 w w')
 case atStart => exact ⟨(0), cl, H', ⟨Nat.le_refl _⟩, by repeat (first | exact Drawn0.refl _ | apply Drawn0.step)⟩
 case round =>
  clear H'
  try clear c1
  obtain ⟨x7_1, rfl, HA, HK1, ⟨m1, rfl⟩⟩ := hrel
  cases gk with
  | zero => exact absurd HA.out (by simp [head_text.l0])
  | succ k1 =>
   have H := HA.out
   clear HA
   simp only [head_text.l0] at H
   by_cases c2 : x7_1 < (a0.size : Int)
   ·rw [if_pos c2] at H
    have c2b0 : decide (x7_1 < (a0.size : Int)) = true := decide_eq_true c2
    clear c2
    by_cases c3 : 0 ≤ x7_1
    ·rw [if_pos c3] at H
     have c3b0 : decide (0 ≤ x7_1) = true := decide_eq_true c3
     clear c3
     by_cases c4 : x7_1 < (a0.size : Int)
     ·rw [if_pos c4] at H
      have c4b0 : decide (x7_1 < (a0.size : Int)) = true := decide_eq_true c4
      clear c4
      by_cases c6 : (bt a0 x7_1) < 32
      ·rw [if_pos c6] at H
       have c6b0 : decide ((bt a0 x7_1) < 32) = true := decide_eq_true c6
       clear c6
       by_cases c7 : (bt a0 x7_1) = 9
       ·rw [if_pos c7] at H
        have c7b0 : ((bt a0 x7_1) == 9) = true := beq_iff_eq.mpr c7
        have c7b1 : ((bt a0 x7_1) != 9) = false := bne_eq_false_iff_eq.mpr c7
        clear c7
        by_cases c8 : (bt a0 x7_1) = 127
        ·rw [if_pos c8] at H
         have c8b0 : ((bt a0 x7_1) == 127) = true := beq_iff_eq.mpr c8
         have c8b1 : ((bt a0 x7_1) != 127) = false := bne_eq_false_iff_eq.mpr c8
         clear c8
         obtain rfl := Option.some.inj H
         have p5 : 0 ≤ (x7_1 : Int) := od
         have q5 : x7_1 < (a0.size : Int) := od
         have hx5 := bt_at a0 x7_1
         replace p5 := eq_true p5
         replace q5 := eq_true q5
         go_wp2
         go_ret
         exact ⟨by first | rfl | (simp; done) | (simp [*]; done) | (simp [nil_ne]; done), by repeat (first | exact Drawn0.refl _ | apply Drawn0.step)⟩
        ·rw [if_neg c8] at H
         have c8b0 : ((bt a0 x7_1) == 127) = false := beq_eq_false_iff_ne.mpr c8
         have c8b1 : ((bt a0 x7_1) != 127) = true := bne_iff_ne.mpr c8
         have H' := Aside0.mk H
         clear H
         have p5 : 0 ≤ (x7_1 : Int) := od
         have q5 : x7_1 < (a0.size : Int) := od
         have hx5 := bt_at a0 x7_1
         replace p5 := eq_true p5
         replace q5 := eq_true q5
         go_wp2
         go_roundg k1
         case measure => have := HK1.out; omega
         case rel => exact ⟨(wrap64 (x7_1 + 1)), cl, H', ⟨by have := HK1.out; omega⟩, by repeat (first | exact Drawn0.refl _ | apply Drawn0.step)⟩
       ·rw [if_neg c7] at H
        have c7b0 : ((bt a0 x7_1) == 9) = false := beq_eq_false_iff_ne.mpr c7
        have c7b1 : ((bt a0 x7_1) != 9) = true := bne_iff_ne.mpr c7
        obtain rfl := Option.some.inj H
        have p5 : 0 ≤ (x7_1 : Int) := od
        have q5 : x7_1 < (a0.size : Int) := od
        have hx5 := bt_at a0 x7_1
        replace p5 := eq_true p5
        replace q5 := eq_true q5
        go_wp2
        go_ret
        exact ⟨by first | rfl | (simp; done) | (simp [*]; done) | (simp [nil_ne]; done), by repeat (first | exact Drawn0.refl _ | apply Drawn0.step)⟩
      ·rw [if_neg c6] at H
       have c6b0 : decide ((bt a0 x7_1) < 32) = false := decide_eq_false c6
       clear c6
       by_cases c9 : (bt a0 x7_1) = 127
       ·rw [if_pos c9] at H
        have c9b0 : ((bt a0 x7_1) == 127) = true := beq_iff_eq.mpr c9
        have c9b1 : ((bt a0 x7_1) != 127) = false := bne_eq_false_iff_eq.mpr c9
        clear c9
        obtain rfl := Option.some.inj H
        have p5 : 0 ≤ (x7_1 : Int) := od
        have q5 : x7_1 < (a0.size : Int) := od
        have hx5 := bt_at a0 x7_1
        replace p5 := eq_true p5
        replace q5 := eq_true q5
        go_wp2
        go_ret
        exact ⟨by first | rfl | (simp; done) | (simp [*]; done) | (simp [nil_ne]; done), by repeat (first | exact Drawn0.refl _ | apply Drawn0.step)⟩
       ·rw [if_neg c9] at H
        have c9b0 : ((bt a0 x7_1) == 127) = false := beq_eq_false_iff_ne.mpr c9
        have c9b1 : ((bt a0 x7_1) != 127) = true := bne_iff_ne.mpr c9
        have H' := Aside0.mk H
        clear H
        have p5 : 0 ≤ (x7_1 : Int) := od
        have q5 : x7_1 < (a0.size : Int) := od
        have hx5 := bt_at a0 x7_1
        replace p5 := eq_true p5
        replace q5 := eq_true q5
        go_wp2
        go_roundg k1
        case measure => have := HK1.out; omega
        case rel => exact ⟨(wrap64 (x7_1 + 1)), cl, H', ⟨by have := HK1.out; omega⟩, by repeat (first | exact Drawn0.refl _ | apply Drawn0.step)⟩
     ·rw [if_neg c4] at H
      exact absurd H (by simp)
    ·rw [if_neg c3] at H
     exact absurd H (by simp)
   ·rw [if_neg c2] at H
    have c2b0 : decide (x7_1 < (a0.size : Int)) = false := decide_eq_false c2
    clear c2
    obtain rfl := Option.some.inj H
    go_wp2
    go_ret
    exact ⟨by first | rfl | (simp; done) | (simp [*]; done) | (simp [nil_ne]; done), by repeat (first | exact Drawn0.refl _ | apply Drawn0.step)⟩

end Go.Proofs.YtoikneogdbdplaaDoor.Fn
namespace Go.Proofs.YtoikneogdbdplaaDoor.Fn
open Go.RowKit Go.Proofs.YtoikneogdbdplaaDoorW.PrintWords Go.Proofs.YtoikneogdbdplaaDoorW.PrintLast Go.Proofs.YtoikneogdbdplaaDoorW.PrintMore
attribute [local go_sem] max2_int min2_int max_two min_two max_three min_three max_four min_four
set_option linter.unusedVariables false
set_option linter.unusedSimpArgs false

/-! ### head_white: function 119 -/
def head_white.f (a0 : ByteArray) : Option (Bool) := if a0.toList = ([] : List UInt8) then (some false) else (if 0 < (a0.size : Int) then (if (bt a0 0) = 32 then (some true) else (some ((bt a0 0) == 9))) else (none))
set_option maxHeartbeats 8000000 in
set_option maxRecDepth 100000 in
theorem head_white.calls (a0 : ByteArray) (r : Bool) (w : World) (h : head_white.f a0 = some r) :
  Calls Tryd.prog 119 #[.string a0] w fun e w' => e = .returned (.bool r) ∧ Drawn0 w w' := by
 have H : (if a0.toList = ([] : List UInt8) then (some false) else (if 0 < (a0.size : Int) then (if (bt a0 0) = 32 then (some true) else (some ((bt a0 0) == 9))) else (none))) = some r := h
 clear h
 by_cases c2 : a0.toList = ([] : List UInt8)
 ·rw [if_pos c2] at H
  have c2b0 : (a0.toList == ([] : List UInt8)) = true := beq_iff_eq.mpr c2
  have c2b1 : (a0.toList != ([] : List UInt8)) = false := bne_eq_false_iff_eq.mpr c2
  clear c2
  obtain rfl := Option.some.inj H
  go_enter Tryd.func119, Tryd.ntmps119
  go_wp2
  go_ret
  exact ⟨by first | rfl | (simp; done) | (simp [*]; done) | (simp [nil_ne]; done), by repeat (first | exact Drawn0.refl _ | apply Drawn0.step)⟩
 ·rw [if_neg c2] at H
  have c2b0 : (a0.toList == ([] : List UInt8)) = false := beq_eq_false_iff_ne.mpr c2
  have c2b1 : (a0.toList != ([] : List UInt8)) = true := bne_iff_ne.mpr c2
  by_cases c3 : 0 < (a0.size : Int)
  ·rw [if_pos c3] at H
   have c3b0 : decide (0 < (a0.size : Int)) = true := decide_eq_true c3
   have c3b1 : decide (0 < a0.size) = true := decide_eq_true (by omega)
   clear c3
   by_cases c5 : (bt a0 0) = 32
   ·rw [if_pos c5] at H
    have c5b0 : ((bt a0 0) == 32) = true := beq_iff_eq.mpr c5
    have c5b1 : ((bt a0 0) != 32) = false := bne_eq_false_iff_eq.mpr c5
    clear c5
    obtain rfl := Option.some.inj H
    have p4 : 0 ≤ (0 : Int) := (by omega)
    have q4 : 0 < a0.size := (by have : (0 : Int) < (a0.size : Int) := od; omega)
    have hx4 : ∀ h : 0 < a0.size, ((a0[0]'h).toNat : Int) = bt a0 0 := bt_at a0 0
    clear p4
    have qi4 : (0 < (a0.size : Int)) = True := eq_true (od)
    replace q4 := eq_true q4
    go_enter Tryd.func119, Tryd.ntmps119
    go_wp2
    go_ret
    exact ⟨by first | rfl | (simp; done) | (simp [*]; done) | (simp [nil_ne]; done), by repeat (first | exact Drawn0.refl _ | apply Drawn0.step)⟩
   ·rw [if_neg c5] at H
    have c5b0 : ((bt a0 0) == 32) = false := beq_eq_false_iff_ne.mpr c5
    have c5b1 : ((bt a0 0) != 32) = true := bne_iff_ne.mpr c5
    obtain rfl := Option.some.inj H
    have p4 : 0 ≤ (0 : Int) := (by omega)
    have q4 : 0 < a0.size := (by have : (0 : Int) < (a0.size : Int) := od; omega)
    have hx4 : ∀ h : 0 < a0.size, ((a0[0]'h).toNat : Int) = bt a0 0 := bt_at a0 0
    clear p4
    have qi4 : (0 < (a0.size : Int)) = True := eq_true (od)
    replace q4 := eq_true q4
    have p6 : 0 ≤ (0 : Int) := (by omega)
    have q6 : 0 < a0.size := (by have : (0 : Int) < (a0.size : Int) := od; omega)
    have hx6 : ∀ h : 0 < a0.size, ((a0[0]'h).toNat : Int) = bt a0 0 := bt_at a0 0
    clear p6
    have qi6 : (0 < (a0.size : Int)) = True := eq_true (od)
    replace q6 := eq_true q6
    go_enter Tryd.func119, Tryd.ntmps119
    go_wp2
    go_ret
    exact ⟨by first | rfl | (simp; done) | (simp [*]; done) | (simp [nil_ne]; done), by repeat (first | exact Drawn0.refl _ | apply Drawn0.step)⟩
  ·rw [if_neg c3] at H
   exact absurd H (by simp)

end Go.Proofs.YtoikneogdbdplaaDoor.Fn
set_option linter.unusedVariables false
namespace Go.Proofs.YtoikneogdbdplaaDoor
open Go.ChangeShapes Go.WideShapes Go.ChangeAt Go.RowKit

/-! What all rows of this seat share: a world that meets the condition; the premises as the walks want them. -/
theorem own : ownKnob Tryd.prog.godebug = none := by kernel_rfl
theorem laidOut : laidOutB Tryd.prog = true := by kernel_rfl
def listed : List (String × DataW Unit) := [("unicode/utf8.acceptRanges", Rows.laid_unicode_utf8_acceptRanges), ("unicode/utf8.first", Rows.laid_unicode_utf8_first)]
noncomputable def laidWorld (os : Os) : World :=
  let w0 := World.holding Tryd.prog os ⟨#[], #[], []⟩
  let put (h : Array Obj) (g : Nat) (cs : Array Value) : Array Obj := h.modify g fun
    | .cells _ t frozen => .cells cs t frozen
    | o => o
  let h1 := put w0.heap 1 (Lib.firstTab.map fun z => Value.int .u8 z).toArray
  let h2 := put h1 2 ((List.range 16).flatMap fun i => [Value.int .u8 (Lib.accLo i), Value.int .u8 (Lib.accHi i)]).toArray
  { w0 with heap := h2 }
set_option maxRecDepth 100000 in
theorem laid_met (os : Os) (args : Array Value) : laidMetH Tryd.prog listed ((laidWorld os).forCall (fun _ _ => 0) ⟨#[], args, []⟩).memory :=
  laidMetH_of_parts (laidMet_of_run' 8 (by kernel_rfl) (by kernel_rfl)) (by kernel_rfl)

theorem lift_both {H : Type} {enc : TypeId × Value → H} {a : Assume} {C : Checked} {os : Os} {f : FuncId} {fn : Func} {s : ChangeSpec} {conds : List PathCond} {apart fresh handsOn again : Bool} {X : World → Array Value → Prop}
    (hX : ∀ (w w' : World) (args : Array Value), w.heap = w'.heap → X w args → X w' args)
    (own : ownKnob C.prog.godebug = none) (started : os.Started) (noInit : C.prog.inits.idxOf? f = none) (hfn : C.prog.funcs[f]? = some fn)
    (witness : ∃ (w : World) (tape : Tape) (i : Input), w.os = os ∧ (w.forCall tape i).Shaped C.prog ∧ i.vars = [] ∧ Input.okWide C.prog (w.forCall tape i) .any w.heap.size f i ∧
      ((s.pre enc C.prog fn conds apart (w.forCall tape i).memory i.args ∧ X (w.forCall tape i).memory i.args) ∧ sizedMet enc C.prog fn (OpenSpec.ofChange s) apart (w.forCall tape i).memory i.args) ∧ a.holds C.prog (lone (Frame.enter C.prog f i.args .normal) [] (w.forCall tape i)))
    (contract : ∀ (W : World) (base : Nat) (args : Array Value) (ds gs : List (DataW H)) (before : List MemPlace),
      (∀ (j : Nat) t v, fn.params[j]? = some t → args[j]? = some v → Value.okWide C.prog W .any base t v) →
      DataW.Whole enc C.prog fn.params.toList s.vars apart W args.toList ds gs before →
      (DataW.weightsEach C.prog (fn.params.toList ++ s.plain.varTypes C.prog) (ds ++ gs)).all (· ≤ reachBytes) = true → X W args → W.ShapedOpen C.prog →
      Calls C.prog f args W fun e W' => ∃ v, e = .returned v ∧ s.post enc C.prog fn apart fresh handsOn again W args v W') :
    ReturnsInHanded a C os f .any (fun w args => (s.pre enc C.prog fn conds apart w args ∧ X w args) ∧ sizedMet enc C.prog fn (OpenSpec.ofChange s) apart w args) (s.post enc C.prog fn apart fresh handsOn again) := by
  refine returnsInHanded_of_calls own started noInit witness ?_
  intro w tape i _ hsh _ hok hpre _
  obtain ⟨_, _, _, fn', hfn', _, _, _, _, hval⟩ := hok
  have e : fn' = fn := Option.some.inj (hfn'.symm.trans hfn)
  subst e
  obtain ⟨⟨⟨ds, gs, before, hw, _⟩, hx⟩, hz⟩ := hpre
  have hw' := DataW.Whole.of_heap (w' := w.forCall tape i) (by rfl) hw
  refine (contract (w.forCall tape i) w.heap.size i.args ds gs before hval hw' (hz.weights hw) (hX _ _ _ (by rfl) hx) hsh).mono fun e W' ⟨v, he, hp⟩ => ?_
  subst he
  exact ChangeSpec.post_blind hp
end Go.Proofs.YtoikneogdbdplaaDoor
/-
  DERIVED: THE SHELF's CONTRACTS AT THIS DUMP, IN PLAIN WORDS (tools/lay-plain.mjs out of 'TrydShelf.lean', which tools/lay-shelf.mjs wrote): THE SAME DECLARATIONS UNDER THE SAME NAMES: 'import', 'namespace', 'open', 'def', 'theorem' AND NOTHING ELSE: no command of the shelf's: FOR A HAND-IN. Each laying: the table of numbers ('.._ren') and one theorem, a field a fact of the dump's own or the kernel's comparison; each contract: ONE APPLICATION.
-/
namespace Go.Proofs
open Go.Shelf
def Tryd.lays169_ren : Go.Shelf.Ren := ⟨fun | 169 => 79 | n => n, fun | 70 => 115 | 9 => 9 | 0 => 0 | 72 => 118 | 37 => 116 | 127 => 145 | 3 => 3 | 5 => 5 | n => n, fun | n => n⟩
theorem Tryd.lays169 : Go.Proofs.Lays.n169 Tryd.prog Tryd.lays169_ren := {
  mixed := by kernel_rfl
  f169 := Tryd.func79.trans (congrArg some (by kernel_rfl))
  t0 := Tryd.underlying0
  a0 := Tryd.isAgg0
  z0 := Tryd.sizeOf0
  v0 := Tryd.zeroValue0
  t3 := Tryd.underlying3
  a3 := Tryd.isAgg3
  z3 := Tryd.sizeOf3
  v3 := Tryd.zeroValue3
  t9 := Tryd.underlying9
  a9 := Tryd.isAgg9
  z9 := Tryd.sizeOf9
  v9 := Tryd.zeroValue9
  t37 := Tryd.underlying116
  a37 := Tryd.isAgg116
  z37 := Tryd.sizeOf116
  v37 := Tryd.zeroValue116
  t70 := Tryd.underlying115
  a70 := Tryd.isAgg115
  z70 := Tryd.sizeOf115
  v70 := Tryd.zeroValue115
  t72 := Tryd.underlying118
  a72 := Tryd.isAgg118
  z72 := Tryd.sizeOf118
  v72 := Tryd.zeroValue118
  t127 := Tryd.underlying145
  a127 := Tryd.isAgg145
  z127 := Tryd.sizeOf145
  v127 := Tryd.zeroValue145 }
theorem Tryd.Builder_Extra_169 : Builder.Extra Tryd.prog Tryd.lays169_ren := {
  sizeBuilder := by kernel_rfl
  liesBuilder := by kernel_rfl
  t5 := Tryd.underlying5
  a5 := Tryd.isAgg5
  z5 := Tryd.sizeOf5
  v5 := Tryd.zeroValue5
  infoByte := by kernel_rfl
  cellsByte := by kernel_rfl
  sizeByte := by kernel_rfl
  neB5 := by decide }
def Tryd.lays161_ren : Go.Shelf.Ren := ⟨fun | 161 => 122 | 231 => 148 | 227 => 136 | 233 => 149 | 235 => 150 | 228 => 153 | 197 => 134 | 151 => 161 | 260 => 159 | 152 => 151 | 137 => 131 | 119 => 170 | 224 => 157 | 225 => 156 | 217 => 155 | 266 => 171 | n => n, fun | 9 => 9 | 4 => 4 | 3 => 3 | 5 => 5 | 117 => 156 | 116 => 155 | 0 => 0 | 124 => 159 | 105 => 151 | 21 => 21 | 119 => 186 | 46 => 171 | 139 => 189 | 138 => 188 | n => n, fun | 3 => 1 | 4 => 2 | n => n⟩
theorem Tryd.lays161 : Go.Proofs.Lays.n161 Tryd.prog Tryd.lays161_ren := {
  mixed := by kernel_rfl
  f119 := Tryd.func170.trans (congrArg some (by kernel_rfl))
  f137 := Tryd.func131.trans (congrArg some (by kernel_rfl))
  f151 := Tryd.func161.trans (congrArg some (by kernel_rfl))
  f152 := Tryd.func151.trans (congrArg some (by kernel_rfl))
  f161 := Tryd.func122.trans (congrArg some (by kernel_rfl))
  f197 := Tryd.func134.trans (congrArg some (by kernel_rfl))
  f217 := Tryd.func155.trans (congrArg some (by kernel_rfl))
  f224 := Tryd.func157.trans (congrArg some (by kernel_rfl))
  f225 := Tryd.func156.trans (congrArg some (by kernel_rfl))
  f227 := Tryd.func136.trans (congrArg some (by kernel_rfl))
  f228 := Tryd.func153.trans (congrArg some (by kernel_rfl))
  f231 := Tryd.func148.trans (congrArg some (by kernel_rfl))
  f233 := Tryd.func149.trans (congrArg some (by kernel_rfl))
  f235 := Tryd.func150.trans (congrArg some (by kernel_rfl))
  f260 := Tryd.func159.trans (congrArg some (by kernel_rfl))
  f266 := Tryd.func171.trans (congrArg some (by kernel_rfl))
  t0 := Tryd.underlying0
  a0 := Tryd.isAgg0
  z0 := Tryd.sizeOf0
  v0 := Tryd.zeroValue0
  t3 := Tryd.underlying3
  a3 := Tryd.isAgg3
  z3 := Tryd.sizeOf3
  v3 := Tryd.zeroValue3
  t4 := Tryd.underlying4
  a4 := Tryd.isAgg4
  z4 := Tryd.sizeOf4
  v4 := Tryd.zeroValue4
  t5 := Tryd.underlying5
  a5 := Tryd.isAgg5
  z5 := Tryd.sizeOf5
  v5 := Tryd.zeroValue5
  t9 := Tryd.underlying9
  a9 := Tryd.isAgg9
  z9 := Tryd.sizeOf9
  v9 := Tryd.zeroValue9
  t21 := Tryd.underlying21
  a21 := Tryd.isAgg21
  z21 := Tryd.sizeOf21
  v21 := Tryd.zeroValue21
  t46 := Tryd.underlying171
  a46 := Tryd.isAgg171
  z46 := Tryd.sizeOf171
  v46 := Tryd.zeroValue171
  t105 := Tryd.underlying151
  a105 := Tryd.isAgg151
  z105 := Tryd.sizeOf151
  v105 := Tryd.zeroValue151
  t116 := Tryd.underlying155
  a116 := Tryd.isAgg155
  z116 := Tryd.sizeOf155
  t117 := Tryd.underlying156
  a117 := Tryd.isAgg156
  z117 := Tryd.sizeOf156
  v117 := Tryd.zeroValue156
  t119 := Tryd.underlying186
  a119 := Tryd.isAgg186
  z119 := Tryd.sizeOf186
  t124 := Tryd.underlying159
  a124 := Tryd.isAgg159
  z124 := Tryd.sizeOf159
  v124 := Tryd.zeroValue159
  t138 := Tryd.underlying188
  a138 := Tryd.isAgg188
  z138 := Tryd.sizeOf188
  v138 := Tryd.zeroValue188
  t139 := Tryd.underlying189
  a139 := Tryd.isAgg189
  z139 := Tryd.sizeOf189
  v139 := Tryd.zeroValue189
  g3 := by kernel_rfl
  g4 := by kernel_rfl }
def Tryd.lays160_ren : Go.Shelf.Ren := ⟨fun | 160 => 121 | 232 => 135 | 231 => 148 | 227 => 136 | 234 => 137 | 233 => 149 | 236 => 138 | 235 => 150 | 228 => 153 | 271 => 160 | 151 => 161 | 197 => 134 | 120 => 173 | 152 => 151 | 260 => 159 | 137 => 131 | 119 => 170 | 224 => 157 | 225 => 156 | 217 => 155 | 266 => 171 | n => n, fun | 9 => 9 | 4 => 4 | 3 => 3 | 5 => 5 | 117 => 156 | 116 => 155 | 0 => 0 | 124 => 159 | 21 => 21 | 105 => 151 | 46 => 171 | 119 => 186 | 139 => 189 | 138 => 188 | n => n, fun | 3 => 1 | 4 => 2 | n => n⟩
theorem Tryd.lays160 : Go.Proofs.Lays.n160 Tryd.prog Tryd.lays160_ren := {
  mixed := by kernel_rfl
  f119 := Tryd.func170.trans (congrArg some (by kernel_rfl))
  f120 := Tryd.func173.trans (congrArg some (by kernel_rfl))
  f137 := Tryd.func131.trans (congrArg some (by kernel_rfl))
  f151 := Tryd.func161.trans (congrArg some (by kernel_rfl))
  f152 := Tryd.func151.trans (congrArg some (by kernel_rfl))
  f160 := Tryd.func121.trans (congrArg some (by kernel_rfl))
  f197 := Tryd.func134.trans (congrArg some (by kernel_rfl))
  f217 := Tryd.func155.trans (congrArg some (by kernel_rfl))
  f224 := Tryd.func157.trans (congrArg some (by kernel_rfl))
  f225 := Tryd.func156.trans (congrArg some (by kernel_rfl))
  f227 := Tryd.func136.trans (congrArg some (by kernel_rfl))
  f228 := Tryd.func153.trans (congrArg some (by kernel_rfl))
  f231 := Tryd.func148.trans (congrArg some (by kernel_rfl))
  f232 := Tryd.func135.trans (congrArg some (by kernel_rfl))
  f233 := Tryd.func149.trans (congrArg some (by kernel_rfl))
  f234 := Tryd.func137.trans (congrArg some (by kernel_rfl))
  f235 := Tryd.func150.trans (congrArg some (by kernel_rfl))
  f236 := Tryd.func138.trans (congrArg some (by kernel_rfl))
  f260 := Tryd.func159.trans (congrArg some (by kernel_rfl))
  f266 := Tryd.func171.trans (congrArg some (by kernel_rfl))
  f271 := Tryd.func160.trans (congrArg some (by kernel_rfl))
  t0 := Tryd.underlying0
  a0 := Tryd.isAgg0
  z0 := Tryd.sizeOf0
  v0 := Tryd.zeroValue0
  t3 := Tryd.underlying3
  a3 := Tryd.isAgg3
  z3 := Tryd.sizeOf3
  v3 := Tryd.zeroValue3
  t4 := Tryd.underlying4
  a4 := Tryd.isAgg4
  z4 := Tryd.sizeOf4
  v4 := Tryd.zeroValue4
  t5 := Tryd.underlying5
  a5 := Tryd.isAgg5
  z5 := Tryd.sizeOf5
  v5 := Tryd.zeroValue5
  t9 := Tryd.underlying9
  a9 := Tryd.isAgg9
  z9 := Tryd.sizeOf9
  v9 := Tryd.zeroValue9
  t21 := Tryd.underlying21
  a21 := Tryd.isAgg21
  z21 := Tryd.sizeOf21
  v21 := Tryd.zeroValue21
  t46 := Tryd.underlying171
  a46 := Tryd.isAgg171
  z46 := Tryd.sizeOf171
  v46 := Tryd.zeroValue171
  t105 := Tryd.underlying151
  a105 := Tryd.isAgg151
  z105 := Tryd.sizeOf151
  v105 := Tryd.zeroValue151
  t116 := Tryd.underlying155
  a116 := Tryd.isAgg155
  z116 := Tryd.sizeOf155
  t117 := Tryd.underlying156
  a117 := Tryd.isAgg156
  z117 := Tryd.sizeOf156
  v117 := Tryd.zeroValue156
  t119 := Tryd.underlying186
  a119 := Tryd.isAgg186
  z119 := Tryd.sizeOf186
  t124 := Tryd.underlying159
  a124 := Tryd.isAgg159
  z124 := Tryd.sizeOf159
  v124 := Tryd.zeroValue159
  t138 := Tryd.underlying188
  a138 := Tryd.isAgg188
  z138 := Tryd.sizeOf188
  v138 := Tryd.zeroValue188
  t139 := Tryd.underlying189
  a139 := Tryd.isAgg189
  z139 := Tryd.sizeOf189
  v139 := Tryd.zeroValue189
  g3 := by kernel_rfl
  g4 := by kernel_rfl }
def Tryd.lays119_ren : Go.Shelf.Ren := ⟨fun | 119 => 170 | n => n, fun | 21 => 21 | 4 => 4 | n => n, fun | n => n⟩
theorem Tryd.lays119 : Go.Proofs.Lays.n119 Tryd.prog Tryd.lays119_ren := {
  mixed := by kernel_rfl
  f119 := Tryd.func170.trans (congrArg some (by kernel_rfl))
  t4 := Tryd.underlying4
  a4 := Tryd.isAgg4
  z4 := Tryd.sizeOf4
  v4 := Tryd.zeroValue4
  t21 := Tryd.underlying21
  a21 := Tryd.isAgg21
  z21 := Tryd.sizeOf21
  v21 := Tryd.zeroValue21 }

theorem Tryd.utf8_ValidRune (r : Int) (w : World) :
    Calls Tryd.prog 170 #[.int .i32 r] w fun e w' => e = .returned (.bool (Lib.validRune r)) ∧ w' = w := Any.utf8_ValidRune Tryd.lays119 r w
def Tryd.lays137_ren : Go.Shelf.Ren := ⟨fun | 137 => 131 | 217 => 155 | 266 => 171 | n => n, fun | 9 => 9 | 5 => 5 | 3 => 3 | n => n, fun | n => n⟩
theorem Tryd.lays137 : Go.Proofs.Lays.n137 Tryd.prog Tryd.lays137_ren := {
  mixed := by kernel_rfl
  f137 := Tryd.func131.trans (congrArg some (by kernel_rfl))
  f217 := Tryd.func155.trans (congrArg some (by kernel_rfl))
  f266 := Tryd.func171.trans (congrArg some (by kernel_rfl))
  t3 := Tryd.underlying3
  a3 := Tryd.isAgg3
  z3 := Tryd.sizeOf3
  v3 := Tryd.zeroValue3
  t5 := Tryd.underlying5
  a5 := Tryd.isAgg5
  z5 := Tryd.sizeOf5
  v5 := Tryd.zeroValue5
  t9 := Tryd.underlying9
  a9 := Tryd.isAgg9
  z9 := Tryd.sizeOf9
  v9 := Tryd.zeroValue9 }
open Go.RowKit in

theorem Tryd.strings_IndexByte (s : ByteArray) (c : Int) (w : World) :
    Calls Tryd.prog 131 #[.string s, .int .u8 c] w fun e w' => e = .returned (.int .i64 (Lib.indexByte s.data.toList c.toNat.toUInt8)) ∧ w' = w := Any.strings_IndexByte Tryd.lays137 s c w
open Go.RowKit in

theorem Tryd.Builder_String_any_k (B b : Nat) (l : List UInt8) (w : World) (h : Lib.IsBuilderF 118 5 B b (Lib.byteCells l) w) (hBw : B ≤ w.heap.size) :
    Calls Tryd.prog 79 #[.pointer (some ⟨b, 0, none⟩)] w fun e w' => e = .returned (.string ⟨l.toArray⟩) ∧ (Lib.IsBuilderF 118 5 B b (Lib.byteCells l) w' ∧ Below B w w' ∧ Lib.OthersKept 5 (some b) w w') := Any.Builder_String_any_k Tryd.lays169 Tryd.Builder_Extra_169 B b l w h hBw
def Tryd.lays145_ren : Go.Shelf.Ren := ⟨fun | 145 => 65 | 220 => 102 | 219 => 130 | 217 => 155 | 225 => 156 | 224 => 157 | 267 => 158 | 266 => 171 | 314 => 172 | n => n, fun | 9 => 9 | 4 => 4 | 59 => 102 | 3 => 3 | 5 => 5 | 46 => 171 | 146 => 184 | 51 => 183 | n => n, fun | 1 => 0 | n => n⟩
theorem Tryd.lays145 : Go.Proofs.Lays.n145 Tryd.prog Tryd.lays145_ren := {
  mixed := by kernel_rfl
  f145 := Tryd.func65.trans (congrArg some (by kernel_rfl))
  f217 := Tryd.func155.trans (congrArg some (by kernel_rfl))
  f219 := Tryd.func130.trans (congrArg some (by kernel_rfl))
  f220 := Tryd.func102.trans (congrArg some (by kernel_rfl))
  f224 := Tryd.func157.trans (congrArg some (by kernel_rfl))
  f225 := Tryd.func156.trans (congrArg some (by kernel_rfl))
  f266 := Tryd.func171.trans (congrArg some (by kernel_rfl))
  f267 := Tryd.func158.trans (congrArg some (by kernel_rfl))
  f314 := Tryd.func172.trans (congrArg some (by kernel_rfl))
  t3 := Tryd.underlying3
  a3 := Tryd.isAgg3
  z3 := Tryd.sizeOf3
  v3 := Tryd.zeroValue3
  t4 := Tryd.underlying4
  a4 := Tryd.isAgg4
  z4 := Tryd.sizeOf4
  v4 := Tryd.zeroValue4
  t5 := Tryd.underlying5
  a5 := Tryd.isAgg5
  z5 := Tryd.sizeOf5
  v5 := Tryd.zeroValue5
  t9 := Tryd.underlying9
  a9 := Tryd.isAgg9
  z9 := Tryd.sizeOf9
  v9 := Tryd.zeroValue9
  t46 := Tryd.underlying171
  a46 := Tryd.isAgg171
  z46 := Tryd.sizeOf171
  v46 := Tryd.zeroValue171
  t51 := Tryd.underlying183
  a51 := Tryd.isAgg183
  z51 := Tryd.sizeOf183
  v51 := Tryd.zeroValue183
  t59 := Tryd.underlying102
  a59 := Tryd.isAgg102
  z59 := Tryd.sizeOf102
  v59 := Tryd.zeroValue102
  t146 := Tryd.underlying184
  a146 := Tryd.isAgg184
  z146 := Tryd.sizeOf184
  v146 := Tryd.zeroValue184
  g1 := by kernel_rfl }
open Go.RowKit Go.Lib in

theorem Tryd.strings_Cut (s sep : ByteArray) (m : Int) (w : World) (hs : s.size < 4294967281) (hm : w.cell? ⟨0, 0, none⟩ = some (.int .i64 m)) :
    Calls Tryd.prog 65 #[.string s, .string sep] w fun e w' => e = .returned (.tuple #[.string ⟨(Lib.cut s.data.toList sep.data.toList).1.toArray⟩, .string ⟨(Lib.cut s.data.toList sep.data.toList).2.1.toArray⟩, .bool (Lib.cut s.data.toList sep.data.toList).2.2]) ∧ ∃ n, w' = w.drewN n := Any.strings_Cut Tryd.lays145 s sep m w hs hm
def Tryd.lays152_ren : Go.Shelf.Ren := ⟨fun | 152 => 151 | 137 => 131 | 119 => 170 | 224 => 157 | 225 => 156 | 217 => 155 | 266 => 171 | n => n, fun | 9 => 9 | 21 => 21 | 3 => 3 | 4 => 4 | 5 => 5 | 0 => 0 | 46 => 171 | n => n, fun | n => n⟩
theorem Tryd.lays152 : Go.Proofs.Lays.n152 Tryd.prog Tryd.lays152_ren := {
  mixed := by kernel_rfl
  f119 := Tryd.func170.trans (congrArg some (by kernel_rfl))
  f137 := Tryd.func131.trans (congrArg some (by kernel_rfl))
  f152 := Tryd.func151.trans (congrArg some (by kernel_rfl))
  f217 := Tryd.func155.trans (congrArg some (by kernel_rfl))
  f224 := Tryd.func157.trans (congrArg some (by kernel_rfl))
  f225 := Tryd.func156.trans (congrArg some (by kernel_rfl))
  f266 := Tryd.func171.trans (congrArg some (by kernel_rfl))
  t0 := Tryd.underlying0
  a0 := Tryd.isAgg0
  z0 := Tryd.sizeOf0
  v0 := Tryd.zeroValue0
  t3 := Tryd.underlying3
  a3 := Tryd.isAgg3
  z3 := Tryd.sizeOf3
  v3 := Tryd.zeroValue3
  t4 := Tryd.underlying4
  a4 := Tryd.isAgg4
  z4 := Tryd.sizeOf4
  v4 := Tryd.zeroValue4
  t5 := Tryd.underlying5
  a5 := Tryd.isAgg5
  z5 := Tryd.sizeOf5
  v5 := Tryd.zeroValue5
  t9 := Tryd.underlying9
  a9 := Tryd.isAgg9
  z9 := Tryd.sizeOf9
  v9 := Tryd.zeroValue9
  t21 := Tryd.underlying21
  a21 := Tryd.isAgg21
  z21 := Tryd.sizeOf21
  v21 := Tryd.zeroValue21
  t46 := Tryd.underlying171
  a46 := Tryd.isAgg171
  z46 := Tryd.sizeOf171
  v46 := Tryd.zeroValue171 }
open Go.RowKit Go.Lib in
theorem Tryd.strings_IndexRune_ascii (s : ByteArray) (r : Int) (w : World) (h0 : 0 ≤ r) (h1 : r < 128) :
    Calls Tryd.prog 151 #[.string s, .int .i32 r] w fun e w' => e = .returned (.int .i64 (Lib.indexByte s.data.toList r.toNat.toUInt8)) ∧ w' = w := Any.strings_IndexRune_ascii Tryd.lays152 s r w h0 h1
def Tryd.lays226_ren : Go.Shelf.Ren := ⟨fun | 226 => 152 | n => n, fun | 3 => 3 | 4 => 4 | n => n, fun | n => n⟩
theorem Tryd.lays226 : Go.Proofs.Lays.n226 Tryd.prog Tryd.lays226_ren := {
  mixed := by kernel_rfl
  f226 := Tryd.func152.trans (congrArg some (by kernel_rfl))
  t3 := Tryd.underlying3
  a3 := Tryd.isAgg3
  z3 := Tryd.sizeOf3
  v3 := Tryd.zeroValue3
  t4 := Tryd.underlying4
  a4 := Tryd.isAgg4
  z4 := Tryd.sizeOf4
  v4 := Tryd.zeroValue4 }
open Go.RowKit Go.Lib in
theorem Tryd.strings_shouldUseASCIISet (n : Int) (w : World) :
    Calls Tryd.prog 152 #[.int .i64 n] w fun e w' => e = .returned (.bool (decide (8 < n))) ∧ w' = w := Any.strings_shouldUseASCIISet Tryd.lays226 n w
def Tryd.lays153_ren : Go.Shelf.Ren := ⟨fun | 153 => 123 | 152 => 151 | 226 => 152 | 227 => 136 | 228 => 153 | 137 => 131 | 119 => 170 | 224 => 157 | 225 => 156 | 217 => 155 | 266 => 171 | n => n, fun | 9 => 9 | 3 => 3 | 4 => 4 | 5 => 5 | 21 => 21 | 117 => 156 | 116 => 155 | 0 => 0 | 46 => 171 | 124 => 159 | n => n, fun | n => n⟩
theorem Tryd.lays153 : Go.Proofs.Lays.n153 Tryd.prog Tryd.lays153_ren := {
  mixed := by kernel_rfl
  f119 := Tryd.func170.trans (congrArg some (by kernel_rfl))
  f137 := Tryd.func131.trans (congrArg some (by kernel_rfl))
  f152 := Tryd.func151.trans (congrArg some (by kernel_rfl))
  f153 := Tryd.func123.trans (congrArg some (by kernel_rfl))
  f217 := Tryd.func155.trans (congrArg some (by kernel_rfl))
  f224 := Tryd.func157.trans (congrArg some (by kernel_rfl))
  f225 := Tryd.func156.trans (congrArg some (by kernel_rfl))
  f226 := Tryd.func152.trans (congrArg some (by kernel_rfl))
  f227 := Tryd.func136.trans (congrArg some (by kernel_rfl))
  f228 := Tryd.func153.trans (congrArg some (by kernel_rfl))
  f266 := Tryd.func171.trans (congrArg some (by kernel_rfl))
  t0 := Tryd.underlying0
  a0 := Tryd.isAgg0
  z0 := Tryd.sizeOf0
  v0 := Tryd.zeroValue0
  t3 := Tryd.underlying3
  a3 := Tryd.isAgg3
  z3 := Tryd.sizeOf3
  v3 := Tryd.zeroValue3
  t4 := Tryd.underlying4
  a4 := Tryd.isAgg4
  z4 := Tryd.sizeOf4
  v4 := Tryd.zeroValue4
  t5 := Tryd.underlying5
  a5 := Tryd.isAgg5
  z5 := Tryd.sizeOf5
  v5 := Tryd.zeroValue5
  t9 := Tryd.underlying9
  a9 := Tryd.isAgg9
  z9 := Tryd.sizeOf9
  v9 := Tryd.zeroValue9
  t21 := Tryd.underlying21
  a21 := Tryd.isAgg21
  z21 := Tryd.sizeOf21
  v21 := Tryd.zeroValue21
  t46 := Tryd.underlying171
  a46 := Tryd.isAgg171
  z46 := Tryd.sizeOf171
  v46 := Tryd.zeroValue171
  t116 := Tryd.underlying155
  a116 := Tryd.isAgg155
  z116 := Tryd.sizeOf155
  t117 := Tryd.underlying156
  a117 := Tryd.isAgg156
  z117 := Tryd.sizeOf156
  v117 := Tryd.zeroValue156
  t124 := Tryd.underlying159
  a124 := Tryd.isAgg159
  z124 := Tryd.sizeOf159
  v124 := Tryd.zeroValue159 }
def Tryd.lays260_ren : Go.Shelf.Ren := ⟨fun | 260 => 159 | n => n, fun | 9 => 9 | 21 => 21 | 3 => 3 | 4 => 4 | 5 => 5 | 119 => 186 | 0 => 0 | 46 => 171 | 139 => 189 | 138 => 188 | n => n, fun | 3 => 1 | 4 => 2 | n => n⟩
theorem Tryd.lays260 : Go.Proofs.Lays.n260 Tryd.prog Tryd.lays260_ren := {
  mixed := by kernel_rfl
  f260 := Tryd.func159.trans (congrArg some (by kernel_rfl))
  t0 := Tryd.underlying0
  a0 := Tryd.isAgg0
  z0 := Tryd.sizeOf0
  v0 := Tryd.zeroValue0
  t3 := Tryd.underlying3
  a3 := Tryd.isAgg3
  z3 := Tryd.sizeOf3
  v3 := Tryd.zeroValue3
  t4 := Tryd.underlying4
  a4 := Tryd.isAgg4
  z4 := Tryd.sizeOf4
  v4 := Tryd.zeroValue4
  t5 := Tryd.underlying5
  a5 := Tryd.isAgg5
  z5 := Tryd.sizeOf5
  v5 := Tryd.zeroValue5
  t9 := Tryd.underlying9
  a9 := Tryd.isAgg9
  z9 := Tryd.sizeOf9
  v9 := Tryd.zeroValue9
  t21 := Tryd.underlying21
  a21 := Tryd.isAgg21
  z21 := Tryd.sizeOf21
  v21 := Tryd.zeroValue21
  t46 := Tryd.underlying171
  a46 := Tryd.isAgg171
  z46 := Tryd.sizeOf171
  v46 := Tryd.zeroValue171
  t119 := Tryd.underlying186
  a119 := Tryd.isAgg186
  z119 := Tryd.sizeOf186
  t138 := Tryd.underlying188
  a138 := Tryd.isAgg188
  z138 := Tryd.sizeOf188
  v138 := Tryd.zeroValue188
  t139 := Tryd.underlying189
  a139 := Tryd.isAgg189
  z139 := Tryd.sizeOf189
  v139 := Tryd.zeroValue189
  g3 := by kernel_rfl
  g4 := by kernel_rfl }
end Go.Proofs
set_option linter.unusedVariables false
namespace Go.Proofs.YtoikneogdbdplaaDoor.Fn
open Go.RowKit Go.Proofs.YtoikneogdbdplaaDoorW.PrintWords

/-! The package variables that the walks read: unicode/utf8's tables; internal/bytealg.MaxLen, some number. -/
structure Glob (w : World) : Prop where
  tabs : Lib.Utf8Tabs 1 2 w
  max : ∃ m : Int, w.cell? ⟨0, 0, none⟩ = some (.int .i64 m)
theorem cell_inside {w : World} {a : Addr} {v : Value} (h : w.cell? a = some v) : a.block < w.heap.size := by
  obtain ⟨o, ho, _⟩ := not_walk_of_cell h
  exact (Array.getElem?_eq_some_iff.1 ho).1
theorem Glob.below {w W : World} (h : Glob w) (hb : Below w.heap.size w W) : Glob W := by
  obtain ⟨m, hm⟩ := h.max
  exact ⟨Utf8Tabs_below h.tabs hb, m, (hb.cell (cell_inside hm)).trans hm⟩
theorem Glob.drawn {w W : World} (h : Glob w) (hd : Drawn0 w W) : Glob W := h.below hd.below
theorem glob_of {W : World} (hL : laidMetH Tryd.prog listed W) (hS : W.ShapedOpen Tryd.prog) : Glob W := by
  have hL' : laidMet Tryd.prog listed W := hL
  have h1 : Lib.VarReads Tryd.prog W "unicode/utf8.first" Lib.firstData := by
    have := Lib.laidMet.reads hL' (n := "unicode/utf8.first") (d := Rows.laid_unicode_utf8_first) (.tail _ (.head _))
    rw [show Rows.laid_unicode_utf8_first = Lib.firstData from Pinned.utf8First_eq] at this
    exact this
  have h2 : Lib.VarReads Tryd.prog W "unicode/utf8.acceptRanges" Lib.acceptData := Lib.laidMet.reads hL' (.head _)
  refine ⟨utf8Tabs_of_reads (ρ := Tryd.lays260_ren) Tryd.lays260 ⟨by kernel_rfl, by kernel_rfl, by kernel_rfl, by kernel_rfl, by kernel_rfl, by kernel_rfl, by kernel_rfl⟩ h1 h2, ?_⟩
  exact cell_of_shapedOpen_int (P := Tryd.prog) (g := 0) (t := 3) (zero := #[.int .i64 0]) hS (of_decide_eq_true (by kernel_rfl)) (by kernel_rfl) rfl (by kernel_rfl) (by kernel_rfl) Tryd.underlying3
end Go.Proofs.YtoikneogdbdplaaDoor.Fn
set_option linter.unusedVariables false
namespace Go.Proofs.YtoikneogdbdplaaDoor.Pl

/-! What the functions that are not printed compute: plain Lean. -/
abbrev Bytes := List UInt8
def str (l : Bytes) : ByteArray := ⟨l.toArray⟩
theorem str_data (l : Bytes) : (str l).data.toList = l := by simp [str]
theorem str_toList (s : ByteArray) : str s.data.toList = s := by cases s; simp [str]
theorem str_size (l : Bytes) : (str l).size = l.length := by
  show l.toArray.size = _
  simp
theorem data_length (s : ByteArray) : s.data.toList.length = s.size := by
  show s.data.toList.length = s.data.size
  simp

def foldB (c : UInt8) : UInt8 := if 65 ≤ c.toNat ∧ c.toNat ≤ 90 then c + 32 else c
def fold (l : Bytes) : Bytes := l.map foldB
theorem fold_length (l : Bytes) : (fold l).length = l.length := by simp [fold]
theorem take_snoc (s : ByteArray) (k : Nat) (h : k < s.size) : s.data.toList.take (k + 1) = s.data.toList.take k ++ [s[k]] := by
  rw [List.take_succ_eq_append_getElem (by rw [data_length]; exact h)]
  rfl
theorem fold_snoc (s : ByteArray) (k : Nat) (h : k < s.size) : fold (s.data.toList.take (k + 1)) = fold (s.data.toList.take k) ++ [foldB s[k]] := by
  rw [take_snoc s k h]
  simp [fold]

theorem foldB_up (c : UInt8) (h : 65 ≤ (c.toNat : Int) ∧ (c.toNat : Int) ≤ 90) : (c.toNat : Int) + 32 = (foldB c).toNat := by
  unfold foldB
  rw [if_pos (by omega), UInt8.toNat_add]
  have : (32 : UInt8).toNat = 32 := rfl
  omega
theorem foldB_no (c : UInt8) (h : ¬ (65 ≤ (c.toNat : Int) ∧ (c.toNat : Int) ≤ 90)) : (c.toNat : Int) = (foldB c).toNat := by
  unfold foldB
  rw [if_neg (by omega)]

def width (s : ByteArray) (i : Nat) : Nat := (Utf8.decode s i).2
def sign (s : ByteArray) (i : Nat) : Nat := (Utf8.decode s i).1
theorem width_pos (s : ByteArray) (i : Nat) (h : i < s.size) : 1 ≤ width s i := by
  unfold width
  by_cases ha : (s[i]'h).toNat < 128
  · rw [decode_ascii s i h ha]
    exact Nat.le_refl _
  · exact (decode_high s i h (by omega)).2

theorem width_end (s : ByteArray) (i : Nat) (h : i < s.size) : i + (Utf8.decode s i).2 ≤ s.size := by
  rw [Lib.decode_at]
  unfold Lib.decodeN
  repeat' split
  all_goals (simp only []; omega)

def blank (r : Nat) : Bool := r == 32 || (r == 9 || (r == 13 || r == 10))
def words (s : ByteArray) : List ByteArray := Lib.goFieldsP blank s
end Go.Proofs.YtoikneogdbdplaaDoor.Pl
set_option linter.unusedVariables false
namespace Go.Proofs.YtoikneogdbdplaaDoor.Fn
open Go.RowKit Go.Proofs.YtoikneogdbdplaaDoorW.PrintWords

def strings_Cut.f (a0 a1 : ByteArray) : Option (ByteArray × ByteArray × Bool) :=
  if a0.size < 4294967281 then some (Pl.str (Lib.cut a0.data.toList a1.data.toList).1, Pl.str (Lib.cut a0.data.toList a1.data.toList).2.1, (Lib.cut a0.data.toList a1.data.toList).2.2) else none
theorem strings_Cut.calls (a0 a1 r1 r2 : ByteArray) (r3 : Bool) (w : World) (hG : Glob w) (h : strings_Cut.f a0 a1 = some (r1, r2, r3)) :
    Calls Tryd.prog 65 #[.string a0, .string a1] w fun e w' => e = .returned (.tuple #[.string r1, .string r2, .bool r3]) ∧ Below w.heap.size w w' := by
  unfold strings_Cut.f at h
  by_cases hs : a0.size < 4294967281
  · rw [if_pos hs] at h
    have HR := Option.some.inj h
    injection HR with e1 HR
    injection HR with e2 e3
    obtain ⟨m, hm⟩ := hG.max
    refine (Tryd.strings_Cut a0 a1 m w hs hm).mono ?_
    rintro e w' ⟨rfl, n, rfl⟩
    refine ⟨?_, pw_below_drewN (Below.refl _ w) n⟩
    rw [← e1, ← e2, ← e3]
    rfl
  · rw [if_neg hs] at h
    exact absurd h (by simp)
end Go.Proofs.YtoikneogdbdplaaDoor.Fn
namespace Go.Proofs.YtoikneogdbdplaaDoor.Fn
open Go.RowKit Go.Proofs.YtoikneogdbdplaaDoorW.PrintWords Go.Proofs.YtoikneogdbdplaaDoorW.PrintLast Go.Proofs.YtoikneogdbdplaaDoorW.PrintMore
attribute [local go_sem] max2_int min2_int max_two min_two max_three min_three max_four min_four
set_option linter.unusedVariables false
set_option linter.unusedSimpArgs false

/-! ### head_grow: function 96 -/
mutual
def head_grow.j0 : Nat → List (S30) → ByteArray → Bool → Option ((List (S30)) × Int)
 | 0, _, _, _ => none
 | k + 1, x0, x1, x13 => if x13 = true then (some (([] : List (S30)), 150)) else ((head_white.f x1).bind fun t144 => (if t144 = true then (if 0 ≤ (wrap64 ((x0.length : Int) - 1)) then (if (wrap64 ((x0.length : Int) - 1)) < (x0.length : Int) then (if ((rd_T30 x0 (wrap64 ((x0.length : Int) - 1))).f1).size + x1.size ≤ 9223372036854775807 then (some ((x0.set ((wrap64 ((x0.length : Int) - 1)) : Int).toNat (⟨(rd_T30 x0 (wrap64 ((x0.length : Int) - 1))).f0, ((rd_T30 x0 (wrap64 ((x0.length : Int) - 1))).f1) ++ x1⟩ : S30)), 0)) else (none)) else (none)) else (none)) else ((strings_Cut.f x1 (⟨#[58]⟩ : ByteArray)).bind fun bt147 => (if bt147.2.2 = true then ((head_named.f k bt147.1).bind fun t150 => (head_grow.j1 k x0 bt147.1 bt147.2.1 (!t150))) else (head_grow.j1 k x0 bt147.1 bt147.2.1 true)))))
def head_grow.j1 : Nat → List (S30) → ByteArray → ByteArray → Bool → Option ((List (S30)) × Int)
 | 0, _, _, _, _ => none
 | k + 1, x0, x6, x7, x47 => if x47 = true then (some (([] : List (S30)), 150)) else (if (x0.length : Int) = 100 then (some (([] : List (S30)), 8)) else (if x0.length < 4398046511104 then (some ((x0 ++ [(⟨x6, x7⟩ : S30)]), 0)) else (none)))
end
def head_grow.f (k : Nat) (l0 : List (S30)) (a1 : ByteArray) : Option ((List (S30)) × Int) := if (a1.size : Int) > 998 then (some (([] : List (S30)), 2)) else ((head_text.f k a1).bind fun t142 => (if t142 = true then ((head_white.f a1).bind fun t143 => (if t143 = true then (head_grow.j0 k l0 a1 ((l0.length : Int) == 0)) else (head_grow.j0 k l0 a1 false))) else (head_grow.j0 k l0 a1 true)))
theorem head_grow.mono_l : ∀ k, (∀ y0 y1 y2, LeO (head_grow.j0 k y0 y1 y2) (head_grow.j0 (k + 1) y0 y1 y2)) ∧ (∀ y0 y1 y2 y3, LeO (head_grow.j1 k y0 y1 y2 y3) (head_grow.j1 (k + 1) y0 y1 y2 y3))
 | 0 => ⟨fun _ _ _ r h => by simp [head_grow.j0] at h, fun _ _ _ _ r h => by simp [head_grow.j1] at h⟩
 | k + 1 => by
  obtain ⟨ih0, ih1⟩ := head_grow.mono_l k
  refine ⟨?_, ?_⟩
  ·intro y0 y1 y2
   unfold head_grow.j0
   repeat' first
   | (with_reducible exact ih0 _ _ _)
   | (with_reducible exact ih1 _ _ _ _)
   | (with_reducible exact head_named.mono _ _)
   | (with_reducible exact head_text.mono _ _)
   | (with_reducible exact LeO.refl _)
   | (with_reducible exact LeO.none _)
   | (with_reducible refine LeO.ite ?_ ?_)
   | (with_reducible refine LeO.bind ?_ (fun _ => ?_))
   | exact ih0 _ _ _
   | exact ih1 _ _ _ _
   | exact head_named.mono _ _
   | exact head_text.mono _ _
   | exact LeO.none _
   | refine LeO.ite ?_ ?_
   | refine LeO.bind ?_ (fun _ => ?_)
  ·intro y0 y1 y2 y3
   unfold head_grow.j1
   repeat' first
   | (with_reducible exact ih0 _ _ _)
   | (with_reducible exact ih1 _ _ _ _)
   | (with_reducible exact head_named.mono _ _)
   | (with_reducible exact head_text.mono _ _)
   | (with_reducible exact LeO.refl _)
   | (with_reducible exact LeO.none _)
   | (with_reducible refine LeO.ite ?_ ?_)
   | (with_reducible refine LeO.bind ?_ (fun _ => ?_))
   | exact ih0 _ _ _
   | exact ih1 _ _ _ _
   | exact head_named.mono _ _
   | exact head_text.mono _ _
   | exact LeO.none _
   | refine LeO.ite ?_ ?_
   | refine LeO.bind ?_ (fun _ => ?_)
theorem head_grow.mono : ∀ a0 a1 k, LeO (head_grow.f k a0 a1) (head_grow.f (k + 1) a0 a1) := by
 intro a0 a1 k
 obtain ⟨ih0, ih1⟩ := head_grow.mono_l k
 unfold head_grow.f
 repeat' first
   | (with_reducible exact ih0 _ _ _)
   | (with_reducible exact ih1 _ _ _ _)
   | (with_reducible exact head_named.mono _ _)
   | (with_reducible exact head_text.mono _ _)
   | (with_reducible exact LeO.refl _)
   | (with_reducible exact LeO.none _)
   | (with_reducible refine LeO.ite ?_ ?_)
   | (with_reducible refine LeO.bind ?_ (fun _ => ?_))
   | exact ih0 _ _ _
   | exact ih1 _ _ _ _
   | exact head_named.mono _ _
   | exact head_text.mono _ _
   | exact LeO.none _
   | refine LeO.ite ?_ ?_
   | refine LeO.bind ?_ (fun _ => ?_)
set_option maxHeartbeats 8000000 in
set_option maxRecDepth 100000 in
theorem head_grow.calls (k : Nat) (P0_ : Nat → Prop) (u9000_ : Value) (l0 : List (S30)) (a1 : ByteArray) (r1 : List (S30)) (r2 : Int) (w0 w : World) (hG : Glob w0) (hB : Below w0.heap.size w0 w) (ho0 : Kd.R k30 30 w w0.heap.size P0_ u9000_ l0) (h : head_grow.f k l0 a1 = some (r1, r2)) :
  Calls Tryd.prog 96 #[u9000_, .string a1] w fun e w' => ∃ v0_ : Value, e = .returned (.tuple #[v0_, .int .i64 r2]) ∧ Kd.R k30 30 w' w0.heap.size (fun k_ => (P0_ k_ ∨ w.heap.size ≤ k_)) v0_ r1 ∧ Below w0.heap.size w0 w' ∧ Kept w w' (fun k_ => P0_ k_) := by
 have hu30 := Tryd.underlying30
 have HO0 := Aside0.mk (show Kd.R k30 30 w w0.heap.size (fun k_ => (P0_ k_ ∨ w.heap.size ≤ k_)) u9000_ l0 from Kd.R_mono ho0 (fun k_ hk => (.inl hk)))
 have HK := Aside0.mk (Kept.refl w (fun k_ => P0_ k_))
 have HW0 := Aside0.mk hB.size
 have HB := Aside0.mk hB
 clear hB
 have H : (if (a1.size : Int) > 998 then (some (([] : List (S30)), 2)) else ((head_text.f k a1).bind fun t142 => (if t142 = true then ((head_white.f a1).bind fun t143 => (if t143 = true then (head_grow.j0 k l0 a1 ((l0.length : Int) == 0)) else (head_grow.j0 k l0 a1 false))) else (head_grow.j0 k l0 a1 true)))) = some (r1, r2) := h
 clear h
 by_cases c3 : (a1.size : Int) > 998
 ·rw [if_pos c3] at H
  have c3b0 : decide (998 < (a1.size : Int)) = true := decide_eq_true c3
  have c3b1 : decide (998 < a1.size) = true := decide_eq_true (by omega)
  clear c3
  simp only [Option.some.injEq, Prod.mk.injEq] at H
  obtain ⟨rfl, rfl⟩ := H
  go_enter Tryd.func96, Tryd.ntmps96
  go_wp2
  go_ret2
  exact ⟨_, by first | rfl | (simp [errW_none, errW_some] <;> rfl) | (simp [*, errW_none, errW_some] <;> rfl), by first | exact Kd.R_nil _ _ _ _ _ | exact Kd.N_nil _ _ _ _ _ | exact Kd.V_nil _ _ _ _ _ | exact Kd.Q_nil _ _ _ _ _ | exact Kd.S_nil _ _ _ _ _, bw, by repeat (first | (with_reducible first | exact HK.out | apply Kept.alloc | apply Kept.drewN | apply Kept.drew) | exact HK.out)⟩
 ·rw [if_neg c3] at H
  have c3b0 : decide (998 < (a1.size : Int)) = false := decide_eq_false c3
  have c3b1 : decide (998 < a1.size) = false := decide_eq_false (by omega)
  clear c3
  have HC4 := Aside0.mk H
  clear H
  go_enter Tryd.func96, Tryd.ntmps96
  go_upto_region 3 with (fail)
  go_cut [13] (fun v13 wc => ∃ (kq : Nat) (x13_3 : Bool), v13 = .bool x13_3 ∧ Aside0 (head_grow.j0 kq l0 a1 x13_3 = some (r1, r2)) ∧ Aside0 (kq ≤ k) ∧ Aside0 (Kd.R k30 30 wc w0.heap.size (fun k_ => (P0_ k_ ∨ w.heap.size ≤ k_)) u9000_ l0) ∧ Aside0 (Kept w wc (fun k_ => P0_ k_)) ∧ Aside0 (Below w0.heap.size w0 wc))
  case first =>
   have H := HC4.out
   clear HC4
   replace H := Option.bind_eq_some_iff.mp H
   obtain ⟨t142, A50, H⟩ := H
   replace H : (if t142 = true then ((head_white.f a1).bind fun t143 => (if t143 = true then (head_grow.j0 k l0 a1 ((l0.length : Int) == 0)) else (head_grow.j0 k l0 a1 false))) else (head_grow.j0 k l0 a1 true)) = some (r1, r2) := H
   have A5 := Aside0.mk A50
   clear A50
   by_cases c6 : t142 = true
   ·subst c6
    have H1 : ((head_white.f a1).bind fun t143 => (if t143 = true then (head_grow.j0 k l0 a1 ((l0.length : Int) == 0)) else (head_grow.j0 k l0 a1 false))) = some (r1, r2) := by rw [if_pos rfl] at H; exact H
    clear H
    have H := H1
    clear H1
    replace H := Option.bind_eq_some_iff.mp H
    obtain ⟨t143, A70, H⟩ := H
    replace H : (if t143 = true then (head_grow.j0 k l0 a1 ((l0.length : Int) == 0)) else (head_grow.j0 k l0 a1 false)) = some (r1, r2) := H
    have A7 := Aside0.mk A70
    clear A70
    by_cases c8 : t143 = true
    ·subst c8
     have H1 : (head_grow.j0 k l0 a1 ((l0.length : Int) == 0)) = some (r1, r2) := by rw [if_pos rfl] at H; exact H
     clear H
     have H := H1
     clear H1
     have H' := Aside0.mk H
     clear H
     go_wp2_with (first | ((with_reducible refine gate_callee (f := 118) rfl ?_); refine goesL_ (some 15) rfl rfl Tryd.func118 (by kernel_rfl) rfl #[.string a1] rfl am ?_; (with_reducible refine (head_text.calls k a1 true _ A5.out).mono ?_); rintro e w' ⟨rfl, ⟨nd, rfl⟩⟩; refine ⟨_, rfl, ?_⟩) | (go_at_call 119; (with_reducible refine (head_white.calls a1 true _ A7.out).mono ?_); rintro e w' ⟨rfl, ⟨nd, rfl⟩⟩; obtain ⟨Ao9, co9, eo9⟩ := Kd.R_slice HO0.out; subst eo9))
     go_meet
     case rel => exact ⟨_, (((l0.length : Int) == 0)), cl, H', ⟨by first | omega | exact Nat.le_refl _⟩, ⟨by (with_reducible repeat (first | apply Kd.R_alloc | apply Kd.R_drewN | apply Kd.R_drew)); exact HO0.out⟩, ⟨by repeat (first | (with_reducible first | exact HK.out | apply Kept.alloc | apply Kept.drewN | apply Kept.drew) | exact HK.out)⟩, ⟨bw⟩⟩
    ·replace c8 := Bool.eq_false_iff.mpr c8
     subst c8
     have H1 : (head_grow.j0 k l0 a1 false) = some (r1, r2) := by rw [if_neg (show ¬ (false = true) by decide)] at H; exact H
     clear H
     have H := H1
     clear H1
     have H' := Aside0.mk H
     clear H
     go_wp2_with (first | ((with_reducible refine gate_callee (f := 118) rfl ?_); refine goesL_ (some 15) rfl rfl Tryd.func118 (by kernel_rfl) rfl #[.string a1] rfl am ?_; (with_reducible refine (head_text.calls k a1 true _ A5.out).mono ?_); rintro e w' ⟨rfl, ⟨nd, rfl⟩⟩; refine ⟨_, rfl, ?_⟩) | (go_at_call 119; (with_reducible refine (head_white.calls a1 false _ A7.out).mono ?_); rintro e w' ⟨rfl, ⟨nd, rfl⟩⟩))
     go_meet
     case rel => exact ⟨_, (false), cl, H', ⟨by first | omega | exact Nat.le_refl _⟩, ⟨by (with_reducible repeat (first | apply Kd.R_alloc | apply Kd.R_drewN | apply Kd.R_drew)); exact HO0.out⟩, ⟨by repeat (first | (with_reducible first | exact HK.out | apply Kept.alloc | apply Kept.drewN | apply Kept.drew) | exact HK.out)⟩, ⟨bw⟩⟩
   ·replace c6 := Bool.eq_false_iff.mpr c6
    subst c6
    have H1 : (head_grow.j0 k l0 a1 true) = some (r1, r2) := by rw [if_neg (show ¬ (false = true) by decide)] at H; exact H
    clear H
    have H := H1
    clear H1
    have H' := Aside0.mk H
    clear H
    go_wp2_with (first | ((with_reducible refine gate_callee (f := 118) rfl ?_); refine goesL_ (some 15) rfl rfl Tryd.func118 (by kernel_rfl) rfl #[.string a1] rfl am ?_; (with_reducible refine (head_text.calls k a1 false _ A5.out).mono ?_); rintro e w' ⟨rfl, ⟨nd, rfl⟩⟩; refine ⟨_, rfl, ?_⟩))
    go_meet
    case rel => exact ⟨_, (true), cl, H', ⟨by first | omega | exact Nat.le_refl _⟩, ⟨by (with_reducible repeat (first | apply Kd.R_alloc | apply Kd.R_drewN | apply Kd.R_drew)); exact HO0.out⟩, ⟨by repeat (first | (with_reducible first | exact HK.out | apply Kept.alloc | apply Kept.drewN | apply Kept.drew) | exact HK.out)⟩, ⟨bw⟩⟩
  case rest =>
   clear HC4
   try clear c1
   try clear p2
   try clear c3
   try clear c3b0
   try clear c3b1
   try clear c6
   try clear c8
   try clear c9
   obtain ⟨kq, x13_3, rfl, HA, HJ3, HO_0, HK, HB⟩ := hcut
   cases kq with
   | zero => exact absurd HA.out (by simp [head_grow.j0])
   | succ kj3 =>
    have H := HA.out
    clear HA
    simp only [head_grow.j0] at H
    by_cases c10 : x13_3 = true
    ·subst c10
     have H1 : (some (([] : List (S30)), 150)) = some (r1, r2) := by rw [if_pos rfl] at H; exact H
     clear H
     have H := H1
     clear H1
     simp only [Option.some.injEq, Prod.mk.injEq] at H
     obtain ⟨rfl, rfl⟩ := H
     go_wp2
     go_ret2
     exact ⟨_, by first | rfl | (simp [errW_none, errW_some] <;> rfl) | (simp [*, errW_none, errW_some] <;> rfl), by first | exact Kd.R_nil _ _ _ _ _ | exact Kd.N_nil _ _ _ _ _ | exact Kd.V_nil _ _ _ _ _ | exact Kd.Q_nil _ _ _ _ _ | exact Kd.S_nil _ _ _ _ _, bw, by repeat (first | (with_reducible first | exact HK.out | apply Kept.alloc | apply Kept.drewN | apply Kept.drew) | exact HK.out)⟩
    ·replace c10 := Bool.eq_false_iff.mpr c10
     subst c10
     have H1 : ((head_white.f a1).bind fun t144 => (if t144 = true then (if 0 ≤ (wrap64 ((l0.length : Int) - 1)) then (if (wrap64 ((l0.length : Int) - 1)) < (l0.length : Int) then (if ((rd_T30 l0 (wrap64 ((l0.length : Int) - 1))).f1).size + a1.size ≤ 9223372036854775807 then (some ((l0.set ((wrap64 ((l0.length : Int) - 1)) : Int).toNat (⟨(rd_T30 l0 (wrap64 ((l0.length : Int) - 1))).f0, ((rd_T30 l0 (wrap64 ((l0.length : Int) - 1))).f1) ++ a1⟩ : S30)), 0)) else (none)) else (none)) else (none)) else ((strings_Cut.f a1 (⟨#[58]⟩ : ByteArray)).bind fun bt147 => (if bt147.2.2 = true then ((head_named.f kj3 bt147.1).bind fun t150 => (head_grow.j1 kj3 l0 bt147.1 bt147.2.1 (!t150))) else (head_grow.j1 kj3 l0 bt147.1 bt147.2.1 true))))) = some (r1, r2) := by rw [if_neg (show ¬ (false = true) by decide)] at H; exact H
     clear H
     have H := H1
     clear H1
     replace H := Option.bind_eq_some_iff.mp H
     obtain ⟨t144, A110, H⟩ := H
     replace H : (if t144 = true then (if 0 ≤ (wrap64 ((l0.length : Int) - 1)) then (if (wrap64 ((l0.length : Int) - 1)) < (l0.length : Int) then (if ((rd_T30 l0 (wrap64 ((l0.length : Int) - 1))).f1).size + a1.size ≤ 9223372036854775807 then (some ((l0.set ((wrap64 ((l0.length : Int) - 1)) : Int).toNat (⟨(rd_T30 l0 (wrap64 ((l0.length : Int) - 1))).f0, ((rd_T30 l0 (wrap64 ((l0.length : Int) - 1))).f1) ++ a1⟩ : S30)), 0)) else (none)) else (none)) else (none)) else ((strings_Cut.f a1 (⟨#[58]⟩ : ByteArray)).bind fun bt147 => (if bt147.2.2 = true then ((head_named.f kj3 bt147.1).bind fun t150 => (head_grow.j1 kj3 l0 bt147.1 bt147.2.1 (!t150))) else (head_grow.j1 kj3 l0 bt147.1 bt147.2.1 true)))) = some (r1, r2) := H
     have A11 := Aside0.mk A110
     clear A110
     by_cases c12 : t144 = true
     ·subst c12
      have H1 : (if 0 ≤ (wrap64 ((l0.length : Int) - 1)) then (if (wrap64 ((l0.length : Int) - 1)) < (l0.length : Int) then (if ((rd_T30 l0 (wrap64 ((l0.length : Int) - 1))).f1).size + a1.size ≤ 9223372036854775807 then (some ((l0.set ((wrap64 ((l0.length : Int) - 1)) : Int).toNat (⟨(rd_T30 l0 (wrap64 ((l0.length : Int) - 1))).f0, ((rd_T30 l0 (wrap64 ((l0.length : Int) - 1))).f1) ++ a1⟩ : S30)), 0)) else (none)) else (none)) else (none)) = some (r1, r2) := by rw [if_pos rfl] at H; exact H
      clear H
      have H := H1
      clear H1
      obtain ⟨ji13, hji13⟩ : ∃ j_ : Int, (wrap64 ((l0.length : Int) - 1)) = j_ := ⟨_, rfl⟩
      replace H : (if 0 ≤ (ji13) then (if (ji13) < (l0.length : Int) then (if ((rd_T30 l0 (ji13)).f1).size + a1.size ≤ 9223372036854775807 then (some ((l0.set ((ji13) : Int).toNat (⟨(rd_T30 l0 (ji13)).f0, ((rd_T30 l0 (ji13)).f1) ++ a1⟩ : S30)), 0)) else (none)) else (none)) else (none)) = some (r1, r2) := by first | (rw [hji13] at H; exact H) | (simp only [hji13] at H ⊢; exact H)
      (try rw [hji13] at A11)
      have hji13w : (IntKind.i64.wrap ((l0.length : Int) - 1)) = ji13 := (i64_w _).trans hji13
      by_cases c14 : 0 ≤ (ji13)
      ·rw [if_pos c14] at H
       have c14b0 : decide (0 ≤ (ji13)) = true := decide_eq_true c14
       clear c14
       by_cases c15 : (ji13) < (l0.length : Int)
       ·rw [if_pos c15] at H
        have c15b0 : decide ((ji13) < (l0.length : Int)) = true := decide_eq_true c15
        clear c15
        by_cases c16 : ((rd_T30 l0 (ji13)).f1).size + a1.size ≤ 9223372036854775807
        ·rw [if_pos c16] at H
         have c16b0 := eq_true c16
         have c16b1 : decide (((rd_T30 l0 (ji13)).f1).size + a1.size ≤ 9223372036854775807) = true := decide_eq_true c16
         try have c16b2 : (9223372036854775807 < ((rd_T30 l0 (ji13)).f1).size + a1.size) = False := eq_false (Nat.not_lt.2 c16)
         obtain ⟨y146, hy146⟩ : ∃ y_ : List (S30), y_ = (l0.set ((ji13) : Int).toNat (⟨(rd_T30 l0 (ji13)).f0, ((rd_T30 l0 (ji13)).f1) ++ a1⟩ : S30)) := ⟨_, rfl⟩
         replace H : (some (y146, 0)) = some (r1, r2) := by first | (rw [hy146]; with_reducible exact H) | (have H2_ := (Option.bind_some _ _).symm.trans H; rw [hy146]; with_reducible exact H2_) | (have H2_ := (Option.bind_some _ _).symm.trans H; with_reducible exact H2_) | with_reducible exact H | (rw [hy146]; exact H) | exact H
         have Ny146 := Aside0.mk hy146
         clear hy146
         simp only [Option.some.injEq, Prod.mk.injEq] at H
         obtain ⟨rfl, rfl⟩ := H
         go_wp2_with (first | ((with_reducible refine gate_callee (f := 119) rfl ?_); refine goesL_ (some 28) rfl rfl Tryd.func119 (by kernel_rfl) rfl #[.string a1] rfl am ?_; (with_reducible refine (head_white.calls a1 true _ A11.out).mono ?_); rintro e w' ⟨rfl, ⟨nd, rfl⟩⟩; refine ⟨_, rfl, ?_⟩; (try (rw [drewN_self wc]; generalize hq_ : World.drewN wc _ = wc; have n0_ : Aside0 (Kd.R k30 30 wc w0.heap.size (fun k_ => (P0_ k_ ∨ w.heap.size ≤ k_)) u9000_ l0) := ⟨by rw [← hq_]; exact (by (with_reducible repeat (first | apply Kd.R_alloc | apply Kd.R_drewN | apply Kd.R_drew)); exact HO_0.out)⟩; have n1_ : Aside0 (Kept w wc (fun k_ => P0_ k_)) := ⟨by rw [← hq_]; exact (by repeat (first | (with_reducible first | exact HK.out | apply Kept.alloc | apply Kept.drewN | apply Kept.drew) | exact HK.out))⟩; have n2_ : Aside0 (Below w0.heap.size w0 wc) := ⟨by rw [← hq_]; exact bw⟩; clear HO_0 HK HB hq_; have HO_0 := n0_; have HK := n1_; have HB := n2_; clear n0_ n1_ n2_)); obtain ⟨Ao18, co18, eo18⟩ := Kd.R_slice HO_0.out; subst eo18; have p145 : 0 ≤ ((ji13) : Int) := od; have q145 : (ji13) < (l0.length : Int) := od; obtain ⟨ad145, e145, hx145_0, hx145_1⟩ := at_T30 (Kd.R_reads' HO_0.out).2.2 (ji13) p145 q145; cases e145; replace p145 := eq_true p145; replace q145 := eq_true q145; have p17 : 0 ≤ ((ji13) : Int) := od; have q17 : ((ji13) : Int) < ((l0.length : Int) : Int) := od; obtain ⟨go17, co17, eo17, gb17, gl17, cl17, HG17⟩ := Kd.R_form HO_0.out (by omega); (first | cases eo17 | (injection eo17 with ea_ en_ ec_; (first | subst ea_ | (injection ea_ with ea_; subst ea_)); subst ec_; clear en_)); have GB17 := Aside0.mk gb17; have GG17 := Aside0.mk HG17; clear gb17 gl17 HG17; have HMgo17 := Aside0.mk (show (P0_ go17 ∨ w.heap.size ≤ go17) from (HO_0.out.1 _ rfl)); (first | simp only [add_plain] at hx145_0 | skip); (first | simp only [add_plain] at hx145_1 | skip); obtain ⟨ce17, hcl17, hM17, hcc17, hfr17⟩ := Kd.R_elem HO_0.out z30 ((ji13) : Int) p17 q17; obtain rfl := k30_openM hM17; have hx17_0 : wc.cell? ⟨go17, ((ji13) : Int).toNat * 2, none⟩ = some (.string ((rd_T30 l0 (ji13)).f0)) := hcc17 0 _ rfl; have hx17_1 : wc.cell? ⟨go17, ((ji13) : Int).toNat * 2 + 1, none⟩ = some (.string ((rd_T30 l0 (ji13)).f1)) := hcc17 1 _ rfl; have hf17_0 : wc.frozen? ⟨go17, ((ji13) : Int).toNat * 2, none⟩ = false := hfr17 0; have hf17_1 : wc.frozen? ⟨go17, ((ji13) : Int).toNat * 2 + 1, none⟩ = false := hfr17 1; clear hcl17 hcc17 hfr17 hM17; replace p17 := eq_true p17; replace q17 := eq_true q17; have HX19 := Aside0.mk (show Kd.R k30 30 wc w0.heap.size (fun k_ => (P0_ k_ ∨ w.heap.size ≤ k_)) (.slice (some ⟨go17, 0, none⟩) l0.length co18) l0 from (by (with_reducible repeat (first | apply Kd.R_alloc | apply Kd.R_drewN | apply Kd.R_drew)); exact HO_0.out)); obtain ⟨ce19, hcl19, hM19, hcc19, hfr19⟩ := Kd.R_elem HX19.out z30 ((ji13) : Int) (od) (by have h_ : ((ji13) : Int) < ((l0.length : Int) : Int) := od; first | exact h_ | (have e_ := (Kd.R_reads' HO_0.out).1; omega) | simpa using h_); obtain rfl := k30_openM hM19; have HP19 := Kd.R_seg HX19.out ((ji13) : Int) (od) (by have h_ : ((ji13) : Int) < ((l0.length : Int) : Int) := od; first | exact h_ | (have e_ := (Kd.R_reads' HO_0.out).1; omega) | simpa using h_) (seg := [.string (((rd_T30 l0 (ji13)).f1) ++ a1)]) (j := 1) hcl19 hcc19 (show 2 ≤ 2 from by decide) (x' := (⟨(rd_T30 l0 (ji13)).f0, ((rd_T30 l0 (ji13)).f1) ++ a1⟩ : S30)) (k30_mkM _ _ _ (⟨(rd_T30 l0 (ji13)).f0, ((rd_T30 l0 (ji13)).f1) ++ a1⟩ : S30) ) (fun _ hk => hk); have hx19_1 := hcc19 1 _ rfl; (try simp only [show (k30).sz = 2 from rfl, Nat.mul_one, Nat.add_zero] at hx19_1); have hf19_1 := hfr19 1; (try simp only [show (k30).sz = 2 from rfl, Nat.mul_one, Nat.add_zero] at hf19_1); clear hcl19 hcc19 hfr19 hM19) | ((with_reducible refine gate_store (t := 9) (p := 39) rfl ?_); refine store_event (t := 9) (p := 39) (v := ?vo_w20) (w1 := (wc.setCell ⟨go17, ((ji13) : Int).toNat * 2 + 1, none⟩ (.string (((rd_T30 l0 (ji13)).f1) ++ a1)))) ?hg ?ho ?hn ?hr ?_; (case ho => rfl); (case hg => rfl); (case hn => rfl); (case hr => first | (go_simp; done) | (go_simp; rfl)); intro w20 hw; have hg : wc.grownBy w20 (some go17) := (by rw [hw]; exact HP19.2); have hp_ : Kd.R k30 30 w20 w0.heap.size (fun k_ => (P0_ k_ ∨ w.heap.size ≤ k_)) (.slice (some ⟨go17, 0, none⟩) l0.length co18) y146 := (by rw [hw, Ny146.out]; exact HP19.1); clear HP19; have n0_ := Aside0.mk (hp_); have n1_ := Aside0.mk ((by rw [hw]; exact below_set (HB.out) GB17.out : Below w0.heap.size w0 w20)); have n2_ := Aside0.mk (Kept.of_grown (S := (fun k_ => P0_ k_)) hg (by repeat (first | (with_reducible first | exact HK.out | apply Kept.alloc | apply Kept.drewN | apply Kept.drew) | exact HK.out)) (fun k_ e_ => (HO_0.out.1 k_ e_))); clear HO_0; clear HB; clear HK; have HO_0 := n0_; have HB := n1_; have HK := n2_; clear n0_ n1_ n2_; clear hg hw hp_))
         go_ret2
         exact ⟨_, by first | rfl | (simp [errW_none, errW_some] <;> rfl) | (simp only [← hji13]; first | rfl | (simp [errW_none, errW_some] <;> rfl)) | (simp [*, errW_none, errW_some] <;> rfl), by (with_reducible repeat (first | apply Kd.R_alloc | apply Kd.R_drewN | apply Kd.R_drew)); exact HO_0.out, bw, by repeat (first | (with_reducible first | exact HK.out | apply Kept.alloc | apply Kept.drewN | apply Kept.drew) | exact HK.out)⟩
        ·rw [if_neg c16] at H
         exact absurd H (by simp)
       ·rw [if_neg c15] at H
        exact absurd H (by simp)
      ·rw [if_neg c14] at H
       exact absurd H (by simp)
     ·replace c12 := Bool.eq_false_iff.mpr c12
      subst c12
      have H1 : ((strings_Cut.f a1 (⟨#[58]⟩ : ByteArray)).bind fun bt147 => (if bt147.2.2 = true then ((head_named.f kj3 bt147.1).bind fun t150 => (head_grow.j1 kj3 l0 bt147.1 bt147.2.1 (!t150))) else (head_grow.j1 kj3 l0 bt147.1 bt147.2.1 true))) = some (r1, r2) := by rw [if_neg (show ¬ (false = true) by decide)] at H; exact H
      clear H
      have H := H1
      clear H1
      replace H := Option.bind_eq_some_iff.mp H
      obtain ⟨⟨t147, t148, t149⟩, A210, H⟩ := H
      replace H : (if t149 = true then ((head_named.f kj3 t147).bind fun t150 => (head_grow.j1 kj3 l0 t147 t148 (!t150))) else (head_grow.j1 kj3 l0 t147 t148 true)) = some (r1, r2) := H
      have A21 := Aside0.mk A210
      clear A210
      have HC22 := Aside0.mk H
      clear H
      go_upto_region 9 with (first | ((with_reducible refine gate_callee (f := 119) rfl ?_); refine goesL_ (some 28) rfl rfl Tryd.func119 (by kernel_rfl) rfl #[.string a1] rfl am ?_; (with_reducible refine (head_white.calls a1 false _ A11.out).mono ?_); rintro e w' ⟨rfl, ⟨nd, rfl⟩⟩; refine ⟨_, rfl, ?_⟩) | ((with_reducible refine gate_callee (f := 65) rfl ?_); refine goesL_ (some 43) rfl rfl Tryd.func65 (by kernel_rfl) rfl #[.string a1, .string (⟨#[58]⟩ : ByteArray)] rfl am ?_; (with_reducible refine (strings_Cut.calls (hG := by first | exact hG | exact Glob.below hG (by first | exact HB.out | (repeat (first | (with_reducible first | exact HB.out | apply below_alloc | apply pw_below_drewN | apply below_drew1) | exact HB.out))) | exact Glob.drawn hG (by repeat (first | exact Drawn0.refl _ | apply Drawn0.step))) a1 (⟨#[58]⟩ : ByteArray) t147 t148 t149 _ A21.out).mono ?_); rintro e w23 ⟨rfl, hb⟩; refine ⟨_, rfl, ?_⟩; have n0_ := Aside0.mk (Kd.R_below (by (with_reducible repeat (first | apply Kd.R_alloc | apply Kd.R_drewN | apply Kd.R_drew)); exact HO_0.out) hb); have n1_ := Aside0.mk (Kept.below (S := (fun k_ => P0_ k_)) (by repeat (first | (with_reducible first | exact HK.out | apply Kept.alloc | apply Kept.drewN | apply Kept.drew) | exact HK.out)) hb); have n2_ := Aside0.mk (below_step bw hb); clear HO_0; clear HK; clear HB; have HO_0 := n0_; have HK := n1_; have HB := n2_; clear n0_ n1_ n2_; (try clear hb); (try clear hb2); (try clear hk); (try clear hi)))
      (try simp only [Act.put, List.setIfInBounds_toArray, List.set_cons_zero, List.set_cons_succ])
      go_cut [47] (fun v47 wc => ∃ (kq : Nat) (x47_21 : Bool), v47 = .bool x47_21 ∧ Aside0 (head_grow.j1 kq l0 t147 t148 x47_21 = some (r1, r2)) ∧ Aside0 (kq ≤ kj3) ∧ Aside0 (Kd.R k30 30 wc w0.heap.size (fun k_ => (P0_ k_ ∨ w.heap.size ≤ k_)) u9000_ l0) ∧ Aside0 (Kept w wc (fun k_ => P0_ k_)) ∧ Aside0 (Below w0.heap.size w0 wc))
      case first =>
       have H := HC22.out
       clear HC22
       by_cases c24 : t149 = true
       ·subst c24
        have H1 : ((head_named.f kj3 t147).bind fun t150 => (head_grow.j1 kj3 l0 t147 t148 (!t150))) = some (r1, r2) := by rw [if_pos rfl] at H; exact H
        clear H
        have H := H1
        clear H1
        replace H := Option.bind_eq_some_iff.mp H
        obtain ⟨t150, A250, H⟩ := H
        replace H : (head_grow.j1 kj3 l0 t147 t148 (!t150)) = some (r1, r2) := H
        have A25 := Aside0.mk A250
        clear A250
        have H' := Aside0.mk H
        clear H
        go_wp2_with (first | (go_at_call 120; (with_reducible refine (head_named.calls kj3 t147 t150 _ A25.out).mono ?_); rintro e w' ⟨rfl, ⟨nd, rfl⟩⟩))
        go_meet
        case rel => exact ⟨_, (!t150), cl, H', ⟨by have := HJ3.out; first | omega | exact Nat.le_refl _⟩, ⟨by (with_reducible repeat (first | apply Kd.R_alloc | apply Kd.R_drewN | apply Kd.R_drew)); exact HO_0.out⟩, ⟨by repeat (first | (with_reducible first | exact HK.out | apply Kept.alloc | apply Kept.drewN | apply Kept.drew) | exact HK.out)⟩, ⟨bw⟩⟩
       ·replace c24 := Bool.eq_false_iff.mpr c24
        subst c24
        have H1 : (head_grow.j1 kj3 l0 t147 t148 true) = some (r1, r2) := by rw [if_neg (show ¬ (false = true) by decide)] at H; exact H
        clear H
        have H := H1
        clear H1
        have H' := Aside0.mk H
        clear H
        go_wp2
        go_meet
        case rel => exact ⟨_, (true), cl, H', ⟨by have := HJ3.out; first | omega | exact Nat.le_refl _⟩, ⟨by (with_reducible repeat (first | apply Kd.R_alloc | apply Kd.R_drewN | apply Kd.R_drew)); exact HO_0.out⟩, ⟨by repeat (first | (with_reducible first | exact HK.out | apply Kept.alloc | apply Kept.drewN | apply Kept.drew) | exact HK.out)⟩, ⟨bw⟩⟩
      case rest =>
       clear HC22
       try clear c1
       try clear p1
       try clear q1
       try clear hx1
       try clear c2
       try clear p2
       try clear c3
       try clear c3b0
       try clear c3b1
       try clear c6
       try clear p6
       try clear c8
       try clear c9
       try clear c10
       try clear c11
       try clear c12
       try clear c14
       try clear c14b0
       try clear p14
       try clear q14
       try clear hx14
       try clear c15
       try clear c15b0
       try clear c16
       try clear c16b0
       try clear c16b1
       try clear c16b2
       try clear c17
       try clear p17
       try clear q17
       try clear hx17
       try clear hf17
       try clear c19
       try clear hx19
       try clear hf19
       try clear c24
       try clear hx145_0
       try clear hx145_1
       try clear hx17_0
       try clear hx17_1
       try clear hx19_1
       try clear p145
       try clear p17
       try clear p2
       try clear q145
       try clear q17
       obtain ⟨kq, x47_21, rfl, HA, HJ21, HO_0, HK, HB⟩ := hcut
       cases kq with
       | zero => exact absurd HA.out (by simp [head_grow.j1])
       | succ kj21 =>
        have H := HA.out
        clear HA
        simp only [head_grow.j1] at H
        by_cases c26 : x47_21 = true
        ·subst c26
         have H1 : (some (([] : List (S30)), 150)) = some (r1, r2) := by rw [if_pos rfl] at H; exact H
         clear H
         have H := H1
         clear H1
         simp only [Option.some.injEq, Prod.mk.injEq] at H
         obtain ⟨rfl, rfl⟩ := H
         go_wp2
         go_ret2
         exact ⟨_, by first | rfl | (simp [errW_none, errW_some] <;> rfl) | (simp [*, errW_none, errW_some] <;> rfl), by first | exact Kd.R_nil _ _ _ _ _ | exact Kd.N_nil _ _ _ _ _ | exact Kd.V_nil _ _ _ _ _ | exact Kd.Q_nil _ _ _ _ _ | exact Kd.S_nil _ _ _ _ _, bw, by repeat (first | (with_reducible first | exact HK.out | apply Kept.alloc | apply Kept.drewN | apply Kept.drew) | exact HK.out)⟩
        ·replace c26 := Bool.eq_false_iff.mpr c26
         subst c26
         have H1 : (if (l0.length : Int) = 100 then (some (([] : List (S30)), 8)) else (if l0.length < 4398046511104 then (some ((l0 ++ [(⟨t147, t148⟩ : S30)]), 0)) else (none))) = some (r1, r2) := by rw [if_neg (show ¬ (false = true) by decide)] at H; exact H
         clear H
         have H := H1
         clear H1
         by_cases c27 : (l0.length : Int) = 100
         ·rw [if_pos c27] at H
          have c27b0 : ((l0.length : Int) == 100) = true := beq_iff_eq.mpr c27
          have c27b1 : ((l0.length : Int) != 100) = false := bne_eq_false_iff_eq.mpr c27
          clear c27
          simp only [Option.some.injEq, Prod.mk.injEq] at H
          obtain ⟨rfl, rfl⟩ := H
          obtain ⟨Ao28, co28, eo28⟩ := Kd.R_slice HO_0.out
          subst eo28
          go_wp2
          go_ret2
          exact ⟨_, by first | rfl | (simp [errW_none, errW_some] <;> rfl) | (simp [*, errW_none, errW_some] <;> rfl), by first | exact Kd.R_nil _ _ _ _ _ | exact Kd.N_nil _ _ _ _ _ | exact Kd.V_nil _ _ _ _ _ | exact Kd.Q_nil _ _ _ _ _ | exact Kd.S_nil _ _ _ _ _, bw, by repeat (first | (with_reducible first | exact HK.out | apply Kept.alloc | apply Kept.drewN | apply Kept.drew) | exact HK.out)⟩
         ·rw [if_neg c27] at H
          have c27b0 : ((l0.length : Int) == 100) = false := beq_eq_false_iff_ne.mpr c27
          have c27b1 : ((l0.length : Int) != 100) = true := bne_iff_ne.mpr c27
          by_cases c29 : l0.length < 4398046511104
          ·rw [if_pos c29] at H
           have LMc29 := Aside0.mk c29
           clear c29
           obtain ⟨y151, hy151⟩ : ∃ y_ : List (S30), y_ = (l0 ++ [(⟨t147, t148⟩ : S30)]) := ⟨_, rfl⟩
           replace H : (some (y151, 0)) = some (r1, r2) := by first | (rw [hy151]; with_reducible exact H) | (have H2_ := (Option.bind_some _ _).symm.trans H; rw [hy151]; with_reducible exact H2_) | (have H2_ := (Option.bind_some _ _).symm.trans H; with_reducible exact H2_) | with_reducible exact H | (rw [hy151]; exact H) | exact H
           have Ny151 := Aside0.mk hy151
           clear hy151
           simp only [Option.some.injEq, Prod.mk.injEq] at H
           obtain ⟨rfl, rfl⟩ := H
           obtain ⟨Ao30, co30, eo30⟩ := Kd.R_slice HO_0.out
           subst eo30
           go_wp2_with (first | ((with_reducible refine gate_builtin (b := .append) (xs := #[.tmp 59, .tmp 63]) rfl ?_); (try (refine gate_guard (by rfl) ?_; dsimp only)); at_builtin; refine Kd.R_append k30 (w0 := w0) w0.heap.size rfl (.tmp 59) (.tmp 63) 27 30 (.agg #[(.string ⟨#[]⟩), (.string ⟨#[]⟩)]) 32 rfl Tryd.underlying27 info30 rfl (by decide) (by omega) (.slice Ao30 l0.length co30) l0 (⟨t147, t148⟩ : S30) [.string t147, .string t148] (fun k_ => (P0_ k_ ∨ w.heap.size ≤ k_)) (fun _ => False) rfl rfl ?aP (fun _ hk => hk.elim) ?aF ?aO ?aB ?aS ?aL ?_; (case aP => exact k30_mkM _ _ _ (⟨t147, t148⟩ : S30)); (case aB => exact bw); (case aF => exact (fun k_ hk => (.inr (Nat.le_trans (by first | exact HK.out.1 | exact (show Kept w _ (fun k_ => P0_ k_) from by repeat (first | (with_reducible first | exact HK.out | apply Kept.alloc | apply Kept.drewN | apply Kept.drew) | exact HK.out)).1) hk)))); (case aO => exact (by (with_reducible repeat (first | apply Kd.R_alloc | apply Kd.R_drewN | apply Kd.R_drew)); exact HO_0.out)); (case aS => exact (below_size bw)); (case aL => have := LMc29.out; omega); intro v152 w31 ho hb hg hat; rw [← Ny151.out] at ho; have n0_ := Aside0.mk (hb); have n1_ := Aside0.mk (Kept.of_grown (S := (fun k_ => P0_ k_)) hg (by repeat (first | (with_reducible first | exact HK.out | apply Kept.alloc | apply Kept.drewN | apply Kept.drew) | exact HK.out)) (fun k_ e_ => (HO_0.out.1 k_ e_))); have n2_ := Aside0.mk (ho); clear HB; clear HK; clear HO_0; have HB := n0_; have HK := n1_; have HO153 := n2_; clear n0_ n1_ n2_; clear ho hb hg hat))
           go_ret2
           exact ⟨_, by first | rfl | (simp [errW_none, errW_some] <;> rfl) | (simp [*, errW_none, errW_some] <;> rfl), by (with_reducible repeat (first | apply Kd.R_alloc | apply Kd.R_drewN | apply Kd.R_drew)); exact HO153.out, bw, by repeat (first | (with_reducible first | exact HK.out | apply Kept.alloc | apply Kept.drewN | apply Kept.drew) | exact HK.out)⟩
          ·rw [if_neg c29] at H
           exact absurd H (by simp)

end Go.Proofs.YtoikneogdbdplaaDoor.Fn
set_option linter.unusedVariables false
namespace Go.Proofs.YtoikneogdbdplaaDoor.Fn
open Go.RowKit Go.Proofs.YtoikneogdbdplaaDoorW.PrintWords

def strings_Trim.f (a0 a1 : ByteArray) : Option ByteArray :=
  if a0.size ≤ 140737488355328 then (if a1.size ≤ 1000 then (if a1.data.toList.all (fun b => decide (b.toNat < 128)) = true then some (Pl.str (Lib.trimS a0.data.toList a1.data.toList)) else none) else none) else none
theorem strings_Trim.calls (a0 a1 r : ByteArray) (w : World) (h : strings_Trim.f a0 a1 = some r) :
    Calls Tryd.prog 121 #[.string a0, .string a1] w fun e w' => e = .returned (.string r) ∧ Below w.heap.size w w' := by
  unfold strings_Trim.f at h
  by_cases hs : a0.size ≤ 140737488355328
  · rw [if_pos hs] at h
    by_cases hc : a1.size ≤ 1000
    · rw [if_pos hc] at h
      by_cases ha : a1.data.toList.all (fun b => decide (b.toNat < 128)) = true
      · rw [if_pos ha] at h
        have HR := Option.some.inj h
        subst HR
        exact Any.strings_Trim_laid Tryd.lays160 (by kernel_rfl) a0 a1 w (by omega) (by omega) (ascii_of_all ha)
      · rw [if_neg ha] at h; exact absurd h (by simp)
    · rw [if_neg hc] at h; exact absurd h (by simp)
  · rw [if_neg hs] at h; exact absurd h (by simp)
end Go.Proofs.YtoikneogdbdplaaDoor.Fn
namespace Go.Proofs.YtoikneogdbdplaaDoor.Fn
open Go.RowKit Go.Proofs.YtoikneogdbdplaaDoorW.PrintWords Go.Proofs.YtoikneogdbdplaaDoorW.PrintLast Go.Proofs.YtoikneogdbdplaaDoorW.PrintMore
attribute [local go_sem] max2_int min2_int max_two min_two max_three min_three max_four min_four
set_option linter.unusedVariables false
set_option linter.unusedSimpArgs false

/-! ### head_trim: function 97 -/
def head_trim.f (a0 : ByteArray) : Option (ByteArray) := (strings_Trim.f a0 (⟨#[32, 9]⟩ : ByteArray)).bind fun t156 => (some t156)
set_option maxHeartbeats 8000000 in
set_option maxRecDepth 100000 in
theorem head_trim.calls (a0 : ByteArray) (r : ByteArray) (w : World) (h : head_trim.f a0 = some r) :
  Calls Tryd.prog 97 #[.string a0] w fun e w' => e = .returned (.string r) ∧ Below w.heap.size w w' := by
 have HB := Aside0.mk (Below.refl w.heap.size w)
 have H : ((strings_Trim.f a0 (⟨#[32, 9]⟩ : ByteArray)).bind fun t156 => (some t156)) = some r := h
 clear h
 replace H := Option.bind_eq_some_iff.mp H
 obtain ⟨t156, A20, H⟩ := H
 replace H : (some t156) = some r := H
 have A2 := Aside0.mk A20
 clear A20
 obtain rfl := Option.some.inj H
 go_enter Tryd.func97, Tryd.ntmps97
 go_wp2_with (first | ((with_reducible refine gate_callee (f := 121) rfl ?_); refine goesL_ (some 4) rfl rfl Tryd.func121 (by kernel_rfl) rfl #[.string a0, .string (⟨#[32, 9]⟩ : ByteArray)] rfl am ?_; (with_reducible refine (strings_Trim.calls a0 (⟨#[32, 9]⟩ : ByteArray) t156 _ A2.out).mono ?_); rintro e w3 ⟨rfl, hb⟩; refine ⟨_, rfl, ?_⟩; have n0_ := Aside0.mk (below_step bw hb); clear HB; have HB := n0_; clear n0_; (try clear hb); (try clear hb2); (try clear hk); (try clear hi)))
 go_ret
 exact ⟨by first | rfl | (simp [errW_none, errW_some] <;> rfl) | (simp [*, errW_none, errW_some] <;> rfl), bw⟩

end Go.Proofs.YtoikneogdbdplaaDoor.Fn
namespace Go.Proofs.YtoikneogdbdplaaDoor.Fn
open Go.RowKit Go.Proofs.YtoikneogdbdplaaDoorW.PrintWords Go.Proofs.YtoikneogdbdplaaDoorW.PrintLast Go.Proofs.YtoikneogdbdplaaDoorW.PrintMore
attribute [local go_sem] max2_int min2_int max_two min_two max_three min_three max_four min_four
set_option linter.unusedVariables false
set_option linter.unusedSimpArgs false

/-! ### head_Parse: function 52 -/
mutual
def head_Parse.j1 : Nat → List (S30) → ByteArray → Option ((List (S30)) × ByteArray × Int)
 | 0, _, _ => none
 | k + 1, x2, x3 => head_Parse.l1 k x2 x3 (x2.length : Int) 0
def head_Parse.l1 : Nat → List (S30) → ByteArray → Int → Int → Option ((List (S30)) × ByteArray × Int)
 | 0, _, _, _, _ => none
 | k + 1, x2, x3, x33, x34 => if x34 < x33 then (if 0 ≤ x34 then (if x34 < (x2.length : Int) then ((head_trim.f ((rd_T30 x2 x34).f1)).bind fun t165 => (head_Parse.l1 k (x2.set (x34 : Int).toNat (⟨(rd_T30 x2 x34).f0, t165⟩ : S30)) x3 x33 (wrap64 (x34 + 1)))) else (none)) else (none)) else (some (x2, x3, 0))
def head_Parse.l0 : Nat → ByteArray → List (S30) → ByteArray → Option ((List (S30)) × ByteArray × Int)
 | 0, _, _, _ => none
 | k + 1, x0, x2, x3 => if x0.toList = ([] : List UInt8) then (head_Parse.j1 k x2 x3) else ((strings_Cut.f x0 (⟨#[13, 10]⟩ : ByteArray)).bind fun bt157 => (if bt157.2.2 = true then (if bt157.1.toList = ([] : List UInt8) then (head_Parse.j1 k x2 bt157.2.1) else ((head_grow.f k x2 bt157.1).bind fun bt160 => (if bt160.2 = 0 then (head_Parse.l0 k bt157.2.1 bt160.1 x3) else (some (([] : List (S30)), (⟨#[]⟩ : ByteArray), bt160.2))))) else (some (([] : List (S30)), (⟨#[]⟩ : ByteArray), 9))))
end
def head_Parse.f (k : Nat) (a0 : ByteArray) : Option ((List (S30)) × ByteArray × Int) := head_Parse.l0 k a0 ([] : List (S30)) (⟨#[]⟩ : ByteArray)
theorem head_Parse.mono_l : ∀ k, (∀ y0 y1, LeO (head_Parse.j1 k y0 y1) (head_Parse.j1 (k + 1) y0 y1)) ∧ (∀ y0 y1 y2 y3, LeO (head_Parse.l1 k y0 y1 y2 y3) (head_Parse.l1 (k + 1) y0 y1 y2 y3)) ∧ (∀ y0 y1 y2, LeO (head_Parse.l0 k y0 y1 y2) (head_Parse.l0 (k + 1) y0 y1 y2))
 | 0 => ⟨fun _ _ r h => by simp [head_Parse.j1] at h, fun _ _ _ _ r h => by simp [head_Parse.l1] at h, fun _ _ _ r h => by simp [head_Parse.l0] at h⟩
 | k + 1 => by
  obtain ⟨ih0, ih1, ih2⟩ := head_Parse.mono_l k
  refine ⟨?_, ?_, ?_⟩
  ·intro y0 y1
   unfold head_Parse.j1
   repeat' first
   | (with_reducible exact ih0 _ _)
   | (with_reducible exact ih1 _ _ _ _)
   | (with_reducible exact ih2 _ _ _)
   | (with_reducible exact head_grow.mono _ _ _)
   | (with_reducible exact LeO.refl _)
   | (with_reducible exact LeO.none _)
   | (with_reducible refine LeO.ite ?_ ?_)
   | (with_reducible refine LeO.bind ?_ (fun _ => ?_))
   | exact ih0 _ _
   | exact ih1 _ _ _ _
   | exact ih2 _ _ _
   | exact head_grow.mono _ _ _
   | exact LeO.none _
   | refine LeO.ite ?_ ?_
   | refine LeO.bind ?_ (fun _ => ?_)
  ·intro y0 y1 y2 y3
   unfold head_Parse.l1
   repeat' first
   | (with_reducible exact ih0 _ _)
   | (with_reducible exact ih1 _ _ _ _)
   | (with_reducible exact ih2 _ _ _)
   | (with_reducible exact head_grow.mono _ _ _)
   | (with_reducible exact LeO.refl _)
   | (with_reducible exact LeO.none _)
   | (with_reducible refine LeO.ite ?_ ?_)
   | (with_reducible refine LeO.bind ?_ (fun _ => ?_))
   | exact ih0 _ _
   | exact ih1 _ _ _ _
   | exact ih2 _ _ _
   | exact head_grow.mono _ _ _
   | exact LeO.none _
   | refine LeO.ite ?_ ?_
   | refine LeO.bind ?_ (fun _ => ?_)
  ·intro y0 y1 y2
   unfold head_Parse.l0
   repeat' first
   | (with_reducible exact ih0 _ _)
   | (with_reducible exact ih1 _ _ _ _)
   | (with_reducible exact ih2 _ _ _)
   | (with_reducible exact head_grow.mono _ _ _)
   | (with_reducible exact LeO.refl _)
   | (with_reducible exact LeO.none _)
   | (with_reducible refine LeO.ite ?_ ?_)
   | (with_reducible refine LeO.bind ?_ (fun _ => ?_))
   | exact ih0 _ _
   | exact ih1 _ _ _ _
   | exact ih2 _ _ _
   | exact head_grow.mono _ _ _
   | exact LeO.none _
   | refine LeO.ite ?_ ?_
   | refine LeO.bind ?_ (fun _ => ?_)
theorem head_Parse.mono : ∀ a0 k, LeO (head_Parse.f k a0) (head_Parse.f (k + 1) a0) := by
 intro a0 k
 obtain ⟨ih0, ih1, ih2⟩ := head_Parse.mono_l k
 unfold head_Parse.f
 repeat' first
   | (with_reducible exact ih0 _ _)
   | (with_reducible exact ih1 _ _ _ _)
   | (with_reducible exact ih2 _ _ _)
   | (with_reducible exact head_grow.mono _ _ _)
   | (with_reducible exact LeO.refl _)
   | (with_reducible exact LeO.none _)
   | (with_reducible refine LeO.ite ?_ ?_)
   | (with_reducible refine LeO.bind ?_ (fun _ => ?_))
   | exact ih0 _ _
   | exact ih1 _ _ _ _
   | exact ih2 _ _ _
   | exact head_grow.mono _ _ _
   | exact LeO.none _
   | refine LeO.ite ?_ ?_
   | refine LeO.bind ?_ (fun _ => ?_)
set_option maxHeartbeats 8000000 in
set_option maxRecDepth 100000 in
theorem head_Parse.calls (k : Nat) (a0 : ByteArray) (r1 : List (S30)) (r2 : ByteArray) (r3 : Int) (w : World) (hG : Glob w) (h : head_Parse.f k a0 = some (r1, r2, r3)) :
  Calls Tryd.prog 52 #[.string a0] w fun e w' => ∃ v0_ : Value, e = .returned (.tuple #[v0_, .string r2, .int .i64 r3]) ∧ Kd.R k30 30 w' w.heap.size (fun _ => True) v0_ r1 ∧ Below w.heap.size w w' := by
 have HB := Aside0.mk (Below.refl w.heap.size w)
 have H : (head_Parse.l0 k a0 ([] : List (S30)) (⟨#[]⟩ : ByteArray)) = some (r1, r2, r3) := h
 clear h
 have HC2 := Aside0.mk H
 clear H
 go_enter Tryd.func52, Tryd.ntmps52
 go_upto_block 0 with (fail)
 go_cut [2, 3] (fun v2 v3 wc => ∃ (kq : Nat) (x2_1 : List (S30)) (x3_1 : ByteArray), v3 = .string x3_1 ∧ Aside0 (head_Parse.j1 kq x2_1 x3_1 = some (r1, r2, r3)) ∧ Aside0 (kq ≤ k) ∧ Aside0 (Kd.R k30 30 wc w.heap.size (fun _ => True) v2 x2_1) ∧ Aside0 (Below w.heap.size w wc))
 case first =>
  have H := HC2.out
  clear HC2
  have H' := Aside0.mk H
  clear H
  go_wp2
  go_loopg [0, 2, 3] k (fun kq v0 v2 v3 w' => ∃ (x0_1 : ByteArray) (x2_1 : List (S30)) (x3_1 : ByteArray), v0 = .string x0_1 ∧ v3 = .string x3_1 ∧ Aside0 (head_Parse.l0 kq x0_1 x2_1 x3_1 = some (r1, r2, r3)) ∧ Aside0 (kq ≤ k) ∧ Aside0 (Kd.R k30 30 w' w.heap.size (fun _ => True) v2 x2_1) ∧ Aside0 (Below w.heap.size w w'))
  case atStart => exact ⟨(a0), (([] : List (S30))), ((⟨#[]⟩ : ByteArray)), cl, cl, H', ⟨Nat.le_refl _⟩, ⟨by first | exact Kd.R_nil _ _ _ _ _ | exact Kd.N_nil _ _ _ _ _ | exact Kd.V_nil _ _ _ _ _ | exact Kd.Q_nil _ _ _ _ _ | exact Kd.S_nil _ _ _ _ _⟩, ⟨bw⟩⟩
  case round =>
   clear H'
   try clear p2
   obtain ⟨x0_1, x2_1, x3_1, rfl, rfl, HA, HK1, HO_2, HB⟩ := hrel
   cases gk with
   | zero => exact absurd HA.out (by simp [head_Parse.l0])
   | succ k1 =>
    have H := HA.out
    clear HA
    simp only [head_Parse.l0] at H
    by_cases c3 : x0_1.toList = ([] : List UInt8)
    ·rw [if_pos c3] at H
     have c3b0 : (x0_1.toList == ([] : List UInt8)) = true := beq_iff_eq.mpr c3
     have c3b1 : (x0_1.toList != ([] : List UInt8)) = false := bne_eq_false_iff_eq.mpr c3
     clear c3
     (first | rw [c3b0] | (simp only [i64_w, i32_w]; rw [c3b0]) | skip)
     have H' := Aside0.mk H
     clear H
     go_wp2
     go_meet
     case rel => exact ⟨_, (x2_1), (x3_1), cl, H', ⟨by have := HK1.out; first | omega | exact Nat.le_refl _⟩, ⟨by (with_reducible repeat (first | apply Kd.R_alloc | apply Kd.R_drewN | apply Kd.R_drew)); exact HO_2.out⟩, ⟨bw⟩⟩
    ·rw [if_neg c3] at H
     have c3b0 : (x0_1.toList == ([] : List UInt8)) = false := beq_eq_false_iff_ne.mpr c3
     have c3b1 : (x0_1.toList != ([] : List UInt8)) = true := bne_iff_ne.mpr c3
     (first | rw [c3b0] | (simp only [i64_w, i32_w]; rw [c3b0]) | skip)
     replace H := Option.bind_eq_some_iff.mp H
     obtain ⟨⟨t157, t158, t159⟩, A40, H⟩ := H
     replace H : (if t159 = true then (if t157.toList = ([] : List UInt8) then (head_Parse.j1 k1 x2_1 t158) else ((head_grow.f k1 x2_1 t157).bind fun bt160 => (if bt160.2 = 0 then (head_Parse.l0 k1 t158 bt160.1 x3_1) else (some (([] : List (S30)), (⟨#[]⟩ : ByteArray), bt160.2))))) else (some (([] : List (S30)), (⟨#[]⟩ : ByteArray), 9))) = some (r1, r2, r3) := H
     have A4 := Aside0.mk A40
     clear A40
     by_cases c5 : t159 = true
     ·subst c5
      have H1 : (if t157.toList = ([] : List UInt8) then (head_Parse.j1 k1 x2_1 t158) else ((head_grow.f k1 x2_1 t157).bind fun bt160 => (if bt160.2 = 0 then (head_Parse.l0 k1 t158 bt160.1 x3_1) else (some (([] : List (S30)), (⟨#[]⟩ : ByteArray), bt160.2))))) = some (r1, r2, r3) := by rw [if_pos rfl] at H; exact H
      clear H
      have H := H1
      clear H1
      by_cases c6 : t157.toList = ([] : List UInt8)
      ·rw [if_pos c6] at H
       have c6b0 : (t157.toList == ([] : List UInt8)) = true := beq_iff_eq.mpr c6
       have c6b1 : (t157.toList != ([] : List UInt8)) = false := bne_eq_false_iff_eq.mpr c6
       clear c6
       have H' := Aside0.mk H
       clear H
       go_wp2_with (first | ((with_reducible refine gate_callee (f := 65) rfl ?_); refine goesL_ (some 13) rfl rfl Tryd.func65 (by kernel_rfl) rfl #[.string x0_1, .string (⟨#[13, 10]⟩ : ByteArray)] rfl am ?_; (with_reducible refine (strings_Cut.calls (hG := by first | exact hG | exact Glob.below hG (by first | exact HB.out | (repeat (first | (with_reducible first | exact HB.out | apply below_alloc | apply pw_below_drewN | apply below_drew1) | exact HB.out))) | exact Glob.drawn hG (by repeat (first | exact Drawn0.refl _ | apply Drawn0.step))) x0_1 (⟨#[13, 10]⟩ : ByteArray) t157 t158 true _ A4.out).mono ?_); rintro e w7 ⟨rfl, hb⟩; refine ⟨_, rfl, ?_⟩; have n0_ := Aside0.mk (Kd.R_below (by (with_reducible repeat (first | apply Kd.R_alloc | apply Kd.R_drewN | apply Kd.R_drew)); exact HO_2.out) hb); have n1_ := Aside0.mk (below_step bw hb); clear HO_2; clear HB; have HO_2 := n0_; have HB := n1_; clear n0_ n1_; (try clear hb); (try clear hb2); (try clear hk); (try clear hi)))
       go_meet
       case rel => exact ⟨_, (x2_1), (t158), cl, H', ⟨by have := HK1.out; first | omega | exact Nat.le_refl _⟩, ⟨by (with_reducible repeat (first | apply Kd.R_alloc | apply Kd.R_drewN | apply Kd.R_drew)); exact HO_2.out⟩, ⟨bw⟩⟩
      ·rw [if_neg c6] at H
       have c6b0 : (t157.toList == ([] : List UInt8)) = false := beq_eq_false_iff_ne.mpr c6
       have c6b1 : (t157.toList != ([] : List UInt8)) = true := bne_iff_ne.mpr c6
       replace H := Option.bind_eq_some_iff.mp H
       obtain ⟨⟨t160, t163⟩, A80, H⟩ := H
       replace H : (if t163 = 0 then (head_Parse.l0 k1 t158 t160 x3_1) else (some (([] : List (S30)), (⟨#[]⟩ : ByteArray), t163))) = some (r1, r2, r3) := H
       have A8 := Aside0.mk A80
       clear A80
       by_cases c9 : t163 = 0
       ·rw [if_pos c9] at H
        have c9b0 : (t163 == 0) = true := beq_iff_eq.mpr c9
        have c9b1 : (t163 != 0) = false := bne_eq_false_iff_eq.mpr c9
        clear c9
        have H' := Aside0.mk H
        clear H
        go_wp2_with (first | ((with_reducible refine gate_callee (f := 65) rfl ?_); refine goesL_ (some 13) rfl rfl Tryd.func65 (by kernel_rfl) rfl #[.string x0_1, .string (⟨#[13, 10]⟩ : ByteArray)] rfl am ?_; (with_reducible refine (strings_Cut.calls (hG := by first | exact hG | exact Glob.below hG (by first | exact HB.out | (repeat (first | (with_reducible first | exact HB.out | apply below_alloc | apply pw_below_drewN | apply below_drew1) | exact HB.out))) | exact Glob.drawn hG (by repeat (first | exact Drawn0.refl _ | apply Drawn0.step))) x0_1 (⟨#[13, 10]⟩ : ByteArray) t157 t158 true _ A4.out).mono ?_); rintro e w10 ⟨rfl, hb⟩; refine ⟨_, rfl, ?_⟩; have n0_ := Aside0.mk (Kd.R_below (by (with_reducible repeat (first | apply Kd.R_alloc | apply Kd.R_drewN | apply Kd.R_drew)); exact HO_2.out) hb); have n1_ := Aside0.mk (below_step bw hb); clear HO_2; clear HB; have HO_2 := n0_; have HB := n1_; clear n0_ n1_; (try clear hb); (try clear hb2); (try clear hk); (try clear hi); obtain ⟨Ao11, co11, eo11⟩ := Kd.R_slice HO_2.out; subst eo11) | ((with_reducible refine gate_callee (f := 96) rfl ?_); refine goesL_ (some 26) rfl rfl Tryd.func96 (by kernel_rfl) rfl #[.slice Ao11 x2_1.length co11, .string t157] rfl am ?_; (with_reducible refine (head_grow.calls (hG := by first | exact hG | exact Glob.below hG (by first | exact HB.out | (repeat (first | (with_reducible first | exact HB.out | apply below_alloc | apply pw_below_drewN | apply below_drew1) | exact HB.out))) | exact Glob.drawn hG (by repeat (first | exact Drawn0.refl _ | apply Drawn0.step))) k1 (fun k_ => some k_ = (.slice Ao11 x2_1.length co11 : Value).ownBlock) (.slice Ao11 x2_1.length co11) x2_1 t157 t160 t163 w _ ?side1 ?side2 A8.out).mono ?_); (case side1 => repeat (first | (with_reducible first | exact HB.out | apply below_alloc | apply pw_below_drewN | apply below_drew1) | exact HB.out)); (case side2 => exact Kd.R_tight rfl HO_2.out); rintro e w12 ⟨v161, rfl, ho0, hb, hkp⟩; refine ⟨_, rfl, ?_⟩; have n0_ := Aside0.mk (Kd.R_mono (ok' := fun k_ => True) ho0 (fun k_ hk_ => trivial)); have n1_ := Aside0.mk (hb); clear HB; clear HO_2; have HO162 := n0_; have HB := n1_; clear n0_ n1_; (try clear hb); (try clear hkp); (try clear ho0)))
        go_roundg k1
        case measure => have := HK1.out; omega
        case rel => exact ⟨(t158), (t160), (x3_1), cl, cl, H', ⟨by have := HK1.out; omega⟩, ⟨by (with_reducible repeat (first | apply Kd.R_alloc | apply Kd.R_drewN | apply Kd.R_drew)); exact HO162.out⟩, ⟨bw⟩⟩
       ·rw [if_neg c9] at H
        have c9b0 : (t163 == 0) = false := beq_eq_false_iff_ne.mpr c9
        have c9b1 : (t163 != 0) = true := bne_iff_ne.mpr c9
        simp only [Option.some.injEq, Prod.mk.injEq] at H
        obtain ⟨rfl, rfl, rfl⟩ := H
        go_wp2_with (first | ((with_reducible refine gate_callee (f := 65) rfl ?_); refine goesL_ (some 13) rfl rfl Tryd.func65 (by kernel_rfl) rfl #[.string x0_1, .string (⟨#[13, 10]⟩ : ByteArray)] rfl am ?_; (with_reducible refine (strings_Cut.calls (hG := by first | exact hG | exact Glob.below hG (by first | exact HB.out | (repeat (first | (with_reducible first | exact HB.out | apply below_alloc | apply pw_below_drewN | apply below_drew1) | exact HB.out))) | exact Glob.drawn hG (by repeat (first | exact Drawn0.refl _ | apply Drawn0.step))) x0_1 (⟨#[13, 10]⟩ : ByteArray) t157 t158 true _ A4.out).mono ?_); rintro e w13 ⟨rfl, hb⟩; refine ⟨_, rfl, ?_⟩; have n0_ := Aside0.mk (Kd.R_below (by (with_reducible repeat (first | apply Kd.R_alloc | apply Kd.R_drewN | apply Kd.R_drew)); exact HO_2.out) hb); have n1_ := Aside0.mk (below_step bw hb); clear HO_2; clear HB; have HO_2 := n0_; have HB := n1_; clear n0_ n1_; (try clear hb); (try clear hb2); (try clear hk); (try clear hi); obtain ⟨Ao14, co14, eo14⟩ := Kd.R_slice HO_2.out; subst eo14) | ((with_reducible refine gate_callee (f := 96) rfl ?_); refine goesL_ (some 26) rfl rfl Tryd.func96 (by kernel_rfl) rfl #[.slice Ao14 x2_1.length co14, .string t157] rfl am ?_; (with_reducible refine (head_grow.calls (hG := by first | exact hG | exact Glob.below hG (by first | exact HB.out | (repeat (first | (with_reducible first | exact HB.out | apply below_alloc | apply pw_below_drewN | apply below_drew1) | exact HB.out))) | exact Glob.drawn hG (by repeat (first | exact Drawn0.refl _ | apply Drawn0.step))) k1 (fun k_ => some k_ = (.slice Ao14 x2_1.length co14 : Value).ownBlock) (.slice Ao14 x2_1.length co14) x2_1 t157 t160 t163 w _ ?side1 ?side2 A8.out).mono ?_); (case side1 => repeat (first | (with_reducible first | exact HB.out | apply below_alloc | apply pw_below_drewN | apply below_drew1) | exact HB.out)); (case side2 => exact Kd.R_tight rfl HO_2.out); rintro e w15 ⟨v161, rfl, ho0, hb, hkp⟩; refine ⟨_, rfl, ?_⟩; have n0_ := Aside0.mk (Kd.R_mono (ok' := fun k_ => True) ho0 (fun k_ hk_ => trivial)); have n1_ := Aside0.mk (hb); clear HB; clear HO_2; have HO162 := n0_; have HB := n1_; clear n0_ n1_; (try clear hb); (try clear hkp); (try clear ho0)))
        go_ret3
        exact ⟨_, by first | rfl | (simp [errW_none, errW_some] <;> rfl) | (simp [*, errW_none, errW_some] <;> rfl), by first | exact Kd.R_nil _ _ _ _ _ | exact Kd.N_nil _ _ _ _ _ | exact Kd.V_nil _ _ _ _ _ | exact Kd.Q_nil _ _ _ _ _ | exact Kd.S_nil _ _ _ _ _, bw⟩
     ·replace c5 := Bool.eq_false_iff.mpr c5
      subst c5
      have H1 : (some (([] : List (S30)), (⟨#[]⟩ : ByteArray), 9)) = some (r1, r2, r3) := by rw [if_neg (show ¬ (false = true) by decide)] at H; exact H
      clear H
      have H := H1
      clear H1
      simp only [Option.some.injEq, Prod.mk.injEq] at H
      obtain ⟨rfl, rfl, rfl⟩ := H
      go_wp2_with (first | ((with_reducible refine gate_callee (f := 65) rfl ?_); refine goesL_ (some 13) rfl rfl Tryd.func65 (by kernel_rfl) rfl #[.string x0_1, .string (⟨#[13, 10]⟩ : ByteArray)] rfl am ?_; (with_reducible refine (strings_Cut.calls (hG := by first | exact hG | exact Glob.below hG (by first | exact HB.out | (repeat (first | (with_reducible first | exact HB.out | apply below_alloc | apply pw_below_drewN | apply below_drew1) | exact HB.out))) | exact Glob.drawn hG (by repeat (first | exact Drawn0.refl _ | apply Drawn0.step))) x0_1 (⟨#[13, 10]⟩ : ByteArray) t157 t158 false _ A4.out).mono ?_); rintro e w16 ⟨rfl, hb⟩; refine ⟨_, rfl, ?_⟩; have n0_ := Aside0.mk (Kd.R_below (by (with_reducible repeat (first | apply Kd.R_alloc | apply Kd.R_drewN | apply Kd.R_drew)); exact HO_2.out) hb); have n1_ := Aside0.mk (below_step bw hb); clear HO_2; clear HB; have HO_2 := n0_; have HB := n1_; clear n0_ n1_; (try clear hb); (try clear hb2); (try clear hk); (try clear hi)))
      go_ret3
      exact ⟨_, by first | rfl | (simp [errW_none, errW_some] <;> rfl) | (simp [*, errW_none, errW_some] <;> rfl), by first | exact Kd.R_nil _ _ _ _ _ | exact Kd.N_nil _ _ _ _ _ | exact Kd.V_nil _ _ _ _ _ | exact Kd.Q_nil _ _ _ _ _ | exact Kd.S_nil _ _ _ _ _, bw⟩
 case rest =>
  clear HC2
  try clear p2
  try clear c3
  try clear c3b0
  try clear c3b1
  try clear c5
  try clear c6
  try clear c6b0
  try clear c6b1
  try clear c9
  try clear c9b0
  try clear c9b1
  try clear p2
  obtain ⟨kq, x2_1, x3_1, rfl, HA, HJ1, HO_2, HB⟩ := hcut
  cases kq with
  | zero => exact absurd HA.out (by simp [head_Parse.j1])
  | succ kj1 =>
   have H := HA.out
   clear HA
   simp only [head_Parse.j1] at H
   have H' := Aside0.mk H
   clear H
   obtain ⟨Ao17, co17, eo17⟩ := Kd.R_slice HO_2.out
   subst eo17
   go_wp2
   go_loopg [34] kj1 (fun kq v34 w' => ∃ (x2_2 : List (S30)) (x34_2 : Int), v34 = .int .i64 x34_2 ∧ Aside0 (head_Parse.l1 kq x2_2 x3_1 (x2_1.length : Int) x34_2 = some (r1, r2, r3)) ∧ Aside0 (kq ≤ kj1) ∧ Aside0 (Kd.R k30 30 w' w.heap.size (fun _ => True) (.slice Ao17 x2_1.length co17) x2_2) ∧ Aside0 (Below w.heap.size w w'))
   case atStart => exact ⟨(x2_1), (0), cl, H', ⟨Nat.le_refl _⟩, ⟨by (with_reducible repeat (first | apply Kd.R_alloc | apply Kd.R_drewN | apply Kd.R_drew)); exact HO_2.out⟩, ⟨bw⟩⟩
   case round =>
    clear H'
    try clear p2
    try clear c3
    try clear c3b0
    try clear c3b1
    try clear c5
    try clear c6
    try clear c6b0
    try clear c6b1
    try clear c9
    try clear c9b0
    try clear c9b1
    try clear p2
    obtain ⟨x2_2, x34_2, rfl, HA, HK2, HO_2, HB⟩ := hrel
    have hl2_2 := (Kd.R_reads' HO_2.out).1
    rw [hl2_2] at HO_2
    (try simp only [hl2_2])
    cases gk with
    | zero => exact absurd HA.out (by simp [head_Parse.l1])
    | succ k2 =>
     have H := HA.out
     clear HA
     simp only [head_Parse.l1] at H
     by_cases c18 : x34_2 < (x2_1.length : Int)
     ·rw [if_pos c18] at H
      have c18b0 : decide (x34_2 < (x2_1.length : Int)) = true := decide_eq_true c18
      clear c18
      by_cases c19 : 0 ≤ x34_2
      ·rw [if_pos c19] at H
       have c19b0 : decide (0 ≤ x34_2) = true := decide_eq_true c19
       clear c19
       by_cases c20 : x34_2 < (x2_2.length : Int)
       ·rw [if_pos c20] at H
        have c20b0 : decide (x34_2 < (x2_2.length : Int)) = true := decide_eq_true c20
        clear c20
        replace H := Option.bind_eq_some_iff.mp H
        obtain ⟨t165, A210, H⟩ := H
        replace H : (head_Parse.l1 k2 (x2_2.set (x34_2 : Int).toNat (⟨(rd_T30 x2_2 x34_2).f0, t165⟩ : S30)) x3_1 (x2_1.length : Int) (wrap64 (x34_2 + 1))) = some (r1, r2, r3) := H
        have A21 := Aside0.mk A210
        clear A210
        obtain ⟨y166, hy166⟩ : ∃ y_ : List (S30), y_ = (x2_2.set (x34_2 : Int).toNat (⟨(rd_T30 x2_2 x34_2).f0, t165⟩ : S30)) := ⟨_, rfl⟩
        replace H : (head_Parse.l1 k2 y166 x3_1 (x2_1.length : Int) (wrap64 (x34_2 + 1))) = some (r1, r2, r3) := by first | (rw [hy166]; with_reducible exact H) | (have H2_ := (Option.bind_some _ _).symm.trans H; rw [hy166]; with_reducible exact H2_) | (have H2_ := (Option.bind_some _ _).symm.trans H; with_reducible exact H2_) | with_reducible exact H | (rw [hy166]; exact H) | exact H
        have Ny166 := Aside0.mk hy166
        clear hy166
        have H' := Aside0.mk H
        clear H
        have p164 : 0 ≤ (x34_2 : Int) := od
        have q164 : x34_2 < (x2_2.length : Int) := od
        obtain ⟨ad164, e164, hx164_0, hx164_1⟩ := at_T30 (Kd.R_reads' HO_2.out).2.2 x34_2 p164 q164
        cases e164
        replace p164 := eq_true p164
        replace q164 := eq_true q164
        go_wp2_with (first | ((with_reducible refine gate_callee (f := 97) rfl ?_); refine goesL_ (some 44) rfl rfl Tryd.func97 (by kernel_rfl) rfl #[.string ((rd_T30 x2_2 x34_2).f1)] rfl am ?_; (with_reducible refine (head_trim.calls ((rd_T30 x2_2 x34_2).f1) t165 _ A21.out).mono ?_); rintro e w23 ⟨rfl, hb⟩; refine ⟨_, rfl, ?_⟩; have n0_ := Aside0.mk (Kd.R_below (by (with_reducible repeat (first | apply Kd.R_alloc | apply Kd.R_drewN | apply Kd.R_drew)); exact HO_2.out) hb); have n1_ := Aside0.mk (below_step bw hb); clear HO_2; clear HB; have HO_2 := n0_; have HB := n1_; clear n0_ n1_; (try clear hb); (try clear hb2); (try clear hk); (try clear hi); have p22 : 0 ≤ (x34_2 : Int) := od; have q22 : (x34_2 : Int) < ((x2_2.length : Int) : Int) := od; obtain ⟨go22, co22, eo22, gb22, gl22, cl22, HG22⟩ := Kd.R_form HO_2.out (by omega); (first | cases eo22 | (injection eo22 with ea_ en_ ec_; (first | subst ea_ | (injection ea_ with ea_; subst ea_)); subst ec_; clear en_)); have GB22 := Aside0.mk gb22; have GG22 := Aside0.mk HG22; clear gb22 gl22 HG22; (first | simp only [add_plain] at hx164_0 | skip); (first | simp only [add_plain] at hx164_1 | skip); obtain ⟨ce22, hcl22, hM22, hcc22, hfr22⟩ := Kd.R_elem HO_2.out z30 (x34_2 : Int) p22 q22; obtain rfl := k30_openM hM22; have hx22_0 : w23.cell? ⟨go22, (x34_2 : Int).toNat * 2, none⟩ = some (.string ((rd_T30 x2_2 x34_2).f0)) := hcc22 0 _ rfl; have hx22_1 : w23.cell? ⟨go22, (x34_2 : Int).toNat * 2 + 1, none⟩ = some (.string ((rd_T30 x2_2 x34_2).f1)) := hcc22 1 _ rfl; have hf22_0 : w23.frozen? ⟨go22, (x34_2 : Int).toNat * 2, none⟩ = false := hfr22 0; have hf22_1 : w23.frozen? ⟨go22, (x34_2 : Int).toNat * 2 + 1, none⟩ = false := hfr22 1; clear hcl22 hcc22 hfr22 hM22; replace p22 := eq_true p22; replace q22 := eq_true q22; have HX24 := Aside0.mk (show Kd.R k30 30 w23 w.heap.size (fun _ => True) (.slice (some ⟨go22, 0, none⟩) x2_2.length co17) x2_2 from (by (with_reducible repeat (first | apply Kd.R_alloc | apply Kd.R_drewN | apply Kd.R_drew)); exact HO_2.out)); obtain ⟨ce24, hcl24, hM24, hcc24, hfr24⟩ := Kd.R_elem HX24.out z30 (x34_2 : Int) (od) (by have h_ : (x34_2 : Int) < ((x2_2.length : Int) : Int) := od; first | exact h_ | (have e_ := (Kd.R_reads' HO_2.out).1; omega) | simpa using h_); obtain rfl := k30_openM hM24; have HP24 := Kd.R_seg HX24.out (x34_2 : Int) (od) (by have h_ : (x34_2 : Int) < ((x2_2.length : Int) : Int) := od; first | exact h_ | (have e_ := (Kd.R_reads' HO_2.out).1; omega) | simpa using h_) (seg := [.string t165]) (j := 1) hcl24 hcc24 (show 2 ≤ 2 from by decide) (x' := (⟨(rd_T30 x2_2 x34_2).f0, t165⟩ : S30)) (k30_mkM _ _ _ (⟨(rd_T30 x2_2 x34_2).f0, t165⟩ : S30) ) (fun _ hk => hk); have hx24_1 := hcc24 1 _ rfl; (try simp only [show (k30).sz = 2 from rfl, Nat.mul_one, Nat.add_zero] at hx24_1); have hf24_1 := hfr24 1; (try simp only [show (k30).sz = 2 from rfl, Nat.mul_one, Nat.add_zero] at hf24_1); clear hcl24 hcc24 hfr24 hM24) | ((with_reducible refine gate_store (t := 9) (p := 46) rfl ?_); refine store_event (t := 9) (p := 46) (v := ?vo_w25) (w1 := (w23.setCell ⟨go22, (x34_2 : Int).toNat * 2 + 1, none⟩ (.string t165))) ?hg ?ho ?hn ?hr ?_; (case ho => rfl); (case hg => rfl); (case hn => rfl); (case hr => first | (go_simp; done) | (go_simp; rfl)); intro w25 hw; have hg : w23.grownBy w25 (some go22) := (by rw [hw]; exact HP24.2); have hp_ : Kd.R k30 30 w25 w.heap.size (fun _ => True) (.slice (some ⟨go22, 0, none⟩) x2_2.length co17) y166 := (by rw [hw, Ny166.out]; exact HP24.1); clear HP24; have n0_ := Aside0.mk (hp_); have n1_ := Aside0.mk ((by rw [hw]; exact below_set (HB.out) GB22.out : Below w.heap.size w w25)); clear HO_2; clear HB; have HO_2 := n0_; have HB := n1_; clear n0_ n1_; clear hg hw hp_))
        (try simp only [← hl2_2])
        go_roundg k2
        case measure => have := HJ1.out; have := HK2.out; omega
        case rel => exact ⟨(y166), (wrap64 (x34_2 + 1)), cl, H', ⟨by have := HJ1.out; have := HK2.out; omega⟩, ⟨by (try simp only [hl2_2]); (with_reducible repeat (first | apply Kd.R_alloc | apply Kd.R_drewN | apply Kd.R_drew)); exact HO_2.out⟩, ⟨bw⟩⟩
       ·rw [if_neg c20] at H
        exact absurd H (by simp)
      ·rw [if_neg c19] at H
       exact absurd H (by simp)
     ·rw [if_neg c18] at H
      have c18b0 : decide (x34_2 < (x2_1.length : Int)) = false := decide_eq_false c18
      (try simp only [hl2_2] at c18b0)
      clear c18
      simp only [Option.some.injEq, Prod.mk.injEq] at H
      obtain ⟨rfl, rfl, rfl⟩ := H
      go_wp2
      go_ret3
      exact ⟨_, by first | rfl | (simp [errW_none, errW_some] <;> rfl) | (simp [*, errW_none, errW_some] <;> rfl), by (with_reducible repeat (first | apply Kd.R_alloc | apply Kd.R_drewN | apply Kd.R_drew)); exact HO_2.out, bw⟩

end Go.Proofs.YtoikneogdbdplaaDoor.Fn
set_option linter.unusedVariables false
set_option linter.unusedSimpArgs false
namespace Go.Proofs.YtoikneogdbdplaaDoor.Fn
open Go.RowKit Go.Proofs.YtoikneogdbdplaaDoorW.PrintWords

theorem hid {p : Prop} (h : p) : Hid p := h

/-! The builder's methods, over a builder that the call itself has made. -/
theorem infoByte : (Tryd.prog.info? 5).map (fun i => (i.zero, i.size, i.bytes)) = some (some (.int .u8 0), 1, 1) := by kernel_rfl
theorem sizeBuilder : (Tryd.prog.info? 118).map (·.size) = some 2 := by kernel_rfl
theorem liesBuilder : liesAt Tryd.prog Tryd.prog.depth 118 (2 / Tryd.prog.cellsOf 118) 0 118 1 = true := by kernel_rfl
def bdAt (B b : Nat) (bs : List Value) (w : World) : Prop := Lib.BuilderAtF 118 5 B b (.pointer (some ⟨b, 0, none⟩)) bs w
def isBd (B b : Nat) (bs : List Value) (w : World) : Prop := Lib.IsBuilderF 118 5 B b bs w
def kept (b : Nat) (w w' : World) : Prop := Lib.OthersKept 5 (some b) w w'
theorem bdAt.is {B b : Nat} {bs : List Value} {w : World} (h : bdAt B b bs w) : isBd B b bs w := .inr h

set_option maxRecDepth 100000 in
theorem bd_check (B b : Nat) (bs : List Value) (w : World) (h : isBd B b bs w) :
    Calls Tryd.prog 111 #[.pointer (some ⟨b, 0, none⟩)] w fun e w' => e = .returned (.tuple #[]) ∧ bdAt B b bs w' ∧ Below B w w' ∧ kept b w w' := by
  obtain ⟨j, hj, hjs⟩ := Option.map_eq_some_iff.1 sizeBuilder
  rcases h with h | h
  · have c0 := h.cell0
    have sh := h.shape
    have f0 := h.frozen0
    go_enter Tryd.func111, Tryd.ntmps111
    go_wp2
    rw [Lib.run_to_unsafe w ⟨b, 0, none⟩ Tryd.underlying115 Tryd.underlying160 hj (by rw [hjs]; decide) sh (Nat.zero_lt_succ 1)]
    simp only [Result.andThen]
    rw [Oper.upon_value]
    go_wp2
    rw [run_callFunc_extern Tryd.func140 (by kernel_rfl) (by kernel_rfl) (by kernel_rfl) (e := Extern.AbiNoEscape.same) (by kernel_rfl)]
    rw [Lib.run_noEscape]
    simp only [Result.andThen]
    rw [Oper.upon_value]
    go_wp2
    rw [Lib.run_from_unsafe w ⟨b, 0, none⟩ Tryd.underlying160 Tryd.underlying115 hj sh liesBuilder]
    simp only [Result.andThen]
    rw [Oper.upon_value]
    go_wp2
    go_end0
    exact ⟨rfl, h.used _, (Below.refl B w).setCell (p := ⟨b, 0, none⟩) h.1 _, (Lib.OthersKept.refl _ _ w).setCell ⟨b, 0, none⟩ rfl _⟩
  · have c0 := h.cell0
    go_enter Tryd.func111, Tryd.ntmps111
    go_wp2
    rw [Lib.run_neq_ptr_same w _ Tryd.underlying115 hj]
    go_wp2
    go_end0
    exact ⟨rfl, h, Below.refl B _, Lib.OthersKept.refl _ _ _⟩

set_option maxHeartbeats 2000000 in
set_option maxRecDepth 100000 in
theorem bd_byte (B b : Nat) (bs : List Value) (c : Int) (w : World) (h : isBd B b bs w) (hlen : bs.length + 1 ≤ 140737488355328) (hBw : B ≤ w.heap.size) :
    Calls Tryd.prog 101 #[.pointer (some ⟨b, 0, none⟩), .int .u8 c] w fun e w' => e = .returned .nilIface ∧ bdAt B b (bs ++ [.int .u8 c]) w' ∧ Below B w w' ∧ kept b w w' := by
  obtain ⟨i0, hi, hz0, hz1, hz2⟩ := info_parts infoByte
  go_enter Tryd.func101, Tryd.ntmps101
  go_wp2_with (go_at_call 111; refine (bd_check B b bs _ h).mono ?_)
  rintro e w1 ⟨rfl, h1, hb1, hk1⟩
  obtain ⟨hB, v, hbk, hown, hne⟩ := h1
  have c0 : w1.cell? ⟨b, 0, none⟩ = some (.pointer (some ⟨b, 0, none⟩)) := by rw [Lib.cell_of_heap hbk]; rfl
  have c1 : w1.cell? ⟨b, 1, none⟩ = some v := by rw [Lib.cell_of_heap hbk]; rfl
  go_wp2_with (at_builtin; refine wpList_append_ownF _ rfl _ _ 116 rfl B 5 i0 (.int .u8 0) 1 1 Tryd.underlying116 hi hz0 hz1 hz2 rfl (by decide) _ _ _ rfl (hown.alloc _) ⟨w1.heap.size, 0, none⟩ 1 1 [.int .u8 c] rfl rfl ?c1 ?c2 ?c3 ?c4 ?c5 ?_)
  case c1 =>
    intro j u hj
    match j, hj with
    | 0, hj => simp at hj; subst hj; simp [Addr.add]
  case c2 => intro u hu; simp at hu; subst hu; rfl
  case c3 => unfold maxLen; omega
  case c4 => omega
  case c5 => have := hb1.size; simp; omega
  intro v' w2 hown' hgrow _
  have hlt : b < w1.heap.size := by
    rcases Nat.lt_or_ge b w1.heap.size with h' | h'
    · exact h'
    · simp [Array.getElem?_eq_none h'] at hbk
  have hb2 : w2.heap[b]? = some (.cells #[.pointer (some ⟨b, 0, none⟩), v] 118 (0, 0)) := by
    rw [hgrow.block b (by simp; omega) (fun e => hne e.symm), Lib.alloc_old w1 _ b hlt]
    exact hbk
  have d0 : w2.cell? ⟨b, 0, none⟩ = some (.pointer (some ⟨b, 0, none⟩)) := by rw [Lib.cell_of_heap hb2]; rfl
  have d1 : w2.cell? ⟨b, 1, none⟩ = some v := by rw [Lib.cell_of_heap hb2]; rfl
  have f1 : w2.frozen? ⟨b, 1, none⟩ = false := Lib.frozen_of_heap hb2 1
  obtain ⟨g, cap, rfl⟩ : ∃ g cap, v' = .slice (some ⟨g, 0, none⟩) (bs.length + 1) cap := by
    rcases hown'.2 with ⟨_, h0⟩ | ⟨g, cap, cur, fz, hv, _⟩
    · omega
    · exact ⟨g, cap, hv⟩
  go_wp2
  go_ret
  refine ⟨rfl, ?_, ?_, ((hk1.alloc _).grown hgrow (Lib.ownsRowF_kind (hown.alloc _))).setCell ⟨b, 1, none⟩ rfl _⟩
  · exact Lib.BuilderAtF.put (T := 118) (e := 5) hB hb2 (bs' := bs ++ [.int .u8 c]) (by simpa using hown') (by decide)
  · exact ((hb1.alloc (by have := hb1.size; omega) _).grown hgrow (by have := hb1.size; simp; omega) (fun k hk => (hown.lt k hk).1)).setCell (p := ⟨b, 1, none⟩) hB _

set_option maxHeartbeats 2000000 in
set_option maxRecDepth 100000 in
theorem bd_string (B b : Nat) (bs : List Value) (s : ByteArray) (w : World) (h : isBd B b bs w) (hlen : bs.length + s.size ≤ 140737488355328) (hBw : B ≤ w.heap.size) :
    Calls Tryd.prog 78 #[.pointer (some ⟨b, 0, none⟩), .string s] w fun e w' => e = .returned (.tuple #[.int .i64 s.size, .nilIface]) ∧ bdAt B b (bs ++ Lib.strCells s) w' ∧ Below B w w' ∧ kept b w w' := by
  obtain ⟨i0, hi, hz0, hz1, hz2⟩ := info_parts infoByte
  go_enter Tryd.func78, Tryd.ntmps78
  go_wp2_with (go_at_call 111; refine (bd_check B b bs _ h).mono ?_)
  rintro e w1 ⟨rfl, h1, hb1, hk1⟩
  obtain ⟨hB, v, hbk, hown, hne⟩ := h1
  have c0 : w1.cell? ⟨b, 0, none⟩ = some (.pointer (some ⟨b, 0, none⟩)) := by rw [Lib.cell_of_heap hbk]; rfl
  have c1 : w1.cell? ⟨b, 1, none⟩ = some v := by rw [Lib.cell_of_heap hbk]; rfl
  go_wp2_with (at_builtin; refine Lib.wpList_append_own_stringF _ rfl _ _ 116 9 rfl B 5 i0 Tryd.underlying116 Tryd.underlying9 hi hz0 hz1 hz2 _ _ _ rfl hown s rfl ?c3 ?c4 ?c5 ?_)
  case c3 => unfold maxLen; omega
  case c4 => omega
  case c5 => have := hb1.size; omega
  intro v' w2 hown' hgrow _
  have hlt : b < w1.heap.size := by
    rcases Nat.lt_or_ge b w1.heap.size with h' | h'
    · exact h'
    · simp [Array.getElem?_eq_none h'] at hbk
  have hb2 : w2.heap[b]? = some (.cells #[.pointer (some ⟨b, 0, none⟩), v] 118 (0, 0)) := by
    rw [hgrow.block b hlt (fun e => hne e.symm)]
    exact hbk
  have d0 : w2.cell? ⟨b, 0, none⟩ = some (.pointer (some ⟨b, 0, none⟩)) := by rw [Lib.cell_of_heap hb2]; rfl
  have d1 : w2.cell? ⟨b, 1, none⟩ = some v := by rw [Lib.cell_of_heap hb2]; rfl
  have f1 : w2.frozen? ⟨b, 1, none⟩ = false := Lib.frozen_of_heap hb2 1
  obtain ⟨ao, n', cap, rfl⟩ : ∃ ao n' cap, v' = .slice ao n' cap := by
    rcases hown'.2 with ⟨hv, _⟩ | ⟨g, cap, cur, fz, hv, _⟩
    · exact ⟨_, _, _, hv⟩
    · exact ⟨_, _, _, hv⟩
  go_wp2
  go_ret2
  refine ⟨rfl, ?_, ?_, (hk1.grown hgrow (Lib.ownsRowF_kind hown)).setCell ⟨b, 1, none⟩ rfl _⟩
  · exact Lib.BuilderAtF.put (T := 118) (e := 5) hB hb2 (bs' := bs ++ Lib.strCells s) (by simpa [Lib.strCells_length] using hown') (by decide)
  · exact (hb1.grown hgrow (by have := hb1.size; omega) (fun k hk => (hown.lt k hk).1)).setCell (p := ⟨b, 1, none⟩) hB _
end Go.Proofs.YtoikneogdbdplaaDoor.Fn
set_option linter.unusedVariables false
namespace Go.Proofs.YtoikneogdbdplaaDoor.Pl
open Go.RowKit Go.Proofs.YtoikneogdbdplaaDoorW.PrintWords

/-! Tools for the plain laws: byte texts as lists, rounds. -/
def bs (s : ByteArray) : Bytes := s.data.toList
theorem bs_str (l : Bytes) : bs (str l) = l := str_data l
theorem str_bs (s : ByteArray) : str (bs s) = s := str_toList s
theorem bs_length (s : ByteArray) : (bs s).length = s.size := data_length s
theorem toList_bs (s : ByteArray) : s.toList = bs s := ByteArray.toList_eq s
theorem bs_inj {a b : ByteArray} (h : bs a = bs b) : a = b := by rw [← str_bs a, ← str_bs b, h]
theorem str_app (a b : Bytes) : str a ++ str b = str (a ++ b) := by
  apply bs_inj
  simp [bs, str]
theorem bs_app (a b : ByteArray) : bs (a ++ b) = bs a ++ bs b := by simp [bs]
theorem bs_extract (s : ByteArray) (i j : Nat) : bs (s.extract i j) = ((bs s).take j).drop i := by
  simp [bs, List.extract_eq_take_drop, List.drop_take]
theorem bt_nat (s : ByteArray) (i : Nat) (h : i < s.size) : bt s (i : Int) = (s[i].toNat : Int) := by
  have := bt_at s (i : Int) (by simpa using h)
  simpa using this.symm
theorem bt_bs (s : ByteArray) (i : Nat) (h : i < (bs s).length) : bt s (i : Int) = ((bs s)[i].toNat : Int) := by
  rw [bt_nat s i (by rw [bs_length] at h; exact h)]
  rfl
theorem drop_cons {l : Bytes} {i : Nat} {c : UInt8} {r : Bytes} (h : l.drop i = c :: r) : i < l.length ∧ l[i]? = some c ∧ l.drop (i + 1) = r ∧ (l.take (i + 1)) = l.take i ++ [c] := by
  have hi : i < l.length := by
    rcases Nat.lt_or_ge i l.length with h' | h'
    · exact h'
    · rw [List.drop_of_length_le h'] at h; cases h
  have h1 : l[i]? = some c := by
    have := congrArg List.head? h
    rw [List.head?_drop] at this
    exact this
  refine ⟨hi, h1, ?_, ?_⟩
  · rw [← List.drop_drop, h]; rfl
  · rw [List.take_add_one, h1]; rfl
theorem drop_nil {l : Bytes} {i : Nat} (h : l.drop i = []) : l.length ≤ i := by
  have := congrArg List.length h
  simp at this
  omega
theorem bt_drop {s : ByteArray} {i : Nat} {c : UInt8} {r : Bytes} (h : (bs s).drop i = c :: r) : bt s (i : Int) = (c.toNat : Int) := by
  obtain ⟨h1, h2, _⟩ := drop_cons h
  rw [bt_bs s i h1]
  rw [List.getElem?_eq_getElem h1] at h2
  injection h2 with h2
  rw [h2]
theorem wrap_id {x : Int} (h0 : -9223372036854775808 ≤ x) (h1 : x ≤ 9223372036854775807) : wrap64 x = x := by
  unfold wrap64
  omega
theorem wrap_succ (i : Nat) (h : i ≤ 140737488355328) : wrap64 ((i : Int) + 1) = ((i + 1 : Nat) : Int) := by
  rw [wrap_id (by omega) (by omega)]
  omega
theorem byte_lt (c : UInt8) : c.toNat < 256 := c.toNat_lt
theorem extract_one {s : ByteArray} {i : Nat} {c : UInt8} {r : Bytes} (h : (bs s).drop i = c :: r) : s.extract i (i + 1) = str [c] := by
  apply bs_inj
  rw [bs_extract, bs_str, (drop_cons h).2.2.2, List.drop_append_of_le_length (by rw [List.length_take]; have := (drop_cons h).1; omega)]
  have := (drop_cons h).1
  simp [List.drop_eq_nil_of_le, Nat.min_eq_left (Nat.le_of_lt this)]
theorem ofNat_toNat (c : UInt8) : UInt8.ofNat c.toNat = c := by simp
theorem nums_one (n : Int) : strOfNums [n] = str [UInt8.ofNat n.toNat] := rfl
end Go.Proofs.YtoikneogdbdplaaDoor.Pl
set_option linter.unusedVariables false
namespace Go.Proofs.YtoikneogdbdplaaDoor.Fn
open Go.RowKit Go.Proofs.YtoikneogdbdplaaDoorW.PrintWords

/-! strings.IndexRune of a blank text at a sign beyond ASCII: -1. -/
theorem blank_decode0 : Utf8.decode ⟨#[32, 9]⟩ 0 = (32, 1) := by decide
theorem blank_decode1 : Utf8.decode ⟨#[32, 9]⟩ 1 = (9, 1) := by decide
theorem enc_two (r : Nat) (h1 : 128 ≤ r) (h2 : r < 2048) : Utf8.encode (r : Int) = ⟨#[UInt8.ofNat (192 + r / 64), UInt8.ofNat (128 + r % 64)]⟩ := by
  have hv : Utf8.valid (r : Int) = true := by unfold Utf8.valid; simp; omega
  unfold Utf8.encode
  simp only [hv, if_true, Int.toNat_natCast]
  rw [if_neg (by omega), if_pos (by omega)]
theorem enc_more (r : Nat) (h1 : 2048 ≤ r) : 3 ≤ (Utf8.encode (r : Int)).size ∧ (Utf8.encode (r : Int)).size ≤ 4 := by
  unfold Utf8.encode
  by_cases hv : Utf8.valid (r : Int) = true
  · simp only [hv, if_true, Int.toNat_natCast]
    rw [if_neg (by omega), if_neg (by omega)]
    split
    · exact ⟨by show 3 ≤ 3; omega, by show 3 ≤ 4; omega⟩
    · exact ⟨by show 3 ≤ 4; omega, by show 4 ≤ 4; omega⟩
  · simp only [hv]
    exact ⟨by show 3 ≤ 3; omega, by show 3 ≤ 4; omega⟩

set_option maxHeartbeats 4000000 in
set_option maxRecDepth 100000 in
theorem indexRune_bad (w : World) :
    Calls Tryd.prog 151 #[.string ⟨#[32, 9]⟩, .int .i32 65533] w fun e w' => e = .returned (.int .i64 (-1)) ∧ Below w.heap.size w w' := by
  go_enter Tryd.func151, Tryd.ntmps151
  go_wp2
  go_loopw [] (fun wr => ∃ (pos : Nat), pos ≤ 2 ∧ wr.heap[w.heap.size]? = some (.stringIter ⟨#[32, 9]⟩ pos) ∧ Below w.heap.size w wr) (fun wr => 2 - wr.iterPos w.heap.size)
  case atStart =>
    refine ⟨0, by omega, ?_, (Below.refl _ w).alloc (by simp) _⟩
    have := World.iter_heap w ⟨#[32, 9]⟩ 0
    simpa using this
  case round =>
    obtain ⟨pos, hp2, hit, hbw⟩ := hrel
    have hsz : w.heap.size < wr.heap.size := (Array.getElem?_eq_some_iff.1 hit).1
    rcases (show pos = 0 ∨ pos = 1 ∨ pos = 2 by omega) with rfl | rfl | rfl
    · have hnx : ∀ ty, (Instr.next (.pointer (some ⟨w.heap.size, 0, none⟩)) true ty).run Tryd.prog wr = _ := fun ty => Lib.run_next_any_at wr w.heap.size ⟨#[32, 9]⟩ 0 ty hit (by decide)
      rw [blank_decode0] at hnx
      have hit2 := Lib.iterAt_heap wr w.heap.size ⟨#[32, 9]⟩ 0 (0 + 1) hit
      have hbw2 := Lib.below_iterAt hbw (k := w.heap.size) (by omega) ⟨#[32, 9]⟩ (0 + 1)
      go_wp2
      go_roundw
      case rel => exact ⟨1, by omega, hit2, hbw2⟩
      case measure => simp only [World.iterPos, hit2, hit]; omega
    · have hnx : ∀ ty, (Instr.next (.pointer (some ⟨w.heap.size, 0, none⟩)) true ty).run Tryd.prog wr = _ := fun ty => Lib.run_next_any_at wr w.heap.size ⟨#[32, 9]⟩ 1 ty hit (by decide)
      rw [blank_decode1] at hnx
      have hit2 := Lib.iterAt_heap wr w.heap.size ⟨#[32, 9]⟩ 1 (1 + 1) hit
      have hbw2 := Lib.below_iterAt hbw (k := w.heap.size) (by omega) ⟨#[32, 9]⟩ (1 + 1)
      go_wp2
      go_roundw
      case rel => exact ⟨2, by omega, hit2, hbw2⟩
      case measure => simp only [World.iterPos, hit2, hit]; omega
    · have hnx : ∀ ty, (Instr.next (.pointer (some ⟨w.heap.size, 0, none⟩)) true ty).run Tryd.prog wr = _ := fun ty => Lib.run_next_end_at wr w.heap.size ⟨#[32, 9]⟩ 2 ty hit (by decide)
      go_wp2
      go_ret
      exact ⟨rfl, hbw⟩

set_option maxHeartbeats 4000000 in
set_option maxRecDepth 1000000 in
theorem indexRune_more (r : Nat) (w : World) (h1 : 2048 ≤ r) (h2 : r ≤ 1114111) (h3 : r < 55296 ∨ 57344 ≤ r) (h4 : r ≠ 65533) :
    Calls Tryd.prog 151 #[.string ⟨#[32, 9]⟩, .int .i32 r] w fun e w' => e = .returned (.int .i64 (-1)) ∧ Below w.heap.size w w' := by
  obtain ⟨g1, g2⟩ := enc_more r h1
  have e1 : ((0 : Int) ≤ (r : Int)) = True := eq_true (by omega)
  have e2 : ((r : Int) < 128) = False := eq_false (by omega)
  have e3 : ((r : Int) == 65533) = false := beq_eq_false_iff_ne.2 (by omega)
  have e4 : Lib.validRune (r : Int) = true := by unfold Lib.validRune; simp; omega
  have e5 : decide ((r : Int) < 128) = false := decide_eq_false (by omega)
  have e6 : decide ((0 : Int) ≤ (r : Int)) = true := decide_eq_true (by omega)
  go_enter Tryd.func151, Tryd.ntmps151
  have e7 : (Utf8.encode (r : Int)).size ≤ maxLen := by unfold maxLen; omega
  have e8 : wrap64 (((Utf8.encode (r : Int)).size : Int) - 1) = ((Utf8.encode (r : Int)).size : Int) - 1 := by unfold wrap64; omega
  go_wp2_with (go_at_call 170; refine (Tryd.utf8_ValidRune _ _).mono ?_; rintro e W1 ⟨rfl, rfl⟩; rw [e4])
  go_step3
  go_wp2
  go_loopw [9] (fun v9 wr => v9 = .int .i64 (((Utf8.encode (r : Int)).size : Int) - 1) ∧ wr = W1) (fun v9 wr => 0)
  case atStart => exact ⟨rfl, rfl⟩
  case round =>
    obtain ⟨rfl, rfl⟩ := hrel
    have e9 : decide ((((Utf8.encode (r : Int)).size : Int) - 1) < 2) = false := decide_eq_false (by omega)
    go_wp2
    (try rw [Exit.noGoto_exit])
    go_wp2
    (try rw [Exit.noGoto_ret])
    go_ret
    exact ⟨rfl, Below.refl _ _⟩

set_option maxHeartbeats 4000000 in
set_option maxRecDepth 1000000 in
theorem indexRune_two (r : Nat) (w : World) (h1 : 128 ≤ r) (h2 : r < 2048) :
    Calls Tryd.prog 151 #[.string ⟨#[32, 9]⟩, .int .i32 r] w fun e w' => e = .returned (.int .i64 (-1)) ∧ Below w.heap.size w w' := by
  have HE := hid (enc_two r h1 h2)
  obtain ⟨b, hb⟩ : ∃ b : UInt8, UInt8.ofNat (128 + r % 64) = b := ⟨_, rfl⟩
  obtain ⟨c, hc⟩ : ∃ c : UInt8, UInt8.ofNat (192 + r / 64) = c := ⟨_, rfl⟩
  have hbn : b.toNat = 128 + r % 64 := by rw [← hb]; simp; omega
  rw [hb, hc] at HE
  have e3 : ((r : Int) == 65533) = false := beq_eq_false_iff_ne.2 (by omega)
  have e4 : Lib.validRune (r : Int) = true := by unfold Lib.validRune; simp; omega
  have e5 : decide ((r : Int) < 128) = false := decide_eq_false (by omega)
  have e6 : decide ((0 : Int) ≤ (r : Int)) = true := decide_eq_true (by omega)
  have e10 : (9 != (b.toNat : Int)) = true := by rw [bne_iff_ne]; omega
  have e8 : wrap64 (((⟨#[c, b]⟩ : ByteArray).size : Int) - 1) = 1 := by show wrap64 (((2 : Nat) : Int) - 1) = 1; unfold wrap64; omega
  have e11 : Lib.indexByte [] (b.toNat : Int).toNat.toUInt8 = -1 := rfl
  go_enter Tryd.func151, Tryd.ntmps151
  go_wp2_with (go_at_call 170; refine (Tryd.utf8_ValidRune _ _).mono ?_; rintro e W1 ⟨rfl, rfl⟩; rw [e4])
  go_step3
  go_wp2
  rw [HE.out]
  simp only [e8]
  go_loopw [9] (fun v9 wr => v9 = .int .i64 1 ∧ wr = W1) (fun v9 wr => 0)
  case atStart => exact ⟨rfl, rfl⟩
  case round =>
    obtain ⟨rfl, rfl⟩ := hrel
    go_wp2
    go_step3
    go_wp2
    go_quiet (fail)
    simp only [show ((((⟨#[32, 9]⟩ : ByteArray)[1]'(by decide)).toNat : Int) != (((⟨#[c, b]⟩ : ByteArray)[1]'(by show 1 < 2; decide)).toNat : Int)) = true from e10]
    go_wp2
    have hB3 := pw_below_drewN (Below.refl wr.heap.size wr) nq
    generalize wr.drewN nq = W3 at hB3 ⊢
    have e12 : IntKind.i64.wrap 2 = 2 := by decide
    have e13 : ((2 : Int) ≤ ((⟨#[32, 9]⟩ : ByteArray).size : Int)) = True := eq_true (by decide)
    go_quiet (first | (go_at_call 131; refine Calls.quiet_of_same (Tryd.strings_IndexByte _ _ _)))
    simp only [show ∀ x, Lib.indexByte ByteArray.empty.data.toList x = -1 from fun _ => rfl]
    go_wp2
    rw [Exit.noGoto_ret]
    show Exit.noGoto _ .ret _ _
    repeat (first | rw [Exit.noGoto_ret] | (simp only [Exit.then, Exit.inBlock]))
    go_ret
    exact ⟨rfl, pw_below_drewN hB3 _⟩

theorem indexRune_high (r : Nat) (w : World) (h1 : 128 ≤ r) (ok : r < 55296 ∨ (57344 ≤ r ∧ r ≤ 1114111)) :
    Calls Tryd.prog 151 #[.string ⟨#[32, 9]⟩, .int .i32 r] w fun e w' => e = .returned (.int .i64 (-1)) ∧ Below w.heap.size w w' := by
  by_cases h2 : r < 2048
  · exact indexRune_two r w h1 h2
  · by_cases h3 : r = 65533
    · subst h3
      exact indexRune_bad w
    · exact indexRune_more r w (by omega) (by omega) (by omega) h3
end Go.Proofs.YtoikneogdbdplaaDoor.Fn
set_option linter.unusedVariables false
namespace Go.Proofs.YtoikneogdbdplaaDoor.Fn
open Go.RowKit Go.Proofs.YtoikneogdbdplaaDoorW.PrintWords

def strings_IndexAny.f (a0 a1 : ByteArray) : Option Int :=
  if a1 = ⟨#[32, 9]⟩ then (if a0.size < 4294967281 then some (Lib.indexAny a0.data.toList [32, 9]) else none) else none
theorem at_list (s : ByteArray) (j : Nat) (h : j < s.size) : s.data.toList[j]? = some (s.get! j) := by
  have h' : j < s.data.size := h
  rw [Array.getElem?_toList, Array.getElem?_eq_getElem h']
  congr 1
  show s.data[j] = s.data[j]!
  rw [getElem!_pos s.data j h']
theorem noAny_run {s : ByteArray} {i : Nat} : ∀ n, i + n ≤ s.size → (∀ j, j < n → 128 ≤ (s.get! (i + j)).toNat) → Lib.NoAny s.data.toList [32, 9] i → Lib.NoAny s.data.toList [32, 9] (i + n)
  | 0, _, _, h => h
  | n + 1, h0, hb, h => by
    have ih := noAny_run n (by omega) (fun j hj => hb j (by omega)) h
    have hx := at_list s (i + n) (by omega)
    refine ih.succ hx ?_
    have := hb n (by omega)
    generalize s.get! (i + n) = c at this
    have h1 : c ≠ 32 := by rintro rfl; revert this; decide
    have h2 : c ≠ 9 := by rintro rfl; revert this; decide
    simp [h1, h2]
theorem high_run (s : ByteArray) (i : Nat) (h : i < s.size) (h1 : 128 ≤ (s.get! i).toNat) : ∀ j, j < (Utf8.decode s i).2 → 128 ≤ (s.get! (i + j)).toNat := by
  intro j hj
  by_cases h0 : j = 0
  · subst h0; exact h1
  · rw [Lib.decode_at] at hj
    have g0 : (s.get! i).toNat < 256 := (s.get! i).toNat_lt
    unfold Lib.decodeN at hj
    have hj' : j = 1 ∨ j = 2 ∨ j = 3 := by
      repeat' split at hj
      all_goals (simp only [] at hj; omega)
    rcases hj' with rfl | rfl | rfl
    all_goals
      repeat' split at hj
      all_goals (simp only [] at hj; omega)
theorem sign_ok (s : ByteArray) (i : Nat) : (Utf8.decode s i).1 < 55296 ∨ (57344 ≤ (Utf8.decode s i).1 ∧ (Utf8.decode s i).1 ≤ 1114111) := by
  rw [Lib.decode_at]
  have g0 : (s.get! i).toNat < 256 := (s.get! i).toNat_lt
  unfold Lib.decodeN
  repeat' split
  all_goals (simp only []; omega)
theorem sign_beyond (s : ByteArray) (i : Nat) (h : 128 ≤ (s.get! i).toNat) : 128 ≤ (Utf8.decode s i).1 := by
  rw [Lib.decode_at]
  have g0 : (s.get! i).toNat < 256 := (s.get! i).toNat_lt
  unfold Lib.decodeN
  repeat' split
  all_goals (simp only []; omega)
set_option maxHeartbeats 4000000 in
set_option maxRecDepth 1000000 in
theorem indexAny_short (s : ByteArray) (w : World) (h8 : s.size ≤ 8) :
    Calls Tryd.prog 123 #[.string s, .string ⟨#[32, 9]⟩] w fun e w' => e = .returned (.int .i64 (Lib.indexAny s.data.toList [32, 9])) ∧ Below w.heap.size w w' := by
  have h8z : decide ((8 : Int) < (s.size : Int)) = false := decide_eq_false (by omega)
  go_enter Tryd.func123, Tryd.ntmps123
  go_wp2_with (go_at_call 152; refine (Tryd.strings_shouldUseASCIISet _ _).mono ?_; rintro e w' ⟨rfl, hw⟩; rw [hw, h8z])
  go_loopw [] (fun wr => ∃ (pos : Nat), pos ≤ s.size ∧ wr.heap[w.heap.size]? = some (.stringIter s pos) ∧ Below w.heap.size w wr ∧ Hid (Lib.NoAny s.data.toList [32, 9] pos)) (fun wr => s.size - wr.iterPos w.heap.size)
  case atStart =>
    refine ⟨0, Nat.zero_le _, ?_, (Below.refl _ w).alloc (by simp) _, hid (Lib.NoAny.zero _ _)⟩
    have := World.iter_heap w s 0
    simpa using this
  case round =>
    obtain ⟨pos, hps, hit, hbw, hno⟩ := hrel
    have hsz : w.heap.size < wr.heap.size := (Array.getElem?_eq_some_iff.1 hit).1
    by_cases hp : pos < s.size
    · have hwd : 1 ≤ (Utf8.decode s pos).2 := Pl.width_pos s pos hp
      have hwe : pos + (Utf8.decode s pos).2 ≤ s.size := Pl.width_end s pos hp
      have hnx : ∀ ty, (Instr.next (.pointer (some ⟨w.heap.size, 0, none⟩)) true ty).run Tryd.prog wr = _ := fun ty => Lib.run_next_any_at wr w.heap.size s pos ty hit hp
      have hit2 := Lib.iterAt_heap wr w.heap.size s pos (pos + (Utf8.decode s pos).2) hit
      have hbw2 := Lib.below_iterAt hbw (k := w.heap.size) (by omega) s (pos + (Utf8.decode s pos).2)
      by_cases h1 : 128 ≤ (s.get! pos).toNat
      · have HI := hid (indexRune_high (Utf8.decode s pos).1 (wr.iterAt w.heap.size s (pos + (Utf8.decode s pos).2)) (sign_beyond s pos h1) (sign_ok s pos))
        have hno2 := hid (noAny_run _ hwe (high_run s pos hp h1) hno.out)
        clear h1 hno
        go_wp2_with (go_at_call 151; refine HI.out.mono ?_; rintro e W1 ⟨rfl, hb1⟩)
        go_roundw
        case rel =>
          refine ⟨pos + (Utf8.decode s pos).2, hwe, ?_, hbw2.trans (hb1.mono (by rw [Lib.iterAt_size]; omega)), hno2⟩
          rw [hb1.block w.heap.size (by rw [Lib.iterAt_size]; exact hsz)]
          exact hit2
        case measure =>
          have hit3 : W1.heap[w.heap.size]? = some (.stringIter s (pos + (Utf8.decode s pos).2)) := by
            rw [hb1.block w.heap.size (by rw [Lib.iterAt_size]; exact hsz)]
            exact hit2
          simp only [World.iterPos, hit3, hit]
          omega
      · have hd : Utf8.decode s pos = ((s.get! pos).toNat, 1) := by
          rw [Lib.decode_at]
          unfold Lib.decodeN
          rw [if_pos (by omega)]
        have hx := at_list s pos hp
        have hl : (s.get! pos).toNat < 128 := by omega
        clear h1
        rw [hd] at hnx hit2 hbw2
        generalize s.get! pos = c at *
        have hback : ((c.toNat : Int)).toNat.toUInt8 = c := by simp
        have HR := hid (Tryd.strings_IndexRune_ascii ⟨#[32, 9]⟩ (c.toNat : Int) (wr.iterAt w.heap.size s (pos + 1)) (by omega) (by omega))
        rw [hback] at HR
        by_cases hin : ([32, 9] : List UInt8).contains c = true
        · have hv : decide ((0 : Int) ≤ Lib.indexByte (⟨#[32, 9]⟩ : ByteArray).data.toList c) = true := by
            rw [← Lib.contains_iff_indexByte]; exact hin
          have hres := hid (Lib.indexAny_hit hno.out hx hin)
          clear hin hno hx
          go_wp2_with (go_at_call 151; refine HR.out.mono ?_; rintro e W1 ⟨rfl, hw⟩; rw [hw])
          go_ret
          exact ⟨by rw [hres.out]; rfl, hbw2⟩
        · have hin' : ([32, 9] : List UInt8).contains c = false := by simpa using hin
          have hv : decide ((0 : Int) ≤ Lib.indexByte (⟨#[32, 9]⟩ : ByteArray).data.toList c) = false := by
            rw [← Lib.contains_iff_indexByte]; exact hin'
          have hno2 := hid (hno.out.succ hx hin')
          clear hin hin' hno hx
          go_wp2_with (go_at_call 151; refine HR.out.mono ?_; rintro e W1 ⟨rfl, hw⟩; rw [hw])
          go_roundw
          case rel => exact ⟨pos + 1, by omega, hit2, hbw2, hno2⟩
          case measure => simp only [World.iterPos, hit2, hit]; omega
    · obtain rfl : pos = s.size := by omega
      have hnx : ∀ ty, (Instr.next (.pointer (some ⟨w.heap.size, 0, none⟩)) true ty).run Tryd.prog wr = _ := fun ty => Lib.run_next_end_at wr w.heap.size s s.size ty hit hp
      have hres := hid (Lib.indexAny_none (s := s.data.toList) (chars := [32, 9]) (by rw [Pl.data_length]; exact hno.out))
      go_wp2
      go_ret
      exact ⟨by rw [hres.out]; rfl, hbw⟩

theorem ascii9 : ∀ (j : Nat) b, (⟨#[32, 9]⟩ : ByteArray).data.toList[j]? = some b → b.toNat < 128 := fun _ b hb => of_decide_eq_true (List.all_eq_true.1 (show ([32, 9] : List UInt8).all (fun b => decide (b.toNat < 128)) = true by decide) b (List.mem_of_getElem? hb))
theorem strings_IndexAny.calls (a0 a1 : ByteArray) (r : Int) (w : World) (h : strings_IndexAny.f a0 a1 = some r) :
    Calls Tryd.prog 123 #[.string a0, .string a1] w fun e w' => e = .returned (.int .i64 r) ∧ Below w.heap.size w w' := by
  unfold strings_IndexAny.f at h
  by_cases hc : a1 = ⟨#[32, 9]⟩
  · rw [if_pos hc] at h
    by_cases hs : a0.size < 4294967281
    · rw [if_pos hs] at h
      have HR := Option.some.inj h
      subst HR
      subst hc
      by_cases h8 : a0.size ≤ 8
      · exact indexAny_short a0 w h8
      · have h116 : (Tryd.prog.info? (Tryd.lays153_ren.t 116)).map (fun i => (i.zero, i.size)) = some (some (.agg (Array.replicate 256 (.bool false))), 256) := by kernel_rfl
        refine (Any.strings_IndexAny_long Tryd.lays153 (zero_of_info h116).1 (zero_of_info h116).2 a0 ⟨#[32, 9]⟩ w (by decide) (by omega) hs (by decide) ascii9).mono fun e w' ⟨h1, h2⟩ => ⟨h1, ?_⟩
        rw [h2]
        exact ((Below.refl _ _).alloc (Nat.le_refl _) _).alloc (by simp) _
    · rw [if_neg hs] at h
      exact absurd h (by simp)
  · rw [if_neg hc] at h
    exact absurd h (by simp)
end Go.Proofs.YtoikneogdbdplaaDoor.Fn
set_option linter.unusedVariables false
namespace Go.Proofs.YtoikneogdbdplaaDoor.Fn
open Go.RowKit Go.Proofs.YtoikneogdbdplaaDoorW.PrintWords

def strings_TrimLeft.f (a0 a1 : ByteArray) : Option ByteArray :=
  if a0.size ≤ 140737488355328 then (if a1.size ≤ 1000 then (if a1.data.toList.all (fun b => decide (b.toNat < 128)) = true then some (Pl.str (Lib.trimLeftS a0.data.toList a1.data.toList)) else none) else none) else none
theorem strings_TrimLeft.calls (a0 a1 r : ByteArray) (w : World) (h : strings_TrimLeft.f a0 a1 = some r) :
    Calls Tryd.prog 122 #[.string a0, .string a1] w fun e w' => e = .returned (.string r) ∧ Below w.heap.size w w' := by
  unfold strings_TrimLeft.f at h
  by_cases hs : a0.size ≤ 140737488355328
  · rw [if_pos hs] at h
    by_cases hc : a1.size ≤ 1000
    · rw [if_pos hc] at h
      by_cases ha : a1.data.toList.all (fun b => decide (b.toNat < 128)) = true
      · rw [if_pos ha] at h
        have HR := Option.some.inj h
        subst HR
        exact Any.strings_TrimLeft_laid Tryd.lays161 (by kernel_rfl) a0 a1 w (by omega) (ascii_of_all ha)
      · rw [if_neg ha] at h; exact absurd h (by simp)
    · rw [if_neg hc] at h; exact absurd h (by simp)
  · rw [if_neg hs] at h; exact absurd h (by simp)
end Go.Proofs.YtoikneogdbdplaaDoor.Fn
namespace Go.Proofs.YtoikneogdbdplaaDoor.Fn
open Go.RowKit Go.Proofs.YtoikneogdbdplaaDoorW.PrintWords Go.Proofs.YtoikneogdbdplaaDoorW.PrintLast Go.Proofs.YtoikneogdbdplaaDoorW.PrintMore
attribute [local go_sem] max2_int min2_int max_two min_two max_three min_three max_four min_four
set_option linter.unusedVariables false
set_option linter.unusedSimpArgs false

/-! ### head_piece: function 98 -/
def head_piece.f (a0 : ByteArray) : Option (Int) := (strings_TrimLeft.f a0 (⟨#[32, 9]⟩ : ByteArray)).bind fun t167 => (if 0 ≤ (wrap64 ((a0.size : Int) - (t167.size : Int))) then (if (wrap64 ((a0.size : Int) - (t167.size : Int))) ≤ (a0.size : Int) then ((strings_IndexAny.f (a0.extract ((wrap64 ((a0.size : Int) - (t167.size : Int))) : Int).toNat a0.size) (⟨#[32, 9]⟩ : ByteArray)).bind fun t168 => (if t168 ≥ 0 then (some (wrap64 ((wrap64 ((a0.size : Int) - (t167.size : Int))) + t168))) else (some (a0.size : Int)))) else (none)) else (none))
set_option maxHeartbeats 8000000 in
set_option maxRecDepth 100000 in
theorem head_piece.calls (a0 : ByteArray) (r : Int) (w : World) (h : head_piece.f a0 = some r) :
  Calls Tryd.prog 98 #[.string a0] w fun e w' => e = .returned (.int .i64 r) ∧ Below w.heap.size w w' := by
 have HB := Aside0.mk (Below.refl w.heap.size w)
 have H : ((strings_TrimLeft.f a0 (⟨#[32, 9]⟩ : ByteArray)).bind fun t167 => (if 0 ≤ (wrap64 ((a0.size : Int) - (t167.size : Int))) then (if (wrap64 ((a0.size : Int) - (t167.size : Int))) ≤ (a0.size : Int) then ((strings_IndexAny.f (a0.extract ((wrap64 ((a0.size : Int) - (t167.size : Int))) : Int).toNat a0.size) (⟨#[32, 9]⟩ : ByteArray)).bind fun t168 => (if t168 ≥ 0 then (some (wrap64 ((wrap64 ((a0.size : Int) - (t167.size : Int))) + t168))) else (some (a0.size : Int)))) else (none)) else (none))) = some r := h
 clear h
 replace H := Option.bind_eq_some_iff.mp H
 obtain ⟨t167, A20, H⟩ := H
 replace H : (if 0 ≤ (wrap64 ((a0.size : Int) - (t167.size : Int))) then (if (wrap64 ((a0.size : Int) - (t167.size : Int))) ≤ (a0.size : Int) then ((strings_IndexAny.f (a0.extract ((wrap64 ((a0.size : Int) - (t167.size : Int))) : Int).toNat a0.size) (⟨#[32, 9]⟩ : ByteArray)).bind fun t168 => (if t168 ≥ 0 then (some (wrap64 ((wrap64 ((a0.size : Int) - (t167.size : Int))) + t168))) else (some (a0.size : Int)))) else (none)) else (none)) = some r := H
 have A2 := Aside0.mk A20
 clear A20
 obtain ⟨ji3, hji3⟩ : ∃ j_ : Int, (wrap64 ((a0.size : Int) - (t167.size : Int))) = j_ := ⟨_, rfl⟩
 replace H : (if 0 ≤ (ji3) then (if (ji3) ≤ (a0.size : Int) then ((strings_IndexAny.f (a0.extract ((ji3) : Int).toNat a0.size) (⟨#[32, 9]⟩ : ByteArray)).bind fun t168 => (if t168 ≥ 0 then (some (wrap64 ((ji3) + t168))) else (some (a0.size : Int)))) else (none)) else (none)) = some r := by first | (rw [hji3] at H; exact H) | (simp only [hji3] at H ⊢; exact H)
 (try rw [hji3] at A2)
 have hji3w : (IntKind.i64.wrap ((a0.size : Int) - (t167.size : Int))) = ji3 := (i64_w _).trans hji3
 by_cases c4 : 0 ≤ (ji3)
 ·rw [if_pos c4] at H
  have c4b0 := eq_true c4
  have c4b1 : decide (0 ≤ (ji3)) = true := decide_eq_true c4
  clear c4
  by_cases c5 : (ji3) ≤ (a0.size : Int)
  ·rw [if_pos c5] at H
   have c5b0 := eq_true c5
   have c5b1 : decide ((ji3) ≤ (a0.size : Int)) = true := decide_eq_true c5
   clear c5
   replace H := Option.bind_eq_some_iff.mp H
   obtain ⟨t168, A60, H⟩ := H
   replace H : (if t168 ≥ 0 then (some (wrap64 ((ji3) + t168))) else (some (a0.size : Int))) = some r := H
   have A6 := Aside0.mk A60
   clear A60
   by_cases c7 : t168 ≥ 0
   ·rw [if_pos c7] at H
    have c7b0 : decide (0 ≤ t168) = true := decide_eq_true c7
    clear c7
    obtain rfl := Option.some.inj H
    go_enter Tryd.func98, Tryd.ntmps98
    go_wp2_with (first | ((with_reducible refine gate_callee (f := 122) rfl ?_); refine goesL_ (some 8) rfl rfl Tryd.func122 (by kernel_rfl) rfl #[.string a0, .string (⟨#[32, 9]⟩ : ByteArray)] rfl am ?_; (with_reducible refine (strings_TrimLeft.calls a0 (⟨#[32, 9]⟩ : ByteArray) t167 _ A2.out).mono ?_); rintro e w8 ⟨rfl, hb⟩; refine ⟨_, rfl, ?_⟩; have n0_ := Aside0.mk (below_step bw hb); clear HB; have HB := n0_; clear n0_; (try clear hb); (try clear hb2); (try clear hk); (try clear hi)) | ((with_reducible refine gate_callee (f := 123) rfl ?_); refine goesL_ (some 14) rfl rfl Tryd.func123 (by kernel_rfl) rfl #[.string (a0.extract ((ji3) : Int).toNat a0.size), .string (⟨#[32, 9]⟩ : ByteArray)] rfl (by (try simp only [List.map_toArray, List.map_cons, List.map_nil]); first | done | (simp only [hji3]; rfl) | rfl | (simp only [List.length_drop, List.length_take]; rfl)) ?_; (with_reducible refine (strings_IndexAny.calls (a0.extract ((ji3) : Int).toNat a0.size) (⟨#[32, 9]⟩ : ByteArray) t168 _ A6.out).mono ?_); rintro e w9 ⟨rfl, hb⟩; refine ⟨_, rfl, ?_⟩; have n0_ := Aside0.mk (below_step bw hb); clear HB; have HB := n0_; clear n0_; (try clear hb); (try clear hb2); (try clear hk); (try clear hi)))
    go_ret
    exact ⟨by first | rfl | (simp [errW_none, errW_some] <;> rfl) | (simp only [← hji3]; first | rfl | (simp [errW_none, errW_some] <;> rfl)) | (simp [*, errW_none, errW_some] <;> rfl), bw⟩
   ·rw [if_neg c7] at H
    have c7b0 : decide (0 ≤ t168) = false := decide_eq_false c7
    clear c7
    obtain rfl := Option.some.inj H
    go_enter Tryd.func98, Tryd.ntmps98
    go_wp2_with (first | ((with_reducible refine gate_callee (f := 122) rfl ?_); refine goesL_ (some 8) rfl rfl Tryd.func122 (by kernel_rfl) rfl #[.string a0, .string (⟨#[32, 9]⟩ : ByteArray)] rfl am ?_; (with_reducible refine (strings_TrimLeft.calls a0 (⟨#[32, 9]⟩ : ByteArray) t167 _ A2.out).mono ?_); rintro e w10 ⟨rfl, hb⟩; refine ⟨_, rfl, ?_⟩; have n0_ := Aside0.mk (below_step bw hb); clear HB; have HB := n0_; clear n0_; (try clear hb); (try clear hb2); (try clear hk); (try clear hi)) | ((with_reducible refine gate_callee (f := 123) rfl ?_); refine goesL_ (some 14) rfl rfl Tryd.func123 (by kernel_rfl) rfl #[.string (a0.extract ((ji3) : Int).toNat a0.size), .string (⟨#[32, 9]⟩ : ByteArray)] rfl (by (try simp only [List.map_toArray, List.map_cons, List.map_nil]); first | done | (simp only [hji3]; rfl) | rfl | (simp only [List.length_drop, List.length_take]; rfl)) ?_; (with_reducible refine (strings_IndexAny.calls (a0.extract ((ji3) : Int).toNat a0.size) (⟨#[32, 9]⟩ : ByteArray) t168 _ A6.out).mono ?_); rintro e w11 ⟨rfl, hb⟩; refine ⟨_, rfl, ?_⟩; have n0_ := Aside0.mk (below_step bw hb); clear HB; have HB := n0_; clear n0_; (try clear hb); (try clear hb2); (try clear hk); (try clear hi)))
    go_ret
    exact ⟨by first | rfl | (simp [errW_none, errW_some] <;> rfl) | (simp only [← hji3]; first | rfl | (simp [errW_none, errW_some] <;> rfl)) | (simp [*, errW_none, errW_some] <;> rfl), bw⟩
  ·rw [if_neg c5] at H
   exact absurd H (by simp)
 ·rw [if_neg c4] at H
  exact absurd H (by simp)

end Go.Proofs.YtoikneogdbdplaaDoor.Fn
set_option linter.unusedVariables false
set_option linter.unusedSimpArgs false
namespace Go.Proofs.YtoikneogdbdplaaDoor.Pl
open Go.RowKit Go.Proofs.YtoikneogdbdplaaDoorW.PrintWords Go.Proofs.YtoikneogdbdplaaDoor.Fn

/-! head: how a field is written, in pieces. -/
def wb (c : UInt8) : Bool := ([32, 9] : List UInt8).contains c
def lead (s : Bytes) : Nat := (s.takeWhile wb).length
def word (s : Bytes) : Nat := (s.takeWhile (fun c => !wb c)).length
def pieceL (s : Bytes) : Nat := lead s + word (s.drop (lead s))
theorem lead_le (s : Bytes) : lead s ≤ s.length := (List.takeWhile_prefix wb).length_le
theorem word_le (s : Bytes) : word s ≤ s.length := (List.takeWhile_prefix _).length_le
theorem pieceL_le (s : Bytes) : pieceL s ≤ s.length := by
  unfold pieceL
  have h1 := lead_le s
  have h2 := word_le (s.drop (lead s))
  rw [List.length_drop] at h2
  omega
theorem pieceL_pos (s : Bytes) (h : s ≠ []) : 0 < pieceL s := by
  cases s with
  | nil => exact absurd rfl h
  | cons c r =>
    unfold pieceL lead
    by_cases hc : wb c = true
    · rw [List.takeWhile_cons_of_pos hc]; simp; omega
    · rw [List.takeWhile_cons_of_neg hc]
      simp only [List.length_nil, List.drop_zero]
      unfold word
      rw [List.takeWhile_cons_of_pos (by simpa using hc)]; simp
theorem drop_lead : ∀ s : Bytes, s.dropWhile wb = s.drop (lead s)
  | [] => rfl
  | c :: r => by
    unfold lead
    by_cases hc : wb c = true
    · rw [List.takeWhile_cons_of_pos hc, List.dropWhile_cons_of_pos hc, drop_lead r]; rfl
    · rw [List.takeWhile_cons_of_neg hc, List.dropWhile_cons_of_neg hc]; rfl
theorem indexAny_word : ∀ s : Bytes, Lib.indexAny s [32, 9] = if word s = s.length then -1 else (word s : Int)
  | [] => by rfl
  | c :: r => by
    have ih := indexAny_word r
    have hl := word_le r
    unfold word at ih hl ⊢
    by_cases hc : wb c = true
    · have hc' : ([32, 9] : List UInt8).contains c = true := hc
      rw [List.takeWhile_cons_of_neg (by simp [hc])]
      simp [Lib.indexAny]
      intro h1 h2
      exfalso
      simp at hc'
      rcases hc' with rfl | rfl <;> simp at *
    · have hc' : ([32, 9] : List UInt8).contains c = false := Bool.eq_false_iff.mpr hc
      rw [List.takeWhile_cons_of_pos (by simpa using hc), Lib.indexAny]
      rw [hc', if_neg (by decide), ih]
      simp only [List.length_cons]
      by_cases h : (List.takeWhile (fun c => !wb c) r).length = r.length
      · rw [if_pos h, if_pos (by decide), if_pos (by omega)]
      · rw [if_neg h, if_neg (by first | (simp; done) | (simp; omega)), if_neg (by omega)]
        omega
theorem headpiece_is (s : ByteArray) (h : s.size ≤ 4000000000) : head_piece.f s = some (pieceL (bs s) : Int) := by
  have hb := bs_length s
  have h1 := lead_le (bs s)
  have h3 := pieceL_le (bs s)
  have e1 : strings_TrimLeft.f s ⟨#[32, 9]⟩ = some (str ((bs s).drop (lead (bs s)))) := by
    unfold strings_TrimLeft.f
    rw [if_pos (by omega), if_pos (by decide), if_pos (by decide)]
    congr 2
    exact drop_lead _
  have e2 : (str ((bs s).drop (lead (bs s)))).size = s.size - lead (bs s) := by rw [str_size, List.length_drop, hb]
  have e3 : wrap64 ((s.size : Int) - ((s.size - lead (bs s) : Nat) : Int)) = (lead (bs s) : Int) := by
    rw [wrap_id (by omega) (by omega)]
    omega
  unfold head_piece.f
  rw [e1]
  simp only [Option.bind_some]
  rw [e2, e3, if_pos (by omega), if_pos (by omega), Int.toNat_natCast]
  have e4 : strings_IndexAny.f (s.extract (lead (bs s)) s.size) ⟨#[32, 9]⟩ = some (Lib.indexAny ((bs s).drop (lead (bs s))) [32, 9]) := by
    unfold strings_IndexAny.f
    have e5 : bs (s.extract (lead (bs s)) s.size) = (bs s).drop (lead (bs s)) := by
      rw [bs_extract, List.take_of_length_le (by omega)]
    have e6 : (s.extract (lead (bs s)) s.size).size = s.size - lead (bs s) := by rw [← bs_length, e5, List.length_drop, hb]
    rw [if_pos rfl, if_pos (by omega)]
    show some (Lib.indexAny (bs _) _) = _
    rw [e5]
  rw [e4]
  simp only [Option.bind_some]
  rw [indexAny_word]
  have h4 := word_le ((bs s).drop (lead (bs s)))
  rw [List.length_drop] at h4
  unfold pieceL
  by_cases hw : word ((bs s).drop (lead (bs s))) = ((bs s).drop (lead (bs s))).length
  · rw [if_pos hw, if_neg (by decide)]
    rw [List.length_drop] at hw
    congr 1
    omega
  · rw [if_neg hw, if_pos (by omega), wrap_id (by omega) (by omega)]
    congr 1
def brk (first : Bool) (pos : Nat) (s : Bytes) : Bool := !first && decide (78 < pos + pieceL s)
def showFrom : Nat → Bool → Nat → Bytes → Bytes
  | 0, _, _, _ => []
  | f + 1, first, pos, s => if s = [] then [] else (if brk first pos s = true then [13, 10] else []) ++ (s.take (pieceL s) ++ showFrom f false ((if brk first pos s = true then 0 else pos) + pieceL s) (s.drop (pieceL s)))
def showL (n v : Bytes) : Bytes := (n ++ [58]) ++ (showFrom (v.length + 1) true (n.length + 1) (if v = [] then [] else 32 :: v) ++ [13, 10])
end Go.Proofs.YtoikneogdbdplaaDoor.Pl
set_option linter.unusedVariables false
set_option linter.unusedSimpArgs false
namespace Go.Proofs.YtoikneogdbdplaaDoor.Fn
open Go.RowKit Go.Proofs.YtoikneogdbdplaaDoorW.PrintWords

def head_Show.f (a0 a1 : ByteArray) : Option ByteArray := if a0.size ≤ 1000000000 then (if a1.size ≤ 1000000000 then some (Pl.str (Pl.showL (Pl.bs a0) (Pl.bs a1))) else none) else none
theorem strCells_bs (s : ByteArray) : Lib.strCells s = Lib.byteCells (Pl.bs s) := rfl

theorem bd_below {B b : Nat} {l : List Value} {W W' : World} (h : isBd B b l W) (hb : Below W.heap.size W W') : isBd B b l W' := by
  rcases h with h | h
  · refine .inl ?_
    have hl := h.lt
    obtain ⟨h1, v, h2, h3, h4⟩ := h
    exact ⟨h1, v, (hb.block b hl).trans h2, h3.kept (row := none) ⟨hb.os, hb.tape, hb.output, hb.size, fun k hk _ => hb.block k hk⟩ (Classical.em _), h4⟩
  · refine .inr ?_
    have hl := h.lt
    obtain ⟨h1, v, h2, h3, h4⟩ := h
    exact ⟨h1, v, (hb.block b hl).trans h2, h3.kept (row := none) ⟨hb.os, hb.tape, hb.output, hb.size, fun k hk _ => hb.block k hk⟩ (Classical.em _), h4⟩
theorem bd_lt {B b : Nat} {l : List Value} {W : World} (h : isBd B b l W) : b < W.heap.size := by
  rcases h with h | h <;> exact h.lt
def strLen : Value → Nat | .string s => s.size | _ => 0
theorem toList_ne {s : ByteArray} (h : s.toList = ([] : List UInt8)) : (s.toList == ([] : List UInt8)) = true ∧ (s.toList != ([] : List UInt8)) = false := ⟨beq_iff_eq.mpr h, bne_eq_false_iff_eq.mpr h⟩
theorem toList_ne' {s : ByteArray} (h : ¬ s.toList = ([] : List UInt8)) : (s.toList == ([] : List UInt8)) = false ∧ (s.toList != ([] : List UInt8)) = true := ⟨beq_eq_false_iff_ne.mpr h, bne_iff_ne.mpr h⟩

set_option maxHeartbeats 8000000 in
set_option maxRecDepth 100000 in
theorem head_Show.calls (a0 a1 r : ByteArray) (w : World) (h : head_Show.f a0 a1 = some r) :
    Calls Tryd.prog 53 #[.agg #[.string a0, .string a1]] w fun e w' => e = .returned (.string r) ∧ Below w.heap.size w w' := by
  unfold head_Show.f at h
  by_cases hs : a0.size ≤ 1000000000
  · rw [if_pos hs] at h
    by_cases hs1 : a1.size ≤ 1000000000
    · rw [if_pos hs1] at h
      have HR := hid (Option.some.inj h)
      clear h
      have hz1 : (a0 ++ (⟨#[58]⟩ : ByteArray)).size = a0.size + 1 := by rw [ByteArray.size_append]; rfl
      have hz2 : ((⟨#[32]⟩ : ByteArray) ++ a1).size = 1 + a1.size := by rw [ByteArray.size_append]; rfl
      have hB1 : Below w.heap.size w (w.alloc (.cells #[.string a0, .string a1] 30)) := (Below.refl _ w).alloc (Nat.le_refl _) _
      have hF : isBd (w.heap.size + 1) (w.heap.size + 1) [] ((w.alloc (.cells #[.string a0, .string a1] 30)).alloc (.cells #[.pointer none, .slice none 0 0] 118)) := by
        have := Lib.IsBuilderF.of (Lib.fresh_isBuilder 118 5 (w.alloc (.cells #[.string a0, .string a1] 30)))
        rwa [World.size_alloc] at this
      have hbx : (w.alloc (.cells #[.string a0, .string a1] 30)).heap[w.heap.size]? = some (.cells #[.string a0, .string a1] 30 (0, 0)) := World.alloc_heap_new w _
      have HX : Hid (∀ W, Below (w.heap.size + 1) ((w.alloc (.cells #[.string a0, .string a1] 30)).alloc (.cells #[.pointer none, .slice none 0 0] 118)) W → W.heap[w.heap.size]? = some (.cells #[.string a0, .string a1] 30 (0, 0)) ∧ Below w.heap.size w W) := fun W hW => by
        have h0 := ((Below.refl (w.heap.size + 1) (w.alloc (.cells #[.string a0, .string a1] 30))).alloc (by simp) (.cells #[.pointer none, .slice none 0 0] 118)).trans hW
        exact ⟨(h0.block w.heap.size (by omega)).trans hbx, hB1.trans (h0.mono (by omega))⟩
      have HF := hid hF
      clear hF hbx hB1
      have HT : Hid (∃ S0 : ByteArray, S0 = (if a1.toList = [] then ⟨#[]⟩ else ⟨#[32]⟩ ++ a1) ∧ S0.size ≤ a1.size + 1 ∧ Pl.bs S0 = (if Pl.bs a1 = [] then [] else 32 :: Pl.bs a1)) := by
        refine ⟨_, rfl, ?_, ?_⟩
        · split
          · exact Nat.zero_le _
          · rw [hz2]; omega
        · rw [Pl.toList_bs]
          split
          · rfl
          · rw [Pl.bs_app]; rfl
      have hz3 := Pl.bs_length a0
      have hz4 := Pl.bs_length a1
      obtain ⟨S0, hS, hSz, hSb⟩ := HT.out
      have HI : Hid ((Pl.bs a0 ++ [58]) ++ (Pl.showFrom (a1.size + 1) true (a0.size + 1) (Pl.bs S0) ++ [13, 10]) = Pl.showL (Pl.bs a0) (Pl.bs a1)) := by
        show _ = _
        unfold Pl.showL
        rw [hSb, hz3, hz4]
      clear HT hSb
      have hv : (a1.toList = [] ∧ (a1.toList == ([] : List UInt8)) = true ∧ (a1.toList != ([] : List UInt8)) = false ∧ Hid (Value.string ⟨#[]⟩ = .string S0)) ∨ (¬ a1.toList = [] ∧ (a1.toList == ([] : List UInt8)) = false ∧ (a1.toList != ([] : List UInt8)) = true ∧ Hid (Value.string (⟨#[32]⟩ ++ a1) = .string S0)) := by
        by_cases h : a1.toList = []
        · exact .inl ⟨h, (toList_ne h).1, (toList_ne h).2, hid (by rw [hS, if_pos h])⟩
        · exact .inr ⟨h, (toList_ne' h).1, (toList_ne' h).2, hid (by rw [hS, if_neg h])⟩
      clear hS
      rcases hv with ⟨hv, hv0, hv1, hS⟩ | ⟨hv, hv0, hv1, hS⟩
      all_goals
        go_enter Tryd.func53, Tryd.ntmps53
        go_wp2_with (go_at_call 78; refine (bd_string (w.heap.size + 1) (w.heap.size + 1) [] _ _ HF.out (by rw [hz1]; simp only [List.length_nil]; omega) (by simp)).mono ?_; rintro e W1 ⟨rfl, h1, b1, k1⟩; obtain ⟨hb1, B1⟩ := HX.out _ b1; have c0 : W1.cell? ⟨w.heap.size, 0, none⟩ = some (.string a0) := (by rw [Lib.cell_of_heap hb1]; rfl); have c1 : W1.cell? ⟨w.heap.size, 1, none⟩ = some (.string a1) := (by rw [Lib.cell_of_heap hb1]; rfl); clear b1 k1 hb1)
        go_loopw [4, 5, 6] (fun v4 v5 v6 wr => ∃ (pos fuel : Nat) (fst : Bool) (s : ByteArray) (acc : List UInt8), v4 = .int .i64 pos ∧ v5 = .string s ∧ v6 = .bool fst ∧ isBd (w.heap.size + 1) (w.heap.size + 1) (Lib.byteCells acc) wr ∧ Below w.heap.size w wr ∧ Hid (acc ++ (Pl.showFrom fuel fst pos (Pl.bs s) ++ [13, 10]) = Pl.showL (Pl.bs a0) (Pl.bs a1)) ∧ s.size ≤ fuel ∧ pos ≤ acc.length ∧ acc.length + 3 * s.size ≤ 4000000100) (fun v4 v5 v6 wr => strLen v5)
        case atStart =>
          refine ⟨a0.size + 1, a1.size + 1, true, S0, Pl.bs a0 ++ [58], rfl, hS.out, rfl, ?_, B1, HI, hSz, by rw [List.length_append, hz3]; exact Nat.le_refl _, by rw [List.length_append, hz3]; simp only [List.length_cons, List.length_nil]; omega⟩
          have := h1.is
          rw [List.nil_append, strCells_bs, Pl.bs_app] at this
          exact this
        case round =>
          obtain ⟨pos, fuel, fst, s, acc, rfl, rfl, rfl, hI, hbw, hacc, hfu, hpa, hsz⟩ := hrel
          have hzs := Pl.bs_length s
          have hwsz := hbw.size
          have hblt := bd_lt hI
          by_cases he : s.toList = []
          · obtain ⟨e0, e1⟩ := toList_ne he
            have hend : Hid (acc ++ [13, 10] = Pl.showL (Pl.bs a0) (Pl.bs a1)) := by
              have h0 := hacc.out
              rw [show Pl.bs s = [] from by rw [← Pl.toList_bs]; exact he] at h0
              cases fuel with
              | zero => exact h0
              | succ f => rw [Pl.showFrom, if_pos rfl] at h0; exact h0
            clear hacc he
            go_wp2_with (first
              | (go_at_call 78; refine (bd_string (w.heap.size + 1) (w.heap.size + 1) (Lib.byteCells acc) ⟨#[13, 10]⟩ _ hI (by rw [Lib.byteCells_length]; show acc.length + 2 ≤ _; omega) (by omega)).mono ?_; rintro e W2 ⟨rfl, h2, b2, k2⟩; have h3 : isBd (w.heap.size + 1) (w.heap.size + 1) (Lib.byteCells (acc ++ [13, 10])) W2 := (by rw [Lib.byteCells_append]; exact h2.is))
              | (go_at_call 79; refine (Tryd.Builder_String_any_k (w.heap.size + 1) (w.heap.size + 1) (acc ++ [13, 10]) _ h3 (by have := b2.size; omega)).mono ?_; rintro e W3 ⟨rfl, _, b3, _⟩))
            go_ret
            refine ⟨?_, hbw.trans ((b2.mono (by omega)).trans (b3.mono (by omega)))⟩
            rw [← HR.out, ← hend.out]
            rfl
          · obtain ⟨e0, e1⟩ := toList_ne' he
            have hne : Pl.bs s ≠ [] := by rw [← Pl.toList_bs]; exact he
            have hp1 := Pl.pieceL_pos _ hne
            have hp2 := Pl.pieceL_le (Pl.bs s)
            have hp3 := Pl.headpiece_is s (by omega)
            obtain ⟨f, rfl⟩ : ∃ f, fuel = f + 1 := ⟨fuel - 1, by omega⟩
            have hstep := hacc.out
            rw [Pl.showFrom, if_neg hne] at hstep
            unfold Pl.brk at hstep
            obtain ⟨n, hn⟩ : ∃ n, Pl.pieceL (Pl.bs s) = n := ⟨_, rfl⟩
            rw [hn] at hp1 hp2 hp3 hstep
            have HP := hid hp3
            have hx1 : Pl.bs (s.extract 0 n) = (Pl.bs s).take n := by rw [Pl.bs_extract, List.drop_zero]
            have hx2 : Pl.bs (s.extract n s.size) = (Pl.bs s).drop n := by rw [Pl.bs_extract, List.take_of_length_le (by omega)]
            have hx3 : (s.extract 0 n).size = n := by rw [← Pl.bs_length, hx1, List.length_take]; omega
            have hx4 : (s.extract n s.size).size = s.size - n := by rw [← Pl.bs_length, hx2, List.length_drop]; omega
            have hn1 : ((n : Int) ≤ (s.size : Int)) = True := eq_true (by omega)
            have hn2 : ((0 : Int) ≤ (n : Int)) = True := eq_true (by omega)
            clear hacc he hne hn hp3
            rcases (show fst = true ∨ (fst = false ∧ ¬ 78 < pos + n) ∨ (fst = false ∧ 78 < pos + n) from by cases fst <;> by_cases h : 78 < pos + n <;> simp [h]) with rfl | ⟨rfl, hb⟩ | ⟨rfl, hb⟩
            · have hnew := hid hstep
              clear hstep
              go_wp2_with (first
                | (go_at_call 98; refine (head_piece.calls s n _ HP.out).mono ?_; rintro e W2 ⟨rfl, b2⟩; have hI2 := bd_below hI b2)
                | (go_at_call 78; refine (bd_string (w.heap.size + 1) (w.heap.size + 1) (Lib.byteCells acc) (s.extract 0 n) _ hI2 (by rw [Lib.byteCells_length, hx3]; omega) (by have := b2.size; omega)).mono ?_; rintro e W3 ⟨rfl, h2, b3, k2⟩))
              go_roundw
              case rel =>
                refine ⟨pos + n, f, false, s.extract n s.size, acc ++ (Pl.bs s).take n, by go_num, rfl, rfl, ?_, hbw.trans ((b2.mono (by omega)).trans (b3.mono (by omega))), ?_, by omega, by rw [List.length_append, List.length_take]; omega, by rw [List.length_append, List.length_take, hx4]; omega⟩
                · rw [Lib.byteCells_append, ← hx1]; exact h2.is
                · show _ = _
                  rw [hx2, ← hnew.out]
                  simp []
              case measure => simp only [strLen, hx4]; omega
            · have d0 : decide ((78 : Int) < (pos : Int) + (n : Int)) = false := decide_eq_false (by omega)
              have hnew := hid hstep
              clear hstep
              go_wp2_with (first
                | (go_at_call 98; refine (head_piece.calls s n _ HP.out).mono ?_; rintro e W2 ⟨rfl, b2⟩; have hI2 := bd_below hI b2)
                | (go_at_call 78; refine (bd_string (w.heap.size + 1) (w.heap.size + 1) (Lib.byteCells acc) (s.extract 0 n) _ hI2 (by rw [Lib.byteCells_length, hx3]; omega) (by have := b2.size; omega)).mono ?_; rintro e W3 ⟨rfl, h2, b3, k2⟩))
              go_roundw
              case rel =>
                refine ⟨pos + n, f, false, s.extract n s.size, acc ++ (Pl.bs s).take n, by go_num, rfl, rfl, ?_, hbw.trans ((b2.mono (by omega)).trans (b3.mono (by omega))), ?_, by omega, by rw [List.length_append, List.length_take]; omega, by rw [List.length_append, List.length_take, hx4]; omega⟩
                · rw [Lib.byteCells_append, ← hx1]; exact h2.is
                · show _ = _
                  rw [hx2, ← hnew.out]
                  simp [hb]
              case measure => simp only [strLen, hx4]; omega
            · have d0 : decide ((78 : Int) < (pos : Int) + (n : Int)) = true := decide_eq_true (by omega)
              have hnew := hid hstep
              clear hstep
              go_wp2_with (first
                | (go_at_call 98; refine (head_piece.calls s n _ HP.out).mono ?_; rintro e W2 ⟨rfl, b2⟩; have hI2 := bd_below hI b2)
                | (go_at_call 78; refine (bd_string (w.heap.size + 1) (w.heap.size + 1) (Lib.byteCells (acc ++ [13, 10])) (s.extract 0 n) _ h3 (by rw [Lib.byteCells_length, hx3, List.length_append]; show acc.length + 2 + n ≤ _; omega) (by have := b2.size; have := b3.size; omega)).mono ?_; rintro e W4 ⟨rfl, h4, b4, k4⟩)
                | (go_at_call 78; refine (bd_string (w.heap.size + 1) (w.heap.size + 1) (Lib.byteCells acc) ⟨#[13, 10]⟩ _ hI2 (by rw [Lib.byteCells_length]; show acc.length + 2 ≤ _; omega) (by have := b2.size; omega)).mono ?_; rintro e W3 ⟨rfl, h2, b3, k2⟩; have h3 : isBd (w.heap.size + 1) (w.heap.size + 1) (Lib.byteCells (acc ++ [13, 10])) W3 := (by rw [Lib.byteCells_append]; exact h2.is)))
              go_roundw
              case rel =>
                refine ⟨n, f, false, s.extract n s.size, acc ++ [13, 10] ++ (Pl.bs s).take n, by go_num, rfl, rfl, ?_, hbw.trans ((b2.mono (by omega)).trans ((b3.mono (by omega)).trans (b4.mono (by omega)))), ?_, by omega, by rw [List.length_append, List.length_take]; omega, ?_⟩
                · rw [Lib.byteCells_append, ← hx1]; exact h4.is
                · show _ = _
                  rw [hx2, ← hnew.out]
                  simp [hb]
                · rw [List.length_append, List.length_append, List.length_take, hx4]
                  simp only [List.length_cons, List.length_nil]
                  omega
              case measure => simp only [strLen, hx4]; omega
    · rw [if_neg hs1] at h; exact absurd h (by simp)
  · rw [if_neg hs] at h; exact absurd h (by simp)
end Go.Proofs.YtoikneogdbdplaaDoor.Fn
namespace Go.Proofs.YtoikneogdbdplaaDoor.Fn
open Go.RowKit Go.Proofs.YtoikneogdbdplaaDoorW.PrintWords Go.Proofs.YtoikneogdbdplaaDoorW.PrintLast Go.Proofs.YtoikneogdbdplaaDoorW.PrintMore
attribute [local go_sem] max2_int min2_int max_two min_two max_three min_three max_four min_four
set_option linter.unusedVariables false
set_option linter.unusedSimpArgs false

attribute [local go_sem high] eqA30
/-! ### bulletinlaw15_works: function 11 -/
def bulletinlaw15_works.f (k : Nat)  : Option (Bool) := (head_Parse.f k (⟨#[65, 58, 32, 98, 13, 10, 32, 99, 13, 10, 13, 10, 100]⟩ : ByteArray)).bind fun bt169 => (if bt169.2.2 = 0 then (if (bt169.1.length : Int) = 1 then (if 0 < (bt169.1.length : Int) then (if ((((rd_T30 bt169.1 0).f0).toList) == ([65] : List UInt8) && ((((rd_T30 bt169.1 0).f1).toList) == ([98, 32, 99] : List UInt8))) = true then (if bt169.2.1.toList = ([100] : List UInt8) then ((head_Show.f ((rd_T30 bt169.1 0).f0) ((rd_T30 bt169.1 0).f1)).bind fun t176 => (some (t176.toList == ([65, 58, 32, 98, 32, 99, 13, 10] : List UInt8)))) else (some false)) else (some false)) else (none)) else (some false)) else (some false))
theorem bulletinlaw15_works.mono : ∀ k, LeO (bulletinlaw15_works.f k ) (bulletinlaw15_works.f (k + 1) ) := by
 intro  k
 unfold bulletinlaw15_works.f
 repeat' first
   | (with_reducible exact head_Parse.mono _ _)
   | (with_reducible exact LeO.refl _)
   | (with_reducible exact LeO.none _)
   | (with_reducible refine LeO.ite ?_ ?_)
   | (with_reducible refine LeO.bind ?_ (fun _ => ?_))
   | exact head_Parse.mono _ _
   | exact LeO.none _
   | refine LeO.ite ?_ ?_
   | refine LeO.bind ?_ (fun _ => ?_)
set_option maxHeartbeats 8000000 in
set_option maxRecDepth 100000 in
theorem bulletinlaw15_works.calls (k : Nat)  (r : Bool) (w : World) (hG : Glob w) (h : bulletinlaw15_works.f k  = some r) :
  Calls Tryd.prog 11 #[] w fun e w' => e = .returned (.bool r) ∧ Below w.heap.size w w' := by
 have hu30 := Tryd.underlying30
 have HB := Aside0.mk (Below.refl w.heap.size w)
 have H : ((head_Parse.f k (⟨#[65, 58, 32, 98, 13, 10, 32, 99, 13, 10, 13, 10, 100]⟩ : ByteArray)).bind fun bt169 => (if bt169.2.2 = 0 then (if (bt169.1.length : Int) = 1 then (if 0 < (bt169.1.length : Int) then (if ((((rd_T30 bt169.1 0).f0).toList) == ([65] : List UInt8) && ((((rd_T30 bt169.1 0).f1).toList) == ([98, 32, 99] : List UInt8))) = true then (if bt169.2.1.toList = ([100] : List UInt8) then ((head_Show.f ((rd_T30 bt169.1 0).f0) ((rd_T30 bt169.1 0).f1)).bind fun t176 => (some (t176.toList == ([65, 58, 32, 98, 32, 99, 13, 10] : List UInt8)))) else (some false)) else (some false)) else (none)) else (some false)) else (some false))) = some r := h
 clear h
 replace H := Option.bind_eq_some_iff.mp H
 obtain ⟨⟨t169, t170, t171⟩, A10, H⟩ := H
 replace H : (if t171 = 0 then (if (t169.length : Int) = 1 then (if 0 < (t169.length : Int) then (if ((((rd_T30 t169 0).f0).toList) == ([65] : List UInt8) && ((((rd_T30 t169 0).f1).toList) == ([98, 32, 99] : List UInt8))) = true then (if t170.toList = ([100] : List UInt8) then ((head_Show.f ((rd_T30 t169 0).f0) ((rd_T30 t169 0).f1)).bind fun t176 => (some (t176.toList == ([65, 58, 32, 98, 32, 99, 13, 10] : List UInt8)))) else (some false)) else (some false)) else (none)) else (some false)) else (some false)) = some r := H
 have A1 := Aside0.mk A10
 clear A10
 by_cases c2 : t171 = 0
 ·rw [if_pos c2] at H
  have c2b0 : (t171 == 0) = true := beq_iff_eq.mpr c2
  have c2b1 : (t171 != 0) = false := bne_eq_false_iff_eq.mpr c2
  clear c2
  by_cases c3 : (t169.length : Int) = 1
  ·rw [if_pos c3] at H
   have c3b0 : ((t169.length : Int) == 1) = true := beq_iff_eq.mpr c3
   have c3b1 : ((t169.length : Int) != 1) = false := bne_eq_false_iff_eq.mpr c3
   clear c3
   by_cases c4 : 0 < (t169.length : Int)
   ·rw [if_pos c4] at H
    have c4b0 : decide (0 < (t169.length : Int)) = true := decide_eq_true c4
    have c4b1 : decide (0 < t169.length) = true := decide_eq_true (by omega)
    clear c4
    by_cases c5 : ((((rd_T30 t169 0).f0).toList) == ([65] : List UInt8) && ((((rd_T30 t169 0).f1).toList) == ([98, 32, 99] : List UInt8))) = true
    ·rw [if_pos c5] at H
     have c5b0 : ((((rd_T30 t169 0).f0).toList) == ([65] : List UInt8) && ((((rd_T30 t169 0).f1).toList) == ([98, 32, 99] : List UInt8))) = true := c5
     (try (have c5b1 : decide ((((rd_T30 t169 0).f0).toList) = ([65] : List UInt8) && ((((rd_T30 t169 0).f1).toList) == ([98, 32, 99] : List UInt8))) = true := by simpa using c5))
     (try (have c5b2 : ((((rd_T30 t169 0).f0).toList) == ([65] : List UInt8) && ((((rd_T30 t169 0).f1).toList) == ([98, 32, 99] : List UInt8))) = true := by simpa using c5))
     clear c5
     by_cases c6 : t170.toList = ([100] : List UInt8)
     ·rw [if_pos c6] at H
      have c6b0 : (t170.toList == ([100] : List UInt8)) = true := beq_iff_eq.mpr c6
      have c6b1 : (t170.toList != ([100] : List UInt8)) = false := bne_eq_false_iff_eq.mpr c6
      clear c6
      replace H := Option.bind_eq_some_iff.mp H
      obtain ⟨t176, A70, H⟩ := H
      replace H : (some (t176.toList == ([65, 58, 32, 98, 32, 99, 13, 10] : List UInt8))) = some r := H
      have A7 := Aside0.mk A70
      clear A70
      obtain rfl := Option.some.inj H
      go_enter Tryd.func11, Tryd.ntmps11
      go_wp2_with (first | ((with_reducible refine gate_callee (f := 52) rfl ?_); refine goesL_ (some 5) rfl rfl Tryd.func52 (by kernel_rfl) rfl #[.string (⟨#[65, 58, 32, 98, 13, 10, 32, 99, 13, 10, 13, 10, 100]⟩ : ByteArray)] rfl am ?_; (with_reducible refine (head_Parse.calls (hG := by first | exact hG | exact Glob.below hG (by first | exact HB.out | (repeat (first | (with_reducible first | exact HB.out | apply below_alloc | apply pw_below_drewN | apply below_drew1) | exact HB.out))) | exact Glob.drawn hG (by repeat (first | exact Drawn0.refl _ | apply Drawn0.step))) k (⟨#[65, 58, 32, 98, 13, 10, 32, 99, 13, 10, 13, 10, 100]⟩ : ByteArray) t169 t170 t171 _ A1.out).mono ?_); rintro e w8 ⟨v172, rfl, ho0, hb⟩; refine ⟨_, rfl, ?_⟩; have n0_ := Aside0.mk (Kd.R_lower ho0 (below_size bw)); have n1_ := Aside0.mk (below_step bw hb); clear HB; have HO173 := n0_; have HB := n1_; clear n0_ n1_; (try clear hb); (try clear hb2); (try clear hk); (try clear hi); (try clear ho0); obtain ⟨Ao9, co9, eo9⟩ := Kd.R_slice HO173.out; subst eo9; have p174 : 0 ≤ (0 : Int) := (by omega); have q174 : 0 < (t169.length : Int) := od; obtain ⟨ad174, e174, hx174_0, hx174_1⟩ := at_T30 (Kd.R_reads' HO173.out).2.2 0 p174 q174; cases e174; have qi174 : (0 < t169.length) = True := eq_true (by omega); (try rw [show ((0 : Int)).toNat = 0 from rfl] at hx174_0); (try rw [show 0 * 2 = 0 from rfl] at hx174_0); (try rw [Addr.add_zero'] at hx174_0); (try rw [show ((0 : Int)).toNat = 0 from rfl] at hx174_1); (try rw [show 0 * 2 = 0 from rfl] at hx174_1); (try rw [Addr.add_zero'] at hx174_1); replace p174 := eq_true p174; replace q174 := eq_true q174; have p175 : 0 ≤ (0 : Int) := (by omega); have q175 : 0 < (t169.length : Int) := od; obtain ⟨ad175, e175, hx175_0, hx175_1⟩ := at_T30 (Kd.R_reads' HO173.out).2.2 0 p175 q175; obtain rfl : ad174 = ad175 := (by injection e175); have qi175 : (0 < t169.length) = True := eq_true (by omega); (try rw [show ((0 : Int)).toNat = 0 from rfl] at hx175_0); (try rw [show 0 * 2 = 0 from rfl] at hx175_0); (try rw [Addr.add_zero'] at hx175_0); (try rw [show ((0 : Int)).toNat = 0 from rfl] at hx175_1); (try rw [show 0 * 2 = 0 from rfl] at hx175_1); (try rw [Addr.add_zero'] at hx175_1); replace p175 := eq_true p175; replace q175 := eq_true q175) | (go_at_call 53; (with_reducible refine (head_Show.calls ((rd_T30 t169 0).f0) ((rd_T30 t169 0).f1) t176 _ A7.out).mono ?_); rintro e w10 ⟨rfl, hb⟩; have n0_ := Aside0.mk (Kd.R_below (by (with_reducible repeat (first | apply Kd.R_alloc | apply Kd.R_drewN | apply Kd.R_drew)); exact HO173.out) hb); have n1_ := Aside0.mk (below_step bw hb); clear HO173; clear HB; have HO173 := n0_; have HB := n1_; clear n0_ n1_; (try clear hb); (try clear hb2); (try clear hk); (try clear hi)))
      go_ret
      exact ⟨by first | rfl | (simp [errW_none, errW_some] <;> rfl) | (simp [*, errW_none, errW_some] <;> rfl), bw⟩
     ·rw [if_neg c6] at H
      have c6b0 : (t170.toList == ([100] : List UInt8)) = false := beq_eq_false_iff_ne.mpr c6
      have c6b1 : (t170.toList != ([100] : List UInt8)) = true := bne_iff_ne.mpr c6
      obtain rfl := Option.some.inj H
      go_enter Tryd.func11, Tryd.ntmps11
      go_wp2_with (first | ((with_reducible refine gate_callee (f := 52) rfl ?_); refine goesL_ (some 5) rfl rfl Tryd.func52 (by kernel_rfl) rfl #[.string (⟨#[65, 58, 32, 98, 13, 10, 32, 99, 13, 10, 13, 10, 100]⟩ : ByteArray)] rfl am ?_; (with_reducible refine (head_Parse.calls (hG := by first | exact hG | exact Glob.below hG (by first | exact HB.out | (repeat (first | (with_reducible first | exact HB.out | apply below_alloc | apply pw_below_drewN | apply below_drew1) | exact HB.out))) | exact Glob.drawn hG (by repeat (first | exact Drawn0.refl _ | apply Drawn0.step))) k (⟨#[65, 58, 32, 98, 13, 10, 32, 99, 13, 10, 13, 10, 100]⟩ : ByteArray) t169 t170 t171 _ A1.out).mono ?_); rintro e w11 ⟨v172, rfl, ho0, hb⟩; refine ⟨_, rfl, ?_⟩; have n0_ := Aside0.mk (Kd.R_lower ho0 (below_size bw)); have n1_ := Aside0.mk (below_step bw hb); clear HB; have HO173 := n0_; have HB := n1_; clear n0_ n1_; (try clear hb); (try clear hb2); (try clear hk); (try clear hi); (try clear ho0); obtain ⟨Ao12, co12, eo12⟩ := Kd.R_slice HO173.out; subst eo12; have p174 : 0 ≤ (0 : Int) := (by omega); have q174 : 0 < (t169.length : Int) := od; obtain ⟨ad174, e174, hx174_0, hx174_1⟩ := at_T30 (Kd.R_reads' HO173.out).2.2 0 p174 q174; cases e174; have qi174 : (0 < t169.length) = True := eq_true (by omega); (try rw [show ((0 : Int)).toNat = 0 from rfl] at hx174_0); (try rw [show 0 * 2 = 0 from rfl] at hx174_0); (try rw [Addr.add_zero'] at hx174_0); (try rw [show ((0 : Int)).toNat = 0 from rfl] at hx174_1); (try rw [show 0 * 2 = 0 from rfl] at hx174_1); (try rw [Addr.add_zero'] at hx174_1); replace p174 := eq_true p174; replace q174 := eq_true q174))
      go_ret
      exact ⟨by first | rfl | (simp [errW_none, errW_some] <;> rfl) | (simp [*, errW_none, errW_some] <;> rfl), bw⟩
    ·rw [if_neg c5] at H
     have c5b0 : ((((rd_T30 t169 0).f0).toList) == ([65] : List UInt8) && ((((rd_T30 t169 0).f1).toList) == ([98, 32, 99] : List UInt8))) = false := by simpa using c5
     (try (have c5b1 : decide ((((rd_T30 t169 0).f0).toList) = ([65] : List UInt8) && ((((rd_T30 t169 0).f1).toList) == ([98, 32, 99] : List UInt8))) = false := by simpa using c5))
     (try (have c5b2 : ((((rd_T30 t169 0).f0).toList) == ([65] : List UInt8) && ((((rd_T30 t169 0).f1).toList) == ([98, 32, 99] : List UInt8))) = false := by simpa using c5))
     (try (have c5b3 : ¬ ((((rd_T30 t169 0).f0).toList) = ([65] : List UInt8) && ((((rd_T30 t169 0).f1).toList) == ([98, 32, 99] : List UInt8))) := by simpa using c5))
     clear c5
     obtain rfl := Option.some.inj H
     go_enter Tryd.func11, Tryd.ntmps11
     go_wp2_with (first | ((with_reducible refine gate_callee (f := 52) rfl ?_); refine goesL_ (some 5) rfl rfl Tryd.func52 (by kernel_rfl) rfl #[.string (⟨#[65, 58, 32, 98, 13, 10, 32, 99, 13, 10, 13, 10, 100]⟩ : ByteArray)] rfl am ?_; (with_reducible refine (head_Parse.calls (hG := by first | exact hG | exact Glob.below hG (by first | exact HB.out | (repeat (first | (with_reducible first | exact HB.out | apply below_alloc | apply pw_below_drewN | apply below_drew1) | exact HB.out))) | exact Glob.drawn hG (by repeat (first | exact Drawn0.refl _ | apply Drawn0.step))) k (⟨#[65, 58, 32, 98, 13, 10, 32, 99, 13, 10, 13, 10, 100]⟩ : ByteArray) t169 t170 t171 _ A1.out).mono ?_); rintro e w13 ⟨v172, rfl, ho0, hb⟩; refine ⟨_, rfl, ?_⟩; have n0_ := Aside0.mk (Kd.R_lower ho0 (below_size bw)); have n1_ := Aside0.mk (below_step bw hb); clear HB; have HO173 := n0_; have HB := n1_; clear n0_ n1_; (try clear hb); (try clear hb2); (try clear hk); (try clear hi); (try clear ho0); obtain ⟨Ao14, co14, eo14⟩ := Kd.R_slice HO173.out; subst eo14; have p174 : 0 ≤ (0 : Int) := (by omega); have q174 : 0 < (t169.length : Int) := od; obtain ⟨ad174, e174, hx174_0, hx174_1⟩ := at_T30 (Kd.R_reads' HO173.out).2.2 0 p174 q174; cases e174; have qi174 : (0 < t169.length) = True := eq_true (by omega); (try rw [show ((0 : Int)).toNat = 0 from rfl] at hx174_0); (try rw [show 0 * 2 = 0 from rfl] at hx174_0); (try rw [Addr.add_zero'] at hx174_0); (try rw [show ((0 : Int)).toNat = 0 from rfl] at hx174_1); (try rw [show 0 * 2 = 0 from rfl] at hx174_1); (try rw [Addr.add_zero'] at hx174_1); replace p174 := eq_true p174; replace q174 := eq_true q174))
     go_ret
     exact ⟨by first | rfl | (simp [errW_none, errW_some] <;> rfl) | (simp [*, errW_none, errW_some] <;> rfl), bw⟩
   ·rw [if_neg c4] at H
    exact absurd H (by simp)
  ·rw [if_neg c3] at H
   have c3b0 : ((t169.length : Int) == 1) = false := beq_eq_false_iff_ne.mpr c3
   have c3b1 : ((t169.length : Int) != 1) = true := bne_iff_ne.mpr c3
   obtain rfl := Option.some.inj H
   go_enter Tryd.func11, Tryd.ntmps11
   go_wp2_with (first | ((with_reducible refine gate_callee (f := 52) rfl ?_); refine goesL_ (some 5) rfl rfl Tryd.func52 (by kernel_rfl) rfl #[.string (⟨#[65, 58, 32, 98, 13, 10, 32, 99, 13, 10, 13, 10, 100]⟩ : ByteArray)] rfl am ?_; (with_reducible refine (head_Parse.calls (hG := by first | exact hG | exact Glob.below hG (by first | exact HB.out | (repeat (first | (with_reducible first | exact HB.out | apply below_alloc | apply pw_below_drewN | apply below_drew1) | exact HB.out))) | exact Glob.drawn hG (by repeat (first | exact Drawn0.refl _ | apply Drawn0.step))) k (⟨#[65, 58, 32, 98, 13, 10, 32, 99, 13, 10, 13, 10, 100]⟩ : ByteArray) t169 t170 t171 _ A1.out).mono ?_); rintro e w15 ⟨v172, rfl, ho0, hb⟩; refine ⟨_, rfl, ?_⟩; have n0_ := Aside0.mk (Kd.R_lower ho0 (below_size bw)); have n1_ := Aside0.mk (below_step bw hb); clear HB; have HO173 := n0_; have HB := n1_; clear n0_ n1_; (try clear hb); (try clear hb2); (try clear hk); (try clear hi); (try clear ho0); obtain ⟨Ao16, co16, eo16⟩ := Kd.R_slice HO173.out; subst eo16))
   go_ret
   exact ⟨by first | rfl | (simp [errW_none, errW_some] <;> rfl) | (simp [*, errW_none, errW_some] <;> rfl), bw⟩
 ·rw [if_neg c2] at H
  have c2b0 : (t171 == 0) = false := beq_eq_false_iff_ne.mpr c2
  have c2b1 : (t171 != 0) = true := bne_iff_ne.mpr c2
  obtain rfl := Option.some.inj H
  go_enter Tryd.func11, Tryd.ntmps11
  go_wp2_with (first | ((with_reducible refine gate_callee (f := 52) rfl ?_); refine goesL_ (some 5) rfl rfl Tryd.func52 (by kernel_rfl) rfl #[.string (⟨#[65, 58, 32, 98, 13, 10, 32, 99, 13, 10, 13, 10, 100]⟩ : ByteArray)] rfl am ?_; (with_reducible refine (head_Parse.calls (hG := by first | exact hG | exact Glob.below hG (by first | exact HB.out | (repeat (first | (with_reducible first | exact HB.out | apply below_alloc | apply pw_below_drewN | apply below_drew1) | exact HB.out))) | exact Glob.drawn hG (by repeat (first | exact Drawn0.refl _ | apply Drawn0.step))) k (⟨#[65, 58, 32, 98, 13, 10, 32, 99, 13, 10, 13, 10, 100]⟩ : ByteArray) t169 t170 t171 _ A1.out).mono ?_); rintro e w17 ⟨v172, rfl, ho0, hb⟩; refine ⟨_, rfl, ?_⟩; have n0_ := Aside0.mk (Kd.R_lower ho0 (below_size bw)); have n1_ := Aside0.mk (below_step bw hb); clear HB; have HO173 := n0_; have HB := n1_; clear n0_ n1_; (try clear hb); (try clear hb2); (try clear hk); (try clear hi); (try clear ho0)))
  go_ret
  exact ⟨by first | rfl | (simp [errW_none, errW_some] <;> rfl) | (simp [*, errW_none, errW_some] <;> rfl), bw⟩

end Go.Proofs.YtoikneogdbdplaaDoor.Fn
namespace Go.Proofs.YtoikneogdbdplaaDoor.Fn
open Go.RowKit Go.Proofs.YtoikneogdbdplaaDoorW.PrintWords Go.Proofs.YtoikneogdbdplaaDoorW.PrintLast Go.Proofs.YtoikneogdbdplaaDoorW.PrintMore
attribute [local go_sem] max2_int min2_int max_two min_two max_three min_three max_four min_four
set_option linter.unusedVariables false
set_option linter.unusedSimpArgs false

/-! ### bulletinref06_Fold: function 60 -/
def bulletinref06_Fold.l0 : Nat → ByteArray → ByteArray → Int → Option (ByteArray)
 | 0, _, _, _ => none
 | k + 1, x0, x3, x4 => if x4 < (x0.size : Int) then (if 0 ≤ x4 then (if (bt x0 x4) ≥ 65 then (if (bt x0 x4) ≤ 90 then ((some (([((bt x0 x4) + 32) % 256] : List Int) : List Int)).bind fun y192 => (if x3.size + (strOfNums y192).size ≤ 9223372036854775807 then (bulletinref06_Fold.l0 k x0 (x3 ++ (strOfNums y192)) (wrap64 (x4 + 1))) else (none))) else (if x4 ≤ (wrap64 (x4 + 1)) then (if (wrap64 (x4 + 1)) ≤ (x0.size : Int) then (if x3.size + (x0.extract (x4 : Int).toNat ((wrap64 (x4 + 1)) : Int).toNat).size ≤ 9223372036854775807 then (bulletinref06_Fold.l0 k x0 (x3 ++ (x0.extract (x4 : Int).toNat ((wrap64 (x4 + 1)) : Int).toNat)) (wrap64 (x4 + 1))) else (none)) else (none)) else (none))) else (if x4 ≤ (wrap64 (x4 + 1)) then (if (wrap64 (x4 + 1)) ≤ (x0.size : Int) then (if x3.size + (x0.extract (x4 : Int).toNat ((wrap64 (x4 + 1)) : Int).toNat).size ≤ 9223372036854775807 then (bulletinref06_Fold.l0 k x0 (x3 ++ (x0.extract (x4 : Int).toNat ((wrap64 (x4 + 1)) : Int).toNat)) (wrap64 (x4 + 1))) else (none)) else (none)) else (none))) else (none)) else (some x3)
def bulletinref06_Fold.f (k : Nat) (a0 : ByteArray) : Option (ByteArray) := bulletinref06_Fold.l0 k a0 (⟨#[]⟩ : ByteArray) 0
set_option maxHeartbeats 8000000 in
set_option maxRecDepth 100000 in
theorem bulletinref06_Fold.calls (k : Nat) (a0 : ByteArray) (r : ByteArray) (w : World) (h : bulletinref06_Fold.f k a0 = some r) :
  Calls Tryd.prog 60 #[.string a0] w fun e w' => e = .returned (.string r) ∧ Below w.heap.size w w' := by
 have HB := Aside0.mk (Below.refl w.heap.size w)
 have H : (bulletinref06_Fold.l0 k a0 (⟨#[]⟩ : ByteArray) 0) = some r := h
 clear h
 have H' := Aside0.mk H
 clear H
 go_enter Tryd.func60, Tryd.ntmps60
 go_wp2
 go_loopg [3, 4] k (fun kq v3 v4 w' => ∃ (x3_1 : ByteArray) (x4_1 : Int), v3 = .string x3_1 ∧ v4 = .int .i64 x4_1 ∧ Aside0 (bulletinref06_Fold.l0 kq a0 x3_1 x4_1 = some r) ∧ Aside0 (kq ≤ k) ∧ Aside0 (Below w.heap.size w w'))
 case atStart => exact ⟨((⟨#[]⟩ : ByteArray)), (0), cl, cl, H', ⟨Nat.le_refl _⟩, ⟨bw⟩⟩
 case round =>
  clear H'
  obtain ⟨x3_1, x4_1, rfl, rfl, HA, HK1, HB⟩ := hrel
  cases gk with
  | zero => exact absurd HA.out (by simp [bulletinref06_Fold.l0])
  | succ k1 =>
   have H := HA.out
   clear HA
   simp only [bulletinref06_Fold.l0] at H
   by_cases c2 : x4_1 < (a0.size : Int)
   ·rw [if_pos c2] at H
    have c2b0 : decide (x4_1 < (a0.size : Int)) = true := decide_eq_true c2
    clear c2
    by_cases c3 : 0 ≤ x4_1
    ·rw [if_pos c3] at H
     have c3b0 : decide (0 ≤ x4_1) = true := decide_eq_true c3
     clear c3
     by_cases c5 : (bt a0 x4_1) ≥ 65
     ·rw [if_pos c5] at H
      have c5b0 : decide (65 ≤ (bt a0 x4_1)) = true := decide_eq_true c5
      clear c5
      by_cases c7 : (bt a0 x4_1) ≤ 90
      ·rw [if_pos c7] at H
       have c7b0 : decide ((bt a0 x4_1) ≤ 90) = true := decide_eq_true c7
       clear c7
       obtain ⟨y192, hy192⟩ : ∃ y_ : List Int, y_ = (([((bt a0 x4_1) + 32) % 256] : List Int)) := ⟨_, rfl⟩
       replace H : (if x3_1.size + (strOfNums y192).size ≤ 9223372036854775807 then (bulletinref06_Fold.l0 k1 a0 (x3_1 ++ (strOfNums y192)) (wrap64 (x4_1 + 1))) else (none)) = some r := by first | (rw [hy192]; with_reducible exact H) | (have H2_ := (Option.bind_some _ _).symm.trans H; rw [hy192]; with_reducible exact H2_) | (have H2_ := (Option.bind_some _ _).symm.trans H; with_reducible exact H2_) | with_reducible exact H | (rw [hy192]; exact H) | exact H
       have Ny192 := Aside0.mk hy192
       clear hy192
       by_cases c9 : x3_1.size + (strOfNums y192).size ≤ 9223372036854775807
       ·rw [if_pos c9] at H
        have c9b0 := eq_true c9
        have c9b1 : decide (x3_1.size + (strOfNums y192).size ≤ 9223372036854775807) = true := decide_eq_true c9
        try have c9b2 : (9223372036854775807 < x3_1.size + (strOfNums y192).size) = False := eq_false (Nat.not_lt.2 c9)
        have H' := Aside0.mk H
        clear H
        have p4 : 0 ≤ (x4_1 : Int) := od
        have q4 : x4_1 < (a0.size : Int) := od
        have hx4 := bt_at a0 x4_1
        replace p4 := eq_true p4
        replace q4 := eq_true q4
        have p6 : 0 ≤ (x4_1 : Int) := od
        have q6 : x4_1 < (a0.size : Int) := od
        have hx6 := bt_at a0 x4_1
        replace p6 := eq_true p6
        replace q6 := eq_true q6
        have p8 : 0 ≤ (x4_1 : Int) := od
        have q8 : x4_1 < (a0.size : Int) := od
        have hx8 := bt_at a0 x4_1
        replace p8 := eq_true p8
        replace q8 := eq_true q8
        go_wp2_with (first | ((with_reducible refine gate_dst (N := 26) rfl ?_); refine Kd.R_lit (Kd.int .u8) _ 5 ?hg (N := 26) ?hd (xs := ([((bt a0 x4_1) + 32) % 256] : List Int)) (inner := [.int .u8 (((bt a0 x4_1) + 32) % 256)]) (ok := fun _ => True) (okp := fun _ => True) ?hr ?hp (fun _ hk => hk) trivial (Below.refl _ _) (Nat.le_refl _) (by simp) ?_; (case hd => rfl); (case hg => rfl); (case hr => first | (go_simp; done) | (go_simp; rfl)); (case hp => exact (Reps.one (show Kd.M (Kd.int .u8) _ _ _ (((bt a0 x4_1) + 32) % 256) [.int .u8 (((bt a0 x4_1) + 32) % 256)] from rfl) (Reps.none _ _))); intro v193 w10 ho11 hb hg_ hnew_; clear hg_ hnew_; (first | rw [← Ny192.out] at ho11 | (simp only [Int.reduceToNat] at ho11; rw [← Ny192.out] at ho11)); have n0_ := Aside0.mk (Kd.R_lower ho11 (below_size bw)); have n1_ := Aside0.mk (below_step bw hb); clear HB; have HO194 := n0_; have HB := n1_; clear n0_ n1_; clear hb ho11; have hcv12 := own_string (P := Tryd.prog) Tryd.underlying116 Tryd.underlying5 Tryd.underlying9 (Kd.own_of_R HO194.out)))
        go_roundg k1
        case measure => have := HK1.out; omega
        case rel => exact ⟨(x3_1 ++ (strOfNums y192)), (wrap64 (x4_1 + 1)), cl, cl, H', ⟨by have := HK1.out; omega⟩, ⟨bw⟩⟩
       ·rw [if_neg c9] at H
        exact absurd H (by simp)
      ·rw [if_neg c7] at H
       have c7b0 : decide ((bt a0 x4_1) ≤ 90) = false := decide_eq_false c7
       clear c7
       have c13b0 := eq_true (od : 0 ≤ x4_1)
       by_cases c14 : x4_1 ≤ (wrap64 (x4_1 + 1))
       ·rw [if_pos c14] at H
        have c14b0 := eq_true c14
        have c14b1 : decide (x4_1 ≤ (wrap64 (x4_1 + 1))) = true := decide_eq_true c14
        by_cases c15 : (wrap64 (x4_1 + 1)) ≤ (a0.size : Int)
        ·rw [if_pos c15] at H
         have c15b0 := eq_true c15
         have c15b1 : decide ((wrap64 (x4_1 + 1)) ≤ (a0.size : Int)) = true := decide_eq_true c15
         by_cases c16 : x3_1.size + (a0.extract (x4_1 : Int).toNat ((wrap64 (x4_1 + 1)) : Int).toNat).size ≤ 9223372036854775807
         ·rw [if_pos c16] at H
          have c16b0 := eq_true c16
          have c16b1 : decide (x3_1.size + (a0.extract (x4_1 : Int).toNat ((wrap64 (x4_1 + 1)) : Int).toNat).size ≤ 9223372036854775807) = true := decide_eq_true c16
          try have c16b2 : (9223372036854775807 < x3_1.size + (a0.extract (x4_1 : Int).toNat ((wrap64 (x4_1 + 1)) : Int).toNat).size) = False := eq_false (Nat.not_lt.2 c16)
          try (have c16b3 := c16; simp only [ByteArray.size_append, size_lit, ByteArray.size_extract, List.size_toArray, List.length_cons, List.length_nil, Nat.zero_add, Nat.reduceAdd] at c16b3; have c16b4 := eq_false (Nat.not_lt.2 c16b3))
          have H' := Aside0.mk H
          clear H
          have p4 : 0 ≤ (x4_1 : Int) := od
          have q4 : x4_1 < (a0.size : Int) := od
          have hx4 := bt_at a0 x4_1
          replace p4 := eq_true p4
          replace q4 := eq_true q4
          have p6 : 0 ≤ (x4_1 : Int) := od
          have q6 : x4_1 < (a0.size : Int) := od
          have hx6 := bt_at a0 x4_1
          replace p6 := eq_true p6
          replace q6 := eq_true q6
          go_wp2
          go_roundg k1
          case measure => have := HK1.out; omega
          case rel => exact ⟨(x3_1 ++ (a0.extract (x4_1 : Int).toNat ((wrap64 (x4_1 + 1)) : Int).toNat)), (wrap64 (x4_1 + 1)), cl, cl, H', ⟨by have := HK1.out; omega⟩, ⟨bw⟩⟩
         ·rw [if_neg c16] at H
          exact absurd H (by simp)
        ·rw [if_neg c15] at H
         exact absurd H (by simp)
       ·rw [if_neg c14] at H
        exact absurd H (by simp)
     ·rw [if_neg c5] at H
      have c5b0 : decide (65 ≤ (bt a0 x4_1)) = false := decide_eq_false c5
      clear c5
      have c17b0 := eq_true (od : 0 ≤ x4_1)
      by_cases c18 : x4_1 ≤ (wrap64 (x4_1 + 1))
      ·rw [if_pos c18] at H
       have c18b0 := eq_true c18
       have c18b1 : decide (x4_1 ≤ (wrap64 (x4_1 + 1))) = true := decide_eq_true c18
       by_cases c19 : (wrap64 (x4_1 + 1)) ≤ (a0.size : Int)
       ·rw [if_pos c19] at H
        have c19b0 := eq_true c19
        have c19b1 : decide ((wrap64 (x4_1 + 1)) ≤ (a0.size : Int)) = true := decide_eq_true c19
        by_cases c20 : x3_1.size + (a0.extract (x4_1 : Int).toNat ((wrap64 (x4_1 + 1)) : Int).toNat).size ≤ 9223372036854775807
        ·rw [if_pos c20] at H
         have c20b0 := eq_true c20
         have c20b1 : decide (x3_1.size + (a0.extract (x4_1 : Int).toNat ((wrap64 (x4_1 + 1)) : Int).toNat).size ≤ 9223372036854775807) = true := decide_eq_true c20
         try have c20b2 : (9223372036854775807 < x3_1.size + (a0.extract (x4_1 : Int).toNat ((wrap64 (x4_1 + 1)) : Int).toNat).size) = False := eq_false (Nat.not_lt.2 c20)
         try (have c20b3 := c20; simp only [ByteArray.size_append, size_lit, ByteArray.size_extract, List.size_toArray, List.length_cons, List.length_nil, Nat.zero_add, Nat.reduceAdd] at c20b3; have c20b4 := eq_false (Nat.not_lt.2 c20b3))
         have H' := Aside0.mk H
         clear H
         have p4 : 0 ≤ (x4_1 : Int) := od
         have q4 : x4_1 < (a0.size : Int) := od
         have hx4 := bt_at a0 x4_1
         replace p4 := eq_true p4
         replace q4 := eq_true q4
         go_wp2
         go_roundg k1
         case measure => have := HK1.out; omega
         case rel => exact ⟨(x3_1 ++ (a0.extract (x4_1 : Int).toNat ((wrap64 (x4_1 + 1)) : Int).toNat)), (wrap64 (x4_1 + 1)), cl, cl, H', ⟨by have := HK1.out; omega⟩, ⟨bw⟩⟩
        ·rw [if_neg c20] at H
         exact absurd H (by simp)
       ·rw [if_neg c19] at H
        exact absurd H (by simp)
      ·rw [if_neg c18] at H
       exact absurd H (by simp)
    ·rw [if_neg c3] at H
     exact absurd H (by simp)
   ·rw [if_neg c2] at H
    have c2b0 : decide (x4_1 < (a0.size : Int)) = false := decide_eq_false c2
    clear c2
    obtain rfl := Option.some.inj H
    go_wp2
    go_ret
    exact ⟨by first | rfl | (simp [errW_none, errW_some] <;> rfl) | (simp [*, errW_none, errW_some] <;> rfl), bw⟩

end Go.Proofs.YtoikneogdbdplaaDoor.Fn
namespace Go.Proofs.YtoikneogdbdplaaDoor.Fn
open Go.RowKit Go.Proofs.YtoikneogdbdplaaDoorW.PrintWords Go.Proofs.YtoikneogdbdplaaDoorW.PrintLast Go.Proofs.YtoikneogdbdplaaDoorW.PrintMore
attribute [local go_sem] max2_int min2_int max_two min_two max_three min_three max_four min_four
set_option linter.unusedVariables false
set_option linter.unusedSimpArgs false

/-! ### bulletinref15_Same: function 17 -/
def bulletinref15_Same.f (k : Nat) (a0 : ByteArray) (a1 : ByteArray) : Option (Bool) := (bulletinref06_Fold.f k a0).bind fun t195 => ((bulletinref06_Fold.f k a1).bind fun t196 => (some (t195.toList == t196.toList)))
set_option maxHeartbeats 8000000 in
set_option maxRecDepth 100000 in
theorem bulletinref15_Same.calls (k : Nat) (a0 : ByteArray) (a1 : ByteArray) (r : Bool) (w : World) (h : bulletinref15_Same.f k a0 a1 = some r) :
  Calls Tryd.prog 17 #[.string a0, .string a1] w fun e w' => e = .returned (.bool r) ∧ Below w.heap.size w w' := by
 have HB := Aside0.mk (Below.refl w.heap.size w)
 have H : ((bulletinref06_Fold.f k a0).bind fun t195 => ((bulletinref06_Fold.f k a1).bind fun t196 => (some (t195.toList == t196.toList)))) = some r := h
 clear h
 replace H := Option.bind_eq_some_iff.mp H
 obtain ⟨t195, A30, H⟩ := H
 replace H : ((bulletinref06_Fold.f k a1).bind fun t196 => (some (t195.toList == t196.toList))) = some r := H
 have A3 := Aside0.mk A30
 clear A30
 replace H := Option.bind_eq_some_iff.mp H
 obtain ⟨t196, A40, H⟩ := H
 replace H : (some (t195.toList == t196.toList)) = some r := H
 have A4 := Aside0.mk A40
 clear A40
 obtain rfl := Option.some.inj H
 go_enter Tryd.func17, Tryd.ntmps17
 go_wp2_with (first | ((with_reducible refine gate_callee (f := 60) rfl ?_); refine goesL_ (some 6) rfl rfl Tryd.func60 (by kernel_rfl) rfl #[.string a0] rfl am ?_; (with_reducible refine (bulletinref06_Fold.calls k a0 t195 _ A3.out).mono ?_); rintro e w5 ⟨rfl, hb⟩; refine ⟨_, rfl, ?_⟩; have n0_ := Aside0.mk (below_step bw hb); clear HB; have HB := n0_; clear n0_; (try clear hb); (try clear hb2); (try clear hk); (try clear hi)) | ((with_reducible refine gate_callee (f := 60) rfl ?_); refine goesL_ (some 8) rfl rfl Tryd.func60 (by kernel_rfl) rfl #[.string a1] rfl am ?_; (with_reducible refine (bulletinref06_Fold.calls k a1 t196 _ A4.out).mono ?_); rintro e w6 ⟨rfl, hb⟩; refine ⟨_, rfl, ?_⟩; have n0_ := Aside0.mk (below_step bw hb); clear HB; have HB := n0_; clear n0_; (try clear hb); (try clear hb2); (try clear hk); (try clear hi)))
 go_ret
 exact ⟨by first | rfl | (simp [errW_none, errW_some] <;> rfl) | (simp [*, errW_none, errW_some] <;> rfl), bw⟩

end Go.Proofs.YtoikneogdbdplaaDoor.Fn
set_option linter.unusedVariables false
namespace Go.Proofs.YtoikneogdbdplaaDoor.Fn
open Go.RowKit

def glyph_Fold.f (a0 : ByteArray) : Option ByteArray := if a0.size ≤ 35184372088832 then some (Pl.str (Pl.fold a0.data.toList)) else none

set_option maxHeartbeats 2000000 in
set_option maxRecDepth 100000 in
theorem glyph_Fold.calls (a0 : ByteArray) (r : ByteArray) (w : World) (h : glyph_Fold.f a0 = some r) :
    Calls Tryd.prog 64 #[.string a0] w fun e w' => e = .returned (.string r) ∧ Below w.heap.size w w' := by
  unfold glyph_Fold.f at h
  by_cases hs : a0.size ≤ 35184372088832
  · rw [if_pos hs] at h
    have HR := hid (Option.some.inj h)
    clear h
    go_enter Tryd.func64, Tryd.ntmps64
    go_wp2
    go_loopw [8] (fun v8 wr => ∃ k : Nat, k ≤ a0.size ∧ v8 = .int .i64 k ∧ isBd w.heap.size w.heap.size (Lib.byteCells (Pl.fold (a0.data.toList.take k))) wr ∧ Below w.heap.size w wr) (fun v8 _ => a0.size - (intOf v8).toNat)
    case atStart => exact ⟨0, Nat.zero_le _, rfl, Lib.IsBuilderF.of (Lib.fresh_isBuilder _ _ w), (Below.refl _ w).alloc (Nat.le_refl _) _⟩
    case round =>
      obtain ⟨k, hk, rfl, hI, hbw⟩ := hrel
      have hl : (Pl.fold (a0.data.toList.take k)).length ≤ k := by rw [Pl.fold_length]; exact List.length_take_le _ _
      have hBw := hbw.size
      by_cases hlt : k < a0.size
      · have hsn := hid (Pl.fold_snoc a0 k hlt)
        have hgo : ∀ c : Int, c = (Pl.foldB a0[k]).toNat → Lib.byteCells (Pl.fold (a0.data.toList.take k)) ++ [Value.int .u8 c] = Lib.byteCells (Pl.fold (a0.data.toList.take (k + 1))) := by
          rintro c rfl
          rw [hsn.out, Lib.byteCells_append]
          rfl
        have HG := hid hgo
        clear hgo
        by_cases hu : 65 ≤ (a0[k].toNat : Int) ∧ (a0[k].toNat : Int) ≤ 90
        · have hc := hid (Pl.foldB_up a0[k] hu)
          obtain ⟨hu1, hu2⟩ := hu
          go_wp2_with (go_at_call 101; refine (bd_byte w.heap.size w.heap.size _ _ _ hI (by rw [Lib.byteCells_length]; omega) hBw).mono ?_; rintro e W1 ⟨rfl, h1, b1, _⟩; rw [HG.out _ hc.out] at h1)
          go_roundw
          case rel => exact ⟨k + 1, by omega, by go_num, h1.is, hbw.trans b1⟩
          case measure => simp [intOf]; omega
        · have hc := hid (Pl.foldB_no a0[k] hu)
          by_cases hu1 : 65 ≤ (a0[k].toNat : Int)
          · have hu2 : 90 < (a0[k].toNat : Int) := by omega
            clear hu
            go_wp2_with (go_at_call 101; refine (bd_byte w.heap.size w.heap.size _ _ _ hI (by rw [Lib.byteCells_length]; omega) hBw).mono ?_; rintro e W1 ⟨rfl, h1, b1, _⟩; rw [HG.out _ hc.out] at h1)
            go_roundw
            case rel => exact ⟨k + 1, by omega, by go_num, h1.is, hbw.trans b1⟩
            case measure => simp [intOf]; omega
          · have hu2 : (a0[k].toNat : Int) < 65 := by omega
            clear hu hu1
            go_wp2_with (go_at_call 101; refine (bd_byte w.heap.size w.heap.size _ _ _ hI (by rw [Lib.byteCells_length]; omega) hBw).mono ?_; rintro e W1 ⟨rfl, h1, b1, _⟩; rw [HG.out _ hc.out] at h1)
            go_roundw
            case rel => exact ⟨k + 1, by omega, by go_num, h1.is, hbw.trans b1⟩
            case measure => simp [intOf]; omega
      · have hend := hid (show Pl.fold (a0.data.toList.take k) = Pl.fold a0.data.toList by rw [List.take_of_length_le (by rw [Pl.data_length]; omega)])
        go_wp2_with (go_at_call 79; refine (Tryd.Builder_String_any_k w.heap.size w.heap.size _ _ hI hBw).mono ?_; rintro e W1 ⟨rfl, _, b1, _⟩)
        go_ret
        exact ⟨by rw [← HR.out, ← hend.out]; rfl, hbw.trans b1⟩
  · rw [if_neg hs] at h
    exact absurd h (by simp)
end Go.Proofs.YtoikneogdbdplaaDoor.Fn
namespace Go.Proofs.YtoikneogdbdplaaDoor.Fn
open Go.RowKit Go.Proofs.YtoikneogdbdplaaDoorW.PrintWords Go.Proofs.YtoikneogdbdplaaDoorW.PrintLast Go.Proofs.YtoikneogdbdplaaDoorW.PrintMore
attribute [local go_sem] max2_int min2_int max_two min_two max_three min_three max_four min_four
set_option linter.unusedVariables false
set_option linter.unusedSimpArgs false

/-! ### head_same: function 56 -/
def head_same.f (a0 : ByteArray) (a1 : ByteArray) : Option (Bool) := (glyph_Fold.f a0).bind fun t184 => ((glyph_Fold.f a1).bind fun t185 => (some (t184.toList == t185.toList)))
set_option maxHeartbeats 8000000 in
set_option maxRecDepth 100000 in
theorem head_same.calls (a0 : ByteArray) (a1 : ByteArray) (r : Bool) (w : World) (h : head_same.f a0 a1 = some r) :
  Calls Tryd.prog 56 #[.string a0, .string a1] w fun e w' => e = .returned (.bool r) ∧ Below w.heap.size w w' := by
 have HB := Aside0.mk (Below.refl w.heap.size w)
 have H : ((glyph_Fold.f a0).bind fun t184 => ((glyph_Fold.f a1).bind fun t185 => (some (t184.toList == t185.toList)))) = some r := h
 clear h
 replace H := Option.bind_eq_some_iff.mp H
 obtain ⟨t184, A30, H⟩ := H
 replace H : ((glyph_Fold.f a1).bind fun t185 => (some (t184.toList == t185.toList))) = some r := H
 have A3 := Aside0.mk A30
 clear A30
 replace H := Option.bind_eq_some_iff.mp H
 obtain ⟨t185, A40, H⟩ := H
 replace H : (some (t184.toList == t185.toList)) = some r := H
 have A4 := Aside0.mk A40
 clear A40
 obtain rfl := Option.some.inj H
 go_enter Tryd.func56, Tryd.ntmps56
 go_wp2_with (first | ((with_reducible refine gate_callee (f := 64) rfl ?_); refine goesL_ (some 6) rfl rfl Tryd.func64 (by kernel_rfl) rfl #[.string a0] rfl am ?_; (with_reducible refine (glyph_Fold.calls a0 t184 _ A3.out).mono ?_); rintro e w5 ⟨rfl, hb⟩; refine ⟨_, rfl, ?_⟩; have n0_ := Aside0.mk (below_step bw hb); clear HB; have HB := n0_; clear n0_; (try clear hb); (try clear hb2); (try clear hk); (try clear hi)) | ((with_reducible refine gate_callee (f := 64) rfl ?_); refine goesL_ (some 8) rfl rfl Tryd.func64 (by kernel_rfl) rfl #[.string a1] rfl am ?_; (with_reducible refine (glyph_Fold.calls a1 t185 _ A4.out).mono ?_); rintro e w6 ⟨rfl, hb⟩; refine ⟨_, rfl, ?_⟩; have n0_ := Aside0.mk (below_step bw hb); clear HB; have HB := n0_; clear n0_; (try clear hb); (try clear hb2); (try clear hk); (try clear hi)))
 go_ret
 exact ⟨by first | rfl | (simp [errW_none, errW_some] <;> rfl) | (simp [*, errW_none, errW_some] <;> rfl), bw⟩

end Go.Proofs.YtoikneogdbdplaaDoor.Fn
namespace Go.Proofs.YtoikneogdbdplaaDoor.Fn
open Go.RowKit Go.Proofs.YtoikneogdbdplaaDoorW.PrintWords Go.Proofs.YtoikneogdbdplaaDoorW.PrintLast Go.Proofs.YtoikneogdbdplaaDoorW.PrintMore
attribute [local go_sem] max2_int min2_int max_two min_two max_three min_three max_four min_four
set_option linter.unusedVariables false
set_option linter.unusedSimpArgs false

/-! ### head_All: function 16 -/
def head_All.l0 : Nat → ByteArray → List ByteArray → List (S30) → Int → Int → Option (List ByteArray)
 | 0, _, _, _, _, _ => none
 | k + 1, x1, x5, x8, x9, x10 => if x10 < x9 then (if 0 ≤ x10 then (if x10 < (x8.length : Int) then ((head_same.f ((rd_T30 x8 x10).f0) x1).bind fun t188 => (if t188 = true then (if x5.length < 8796093022208 then (head_All.l0 k x1 (x5 ++ [(rd_T30 x8 x10).f1]) x8 x9 (wrap64 (x10 + 1))) else (none)) else (head_All.l0 k x1 x5 x8 x9 (wrap64 (x10 + 1))))) else (none)) else (none)) else (some x5)
def head_All.f (k : Nat) (l0 : List (S30)) (a1 : ByteArray) : Option (List ByteArray) := head_All.l0 k a1 ([] : List ByteArray) l0 (l0.length : Int) 0
set_option maxHeartbeats 8000000 in
set_option maxRecDepth 100000 in
theorem head_All.calls (k : Nat) (A0 : Option Addr) (c0 : Nat) (l0 : List (S30)) (a1 : ByteArray) (r : List ByteArray) (w : World) (hr0 : Kd.C k30 w A0 l0.length l0) (hc0 : l0.length ≤ c0) (h : head_All.f k l0 a1 = some r) :
  Calls Tryd.prog 16 #[.slice A0 l0.length c0, .string a1] w fun e w' => ∃ v0_ : Value, e = .returned (v0_) ∧ Kd.R Kd.string 9 w' w.heap.size (fun _ => True) v0_ r ∧ Below w.heap.size w w' := by
 have hu30 := Tryd.underlying30
 have HR0 := Aside0.mk hr0
 have HC0 := Aside0.mk hc0
 clear hr0 hc0
 have HB := Aside0.mk (Below.refl w.heap.size w)
 have H : (head_All.l0 k a1 ([] : List ByteArray) l0 (l0.length : Int) 0) = some r := h
 clear h
 have H' := Aside0.mk H
 clear H
 go_enter Tryd.func16, Tryd.ntmps16
 go_wp2
 go_loopg [5, 10] k (fun kq v5 v10 w' => ∃ (x5_1 : List ByteArray) (x10_1 : Int), v10 = .int .i64 x10_1 ∧ Aside0 (head_All.l0 kq a1 x5_1 l0 (l0.length : Int) x10_1 = some r) ∧ Aside0 (kq ≤ k) ∧ Aside0 (Kd.R Kd.string 9 w' w.heap.size (fun _ => True) v5 x5_1) ∧ Aside0 (Below w.heap.size w w'))
 case atStart => exact ⟨(([] : List ByteArray)), (0), cl, H', ⟨Nat.le_refl _⟩, ⟨by first | exact Kd.R_nil _ _ _ _ _ | exact Kd.N_nil _ _ _ _ _ | exact Kd.V_nil _ _ _ _ _ | exact Kd.Q_nil _ _ _ _ _ | exact Kd.S_nil _ _ _ _ _⟩, ⟨bw⟩⟩
 case round =>
  clear H'
  try clear c1
  try clear p2
  obtain ⟨x5_1, x10_1, rfl, HA, HK1, HO_5, HB⟩ := hrel
  cases gk with
  | zero => exact absurd HA.out (by simp [head_All.l0])
  | succ k1 =>
   have H := HA.out
   clear HA
   simp only [head_All.l0] at H
   by_cases c3 : x10_1 < (l0.length : Int)
   ·rw [if_pos c3] at H
    have c3b0 : decide (x10_1 < (l0.length : Int)) = true := decide_eq_true c3
    clear c3
    by_cases c4 : 0 ≤ x10_1
    ·rw [if_pos c4] at H
     have c4b0 : decide (0 ≤ x10_1) = true := decide_eq_true c4
     clear c4
     by_cases c5 : x10_1 < (l0.length : Int)
     ·rw [if_pos c5] at H
      have c5b0 : decide (x10_1 < (l0.length : Int)) = true := decide_eq_true c5
      clear c5
      replace H := Option.bind_eq_some_iff.mp H
      obtain ⟨t188, A60, H⟩ := H
      replace H : (if t188 = true then (if x5_1.length < 8796093022208 then (head_All.l0 k1 a1 (x5_1 ++ [(rd_T30 l0 x10_1).f1]) l0 (l0.length : Int) (wrap64 (x10_1 + 1))) else (none)) else (head_All.l0 k1 a1 x5_1 l0 (l0.length : Int) (wrap64 (x10_1 + 1)))) = some r := H
      have A6 := Aside0.mk A60
      clear A60
      by_cases c7 : t188 = true
      ·subst c7
       have H1 : (if x5_1.length < 8796093022208 then (head_All.l0 k1 a1 (x5_1 ++ [(rd_T30 l0 x10_1).f1]) l0 (l0.length : Int) (wrap64 (x10_1 + 1))) else (none)) = some r := by rw [if_pos rfl] at H; exact H
       clear H
       have H := H1
       clear H1
       by_cases c8 : x5_1.length < 8796093022208
       ·rw [if_pos c8] at H
        have LMc8 := Aside0.mk c8
        clear c8
        obtain ⟨y189, hy189⟩ : ∃ y_ : List ByteArray, y_ = (x5_1 ++ [(rd_T30 l0 x10_1).f1]) := ⟨_, rfl⟩
        replace H : (head_All.l0 k1 a1 y189 l0 (l0.length : Int) (wrap64 (x10_1 + 1))) = some r := by first | (rw [hy189]; with_reducible exact H) | (have H2_ := (Option.bind_some _ _).symm.trans H; rw [hy189]; with_reducible exact H2_) | (have H2_ := (Option.bind_some _ _).symm.trans H; with_reducible exact H2_) | with_reducible exact H | (rw [hy189]; exact H) | exact H
        have Ny189 := Aside0.mk hy189
        clear hy189
        have H' := Aside0.mk H
        clear H
        have p186 : 0 ≤ (x10_1 : Int) := od
        have q186 : x10_1 < (l0.length : Int) := od
        obtain ⟨ad186, e186, hx186_0, hx186_1⟩ := at_T30 HR0.out x10_1 p186 q186
        cases e186
        replace hx186_0 := (HB.out.cell (World.block_lt_of_cell? w _ hx186_0)).trans hx186_0
        replace hx186_1 := (HB.out.cell (World.block_lt_of_cell? w _ hx186_1)).trans hx186_1
        replace p186 := eq_true p186
        replace q186 := eq_true q186
        go_wp2_with (first | ((with_reducible refine gate_dst (N := 7) rfl ?_); refine box_event ?hg (N := 7) ?hd (cs := #[.string (⟨#[]⟩ : ByteArray), .string (⟨#[]⟩ : ByteArray)]) (t := 30) ?hr ?_; (case hd => rfl); (case hg => rfl); (case hr => first | (go_simp; done) | (go_simp; rfl)); intro gb187 hg w9 hbox hb; have n0_ := Aside0.mk (Kd.R_below (by (with_reducible repeat (first | apply Kd.R_alloc | apply Kd.R_drewN | apply Kd.R_drew)); exact HO_5.out) hb); have n1_ := Aside0.mk (below_step bw hb); have n2_ := Aside0.mk (hbox); have n3_ := Aside0.mk ((by rw [hg]; exact (below_size bw) : w.heap.size ≤ gb187)); have n4_ := Aside0.mk ((by rw [hg]; exact (below_size bw) : w.heap.size ≤ gb187)); clear HO_5; clear HB; have HO_5 := n0_; have HB := n1_; have BK187 := n2_; have GW187 := n3_; have GE187 := n4_; clear n0_ n1_ n2_ n3_ n4_; clear hb hbox hg; have hcz10_0 : w9.cell? ⟨gb187, 0, none⟩ = some (.string (⟨#[]⟩ : ByteArray)) := (blk_cell BK187.out 0).trans rfl; have hcz10_1 : w9.cell? ⟨gb187, 1, none⟩ = some (.string (⟨#[]⟩ : ByteArray)) := (blk_cell BK187.out 1).trans rfl; have hfz10_0 := blk_frozen BK187.out 0; have hfz10_1 := blk_frozen BK187.out 1) | ((with_reducible refine gate_callee (f := 56) rfl ?_); refine goesL_ (some 17) rfl rfl Tryd.func56 (by kernel_rfl) rfl #[.string ((rd_T30 l0 x10_1).f0), .string a1] rfl am ?_; (with_reducible refine (head_same.calls ((rd_T30 l0 x10_1).f0) a1 true _ A6.out).mono ?_); rintro e w11 ⟨rfl, hb⟩; refine ⟨_, rfl, ?_⟩; have n0_ := Aside0.mk (Kd.R_below (by (with_reducible repeat (first | apply Kd.R_alloc | apply Kd.R_drewN | apply Kd.R_drew)); exact (Kd.R_mono (Kd.R_far (p := ⟨gb187, 1, none⟩) (Kd.R_far (p := ⟨gb187, 0, none⟩) (Kd.R_types HO_5.out BK187.out (by decide)) (fun _ hk => hk.2) (.string ((rd_T30 l0 x10_1).f0))) (fun _ hk => hk.2) (.string ((rd_T30 l0 x10_1).f1))) (fun _ h_ => h_.1))) hb); have n1_ := Aside0.mk (blk_below (g := gb187) (o := .cells #[.string ((rd_T30 l0 x10_1).f0), .string ((rd_T30 l0 x10_1).f1)] 30 (0, 0)) (by (with_reducible repeat (first | refine blk_drewN ?_ _ | refine blk_drew ?_ | refine blk_alloc ?_ _)); refine blk_put (cs := #[.string ((rd_T30 l0 x10_1).f0), .string (⟨#[]⟩ : ByteArray)]) ?_ 1 _ rfl; (with_reducible repeat (first | refine blk_drewN ?_ _ | refine blk_drew ?_ | refine blk_alloc ?_ _)); refine blk_put (cs := #[.string (⟨#[]⟩ : ByteArray), .string (⟨#[]⟩ : ByteArray)]) ?_ 0 _ rfl; (with_reducible repeat (first | refine blk_drewN ?_ _ | refine blk_drew ?_ | refine blk_alloc ?_ _)); exact BK187.out) hb); have n2_ := Aside0.mk (below_step bwS hb); clear HO_5; clear BK187; clear HB; have HO_5 := n0_; have BK187 := n1_; have HB := n2_; clear n0_ n1_ n2_; (try clear hb); (try clear hb2); (try clear hk); (try clear hi); have hcz12_0 : w11.cell? ⟨gb187, 0, none⟩ = some (.string ((rd_T30 l0 x10_1).f0)) := (blk_cell BK187.out 0).trans rfl; have hcz12_1 : w11.cell? ⟨gb187, 1, none⟩ = some (.string ((rd_T30 l0 x10_1).f1)) := (blk_cell BK187.out 1).trans rfl; have hfz12_0 := blk_frozen BK187.out 0; have hfz12_1 := blk_frozen BK187.out 1) | ((with_reducible refine gate_builtin (b := .append) (xs := #[.tmp 18, .tmp 21]) rfl ?_); at_builtin; refine Kd.R_append Kd.string (w0 := w) w.heap.size rfl (.tmp 18) (.tmp 21) 32 9 (.string ⟨#[]⟩) 16 rfl Tryd.underlying32 info9 rfl (by decide) (by omega) u5 x5_1 ((rd_T30 l0 x10_1).f1) [.string ((rd_T30 l0 x10_1).f1)] (fun _ => True) (fun _ => False) rfl rfl ?aP (fun _ hk => hk.elim) ?aF ?aO ?aB ?aS ?aL ?_; (case aP => exact rfl); (case aB => exact bwS); (case aF => exact (fun _ _ => trivial)); (case aO => exact (by (with_reducible repeat (first | apply Kd.R_alloc | apply Kd.R_drewN | apply Kd.R_drew)); exact HO_5.out)); (case aS => exact (below_size bwS)); (case aL => have := LMc8.out; omega); intro v190 w13 ho hb hg hat; rw [← Ny189.out] at ho; have n0_ := Aside0.mk (blk_grown (g := gb187) (o := .cells #[.string ((rd_T30 l0 x10_1).f0), .string ((rd_T30 l0 x10_1).f1)] 30 (0, 0)) bk hg (Kd.R_ne HO_5.out BK187.out (by decide))); have n1_ := Aside0.mk (hb); have n2_ := Aside0.mk (ho); clear BK187; clear HB; clear HO_5; have BK187 := n0_; have HB := n1_; have HO191 := n2_; clear n0_ n1_ n2_; clear ho hb hg hat))
        go_roundg k1
        case measure => have := HK1.out; omega
        case rel => exact ⟨(y189), (wrap64 (x10_1 + 1)), cl, H', ⟨by have := HK1.out; omega⟩, ⟨by (with_reducible repeat (first | apply Kd.R_alloc | apply Kd.R_drewN | apply Kd.R_drew)); exact HO191.out⟩, ⟨bwS⟩⟩
       ·rw [if_neg c8] at H
        exact absurd H (by simp)
      ·replace c7 := Bool.eq_false_iff.mpr c7
       subst c7
       have H1 : (head_All.l0 k1 a1 x5_1 l0 (l0.length : Int) (wrap64 (x10_1 + 1))) = some r := by rw [if_neg (show ¬ (false = true) by decide)] at H; exact H
       clear H
       have H := H1
       clear H1
       have H' := Aside0.mk H
       clear H
       have p186 : 0 ≤ (x10_1 : Int) := od
       have q186 : x10_1 < (l0.length : Int) := od
       obtain ⟨ad186, e186, hx186_0, hx186_1⟩ := at_T30 HR0.out x10_1 p186 q186
       cases e186
       replace hx186_0 := (HB.out.cell (World.block_lt_of_cell? w _ hx186_0)).trans hx186_0
       replace hx186_1 := (HB.out.cell (World.block_lt_of_cell? w _ hx186_1)).trans hx186_1
       replace p186 := eq_true p186
       replace q186 := eq_true q186
       go_wp2_with (first | ((with_reducible refine gate_dst (N := 7) rfl ?_); refine box_event ?hg (N := 7) ?hd (cs := #[.string (⟨#[]⟩ : ByteArray), .string (⟨#[]⟩ : ByteArray)]) (t := 30) ?hr ?_; (case hd => rfl); (case hg => rfl); (case hr => first | (go_simp; done) | (go_simp; rfl)); intro gb187 hg w14 hbox hb; have n0_ := Aside0.mk (Kd.R_below (by (with_reducible repeat (first | apply Kd.R_alloc | apply Kd.R_drewN | apply Kd.R_drew)); exact HO_5.out) hb); have n1_ := Aside0.mk (below_step bw hb); have n2_ := Aside0.mk (hbox); have n3_ := Aside0.mk ((by rw [hg]; exact (below_size bw) : w.heap.size ≤ gb187)); have n4_ := Aside0.mk ((by rw [hg]; exact (below_size bw) : w.heap.size ≤ gb187)); clear HO_5; clear HB; have HO_5 := n0_; have HB := n1_; have BK187 := n2_; have GW187 := n3_; have GE187 := n4_; clear n0_ n1_ n2_ n3_ n4_; clear hb hbox hg; have hcz15_0 : w14.cell? ⟨gb187, 0, none⟩ = some (.string (⟨#[]⟩ : ByteArray)) := (blk_cell BK187.out 0).trans rfl; have hcz15_1 : w14.cell? ⟨gb187, 1, none⟩ = some (.string (⟨#[]⟩ : ByteArray)) := (blk_cell BK187.out 1).trans rfl; have hfz15_0 := blk_frozen BK187.out 0; have hfz15_1 := blk_frozen BK187.out 1) | ((with_reducible refine gate_callee (f := 56) rfl ?_); refine goesL_ (some 17) rfl rfl Tryd.func56 (by kernel_rfl) rfl #[.string ((rd_T30 l0 x10_1).f0), .string a1] rfl am ?_; (with_reducible refine (head_same.calls ((rd_T30 l0 x10_1).f0) a1 false _ A6.out).mono ?_); rintro e w16 ⟨rfl, hb⟩; refine ⟨_, rfl, ?_⟩; have n0_ := Aside0.mk (Kd.R_below (by (with_reducible repeat (first | apply Kd.R_alloc | apply Kd.R_drewN | apply Kd.R_drew)); exact (Kd.R_mono (Kd.R_far (p := ⟨gb187, 1, none⟩) (Kd.R_far (p := ⟨gb187, 0, none⟩) (Kd.R_types HO_5.out BK187.out (by decide)) (fun _ hk => hk.2) (.string ((rd_T30 l0 x10_1).f0))) (fun _ hk => hk.2) (.string ((rd_T30 l0 x10_1).f1))) (fun _ h_ => h_.1))) hb); have n1_ := Aside0.mk (blk_below (g := gb187) (o := .cells #[.string ((rd_T30 l0 x10_1).f0), .string ((rd_T30 l0 x10_1).f1)] 30 (0, 0)) (by (with_reducible repeat (first | refine blk_drewN ?_ _ | refine blk_drew ?_ | refine blk_alloc ?_ _)); refine blk_put (cs := #[.string ((rd_T30 l0 x10_1).f0), .string (⟨#[]⟩ : ByteArray)]) ?_ 1 _ rfl; (with_reducible repeat (first | refine blk_drewN ?_ _ | refine blk_drew ?_ | refine blk_alloc ?_ _)); refine blk_put (cs := #[.string (⟨#[]⟩ : ByteArray), .string (⟨#[]⟩ : ByteArray)]) ?_ 0 _ rfl; (with_reducible repeat (first | refine blk_drewN ?_ _ | refine blk_drew ?_ | refine blk_alloc ?_ _)); exact BK187.out) hb); have n2_ := Aside0.mk (below_step bwS hb); clear HO_5; clear BK187; clear HB; have HO_5 := n0_; have BK187 := n1_; have HB := n2_; clear n0_ n1_ n2_; (try clear hb); (try clear hb2); (try clear hk); (try clear hi)))
       go_roundg k1
       case measure => have := HK1.out; omega
       case rel => exact ⟨(x5_1), (wrap64 (x10_1 + 1)), cl, H', ⟨by have := HK1.out; omega⟩, ⟨by (with_reducible repeat (first | apply Kd.R_alloc | apply Kd.R_drewN | apply Kd.R_drew)); exact HO_5.out⟩, ⟨bwS⟩⟩
     ·rw [if_neg c5] at H
      exact absurd H (by simp)
    ·rw [if_neg c4] at H
     exact absurd H (by simp)
   ·rw [if_neg c3] at H
    have c3b0 : decide (x10_1 < (l0.length : Int)) = false := decide_eq_false c3
    clear c3
    obtain rfl := Option.some.inj H
    go_wp2
    go_ret
    exact ⟨_, by first | rfl | (simp [errW_none, errW_some] <;> rfl) | (simp [*, errW_none, errW_some] <;> rfl), by (with_reducible repeat (first | apply Kd.R_alloc | apply Kd.R_drewN | apply Kd.R_drew)); exact HO_5.out, bw⟩

end Go.Proofs.YtoikneogdbdplaaDoor.Fn
set_option linter.unusedVariables false
set_option linter.unusedSimpArgs false
namespace Go.Proofs.YtoikneogdbdplaaDoor.Pl
open Go.Proofs.YtoikneogdbdplaaDoorW.PrintWords
variable {α : Type}
/-! Layer 15: are two names the same? -/
def sameN (a b : ByteArray) : Bool := (str (fold (bs a))).toList == (str (fold (bs b))).toList
def firstI (p : α → Bool) : List α → Nat
  | [] => 0
  | x :: l => if p x = true then 0 else firstI p l + 1
theorem firstI_le (p : α → Bool) : ∀ l : List α, firstI p l ≤ l.length
  | [] => Nat.le_refl _
  | x :: l => by
    rw [firstI, List.length_cons]
    have := firstI_le p l
    split <;> omega
theorem firstI_at (p : α → Bool) : ∀ (l : List α) (i : Nat) (h : i < l.length), (∀ j (hj : j < i), p (l[j]'(Nat.lt_trans hj h)) = false) → (p l[i] = true → firstI p l = i) ∧ (p l[i] = false → i < firstI p l)
  | x :: l, 0, h, ha => by
    refine ⟨fun hp => ?_, fun hp => ?_⟩
    · rw [firstI, if_pos (show p x = true from hp)]
    · rw [firstI, if_neg (by rw [show p x = false from hp]; decide)]
      omega
  | x :: l, i + 1, h, ha => by
    have h0 : p x = false := ha 0 (by omega)
    have ih := firstI_at p l i (by simpa using h) (fun j hj => ha (j + 1) (by omega))
    rw [firstI, if_neg (by rw [h0]; decide)]
    exact ⟨fun hp => by rw [ih.1 hp], fun hp => by have := ih.2 hp; omega⟩
theorem firstI_none (p : α → Bool) : ∀ l : List α, (∀ x ∈ l, p x = false) → firstI p l = l.length
  | [], _ => rfl
  | x :: l, h => by
    rw [firstI, if_neg (by rw [h x (by simp)]; decide), firstI_none p l (fun y hy => h y (by simp [hy])), List.length_cons]
def idxL (p : α → Bool) (l : List α) : Int := if firstI p l < l.length then (firstI p l : Int) else -1
end Go.Proofs.YtoikneogdbdplaaDoor.Pl
namespace Go.Proofs.YtoikneogdbdplaaDoor.Fn
open Go.RowKit Go.Proofs.YtoikneogdbdplaaDoorW.PrintWords

theorem headsame_is (a b : ByteArray) (ha : a.size ≤ 35184372088832) (hb : b.size ≤ 35184372088832) : head_same.f a b = some (Pl.sameN a b) := by
  unfold head_same.f glyph_Fold.f Pl.sameN
  rw [if_pos ha, if_pos hb]
  rfl
def Asks (f : Nat) : Prop := ∀ (b : Nat) (name : ByteArray) (x0 x1 : ByteArray) (w : World), name.size ≤ 35184372088832 → x0.size ≤ 35184372088832 → w.cell? ⟨b, 0, none⟩ = some (.string name) →
  Calls Tryd.prog f #[.agg #[.string x0, .string x1], .pointer (some ⟨b, 0, none⟩)] w fun e w' => e = .returned (.bool (Pl.sameN x0 name)) ∧ Below w.heap.size w w'
set_option maxHeartbeats 4000000 in
set_option maxRecDepth 100000 in
theorem asks_put : Asks 55 := by
  intro b name x0 x1 w hn hx hc
  have hs := hid (headsame_is x0 name hx hn)
  have hlt := World.block_lt_of_cell? w _ hc
  have hu := Tryd.underlying30
  go_enter Tryd.func55, Tryd.ntmps55
  go_wp2_with (go_at_call 56; refine (head_same.calls x0 name _ _ hs.out).mono ?_; rintro e W1 ⟨rfl, b1⟩)
  go_ret
  exact ⟨rfl, ((Below.refl w.heap.size w).alloc (Nat.le_refl _) _).trans (b1.mono (by simp))⟩
set_option maxHeartbeats 4000000 in
set_option maxRecDepth 100000 in
theorem asks_without : Asks 59 := by
  intro b name x0 x1 w hn hx hc
  have hs := hid (headsame_is x0 name hx hn)
  have hlt := World.block_lt_of_cell? w _ hc
  have hu := Tryd.underlying30
  go_enter Tryd.func59, Tryd.ntmps59
  go_wp2_with (go_at_call 56; refine (head_same.calls x0 name _ _ hs.out).mono ?_; rintro e W1 ⟨rfl, b1⟩)
  go_ret
  exact ⟨rfl, ((Below.refl w.heap.size w).alloc (Nat.le_refl _) _).trans (b1.mono (by simp))⟩
def askN (name : ByteArray) (x : S30) : Bool := Pl.sameN x.f0 name
set_option maxHeartbeats 4000000 in
set_option maxRecDepth 100000 in
theorem IndexFunc_calls (f : Nat) (hA : Asks f) (ef : ∀ args w, (callFunc f args).run Tryd.prog w = .ok (.enter f args) w) (b : Nat) (name : ByteArray) (A : Option Addr) (c : Nat) (l : List (S30)) (w : World) (hC : Kd.C k30 w A l.length l)
    (hl : l.length ≤ 1000000000) (hz : ∀ x ∈ l, x.f0.size ≤ 35184372088832) (hn : name.size ≤ 35184372088832) (hb : w.cell? ⟨b, 0, none⟩ = some (.string name)) :
    Calls Tryd.prog 54 #[.slice A l.length c, .func (.func f) #[] #[.pointer (some ⟨b, 0, none⟩)]] w fun e w' => e = .returned (.int .i64 (Pl.idxL (askN name) l)) ∧ Below w.heap.size w w' := by
  have HC := hid hC
  have HZ := hid hz
  have HA := hid hA
  clear hC hz hA
  have hbl := World.block_lt_of_cell? w _ hb
  have hu := Tryd.underlying30
  go_enter Tryd.func54, Tryd.ntmps54
  go_wp2
  go_loopw [8] (fun v8 wr => ∃ i : Nat, i ≤ l.length ∧ v8 = .int .i64 i ∧ Hid (∀ j (hj : j < l.length), j < i → askN name l[j] = false) ∧ Below w.heap.size w wr) (fun v8 _ => l.length - (intOf v8).toNat)
  case atStart => exact ⟨0, Nat.zero_le _, rfl, fun j hj h => absurd h (Nat.not_lt_zero _), Below.refl _ w⟩
  case round =>
    obtain ⟨i, hi, rfl, hno, hbw⟩ := hrel
    by_cases hlt : i < l.length
    · obtain ⟨ad, e0, hx0, hx1⟩ := at_T30 HC.out (i : Int) (by omega) (by omega)
      subst e0
      have hrd : rd_T30 l (i : Int) = l[i]'hlt := by
        unfold rd_T30
        rw [Int.toNat_natCast, List.getD_eq_getElem?_getD, List.getElem?_eq_getElem hlt]; rfl
      rw [hrd] at hx0 hx1
      simp only [Int.toNat_natCast] at hx0 hx1
      replace hx0 := (hbw.cell (World.block_lt_of_cell? w _ hx0)).trans hx0
      replace hx1 := (hbw.cell (World.block_lt_of_cell? w _ hx1)).trans hx1
      have hbr := (hbw.cell (p := ⟨b, 0, none⟩) hbl).trans hb
      have hask : askN name (l[i]'hlt) = Pl.sameN (l[i]'hlt).f0 name := rfl
      have hcall := hid (HA.out b name (l[i]'hlt).f0 (l[i]'hlt).f1 wr hn (HZ.out _ (List.getElem_mem hlt)) hbr)
      have hfi := hid (Pl.firstI_at (askN name) l i hlt (fun j hj => hno.out j (by omega) hj))
      have hq0 : ∃ q, Pl.sameN (l[i]'hlt).f0 name = q := ⟨_, rfl⟩
      obtain ⟨q, hq⟩ := hq0
      rw [hq] at hcall
      have HQ : Hid (askN name (l[i]'hlt) = q) := hask.trans hq
      clear hask hq hrd
      generalize (l[i]'hlt).f0 = y0 at hx0 hcall
      generalize (l[i]'hlt).f1 = y1 at hx1 hcall
      have c1 : ((0 : Int) ≤ (i : Int)) = True := eq_true (by omega)
      have c2 : ((i : Int) < (l.length : Int)) = True := eq_true (by omega)
      have c3 : decide ((i : Int) < (l.length : Int)) = true := decide_eq_true (by omega)
      cases q with
      | true =>
        go_wp2_with (go_at_fn f; refine hcall.out.mono ?_; rintro e W1 ⟨rfl, b1⟩)
        go_ret
        refine ⟨?_, hbw.trans (b1.mono hbw.size)⟩
        unfold Pl.idxL
        rw [hfi.out.1 HQ.out, if_pos hlt]
        rfl
      | false =>
        go_wp2_with (go_at_fn f; refine hcall.out.mono ?_; rintro e W1 ⟨rfl, b1⟩)
        go_roundw
        case rel =>
          refine ⟨i + 1, by omega, by go_num, (show Hid _ from fun j hj hji => ?_), hbw.trans (b1.mono hbw.size)⟩
          by_cases e : j = i
          · subst e; exact HQ.out
          · exact hno.out j hj (by omega)
        case measure => simp [intOf]; omega
    · have c3 : decide ((i : Int) < (l.length : Int)) = false := decide_eq_false (by omega)
      go_wp2
      go_ret
      refine ⟨?_, hbw⟩
      unfold Pl.idxL
      rw [Pl.firstI_none _ _ (fun x hx => by
        obtain ⟨j, hj, rfl⟩ := List.mem_iff_getElem.1 hx
        exact hno.out j hj (by omega)), if_neg (by omega)]
      rfl
end Go.Proofs.YtoikneogdbdplaaDoor.Fn
set_option linter.unusedVariables false
set_option linter.unusedSimpArgs false
namespace Go.Proofs.YtoikneogdbdplaaDoor.Fn
open Go.RowKit Go.Proofs.YtoikneogdbdplaaDoorW.PrintWords

/-! A row of the call's own: cut off, and cleared behind. -/
section
variable {α : Type} {d : Kd α} {e base g n cap : Nat} {ok : Nat → Prop} {W : World} {xs : List α}
theorem reps_take {R : α → List Value → Prop} {size : Nat} {ps : List α} {cs : List Value} (h : Reps R size ps cs) (m : Nat) (hm : m ≤ ps.length) : Reps R size (ps.take m) (cs.take (m * size)) := by
  obtain ⟨h1, h2⟩ := h
  have hle : m * size ≤ ps.length * size := Nat.mul_le_mul_right _ hm
  refine ⟨by rw [List.length_take, List.length_take, h1]; rw [Nat.min_eq_left hle, Nat.min_eq_left hm], fun j p hp => ?_⟩
  have hj : j < m := by
    have := (List.getElem?_eq_some_iff.1 hp).1
    rw [List.length_take] at this
    omega
  rw [List.getElem?_take_of_lt hj] at hp
  have := h2 j p hp
  have hjm : j * size + size ≤ m * size := by rw [← Nat.succ_mul]; exact Nat.mul_le_mul_right _ hj
  rw [List.drop_take, List.take_take, Nat.min_eq_left (by omega)]
  exact this
theorem R_cut (h : d.R e W base ok (.slice (some ⟨g, 0, none⟩) n cap) xs) (m : Nat) (hm : m ≤ n) : d.R e W base ok (.slice (some ⟨g, 0, none⟩) m cap) (xs.take m) := by
  obtain ⟨h0, inner, ⟨ho1, ho2⟩, hr⟩ := h
  rcases ho2 with ⟨hv, _⟩ | ⟨g', cap', cur, hv, hb, hh, hnc, hcm, hcs, ht⟩
  · cases hv
  injection hv with ha hn hc
  injection ha with ha
  injection ha with hg
  subst hg; subst hc
  have hmx : m ≤ xs.length := by omega
  have hlen : (xs.take m).length = m := by rw [List.length_take]; omega
  have hle : m * d.sz ≤ xs.length * d.sz := Nat.mul_le_mul_right _ hmx
  refine ⟨h0, inner.take (m * d.sz), ⟨by rw [List.length_take, ho1, hlen]; omega, .inr ⟨g, cap, cur, by rw [hlen], hb, hh, by rw [hlen]; omega, hcm, hcs, ?_⟩⟩, ?_⟩
  · rw [hlen, ← ht, List.take_take, Nat.min_eq_left hle]
  · exact (reps_take hr m hmx).imp_ (fun p c hp => d.M_mono (fun k hk => hk) hp)
theorem R_beyond (h : d.R e W base ok (.slice (some ⟨g, 0, none⟩) n cap) xs) (vs : List Value) (o : Nat) (ho : n * d.sz ≤ o) (hfit : o + vs.length ≤ cap * d.sz) : d.R e (W.setCells g o vs) base ok (.slice (some ⟨g, 0, none⟩) n cap) xs := by
  obtain ⟨h0, inner, ⟨ho1, ho2⟩, hr⟩ := h
  rcases ho2 with ⟨hv, _⟩ | ⟨g', cap', cur, hv, hb, hh, hnc, hcm, hcs, ht⟩
  · cases hv
  injection hv with ha hn hc
  injection ha with ha
  injection ha with hg
  subst hg; subst hc
  obtain ⟨cur', h3, h4, h5⟩ := setCells_row vs o W cur hh (by omega)
  refine ⟨h0, inner, ⟨ho1, .inr ⟨g, cap, cur', by rw [← hn], hb, h3, hnc, hcm, by rw [h4]; exact hcs, ?_⟩⟩, hr.imp_ (fun p c hp => d.M_move (fun k hk => setCells_far vs _ k (fun e => hk.2 (by rw [e]; simp [Value.ownBlock]))) hp)⟩
  rw [← ht]
  apply List.ext_getElem?
  intro q
  rw [List.getElem?_take, List.getElem?_take]
  split
  · rename_i hq
    rw [h5, List.append_assoc, List.getElem?_append_left (by
      rw [List.length_take, Array.length_toList]
      have hle : xs.length * d.sz ≤ cap * d.sz := Nat.mul_le_mul_right _ hnc
      rw [hn] at ho
      omega), List.getElem?_take_of_lt (by rw [hn] at ho; omega)]
  · rfl
end
def fzero : Value := .agg #[.string (⟨#[]⟩ : ByteArray), .string (⟨#[]⟩ : ByteArray)]
theorem zero_field (w : World) : (zeroValue 30).run Tryd.prog w = .ok fzero w := by kernel_rfl
theorem run_clear_fields (w : World) (b o n : Nat) (hn : 0 < n)
    (hc : ∀ j, j < n * 2 → (w.cell? ⟨b, o + j, none⟩).isSome = true) (hf : ∀ j, j < n * 2 → w.frozen? ⟨b, o + j, none⟩ = false) :
    ∃ vs : List Value, vs.length = n * 2 ∧ ∀ (ty : TypeId) (c : Nat), (Builtin.clear_ #[27] ty #[.slice (some ⟨b, o, none⟩) n c]).run Tryd.prog w = .ok (.tuple #[]) (w.setCells b o vs) := by
  refine ⟨(Builtin.zeroCells fzero.cells n).toList, ?_, ?_⟩
  · simp [Builtin.zeroCells, fzero, Value.cells]
  · have hl : (Builtin.zeroCells fzero.cells n).toList.length = n * 2 := by
      simp [Builtin.zeroCells, fzero, Value.cells]
    have hst := Go.run_storeCells_cells (P := Tryd.prog) b o (Builtin.zeroCells fzero.cells n).toList 0 w (by intro j hj; rw [hl] at hj; simpa using hc j hj) (by intro j hj; rw [hl] at hj; simp) (by
      intro v hv
      simp only [Builtin.zeroCells, fzero, Value.cells, Array.toList_map, List.mem_map] at hv
      obtain ⟨i, _, rfl⟩ := hv
      have h2 : i % #[Value.string (⟨#[]⟩ : ByteArray), Value.string (⟨#[]⟩ : ByteArray)].size = 0 ∨ i % #[Value.string (⟨#[]⟩ : ByteArray), Value.string (⟨#[]⟩ : ByteArray)].size = 1 := by
        have : #[Value.string (⟨#[]⟩ : ByteArray), Value.string (⟨#[]⟩ : ByteArray)].size = 2 := rfl
        rw [this]
        omega
      rcases h2 with h2 | h2 <;> rw [h2] <;> rfl)
    simp only [Nat.add_zero] at hst
    obtain ⟨m, rfl⟩ : ∃ m, n = m + 1 := ⟨n - 1, by omega⟩
    have hst2 := hst
    unfold fzero at hst2
    intro ty c
    simp [Builtin.clear_, run_underlying Tryd.underlying27, zero_field, hst, hst2, fzero]
theorem firstI_kept {α : Type} (p : α → Bool) : ∀ l : List α, Pl.firstI p l < l.length → (l.take (Pl.firstI p l + 1)).filter (fun x => !p x) = l.take (Pl.firstI p l)
  | [], h => by simp at h
  | x :: l, h => by
    rw [Pl.firstI] at h ⊢
    cases hx : p x with
    | true => simp [hx]
    | false =>
      rw [hx] at h
      simp only [Bool.false_eq_true, if_false, List.length_cons] at h ⊢
      rw [List.take_succ_cons, List.take_succ_cons, List.filter_cons, hx, if_pos (by rfl), firstI_kept p l (by omega)]
theorem firstI_all {α : Type} (p : α → Bool) : ∀ l : List α, ¬ Pl.firstI p l < l.length → l.filter (fun x => !p x) = l
  | [], _ => rfl
  | x :: l, h => by
    rw [Pl.firstI] at h
    cases hx : p x with
    | true => rw [hx] at h; simp at h
    | false =>
      rw [hx] at h
      simp only [Bool.false_eq_true, if_false, List.length_cons] at h
      rw [List.filter_cons, hx, if_pos (by rfl), firstI_all p l (by omega)]
structure Kept2 {α : Type} (p : α → Bool) (l : List α) (i j : Nat) (L : List α) : Prop where
  len : L.length = l.length
  lt : i < j
  le : j ≤ l.length
  low : L.take i = (l.take j).filter (fun x => !p x)
  high : L.drop j = l.drop j
theorem Kept2.at_ {α : Type} {p : α → Bool} {l L : List α} {i j : Nat} (h : Kept2 p l i j L) (hj : j < l.length) (hj2 : j < L.length) : L[j] = l[j] := by
  have := congrArg (·[0]?) h.high
  simp only [List.getElem?_drop, Nat.add_zero] at this
  rw [List.getElem?_eq_getElem hj, List.getElem?_eq_getElem hj2] at this
  exact Option.some.inj this
theorem drop_succ_of {α : Type} {l L : List α} {j : Nat} (h : L.drop j = l.drop j) : L.drop (j + 1) = l.drop (j + 1) := by
  rw [← List.drop_drop, ← List.drop_drop, h]
theorem Kept2.skip {α : Type} {p : α → Bool} {l L : List α} {i j : Nat} (h : Kept2 p l i j L) (hj : j < l.length) (hp : p l[j] = true) : Kept2 p l i (j + 1) L :=
  ⟨h.len, by have := h.lt; omega, hj, by rw [List.take_succ_eq_append_getElem hj, List.filter_append, h.low]; simp [hp], drop_succ_of h.high⟩
theorem Kept2.keep {α : Type} {p : α → Bool} {l L : List α} {i j : Nat} (h : Kept2 p l i j L) (hj : j < l.length) (hp : p l[j] = false) : Kept2 p l (i + 1) (j + 1) (L.set i l[j]) := by
  have hlt := h.lt
  have hlen := h.len
  have hi : i < (L.set i l[j]).length := by rw [List.length_set]; omega
  refine ⟨by rw [List.length_set]; exact hlen, by omega, hj, ?_, ?_⟩
  · rw [List.take_succ_eq_append_getElem hi, List.take_succ_eq_append_getElem hj, List.filter_append, ← h.low, List.getElem_set_self, List.take_set_of_le (Nat.le_refl _)]
    simp [hp]
  · rw [List.drop_set_of_lt (by omega)]
    exact drop_succ_of h.high
set_option maxHeartbeats 8000000 in
set_option maxRecDepth 100000 in
theorem DeleteFunc_calls (f : Nat) (hA : Asks f) (ef : ∀ args w, (callFunc f args).run Tryd.prog w = .ok (.enter f args) w) (b : Nat) (name : ByteArray) (g cap base : Nat) (l : List (S30)) (w : World)
    (hR : Kd.R k30 30 w base (fun _ => True) (.slice (some ⟨g, 0, none⟩) l.length cap) l)
    (hl : l.length ≤ 1000000000) (hz : ∀ x ∈ l, x.f0.size ≤ 35184372088832) (hn : name.size ≤ 35184372088832) (hb : w.cell? ⟨b, 0, none⟩ = some (.string name)) (hbg : b ≠ g) (hbase : base ≤ w.heap.size) :
    Calls Tryd.prog 58 #[.slice (some ⟨g, 0, none⟩) l.length cap, .func (.func f) #[] #[.pointer (some ⟨b, 0, none⟩)]] w fun e w' =>
      ∃ m, m = (l.filter (fun x => !askN name x)).length ∧ e = .returned (.slice (some ⟨g, 0, none⟩) m cap) ∧ Kd.R k30 30 w' base (fun _ => True) (.slice (some ⟨g, 0, none⟩) m cap) (l.filter (fun x => !askN name x)) ∧ Below base w w' := by
  have hg : base ≤ g := by
    obtain ⟨_, inner, ho, _⟩ := hR
    exact (ho.lt g (by simp [Value.ownBlock])).1
  obtain ⟨-, hlc, hC⟩ := Kd.R_reads' hR
  have hIF := IndexFunc_calls f hA ef b name _ cap l w hC hl hz hn hb
  have HR := hid hR
  have HZ := hid hz
  have HA := hid hA
  clear hR hz hA hC
  have hbl := World.block_lt_of_cell? w _ hb
  have hu := Tryd.underlying30
  by_cases hf : Pl.firstI (askN name) l < l.length
  · have hidx : Pl.idxL (askN name) l = (Pl.firstI (askN name) l : Int) := by unfold Pl.idxL; rw [if_pos hf]
    rw [hidx] at hIF
    have hk0 := hid (firstI_kept (askN name) l hf)
    generalize Pl.firstI (askN name) l = i0 at hIF hk0 hf
    have hne1 : ((i0 : Int) == -1) = false := beq_eq_false_iff_ne.2 (by omega)
    go_enter Tryd.func58, Tryd.ntmps58
    go_wp2_with (go_at_call 54; refine hIF.mono ?_; rintro e w1 ⟨rfl, b0⟩)
    go_loopw [5, 6] (fun v5 v6 wr => ∃ (i j : Nat) (L : List (S30)), v5 = .int .i64 i ∧ v6 = .int .i64 j ∧ Hid (Kept2 (askN name) l i j L) ∧ Hid (Kd.R k30 30 wr base (fun _ => True) (.slice (some ⟨g, 0, none⟩) l.length cap) L) ∧ wr.cell? ⟨b, 0, none⟩ = some (.string name) ∧ Hid (Below base w wr)) (fun _ v6 _ => l.length - (intOf v6).toNat)
    case atStart => exact ⟨i0, i0 + 1, l, rfl, by go_num, ⟨rfl, by omega, by omega, hk0.out.symm, rfl⟩, Kd.R_below HR.out b0, (b0.cell (p := ⟨b, 0, none⟩) hbl).trans hb, b0.mono hbase⟩
    case round =>
      obtain ⟨i, j, L, rfl, rfl, hK, hRL, hbr, hbw⟩ := hrel
      have hij := hK.out.lt
      have hjl := hK.out.le
      have hLl := hK.out.len
      have hbrl := World.block_lt_of_cell? wr _ hbr
      obtain ⟨-, -, hCL⟩ := Kd.R_reads' hRL.out
      have hadd : ∀ q : Nat, (⟨g, 0, none⟩ : Addr).add q = ⟨g, q, none⟩ := fun q => add_plain g q
      have hfz : ∀ q : Nat, wr.frozen? ⟨g, q, none⟩ = false := by
        obtain ⟨_, inner, ho, _⟩ := hRL.out
        obtain ⟨cells, hc⟩ := own_typed ho g (by simp [Value.ownBlock])
        exact fun q => blk_frozen hc q
      have hcl : ∀ (q : Nat) (hq : q < L.length), wr.cell? ⟨g, q * 2, none⟩ = some (.string L[q].f0) ∧ wr.cell? ⟨g, q * 2 + 1, none⟩ = some (.string L[q].f1) := fun q hq => by
        obtain ⟨ad, e0, h0, h1⟩ := at_T30 hCL (q : Int) (by omega) (by omega)
        have e0 : (⟨g, 0, none⟩ : Addr) = ad := Option.some.inj e0
        have hrd : rd_T30 L (q : Int) = L[q] := by
          unfold rd_T30
          rw [Int.toNat_natCast, List.getD_eq_getElem?_getD, List.getElem?_eq_getElem hq]; rfl
        rw [hrd, ← e0, Int.toNat_natCast, hadd] at h0 h1
        exact ⟨h0, h1⟩
      by_cases hlt : j < l.length
      · have hjL : j < L.length := by omega
        have hiL : i < L.length := by omega
        have hat := hK.out.at_ hlt hjL
        obtain ⟨hx0, hx1⟩ := hcl j hjL
        obtain ⟨hy0, hy1⟩ := hcl i hiL
        rw [hat] at hx0 hx1
        have hxz := HZ.out _ (List.getElem_mem hlt)
        have hf0 := hfz (i * 2)
        have hf1 := hfz (i * 2 + 1)
        have hgl := World.block_lt_of_cell? wr _ hx0
        have HK1 := hid (fun hp => hK.out.keep hlt hp)
        have HK2 := hid (fun hp => hK.out.skip hlt hp)
        obtain ⟨⟨y0, y1⟩, hxx⟩ : ∃ x : S30, l[j]'hlt = x := ⟨_, rfl⟩
        rw [hxx] at hx0 hx1 hxz HK1 HK2
        simp only at hx0 hx1 hxz
        have hask : askN name (⟨y0, y1⟩ : S30) = Pl.sameN y0 name := rfl
        obtain ⟨q, hq⟩ : ∃ q, Pl.sameN y0 name = q := ⟨_, rfl⟩
        have HQ : Hid (askN name (⟨y0, y1⟩ : S30) = q) := hask.trans hq
        have hcall := hid (fun W hW => HA.out b name y0 y1 W hn hxz hW)
        rw [hq] at hcall
        clear hask hq hcl hCL hat hxz hadd hfz hxx
        generalize L[i].f0 = o0 at hy0
        generalize L[i].f1 = o1 at hy1
        have c1 : ((0 : Int) ≤ (j : Int)) = True := eq_true (by omega)
        have c2 : ((j : Int) < (l.length : Int)) = True := eq_true (by omega)
        have c3 : decide ((j : Int) < (l.length : Int)) = true := decide_eq_true (by omega)
        have c4 : ((0 : Int) ≤ (i : Int)) = True := eq_true (by omega)
        have c5 : ((i : Int) < (l.length : Int)) = True := eq_true (by omega)
        clear hLl hiL hjL hij hjl
        cases q with
        | true =>
          go_wp2
          refine (hcall.out _ ((((Below.refl wr.heap.size wr).alloc (Nat.le_refl _) _).cell (p := ⟨b, 0, none⟩) hbrl).trans hbr)).mono ?_
          rintro e W2 ⟨rfl, b1⟩
          have B2 : Below wr.heap.size wr W2 := ((Below.refl wr.heap.size wr).alloc (Nat.le_refl _) _).trans (b1.mono (by simp))
          have HB2 := hid B2
          clear B2
          go_wp2
          go_roundw
          case rel => exact ⟨i, j + 1, L, rfl, by go_num, HK2.out HQ.out, Kd.R_below hRL.out HB2.out, (HB2.out.cell (p := ⟨b, 0, none⟩) hbrl).trans hbr, hbw.out.trans (HB2.out.mono (Nat.le_trans hbase hbw.out.size))⟩
          case measure => simp [intOf]; omega
        | false =>
          go_wp2
          refine (hcall.out _ ((((Below.refl wr.heap.size wr).alloc (Nat.le_refl _) _).cell (p := ⟨b, 0, none⟩) hbrl).trans hbr)).mono ?_
          rintro e W2 ⟨rfl, b1⟩
          have B2 : Below wr.heap.size wr W2 := ((Below.refl wr.heap.size wr).alloc (Nat.le_refl _) _).trans (b1.mono (by simp))
          have k0 : W2.cell? ⟨wr.heap.size, 0, none⟩ = some (.string y0) := (b1.cell (p := ⟨wr.heap.size, 0, none⟩) (by simp)).trans ((blk_cell (blk_new wr _) 0).trans rfl)
          have k1 : W2.cell? ⟨wr.heap.size, 1, none⟩ = some (.string y1) := (b1.cell (p := ⟨wr.heap.size, 1, none⟩) (by simp)).trans ((blk_cell (blk_new wr _) 1).trans rfl)
          have m0 := (B2.cell (p := ⟨g, i * 2, none⟩) hgl).trans hy0
          have m1 := (B2.cell (p := ⟨g, i * 2 + 1, none⟩) hgl).trans hy1
          have n0 := (B2.frozen (p := ⟨g, i * 2, none⟩) hgl).trans hf0
          have n1 := (B2.frozen (p := ⟨g, i * 2 + 1, none⟩) hgl).trans hf1
          have HB2 := hid B2
          clear B2
          go_wp2
          go_roundw
          case rel =>
            have hij := hK.out.lt
            have hjl := hK.out.le
            have hLl := hK.out.len
            have hS := (Kd.R_seg (Kd.R_below hRL.out HB2.out) (i : Int) (by omega) (by omega) (c := [.string o0, .string o1]) (seg := [.string y0, .string y1]) (j := 0) rfl (fun q u hq => by
              match q, hq with
              | 0, hq => obtain rfl := Option.some.inj hq; exact m0
              | 1, hq => obtain rfl := Option.some.inj hq; exact m1
              | q + 2, hq => simp at hq) (Nat.le_refl 2) (x' := (⟨y0, y1⟩ : S30)) (okp := fun k => k ≠ g) (k30_mkM W2 base _ ⟨y0, y1⟩) (fun k hk => ⟨trivial, hk⟩)).1
            rw [Int.toNat_natCast] at hS
            exact ⟨i + 1, j + 1, L.set i ⟨y0, y1⟩, by rw [Pl.wrap_succ i (by omega)], by go_num, HK1.out HQ.out, hS,
              ((cell_far (p := ⟨g, i * 2 + 1, none⟩) hbg _).trans ((cell_far (p := ⟨g, i * 2, none⟩) hbg _).trans ((HB2.out.cell (p := ⟨b, 0, none⟩) hbrl).trans hbr))),
              ((hbw.out.trans (HB2.out.mono (Nat.le_trans hbase hbw.out.size))).setCell (p := ⟨g, i * 2, none⟩) hg _).setCell (p := ⟨g, i * 2 + 1, none⟩) hg _⟩
          case measure => simp [intOf]; omega
      · have hjn : j = l.length := by omega
        obtain ⟨vs, hvl, hclr⟩ := run_clear_fields wr g (i * 2) (l.length - i) (by omega) (fun q hq => by
          have hq2 : i + q / 2 < L.length := by omega
          obtain ⟨h0, h1⟩ := hcl (i + q / 2) hq2
          rcases (show q % 2 = 0 ∨ q % 2 = 1 by omega) with h2 | h2
          · rw [show i * 2 + q = (i + q / 2) * 2 by omega, h0]; rfl
          · rw [show i * 2 + q = (i + q / 2) * 2 + 1 by omega, h1]; rfl) (fun q _ => hfz _)
        have hlow := hid hK.out.low
        have hin : i ≤ l.length := by omega
        have hic : i < cap := by omega
        have c3 : decide ((j : Int) < (l.length : Int)) = false := decide_eq_false (by omega)
        have c6 : ((0 : Int) ≤ (i : Int)) = True := eq_true (by omega)
        have HVL := hid hvl
        have HIN := hid hin
        have HJN := hid hjn
        have HLL := hid hLl
        clear hvl hadd hfz hcl hCL hLl hjn hij hjl
        go_wp2
        go_ret
        have hfl : l.filter (fun x => !askN name x) = L.take i := by rw [hlow.out, HJN.out, List.take_of_length_le (Nat.le_refl _)]
        have hm : (l.filter (fun x => !askN name x)).length = i := by
          have := HLL.out
          rw [hfl, List.length_take]
          omega
        obtain ⟨s1, s2, s3, s4⟩ := setCells_same g vs (i * 2) wr
        have hfit : i * 2 + vs.length ≤ cap * 2 := by
          have := HVL.out
          omega
        refine ⟨by rw [hm]; rfl, ?_, hbw.out.trans ⟨s1, s2, s3, by rw [s4]; exact Nat.le_refl _, fun k hk => setCells_far vs _ k (by omega)⟩⟩
        rw [hm, hfl]
        exact R_beyond (R_cut hRL.out i HIN.out) vs (i * 2) (Nat.le_refl _) hfit
  · have hidx : Pl.idxL (askN name) l = -1 := by unfold Pl.idxL; rw [if_neg hf]
    rw [hidx] at hIF
    have hall := firstI_all (askN name) l hf
    rw [hall]
    go_enter Tryd.func58, Tryd.ntmps58
    go_wp2_with (go_at_call 54; refine hIF.mono ?_; rintro e w1 ⟨rfl, b0⟩)
    go_ret
    exact ⟨_, rfl, rfl, Kd.R_below HR.out b0, b0.mono hbase⟩
end Go.Proofs.YtoikneogdbdplaaDoor.Fn
set_option linter.unusedVariables false
set_option linter.unusedSimpArgs false
namespace Go.Proofs.YtoikneogdbdplaaDoor.Fn
open Go.RowKit Go.Proofs.YtoikneogdbdplaaDoorW.PrintWords

def flatF (l : List (S30)) : List Value := l.flatMap fun x => [.string x.f0, .string x.f1]
theorem flatF_cons (x : S30) (l : List (S30)) : flatF (x :: l) = .string x.f0 :: .string x.f1 :: flatF l := rfl
theorem flatF_len : ∀ l : List (S30), (flatF l).length = l.length * 2
  | [] => rfl
  | x :: l => by rw [flatF_cons, List.length_cons, List.length_cons, flatF_len l, List.length_cons]; omega
theorem flatF_one : ∀ (l : List (S30)), ∀ u ∈ flatF l, u.oneCell' = true
  | [], u, h => by cases h
  | x :: l, u, h => by
    rw [flatF_cons] at h
    rcases List.mem_cons.1 h with rfl | h
    · rfl
    rcases List.mem_cons.1 h with rfl | h
    · rfl
    · exact flatF_one l u h
theorem flatF_at : ∀ (l : List (S30)) (j : Nat) (u : Value), (flatF l)[j]? = some u → ∃ x, l[j / 2]? = some x ∧ [Value.string x.f0, .string x.f1][j % 2]? = some u
  | [], j, u, h => by simp [flatF] at h
  | x :: l, 0, u, h => ⟨x, rfl, h⟩
  | x :: l, 1, u, h => ⟨x, rfl, h⟩
  | x :: l, j + 2, u, h => by
    rw [flatF_cons] at h
    obtain ⟨y, h1, h2⟩ := flatF_at l j u h
    refine ⟨y, ?_, ?_⟩
    · rw [show (j + 2) / 2 = j / 2 + 1 by omega]; exact h1
    · rw [show (j + 2) % 2 = j % 2 by omega]; exact h2
theorem flatF_part : ∀ (l : List (S30)) (j : Nat) (x : S30), l[j]? = some x → ((flatF l).drop (j * 2)).take 2 = [.string x.f0, .string x.f1]
  | [], j, x, h => by simp at h
  | y :: l, 0, x, h => by
    obtain rfl : y = x := by simpa using h
    rfl
  | y :: l, j + 1, x, h => by
    rw [flatF_cons, show (j + 1) * 2 = j * 2 + 1 + 1 by omega, List.drop_succ_cons, List.drop_succ_cons]
    exact flatF_part l j x (by simpa using h)
theorem reps_flat (w : World) (base : Nat) (ok : Nat → Prop) (l : List (S30)) : Reps (k30.M w base ok) 2 l (flatF l) :=
  ⟨flatF_len l, fun j p h => by rw [flatF_part l j p h]; exact k30_mkM w base ok p⟩
theorem flat_cells {w : World} {ad : Addr} {l : List (S30)} (hC : Kd.C k30 w (some ad) l.length l) (j : Nat) (u : Value) (h : (flatF l)[j]? = some u) : w.cell? (ad.add j) = some u := by
  obtain ⟨x, h1, h2⟩ := flatF_at l j u h
  have hj : j / 2 < l.length := (List.getElem?_eq_some_iff.1 h1).1
  obtain ⟨_, _, h3⟩ := hC
  obtain ⟨ad', e, h4⟩ := h3 (by omega)
  obtain rfl : ad = ad' := Option.some.inj e
  obtain ⟨c, _, hK, h5⟩ := h4 (j / 2) x h1
  obtain rfl := k30_open hK
  have h6 : w.cell? (ad.add (j / 2 * 2 + j % 2)) = some u := h5 (j % 2) u h2
  rwa [show j / 2 * 2 + j % 2 = j by omega] at h6
theorem R_of_row {w : World} {base : Nat} {v : Value} {l : List (S30)} (h : w.ownsRow base 30 2 v l.length (flatF l)) : Kd.R k30 30 w base (fun _ => True) v l :=
  ⟨fun k hk => trivial, flatF l, h, reps_flat w base _ l⟩
theorem info_field : ∃ i, Tryd.prog.info? 30 = some i ∧ i.zero = some (.agg #[.string ⟨#[]⟩, .string ⟨#[]⟩]) ∧ i.size = 2 ∧ i.bytes = 32 := by
  have h := info30
  cases hq : Tryd.prog.info? 30 with
  | none => rw [hq] at h; cases h
  | some i =>
    rw [hq] at h
    simp only [Option.map_some, Option.some.injEq, Prod.mk.injEq] at h
    exact ⟨i, rfl, h.1, h.2.1, h.2.2⟩
set_option maxHeartbeats 4000000 in
set_option maxRecDepth 100000 in
theorem Clone_some (ad : Addr) (c : Nat) (l : List (S30)) (w : World) (hC : Kd.C k30 w (some ad) l.length l) (hl : l.length ≤ 1000000000) :
    Calls Tryd.prog 57 #[.slice (some ad) l.length c] w fun e w' => ∃ v, e = .returned v ∧ Kd.R k30 30 w' w.heap.size (fun _ => True) v l ∧ v ≠ .slice none 0 0 ∧ Below w.heap.size w w' := by
  have HC := hid hC
  clear hC
  obtain ⟨i0, hi, hz0, hz1, hz2⟩ := info_field
  have hq : ∀ (w : World) (a : Option Addr) (n c n' c' : Nat), (binOp .eql 27 (.slice a n c) (.slice none n' c')).run Tryd.prog w = .ok (.bool a.isNone) w := fun w a n c n' c' => Lib.run_eql_slice_nil w _ _ a n c n' c' Tryd.underlying27
  go_enter Tryd.func57, Tryd.ntmps57
  go_wp2_with (at_builtin; refine wpList_append_own _ rfl _ _ 27 rfl w.heap.size 30 i0 _ 2 32 Tryd.underlying27 hi hz0 hz1 hz2 rfl (by decide) _ _ _ rfl (World.ownsRow_made w #[] 0 (Nat.le_refl _) (Nat.zero_le _) (by simp)) ad l.length c (flatF l) rfl ?qc1 ?qc2 ?qc3 ?qc4 ?qc5 ?qc6 ?_)
  case qc1 => exact flatF_len l
  case qc2 =>
    intro j u hj
    exact Lib.cell?_alloc_some _ (flat_cells HC.out j u hj)
  case qc3 => exact flatF_one l
  case qc4 => rw [Nat.zero_add]; unfold maxLen; omega
  case qc5 => rw [Nat.zero_add]; omega
  case qc6 => simp
  intro v' w1 hown hgrow hnil
  go_wp2
  go_ret
  refine ⟨v', rfl, R_of_row (by simpa using hown), ?_, ?_⟩
  · exact hnil
  · exact ((Below.refl _ w).alloc (Nat.le_refl _) _).grown hgrow (by simp) (by intro k hk; simp [Value.ownBlock] at hk; omega)
set_option maxHeartbeats 4000000 in
set_option maxRecDepth 100000 in
theorem Clone_none (n c : Nat) (w : World) : Calls Tryd.prog 57 #[.slice none n c] w fun e w' => e = .returned (.slice none 0 0) ∧ w' = w := by
  have hq : ∀ (w : World) (a : Option Addr) (n c n' c' : Nat), (binOp .eql 27 (.slice a n c) (.slice none n' c')).run Tryd.prog w = .ok (.bool a.isNone) w := fun w a n c n' c' => Lib.run_eql_slice_nil w _ _ a n c n' c' Tryd.underlying27
  go_enter Tryd.func57, Tryd.ntmps57
  go_wp2
  go_ret
  exact ⟨rfl, rfl⟩
end Go.Proofs.YtoikneogdbdplaaDoor.Fn
set_option linter.unusedVariables false
set_option linter.unusedSimpArgs false
namespace Go.Proofs.YtoikneogdbdplaaDoor.Fn
open Go.RowKit Go.Proofs.YtoikneogdbdplaaDoorW.PrintWords

def withoutL (l : List (S30)) (name : ByteArray) : List (S30) := l.filter (fun x => !askN name x)
def head_Without.f (l : List (S30)) (name : ByteArray) : Option (List (S30)) :=
  if l.length ≤ 1000000000 then (if name.size ≤ 35184372088832 then (if l.all (fun x => decide (x.f0.size ≤ 35184372088832)) = true then some (withoutL l name) else none) else none) else none
theorem enter_without : ∀ args w, (callFunc 59 args).run Tryd.prog w = .ok (.enter 59 args) w := enters_of Tryd.func59 (by kernel_rfl) rfl
theorem enter_put : ∀ args w, (callFunc 55 args).run Tryd.prog w = .ok (.enter 55 args) w := enters_of Tryd.func55 (by kernel_rfl) rfl
set_option maxHeartbeats 4000000 in
set_option maxRecDepth 100000 in
theorem DeleteFunc_nil (f : Nat) (hA : Asks f) (ef : ∀ args w, (callFunc f args).run Tryd.prog w = .ok (.enter f args) w) (b : Nat) (name : ByteArray) (w : World) (hn : name.size ≤ 35184372088832) (hb : w.cell? ⟨b, 0, none⟩ = some (.string name)) :
    Calls Tryd.prog 58 #[.slice none 0 0, .func (.func f) #[] #[.pointer (some ⟨b, 0, none⟩)]] w fun e w' => e = .returned (.slice none 0 0) ∧ Below w.heap.size w w' := by
  have hIF := IndexFunc_calls f hA ef b name none 0 [] w ⟨rfl, by simp, fun h => absurd h (by simp)⟩ (by simp) (fun x hx => by cases hx) hn hb
  have hidx : Pl.idxL (askN name) ([] : List (S30)) = -1 := rfl
  rw [hidx] at hIF
  have hIF2 : Calls Tryd.prog 54 #[.slice none 0 0, .func (.func f) #[] #[.pointer (some ⟨b, 0, none⟩)]] w fun e w' => e = .returned (.int .i64 (-1)) ∧ Below w.heap.size w w' := hIF
  clear hIF hidx
  go_enter Tryd.func58, Tryd.ntmps58
  go_wp2_with (go_at_call 54; refine hIF2.mono ?_; rintro e w1 ⟨rfl, b0⟩)
  go_ret
  exact ⟨rfl, b0⟩
theorem row_form {W : World} {base : Nat} {ok : Nat → Prop} {v : Value} {l : List (S30)} (h : Kd.R k30 30 W base ok v l) (hne : v ≠ .slice none 0 0) : ∃ g cap, v = .slice (some ⟨g, 0, none⟩) l.length cap ∧ base ≤ g := by
  obtain ⟨_, inner, ⟨_, ho⟩, _⟩ := h
  rcases ho with ⟨hv, _⟩ | ⟨g, cap, cur, hv, hb, _⟩
  · exact absurd hv hne
  · exact ⟨g, cap, hv, hb⟩
set_option maxHeartbeats 4000000 in
set_option maxRecDepth 100000 in
theorem head_Without.calls (A : Option Addr) (c : Nat) (l : List (S30)) (name : ByteArray) (r : List (S30)) (w : World) (hC : Kd.C k30 w A l.length l) (hc : l.length ≤ c) (h : head_Without.f l name = some r) :
    Calls Tryd.prog 15 #[.slice A l.length c, .string name] w fun e w' => ∃ v, e = .returned v ∧ Kd.R k30 30 w' w.heap.size (fun _ => True) v r ∧ Below w.heap.size w w' := by
  unfold head_Without.f at h
  by_cases hl : l.length ≤ 1000000000
  case neg => rw [if_neg hl] at h; exact absurd h (by simp)
  rw [if_pos hl] at h
  by_cases hn : name.size ≤ 35184372088832
  case neg => rw [if_neg hn] at h; exact absurd h (by simp)
  rw [if_pos hn] at h
  by_cases hz : l.all (fun x => decide (x.f0.size ≤ 35184372088832)) = true
  case neg => rw [if_neg hz] at h; exact absurd h (by simp)
  rw [if_pos hz] at h
  have HR := hid (Option.some.inj h)
  have HZ := hid (fun x (hx : x ∈ l) => of_decide_eq_true (List.all_eq_true.1 hz x hx))
  have HCC := hid hC
  clear h hz hC
  obtain ⟨w0, hw0⟩ : ∃ w0, w.alloc (.cells #[.string name] 9) = w0 := ⟨_, rfl⟩
  have HB0 := hid (show Below w.heap.size w w0 by rw [← hw0]; exact (Below.refl _ w).alloc (Nat.le_refl _) _)
  have hs0 : w0.heap.size = w.heap.size + 1 := by rw [← hw0]; simp
  have hcell : w0.cell? ⟨w.heap.size, 0, none⟩ = some (.string name) := by rw [← hw0]; exact (blk_cell (blk_new w _) 0).trans rfl
  cases A with
  | none =>
    have hnil : l = [] := by
      by_cases h0 : 0 < l.length
      · obtain ⟨ad, e, _⟩ := HCC.out.2.2 h0
        cases e
      · exact List.eq_nil_of_length_eq_zero (by omega)
    subst hnil
    have HD := hid (DeleteFunc_nil 59 asks_without enter_without w.heap.size name w0 hn hcell)
    go_enter Tryd.func15, Tryd.ntmps15
    go_wp2_with (first
      | (go_at_call 57; refine (Clone_none 0 c w0).mono ?_; rintro e w1 ⟨rfl, rfl⟩)
      | (go_at_call 58; refine HD.out.mono ?_; rintro e w2 ⟨rfl, b2⟩))
    go_ret
    refine ⟨_, rfl, ?_, HB0.out.trans (b2.mono (by omega))⟩
    rw [← HR.out]
    exact Kd.R_nil _ _ _ _ _
  | some ad =>
    have hCl := hid (Clone_some ad c l w0 (Kd.C_below HCC.out (by have := HB0.out; exact this)) hl)
    go_enter Tryd.func15, Tryd.ntmps15
    go_wp2_with (first
      | (go_at_call 57; refine hCl.out.mono ?_; rintro e w1 ⟨v, rfl, hR, hne, b1⟩; obtain ⟨g, cap, rfl, hg⟩ := row_form hR hne; have hb1 := (b1.cell (p := ⟨w.heap.size, 0, none⟩) (by show w.heap.size < w0.heap.size; omega)).trans hcell)
      | (go_at_call 58; refine (DeleteFunc_calls 59 asks_without enter_without w.heap.size name g cap w0.heap.size l w1 hR hl HZ.out hn hb1 (by omega) b1.size).mono ?_; rintro e w2 ⟨m, hm, rfl, hR2, b2⟩; subst hm))
    go_ret
    refine ⟨_, rfl, ?_, HB0.out.trans ((b1.trans b2).mono (by omega))⟩
    rw [← HR.out]
    exact Kd.R_lower (base' := w.heap.size) hR2 (show w.heap.size ≤ w0.heap.size by omega)
end Go.Proofs.YtoikneogdbdplaaDoor.Fn
set_option linter.unusedVariables false
set_option linter.unusedSimpArgs false
namespace Go.Proofs.YtoikneogdbdplaaDoor.Fn
open Go.RowKit Go.Proofs.YtoikneogdbdplaaDoorW.PrintWords

/-! Layer 15: a row of fields grows by another -/
theorem flat_of_reps {w : World} {base : Nat} {ok : Nat → Prop} : ∀ (l : List (S30)) (inner : List Value), Reps (k30.M w base ok) 2 l inner → inner = flatF l
  | [], inner, h => by
    have h1 : inner.length = 0 := h.1
    exact List.eq_nil_of_length_eq_zero h1
  | x :: l, inner, h => by
    have h0 := k30_openM (h.2 0 x rfl)
    rw [Nat.zero_mul, List.drop_zero] at h0
    have ih := flat_of_reps l (inner.drop 2) ⟨by rw [List.length_drop, h.1, List.length_cons]; omega, fun j p hj => by
      have h1 := h.2 (j + 1) p (by simpa using hj)
      rw [show (j + 1) * 2 = 2 + j * 2 by omega, ← List.drop_drop] at h1
      exact h1⟩
    rw [flatF_cons, ← ih]
    have h3 := List.take_append_drop 2 inner
    rw [h0] at h3
    exact h3.symm
theorem flatF_append (l m : List (S30)) : flatF (l ++ m) = flatF l ++ flatF m := List.flatMap_append
theorem own_of_fields {w : World} {base : Nat} {ok : Nat → Prop} {v : Value} {l : List (S30)} (h : Kd.R k30 30 w base ok v l) : w.ownsRow base 30 2 v l.length (flatF l) := by
  obtain ⟨_, inner, hown, hr⟩ := h
  obtain rfl := flat_of_reps l inner hr
  exact hown
theorem wp_append_fields {o : Oper} {a : Act} {K : Act → World → Prop} {Q : Exit → Act → World → Prop} {W : World} (base : Nat) (s x : Operand)
    (ho : o.op = .call { callee := .builtin .append, args := #[s, x], argTypes := #[27, 27] })
    (v : Value) (l m : List (S30)) (ad : Addr) (c : Nat) (hs : a.eval s = v) (hx : a.eval x = .slice (some ad) m.length c)
    (HO : Kd.R k30 30 W base (fun _ => True) v l) (hnews : ∀ j u, (flatF m)[j]? = some u → W.cell? (ad.add j) = some u) (hbase : base ≤ W.heap.size) (hl : l.length + m.length ≤ 2000000000)
    (h : ∀ v1 w1, Kd.R k30 30 w1 base (fun _ => True) v1 (l ++ m) → W.grownBy w1 v.ownBlock → (v1.ownBlock = v.ownBlock ∨ v1.ownBlock = some W.heap.size) → K (a.put o.dst v1) w1) :
    Oper.wp Tryd.prog o a W K Q := by
  obtain ⟨i0, hi, hz0, hz1, hz2⟩ := info_field
  obtain ⟨v', w', hr, h2, h3, h4, h5⟩ := run_append_own_at (P := Tryd.prog) W base 27 o.type 30 i0 _ 2 32 Tryd.underlying27 hi hz0 hz1 hz2 rfl (by decide) v l.length (flatF l) (own_of_fields HO) ad m.length c (flatF m) (flatF_len m) hnews (flatF_one m) (by unfold maxLen; omega) (by omega) hbase
  unfold Oper.wp execOp
  simp only [ho, resolve, invoke, builtin, Sem.run_bind, Sem.run_pure, Result.andThen_ok, List.map_toArray, List.map_cons, List.map_nil, hs, hx, hr]
  exact h v' w' (R_of_row (by rw [List.length_append, flatF_append]; exact h2)) h3 h5
theorem Clone_calls (A : Option Addr) (c : Nat) (l : List (S30)) (w : World) (hC : Kd.C k30 w A l.length l) (hl : l.length ≤ 1000000000) :
    Calls Tryd.prog 57 #[.slice A l.length c] w fun e w' => ∃ v, e = .returned v ∧ Kd.R k30 30 w' w.heap.size (fun _ => True) v l ∧ Below w.heap.size w w' := by
  cases A with
  | none =>
    have hnil : l = [] := by
      by_cases h0 : 0 < l.length
      · obtain ⟨ad, e, _⟩ := hC.2.2 h0
        cases e
      · exact List.eq_nil_of_length_eq_zero (by omega)
    subst hnil
    refine (Clone_none _ c w).mono ?_
    rintro e w1 ⟨rfl, rfl⟩
    exact ⟨_, rfl, Kd.R_nil _ _ _ _ _, Below.refl _ _⟩
  | some ad =>
    refine (Clone_some ad c l w hC hl).mono ?_
    rintro e w1 ⟨v, rfl, h1, _, h2⟩
    exact ⟨_, rfl, h1, h2⟩
end Go.Proofs.YtoikneogdbdplaaDoor.Fn
