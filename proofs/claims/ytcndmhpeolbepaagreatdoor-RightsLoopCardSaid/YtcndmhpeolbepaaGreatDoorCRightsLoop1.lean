/- A part of the proof of this sentence: A post that bears the list's id is refused -/
import Derived.Test.YtcndmhpeolbepaaGreatDoorProg
import Derived.Below
import Derived.Deep.Draws
import Derived.Deep.AppendLies
import Derived.Maps.AppendAt
import Derived.OwnWalk
import Derived.Laws.BytesArg
import Derived.Laws.MakeOwn
import Derived.Laws.OwnMore
import Derived.Deep.OwnRows
import Derived.Tactics
import Derived.Lib.ConvBytes
import Derived.Laws.Slices
import Derived.WalkKit
import Derived.KernelRfl
import Derived.RowKit3
import Derived.Deep.LoopGhost
import Derived.Deep.QuietTactic
import Derived.BigQuiet
import Derived.WideLaws
import Derived.Deep.DeepCutAuto
import Derived.Deep.CutBlock
import Derived.Deep.RegionHeld3
import Derived.Laws.Rows
import Derived.Lib.AppendStr
import Derived.ArgAppend
import Derived.Laws.IdiomCopy
import Derived.OrdersHeld
import Derived.Laws.BitsLemmas
import Derived.RowKit
import Derived.Test.YtcndmhpeolbepaaGreatDoorCRightsLoopWWords
import Derived.Test.YtcndmhpeolbepaaGreatDoorCRightsLoopWLast
import Derived.Test.YtcndmhpeolbepaaGreatDoorCRightsLoopWTab
import Derived.Test.YtcndmhpeolbepaaGreatDoorCRightsLoopWFour
import Derived.Test.YtcndmhpeolbepaaGreatDoorCRightsLoopWQPut
import Derived.Test.YtcndmhpeolbepaaGreatDoorCRightsLoopWApart
import Derived.Test.YtcndmhpeolbepaaGreatDoorCRightsLoopWArr
import Derived.Test.YtcndmhpeolbepaaGreatDoorCRightsLoopWZeros
import Derived.Test.YtcndmhpeolbepaaGreatDoorCRightsLoopWFoot
import Derived.Test.YtcndmhpeolbepaaGreatDoorCRightsLoopWKept
import Derived.Test.YtcndmhpeolbepaaGreatDoorCRightsLoopWShare
import Derived.Test.YtcndmhpeolbepaaGreatDoorCRightsLoopWN
import Derived.Test.YtcndmhpeolbepaaGreatDoorCRightsLoopWFootNe
import Derived.Test.YtcndmhpeolbepaaGreatDoorCRightsLoopWAt
import Derived.Test.YtcndmhpeolbepaaGreatDoorCRightsLoopWEqStruct
import Derived.Test.YtcndmhpeolbepaaGreatDoorCRightsLoopWRepsOne
import Derived.Test.YtcndmhpeolbepaaGreatDoorCRightsLoopWInv
import Derived.Test.YtcndmhpeolbepaaGreatDoorCRightsLoopWInvWords
import Derived.Test.YtcndmhpeolbepaaGreatDoorCRightsLoopWGuard
import Derived.Test.YtcndmhpeolbepaaGreatDoorCRightsLoopWNEv
import Derived.Test.YtcndmhpeolbepaaGreatDoorCRightsLoopWMore
namespace Go.Proofs.YtcndmhpeolbepaaGreatDoor.Fn
def bitsL (n m : Nat) : Array Bool := ((List.range n).map m.testBit).toArray
end Go.Proofs.YtcndmhpeolbepaaGreatDoor.Fn
namespace Go.Proofs.YtcndmhpeolbepaaGreatDoor.Fn
open Go.RowKit Go.Proofs.YtcndmhpeolbepaaGreatDoorW.PrintWords
theorem sa_ {α : Type} (l : List α) (i : Nat) (a : α) : l.toArray.setIfInBounds i a = (l.set i a).toArray := List.setIfInBounds_toArray ..
theorem sz_ {α : Type} (a b : α) (l : List α) : (a :: l).set 0 b = b :: l := rfl
theorem ss_ {α : Type} (a b : α) (l : List α) (n : Nat) : (a :: l).set (n + 1) b = a :: l.set n b := rfl
theorem hbc {w W : World} {p : Addr} {v : Value} (h : Aside0 (Below w.heap.size w W)) (q : w.cell? p = some v) : W.cell? p = some v := (h.out.cell (World.block_lt_of_cell? w _ q)).trans q
theorem ce2 {w : World} {g t : Nat} {v0 v1 : Value} (h : Aside0 (w.heap[g]? = some (.cells #[v0, v1] t (0, 0)))) : w.cell? ⟨g, 0, none⟩ = some v0 ∧ w.cell? ⟨g, 1, none⟩ = some v1 := ⟨(blk_cell h.out 0).trans rfl, (blk_cell h.out 1).trans rfl⟩
theorem ce3 {w : World} {g t : Nat} {v0 v1 v2 : Value} (h : Aside0 (w.heap[g]? = some (.cells #[v0, v1, v2] t (0, 0)))) : w.cell? ⟨g, 0, none⟩ = some v0 ∧ w.cell? ⟨g, 1, none⟩ = some v1 ∧ w.cell? ⟨g, 2, none⟩ = some v2 := ⟨(blk_cell h.out 0).trans rfl, (blk_cell h.out 1).trans rfl, (blk_cell h.out 2).trans rfl⟩
theorem ce5 {w : World} {g t : Nat} {v0 v1 v2 v3 v4 : Value} (h : Aside0 (w.heap[g]? = some (.cells #[v0, v1, v2, v3, v4] t (0, 0)))) : w.cell? ⟨g, 0, none⟩ = some v0 ∧ w.cell? ⟨g, 1, none⟩ = some v1 ∧ w.cell? ⟨g, 2, none⟩ = some v2 ∧ w.cell? ⟨g, 3, none⟩ = some v3 ∧ w.cell? ⟨g, 4, none⟩ = some v4 := ⟨(blk_cell h.out 0).trans rfl, (blk_cell h.out 1).trans rfl, (blk_cell h.out 2).trans rfl, (blk_cell h.out 3).trans rfl, (blk_cell h.out 4).trans rfl⟩
theorem ce9 {w : World} {g t : Nat} {v0 v1 v2 v3 v4 v5 v6 v7 v8 : Value} (h : Aside0 (w.heap[g]? = some (.cells #[v0, v1, v2, v3, v4, v5, v6, v7, v8] t (0, 0)))) : w.cell? ⟨g, 0, none⟩ = some v0 ∧ w.cell? ⟨g, 1, none⟩ = some v1 ∧ w.cell? ⟨g, 2, none⟩ = some v2 ∧ w.cell? ⟨g, 3, none⟩ = some v3 ∧ w.cell? ⟨g, 4, none⟩ = some v4 ∧ w.cell? ⟨g, 5, none⟩ = some v5 ∧ w.cell? ⟨g, 6, none⟩ = some v6 ∧ w.cell? ⟨g, 7, none⟩ = some v7 ∧ w.cell? ⟨g, 8, none⟩ = some v8 := ⟨(blk_cell h.out 0).trans rfl, (blk_cell h.out 1).trans rfl, (blk_cell h.out 2).trans rfl, (blk_cell h.out 3).trans rfl, (blk_cell h.out 4).trans rfl, (blk_cell h.out 5).trans rfl, (blk_cell h.out 6).trans rfl, (blk_cell h.out 7).trans rfl, (blk_cell h.out 8).trans rfl⟩
theorem fz2 {w : World} {g t : Nat} {cs : Array Value} (h : Aside0 (w.heap[g]? = some (.cells cs t (0, 0)))) : w.frozen? ⟨g, 0, none⟩ = false ∧ w.frozen? ⟨g, 1, none⟩ = false := ⟨blk_frozen h.out 0, blk_frozen h.out 1⟩
theorem fz3 {w : World} {g t : Nat} {cs : Array Value} (h : Aside0 (w.heap[g]? = some (.cells cs t (0, 0)))) : w.frozen? ⟨g, 0, none⟩ = false ∧ w.frozen? ⟨g, 1, none⟩ = false ∧ w.frozen? ⟨g, 2, none⟩ = false := ⟨blk_frozen h.out 0, blk_frozen h.out 1, blk_frozen h.out 2⟩
theorem fz5 {w : World} {g t : Nat} {cs : Array Value} (h : Aside0 (w.heap[g]? = some (.cells cs t (0, 0)))) : w.frozen? ⟨g, 0, none⟩ = false ∧ w.frozen? ⟨g, 1, none⟩ = false ∧ w.frozen? ⟨g, 2, none⟩ = false ∧ w.frozen? ⟨g, 3, none⟩ = false ∧ w.frozen? ⟨g, 4, none⟩ = false := ⟨blk_frozen h.out 0, blk_frozen h.out 1, blk_frozen h.out 2, blk_frozen h.out 3, blk_frozen h.out 4⟩
theorem fz9 {w : World} {g t : Nat} {cs : Array Value} (h : Aside0 (w.heap[g]? = some (.cells cs t (0, 0)))) : w.frozen? ⟨g, 0, none⟩ = false ∧ w.frozen? ⟨g, 1, none⟩ = false ∧ w.frozen? ⟨g, 2, none⟩ = false ∧ w.frozen? ⟨g, 3, none⟩ = false ∧ w.frozen? ⟨g, 4, none⟩ = false ∧ w.frozen? ⟨g, 5, none⟩ = false ∧ w.frozen? ⟨g, 6, none⟩ = false ∧ w.frozen? ⟨g, 7, none⟩ = false ∧ w.frozen? ⟨g, 8, none⟩ = false := ⟨blk_frozen h.out 0, blk_frozen h.out 1, blk_frozen h.out 2, blk_frozen h.out 3, blk_frozen h.out 4, blk_frozen h.out 5, blk_frozen h.out 6, blk_frozen h.out 7, blk_frozen h.out 8⟩
end Go.Proofs.YtcndmhpeolbepaaGreatDoor.Fn
set_option linter.unusedVariables false
set_option linter.unusedSimpArgs false
set_option maxHeartbeats 8000000
open Go.RowKit Go.Proofs.YtcndmhpeolbepaaGreatDoorW.PrintWords Go.Proofs.YtcndmhpeolbepaaGreatDoorW.PrintLast Go.Proofs.YtcndmhpeolbepaaGreatDoorW.PrintMore
-- written by xprint.py of this session over the kit's printer; not trusted: Lean checks it
namespace Go.Proofs.YtcndmhpeolbepaaGreatDoor.Fn
open Go.RowKit Go.Proofs.YtcndmhpeolbepaaGreatDoorW.PrintWords Go.Proofs.YtcndmhpeolbepaaGreatDoorW.PrintLast Go.Proofs.YtcndmhpeolbepaaGreatDoorW.PrintMore
attribute [local go_sem] max2_int min2_int max_two min_two max_three min_three max_four min_four   -- for this text's walks alone
set_option linter.unusedVariables false
set_option linter.unusedSimpArgs false

def errW : Option Int → Value
 | none => .nilIface
 | some c => .iface 0 (.int .i64 c)
theorem errW_none : errW none = .nilIface := rfl
theorem errW_some (c : Int) : errW (some c) = .iface 0 (.int .i64 c) := rfl

theorem u8_w (n : Int) : IntKind.u8.wrap n = n % 256 := by simp [IntKind.wrap, IntKind.bits, IntKind.signed]
theorem i64w_ (n : Int) : IntKind.i64.wrap n = wrap64 n := by unfold wrap64; exact IntKind.wrap_i64 n
theorem nil_ne (l : List UInt8) : l.isEmpty = !(l != []) := by cases l <;> simp
theorem start_conv {P : Program} {ops : Array Oper} {Q : Exit → Act → World → Prop} {ds : List Nat} {s t : TypeId} {v x : Value} {id n : Nat} {a : Act} {w : World} (l : Array Bool) (hm : P.follows .mixedOrders = true) (hn : ops.size = n) (hl : Array.replicate n false = l) (hS : (convert s t v).run P w.drew = .ok x w.drew)
  (h : (convert s t v).run P w.drew = .ok x w.drew → wpAnyLast P .any ops Q (fun w' => (convert s t v).run P w' = .ok x w') ds n l a w.drew) : (Code.region id ops true).wp P Q a w := start_ (S := fun w' => (convert s t v).run P w' = .ok x w') l hm hn hl hS h
theorem size_lit (a : Array UInt8) : (ByteArray.mk a).size = a.size := rfl

theorem info5 : (Tryz.prog.info? 5).map (fun i => (i.zero, i.size, i.bytes)) = some (some (.int .u8 0), 1, 1) := by kernel_rfl
theorem info9 : (Tryz.prog.info? 9).map (fun i => (i.zero, i.size, i.bytes)) = some (some (.string ⟨#[]⟩), 1, 16) := by kernel_rfl
theorem info30 : (Tryz.prog.info? 30).map (fun i => (i.zero, i.size, i.bytes)) = some (some (.agg #[(.string ⟨#[]⟩), (.string ⟨#[]⟩)]), 2, 32) := by kernel_rfl
theorem info54 : (Tryz.prog.info? 54).map (fun i => (i.zero, i.size, i.bytes)) = some (some (.agg #[(.string ⟨#[]⟩), (.string ⟨#[]⟩)]), 2, 32) := by kernel_rfl
theorem info194 : (Tryz.prog.info? 194).map (fun i => (i.zero, i.size, i.bytes)) = some (some (.agg #[(.int .i64 0), (.string ⟨#[]⟩)]), 2, 24) := by kernel_rfl
-- the values' own types
/-! #### struct type 54 -/
structure S54 where
 f0 : ByteArray
 f1 : ByteArray
def z54 : S54 := ⟨(⟨#[]⟩ : ByteArray), (⟨#[]⟩ : ByteArray)⟩
def k54 : Kd S54 := Kd.iso (Kd.pair Kd.string Kd.string) (fun x : S54 => (x.f0, x.f1))
theorem k54_open {w : World} {x : S54} {cs : List Value} (h : k54.K w x cs) : cs = [.string x.f0, .string x.f1] := by
 obtain ⟨_, _, rfl, rfl, rfl⟩ := h
 exact rfl
theorem k54_mkM (w : World) (base : Nat) (ok : Nat → Prop) (x : S54)  : k54.M w base ok x [.string x.f0, .string x.f1] := ⟨[.string x.f0], [.string x.f1], rfl, rfl, rfl⟩
def rd_T54 (xs : List S54) (i : Int) : S54 := xs.getD i.toNat z54
theorem at_T54 {w : World} {A : Option Addr} {n : Nat} {xs : List S54} (h : Kd.C k54 w A n xs) (i : Int) (h0 : 0 ≤ i) (h1 : i < n) : ∃ ad , A = some ad ∧ w.cell? (ad.add (i.toNat * 2)) = some (.string (rd_T54 xs i).f0) ∧ w.cell? ⟨(ad.add (i.toNat * 2)).block, (ad.add (i.toNat * 2)).off + 1, none⟩ = some (.string (rd_T54 xs i).f1) := by
 obtain ⟨ad, c, e, _, hK, hc0⟩ := Kd.C_get h z54 i h0 h1
 have hc : ∀ j u, c[j]? = some u → w.cell? (ad.add (i.toNat * 2 + j)) = some u := hc0
 obtain rfl := k54_open hK
 exact ⟨ad, e, hc 0 _ rfl, by rw [← add_field _ _ 1 (by omega)]; exact hc 1 _ rfl⟩

/-! #### struct type 66 -/
structure S66 where
 f0 : ByteArray
 f1 : ByteArray
def z66 : S66 := ⟨(⟨#[]⟩ : ByteArray), (⟨#[]⟩ : ByteArray)⟩
def k66 : Kd S66 := Kd.iso (Kd.pair Kd.string Kd.string) (fun x : S66 => (x.f0, x.f1))
theorem k66_open {w : World} {x : S66} {cs : List Value} (h : k66.K w x cs) : cs = [.string x.f0, .string x.f1] := by
 obtain ⟨_, _, rfl, rfl, rfl⟩ := h
 exact rfl
theorem k66_mk (w : World) (x : S66)  : k66.K w x [.string x.f0, .string x.f1] := ⟨[.string x.f0], [.string x.f1], rfl, rfl, rfl⟩
def rd_T66 (xs : List S66) (i : Int) : S66 := xs.getD i.toNat z66
theorem at_T66 {w : World} {A : Option Addr} {n : Nat} {xs : List S66} (h : Kd.C k66 w A n xs) (i : Int) (h0 : 0 ≤ i) (h1 : i < n) : ∃ ad , A = some ad ∧ w.cell? (ad.add (i.toNat * 2)) = some (.string (rd_T66 xs i).f0) ∧ w.cell? ⟨(ad.add (i.toNat * 2)).block, (ad.add (i.toNat * 2)).off + 1, none⟩ = some (.string (rd_T66 xs i).f1) := by
 obtain ⟨ad, c, e, _, hK, hc0⟩ := Kd.C_get h z66 i h0 h1
 have hc : ∀ j u, c[j]? = some u → w.cell? (ad.add (i.toNat * 2 + j)) = some u := hc0
 obtain rfl := k66_open hK
 exact ⟨ad, e, hc 0 _ rfl, by rw [← add_field _ _ 1 (by omega)]; exact hc 1 _ rfl⟩

/-! #### struct type 23 -/
structure S23 where
 f0 : ByteArray
 f1 : ByteArray
def z23 : S23 := ⟨(⟨#[]⟩ : ByteArray), (⟨#[]⟩ : ByteArray)⟩
def k23 : Kd S23 := Kd.iso (Kd.pair Kd.string Kd.string) (fun x : S23 => (x.f0, x.f1))
theorem k23_heap : Kd.Heap k23 := Kd.heap_iso _ (Kd.heap_pair Kd.heap_string Kd.heap_string)
theorem k23_open {w : World} {x : S23} {cs : List Value} (h : k23.K w x cs) : cs = [.string x.f0, .string x.f1] := by
 obtain ⟨_, _, rfl, rfl, rfl⟩ := h
 exact rfl
theorem k23_mk (w : World) (x : S23)  : k23.K w x [.string x.f0, .string x.f1] := ⟨[.string x.f0], [.string x.f1], rfl, rfl, rfl⟩
def rd_T23 (xs : List S23) (i : Int) : S23 := xs.getD i.toNat z23
theorem at_T23 {w : World} {A : Option Addr} {n : Nat} {xs : List S23} (h : Kd.C k23 w A n xs) (i : Int) (h0 : 0 ≤ i) (h1 : i < n) : ∃ ad , A = some ad ∧ w.cell? (ad.add (i.toNat * 2)) = some (.string (rd_T23 xs i).f0) ∧ w.cell? ⟨(ad.add (i.toNat * 2)).block, (ad.add (i.toNat * 2)).off + 1, none⟩ = some (.string (rd_T23 xs i).f1) := by
 obtain ⟨ad, c, e, _, hK, hc0⟩ := Kd.C_get h z23 i h0 h1
 have hc : ∀ j u, c[j]? = some u → w.cell? (ad.add (i.toNat * 2 + j)) = some u := hc0
 obtain rfl := k23_open hK
 exact ⟨ad, e, hc 0 _ rfl, by rw [← add_field _ _ 1 (by omega)]; exact hc 1 _ rfl⟩

/-! #### struct type 30 -/
structure S30 where
 f0 : ByteArray
 f1 : ByteArray
def z30 : S30 := ⟨(⟨#[]⟩ : ByteArray), (⟨#[]⟩ : ByteArray)⟩
def k30 : Kd S30 := Kd.iso (Kd.pair Kd.string Kd.string) (fun x : S30 => (x.f0, x.f1))
theorem k30_open {w : World} {x : S30} {cs : List Value} (h : k30.K w x cs) : cs = [.string x.f0, .string x.f1] := by
 obtain ⟨_, _, rfl, rfl, rfl⟩ := h
 exact rfl
theorem k30_mkM (w : World) (base : Nat) (ok : Nat → Prop) (x : S30)  : k30.M w base ok x [.string x.f0, .string x.f1] := ⟨[.string x.f0], [.string x.f1], rfl, rfl, rfl⟩
def rd_T30 (xs : List S30) (i : Int) : S30 := xs.getD i.toNat z30
theorem at_T30 {w : World} {A : Option Addr} {n : Nat} {xs : List S30} (h : Kd.C k30 w A n xs) (i : Int) (h0 : 0 ≤ i) (h1 : i < n) : ∃ ad , A = some ad ∧ w.cell? (ad.add (i.toNat * 2)) = some (.string (rd_T30 xs i).f0) ∧ w.cell? ⟨(ad.add (i.toNat * 2)).block, (ad.add (i.toNat * 2)).off + 1, none⟩ = some (.string (rd_T30 xs i).f1) := by
 obtain ⟨ad, c, e, _, hK, hc0⟩ := Kd.C_get h z30 i h0 h1
 have hc : ∀ j u, c[j]? = some u → w.cell? (ad.add (i.toNat * 2 + j)) = some u := hc0
 obtain rfl := k30_open hK
 exact ⟨ad, e, hc 0 _ rfl, by rw [← add_field _ _ 1 (by omega)]; exact hc 1 _ rfl⟩

/-! #### struct type 194 -/
structure S194 where
 f0 : Int
 f1 : ByteArray
def z194 : S194 := ⟨(0 : Int), (⟨#[]⟩ : ByteArray)⟩
def k194 : Kd S194 := Kd.iso (Kd.pair (Kd.int .i64) Kd.string) (fun x : S194 => (x.f0, x.f1))
theorem k194_heap : Kd.Heap k194 := Kd.heap_iso _ (Kd.heap_pair (Kd.heap_int .i64) Kd.heap_string)
theorem k194_open {w : World} {x : S194} {cs : List Value} (h : k194.K w x cs) : cs = [.int .i64 x.f0, .string x.f1] := by
 obtain ⟨_, _, rfl, rfl, rfl⟩ := h
 exact rfl
theorem k194_mkM (w : World) (base : Nat) (ok : Nat → Prop) (x : S194)  : k194.M w base ok x [.int .i64 x.f0, .string x.f1] := ⟨[.int .i64 x.f0], [.string x.f1], rfl, rfl, rfl⟩
def rd_T194 (xs : List S194) (i : Int) : S194 := xs.getD i.toNat z194
theorem at_T194 {w : World} {A : Option Addr} {n : Nat} {xs : List S194} (h : Kd.C k194 w A n xs) (i : Int) (h0 : 0 ≤ i) (h1 : i < n) : ∃ ad , A = some ad ∧ w.cell? (ad.add (i.toNat * 2)) = some (.int .i64 (rd_T194 xs i).f0) ∧ w.cell? ⟨(ad.add (i.toNat * 2)).block, (ad.add (i.toNat * 2)).off + 1, none⟩ = some (.string (rd_T194 xs i).f1) := by
 obtain ⟨ad, c, e, _, hK, hc0⟩ := Kd.C_get h z194 i h0 h1
 have hc : ∀ j u, c[j]? = some u → w.cell? (ad.add (i.toNat * 2 + j)) = some u := hc0
 obtain rfl := k194_open hK
 exact ⟨ad, e, hc 0 _ rfl, by rw [← add_field _ _ 1 (by omega)]; exact hc 1 _ rfl⟩

/-! #### struct type 91 -/
structure S91 where
 f0 : ByteArray
 f1 : S30
def z91 : S91 := ⟨(⟨#[]⟩ : ByteArray), z30⟩
def k91 : Kd S91 := Kd.iso (Kd.pair Kd.string k30) (fun x : S91 => (x.f0, x.f1))
theorem k91_open {w : World} {x : S91} {cs : List Value} (h : k91.K w x cs) : cs = [.string x.f0, .string x.f1.f0, .string x.f1.f1] := by
 obtain ⟨_, _, rfl, rfl, s1⟩ := h
 obtain rfl := k30_open s1
 exact rfl
theorem k91_mkM (w : World) (base : Nat) (ok : Nat → Prop) (x : S91)  : k91.M w base ok x [.string x.f0, .string x.f1.f0, .string x.f1.f1] := ⟨[.string x.f0], [.string x.f1.f0, .string x.f1.f1], rfl, rfl, (k30_mkM w base ok x.f1 )⟩
def rd_T91 (xs : List S91) (i : Int) : S91 := xs.getD i.toNat z91
theorem at_T91 {w : World} {A : Option Addr} {n : Nat} {xs : List S91} (h : Kd.C k91 w A n xs) (i : Int) (h0 : 0 ≤ i) (h1 : i < n) : ∃ ad , A = some ad ∧ w.cell? (ad.add (i.toNat * 3)) = some (.string (rd_T91 xs i).f0) ∧ w.cell? ⟨(ad.add (i.toNat * 3)).block, (ad.add (i.toNat * 3)).off + 1, none⟩ = some (.string (rd_T91 xs i).f1.f0) ∧ w.cell? ⟨(ad.add (i.toNat * 3)).block, (ad.add (i.toNat * 3)).off + 2, none⟩ = some (.string (rd_T91 xs i).f1.f1) := by
 obtain ⟨ad, c, e, _, hK, hc0⟩ := Kd.C_get h z91 i h0 h1
 have hc : ∀ j u, c[j]? = some u → w.cell? (ad.add (i.toNat * 3 + j)) = some u := hc0
 obtain rfl := k91_open hK
 exact ⟨ad, e, hc 0 _ rfl, by rw [← add_field _ _ 1 (by omega)]; exact hc 1 _ rfl, by rw [← add_field _ _ 2 (by omega)]; exact hc 2 _ rfl⟩

/-! #### struct type 39 -/
structure S39 where
 f0 : ByteArray
 f1 : ByteArray
 f2 : Int
 f3 : (List S23)
 f4 : (List S23)
 f5 : (List S23)
 f6 : Int
 f7 : Int
 f8 : Bool
def z39 : S39 := ⟨(⟨#[]⟩ : ByteArray), (⟨#[]⟩ : ByteArray), (0 : Int), ([] : List S23), ([] : List S23), ([] : List S23), (0 : Int), (0 : Int), false⟩
def k39 : Kd S39 := Kd.iso (Kd.pair Kd.string (Kd.pair Kd.string (Kd.pair (Kd.int .i64) (Kd.pair (Kd.slice 23 k23) (Kd.pair (Kd.slice 23 k23) (Kd.pair (Kd.slice 23 k23) (Kd.pair (Kd.int .i64) (Kd.pair (Kd.int .i64) Kd.bool)))))))) (fun x : S39 => (x.f0, x.f1, x.f2, x.f3, x.f4, x.f5, x.f6, x.f7, x.f8))
theorem k39_open {w : World} {x : S39} {cs : List Value} (h : k39.K w x cs) : ∃ A3 c3 A4 c4 A5 c5, cs = [.string x.f0, .string x.f1, .int .i64 x.f2, .slice A3 x.f3.length c3, .slice A4 x.f4.length c4, .slice A5 x.f5.length c5, .int .i64 x.f6, .int .i64 x.f7, .bool x.f8] ∧ x.f3.length ≤ c3 ∧ k23.C w A3 x.f3.length x.f3 ∧ x.f4.length ≤ c4 ∧ k23.C w A4 x.f4.length x.f4 ∧ x.f5.length ≤ c5 ∧ k23.C w A5 x.f5.length x.f5 := by
 obtain ⟨_, _, rfl, rfl, ⟨_, _, rfl, rfl, ⟨_, _, rfl, rfl, ⟨_, _, rfl, ⟨A3, c3, rfl, l3, g3⟩, ⟨_, _, rfl, ⟨A4, c4, rfl, l4, g4⟩, ⟨_, _, rfl, ⟨A5, c5, rfl, l5, g5⟩, ⟨_, _, rfl, rfl, ⟨_, _, rfl, rfl, rfl⟩⟩⟩⟩⟩⟩⟩⟩ := h
 exact ⟨A3, c3, A4, c4, A5, c5, rfl, l3, g3, l4, g4, l5, g5⟩
theorem k39_mk (w : World) (x : S39) {A3 : Option Addr} {c3 : Nat} (l3 : x.f3.length ≤ c3) (g3 : k23.C w A3 x.f3.length x.f3) {A4 : Option Addr} {c4 : Nat} (l4 : x.f4.length ≤ c4) (g4 : k23.C w A4 x.f4.length x.f4) {A5 : Option Addr} {c5 : Nat} (l5 : x.f5.length ≤ c5) (g5 : k23.C w A5 x.f5.length x.f5) : k39.K w x [.string x.f0, .string x.f1, .int .i64 x.f2, .slice A3 x.f3.length c3, .slice A4 x.f4.length c4, .slice A5 x.f5.length c5, .int .i64 x.f6, .int .i64 x.f7, .bool x.f8] := ⟨[.string x.f0], [.string x.f1, .int .i64 x.f2, .slice A3 x.f3.length c3, .slice A4 x.f4.length c4, .slice A5 x.f5.length c5, .int .i64 x.f6, .int .i64 x.f7, .bool x.f8], rfl, rfl, ⟨[.string x.f1], [.int .i64 x.f2, .slice A3 x.f3.length c3, .slice A4 x.f4.length c4, .slice A5 x.f5.length c5, .int .i64 x.f6, .int .i64 x.f7, .bool x.f8], rfl, rfl, ⟨[.int .i64 x.f2], [.slice A3 x.f3.length c3, .slice A4 x.f4.length c4, .slice A5 x.f5.length c5, .int .i64 x.f6, .int .i64 x.f7, .bool x.f8], rfl, rfl, ⟨[.slice A3 x.f3.length c3], [.slice A4 x.f4.length c4, .slice A5 x.f5.length c5, .int .i64 x.f6, .int .i64 x.f7, .bool x.f8], rfl, ⟨A3, c3, rfl, l3, g3⟩, ⟨[.slice A4 x.f4.length c4], [.slice A5 x.f5.length c5, .int .i64 x.f6, .int .i64 x.f7, .bool x.f8], rfl, ⟨A4, c4, rfl, l4, g4⟩, ⟨[.slice A5 x.f5.length c5], [.int .i64 x.f6, .int .i64 x.f7, .bool x.f8], rfl, ⟨A5, c5, rfl, l5, g5⟩, ⟨[.int .i64 x.f6], [.int .i64 x.f7, .bool x.f8], rfl, rfl, ⟨[.int .i64 x.f7], [.bool x.f8], rfl, rfl, rfl⟩⟩⟩⟩⟩⟩⟩⟩
theorem k39_mkF (W : World) (ok : Nat → Prop) (x : S39) {A3 : Option Addr} {c3 : Nat} (l3 : x.f3.length ≤ c3) (g3 : Kd.F k23 W ok A3 x.f3.length x.f3) {A4 : Option Addr} {c4 : Nat} (l4 : x.f4.length ≤ c4) (g4 : Kd.F k23 W ok A4 x.f4.length x.f4) {A5 : Option Addr} {c5 : Nat} (l5 : x.f5.length ≤ c5) (g5 : Kd.F k23 W ok A5 x.f5.length x.f5) : Kd.FK k39 W ok x [.string x.f0, .string x.f1, .int .i64 x.f2, .slice A3 x.f3.length c3, .slice A4 x.f4.length c4, .slice A5 x.f5.length c5, .int .i64 x.f6, .int .i64 x.f7, .bool x.f8] := fun W2 hW => k39_mk W2 x l3 (g3 W2 hW) l4 (g4 W2 hW) l5 (g5 W2 hW)
def rd_T39 (xs : List S39) (i : Int) : S39 := xs.getD i.toNat z39
theorem at_T39 {w : World} {A : Option Addr} {n : Nat} {xs : List S39} (h : Kd.C k39 w A n xs) (i : Int) (h0 : 0 ≤ i) (h1 : i < n) : ∃ ad A3 c3 A4 c4 A5 c5, A = some ad ∧ w.cell? (ad.add (i.toNat * 9)) = some (.string (rd_T39 xs i).f0) ∧ w.cell? ⟨(ad.add (i.toNat * 9)).block, (ad.add (i.toNat * 9)).off + 1, none⟩ = some (.string (rd_T39 xs i).f1) ∧ w.cell? ⟨(ad.add (i.toNat * 9)).block, (ad.add (i.toNat * 9)).off + 2, none⟩ = some (.int .i64 (rd_T39 xs i).f2) ∧ w.cell? ⟨(ad.add (i.toNat * 9)).block, (ad.add (i.toNat * 9)).off + 3, none⟩ = some (.slice A3 (rd_T39 xs i).f3.length c3) ∧ w.cell? ⟨(ad.add (i.toNat * 9)).block, (ad.add (i.toNat * 9)).off + 4, none⟩ = some (.slice A4 (rd_T39 xs i).f4.length c4) ∧ w.cell? ⟨(ad.add (i.toNat * 9)).block, (ad.add (i.toNat * 9)).off + 5, none⟩ = some (.slice A5 (rd_T39 xs i).f5.length c5) ∧ w.cell? ⟨(ad.add (i.toNat * 9)).block, (ad.add (i.toNat * 9)).off + 6, none⟩ = some (.int .i64 (rd_T39 xs i).f6) ∧ w.cell? ⟨(ad.add (i.toNat * 9)).block, (ad.add (i.toNat * 9)).off + 7, none⟩ = some (.int .i64 (rd_T39 xs i).f7) ∧ w.cell? ⟨(ad.add (i.toNat * 9)).block, (ad.add (i.toNat * 9)).off + 8, none⟩ = some (.bool (rd_T39 xs i).f8) ∧ (rd_T39 xs i).f3.length ≤ c3 ∧ k23.C w A3 (rd_T39 xs i).f3.length (rd_T39 xs i).f3 ∧ (rd_T39 xs i).f4.length ≤ c4 ∧ k23.C w A4 (rd_T39 xs i).f4.length (rd_T39 xs i).f4 ∧ (rd_T39 xs i).f5.length ≤ c5 ∧ k23.C w A5 (rd_T39 xs i).f5.length (rd_T39 xs i).f5 := by
 obtain ⟨ad, c, e, _, hK, hc0⟩ := Kd.C_get h z39 i h0 h1
 have hc : ∀ j u, c[j]? = some u → w.cell? (ad.add (i.toNat * 9 + j)) = some u := hc0
 obtain ⟨A3, c3, A4, c4, A5, c5, rfl, l3, g3, l4, g4, l5, g5⟩ := k39_open hK
 exact ⟨ad, A3, c3, A4, c4, A5, c5, e, hc 0 _ rfl, by rw [← add_field _ _ 1 (by omega)]; exact hc 1 _ rfl, by rw [← add_field _ _ 2 (by omega)]; exact hc 2 _ rfl, by rw [← add_field _ _ 3 (by omega)]; exact hc 3 _ rfl, by rw [← add_field _ _ 4 (by omega)]; exact hc 4 _ rfl, by rw [← add_field _ _ 5 (by omega)]; exact hc 5 _ rfl, by rw [← add_field _ _ 6 (by omega)]; exact hc 6 _ rfl, by rw [← add_field _ _ 7 (by omega)]; exact hc 7 _ rfl, by rw [← add_field _ _ 8 (by omega)]; exact hc 8 _ rfl, l3, g3, l4, g4, l5, g5⟩

theorem bw {p : Prop} (h : p := by repeat (first | (with_reducible first | exact HB.out | apply below_alloc | apply pw_below_drewN | apply below_drew1) | exact HB.out)) : p := h
theorem bwS {p : Prop} (h : p := by repeat (first | (with_reducible first | exact HB.out | apply below_alloc | apply pw_below_drewN | apply below_drew1 | refine below_set ?_ (Aside0.out (by assumption))) | exact HB.out)) : p := h
theorem am {p : Prop} (h : p := by (try simp only [List.map_toArray, List.map_cons, List.map_nil]); first | done | rfl | (simp only [List.length_drop, List.length_take]; rfl)) : p := h
theorem cl {p : Prop} (h : p := by first | rfl | (simp; done) | (simp [*]; done) | (simp [nil_ne]; done) | (simp [u8_w, i64w_]; done) | (simp [size_lit]; done) | (simp; unfold wrap64; omega)) : p := h
theorem bk {p : Prop} (h : p := by (with_reducible repeat (first | refine blk_drewN ?_ _ | refine blk_drew ?_ | refine blk_alloc ?_ _)); exact Aside0.out (by assumption)) : p := h
theorem od {p : Prop} [Decidable p] (h : decide p = true := by first | (with_reducible assumption) | assumption) : p := of_decide_eq_true h
theorem ra {q p : Prop} (hq : q) (h : q → p := by intro hq; (with_reducible repeat (first | apply Kd.R_alloc | apply Kd.R_drewN | apply Kd.R_drew)); exact hq) : p := h hq
theorem sa {q p : Prop} (hq : q) (h : q → p := by intro hq; (with_reducible repeat (first | apply Kd.S_alloc | apply Kd.S_drewN | apply Kd.S_drew)); exact hq) : p := h hq
theorem d0 {p : Prop} (h : p := by repeat (first | exact Drawn0.refl _ | apply Drawn0.step)) : p := h
theorem ew {p : Prop} (h : p := by first | rfl | (simp [errW_none, errW_some] <;> rfl) | (simp [*, errW_none, errW_some] <;> rfl)) : p := h
theorem nft : ¬ (false = true) := by decide
theorem bk2 {w : World} {g : Nat} {t : TypeId} {a b : Value} (h : w.heap[g]? = some (.cells #[a, b] t (0, 0))) : w.cell? ⟨g, 0, none⟩ = some a ∧ w.cell? ⟨g, 1, none⟩ = some b ∧ w.frozen? ⟨g, 0, none⟩ = false ∧ w.frozen? ⟨g, 1, none⟩ = false := ⟨(blk_cell h 0).trans rfl, (blk_cell h 1).trans rfl, blk_frozen h 0, blk_frozen h 1⟩
theorem bk3 {w : World} {g : Nat} {t : TypeId} {a b c : Value} (h : w.heap[g]? = some (.cells #[a, b, c] t (0, 0))) : w.cell? ⟨g, 0, none⟩ = some a ∧ w.cell? ⟨g, 1, none⟩ = some b ∧ w.cell? ⟨g, 2, none⟩ = some c ∧ w.frozen? ⟨g, 0, none⟩ = false ∧ w.frozen? ⟨g, 1, none⟩ = false ∧ w.frozen? ⟨g, 2, none⟩ = false := ⟨(blk_cell h 0).trans rfl, (blk_cell h 1).trans rfl, (blk_cell h 2).trans rfl, blk_frozen h 0, blk_frozen h 1, blk_frozen h 2⟩
end Go.Proofs.YtcndmhpeolbepaaGreatDoor.Fn
namespace Go.Proofs.YtcndmhpeolbepaaGreatDoor.Fn
open Go.RowKit Go.Proofs.YtcndmhpeolbepaaGreatDoorW.PrintWords Go.Proofs.YtcndmhpeolbepaaGreatDoorW.PrintLast Go.Proofs.YtcndmhpeolbepaaGreatDoorW.PrintMore
attribute [local go_sem] max2_int min2_int max_two min_two max_three min_three max_four min_four
set_option linter.unusedVariables false
set_option linter.unusedSimpArgs false

mutual
def bulletinlaw15_Light.l0 : Nat → List (S66) → Int → Option (Bool)
 | 0, _, _ => none
 | k + 1, x0, x3 => if x3 < (x0.length : Int) then (bulletinlaw15_Light.j1 k x0 x3 (decide (x3 < 30))) else (bulletinlaw15_Light.j1 k x0 x3 false)
def bulletinlaw15_Light.j1 : Nat → List (S66) → Int → Bool → Option (Bool)
 | 0, _, _, _ => none
 | k + 1, x0, x3, x11 => if x11 = true then (if 0 ≤ x3 then (if x3 < (x0.length : Int) then (if (((rd_T66 x0 x3).f0).size : Int) > 200 then (some false) else (if (((rd_T66 x0 x3).f1).size : Int) > 3000 then (some false) else (bulletinlaw15_Light.l0 k x0 (wrap64 (x3 + 1))))) else (none)) else (none)) else (some (decide ((x0.length : Int) ≤ 30)))
end
def bulletinlaw15_Light.f (k : Nat) (l0 : List (S66)) : Option (Bool) := bulletinlaw15_Light.l0 k l0 0
set_option maxHeartbeats 8000000 in
set_option maxRecDepth 100000 in
theorem bulletinlaw15_Light.calls (k : Nat) (A0 : Option Addr) (c0 : Nat) (l0 : List (S66)) (r : Bool) (w : World) (hr0 : Kd.C k66 w A0 l0.length l0) (hc0 : l0.length ≤ c0) (h : bulletinlaw15_Light.f k l0 = some r) :
  Calls Tryz.prog 34 #[.slice A0 l0.length c0] w fun e w' => e = .returned (.bool r) ∧ Drawn0 w w' := by
 have HR0 := Aside0.mk hr0; have HC0 := Aside0.mk hc0; clear hr0 hc0; have H : (bulletinlaw15_Light.l0 k l0 0) = some r := h; clear h; have H' := Aside0.mk H; clear H
 go_enter Tryz.func34, Tryz.ntmps34
 go_wp2
 go_loopg [3] k (fun kq v3 w' => ∃ (x3_1 : Int), v3 = .int .i64 x3_1 ∧ Aside0 (bulletinlaw15_Light.l0 kq l0 x3_1 = some r) ∧ Aside0 (kq ≤ k) ∧ Drawn0 w w')
 case atStart => exact ⟨(0), cl, H', ⟨Nat.le_refl _⟩, d0⟩
 case round =>
  clear H'; obtain ⟨x3_1, rfl, HA, HK1, ⟨m1, rfl⟩⟩ := hrel; cases gk with
  | zero => exact absurd HA.out (by simp [bulletinlaw15_Light.l0])
  | succ k1 =>
   have H := HA.out; clear HA; simp only [bulletinlaw15_Light.l0] at H; have HC2 := Aside0.mk H; clear H
   go_upto_region 2 with (fail)
   go_cut [11] (fun v11 wc => ∃ (kq : Nat) (x11_1 : Bool), v11 = .bool x11_1 ∧ Aside0 (bulletinlaw15_Light.j1 kq l0 x3_1 x11_1 = some r) ∧ Aside0 (kq ≤ k1) ∧ Drawn0 w wc)
   case first =>
    have H := HC2.out; clear HC2
    by_cases c3 : x3_1 < (l0.length : Int)
    ·rw [if_pos c3] at H; have c3b0 := decide_eq_true c3; clear c3
     (first | rw [c3b0] | (simp only [i64_w, i32_w]; rw [c3b0]) | skip)
     have H' := Aside0.mk H; clear H
     go_wp2
     go_meet
     case rel => exact ⟨_, (decide (x3_1 < 30)), cl, H', ⟨by have := HK1.out; first | omega | exact Nat.le_refl _⟩, d0⟩
    rw [if_neg c3] at H; have c3b0 := decide_eq_false c3; clear c3
    (first | rw [c3b0] | (simp only [i64_w, i32_w]; rw [c3b0]) | skip)
    have H' := Aside0.mk H; clear H
    go_wp2
    go_meet
    case rel => exact ⟨_, (false), cl, H', ⟨by have := HK1.out; first | omega | exact Nat.le_refl _⟩, d0⟩
   case rest =>
    clear HC2
    try clear p2
    try clear c3
    try clear c3b0
    obtain ⟨kq, x11_1, rfl, HA, HJ1, ⟨mc1, rfl⟩⟩ := hcut; cases kq with
    | zero => exact absurd HA.out (by simp [bulletinlaw15_Light.j1])
    | succ kj1 =>
     have H := HA.out; clear HA; simp only [bulletinlaw15_Light.j1] at H
     by_cases c4 : x11_1 = true
     ·subst c4; rw [if_pos rfl] at H
      by_cases c5 : 0 ≤ x3_1
      ·rw [if_pos c5] at H; have c5b0 := decide_eq_true c5; clear c5
       by_cases c6 : x3_1 < (l0.length : Int)
       ·rw [if_pos c6] at H; have c6b0 := decide_eq_true c6; clear c6
        by_cases c7 : (((rd_T66 l0 x3_1).f0).size : Int) > 200
        ·rw [if_pos c7] at H; have c7b0 : decide (200 < (((rd_T66 l0 x3_1).f0).size : Int)) = true := decide_eq_true c7; have c7b1 : decide (200 < ((rd_T66 l0 x3_1).f0).size) = true := decide_eq_true (by omega); clear c7; obtain rfl := Option.some.inj H; have p408 : 0 ≤ (x3_1 : Int) := od; have q408 : x3_1 < (l0.length : Int) := od; obtain ⟨ad408, e408, hx408_0, hx408_1⟩ := at_T66 HR0.out x3_1 p408 q408; cases e408; replace p408 := eq_true p408; replace q408 := eq_true q408
         go_wp2
         go_ret
         exact ⟨cl, d0⟩
        rw [if_neg c7] at H; have c7b0 : decide (200 < (((rd_T66 l0 x3_1).f0).size : Int)) = false := decide_eq_false c7; have c7b1 : decide (200 < ((rd_T66 l0 x3_1).f0).size) = false := decide_eq_false (by omega); clear c7
        by_cases c8 : (((rd_T66 l0 x3_1).f1).size : Int) > 3000
        ·rw [if_pos c8] at H; have c8b0 : decide (3000 < (((rd_T66 l0 x3_1).f1).size : Int)) = true := decide_eq_true c8; have c8b1 : decide (3000 < ((rd_T66 l0 x3_1).f1).size) = true := decide_eq_true (by omega); clear c8; obtain rfl := Option.some.inj H; have p408 : 0 ≤ (x3_1 : Int) := od; have q408 : x3_1 < (l0.length : Int) := od; obtain ⟨ad408, e408, hx408_0, hx408_1⟩ := at_T66 HR0.out x3_1 p408 q408; cases e408; replace p408 := eq_true p408; replace q408 := eq_true q408; have p409 : 0 ≤ (x3_1 : Int) := od; have q409 : x3_1 < (l0.length : Int) := od; obtain ⟨ad409, e409, hx409_0, hx409_1⟩ := at_T66 HR0.out x3_1 p409 q409; obtain rfl : ad408 = ad409 := (by injection e409)
         replace p409 := eq_true p409; replace q409 := eq_true q409
         go_wp2
         go_ret
         exact ⟨cl, d0⟩
        rw [if_neg c8] at H; have c8b0 : decide (3000 < (((rd_T66 l0 x3_1).f1).size : Int)) = false := decide_eq_false c8; have c8b1 : decide (3000 < ((rd_T66 l0 x3_1).f1).size) = false := decide_eq_false (by omega); clear c8; have H' := Aside0.mk H; clear H; have p408 : 0 ≤ (x3_1 : Int) := od; have q408 : x3_1 < (l0.length : Int) := od; obtain ⟨ad408, e408, hx408_0, hx408_1⟩ := at_T66 HR0.out x3_1 p408 q408; cases e408; replace p408 := eq_true p408; replace q408 := eq_true q408; have p409 : 0 ≤ (x3_1 : Int) := od; have q409 : x3_1 < (l0.length : Int) := od; obtain ⟨ad409, e409, hx409_0, hx409_1⟩ := at_T66 HR0.out x3_1 p409 q409; obtain rfl : ad408 = ad409 := (by injection e409)
        replace p409 := eq_true p409; replace q409 := eq_true q409
        go_wp2
        go_roundg kj1
        case measure => have := HK1.out; have := HJ1.out; omega
        case rel => exact ⟨(wrap64 (x3_1 + 1)), cl, H', ⟨by have := HK1.out; have := HJ1.out; omega⟩, d0⟩
       rw [if_neg c6] at H; exact absurd H (by simp)
      rw [if_neg c5] at H; exact absurd H (by simp)
     replace c4 := Bool.eq_false_iff.mpr c4; subst c4; rw [if_neg nft] at H; obtain rfl := Option.some.inj H
     go_wp2
     go_ret
     exact ⟨cl, d0⟩

end Go.Proofs.YtcndmhpeolbepaaGreatDoor.Fn
namespace Go.Proofs.YtcndmhpeolbepaaGreatDoor.Fn
attribute [local go_sem] max2_int min2_int max_two min_two max_three min_three max_four min_four
def bulletinlaw16_Light.f (k : Nat) (l0_0 : List (S66)) (a0_1 : ByteArray) : Option (Bool) := (bulletinlaw15_Light.f k l0_0).bind fun t411 => (if t411 = true then (some (decide ((a0_1.size : Int) ≤ 3000))) else (some false))
set_option maxRecDepth 100000 in
theorem bulletinlaw16_Light.calls (k : Nat) (A0_0 : Option Addr) (c0_0 : Nat) (l0_0 : List (S66)) (a0_1 : ByteArray) (r : Bool) (w : World) (hr0_0 : Kd.C k66 w A0_0 l0_0.length l0_0) (hc0_0 : l0_0.length ≤ c0_0) (h : bulletinlaw16_Light.f k l0_0 a0_1 = some r) :
  Calls Tryz.prog 12 #[.agg #[.slice A0_0 l0_0.length c0_0, .string a0_1]] w fun e w' => e = .returned (.bool r) ∧ Below w.heap.size w w' := by
 have hu34 := Tryz.underlying34; have HR0_0 := Aside0.mk hr0_0; have HC0_0 := Aside0.mk hc0_0; clear hr0_0 hc0_0; have HB := Aside0.mk (Below.refl w.heap.size w); have H : ((bulletinlaw15_Light.f k l0_0).bind fun t411 => (if t411 = true then (some (decide ((a0_1.size : Int) ≤ 3000))) else (some false))) = some r := h; clear h; replace H := Option.bind_eq_some_iff.mp H; obtain ⟨t411, A20, H⟩ := H; have A2 := Aside0.mk A20; clear A20
 by_cases c3 : t411 = true
 ·subst c3; rw [if_pos rfl] at H; obtain rfl := Option.some.inj H
  go_enter Tryz.func12, Tryz.ntmps12
  go_wp2_with (first | ((with_reducible refine gate_dst (N := 1) rfl ?_); (try (refine gate_guard (by rfl) ?_; dsimp only)); refine box_event ?hg (N := 1) ?hd (cs := #[.slice A0_0 l0_0.length c0_0, .string a0_1]) (t := 34) ?hr ?_; (case hd => rfl); (case hg => rfl); (case hr => first | (go_simp; done) | (go_simp; rfl)); intro gb410 hg w4 hbox hb; have n0_ := Aside0.mk (below_step bw hb); have n1_ := Aside0.mk (hbox); have n2_ := Aside0.mk ((by rw [hg]; exact (below_size bw) : w.heap.size ≤ gb410)); have n3_ := Aside0.mk ((by rw [hg]; exact (below_size bw) : w.heap.size ≤ gb410)); clear HB; have HB := n0_; have BK410 := n1_; have GW410 := n2_; have GE410 := n3_; clear n0_ n1_ n2_ n3_; clear hb hbox hg; have hcz5_0 : w4.cell? ⟨gb410, 0, none⟩ = some (.slice A0_0 l0_0.length c0_0) := (blk_cell BK410.out 0).trans rfl; have hcz5_1 : w4.cell? ⟨gb410, 1, none⟩ = some (.string a0_1) := (blk_cell BK410.out 1).trans rfl; obtain ⟨hfz5_0, hfz5_1⟩ := fz2 BK410) | ((with_reducible refine gate_callee (f := 34) rfl ?_); refine goesL_ (some 5) rfl rfl Tryz.func34 (by kernel_rfl) rfl #[.slice A0_0 l0_0.length c0_0] rfl am ?_; (with_reducible refine (bulletinlaw15_Light.calls k _ _ l0_0 true _ ?side1 ?side2 A2.out).mono ?_); (case side1 => repeat (first | exact (Kd.C_below HR0_0.out HB.out) | (with_reducible refine Kd.C_alloc ?_ _) | (with_reducible refine Kd.C_drewN ?_ _) | (with_reducible refine Kd.C_drew ?_))); (case side2 => exact HC0_0.out); rintro e w' ⟨rfl, ⟨nd, rfl⟩⟩; refine ⟨_, rfl, ?_⟩))
  go_ret
  exact ⟨ew, bwS⟩
 replace c3 := Bool.eq_false_iff.mpr c3; subst c3; rw [if_neg nft] at H; obtain rfl := Option.some.inj H
 go_enter Tryz.func12, Tryz.ntmps12
 go_wp2_with (first | ((with_reducible refine gate_dst (N := 1) rfl ?_); (try (refine gate_guard (by rfl) ?_; dsimp only)); refine box_event ?hg (N := 1) ?hd (cs := #[.slice A0_0 l0_0.length c0_0, .string a0_1]) (t := 34) ?hr ?_; (case hd => rfl); (case hg => rfl); (case hr => first | (go_simp; done) | (go_simp; rfl)); intro gb410 hg w6 hbox hb; have n0_ := Aside0.mk (below_step bw hb); have n1_ := Aside0.mk (hbox); have n2_ := Aside0.mk ((by rw [hg]; exact (below_size bw) : w.heap.size ≤ gb410)); have n3_ := Aside0.mk ((by rw [hg]; exact (below_size bw) : w.heap.size ≤ gb410)); clear HB; have HB := n0_; have BK410 := n1_; have GW410 := n2_; have GE410 := n3_; clear n0_ n1_ n2_ n3_; clear hb hbox hg; have hcz7_0 : w6.cell? ⟨gb410, 0, none⟩ = some (.slice A0_0 l0_0.length c0_0) := (blk_cell BK410.out 0).trans rfl; have hcz7_1 : w6.cell? ⟨gb410, 1, none⟩ = some (.string a0_1) := (blk_cell BK410.out 1).trans rfl; obtain ⟨hfz7_0, hfz7_1⟩ := fz2 BK410) | ((with_reducible refine gate_callee (f := 34) rfl ?_); refine goesL_ (some 5) rfl rfl Tryz.func34 (by kernel_rfl) rfl #[.slice A0_0 l0_0.length c0_0] rfl am ?_; (with_reducible refine (bulletinlaw15_Light.calls k _ _ l0_0 false _ ?side1 ?side2 A2.out).mono ?_); (case side1 => repeat (first | exact (Kd.C_below HR0_0.out HB.out) | (with_reducible refine Kd.C_alloc ?_ _) | (with_reducible refine Kd.C_drewN ?_ _) | (with_reducible refine Kd.C_drew ?_))); (case side2 => exact HC0_0.out); rintro e w' ⟨rfl, ⟨nd, rfl⟩⟩; refine ⟨_, rfl, ?_⟩))
 go_ret
 exact ⟨ew, bwS⟩
def bulletinlaw15_To.l0 : Nat → List (S66) → List (S54) → Int → Option ((List (S54)))
 | 0, _, _, _ => none
 | k + 1, x0, x3, x4 => if x4 < (x0.length : Int) then (if 0 ≤ x4 then (if x3.length < 4398046511104 then (bulletinlaw15_To.l0 k x0 (x3 ++ [(⟨(rd_T66 x0 x4).f0, (rd_T66 x0 x4).f1⟩ : S54)]) (wrap64 (x4 + 1))) else (none)) else (none)) else (some x3)
def bulletinlaw15_To.f (k : Nat) (l0 : List (S66)) : Option ((List (S54))) := bulletinlaw15_To.l0 k l0 ([] : List (S54)) 0
def bulletinlaw15_To.T5 : Bool × List (List Nat × List Nat) := (true, [([], []), ([], []), ([], []), ([1, 2], [1, 2]), ([3], [3]), ([4], [4]), ([], []), ([], []), ([6, 7], [6, 7]), ([8], [8]), ([9], [9]), ([5, 10], [5, 10]), ([11], [11]), ([0, 12], [0, 12]), ([13, 13, 0, 1, 2, 3, 4, 5, 6, 7, 8, 9, 10, 11, 12, 13], [0, 13])])
def bulletinlaw15_To.B5 : List Nat := [0, 0, 0, 6, 14, 30, 0, 0, 192, 448, 960, 2046, 4094, 8191, 16383]
theorem bulletinlaw15_To.tab5 : rtab .any (opsOf Tryz.f36 5) = bulletinlaw15_To.T5 := by kernel_rfl
theorem bulletinlaw15_To.bits5 : waitsOk bulletinlaw15_To.T5.2 bulletinlaw15_To.B5 = true := by kernel_rfl
set_option maxRecDepth 100000 in
theorem bulletinlaw15_To.calls (k : Nat) (A0 : Option Addr) (c0 : Nat) (l0 : List (S66)) (r : List (S54)) (w : World) (hr0 : Kd.C k66 w A0 l0.length l0) (hc0 : l0.length ≤ c0) (h : bulletinlaw15_To.f k l0 = some r) :
  Calls Tryz.prog 36 #[.slice A0 l0.length c0] w fun e w' => ∃ v0_ : Value, e = .returned (v0_) ∧ Kd.R k54 54 w' w.heap.size (fun _ => True) v0_ r ∧ Below w.heap.size w w' := by
 have hu54 := Tryz.underlying54; have HR0 := Aside0.mk hr0; have HC0 := Aside0.mk hc0; clear hr0 hc0; have HB := Aside0.mk (Below.refl w.heap.size w); have H : (bulletinlaw15_To.l0 k l0 ([] : List (S54)) 0) = some r := h; clear h; have H' := Aside0.mk H; clear H
 go_enter Tryz.func36, Tryz.ntmps36
 go_wp2
 go_loopg [3, 4] k (fun kq v3 v4 w' => ∃ (x3_1 : List (S54)) (x4_1 : Int), v4 = .int .i64 x4_1 ∧ Aside0 (bulletinlaw15_To.l0 kq l0 x3_1 x4_1 = some r) ∧ Aside0 (kq ≤ k) ∧ Aside0 (Kd.R k54 54 w' w.heap.size (fun _ => True) v3 x3_1) ∧ Aside0 (Below w.heap.size w w'))
 case atStart => exact ⟨(([] : List (S54))), (0), cl, H', ⟨Nat.le_refl _⟩, ⟨by first | exact Kd.R_nil _ _ _ _ _ | exact Kd.N_nil _ _ _ _ _ | exact Kd.V_nil _ _ _ _ _ | exact Kd.Q_nil _ _ _ _ _ | exact Kd.S_nil _ _ _ _ _⟩, ⟨bw⟩⟩
 case round =>
  clear H'; obtain ⟨x3_1, x4_1, rfl, HA, HK1, HO_3, HB⟩ := hrel; cases gk with
  | zero => exact absurd HA.out (by simp [bulletinlaw15_To.l0])
  | succ k1 =>
   have H := HA.out; clear HA; simp only [bulletinlaw15_To.l0] at H
   by_cases c2 : x4_1 < (l0.length : Int)
   ·rw [if_pos c2] at H; have c2b0 := decide_eq_true c2; clear c2
    by_cases c3 : 0 ≤ x4_1
    ·rw [if_pos c3] at H; have c3b0 := decide_eq_true c3; clear c3
     by_cases c4 : x3_1.length < 4398046511104
     ·rw [if_pos c4] at H; have LMc4 := Aside0.mk c4; clear c4; obtain ⟨y414, hy414⟩ : ∃ y_ : List (S54), y_ = (x3_1 ++ [(⟨(rd_T66 l0 x4_1).f0, (rd_T66 l0 x4_1).f1⟩ : S54)]) := ⟨_, rfl⟩
      replace H : (bulletinlaw15_To.l0 k1 l0 y414 (wrap64 (x4_1 + 1))) = some r := by first | (rw [hy414]; with_reducible exact H) | (have H2_ := (Option.bind_some _ _).symm.trans H; rw [hy414]; with_reducible exact H2_) | (have H2_ := (Option.bind_some _ _).symm.trans H; with_reducible exact H2_) | with_reducible exact H | (rw [hy414]; exact H) | exact H
      have Ny414 := Aside0.mk hy414; clear hy414; have H' := Aside0.mk H; clear H
      try go_wp2
      have n0_ := Aside0.mk (Kd.R_drew HO_3.out); have n1_ := Aside0.mk (below_drew1 HB.out); clear HO_3 HB; have HO_3 := n0_; have HB := n1_; clear n0_ n1_; have p412 : 0 ≤ (x4_1 : Int) := od; have q412 : x4_1 < (l0.length : Int) := od; obtain ⟨ad412, e412, hx412_0, hx412_1⟩ := at_T66 HR0.out x4_1 p412 q412; have hw412_1 := hx412_1; have hw412_0 := hx412_0; cases e412; replace hx412_0 := hbc HB hx412_0; replace hx412_1 := hbc HB hx412_1; replace p412 := eq_true p412; replace q412 := eq_true q412; have p413 : 0 ≤ (x4_1 : Int) := od; have q413 : x4_1 < (l0.length : Int) := od; obtain ⟨ad413, e413, hx413_0, hx413_1⟩ := at_T66 HR0.out x4_1 p413 q413; have hw413_1 := hx413_1; have hw413_0 := hx413_0; obtain rfl : ad412 = ad413 := (by injection e413)
      replace hx413_0 := hbc HB hx413_0; replace hx413_1 := hbc HB hx413_1; replace p413 := eq_true p413; replace q413 := eq_true q413; refine start_ (n := 15) (S := fun w' => w'.cell? (ad412.add ((x4_1).toNat * 2)) = some (.string ((rd_T66 l0 x4_1).f0)) ∧ w'.cell? ⟨(ad412.add ((x4_1).toNat * 2)).block, (ad412.add ((x4_1).toNat * 2)).off + 1, none⟩ = some (.string ((rd_T66 l0 x4_1).f1)) ∧ w'.cell? (ad412.add ((x4_1).toNat * 2)) = some (.string ((rd_T66 l0 x4_1).f0)) ∧ w'.cell? ⟨(ad412.add ((x4_1).toNat * 2)).block, (ad412.add ((x4_1).toNat * 2)).off + 1, none⟩ = some (.string ((rd_T66 l0 x4_1).f1))) (ds := []) #[false, false, false, false, false, false, false, false, false, false, false, false, false, false, false] (by kernel_rfl) rfl rfl ⟨(hbc HB hw412_0), (hbc HB hw412_1), (hbc HB hw413_0), (hbc HB hw413_1)⟩ (fun hHeld => ?_); refine with_tabW bulletinlaw15_To.tab5 bulletinlaw15_To.bits5 (fun HT_ HW_ => ?_)
      generalize wr.drew = w5 at HO_3 HB hx412_0 hx412_1 hx413_0 hx413_1 hHeld ⊢
      refine pure_ (i := 0) (N := some 11) (v := ?_) (a' := ?_) (bitsL 15 1) rfl rfl (any_of HT_.out (by kernel_rfl)) (fun _ _ _ h => h) (Or.inl ⟨by rfl, ?_⟩) ?_ ?_; rotate_left
      ·intro w'; go_simp; with_reducible rfl
      rotate_left
      ·simp only [Act.put, sa_, sz_, ss_, i64_w, i32_w]; rfl
      refine pure_ (i := 1) (N := some 12) (v := ?_) (a' := ?_) (bitsL 15 3) rfl rfl (any_of HT_.out (by kernel_rfl)) (fun _ _ _ h => h) (Or.inl ⟨by rfl, ?_⟩) ?_ ?_; rotate_left
      ·intro w'; go_simp; with_reducible rfl
      rotate_left
      ·simp only [Act.put, sa_, sz_, ss_, i64_w, i32_w]; rfl
      refine pure_ (i := 2) (N := some 13) (v := ?_) (a' := ?_) (bitsL 15 7) rfl rfl (any_of HT_.out (by kernel_rfl)) (fun _ _ _ h => h) (Or.inl ⟨by rfl, ?_⟩) ?_ ?_; rotate_left
      ·intro w'; go_simp; with_reducible rfl
      rotate_left
      ·simp only [Act.put, sa_, sz_, ss_, i64_w, i32_w]; rfl
      refine pure_ (i := 3) (N := some 14) (v := ?_) (a' := ?_) (bitsL 15 15) rfl rfl (any_of HT_.out (by kernel_rfl)) (fun _ _ _ h => h) (Or.inl ⟨by rfl, ?_⟩) ?_ ?_; rotate_left
      ·intro w'; go_simp; with_reducible rfl
      rotate_left
      ·simp only [Act.put, sa_, sz_, ss_, i64_w, i32_w]; rfl
      refine pure_ (i := 4) (N := some 15) (v := ?_) (a' := ?_) (bitsL 15 31) rfl rfl (any_of HT_.out (by kernel_rfl)) (fun _ _ _ h => h) (Or.inl ⟨by rfl, ?_⟩) ?_ ?_; rotate_left
      ·intro w'; go_simp; with_reducible rfl
      rotate_left
      ·simp only [Act.put, sa_, sz_, ss_, i64_w, i32_w]; rfl
      refine pure_ (i := 6) (N := some 17) (v := ?_) (a' := ?_) (bitsL 15 95) rfl rfl (any_of HT_.out (by kernel_rfl)) (fun _ _ _ h => h) (Or.inl ⟨by rfl, ?_⟩) ?_ ?_; rotate_left
      ·intro w'; go_simp; with_reducible rfl
      rotate_left
      ·simp only [Act.put, sa_, sz_, ss_, i64_w, i32_w]; rfl
      refine pure_ (i := 7) (N := some 18) (v := ?_) (a' := ?_) (bitsL 15 223) rfl rfl (any_of HT_.out (by kernel_rfl)) (fun _ _ _ h => h) (Or.inl ⟨by rfl, ?_⟩) ?_ ?_; rotate_left
      ·intro w'; go_simp; with_reducible rfl
      rotate_left
      ·simp only [Act.put, sa_, sz_, ss_, i64_w, i32_w]; rfl
      refine pure_ (i := 8) (N := some 19) (v := ?_) (a' := ?_) (bitsL 15 479) rfl rfl (any_of HT_.out (by kernel_rfl)) (fun _ _ _ h => h) (Or.inl ⟨by rfl, ?_⟩) ?_ ?_; rotate_left
      ·intro w'; go_simp; with_reducible rfl
      rotate_left
      ·simp only [Act.put, sa_, sz_, ss_, i64_w, i32_w]; rfl
      refine pure_ (i := 9) (N := some 20) (v := ?_) (a' := ?_) (bitsL 15 991) rfl rfl (any_of HT_.out (by kernel_rfl)) (fun _ _ _ h => h) (Or.inl ⟨by rfl, ?_⟩) ?_ ?_; rotate_left
      ·intro w'; go_simp; with_reducible rfl
      rotate_left
      ·simp only [Act.put, sa_, sz_, ss_, i64_w, i32_w]; rfl
      refine take_ (i := 5) (N := some 16) (v := ?_) (a' := ?_) (bitsL 15 1023) rfl rfl (take_ofW HT_.out HW_.out (by kernel_rfl)) (fun _ _ _ h => h) (Or.inl ⟨by rfl, ?_⟩) hHeld ?_ ?_; rotate_left
      ·rintro w' ⟨s0, s1, s2, s3⟩; go_simp; with_reducible rfl
      rotate_left
      ·simp only [Act.put, sa_, sz_, ss_, i64_w, i32_w]; rfl
      refine take_ (i := 10) (N := some 21) (v := ?_) (a' := ?_) (bitsL 15 2047) rfl rfl (take_ofW HT_.out HW_.out (by kernel_rfl)) (fun _ _ _ h => h) (Or.inl ⟨by rfl, ?_⟩) hHeld ?_ ?_; rotate_left
      ·rintro w' ⟨s0, s1, s2, s3⟩; go_simp; with_reducible rfl
      rotate_left
      ·simp only [Act.put, sa_, sz_, ss_, i64_w, i32_w]; rfl
      refine pure_ (i := 11) (N := some 22) (v := ?_) (a' := ?_) (bitsL 15 4095) rfl rfl (any_of HT_.out (by kernel_rfl)) (fun _ _ _ h => h) (Or.inl ⟨by rfl, ?_⟩) ?_ ?_; rotate_left
      ·intro w'; go_simp; with_reducible rfl
      rotate_left
      ·simp only [Act.put, sa_, sz_, ss_, i64_w, i32_w]; rfl
      refine one_ (i := 12) (N := some 23) (bitsL 15 8191) rfl rfl (one_of HT_.out (by kernel_rfl)) (by decide) (fun K hK => ?_); refine value_ (w1 := ?_) (v := ?_) (by rfl) rfl ?_ ?_; rotate_left 2
      ·go_simp
       constructor
       ·rfl
       rfl
      refine hK.out _ _ ⟨(World.cell?_alloc_lt _ _ _ (World.block_lt_of_cell? _ _ ((hbc HB hw412_0)))).trans ((hbc HB hw412_0)), (World.cell?_alloc_lt _ _ _ (World.block_lt_of_cell? _ _ ((hbc HB hw412_1)))).trans ((hbc HB hw412_1)), (World.cell?_alloc_lt _ _ _ (World.block_lt_of_cell? _ _ ((hbc HB hw413_0)))).trans ((hbc HB hw413_0)), (World.cell?_alloc_lt _ _ _ (World.block_lt_of_cell? _ _ ((hbc HB hw413_1)))).trans ((hbc HB hw413_1))⟩ (fun hHeld => ?_); clear hK K; refine norm_ (a' := ?_) ?_ ?_; rotate_left
      ·show Act.put _ (some 23) _ = _
       simp only [Act.put, sa_, sz_, ss_, i64_w, i32_w]; rfl
      refine one_ (i := 13) (N := some 24) (bitsL 15 16383) rfl rfl (one_of HT_.out (by kernel_rfl)) (by decide) (fun K hK => ?_); refine Kd.R_append_step k54 (w0 := w) w.heap.size (by rfl) (.tmp 11) (.tmp 23) 26 54 (.agg #[(.string ⟨#[]⟩), (.string ⟨#[]⟩)]) 32 rfl Tryz.underlying26 info54 rfl (by decide) (by omega) u3 x3_1 (⟨(rd_T66 l0 x4_1).f0, (rd_T66 l0 x4_1).f1⟩ : S54) [.string ((rd_T66 l0 x4_1).f0), .string ((rd_T66 l0 x4_1).f1)] (fun _ => True) (fun _ => False) rfl rfl ?aP (fun _ hk => hk.elim) ?aF ?aO ?aB ?aS ?aL ?_
      (case aP => exact k54_mkM _ _ _ (⟨(rd_T66 l0 x4_1).f0, (rd_T66 l0 x4_1).f1⟩ : S54))
      (case aB => exact bw)
      (case aF => exact (fun _ _ => trivial))
      (case aO => exact (ra HO_3.out))
      (case aS => exact (below_size bw))
      (case aL => have := LMc4.out; omega)
      intro v415 w6 ho hb hg hat; rw [← Ny414.out] at ho; have n0_ := Aside0.mk (hb); have n1_ := Aside0.mk (ho); clear HB HO_3; have HB := n0_; have HO416 := n1_; clear n0_ n1_ ho hb hg hat; refine hK.out _ _ ⟨(hbc HB hw412_0), (hbc HB hw412_1), (hbc HB hw413_0), (hbc HB hw413_1)⟩ (fun hHeld => ?_); clear hK K; refine norm_ (a' := ?_) ?_ ?_; rotate_left
      ·show Act.put _ (some 24) _ = _
       simp only [Act.put, sa_, sz_, ss_, i64_w, i32_w]; rfl
      refine pure_ (i := 14) (N := some 3) (v := ?_) (a' := ?_) (bitsL 15 32767) rfl rfl (any_of HT_.out (by kernel_rfl)) (fun _ _ _ h => h) (Or.inl ⟨by rfl, ?_⟩) ?_ ?_; rotate_left
      ·intro w'; go_simp; with_reducible rfl
      rotate_left
      ·simp only [Act.put, sa_, sz_, ss_, i64_w, i32_w]; rfl
      refine done_ (done_of HT_.out (by kernel_rfl)) ?_
      try go_wp2
      go_roundg k1
      case measure => have := HK1.out; omega
      case rel => exact ⟨(y414), (wrap64 (x4_1 + 1)), cl, H', ⟨by have := HK1.out; omega⟩, ⟨ra HO416.out⟩, ⟨bw⟩⟩
     rw [if_neg c4] at H; exact absurd H (by simp)
    rw [if_neg c3] at H; exact absurd H (by simp)
   rw [if_neg c2] at H; have c2b0 := decide_eq_false c2; clear c2; obtain rfl := Option.some.inj H
   go_wp2
   go_ret
   exact ⟨_, ew, ra HO_3.out, bw⟩
def bulletinlaw16_To.f (k : Nat) (l0_0 : List (S66)) (a0_1 : ByteArray) : Option ((List (S54)) × ByteArray) := (bulletinlaw15_To.f k l0_0).bind fun t419 => (some (t419, a0_1))
set_option maxRecDepth 100000 in
theorem bulletinlaw16_To.calls (k : Nat) (A0_0 : Option Addr) (c0_0 : Nat) (l0_0 : List (S66)) (a0_1 : ByteArray) (r1 : List (S54)) (r2 : ByteArray) (w : World) (hr0_0 : Kd.C k66 w A0_0 l0_0.length l0_0) (hc0_0 : l0_0.length ≤ c0_0) (h : bulletinlaw16_To.f k l0_0 a0_1 = some (r1, r2)) :
  Calls Tryz.prog 14 #[.agg #[.slice A0_0 l0_0.length c0_0, .string a0_1]] w fun e w' => ∃ v0_ : Value, e = .returned (.agg #[v0_, .string r2]) ∧ Kd.R k54 54 w' w.heap.size (fun _ => True) v0_ r1 ∧ Below w.heap.size w w' := by
 have hu34 := Tryz.underlying34; have hu28 := Tryz.underlying28; have HR0_0 := Aside0.mk hr0_0; have HC0_0 := Aside0.mk hc0_0; clear hr0_0 hc0_0; have HB := Aside0.mk (Below.refl w.heap.size w); have H : ((bulletinlaw15_To.f k l0_0).bind fun t419 => (some (t419, a0_1))) = some (r1, r2) := h; clear h; replace H := Option.bind_eq_some_iff.mp H; obtain ⟨t419, A20, H⟩ := H; have A2 := Aside0.mk A20; clear A20; simp only [Option.some.injEq, Prod.mk.injEq] at H; obtain ⟨rfl, rfl⟩ := H
 go_enter Tryz.func14, Tryz.ntmps14
 try go_wp2_with (first | ((with_reducible refine gate_dst (N := 1) rfl ?_); refine box_event ?hg (N := 1) ?hd (cs := #[.slice A0_0 l0_0.length c0_0, .string a0_1]) (t := 34) ?hr ?_; (case hd => rfl); (case hg => rfl); (case hr => first | (go_simp; done) | (go_simp; rfl)); intro gb417 hg w3 hbox hb; have n0_ := Aside0.mk (below_step bw hb); have n1_ := Aside0.mk (hbox); have n2_ := Aside0.mk ((by rw [hg]; exact (below_size bw) : w.heap.size ≤ gb417)); have n3_ := Aside0.mk ((by rw [hg]; exact (below_size bw) : w.heap.size ≤ gb417)); clear HB; have HB := n0_; have BK417 := n1_; have GW417 := n2_; have GE417 := n3_; clear n0_ n1_ n2_ n3_; clear hb hbox hg) | ((with_reducible refine gate_dst (N := 2) rfl ?_); refine box_event ?hg (N := 2) ?hd (cs := #[.slice none 0 0, .string (⟨#[]⟩ : ByteArray)]) (t := 28) ?hr ?_; (case hd => rfl); (case hg => rfl); (case hr => first | (go_simp; done) | (go_simp; rfl)); intro gb418 hg w4 hbox hb; have n0_ := Aside0.mk (blk_below (g := gb417) (o := .cells #[.slice A0_0 l0_0.length c0_0, .string a0_1] 34 (0, 0)) bk hb); have n1_ := Aside0.mk (below_step bwS hb); have n2_ := Aside0.mk (hbox); have n3_ := Aside0.mk ((by rw [hg]; exact (below_size bwS) : w.heap.size ≤ gb418)); have n4_ := Aside0.mk ((by rw [hg]; exact (below_size bwS) : w.heap.size ≤ gb418)); have n5_ := Aside0.mk ((by rw [hg]; exact Nat.ne_of_lt (blk_lt (g := gb417) (o := .cells #[.slice A0_0 l0_0.length c0_0, .string a0_1] 34 (0, 0)) bk) : gb417 ≠ gb418)); have n6_ := Aside0.mk ((by rw [hg]; exact Nat.ne_of_gt (blk_lt (g := gb417) (o := .cells #[.slice A0_0 l0_0.length c0_0, .string a0_1] 34 (0, 0)) bk) : gb418 ≠ gb417)); clear BK417; clear HB; have BK417 := n0_; have HB := n1_; have BK418 := n2_; have GW418 := n3_; have GE418 := n4_; have NB417_418 := n5_; have NB418_417 := n6_; clear n0_ n1_ n2_ n3_ n4_ n5_ n6_; clear hb hbox hg))
 have n0_ := Aside0.mk (blk_drew BK417.out); have n1_ := Aside0.mk (blk_drew BK418.out); have n2_ := Aside0.mk (below_drew1 HB.out); clear BK417 BK418 HB; have BK417 := n0_; have BK418 := n1_; have HB := n2_; clear n0_ n1_ n2_; refine start_ (n := 7) (S := fun w' => w'.cell? ⟨gb417, 0, none⟩ = some (.slice A0_0 l0_0.length c0_0) ∧ w'.cell? ⟨gb417, 1, none⟩ = some (.string a0_1)) (ds := []) #[false, false, false, false, false, false, false] (by kernel_rfl) rfl rfl ⟨(blk_cell BK417.out 0).trans rfl, (blk_cell BK417.out 1).trans rfl⟩ (fun hHeld => ?_); generalize w4.drew = w5 at BK417 BK418 HB hHeld ⊢
 refine pure_ (i := 0) (N := some 3) (v := ?_) (a' := ?_) #[true, false, false, false, false, false, false] rfl rfl (by kernel_rfl) (fun _ _ _ h => h) (Or.inl ⟨by rfl, ?_⟩) ?_ ?_; rotate_left
 ·intro w'; go_simp; with_reducible rfl
 rotate_left
 ·simp only [Act.put, sa_, sz_, ss_, i64_w, i32_w]; rfl
 refine pure_ (i := 3) (N := some 6) (v := ?_) (a' := ?_) #[true, false, false, true, false, false, false] rfl rfl (by kernel_rfl) (fun _ _ _ h => h) (Or.inl ⟨by rfl, ?_⟩) ?_ ?_; rotate_left
 ·intro w'; go_simp; with_reducible rfl
 rotate_left
 ·simp only [Act.put, sa_, sz_, ss_, i64_w, i32_w]; rfl
 refine take_ (i := 1) (N := some 4) (v := ?_) (a' := ?_) #[true, true, false, true, false, false, false] rfl rfl (by kernel_rfl) (fun _ _ _ h => h) (Or.inl ⟨by rfl, ?_⟩) hHeld ?_ ?_; rotate_left
 ·rintro w' ⟨s0, s1⟩; go_simp; with_reducible rfl
 rotate_left
 ·simp only [Act.put, sa_, sz_, ss_, i64_w, i32_w]; rfl
 refine take_ (i := 4) (N := some 7) (v := ?_) (a' := ?_) #[true, true, false, true, true, false, false] rfl rfl (by kernel_rfl) (fun _ _ _ h => h) (Or.inl ⟨by rfl, ?_⟩) hHeld ?_ ?_; rotate_left
 ·rintro w' ⟨s0, s1⟩; go_simp; with_reducible rfl
 rotate_left
 ·simp only [Act.put, sa_, sz_, ss_, i64_w, i32_w]; rfl
 refine one_ (i := 2) (N := some 5) #[true, true, true, true, true, false, false] rfl rfl (by kernel_rfl) (by decide) (fun K hK => ?_); refine goes_ Tryz.func36 (by kernel_rfl) rfl #[.slice A0_0 l0_0.length c0_0] (by rfl) rfl rfl am ?_; with_reducible refine (bulletinlaw15_To.calls k _ _ l0_0 t419 _ ?side1 ?side2 A2.out).mono ?_
 (case side1 => repeat (first | exact (Kd.C_below HR0_0.out HB.out) | (with_reducible refine Kd.C_alloc ?_ _) | (with_reducible refine Kd.C_drewN ?_ _) | (with_reducible refine Kd.C_drew ?_)))
 (case side2 => exact HC0_0.out)
 rintro e w6 ⟨v420, rfl, ho0, hb⟩; refine ⟨_, rfl, ?_⟩; have n0_ := Aside0.mk (Kd.R_lower ho0 (below_size bwS)); have n1_ := Aside0.mk (blk_below (g := gb417) (o := .cells #[.slice A0_0 l0_0.length c0_0, .string a0_1] 34 (0, 0)) bk hb); have n2_ := Aside0.mk (blk_below (g := gb418) (o := .cells #[.slice none 0 0, .string (⟨#[]⟩ : ByteArray)] 28 (0, 0)) bk hb); have n3_ := Aside0.mk (below_step bwS hb); clear BK417 BK418 HB; have HO421 := n0_; have BK417 := n1_; have BK418 := n2_; have HB := n3_; clear n0_ n1_ n2_ n3_
 (try clear hb)
 (try clear hb2)
 (try clear hk)
 (try clear hi)
 (try clear ho0)
 obtain ⟨Ao7, co7, eo7⟩ := Kd.R_slice HO421.out
 (first | subst eo7 | (injection eo7 with f1_ f2_ f3_; have f4_ := f1_.symm; have f5_ := f3_.symm; clear f1_ f2_ f3_; subst f4_; subst f5_))
 refine hK.out _ _ ⟨(blk_cell BK417.out 0).trans rfl, (blk_cell BK417.out 1).trans rfl⟩ (fun hHeld => ?_); clear hK K; refine norm_ (a' := ?_) ?_ ?_; rotate_left
 ·show Act.put _ (some 5) _ = _
  simp only [Act.put, sa_, sz_, ss_, i64_w, i32_w]; rfl
 refine pure_ (i := 5) (N := some 8) (v := ?_) (a' := ?_) #[true, true, true, true, true, true, false] rfl rfl (by kernel_rfl) (fun _ _ _ h => h) (Or.inl ⟨by rfl, ?_⟩) ?_ ?_; rotate_left
 ·intro w'; go_simp; with_reducible rfl
 rotate_left
 ·simp only [Act.put, sa_, sz_, ss_, i64_w, i32_w]; rfl
 refine one_ (i := 6) (N := none) #[true, true, true, true, true, true, true] rfl rfl (by kernel_rfl) (by decide) (fun K hK => ?_); have hs8 : w6.cell? ⟨gb418, 0, none⟩ = some (.slice none 0 0) := (blk_cell BK418.out 0).trans rfl; have hfs8 := blk_frozen BK418.out 0; have hns8_0 := NB417_418.out; have hms8_0 := NB418_417.out; have hs9 : w6.cell? ⟨gb418, 1, none⟩ = some (.string (⟨#[]⟩ : ByteArray)) := (blk_cell BK418.out 1).trans rfl; have hfs9 := blk_frozen BK418.out 1; have hns9_0 := NB417_418.out; have hms9_0 := NB418_417.out; refine skip_ (w1 := ?_) (by rfl) rfl ?_ ?_; rotate_left
 ·go_simp; rfl
 refine hK.out _ _ ⟨((cell_far (p := ⟨gb418, _, none⟩) NB417_418.out _).trans (((cell_far (p := ⟨gb418, _, none⟩) NB417_418.out _).trans (hHeld.1)))), ((cell_far (p := ⟨gb418, _, none⟩) NB417_418.out _).trans (((cell_far (p := ⟨gb418, _, none⟩) NB417_418.out _).trans (hHeld.2))))⟩ (fun hHeld => ?_); clear hK K; refine done_ (by kernel_rfl) ?_
 try go_wp2
 refine bodyPost_ret (results_cell_row rfl _ _ gb418 28 #[.slice Ao7 t419.length co7, .string a0_1] (0, 0) _ rfl (by (with_reducible repeat (first | refine blk_drewN ?_ _ | refine blk_drew ?_ | refine blk_alloc ?_ _)); refine blk_put (cs := #[.slice Ao7 t419.length co7, .string (⟨#[]⟩ : ByteArray)]) ?_ 1 _ rfl; (with_reducible repeat (first | refine blk_drewN ?_ _ | refine blk_drew ?_ | refine blk_alloc ?_ _)); exact blk_put (cs := #[.slice none 0 0, .string (⟨#[]⟩ : ByteArray)]) bk 0 _ rfl) Tryz.underlying28 rfl (by kernel_rfl)) rfl ?_; exact ⟨_, ew, by (with_reducible repeat (first | apply Kd.R_alloc | apply Kd.R_drewN | apply Kd.R_drew)); exact Kd.R_mono (Kd.R_far (p := ⟨gb418, 1, none⟩) (Kd.R_far (p := ⟨gb418, 0, none⟩) (Kd.R_types HO421.out BK418.out (by decide)) (fun _ hk => hk.2) (.slice Ao7 t419.length co7)) (fun _ hk => hk.2) (.string a0_1)) (fun _ hk => trivial), bwS⟩
def bulletinlaw13_To.f (a0_0 : ByteArray) (a0_1 : ByteArray) : Option (ByteArray × ByteArray) := some (a0_0, a0_1)
set_option maxRecDepth 100000 in
theorem bulletinlaw13_To.calls (a0_0 : ByteArray) (a0_1 : ByteArray) (r1 : ByteArray) (r2 : ByteArray) (w : World) (h : bulletinlaw13_To.f a0_0 a0_1 = some (r1, r2)) :
  Calls Tryz.prog 10 #[.agg #[.string a0_0, .string a0_1]] w fun e w' => e = .returned (.agg #[.string r1, .string r2]) ∧ Below w.heap.size w w' := by
 have hu23 := Tryz.underlying23; have hu30 := Tryz.underlying30; have HB := Aside0.mk (Below.refl w.heap.size w); have H : (some (a0_0, a0_1)) = some (r1, r2) := h; clear h; simp only [Option.some.injEq, Prod.mk.injEq] at H; obtain ⟨rfl, rfl⟩ := H
 go_enter Tryz.func10, Tryz.ntmps10
 go_wp2_with (first | ((with_reducible refine gate_dst (N := 1) rfl ?_); refine box_event ?hg (N := 1) ?hd (cs := #[.string a0_0, .string a0_1]) (t := 23) ?hr ?_; (case hd => rfl); (case hg => rfl); (case hr => first | (go_simp; done) | (go_simp; rfl)); intro gb295 hg w2 hbox hb; have n0_ := Aside0.mk (below_step bw hb); have n1_ := Aside0.mk (hbox); have n2_ := Aside0.mk ((by rw [hg]; exact (below_size bw) : w.heap.size ≤ gb295)); have n3_ := Aside0.mk ((by rw [hg]; exact (below_size bw) : w.heap.size ≤ gb295)); clear HB; have HB := n0_; have BK295 := n1_; have GW295 := n2_; have GE295 := n3_; clear n0_ n1_ n2_ n3_; clear hb hbox hg) | ((with_reducible refine gate_dst (N := 2) rfl ?_); refine box_event ?hg (N := 2) ?hd (cs := #[.string (⟨#[]⟩ : ByteArray), .string (⟨#[]⟩ : ByteArray)]) (t := 30) ?hr ?_; (case hd => rfl); (case hg => rfl); (case hr => first | (go_simp; done) | (go_simp; rfl)); intro gb296 hg w3 hbox hb; have n0_ := Aside0.mk (blk_below (g := gb295) (o := .cells #[.string a0_0, .string a0_1] 23 (0, 0)) bk hb); have n1_ := Aside0.mk (below_step bwS hb); have n2_ := Aside0.mk (hbox); have n3_ := Aside0.mk ((by rw [hg]; exact (below_size bwS) : w.heap.size ≤ gb296)); have n4_ := Aside0.mk ((by rw [hg]; exact (below_size bwS) : w.heap.size ≤ gb296)); have n5_ := Aside0.mk ((by rw [hg]; exact Nat.ne_of_lt (blk_lt (g := gb295) (o := .cells #[.string a0_0, .string a0_1] 23 (0, 0)) bk) : gb295 ≠ gb296)); have n6_ := Aside0.mk ((by rw [hg]; exact Nat.ne_of_gt (blk_lt (g := gb295) (o := .cells #[.string a0_0, .string a0_1] 23 (0, 0)) bk) : gb296 ≠ gb295)); clear BK295; clear HB; have BK295 := n0_; have HB := n1_; have BK296 := n2_; have GW296 := n3_; have GE296 := n4_; have NB295_296 := n5_; have NB296_295 := n6_; clear n0_ n1_ n2_ n3_ n4_ n5_ n6_; clear hb hbox hg; have hnb4 := NB295_296.out; have hnc4 := NB296_295.out; obtain ⟨hcz5_0, hcz5_1⟩ := ce2 BK295; obtain ⟨hfz5_0, hfz5_1⟩ := fz2 BK295; have hcz6_0 : w3.cell? ⟨gb296, 0, none⟩ = some (.string (⟨#[]⟩ : ByteArray)) := (blk_cell BK296.out 0).trans rfl; have hcz6_1 : w3.cell? ⟨gb296, 1, none⟩ = some (.string (⟨#[]⟩ : ByteArray)) := (blk_cell BK296.out 1).trans rfl; obtain ⟨hfz6_0, hfz6_1⟩ := fz2 BK296))
 refine bodyPost_ret (results_cell_row rfl _ _ gb296 30 #[.string a0_0, .string a0_1] (0, 0) _ rfl (by (with_reducible repeat (first | refine blk_drewN ?_ _ | refine blk_drew ?_ | refine blk_alloc ?_ _)); refine blk_put (cs := #[.string a0_0, .string (⟨#[]⟩ : ByteArray)]) ?_ 1 _ rfl; (with_reducible repeat (first | refine blk_drewN ?_ _ | refine blk_drew ?_ | refine blk_alloc ?_ _)); exact blk_put (cs := #[.string (⟨#[]⟩ : ByteArray), .string (⟨#[]⟩ : ByteArray)]) bk 0 _ rfl) Tryz.underlying30 rfl (by kernel_rfl)) rfl ?_; exact ⟨ew, bwS⟩
def bulletinlaw32_people.l0 : Nat → List (S23) → List (S30) → Int → Option ((List (S30)))
 | 0, _, _, _ => none
 | k + 1, x0, x3, x4 => if x4 < (x0.length : Int) then (if 0 ≤ x4 then ((bulletinlaw13_To.f ((rd_T23 x0 x4).f0) ((rd_T23 x0 x4).f1)).bind fun bt423 => (if x3.length < 4398046511104 then (bulletinlaw32_people.l0 k x0 (x3 ++ [(⟨bt423.1, bt423.2⟩ : S30)]) (wrap64 (x4 + 1))) else (none))) else (none)) else (some x3)
def bulletinlaw32_people.f (k : Nat) (l0 : List (S23)) : Option ((List (S30))) := bulletinlaw32_people.l0 k l0 ([] : List (S30)) 0
set_option maxRecDepth 100000 in
theorem bulletinlaw32_people.calls (k : Nat) (A0 : Option Addr) (c0 : Nat) (l0 : List (S23)) (r : List (S30)) (w : World) (hr0 : Kd.C k23 w A0 l0.length l0) (hc0 : l0.length ≤ c0) (h : bulletinlaw32_people.f k l0 = some r) :
  Calls Tryz.prog 46 #[.slice A0 l0.length c0] w fun e w' => ∃ v0_ : Value, e = .returned (v0_) ∧ Kd.R k30 30 w' w.heap.size (fun _ => True) v0_ r ∧ Below w.heap.size w w' := by
 have hu23 := Tryz.underlying23; have HR0 := Aside0.mk hr0; have HC0 := Aside0.mk hc0; clear hr0 hc0; have HB := Aside0.mk (Below.refl w.heap.size w); have H : (bulletinlaw32_people.l0 k l0 ([] : List (S30)) 0) = some r := h; clear h; have H' := Aside0.mk H; clear H
 go_enter Tryz.func46, Tryz.ntmps46
 go_wp2
 go_loopg [3, 4] k (fun kq v3 v4 w' => ∃ (x3_1 : List (S30)) (x4_1 : Int), v4 = .int .i64 x4_1 ∧ Aside0 (bulletinlaw32_people.l0 kq l0 x3_1 x4_1 = some r) ∧ Aside0 (kq ≤ k) ∧ Aside0 (Kd.R k30 30 w' w.heap.size (fun _ => True) v3 x3_1) ∧ Aside0 (Below w.heap.size w w'))
 case atStart => exact ⟨(([] : List (S30))), (0), cl, H', ⟨Nat.le_refl _⟩, ⟨by first | exact Kd.R_nil _ _ _ _ _ | exact Kd.N_nil _ _ _ _ _ | exact Kd.V_nil _ _ _ _ _ | exact Kd.Q_nil _ _ _ _ _ | exact Kd.S_nil _ _ _ _ _⟩, ⟨bw⟩⟩
 case round =>
  clear H'; obtain ⟨x3_1, x4_1, rfl, HA, HK1, HO_3, HB⟩ := hrel; cases gk with
  | zero => exact absurd HA.out (by simp [bulletinlaw32_people.l0])
  | succ k1 =>
   have H := HA.out; clear HA; simp only [bulletinlaw32_people.l0] at H
   by_cases c2 : x4_1 < (l0.length : Int)
   ·rw [if_pos c2] at H; have c2b0 := decide_eq_true c2; clear c2
    by_cases c3 : 0 ≤ x4_1
    ·rw [if_pos c3] at H; have c3b0 := decide_eq_true c3; clear c3; replace H := Option.bind_eq_some_iff.mp H; obtain ⟨⟨t423, t424⟩, A40, H⟩ := H; replace H : (if x3_1.length < 4398046511104 then (bulletinlaw32_people.l0 k1 l0 (x3_1 ++ [(⟨t423, t424⟩ : S30)]) (wrap64 (x4_1 + 1))) else (none)) = some r := H; have A4 := Aside0.mk A40; clear A40
     by_cases c5 : x3_1.length < 4398046511104
     ·rw [if_pos c5] at H; have LMc5 := Aside0.mk c5; clear c5; obtain ⟨y425, hy425⟩ : ∃ y_ : List (S30), y_ = (x3_1 ++ [(⟨t423, t424⟩ : S30)]) := ⟨_, rfl⟩
      replace H : (bulletinlaw32_people.l0 k1 l0 y425 (wrap64 (x4_1 + 1))) = some r := by first | (rw [hy425]; with_reducible exact H) | (have H2_ := (Option.bind_some _ _).symm.trans H; rw [hy425]; with_reducible exact H2_) | (have H2_ := (Option.bind_some _ _).symm.trans H; with_reducible exact H2_) | with_reducible exact H | (rw [hy425]; exact H) | exact H
      have Ny425 := Aside0.mk hy425; clear hy425; have H' := Aside0.mk H; clear H; have p422 : 0 ≤ (x4_1 : Int) := od; have q422 : x4_1 < (l0.length : Int) := od; obtain ⟨ad422, e422, hx422_0, hx422_1⟩ := at_T23 HR0.out x4_1 p422 q422; cases e422; replace hx422_0 := hbc HB hx422_0; replace hx422_1 := hbc HB hx422_1; replace p422 := eq_true p422; replace q422 := eq_true q422
      go_wp2_with (first | ((with_reducible refine gate_callee (f := 10) rfl ?_); refine goesL_ (some 16) rfl rfl Tryz.func10 (by kernel_rfl) rfl #[.agg #[.string ((rd_T23 l0 x4_1).f0), .string ((rd_T23 l0 x4_1).f1)]] rfl am ?_; (with_reducible refine (bulletinlaw13_To.calls ((rd_T23 l0 x4_1).f0) ((rd_T23 l0 x4_1).f1) t423 t424 _ A4.out).mono ?_); rintro e w6 ⟨rfl, hb⟩; refine ⟨_, rfl, ?_⟩; have n0_ := Aside0.mk (Kd.R_below (ra HO_3.out) hb); have n1_ := Aside0.mk (below_step bw hb); clear HO_3; clear HB; have HO_3 := n0_; have HB := n1_; clear n0_ n1_; (try clear hb); (try clear hb2); (try clear hk); (try clear hi)) | ((with_reducible refine gate_builtin (b := .append) (xs := #[.tmp 11, .tmp 17]) rfl ?_); at_builtin; refine Kd.R_append k30 (w0 := w) w.heap.size rfl (.tmp 11) (.tmp 17) 44 30 (.agg #[(.string ⟨#[]⟩), (.string ⟨#[]⟩)]) 32 rfl Tryz.underlying44 info30 rfl (by decide) (by omega) u3 x3_1 (⟨t423, t424⟩ : S30) [.string t423, .string t424] (fun _ => True) (fun _ => False) rfl rfl ?aP (fun _ hk => hk.elim) ?aF ?aO ?aB ?aS ?aL ?_; (case aP => exact k30_mkM _ _ _ (⟨t423, t424⟩ : S30)); (case aB => exact bw); (case aF => exact (fun _ _ => trivial)); (case aO => exact (ra HO_3.out)); (case aS => exact (below_size bw)); (case aL => have := LMc5.out; omega); intro v426 w7 ho hb hg hat; rw [← Ny425.out] at ho; have n0_ := Aside0.mk (hb); have n1_ := Aside0.mk (ho); clear HB; clear HO_3; have HB := n0_; have HO427 := n1_; clear n0_ n1_; clear ho hb hg hat))
      go_roundg k1
      case measure => have := HK1.out; omega
      case rel => exact ⟨(y425), (wrap64 (x4_1 + 1)), cl, H', ⟨by have := HK1.out; omega⟩, ⟨ra HO427.out⟩, ⟨bw⟩⟩
     rw [if_neg c5] at H; exact absurd H (by simp)
    rw [if_neg c3] at H; exact absurd H (by simp)
   rw [if_neg c2] at H; have c2b0 := decide_eq_false c2; clear c2; obtain rfl := Option.some.inj H
   go_wp2
   go_ret
   exact ⟨_, ew, ra HO_3.out, bw⟩
def bulletinlaw32_ToList.f (k : Nat) (a0_0 : ByteArray) (a0_1 : ByteArray) (a0_2 : Int) (l0_3 : List (S23)) (l0_4 : List (S23)) (l0_5 : List (S23)) (a0_6 : Int) (a0_7 : Int) (a0_8 : Bool) : Option (ByteArray × ByteArray × Int × (List (S30)) × (List (S30)) × (List (S30)) × Int × Int × Bool) := (bulletinlaw32_people.f k l0_3).bind fun t430 => ((bulletinlaw32_people.f k l0_4).bind fun t433 => ((bulletinlaw32_people.f k l0_5).bind fun t436 => (some (a0_0, a0_1, a0_2, t430, t433, t436, a0_6, a0_7, a0_8))))
def bulletinlaw32_ToList.T1 : Bool × List (List Nat × List Nat) := (true, [([], []), ([0], [0]), ([], []), ([2], [2]), ([], []), ([4], [4]), ([], []), ([6], [6]), ([7], [7]), ([], []), ([9], [9]), ([10, 8], [10]), ([], []), ([12], [12]), ([13, 11], [13]), ([], []), ([15], [15]), ([], []), ([17], [17]), ([], []), ([19], [19]), ([1, 3, 5, 8, 11, 14, 16, 18, 20], [1, 3, 5, 8, 11, 14, 16, 18, 20]), ([21, 14, 0, 1, 2, 3, 4, 5, 6, 7, 8, 9, 10, 11, 12, 13, 14, 15, 16, 17, 18, 19, 20, 21], [21])])
def bulletinlaw32_ToList.B1 : List Nat := [0, 1, 0, 4, 0, 16, 0, 64, 192, 0, 512, 1984, 0, 4096, 16320, 0, 32768, 0, 131072, 0, 524288, 2097151, 4194303]
theorem bulletinlaw32_ToList.tab1 : rtab .any (opsOf Tryz.f16 1) = bulletinlaw32_ToList.T1 := by kernel_rfl
theorem bulletinlaw32_ToList.bits1 : waitsOk bulletinlaw32_ToList.T1.2 bulletinlaw32_ToList.B1 = true := by kernel_rfl
set_option maxRecDepth 100000 in
theorem bulletinlaw32_ToList.calls (k : Nat) (a0_0 : ByteArray) (a0_1 : ByteArray) (a0_2 : Int) (A0_3 : Option Addr) (c0_3 : Nat) (l0_3 : List (S23)) (A0_4 : Option Addr) (c0_4 : Nat) (l0_4 : List (S23)) (A0_5 : Option Addr) (c0_5 : Nat) (l0_5 : List (S23)) (a0_6 : Int) (a0_7 : Int) (a0_8 : Bool) (r1 : ByteArray) (r2 : ByteArray) (r3 : Int) (r4 : List (S30)) (r5 : List (S30)) (r6 : List (S30)) (r7 : Int) (r8 : Int) (r9 : Bool) (w : World) (hr0_3 : Kd.C k23 w A0_3 l0_3.length l0_3) (hc0_3 : l0_3.length ≤ c0_3) (hr0_4 : Kd.C k23 w A0_4 l0_4.length l0_4) (hc0_4 : l0_4.length ≤ c0_4) (hr0_5 : Kd.C k23 w A0_5 l0_5.length l0_5) (hc0_5 : l0_5.length ≤ c0_5) (h : bulletinlaw32_ToList.f k a0_0 a0_1 a0_2 l0_3 l0_4 l0_5 a0_6 a0_7 a0_8 = some (r1, r2, r3, r4, r5, r6, r7, r8, r9)) :
  Calls Tryz.prog 16 #[.agg #[.string a0_0, .string a0_1, .int .i64 a0_2, .slice A0_3 l0_3.length c0_3, .slice A0_4 l0_4.length c0_4, .slice A0_5 l0_5.length c0_5, .int .i64 a0_6, .int .i64 a0_7, .bool a0_8]] w fun e w' => ∃ v3_ v4_ v5_ : Value, e = .returned (.agg #[.string r1, .string r2, .int .i64 r3, v3_, v4_, v5_, .int .i64 r7, .int .i64 r8, .bool r9]) ∧ Kd.R k30 30 w' w.heap.size (fun k_ => some k_ ≠ (v4_ : Value).ownBlock ∧ some k_ ≠ (v5_ : Value).ownBlock) v3_ r4 ∧ Kd.R k30 30 w' w.heap.size (fun k_ => some k_ ≠ (v3_ : Value).ownBlock ∧ some k_ ≠ (v5_ : Value).ownBlock) v4_ r5 ∧ Kd.R k30 30 w' w.heap.size (fun k_ => some k_ ≠ (v3_ : Value).ownBlock ∧ some k_ ≠ (v4_ : Value).ownBlock) v5_ r6 ∧ Below w.heap.size w w' := by
 have hu39 := Tryz.underlying39; have hu46 := Tryz.underlying46; have HR0_3 := Aside0.mk hr0_3; have HC0_3 := Aside0.mk hc0_3; clear hr0_3 hc0_3; have HR0_4 := Aside0.mk hr0_4; have HC0_4 := Aside0.mk hc0_4; clear hr0_4 hc0_4; have HR0_5 := Aside0.mk hr0_5; have HC0_5 := Aside0.mk hc0_5; clear hr0_5 hc0_5; have HB := Aside0.mk (Below.refl w.heap.size w); have H : ((bulletinlaw32_people.f k l0_3).bind fun t430 => ((bulletinlaw32_people.f k l0_4).bind fun t433 => ((bulletinlaw32_people.f k l0_5).bind fun t436 => (some (a0_0, a0_1, a0_2, t430, t433, t436, a0_6, a0_7, a0_8))))) = some (r1, r2, r3, r4, r5, r6, r7, r8, r9) := h; clear h; replace H := Option.bind_eq_some_iff.mp H; obtain ⟨t430, A20, H⟩ := H; have A2 := Aside0.mk A20; clear A20; replace H := Option.bind_eq_some_iff.mp H; obtain ⟨t433, A30, H⟩ := H; have A3 := Aside0.mk A30; clear A30; replace H := Option.bind_eq_some_iff.mp H; obtain ⟨t436, A40, H⟩ := H; have A4 := Aside0.mk A40; clear A40; simp only [Option.some.injEq, Prod.mk.injEq] at H; obtain ⟨rfl, rfl, rfl, rfl, rfl, rfl, rfl, rfl, rfl⟩ := H
 go_enter Tryz.func16, Tryz.ntmps16
 try go_wp2_with (first | ((with_reducible refine gate_dst (N := 1) rfl ?_); refine box_event ?hg (N := 1) ?hd (cs := #[.string a0_0, .string a0_1, .int .i64 a0_2, .slice A0_3 l0_3.length c0_3, .slice A0_4 l0_4.length c0_4, .slice A0_5 l0_5.length c0_5, .int .i64 a0_6, .int .i64 a0_7, .bool a0_8]) (t := 39) ?hr ?_; (case hd => rfl); (case hg => rfl); (case hr => first | (go_simp; done) | (go_simp; rfl)); intro gb428 hg w5 hbox hb; have n0_ := Aside0.mk (below_step bw hb); have n1_ := Aside0.mk (hbox); have n2_ := Aside0.mk ((by rw [hg]; exact (below_size bw) : w.heap.size ≤ gb428)); have n3_ := Aside0.mk ((by rw [hg]; exact (below_size bw) : w.heap.size ≤ gb428)); clear HB; have HB := n0_; have BK428 := n1_; have GW428 := n2_; have GE428 := n3_; clear n0_ n1_ n2_ n3_; clear hb hbox hg) | ((with_reducible refine gate_dst (N := 2) rfl ?_); refine box_event ?hg (N := 2) ?hd (cs := #[.string (⟨#[]⟩ : ByteArray), .string (⟨#[]⟩ : ByteArray), .int .i64 0, .slice none 0 0, .slice none 0 0, .slice none 0 0, .int .i64 0, .int .i64 0, .bool false]) (t := 46) ?hr ?_; (case hd => rfl); (case hg => rfl); (case hr => first | (go_simp; done) | (go_simp; rfl)); intro gb429 hg w6 hbox hb; have n0_ := Aside0.mk (blk_below (g := gb428) (o := .cells #[.string a0_0, .string a0_1, .int .i64 a0_2, .slice A0_3 l0_3.length c0_3, .slice A0_4 l0_4.length c0_4, .slice A0_5 l0_5.length c0_5, .int .i64 a0_6, .int .i64 a0_7, .bool a0_8] 39 (0, 0)) bk hb); have n1_ := Aside0.mk (below_step bwS hb); have n2_ := Aside0.mk (hbox); have n3_ := Aside0.mk ((by rw [hg]; exact (below_size bwS) : w.heap.size ≤ gb429)); have n4_ := Aside0.mk ((by rw [hg]; exact (below_size bwS) : w.heap.size ≤ gb429)); have n5_ := Aside0.mk ((by rw [hg]; exact Nat.ne_of_lt (blk_lt (g := gb428) (o := .cells #[.string a0_0, .string a0_1, .int .i64 a0_2, .slice A0_3 l0_3.length c0_3, .slice A0_4 l0_4.length c0_4, .slice A0_5 l0_5.length c0_5, .int .i64 a0_6, .int .i64 a0_7, .bool a0_8] 39 (0, 0)) bk) : gb428 ≠ gb429)); have n6_ := Aside0.mk ((by rw [hg]; exact Nat.ne_of_gt (blk_lt (g := gb428) (o := .cells #[.string a0_0, .string a0_1, .int .i64 a0_2, .slice A0_3 l0_3.length c0_3, .slice A0_4 l0_4.length c0_4, .slice A0_5 l0_5.length c0_5, .int .i64 a0_6, .int .i64 a0_7, .bool a0_8] 39 (0, 0)) bk) : gb429 ≠ gb428)); clear BK428; clear HB; have BK428 := n0_; have HB := n1_; have BK429 := n2_; have GW429 := n3_; have GE429 := n4_; have NB428_429 := n5_; have NB429_428 := n6_; clear n0_ n1_ n2_ n3_ n4_ n5_ n6_; clear hb hbox hg))
 have n0_ := Aside0.mk (blk_drew BK428.out); have n1_ := Aside0.mk (blk_drew BK429.out); have n2_ := Aside0.mk (below_drew1 HB.out); clear BK428 BK429 HB; have BK428 := n0_; have BK429 := n1_; have HB := n2_; clear n0_ n1_ n2_; refine start_ (n := 23) (S := fun w' => w'.cell? ⟨gb428, 0, none⟩ = some (.string a0_0) ∧ w'.cell? ⟨gb428, 1, none⟩ = some (.string a0_1) ∧ w'.cell? ⟨gb428, 2, none⟩ = some (.int .i64 a0_2) ∧ w'.cell? ⟨gb428, 3, none⟩ = some (.slice A0_3 l0_3.length c0_3) ∧ w'.cell? ⟨gb428, 4, none⟩ = some (.slice A0_4 l0_4.length c0_4) ∧ w'.cell? ⟨gb428, 5, none⟩ = some (.slice A0_5 l0_5.length c0_5) ∧ w'.cell? ⟨gb428, 6, none⟩ = some (.int .i64 a0_6) ∧ w'.cell? ⟨gb428, 7, none⟩ = some (.int .i64 a0_7) ∧ w'.cell? ⟨gb428, 8, none⟩ = some (.bool a0_8)) (ds := []) #[false, false, false, false, false, false, false, false, false, false, false, false, false, false, false, false, false, false, false, false, false, false, false] (by kernel_rfl) rfl rfl ⟨(blk_cell BK428.out 0).trans rfl, (blk_cell BK428.out 1).trans rfl, (blk_cell BK428.out 2).trans rfl, (blk_cell BK428.out 3).trans rfl, (blk_cell BK428.out 4).trans rfl, (blk_cell BK428.out 5).trans rfl, (blk_cell BK428.out 6).trans rfl, (blk_cell BK428.out 7).trans rfl, (blk_cell BK428.out 8).trans rfl⟩ (fun hHeld => ?_); refine with_tabW bulletinlaw32_ToList.tab1 bulletinlaw32_ToList.bits1 (fun HT_ HW_ => ?_)
 generalize w6.drew = w7 at BK428 BK429 HB hHeld ⊢
 refine pure_ (i := 0) (N := some 3) (v := ?_) (a' := ?_) (bitsL 23 1) rfl rfl (any_of HT_.out (by kernel_rfl)) (fun _ _ _ h => h) (Or.inl ⟨by rfl, ?_⟩) ?_ ?_; rotate_left
 ·intro w'; go_simp; with_reducible rfl
 rotate_left
 ·simp only [Act.put, sa_, sz_, ss_, i64_w, i32_w]; rfl
 refine pure_ (i := 2) (N := some 5) (v := ?_) (a' := ?_) (bitsL 23 5) rfl rfl (any_of HT_.out (by kernel_rfl)) (fun _ _ _ h => h) (Or.inl ⟨by rfl, ?_⟩) ?_ ?_; rotate_left
 ·intro w'; go_simp; with_reducible rfl
 rotate_left
 ·simp only [Act.put, sa_, sz_, ss_, i64_w, i32_w]; rfl
 refine pure_ (i := 4) (N := some 7) (v := ?_) (a' := ?_) (bitsL 23 21) rfl rfl (any_of HT_.out (by kernel_rfl)) (fun _ _ _ h => h) (Or.inl ⟨by rfl, ?_⟩) ?_ ?_; rotate_left
 ·intro w'; go_simp; with_reducible rfl
 rotate_left
 ·simp only [Act.put, sa_, sz_, ss_, i64_w, i32_w]; rfl
 refine pure_ (i := 6) (N := some 9) (v := ?_) (a' := ?_) (bitsL 23 85) rfl rfl (any_of HT_.out (by kernel_rfl)) (fun _ _ _ h => h) (Or.inl ⟨by rfl, ?_⟩) ?_ ?_; rotate_left
 ·intro w'; go_simp; with_reducible rfl
 rotate_left
 ·simp only [Act.put, sa_, sz_, ss_, i64_w, i32_w]; rfl
 refine pure_ (i := 9) (N := some 12) (v := ?_) (a' := ?_) (bitsL 23 597) rfl rfl (any_of HT_.out (by kernel_rfl)) (fun _ _ _ h => h) (Or.inl ⟨by rfl, ?_⟩) ?_ ?_; rotate_left
 ·intro w'; go_simp; with_reducible rfl
 rotate_left
 ·simp only [Act.put, sa_, sz_, ss_, i64_w, i32_w]; rfl
 refine pure_ (i := 12) (N := some 15) (v := ?_) (a' := ?_) (bitsL 23 4693) rfl rfl (any_of HT_.out (by kernel_rfl)) (fun _ _ _ h => h) (Or.inl ⟨by rfl, ?_⟩) ?_ ?_; rotate_left
 ·intro w'; go_simp; with_reducible rfl
 rotate_left
 ·simp only [Act.put, sa_, sz_, ss_, i64_w, i32_w]; rfl
 refine pure_ (i := 15) (N := some 18) (v := ?_) (a' := ?_) (bitsL 23 37461) rfl rfl (any_of HT_.out (by kernel_rfl)) (fun _ _ _ h => h) (Or.inl ⟨by rfl, ?_⟩) ?_ ?_; rotate_left
 ·intro w'; go_simp; with_reducible rfl
 rotate_left
 ·simp only [Act.put, sa_, sz_, ss_, i64_w, i32_w]; rfl
 refine pure_ (i := 17) (N := some 20) (v := ?_) (a' := ?_) (bitsL 23 168533) rfl rfl (any_of HT_.out (by kernel_rfl)) (fun _ _ _ h => h) (Or.inl ⟨by rfl, ?_⟩) ?_ ?_; rotate_left
 ·intro w'; go_simp; with_reducible rfl
 rotate_left
 ·simp only [Act.put, sa_, sz_, ss_, i64_w, i32_w]; rfl
 refine pure_ (i := 19) (N := some 22) (v := ?_) (a' := ?_) (bitsL 23 692821) rfl rfl (any_of HT_.out (by kernel_rfl)) (fun _ _ _ h => h) (Or.inl ⟨by rfl, ?_⟩) ?_ ?_; rotate_left
 ·intro w'; go_simp; with_reducible rfl
 rotate_left
 ·simp only [Act.put, sa_, sz_, ss_, i64_w, i32_w]; rfl
 refine take_ (i := 1) (N := some 4) (v := ?_) (a' := ?_) (bitsL 23 692823) rfl rfl (take_ofW HT_.out HW_.out (by kernel_rfl)) (fun _ _ _ h => h) (Or.inl ⟨by rfl, ?_⟩) hHeld ?_ ?_; rotate_left
 ·rintro w' ⟨s0, s1, s2, s3, s4, s5, s6, s7, s8⟩; go_simp; with_reducible rfl
 rotate_left
 ·simp only [Act.put, sa_, sz_, ss_, i64_w, i32_w]; rfl
 refine take_ (i := 3) (N := some 6) (v := ?_) (a' := ?_) (bitsL 23 692831) rfl rfl (take_ofW HT_.out HW_.out (by kernel_rfl)) (fun _ _ _ h => h) (Or.inl ⟨by rfl, ?_⟩) hHeld ?_ ?_; rotate_left
 ·rintro w' ⟨s0, s1, s2, s3, s4, s5, s6, s7, s8⟩; go_simp; with_reducible rfl
 rotate_left
 ·simp only [Act.put, sa_, sz_, ss_, i64_w, i32_w]; rfl
 refine take_ (i := 5) (N := some 8) (v := ?_) (a' := ?_) (bitsL 23 692863) rfl rfl (take_ofW HT_.out HW_.out (by kernel_rfl)) (fun _ _ _ h => h) (Or.inl ⟨by rfl, ?_⟩) hHeld ?_ ?_; rotate_left
 ·rintro w' ⟨s0, s1, s2, s3, s4, s5, s6, s7, s8⟩; go_simp; with_reducible rfl
 rotate_left
 ·simp only [Act.put, sa_, sz_, ss_, i64_w, i32_w]; rfl
 refine take_ (i := 7) (N := some 10) (v := ?_) (a' := ?_) (bitsL 23 692991) rfl rfl (take_ofW HT_.out HW_.out (by kernel_rfl)) (fun _ _ _ h => h) (Or.inl ⟨by rfl, ?_⟩) hHeld ?_ ?_; rotate_left
 ·rintro w' ⟨s0, s1, s2, s3, s4, s5, s6, s7, s8⟩; go_simp; with_reducible rfl
 rotate_left
 ·simp only [Act.put, sa_, sz_, ss_, i64_w, i32_w]; rfl
 refine take_ (i := 10) (N := some 13) (v := ?_) (a' := ?_) (bitsL 23 694015) rfl rfl (take_ofW HT_.out HW_.out (by kernel_rfl)) (fun _ _ _ h => h) (Or.inl ⟨by rfl, ?_⟩) hHeld ?_ ?_; rotate_left
 ·rintro w' ⟨s0, s1, s2, s3, s4, s5, s6, s7, s8⟩; go_simp; with_reducible rfl
 rotate_left
 ·simp only [Act.put, sa_, sz_, ss_, i64_w, i32_w]; rfl
 refine take_ (i := 13) (N := some 16) (v := ?_) (a' := ?_) (bitsL 23 702207) rfl rfl (take_ofW HT_.out HW_.out (by kernel_rfl)) (fun _ _ _ h => h) (Or.inl ⟨by rfl, ?_⟩) hHeld ?_ ?_; rotate_left
 ·rintro w' ⟨s0, s1, s2, s3, s4, s5, s6, s7, s8⟩; go_simp; with_reducible rfl
 rotate_left
 ·simp only [Act.put, sa_, sz_, ss_, i64_w, i32_w]; rfl
 refine take_ (i := 16) (N := some 19) (v := ?_) (a' := ?_) (bitsL 23 767743) rfl rfl (take_ofW HT_.out HW_.out (by kernel_rfl)) (fun _ _ _ h => h) (Or.inl ⟨by rfl, ?_⟩) hHeld ?_ ?_; rotate_left
 ·rintro w' ⟨s0, s1, s2, s3, s4, s5, s6, s7, s8⟩; go_simp; with_reducible rfl
 rotate_left
 ·simp only [Act.put, sa_, sz_, ss_, i64_w, i32_w]; rfl
 refine take_ (i := 18) (N := some 21) (v := ?_) (a' := ?_) (bitsL 23 1029887) rfl rfl (take_ofW HT_.out HW_.out (by kernel_rfl)) (fun _ _ _ h => h) (Or.inl ⟨by rfl, ?_⟩) hHeld ?_ ?_; rotate_left
 ·rintro w' ⟨s0, s1, s2, s3, s4, s5, s6, s7, s8⟩; go_simp; with_reducible rfl
 rotate_left
 ·simp only [Act.put, sa_, sz_, ss_, i64_w, i32_w]; rfl
 refine take_ (i := 20) (N := some 23) (v := ?_) (a' := ?_) (bitsL 23 2078463) rfl rfl (take_ofW HT_.out HW_.out (by kernel_rfl)) (fun _ _ _ h => h) (Or.inl ⟨by rfl, ?_⟩) hHeld ?_ ?_; rotate_left
 ·rintro w' ⟨s0, s1, s2, s3, s4, s5, s6, s7, s8⟩; go_simp; with_reducible rfl
 rotate_left
 ·simp only [Act.put, sa_, sz_, ss_, i64_w, i32_w]; rfl
 refine one_ (i := 8) (N := some 11) (bitsL 23 2078719) rfl rfl (one_of HT_.out (by kernel_rfl)) (by decide) (fun K hK => ?_); refine goes_ Tryz.func46 (by kernel_rfl) rfl #[.slice A0_3 l0_3.length c0_3] (by rfl) rfl rfl am ?_; with_reducible refine (bulletinlaw32_people.calls k _ _ l0_3 t430 _ ?side1 ?side2 A2.out).mono ?_
 (case side1 => repeat (first | exact (Kd.C_below HR0_3.out HB.out) | (with_reducible refine Kd.C_alloc ?_ _) | (with_reducible refine Kd.C_drewN ?_ _) | (with_reducible refine Kd.C_drew ?_)))
 (case side2 => exact HC0_3.out)
 rintro e w8 ⟨v431, rfl, ho0, hb⟩; refine ⟨_, rfl, ?_⟩; have n0_ := Aside0.mk (Kd.R_lower ho0 (below_size bwS)); have n1_ := Aside0.mk (blk_below (g := gb428) (o := .cells #[.string a0_0, .string a0_1, .int .i64 a0_2, .slice A0_3 l0_3.length c0_3, .slice A0_4 l0_4.length c0_4, .slice A0_5 l0_5.length c0_5, .int .i64 a0_6, .int .i64 a0_7, .bool a0_8] 39 (0, 0)) bk hb); have n2_ := Aside0.mk (blk_below (g := gb429) (o := .cells #[.string (⟨#[]⟩ : ByteArray), .string (⟨#[]⟩ : ByteArray), .int .i64 0, .slice none 0 0, .slice none 0 0, .slice none 0 0, .int .i64 0, .int .i64 0, .bool false] 46 (0, 0)) bk hb); have n3_ := Aside0.mk (below_step bwS hb); clear BK428 BK429 HB; have HO432 := n0_; have BK428 := n1_; have BK429 := n2_; have HB := n3_; clear n0_ n1_ n2_ n3_
 (try clear hb)
 (try clear hb2)
 (try clear hk)
 (try clear hi)
 (try clear ho0)
 refine hK.out _ _ ⟨(blk_cell BK428.out 0).trans rfl, (blk_cell BK428.out 1).trans rfl, (blk_cell BK428.out 2).trans rfl, (blk_cell BK428.out 3).trans rfl, (blk_cell BK428.out 4).trans rfl, (blk_cell BK428.out 5).trans rfl, (blk_cell BK428.out 6).trans rfl, (blk_cell BK428.out 7).trans rfl, (blk_cell BK428.out 8).trans rfl⟩ (fun hHeld => ?_); clear hK K; refine norm_ (a' := ?_) ?_ ?_; rotate_left
 ·show Act.put _ (some 11) _ = _
  simp only [Act.put, sa_, sz_, ss_, i64_w, i32_w]; rfl
 refine one_ (i := 11) (N := some 14) (bitsL 23 2080767) rfl rfl (one_of HT_.out (by kernel_rfl)) (by decide) (fun K hK => ?_); refine goes_ Tryz.func46 (by kernel_rfl) rfl #[.slice A0_4 l0_4.length c0_4] (by rfl) rfl rfl am ?_; with_reducible refine (bulletinlaw32_people.calls k _ _ l0_4 t433 _ ?side1 ?side2 A3.out).mono ?_
 (case side1 => repeat (first | exact (Kd.C_below HR0_4.out HB.out) | (with_reducible refine Kd.C_alloc ?_ _) | (with_reducible refine Kd.C_drewN ?_ _) | (with_reducible refine Kd.C_drew ?_)))
 (case side2 => exact HC0_4.out)
 rintro e w9 ⟨v434, rfl, ho0, hb⟩; refine ⟨_, rfl, ?_⟩; have n0_ := Aside0.mk (Kd.R_elder' (ra HO432.out) (Kd.R_base ho0) hb); have n1_ := Aside0.mk (Kd.R_lower (Kd.R_new' ho0 (Kd.R_lt (ra HO432.out))) (below_size bwS)); have n2_ := Aside0.mk (blk_below (g := gb428) (o := .cells #[.string a0_0, .string a0_1, .int .i64 a0_2, .slice A0_3 l0_3.length c0_3, .slice A0_4 l0_4.length c0_4, .slice A0_5 l0_5.length c0_5, .int .i64 a0_6, .int .i64 a0_7, .bool a0_8] 39 (0, 0)) bk hb); have n3_ := Aside0.mk (blk_below (g := gb429) (o := .cells #[.string (⟨#[]⟩ : ByteArray), .string (⟨#[]⟩ : ByteArray), .int .i64 0, .slice none 0 0, .slice none 0 0, .slice none 0 0, .int .i64 0, .int .i64 0, .bool false] 46 (0, 0)) bk hb); have n4_ := Aside0.mk (below_step bwS hb); clear HO432 BK428 BK429 HB; have HO432 := n0_; have HO435 := n1_; have BK428 := n2_; have BK429 := n3_; have HB := n4_; clear n0_ n1_ n2_ n3_ n4_
 (try clear hb)
 (try clear hb2)
 (try clear hk)
 (try clear hi)
 (try clear ho0)
 refine hK.out _ _ ⟨(blk_cell BK428.out 0).trans rfl, (blk_cell BK428.out 1).trans rfl, (blk_cell BK428.out 2).trans rfl, (blk_cell BK428.out 3).trans rfl, (blk_cell BK428.out 4).trans rfl, (blk_cell BK428.out 5).trans rfl, (blk_cell BK428.out 6).trans rfl, (blk_cell BK428.out 7).trans rfl, (blk_cell BK428.out 8).trans rfl⟩ (fun hHeld => ?_); clear hK K; refine norm_ (a' := ?_) ?_ ?_; rotate_left
 ·show Act.put _ (some 14) _ = _
  simp only [Act.put, sa_, sz_, ss_, i64_w, i32_w]; rfl
 refine one_ (i := 14) (N := some 17) (bitsL 23 2097151) rfl rfl (one_of HT_.out (by kernel_rfl)) (by decide) (fun K hK => ?_); refine goes_ Tryz.func46 (by kernel_rfl) rfl #[.slice A0_5 l0_5.length c0_5] (by rfl) rfl rfl am ?_; with_reducible refine (bulletinlaw32_people.calls k _ _ l0_5 t436 _ ?side1 ?side2 A4.out).mono ?_
 (case side1 => repeat (first | exact (Kd.C_below HR0_5.out HB.out) | (with_reducible refine Kd.C_alloc ?_ _) | (with_reducible refine Kd.C_drewN ?_ _) | (with_reducible refine Kd.C_drew ?_)))
 (case side2 => exact HC0_5.out)
 rintro e w10 ⟨v437, rfl, ho0, hb⟩; refine ⟨_, rfl, ?_⟩; have n0_ := Aside0.mk (Kd.R_elder' (ra HO432.out) (Kd.R_base ho0) hb); have n1_ := Aside0.mk (Kd.R_elder' (ra HO435.out) (Kd.R_base ho0) hb); have n2_ := Aside0.mk (Kd.R_lower (Kd.R_new' (Kd.R_new' ho0 (Kd.R_lt (ra HO432.out))) (Kd.R_lt (ra HO435.out))) (below_size bwS)); have n3_ := Aside0.mk (blk_below (g := gb428) (o := .cells #[.string a0_0, .string a0_1, .int .i64 a0_2, .slice A0_3 l0_3.length c0_3, .slice A0_4 l0_4.length c0_4, .slice A0_5 l0_5.length c0_5, .int .i64 a0_6, .int .i64 a0_7, .bool a0_8] 39 (0, 0)) bk hb); have n4_ := Aside0.mk (blk_below (g := gb429) (o := .cells #[.string (⟨#[]⟩ : ByteArray), .string (⟨#[]⟩ : ByteArray), .int .i64 0, .slice none 0 0, .slice none 0 0, .slice none 0 0, .int .i64 0, .int .i64 0, .bool false] 46 (0, 0)) bk hb); have n5_ := Aside0.mk (below_step bwS hb); clear HO432 HO435 BK428 BK429 HB; have HO432 := n0_; have HO435 := n1_; have HO438 := n2_; have BK428 := n3_; have BK429 := n4_; have HB := n5_; clear n0_ n1_ n2_ n3_ n4_ n5_
 (try clear hb)
 (try clear hb2)
 (try clear hk)
 (try clear hi)
 (try clear ho0)
 obtain ⟨Ao11, co11, eo11⟩ := Kd.R_slice HO438.out
 (first | subst eo11 | (injection eo11 with f1_ f2_ f3_; have f4_ := f1_.symm; have f5_ := f3_.symm; clear f1_ f2_ f3_; subst f4_; subst f5_))
 obtain ⟨Ao12, co12, eo12⟩ := Kd.R_slice HO435.out
 (first | subst eo12 | (injection eo12 with f1_ f2_ f3_; have f4_ := f1_.symm; have f5_ := f3_.symm; clear f1_ f2_ f3_; subst f4_; subst f5_))
 obtain ⟨Ao13, co13, eo13⟩ := Kd.R_slice HO432.out
 (first | subst eo13 | (injection eo13 with f1_ f2_ f3_; have f4_ := f1_.symm; have f5_ := f3_.symm; clear f1_ f2_ f3_; subst f4_; subst f5_))
 refine hK.out _ _ ⟨(blk_cell BK428.out 0).trans rfl, (blk_cell BK428.out 1).trans rfl, (blk_cell BK428.out 2).trans rfl, (blk_cell BK428.out 3).trans rfl, (blk_cell BK428.out 4).trans rfl, (blk_cell BK428.out 5).trans rfl, (blk_cell BK428.out 6).trans rfl, (blk_cell BK428.out 7).trans rfl, (blk_cell BK428.out 8).trans rfl⟩ (fun hHeld => ?_); clear hK K; refine norm_ (a' := ?_) ?_ ?_; rotate_left
 ·show Act.put _ (some 17) _ = _
  simp only [Act.put, sa_, sz_, ss_, i64_w, i32_w]; rfl
 refine pure_ (i := 21) (N := some 24) (v := ?_) (a' := ?_) (bitsL 23 4194303) rfl rfl (any_of HT_.out (by kernel_rfl)) (fun _ _ _ h => h) (Or.inl ⟨by rfl, ?_⟩) ?_ ?_; rotate_left
 ·intro w'; go_simp; with_reducible rfl
 rotate_left
 ·simp only [Act.put, sa_, sz_, ss_, i64_w, i32_w]; rfl
 refine one_ (i := 22) (N := none) (bitsL 23 8388607) rfl rfl (one_of HT_.out (by kernel_rfl)) (by decide) (fun K hK => ?_); have hs14 : w10.cell? ⟨gb429, 0, none⟩ = some (.string (⟨#[]⟩ : ByteArray)) := (blk_cell BK429.out 0).trans rfl; have hfs14 := blk_frozen BK429.out 0; have hns14_0 := NB428_429.out; have hms14_0 := NB429_428.out; have hs15 : w10.cell? ⟨gb429, 1, none⟩ = some (.string (⟨#[]⟩ : ByteArray)) := (blk_cell BK429.out 1).trans rfl; have hfs15 := blk_frozen BK429.out 1; have hns15_0 := NB428_429.out; have hms15_0 := NB429_428.out; have hs16 : w10.cell? ⟨gb429, 2, none⟩ = some (.int .i64 0) := (blk_cell BK429.out 2).trans rfl; have hfs16 := blk_frozen BK429.out 2; have hns16_0 := NB428_429.out; have hms16_0 := NB429_428.out; have hs17 : w10.cell? ⟨gb429, 3, none⟩ = some (.slice none 0 0) := (blk_cell BK429.out 3).trans rfl; have hfs17 := blk_frozen BK429.out 3; have hns17_0 := NB428_429.out; have hms17_0 := NB429_428.out; have hs18 : w10.cell? ⟨gb429, 4, none⟩ = some (.slice none 0 0) := (blk_cell BK429.out 4).trans rfl; have hfs18 := blk_frozen BK429.out 4; have hns18_0 := NB428_429.out; have hms18_0 := NB429_428.out; have hs19 : w10.cell? ⟨gb429, 5, none⟩ = some (.slice none 0 0) := (blk_cell BK429.out 5).trans rfl; have hfs19 := blk_frozen BK429.out 5; have hns19_0 := NB428_429.out; have hms19_0 := NB429_428.out; have hs20 : w10.cell? ⟨gb429, 6, none⟩ = some (.int .i64 0) := (blk_cell BK429.out 6).trans rfl; have hfs20 := blk_frozen BK429.out 6; have hns20_0 := NB428_429.out; have hms20_0 := NB429_428.out; have hs21 : w10.cell? ⟨gb429, 7, none⟩ = some (.int .i64 0) := (blk_cell BK429.out 7).trans rfl; have hfs21 := blk_frozen BK429.out 7; have hns21_0 := NB428_429.out; have hms21_0 := NB429_428.out; have hs22 : w10.cell? ⟨gb429, 8, none⟩ = some (.bool false) := (blk_cell BK429.out 8).trans rfl; have hfs22 := blk_frozen BK429.out 8; have hns22_0 := NB428_429.out; have hms22_0 := NB429_428.out; refine skip_ (w1 := ?_) (by rfl) rfl ?_ ?_; rotate_left
 ·go_simp; rfl
 refine hK.out _ _ ⟨((cell_far (p := ⟨gb429, _, none⟩) NB428_429.out _).trans (((cell_far (p := ⟨gb429, _, none⟩) NB428_429.out _).trans (((cell_far (p := ⟨gb429, _, none⟩) NB428_429.out _).trans (((cell_far (p := ⟨gb429, _, none⟩) NB428_429.out _).trans (((cell_far (p := ⟨gb429, _, none⟩) NB428_429.out _).trans (((cell_far (p := ⟨gb429, _, none⟩) NB428_429.out _).trans (((cell_far (p := ⟨gb429, _, none⟩) NB428_429.out _).trans (((cell_far (p := ⟨gb429, _, none⟩) NB428_429.out _).trans (((cell_far (p := ⟨gb429, _, none⟩) NB428_429.out _).trans (hHeld.1)))))))))))))))))), ((cell_far (p := ⟨gb429, _, none⟩) NB428_429.out _).trans (((cell_far (p := ⟨gb429, _, none⟩) NB428_429.out _).trans (((cell_far (p := ⟨gb429, _, none⟩) NB428_429.out _).trans (((cell_far (p := ⟨gb429, _, none⟩) NB428_429.out _).trans (((cell_far (p := ⟨gb429, _, none⟩) NB428_429.out _).trans (((cell_far (p := ⟨gb429, _, none⟩) NB428_429.out _).trans (((cell_far (p := ⟨gb429, _, none⟩) NB428_429.out _).trans (((cell_far (p := ⟨gb429, _, none⟩) NB428_429.out _).trans (((cell_far (p := ⟨gb429, _, none⟩) NB428_429.out _).trans (hHeld.2.1)))))))))))))))))), ((cell_far (p := ⟨gb429, _, none⟩) NB428_429.out _).trans (((cell_far (p := ⟨gb429, _, none⟩) NB428_429.out _).trans (((cell_far (p := ⟨gb429, _, none⟩) NB428_429.out _).trans (((cell_far (p := ⟨gb429, _, none⟩) NB428_429.out _).trans (((cell_far (p := ⟨gb429, _, none⟩) NB428_429.out _).trans (((cell_far (p := ⟨gb429, _, none⟩) NB428_429.out _).trans (((cell_far (p := ⟨gb429, _, none⟩) NB428_429.out _).trans (((cell_far (p := ⟨gb429, _, none⟩) NB428_429.out _).trans (((cell_far (p := ⟨gb429, _, none⟩) NB428_429.out _).trans (hHeld.2.2.1)))))))))))))))))), ((cell_far (p := ⟨gb429, _, none⟩) NB428_429.out _).trans (((cell_far (p := ⟨gb429, _, none⟩) NB428_429.out _).trans (((cell_far (p := ⟨gb429, _, none⟩) NB428_429.out _).trans (((cell_far (p := ⟨gb429, _, none⟩) NB428_429.out _).trans (((cell_far (p := ⟨gb429, _, none⟩) NB428_429.out _).trans (((cell_far (p := ⟨gb429, _, none⟩) NB428_429.out _).trans (((cell_far (p := ⟨gb429, _, none⟩) NB428_429.out _).trans (((cell_far (p := ⟨gb429, _, none⟩) NB428_429.out _).trans (((cell_far (p := ⟨gb429, _, none⟩) NB428_429.out _).trans (hHeld.2.2.2.1)))))))))))))))))), ((cell_far (p := ⟨gb429, _, none⟩) NB428_429.out _).trans (((cell_far (p := ⟨gb429, _, none⟩) NB428_429.out _).trans (((cell_far (p := ⟨gb429, _, none⟩) NB428_429.out _).trans (((cell_far (p := ⟨gb429, _, none⟩) NB428_429.out _).trans (((cell_far (p := ⟨gb429, _, none⟩) NB428_429.out _).trans (((cell_far (p := ⟨gb429, _, none⟩) NB428_429.out _).trans (((cell_far (p := ⟨gb429, _, none⟩) NB428_429.out _).trans (((cell_far (p := ⟨gb429, _, none⟩) NB428_429.out _).trans (((cell_far (p := ⟨gb429, _, none⟩) NB428_429.out _).trans (hHeld.2.2.2.2.1)))))))))))))))))), ((cell_far (p := ⟨gb429, _, none⟩) NB428_429.out _).trans (((cell_far (p := ⟨gb429, _, none⟩) NB428_429.out _).trans (((cell_far (p := ⟨gb429, _, none⟩) NB428_429.out _).trans (((cell_far (p := ⟨gb429, _, none⟩) NB428_429.out _).trans (((cell_far (p := ⟨gb429, _, none⟩) NB428_429.out _).trans (((cell_far (p := ⟨gb429, _, none⟩) NB428_429.out _).trans (((cell_far (p := ⟨gb429, _, none⟩) NB428_429.out _).trans (((cell_far (p := ⟨gb429, _, none⟩) NB428_429.out _).trans (((cell_far (p := ⟨gb429, _, none⟩) NB428_429.out _).trans (hHeld.2.2.2.2.2.1)))))))))))))))))), ((cell_far (p := ⟨gb429, _, none⟩) NB428_429.out _).trans (((cell_far (p := ⟨gb429, _, none⟩) NB428_429.out _).trans (((cell_far (p := ⟨gb429, _, none⟩) NB428_429.out _).trans (((cell_far (p := ⟨gb429, _, none⟩) NB428_429.out _).trans (((cell_far (p := ⟨gb429, _, none⟩) NB428_429.out _).trans (((cell_far (p := ⟨gb429, _, none⟩) NB428_429.out _).trans (((cell_far (p := ⟨gb429, _, none⟩) NB428_429.out _).trans (((cell_far (p := ⟨gb429, _, none⟩) NB428_429.out _).trans (((cell_far (p := ⟨gb429, _, none⟩) NB428_429.out _).trans (hHeld.2.2.2.2.2.2.1)))))))))))))))))), ((cell_far (p := ⟨gb429, _, none⟩) NB428_429.out _).trans (((cell_far (p := ⟨gb429, _, none⟩) NB428_429.out _).trans (((cell_far (p := ⟨gb429, _, none⟩) NB428_429.out _).trans (((cell_far (p := ⟨gb429, _, none⟩) NB428_429.out _).trans (((cell_far (p := ⟨gb429, _, none⟩) NB428_429.out _).trans (((cell_far (p := ⟨gb429, _, none⟩) NB428_429.out _).trans (((cell_far (p := ⟨gb429, _, none⟩) NB428_429.out _).trans (((cell_far (p := ⟨gb429, _, none⟩) NB428_429.out _).trans (((cell_far (p := ⟨gb429, _, none⟩) NB428_429.out _).trans (hHeld.2.2.2.2.2.2.2.1)))))))))))))))))), ((cell_far (p := ⟨gb429, _, none⟩) NB428_429.out _).trans (((cell_far (p := ⟨gb429, _, none⟩) NB428_429.out _).trans (((cell_far (p := ⟨gb429, _, none⟩) NB428_429.out _).trans (((cell_far (p := ⟨gb429, _, none⟩) NB428_429.out _).trans (((cell_far (p := ⟨gb429, _, none⟩) NB428_429.out _).trans (((cell_far (p := ⟨gb429, _, none⟩) NB428_429.out _).trans (((cell_far (p := ⟨gb429, _, none⟩) NB428_429.out _).trans (((cell_far (p := ⟨gb429, _, none⟩) NB428_429.out _).trans (((cell_far (p := ⟨gb429, _, none⟩) NB428_429.out _).trans (hHeld.2.2.2.2.2.2.2.2))))))))))))))))))⟩ (fun hHeld => ?_); clear hK K; refine done_ (done_of HT_.out (by kernel_rfl)) ?_
 try go_wp2
 refine bodyPost_ret (results_cell_row rfl _ _ gb429 46 #[.string a0_0, .string a0_1, .int .i64 a0_2, .slice Ao13 t430.length co13, .slice Ao12 t433.length co12, .slice Ao11 t436.length co11, .int .i64 a0_6, .int .i64 a0_7, .bool a0_8] (0, 0) _ rfl (by (with_reducible repeat (first | refine blk_drewN ?_ _ | refine blk_drew ?_ | refine blk_alloc ?_ _)); refine blk_put (cs := #[.string a0_0, .string a0_1, .int .i64 a0_2, .slice Ao13 t430.length co13, .slice Ao12 t433.length co12, .slice Ao11 t436.length co11, .int .i64 a0_6, .int .i64 a0_7, .bool false]) ?_ 8 _ rfl; (with_reducible repeat (first | refine blk_drewN ?_ _ | refine blk_drew ?_ | refine blk_alloc ?_ _)); refine blk_put (cs := #[.string a0_0, .string a0_1, .int .i64 a0_2, .slice Ao13 t430.length co13, .slice Ao12 t433.length co12, .slice Ao11 t436.length co11, .int .i64 a0_6, .int .i64 0, .bool false]) ?_ 7 _ rfl; (with_reducible repeat (first | refine blk_drewN ?_ _ | refine blk_drew ?_ | refine blk_alloc ?_ _)); refine blk_put (cs := #[.string a0_0, .string a0_1, .int .i64 a0_2, .slice Ao13 t430.length co13, .slice Ao12 t433.length co12, .slice Ao11 t436.length co11, .int .i64 0, .int .i64 0, .bool false]) ?_ 6 _ rfl; (with_reducible repeat (first | refine blk_drewN ?_ _ | refine blk_drew ?_ | refine blk_alloc ?_ _)); refine blk_put (cs := #[.string a0_0, .string a0_1, .int .i64 a0_2, .slice Ao13 t430.length co13, .slice Ao12 t433.length co12, .slice none 0 0, .int .i64 0, .int .i64 0, .bool false]) ?_ 5 _ rfl; (with_reducible repeat (first | refine blk_drewN ?_ _ | refine blk_drew ?_ | refine blk_alloc ?_ _)); refine blk_put (cs := #[.string a0_0, .string a0_1, .int .i64 a0_2, .slice Ao13 t430.length co13, .slice none 0 0, .slice none 0 0, .int .i64 0, .int .i64 0, .bool false]) ?_ 4 _ rfl; (with_reducible repeat (first | refine blk_drewN ?_ _ | refine blk_drew ?_ | refine blk_alloc ?_ _)); refine blk_put (cs := #[.string a0_0, .string a0_1, .int .i64 a0_2, .slice none 0 0, .slice none 0 0, .slice none 0 0, .int .i64 0, .int .i64 0, .bool false]) ?_ 3 _ rfl; (with_reducible repeat (first | refine blk_drewN ?_ _ | refine blk_drew ?_ | refine blk_alloc ?_ _)); refine blk_put (cs := #[.string a0_0, .string a0_1, .int .i64 0, .slice none 0 0, .slice none 0 0, .slice none 0 0, .int .i64 0, .int .i64 0, .bool false]) ?_ 2 _ rfl; (with_reducible repeat (first | refine blk_drewN ?_ _ | refine blk_drew ?_ | refine blk_alloc ?_ _)); refine blk_put (cs := #[.string a0_0, .string (⟨#[]⟩ : ByteArray), .int .i64 0, .slice none 0 0, .slice none 0 0, .slice none 0 0, .int .i64 0, .int .i64 0, .bool false]) ?_ 1 _ rfl; (with_reducible repeat (first | refine blk_drewN ?_ _ | refine blk_drew ?_ | refine blk_alloc ?_ _)); exact blk_put (cs := #[.string (⟨#[]⟩ : ByteArray), .string (⟨#[]⟩ : ByteArray), .int .i64 0, .slice none 0 0, .slice none 0 0, .slice none 0 0, .int .i64 0, .int .i64 0, .bool false]) bk 0 _ rfl) Tryz.underlying46 rfl (by kernel_rfl)) rfl ?_; exact ⟨_, _, _, ew, by (with_reducible repeat (first | apply Kd.R_alloc | apply Kd.R_drewN | apply Kd.R_drew)); exact Kd.R_mono (Kd.R_far (p := ⟨gb429, 8, none⟩) (Kd.R_far (p := ⟨gb429, 7, none⟩) (Kd.R_far (p := ⟨gb429, 6, none⟩) (Kd.R_far (p := ⟨gb429, 5, none⟩) (Kd.R_far (p := ⟨gb429, 4, none⟩) (Kd.R_far (p := ⟨gb429, 3, none⟩) (Kd.R_far (p := ⟨gb429, 2, none⟩) (Kd.R_far (p := ⟨gb429, 1, none⟩) (Kd.R_far (p := ⟨gb429, 0, none⟩) (Kd.R_types HO432.out BK429.out (by decide)) (fun _ hk => hk.2) (.string a0_0)) (fun _ hk => hk.2) (.string a0_1)) (fun _ hk => hk.2) (.int .i64 a0_2)) (fun _ hk => hk.2) (.slice Ao13 t430.length co13)) (fun _ hk => hk.2) (.slice Ao12 t433.length co12)) (fun _ hk => hk.2) (.slice Ao11 t436.length co11)) (fun _ hk => hk.2) (.int .i64 a0_6)) (fun _ hk => hk.2) (.int .i64 a0_7)) (fun _ hk => hk.2) (.bool a0_8)) (fun _ hk => ⟨hk.1.1.2, hk.1.2⟩), by (with_reducible repeat (first | apply Kd.R_alloc | apply Kd.R_drewN | apply Kd.R_drew)); exact Kd.R_mono (Kd.R_far (p := ⟨gb429, 8, none⟩) (Kd.R_far (p := ⟨gb429, 7, none⟩) (Kd.R_far (p := ⟨gb429, 6, none⟩) (Kd.R_far (p := ⟨gb429, 5, none⟩) (Kd.R_far (p := ⟨gb429, 4, none⟩) (Kd.R_far (p := ⟨gb429, 3, none⟩) (Kd.R_far (p := ⟨gb429, 2, none⟩) (Kd.R_far (p := ⟨gb429, 1, none⟩) (Kd.R_far (p := ⟨gb429, 0, none⟩) (Kd.R_types HO435.out BK429.out (by decide)) (fun _ hk => hk.2) (.string a0_0)) (fun _ hk => hk.2) (.string a0_1)) (fun _ hk => hk.2) (.int .i64 a0_2)) (fun _ hk => hk.2) (.slice Ao13 t430.length co13)) (fun _ hk => hk.2) (.slice Ao12 t433.length co12)) (fun _ hk => hk.2) (.slice Ao11 t436.length co11)) (fun _ hk => hk.2) (.int .i64 a0_6)) (fun _ hk => hk.2) (.int .i64 a0_7)) (fun _ hk => hk.2) (.bool a0_8)) (fun _ hk => ⟨hk.1.1.2, hk.1.2⟩), by (with_reducible repeat (first | apply Kd.R_alloc | apply Kd.R_drewN | apply Kd.R_drew)); exact Kd.R_mono (Kd.R_far (p := ⟨gb429, 8, none⟩) (Kd.R_far (p := ⟨gb429, 7, none⟩) (Kd.R_far (p := ⟨gb429, 6, none⟩) (Kd.R_far (p := ⟨gb429, 5, none⟩) (Kd.R_far (p := ⟨gb429, 4, none⟩) (Kd.R_far (p := ⟨gb429, 3, none⟩) (Kd.R_far (p := ⟨gb429, 2, none⟩) (Kd.R_far (p := ⟨gb429, 1, none⟩) (Kd.R_far (p := ⟨gb429, 0, none⟩) (Kd.R_types HO438.out BK429.out (by decide)) (fun _ hk => hk.2) (.string a0_0)) (fun _ hk => hk.2) (.string a0_1)) (fun _ hk => hk.2) (.int .i64 a0_2)) (fun _ hk => hk.2) (.slice Ao13 t430.length co13)) (fun _ hk => hk.2) (.slice Ao12 t433.length co12)) (fun _ hk => hk.2) (.slice Ao11 t436.length co11)) (fun _ hk => hk.2) (.int .i64 a0_6)) (fun _ hk => hk.2) (.int .i64 a0_7)) (fun _ hk => hk.2) (.bool a0_8)) (fun _ hk => ⟨hk.1.1.2, hk.1.2⟩), bwS⟩
end Go.Proofs.YtcndmhpeolbepaaGreatDoor.Fn
namespace Go.Proofs.YtcndmhpeolbepaaGreatDoor.Fn
open Go.RowKit Go.Proofs.YtcndmhpeolbepaaGreatDoorW.PrintWords Go.Proofs.YtcndmhpeolbepaaGreatDoorW.PrintLast Go.Proofs.YtcndmhpeolbepaaGreatDoorW.PrintMore
attribute [local go_sem] max2_int min2_int max_two min_two max_three min_three max_four min_four
set_option linter.unusedVariables false
set_option linter.unusedSimpArgs false

mutual
def bulletinlaw32_short.l0 : Nat → List (S23) → Int → Option (Bool)
 | 0, _, _ => none
 | k + 1, x0, x3 => if x3 < (x0.length : Int) then (bulletinlaw32_short.j1 k x0 x3 (decide (x3 < 25))) else (bulletinlaw32_short.j1 k x0 x3 false)
def bulletinlaw32_short.j1 : Nat → List (S23) → Int → Bool → Option (Bool)
 | 0, _, _, _ => none
 | k + 1, x0, x3, x11 => if x11 = true then (if 0 ≤ x3 then (if x3 < (x0.length : Int) then (if (((rd_T23 x0 x3).f0).size : Int) > 300 then (some false) else (if (((rd_T23 x0 x3).f1).size : Int) > 300 then (some false) else (bulletinlaw32_short.l0 k x0 (wrap64 (x3 + 1))))) else (none)) else (none)) else (some (decide ((x0.length : Int) ≤ 25)))
end
def bulletinlaw32_short.f (k : Nat) (l0 : List (S23)) : Option (Bool) := bulletinlaw32_short.l0 k l0 0
set_option maxHeartbeats 8000000 in
set_option maxRecDepth 100000 in
theorem bulletinlaw32_short.calls (k : Nat) (A0 : Option Addr) (c0 : Nat) (l0 : List (S23)) (r : Bool) (w : World) (hr0 : Kd.C k23 w A0 l0.length l0) (hc0 : l0.length ≤ c0) (h : bulletinlaw32_short.f k l0 = some r) :
  Calls Tryz.prog 77 #[.slice A0 l0.length c0] w fun e w' => e = .returned (.bool r) ∧ Drawn0 w w' := by
 have HR0 := Aside0.mk hr0; have HC0 := Aside0.mk hc0; clear hr0 hc0; have H : (bulletinlaw32_short.l0 k l0 0) = some r := h; clear h; have H' := Aside0.mk H; clear H
 go_enter Tryz.func77, Tryz.ntmps77
 go_wp2
 go_loopg [3] k (fun kq v3 w' => ∃ (x3_1 : Int), v3 = .int .i64 x3_1 ∧ Aside0 (bulletinlaw32_short.l0 kq l0 x3_1 = some r) ∧ Aside0 (kq ≤ k) ∧ Drawn0 w w')
 case atStart => exact ⟨(0), cl, H', ⟨Nat.le_refl _⟩, d0⟩
 case round =>
  clear H'; obtain ⟨x3_1, rfl, HA, HK1, ⟨m1, rfl⟩⟩ := hrel; cases gk with
  | zero => exact absurd HA.out (by simp [bulletinlaw32_short.l0])
  | succ k1 =>
   have H := HA.out; clear HA; simp only [bulletinlaw32_short.l0] at H; have HC2 := Aside0.mk H; clear H
   go_upto_region 2 with (fail)
   go_cut [11] (fun v11 wc => ∃ (kq : Nat) (x11_1 : Bool), v11 = .bool x11_1 ∧ Aside0 (bulletinlaw32_short.j1 kq l0 x3_1 x11_1 = some r) ∧ Aside0 (kq ≤ k1) ∧ Drawn0 w wc)
   case first =>
    have H := HC2.out; clear HC2
    by_cases c3 : x3_1 < (l0.length : Int)
    ·rw [if_pos c3] at H; have c3b0 := decide_eq_true c3; clear c3
     (first | rw [c3b0] | (simp only [i64_w, i32_w]; rw [c3b0]) | skip)
     have H' := Aside0.mk H; clear H
     go_wp2
     go_meet
     case rel => exact ⟨_, (decide (x3_1 < 25)), cl, H', ⟨by have := HK1.out; first | omega | exact Nat.le_refl _⟩, d0⟩
    rw [if_neg c3] at H; have c3b0 := decide_eq_false c3; clear c3
    (first | rw [c3b0] | (simp only [i64_w, i32_w]; rw [c3b0]) | skip)
    have H' := Aside0.mk H; clear H
    go_wp2
    go_meet
    case rel => exact ⟨_, (false), cl, H', ⟨by have := HK1.out; first | omega | exact Nat.le_refl _⟩, d0⟩
   case rest =>
    clear HC2
    try clear p2
    try clear c3
    try clear c3b0
    obtain ⟨kq, x11_1, rfl, HA, HJ1, ⟨mc1, rfl⟩⟩ := hcut; cases kq with
    | zero => exact absurd HA.out (by simp [bulletinlaw32_short.j1])
    | succ kj1 =>
     have H := HA.out; clear HA; simp only [bulletinlaw32_short.j1] at H
     by_cases c4 : x11_1 = true
     ·subst c4; rw [if_pos rfl] at H
      by_cases c5 : 0 ≤ x3_1
      ·rw [if_pos c5] at H; have c5b0 := decide_eq_true c5; clear c5
       by_cases c6 : x3_1 < (l0.length : Int)
       ·rw [if_pos c6] at H; have c6b0 := decide_eq_true c6; clear c6
        by_cases c7 : (((rd_T23 l0 x3_1).f0).size : Int) > 300
        ·rw [if_pos c7] at H; have c7b0 : decide (300 < (((rd_T23 l0 x3_1).f0).size : Int)) = true := decide_eq_true c7; have c7b1 : decide (300 < ((rd_T23 l0 x3_1).f0).size) = true := decide_eq_true (by omega); clear c7; obtain rfl := Option.some.inj H; have p620 : 0 ≤ (x3_1 : Int) := od; have q620 : x3_1 < (l0.length : Int) := od; obtain ⟨ad620, e620, hx620_0, hx620_1⟩ := at_T23 HR0.out x3_1 p620 q620; cases e620; replace p620 := eq_true p620; replace q620 := eq_true q620
         go_wp2
         go_ret
         exact ⟨cl, d0⟩
        rw [if_neg c7] at H; have c7b0 : decide (300 < (((rd_T23 l0 x3_1).f0).size : Int)) = false := decide_eq_false c7; have c7b1 : decide (300 < ((rd_T23 l0 x3_1).f0).size) = false := decide_eq_false (by omega); clear c7
        by_cases c8 : (((rd_T23 l0 x3_1).f1).size : Int) > 300
        ·rw [if_pos c8] at H; have c8b0 : decide (300 < (((rd_T23 l0 x3_1).f1).size : Int)) = true := decide_eq_true c8; have c8b1 : decide (300 < ((rd_T23 l0 x3_1).f1).size) = true := decide_eq_true (by omega); clear c8; obtain rfl := Option.some.inj H; have p620 : 0 ≤ (x3_1 : Int) := od; have q620 : x3_1 < (l0.length : Int) := od; obtain ⟨ad620, e620, hx620_0, hx620_1⟩ := at_T23 HR0.out x3_1 p620 q620; cases e620; replace p620 := eq_true p620; replace q620 := eq_true q620; have p621 : 0 ≤ (x3_1 : Int) := od; have q621 : x3_1 < (l0.length : Int) := od; obtain ⟨ad621, e621, hx621_0, hx621_1⟩ := at_T23 HR0.out x3_1 p621 q621; obtain rfl : ad620 = ad621 := (by injection e621)
         replace p621 := eq_true p621; replace q621 := eq_true q621
         go_wp2
         go_ret
         exact ⟨cl, d0⟩
        rw [if_neg c8] at H; have c8b0 : decide (300 < (((rd_T23 l0 x3_1).f1).size : Int)) = false := decide_eq_false c8; have c8b1 : decide (300 < ((rd_T23 l0 x3_1).f1).size) = false := decide_eq_false (by omega); clear c8; have H' := Aside0.mk H; clear H; have p620 : 0 ≤ (x3_1 : Int) := od; have q620 : x3_1 < (l0.length : Int) := od; obtain ⟨ad620, e620, hx620_0, hx620_1⟩ := at_T23 HR0.out x3_1 p620 q620; cases e620; replace p620 := eq_true p620; replace q620 := eq_true q620; have p621 : 0 ≤ (x3_1 : Int) := od; have q621 : x3_1 < (l0.length : Int) := od; obtain ⟨ad621, e621, hx621_0, hx621_1⟩ := at_T23 HR0.out x3_1 p621 q621; obtain rfl : ad620 = ad621 := (by injection e621)
        replace p621 := eq_true p621; replace q621 := eq_true q621
        go_wp2
        go_roundg kj1
        case measure => have := HK1.out; have := HJ1.out; omega
        case rel => exact ⟨(wrap64 (x3_1 + 1)), cl, H', ⟨by have := HK1.out; have := HJ1.out; omega⟩, d0⟩
       rw [if_neg c6] at H; exact absurd H (by simp)
      rw [if_neg c5] at H; exact absurd H (by simp)
     replace c4 := Bool.eq_false_iff.mpr c4; subst c4; rw [if_neg nft] at H; obtain rfl := Option.some.inj H
     go_wp2
     go_ret
     exact ⟨cl, d0⟩

end Go.Proofs.YtcndmhpeolbepaaGreatDoor.Fn
namespace Go.Proofs.YtcndmhpeolbepaaGreatDoor.Fn
open Go.RowKit Go.Proofs.YtcndmhpeolbepaaGreatDoorW.PrintWords Go.Proofs.YtcndmhpeolbepaaGreatDoorW.PrintLast Go.Proofs.YtcndmhpeolbepaaGreatDoorW.PrintMore
attribute [local go_sem] max2_int min2_int max_two min_two max_three min_three max_four min_four
set_option linter.unusedVariables false
set_option linter.unusedSimpArgs false

mutual
def bulletinlaw32_Light.l0 : Nat → Int → ByteArray → ByteArray → Int → Int → List (S39) → Option (Bool)
 | 0, _, _, _, _, _, _ => none
 | k + 1, x3, x623000, x623001, x623002, x623003, x623004 => if x3 < (x623004.length : Int) then (bulletinlaw32_Light.j1 k x3 (decide (x3 < 10)) x623000 x623001 x623002 x623003 x623004) else (bulletinlaw32_Light.j1 k x3 false x623000 x623001 x623002 x623003 x623004)
def bulletinlaw32_Light.j1 : Nat → Int → Bool → ByteArray → ByteArray → Int → Int → List (S39) → Option (Bool)
 | 0, _, _, _, _, _, _, _ => none
 | k + 1, x3, x13, x623000, x623001, x623002, x623003, x623004 => if x13 = true then (if 0 ≤ x3 then (if x3 < (x623004.length : Int) then (if (((rd_T39 x623004 x3).f0).size : Int) > 100 then (some false) else (if (((rd_T39 x623004 x3).f1).size : Int) > 100 then (some false) else ((bulletinlaw32_short.f k ((rd_T39 x623004 x3).f3)).bind fun t625 => (if t625 = true then ((bulletinlaw32_short.f k ((rd_T39 x623004 x3).f4)).bind fun t626 => (if t626 = true then ((bulletinlaw32_short.f k ((rd_T39 x623004 x3).f5)).bind fun t627 => (if t627 = true then (bulletinlaw32_Light.l0 k (wrap64 (x3 + 1)) x623000 x623001 x623002 x623003 x623004) else (some false))) else (some false))) else (some false))))) else (none)) else (none)) else (if (x623000.size : Int) ≤ 300 then (if (x623001.size : Int) ≤ 100 then (some (decide ((x623004.length : Int) ≤ 10))) else (some false)) else (some false))
end
def bulletinlaw32_Light.f (k : Nat) (a0_0 : ByteArray) (a0_1 : ByteArray) (a0_2 : Int) (a0_3 : Int) (l0_4 : List (S39)) : Option (Bool) := bulletinlaw32_Light.l0 k 0 a0_0 a0_1 a0_2 a0_3 l0_4
set_option maxHeartbeats 8000000 in
set_option maxRecDepth 100000 in
theorem bulletinlaw32_Light.calls (k : Nat) (a0_0 : ByteArray) (a0_1 : ByteArray) (a0_2 : Int) (a0_3 : Int) (A0_4 : Option Addr) (c0_4 : Nat) (l0_4 : List (S39)) (r : Bool) (w : World) (hr0_4 : Kd.C k39 w A0_4 l0_4.length l0_4) (hc0_4 : l0_4.length ≤ c0_4) (h : bulletinlaw32_Light.f k a0_0 a0_1 a0_2 a0_3 l0_4 = some r) :
  Calls Tryz.prog 35 #[.agg #[.string a0_0, .string a0_1, .int .i64 a0_2, .int .i64 a0_3, .slice A0_4 l0_4.length c0_4]] w fun e w' => e = .returned (.bool r) ∧ Below w.heap.size w w' := by
 have hu71 := Tryz.underlying71; have hu39 := Tryz.underlying39; have HR0_4 := Aside0.mk hr0_4; have HC0_4 := Aside0.mk hc0_4; clear hr0_4 hc0_4; have HB := Aside0.mk (Below.refl w.heap.size w); have H : (bulletinlaw32_Light.l0 k 0 a0_0 a0_1 a0_2 a0_3 l0_4) = some r := h; clear h; have H' := Aside0.mk H; clear H
 go_enter Tryz.func35, Tryz.ntmps35
 go_wp2_with (first | ((with_reducible refine gate_dst (N := 1) rfl ?_); (try (refine gate_guard (by rfl) ?_; dsimp only)); refine box_event ?hg (N := 1) ?hd (cs := #[.string a0_0, .string a0_1, .int .i64 a0_2, .int .i64 a0_3, .slice A0_4 l0_4.length c0_4]) (t := 71) ?hr ?_; (case hd => rfl); (case hg => rfl); (case hr => first | (go_simp; done) | (go_simp; rfl)); intro gb622 hg w2 hbox hb; have n0_ := Aside0.mk (below_step bw hb); have n1_ := Aside0.mk (hbox); have n2_ := Aside0.mk ((by rw [hg]; exact (below_size bw) : w.heap.size ≤ gb622)); have n3_ := Aside0.mk ((by rw [hg]; exact (below_size bw) : w.heap.size ≤ gb622)); clear HB; have HB := n0_; have BK622 := n1_; have GW622 := n2_; have GE622 := n3_; clear n0_ n1_ n2_ n3_; clear hb hbox hg))
 go_loopg [3] k (fun kq v3 w' => ∃ (x3_1 : Int), v3 = .int .i64 x3_1 ∧ Aside0 (bulletinlaw32_Light.l0 kq x3_1 a0_0 a0_1 a0_2 a0_3 l0_4 = some r) ∧ Aside0 (kq ≤ k) ∧ Aside0 (w'.heap[gb622]? = some (.cells #[.string a0_0, .string a0_1, .int .i64 a0_2, .int .i64 a0_3, (.slice A0_4 l0_4.length c0_4)] 71 (0, 0))) ∧ Aside0 (Below w.heap.size w w'))
 case atStart => exact ⟨(0), cl, H', ⟨Nat.le_refl _⟩, ⟨bk⟩, ⟨bwS⟩⟩
 case round =>
  clear H'; obtain ⟨x3_1, rfl, HA, HK1, BK622, HB⟩ := hrel; cases gk with
  | zero => exact absurd HA.out (by simp [bulletinlaw32_Light.l0])
  | succ k1 =>
   have H := HA.out; clear HA; simp only [bulletinlaw32_Light.l0] at H; have HC3 := Aside0.mk H; clear H
   go_upto_region 2 with (fail)
   go_cut [13] (fun v13 wc => ∃ (kq : Nat) (x13_2 : Bool), v13 = .bool x13_2 ∧ Aside0 (bulletinlaw32_Light.j1 kq x3_1 x13_2 a0_0 a0_1 a0_2 a0_3 l0_4 = some r) ∧ Aside0 (kq ≤ k1) ∧ Aside0 (wc.heap[gb622]? = some (.cells #[.string a0_0, .string a0_1, .int .i64 a0_2, .int .i64 a0_3, (.slice A0_4 l0_4.length c0_4)] 71 (0, 0))) ∧ Aside0 (Below w.heap.size w wc))
   case first =>
    have H := HC3.out; clear HC3
    by_cases c4 : x3_1 < (l0_4.length : Int)
    ·rw [if_pos c4] at H; have c4b0 := decide_eq_true c4; clear c4
     (first | rw [c4b0] | (simp only [i64_w, i32_w]; rw [c4b0]) | skip)
     have H' := Aside0.mk H; clear H; obtain ⟨hcz5_0, hcz5_1, hcz5_2, hcz5_3, hcz5_4⟩ := ce5 BK622; obtain ⟨hfz5_0, hfz5_1, hfz5_2, hfz5_3, hfz5_4⟩ := fz5 BK622
     go_wp2
     go_meet
     case rel => exact ⟨_, (decide (x3_1 < 10)), cl, H', ⟨by have := HK1.out; first | omega | exact Nat.le_refl _⟩, ⟨bk⟩, ⟨bwS⟩⟩
    rw [if_neg c4] at H; have c4b0 := decide_eq_false c4
    (try simp only [hl623_3] at c4b0)
    (try simp only [hl623_4] at c4b0)
    (try simp only [hl623_5] at c4b0)
    clear c4
    (first | rw [c4b0] | (simp only [i64_w, i32_w]; rw [c4b0]) | skip)
    have H' := Aside0.mk H; clear H; obtain ⟨hcz6_0, hcz6_1, hcz6_2, hcz6_3, hcz6_4⟩ := ce5 BK622; obtain ⟨hfz6_0, hfz6_1, hfz6_2, hfz6_3, hfz6_4⟩ := fz5 BK622
    go_wp2
    go_meet
    case rel => exact ⟨_, (false), cl, H', ⟨by have := HK1.out; first | omega | exact Nat.le_refl _⟩, ⟨bk⟩, ⟨bwS⟩⟩
   case rest =>
    clear HC3; obtain ⟨kq, x13_2, rfl, HA, HJ2, BK622, HB⟩ := hcut; cases kq with
    | zero => exact absurd HA.out (by simp [bulletinlaw32_Light.j1])
    | succ kj2 =>
     have H := HA.out; clear HA; simp only [bulletinlaw32_Light.j1] at H
     by_cases c7 : x13_2 = true
     ·subst c7; rw [if_pos rfl] at H
      by_cases c8 : 0 ≤ x3_1
      ·rw [if_pos c8] at H; have c8b0 := decide_eq_true c8; clear c8
       by_cases c9 : x3_1 < (l0_4.length : Int)
       ·rw [if_pos c9] at H; have c9b0 := decide_eq_true c9; clear c9
        by_cases c10 : (((rd_T39 l0_4 x3_1).f0).size : Int) > 100
        ·rw [if_pos c10] at H; have c10b0 : decide (100 < (((rd_T39 l0_4 x3_1).f0).size : Int)) = true := decide_eq_true c10; have c10b1 : decide (100 < ((rd_T39 l0_4 x3_1).f0).size) = true := decide_eq_true (by omega); clear c10; obtain rfl := Option.some.inj H; obtain ⟨hcz11_0, hcz11_1, hcz11_2, hcz11_3, hcz11_4⟩ := ce5 BK622; obtain ⟨hfz11_0, hfz11_1, hfz11_2, hfz11_3, hfz11_4⟩ := fz5 BK622; have p623 : 0 ≤ (x3_1 : Int) := od; have q623 : x3_1 < (l0_4.length : Int) := od; obtain ⟨ad623, A623_3, c623_3, A623_4, c623_4, A623_5, c623_5, e623, hx623_0, hx623_1, hx623_2, hx623_3, hx623_4, hx623_5, hx623_6, hx623_7, hx623_8, hl623_3, hi623_3, hl623_4, hi623_4, hl623_5, hi623_5⟩ := at_T39 HR0_4.out x3_1 p623 q623; cases e623; replace hx623_0 := hbc HB hx623_0; replace hx623_1 := hbc HB hx623_1; replace hx623_2 := hbc HB hx623_2; replace hx623_3 := hbc HB hx623_3; replace hx623_4 := hbc HB hx623_4; replace hx623_5 := hbc HB hx623_5; replace hx623_6 := hbc HB hx623_6; replace hx623_7 := hbc HB hx623_7; replace hx623_8 := hbc HB hx623_8; have HR623_3 := Aside0.mk hi623_3; have HC623_3 := Aside0.mk hl623_3; clear hi623_3 hl623_3; have HR623_4 := Aside0.mk hi623_4; have HC623_4 := Aside0.mk hl623_4; clear hi623_4 hl623_4; have HR623_5 := Aside0.mk hi623_5; have HC623_5 := Aside0.mk hl623_5; clear hi623_5 hl623_5; replace p623 := eq_true p623; replace q623 := eq_true q623
         go_wp2_with (first | ((with_reducible refine gate_dst (N := 4) rfl ?_); (try (refine gate_guard (by rfl) ?_; dsimp only)); refine box_event ?hg (N := 4) ?hd (cs := #[.string (⟨#[]⟩ : ByteArray), .string (⟨#[]⟩ : ByteArray), .int .i64 0, .slice none 0 0, .slice none 0 0, .slice none 0 0, .int .i64 0, .int .i64 0, .bool false]) (t := 39) ?hr ?_; (case hd => rfl); (case hg => rfl); (case hr => first | (go_simp; done) | (go_simp; rfl)); intro gb624 hg w12 hbox hb; have n0_ := Aside0.mk (blk_below (g := gb622) (o := .cells #[.string a0_0, .string a0_1, .int .i64 a0_2, .int .i64 a0_3, .slice (some ad623) l0_4.length c0_4] 71 (0, 0)) bk hb); have n1_ := Aside0.mk (below_step bwS hb); have n2_ := Aside0.mk (hbox); have n3_ := Aside0.mk ((by rw [hg]; exact (below_size bwS) : w.heap.size ≤ gb624)); have n4_ := Aside0.mk ((by rw [hg]; exact (below_size bwS) : w.heap.size ≤ gb624)); have n5_ := Aside0.mk ((by rw [hg]; exact Nat.ne_of_lt (blk_lt (g := gb622) (o := .cells #[.string a0_0, .string a0_1, .int .i64 a0_2, .int .i64 a0_3, .slice (some ad623) l0_4.length c0_4] 71 (0, 0)) bk) : gb622 ≠ gb624)); have n6_ := Aside0.mk ((by rw [hg]; exact Nat.ne_of_gt (blk_lt (g := gb622) (o := .cells #[.string a0_0, .string a0_1, .int .i64 a0_2, .int .i64 a0_3, .slice (some ad623) l0_4.length c0_4] 71 (0, 0)) bk) : gb624 ≠ gb622)); clear BK622; clear HB; have BK622 := n0_; have HB := n1_; have BK624 := n2_; have GW624 := n3_; have GE624 := n4_; have NB622_624 := n5_; have NB624_622 := n6_; clear n0_ n1_ n2_ n3_ n4_ n5_ n6_; clear hb hbox hg; have hnb13 := NB624_622.out; have hnc13 := NB622_624.out; have hcz14_0 : w12.cell? ⟨gb624, 0, none⟩ = some (.string (⟨#[]⟩ : ByteArray)) := (blk_cell BK624.out 0).trans rfl; have hcz14_1 : w12.cell? ⟨gb624, 1, none⟩ = some (.string (⟨#[]⟩ : ByteArray)) := (blk_cell BK624.out 1).trans rfl; have hcz14_2 : w12.cell? ⟨gb624, 2, none⟩ = some (.int .i64 0) := (blk_cell BK624.out 2).trans rfl; have hcz14_3 : w12.cell? ⟨gb624, 3, none⟩ = some (.slice none 0 0) := (blk_cell BK624.out 3).trans rfl; have hcz14_4 : w12.cell? ⟨gb624, 4, none⟩ = some (.slice none 0 0) := (blk_cell BK624.out 4).trans rfl; have hcz14_5 : w12.cell? ⟨gb624, 5, none⟩ = some (.slice none 0 0) := (blk_cell BK624.out 5).trans rfl; have hcz14_6 : w12.cell? ⟨gb624, 6, none⟩ = some (.int .i64 0) := (blk_cell BK624.out 6).trans rfl; have hcz14_7 : w12.cell? ⟨gb624, 7, none⟩ = some (.int .i64 0) := (blk_cell BK624.out 7).trans rfl; have hcz14_8 : w12.cell? ⟨gb624, 8, none⟩ = some (.bool false) := (blk_cell BK624.out 8).trans rfl; obtain ⟨hfz14_0, hfz14_1, hfz14_2, hfz14_3, hfz14_4, hfz14_5, hfz14_6, hfz14_7, hfz14_8⟩ := fz9 BK624))
         go_ret
         exact ⟨ew, bwS⟩
        rw [if_neg c10] at H; have c10b0 : decide (100 < (((rd_T39 l0_4 x3_1).f0).size : Int)) = false := decide_eq_false c10; have c10b1 : decide (100 < ((rd_T39 l0_4 x3_1).f0).size) = false := decide_eq_false (by omega); clear c10
        by_cases c15 : (((rd_T39 l0_4 x3_1).f1).size : Int) > 100
        ·rw [if_pos c15] at H; have c15b0 : decide (100 < (((rd_T39 l0_4 x3_1).f1).size : Int)) = true := decide_eq_true c15; have c15b1 : decide (100 < ((rd_T39 l0_4 x3_1).f1).size) = true := decide_eq_true (by omega); clear c15; obtain rfl := Option.some.inj H; obtain ⟨hcz16_0, hcz16_1, hcz16_2, hcz16_3, hcz16_4⟩ := ce5 BK622; obtain ⟨hfz16_0, hfz16_1, hfz16_2, hfz16_3, hfz16_4⟩ := fz5 BK622; have p623 : 0 ≤ (x3_1 : Int) := od; have q623 : x3_1 < (l0_4.length : Int) := od; obtain ⟨ad623, A623_3, c623_3, A623_4, c623_4, A623_5, c623_5, e623, hx623_0, hx623_1, hx623_2, hx623_3, hx623_4, hx623_5, hx623_6, hx623_7, hx623_8, hl623_3, hi623_3, hl623_4, hi623_4, hl623_5, hi623_5⟩ := at_T39 HR0_4.out x3_1 p623 q623; cases e623; replace hx623_0 := hbc HB hx623_0; replace hx623_1 := hbc HB hx623_1; replace hx623_2 := hbc HB hx623_2; replace hx623_3 := hbc HB hx623_3; replace hx623_4 := hbc HB hx623_4; replace hx623_5 := hbc HB hx623_5; replace hx623_6 := hbc HB hx623_6; replace hx623_7 := hbc HB hx623_7; replace hx623_8 := hbc HB hx623_8; have HR623_3 := Aside0.mk hi623_3; have HC623_3 := Aside0.mk hl623_3; clear hi623_3 hl623_3; have HR623_4 := Aside0.mk hi623_4; have HC623_4 := Aside0.mk hl623_4; clear hi623_4 hl623_4; have HR623_5 := Aside0.mk hi623_5; have HC623_5 := Aside0.mk hl623_5; clear hi623_5 hl623_5; replace p623 := eq_true p623; replace q623 := eq_true q623
         go_wp2_with (first | ((with_reducible refine gate_dst (N := 4) rfl ?_); (try (refine gate_guard (by rfl) ?_; dsimp only)); refine box_event ?hg (N := 4) ?hd (cs := #[.string (⟨#[]⟩ : ByteArray), .string (⟨#[]⟩ : ByteArray), .int .i64 0, .slice none 0 0, .slice none 0 0, .slice none 0 0, .int .i64 0, .int .i64 0, .bool false]) (t := 39) ?hr ?_; (case hd => rfl); (case hg => rfl); (case hr => first | (go_simp; done) | (go_simp; rfl)); intro gb624 hg w17 hbox hb; have n0_ := Aside0.mk (blk_below (g := gb622) (o := .cells #[.string a0_0, .string a0_1, .int .i64 a0_2, .int .i64 a0_3, .slice (some ad623) l0_4.length c0_4] 71 (0, 0)) bk hb); have n1_ := Aside0.mk (below_step bwS hb); have n2_ := Aside0.mk (hbox); have n3_ := Aside0.mk ((by rw [hg]; exact (below_size bwS) : w.heap.size ≤ gb624)); have n4_ := Aside0.mk ((by rw [hg]; exact (below_size bwS) : w.heap.size ≤ gb624)); have n5_ := Aside0.mk ((by rw [hg]; exact Nat.ne_of_lt (blk_lt (g := gb622) (o := .cells #[.string a0_0, .string a0_1, .int .i64 a0_2, .int .i64 a0_3, .slice (some ad623) l0_4.length c0_4] 71 (0, 0)) bk) : gb622 ≠ gb624)); have n6_ := Aside0.mk ((by rw [hg]; exact Nat.ne_of_gt (blk_lt (g := gb622) (o := .cells #[.string a0_0, .string a0_1, .int .i64 a0_2, .int .i64 a0_3, .slice (some ad623) l0_4.length c0_4] 71 (0, 0)) bk) : gb624 ≠ gb622)); clear BK622; clear HB; have BK622 := n0_; have HB := n1_; have BK624 := n2_; have GW624 := n3_; have GE624 := n4_; have NB622_624 := n5_; have NB624_622 := n6_; clear n0_ n1_ n2_ n3_ n4_ n5_ n6_; clear hb hbox hg; have hnb18 := NB624_622.out; have hnc18 := NB622_624.out; have hcz19_0 : w17.cell? ⟨gb624, 0, none⟩ = some (.string (⟨#[]⟩ : ByteArray)) := (blk_cell BK624.out 0).trans rfl; have hcz19_1 : w17.cell? ⟨gb624, 1, none⟩ = some (.string (⟨#[]⟩ : ByteArray)) := (blk_cell BK624.out 1).trans rfl; have hcz19_2 : w17.cell? ⟨gb624, 2, none⟩ = some (.int .i64 0) := (blk_cell BK624.out 2).trans rfl; have hcz19_3 : w17.cell? ⟨gb624, 3, none⟩ = some (.slice none 0 0) := (blk_cell BK624.out 3).trans rfl; have hcz19_4 : w17.cell? ⟨gb624, 4, none⟩ = some (.slice none 0 0) := (blk_cell BK624.out 4).trans rfl; have hcz19_5 : w17.cell? ⟨gb624, 5, none⟩ = some (.slice none 0 0) := (blk_cell BK624.out 5).trans rfl; have hcz19_6 : w17.cell? ⟨gb624, 6, none⟩ = some (.int .i64 0) := (blk_cell BK624.out 6).trans rfl; have hcz19_7 : w17.cell? ⟨gb624, 7, none⟩ = some (.int .i64 0) := (blk_cell BK624.out 7).trans rfl; have hcz19_8 : w17.cell? ⟨gb624, 8, none⟩ = some (.bool false) := (blk_cell BK624.out 8).trans rfl; obtain ⟨hfz19_0, hfz19_1, hfz19_2, hfz19_3, hfz19_4, hfz19_5, hfz19_6, hfz19_7, hfz19_8⟩ := fz9 BK624))
         go_ret
         exact ⟨ew, bwS⟩
        rw [if_neg c15] at H; have c15b0 : decide (100 < (((rd_T39 l0_4 x3_1).f1).size : Int)) = false := decide_eq_false c15; have c15b1 : decide (100 < ((rd_T39 l0_4 x3_1).f1).size) = false := decide_eq_false (by omega); clear c15; replace H := Option.bind_eq_some_iff.mp H; obtain ⟨t625, A200, H⟩ := H; have A20 := Aside0.mk A200; clear A200
        by_cases c21 : t625 = true
        ·subst c21; rw [if_pos rfl] at H; replace H := Option.bind_eq_some_iff.mp H; obtain ⟨t626, A220, H⟩ := H; have A22 := Aside0.mk A220; clear A220
         by_cases c23 : t626 = true
         ·subst c23; rw [if_pos rfl] at H; replace H := Option.bind_eq_some_iff.mp H; obtain ⟨t627, A240, H⟩ := H; have A24 := Aside0.mk A240; clear A240
          by_cases c25 : t627 = true
          ·subst c25; rw [if_pos rfl] at H; have H' := Aside0.mk H; clear H; obtain ⟨hcz26_0, hcz26_1, hcz26_2, hcz26_3, hcz26_4⟩ := ce5 BK622; obtain ⟨hfz26_0, hfz26_1, hfz26_2, hfz26_3, hfz26_4⟩ := fz5 BK622; have p623 : 0 ≤ (x3_1 : Int) := od; have q623 : x3_1 < (l0_4.length : Int) := od; obtain ⟨ad623, A623_3, c623_3, A623_4, c623_4, A623_5, c623_5, e623, hx623_0, hx623_1, hx623_2, hx623_3, hx623_4, hx623_5, hx623_6, hx623_7, hx623_8, hl623_3, hi623_3, hl623_4, hi623_4, hl623_5, hi623_5⟩ := at_T39 HR0_4.out x3_1 p623 q623; cases e623; replace hx623_0 := hbc HB hx623_0; replace hx623_1 := hbc HB hx623_1; replace hx623_2 := hbc HB hx623_2; replace hx623_3 := hbc HB hx623_3; replace hx623_4 := hbc HB hx623_4; replace hx623_5 := hbc HB hx623_5; replace hx623_6 := hbc HB hx623_6; replace hx623_7 := hbc HB hx623_7; replace hx623_8 := hbc HB hx623_8; have HR623_3 := Aside0.mk hi623_3; have HC623_3 := Aside0.mk hl623_3; clear hi623_3 hl623_3; have HR623_4 := Aside0.mk hi623_4; have HC623_4 := Aside0.mk hl623_4; clear hi623_4 hl623_4; have HR623_5 := Aside0.mk hi623_5; have HC623_5 := Aside0.mk hl623_5; clear hi623_5 hl623_5; replace p623 := eq_true p623; replace q623 := eq_true q623
           go_wp2_with (first | ((with_reducible refine gate_dst (N := 4) rfl ?_); (try (refine gate_guard (by rfl) ?_; dsimp only)); refine box_event ?hg (N := 4) ?hd (cs := #[.string (⟨#[]⟩ : ByteArray), .string (⟨#[]⟩ : ByteArray), .int .i64 0, .slice none 0 0, .slice none 0 0, .slice none 0 0, .int .i64 0, .int .i64 0, .bool false]) (t := 39) ?hr ?_; (case hd => rfl); (case hg => rfl); (case hr => first | (go_simp; done) | (go_simp; rfl)); intro gb624 hg w27 hbox hb; have n0_ := Aside0.mk (blk_below (g := gb622) (o := .cells #[.string a0_0, .string a0_1, .int .i64 a0_2, .int .i64 a0_3, .slice (some ad623) l0_4.length c0_4] 71 (0, 0)) bk hb); have n1_ := Aside0.mk (below_step bwS hb); have n2_ := Aside0.mk (hbox); have n3_ := Aside0.mk ((by rw [hg]; exact (below_size bwS) : w.heap.size ≤ gb624)); have n4_ := Aside0.mk ((by rw [hg]; exact (below_size bwS) : w.heap.size ≤ gb624)); have n5_ := Aside0.mk ((by rw [hg]; exact Nat.ne_of_lt (blk_lt (g := gb622) (o := .cells #[.string a0_0, .string a0_1, .int .i64 a0_2, .int .i64 a0_3, .slice (some ad623) l0_4.length c0_4] 71 (0, 0)) bk) : gb622 ≠ gb624)); have n6_ := Aside0.mk ((by rw [hg]; exact Nat.ne_of_gt (blk_lt (g := gb622) (o := .cells #[.string a0_0, .string a0_1, .int .i64 a0_2, .int .i64 a0_3, .slice (some ad623) l0_4.length c0_4] 71 (0, 0)) bk) : gb624 ≠ gb622)); clear BK622; clear HB; have BK622 := n0_; have HB := n1_; have BK624 := n2_; have GW624 := n3_; have GE624 := n4_; have NB622_624 := n5_; have NB624_622 := n6_; clear n0_ n1_ n2_ n3_ n4_ n5_ n6_; clear hb hbox hg; have hnb28 := NB624_622.out; have hnc28 := NB622_624.out; have hcz29_0 : w27.cell? ⟨gb624, 0, none⟩ = some (.string (⟨#[]⟩ : ByteArray)) := (blk_cell BK624.out 0).trans rfl; have hcz29_1 : w27.cell? ⟨gb624, 1, none⟩ = some (.string (⟨#[]⟩ : ByteArray)) := (blk_cell BK624.out 1).trans rfl; have hcz29_2 : w27.cell? ⟨gb624, 2, none⟩ = some (.int .i64 0) := (blk_cell BK624.out 2).trans rfl; have hcz29_3 : w27.cell? ⟨gb624, 3, none⟩ = some (.slice none 0 0) := (blk_cell BK624.out 3).trans rfl; have hcz29_4 : w27.cell? ⟨gb624, 4, none⟩ = some (.slice none 0 0) := (blk_cell BK624.out 4).trans rfl; have hcz29_5 : w27.cell? ⟨gb624, 5, none⟩ = some (.slice none 0 0) := (blk_cell BK624.out 5).trans rfl; have hcz29_6 : w27.cell? ⟨gb624, 6, none⟩ = some (.int .i64 0) := (blk_cell BK624.out 6).trans rfl; have hcz29_7 : w27.cell? ⟨gb624, 7, none⟩ = some (.int .i64 0) := (blk_cell BK624.out 7).trans rfl; have hcz29_8 : w27.cell? ⟨gb624, 8, none⟩ = some (.bool false) := (blk_cell BK624.out 8).trans rfl; obtain ⟨hfz29_0, hfz29_1, hfz29_2, hfz29_3, hfz29_4, hfz29_5, hfz29_6, hfz29_7, hfz29_8⟩ := fz9 BK624) | (go_at_call 77; (with_reducible refine (bulletinlaw32_short.calls kj2 _ _ ((rd_T39 l0_4 x3_1).f3) true _ ?side1 ?side2 A20.out).mono ?_); (case side1 => exact Kd.C_below HR623_3.out bwS); (case side2 => exact HC623_3.out); rintro e w' ⟨rfl, ⟨nd, rfl⟩⟩) | (go_at_call 77; (with_reducible refine (bulletinlaw32_short.calls kj2 _ _ ((rd_T39 l0_4 x3_1).f4) true _ ?side1 ?side2 A22.out).mono ?_); (case side1 => exact Kd.C_below HR623_4.out bwS); (case side2 => exact HC623_4.out); rintro e w' ⟨rfl, ⟨nd, rfl⟩⟩) | (go_at_call 77; (with_reducible refine (bulletinlaw32_short.calls kj2 _ _ ((rd_T39 l0_4 x3_1).f5) true _ ?side1 ?side2 A24.out).mono ?_); (case side1 => exact Kd.C_below HR623_5.out bwS); (case side2 => exact HC623_5.out); rintro e w' ⟨rfl, ⟨nd, rfl⟩⟩))
           go_roundg kj2
           case measure => have := HK1.out; have := HJ2.out; omega
           case rel => exact ⟨(wrap64 (x3_1 + 1)), cl, H', ⟨by have := HK1.out; have := HJ2.out; omega⟩, ⟨by (with_reducible repeat (first | refine blk_drewN ?_ _ | refine blk_drew ?_ | refine blk_alloc ?_ _)); refine blk_far ?_ NB622_624.out _; (with_reducible repeat (first | refine blk_drewN ?_ _ | refine blk_drew ?_ | refine blk_alloc ?_ _)); refine blk_far ?_ NB622_624.out _; (with_reducible repeat (first | refine blk_drewN ?_ _ | refine blk_drew ?_ | refine blk_alloc ?_ _)); refine blk_far ?_ NB622_624.out _; (with_reducible repeat (first | refine blk_drewN ?_ _ | refine blk_drew ?_ | refine blk_alloc ?_ _)); refine blk_far ?_ NB622_624.out _; (with_reducible repeat (first | refine blk_drewN ?_ _ | refine blk_drew ?_ | refine blk_alloc ?_ _)); refine blk_far ?_ NB622_624.out _; (with_reducible repeat (first | refine blk_drewN ?_ _ | refine blk_drew ?_ | refine blk_alloc ?_ _)); refine blk_far ?_ NB622_624.out _; (with_reducible repeat (first | refine blk_drewN ?_ _ | refine blk_drew ?_ | refine blk_alloc ?_ _)); refine blk_far ?_ NB622_624.out _; (with_reducible repeat (first | refine blk_drewN ?_ _ | refine blk_drew ?_ | refine blk_alloc ?_ _)); refine blk_far ?_ NB622_624.out _; (with_reducible repeat (first | refine blk_drewN ?_ _ | refine blk_drew ?_ | refine blk_alloc ?_ _)); refine blk_far ?_ NB622_624.out _; (with_reducible repeat (first | refine blk_drewN ?_ _ | refine blk_drew ?_ | refine blk_alloc ?_ _)); exact BK622.out⟩, ⟨bwS⟩⟩
          replace c25 := Bool.eq_false_iff.mpr c25; subst c25; rw [if_neg nft] at H; obtain rfl := Option.some.inj H; obtain ⟨hcz30_0, hcz30_1, hcz30_2, hcz30_3, hcz30_4⟩ := ce5 BK622; obtain ⟨hfz30_0, hfz30_1, hfz30_2, hfz30_3, hfz30_4⟩ := fz5 BK622; have p623 : 0 ≤ (x3_1 : Int) := od; have q623 : x3_1 < (l0_4.length : Int) := od; obtain ⟨ad623, A623_3, c623_3, A623_4, c623_4, A623_5, c623_5, e623, hx623_0, hx623_1, hx623_2, hx623_3, hx623_4, hx623_5, hx623_6, hx623_7, hx623_8, hl623_3, hi623_3, hl623_4, hi623_4, hl623_5, hi623_5⟩ := at_T39 HR0_4.out x3_1 p623 q623; cases e623; replace hx623_0 := hbc HB hx623_0; replace hx623_1 := hbc HB hx623_1; replace hx623_2 := hbc HB hx623_2; replace hx623_3 := hbc HB hx623_3; replace hx623_4 := hbc HB hx623_4; replace hx623_5 := hbc HB hx623_5; replace hx623_6 := hbc HB hx623_6; replace hx623_7 := hbc HB hx623_7; replace hx623_8 := hbc HB hx623_8; have HR623_3 := Aside0.mk hi623_3; have HC623_3 := Aside0.mk hl623_3; clear hi623_3 hl623_3; have HR623_4 := Aside0.mk hi623_4; have HC623_4 := Aside0.mk hl623_4; clear hi623_4 hl623_4; have HR623_5 := Aside0.mk hi623_5; have HC623_5 := Aside0.mk hl623_5; clear hi623_5 hl623_5; replace p623 := eq_true p623; replace q623 := eq_true q623
          go_wp2_with (first | ((with_reducible refine gate_dst (N := 4) rfl ?_); (try (refine gate_guard (by rfl) ?_; dsimp only)); refine box_event ?hg (N := 4) ?hd (cs := #[.string (⟨#[]⟩ : ByteArray), .string (⟨#[]⟩ : ByteArray), .int .i64 0, .slice none 0 0, .slice none 0 0, .slice none 0 0, .int .i64 0, .int .i64 0, .bool false]) (t := 39) ?hr ?_; (case hd => rfl); (case hg => rfl); (case hr => first | (go_simp; done) | (go_simp; rfl)); intro gb624 hg w31 hbox hb; have n0_ := Aside0.mk (blk_below (g := gb622) (o := .cells #[.string a0_0, .string a0_1, .int .i64 a0_2, .int .i64 a0_3, .slice (some ad623) l0_4.length c0_4] 71 (0, 0)) bk hb); have n1_ := Aside0.mk (below_step bwS hb); have n2_ := Aside0.mk (hbox); have n3_ := Aside0.mk ((by rw [hg]; exact (below_size bwS) : w.heap.size ≤ gb624)); have n4_ := Aside0.mk ((by rw [hg]; exact (below_size bwS) : w.heap.size ≤ gb624)); have n5_ := Aside0.mk ((by rw [hg]; exact Nat.ne_of_lt (blk_lt (g := gb622) (o := .cells #[.string a0_0, .string a0_1, .int .i64 a0_2, .int .i64 a0_3, .slice (some ad623) l0_4.length c0_4] 71 (0, 0)) bk) : gb622 ≠ gb624)); have n6_ := Aside0.mk ((by rw [hg]; exact Nat.ne_of_gt (blk_lt (g := gb622) (o := .cells #[.string a0_0, .string a0_1, .int .i64 a0_2, .int .i64 a0_3, .slice (some ad623) l0_4.length c0_4] 71 (0, 0)) bk) : gb624 ≠ gb622)); clear BK622; clear HB; have BK622 := n0_; have HB := n1_; have BK624 := n2_; have GW624 := n3_; have GE624 := n4_; have NB622_624 := n5_; have NB624_622 := n6_; clear n0_ n1_ n2_ n3_ n4_ n5_ n6_; clear hb hbox hg; have hnb32 := NB624_622.out; have hnc32 := NB622_624.out; have hcz33_0 : w31.cell? ⟨gb624, 0, none⟩ = some (.string (⟨#[]⟩ : ByteArray)) := (blk_cell BK624.out 0).trans rfl; have hcz33_1 : w31.cell? ⟨gb624, 1, none⟩ = some (.string (⟨#[]⟩ : ByteArray)) := (blk_cell BK624.out 1).trans rfl; have hcz33_2 : w31.cell? ⟨gb624, 2, none⟩ = some (.int .i64 0) := (blk_cell BK624.out 2).trans rfl; have hcz33_3 : w31.cell? ⟨gb624, 3, none⟩ = some (.slice none 0 0) := (blk_cell BK624.out 3).trans rfl; have hcz33_4 : w31.cell? ⟨gb624, 4, none⟩ = some (.slice none 0 0) := (blk_cell BK624.out 4).trans rfl; have hcz33_5 : w31.cell? ⟨gb624, 5, none⟩ = some (.slice none 0 0) := (blk_cell BK624.out 5).trans rfl; have hcz33_6 : w31.cell? ⟨gb624, 6, none⟩ = some (.int .i64 0) := (blk_cell BK624.out 6).trans rfl; have hcz33_7 : w31.cell? ⟨gb624, 7, none⟩ = some (.int .i64 0) := (blk_cell BK624.out 7).trans rfl; have hcz33_8 : w31.cell? ⟨gb624, 8, none⟩ = some (.bool false) := (blk_cell BK624.out 8).trans rfl; obtain ⟨hfz33_0, hfz33_1, hfz33_2, hfz33_3, hfz33_4, hfz33_5, hfz33_6, hfz33_7, hfz33_8⟩ := fz9 BK624) | (go_at_call 77; (with_reducible refine (bulletinlaw32_short.calls kj2 _ _ ((rd_T39 l0_4 x3_1).f3) true _ ?side1 ?side2 A20.out).mono ?_); (case side1 => exact Kd.C_below HR623_3.out bwS); (case side2 => exact HC623_3.out); rintro e w' ⟨rfl, ⟨nd, rfl⟩⟩) | (go_at_call 77; (with_reducible refine (bulletinlaw32_short.calls kj2 _ _ ((rd_T39 l0_4 x3_1).f4) true _ ?side1 ?side2 A22.out).mono ?_); (case side1 => exact Kd.C_below HR623_4.out bwS); (case side2 => exact HC623_4.out); rintro e w' ⟨rfl, ⟨nd, rfl⟩⟩) | (go_at_call 77; (with_reducible refine (bulletinlaw32_short.calls kj2 _ _ ((rd_T39 l0_4 x3_1).f5) false _ ?side1 ?side2 A24.out).mono ?_); (case side1 => exact Kd.C_below HR623_5.out bwS); (case side2 => exact HC623_5.out); rintro e w' ⟨rfl, ⟨nd, rfl⟩⟩))
          go_ret
          exact ⟨ew, bwS⟩
         replace c23 := Bool.eq_false_iff.mpr c23; subst c23; rw [if_neg nft] at H; obtain rfl := Option.some.inj H; obtain ⟨hcz34_0, hcz34_1, hcz34_2, hcz34_3, hcz34_4⟩ := ce5 BK622; obtain ⟨hfz34_0, hfz34_1, hfz34_2, hfz34_3, hfz34_4⟩ := fz5 BK622; have p623 : 0 ≤ (x3_1 : Int) := od; have q623 : x3_1 < (l0_4.length : Int) := od; obtain ⟨ad623, A623_3, c623_3, A623_4, c623_4, A623_5, c623_5, e623, hx623_0, hx623_1, hx623_2, hx623_3, hx623_4, hx623_5, hx623_6, hx623_7, hx623_8, hl623_3, hi623_3, hl623_4, hi623_4, hl623_5, hi623_5⟩ := at_T39 HR0_4.out x3_1 p623 q623; cases e623; replace hx623_0 := hbc HB hx623_0; replace hx623_1 := hbc HB hx623_1; replace hx623_2 := hbc HB hx623_2; replace hx623_3 := hbc HB hx623_3; replace hx623_4 := hbc HB hx623_4; replace hx623_5 := hbc HB hx623_5; replace hx623_6 := hbc HB hx623_6; replace hx623_7 := hbc HB hx623_7; replace hx623_8 := hbc HB hx623_8; have HR623_3 := Aside0.mk hi623_3; have HC623_3 := Aside0.mk hl623_3; clear hi623_3 hl623_3; have HR623_4 := Aside0.mk hi623_4; have HC623_4 := Aside0.mk hl623_4; clear hi623_4 hl623_4; have HR623_5 := Aside0.mk hi623_5; have HC623_5 := Aside0.mk hl623_5; clear hi623_5 hl623_5; replace p623 := eq_true p623; replace q623 := eq_true q623
         go_wp2_with (first | ((with_reducible refine gate_dst (N := 4) rfl ?_); (try (refine gate_guard (by rfl) ?_; dsimp only)); refine box_event ?hg (N := 4) ?hd (cs := #[.string (⟨#[]⟩ : ByteArray), .string (⟨#[]⟩ : ByteArray), .int .i64 0, .slice none 0 0, .slice none 0 0, .slice none 0 0, .int .i64 0, .int .i64 0, .bool false]) (t := 39) ?hr ?_; (case hd => rfl); (case hg => rfl); (case hr => first | (go_simp; done) | (go_simp; rfl)); intro gb624 hg w35 hbox hb; have n0_ := Aside0.mk (blk_below (g := gb622) (o := .cells #[.string a0_0, .string a0_1, .int .i64 a0_2, .int .i64 a0_3, .slice (some ad623) l0_4.length c0_4] 71 (0, 0)) bk hb); have n1_ := Aside0.mk (below_step bwS hb); have n2_ := Aside0.mk (hbox); have n3_ := Aside0.mk ((by rw [hg]; exact (below_size bwS) : w.heap.size ≤ gb624)); have n4_ := Aside0.mk ((by rw [hg]; exact (below_size bwS) : w.heap.size ≤ gb624)); have n5_ := Aside0.mk ((by rw [hg]; exact Nat.ne_of_lt (blk_lt (g := gb622) (o := .cells #[.string a0_0, .string a0_1, .int .i64 a0_2, .int .i64 a0_3, .slice (some ad623) l0_4.length c0_4] 71 (0, 0)) bk) : gb622 ≠ gb624)); have n6_ := Aside0.mk ((by rw [hg]; exact Nat.ne_of_gt (blk_lt (g := gb622) (o := .cells #[.string a0_0, .string a0_1, .int .i64 a0_2, .int .i64 a0_3, .slice (some ad623) l0_4.length c0_4] 71 (0, 0)) bk) : gb624 ≠ gb622)); clear BK622; clear HB; have BK622 := n0_; have HB := n1_; have BK624 := n2_; have GW624 := n3_; have GE624 := n4_; have NB622_624 := n5_; have NB624_622 := n6_; clear n0_ n1_ n2_ n3_ n4_ n5_ n6_; clear hb hbox hg; have hnb36 := NB624_622.out; have hnc36 := NB622_624.out; have hcz37_0 : w35.cell? ⟨gb624, 0, none⟩ = some (.string (⟨#[]⟩ : ByteArray)) := (blk_cell BK624.out 0).trans rfl; have hcz37_1 : w35.cell? ⟨gb624, 1, none⟩ = some (.string (⟨#[]⟩ : ByteArray)) := (blk_cell BK624.out 1).trans rfl; have hcz37_2 : w35.cell? ⟨gb624, 2, none⟩ = some (.int .i64 0) := (blk_cell BK624.out 2).trans rfl; have hcz37_3 : w35.cell? ⟨gb624, 3, none⟩ = some (.slice none 0 0) := (blk_cell BK624.out 3).trans rfl; have hcz37_4 : w35.cell? ⟨gb624, 4, none⟩ = some (.slice none 0 0) := (blk_cell BK624.out 4).trans rfl; have hcz37_5 : w35.cell? ⟨gb624, 5, none⟩ = some (.slice none 0 0) := (blk_cell BK624.out 5).trans rfl; have hcz37_6 : w35.cell? ⟨gb624, 6, none⟩ = some (.int .i64 0) := (blk_cell BK624.out 6).trans rfl; have hcz37_7 : w35.cell? ⟨gb624, 7, none⟩ = some (.int .i64 0) := (blk_cell BK624.out 7).trans rfl; have hcz37_8 : w35.cell? ⟨gb624, 8, none⟩ = some (.bool false) := (blk_cell BK624.out 8).trans rfl; obtain ⟨hfz37_0, hfz37_1, hfz37_2, hfz37_3, hfz37_4, hfz37_5, hfz37_6, hfz37_7, hfz37_8⟩ := fz9 BK624) | (go_at_call 77; (with_reducible refine (bulletinlaw32_short.calls kj2 _ _ ((rd_T39 l0_4 x3_1).f3) true _ ?side1 ?side2 A20.out).mono ?_); (case side1 => exact Kd.C_below HR623_3.out bwS); (case side2 => exact HC623_3.out); rintro e w' ⟨rfl, ⟨nd, rfl⟩⟩) | (go_at_call 77; (with_reducible refine (bulletinlaw32_short.calls kj2 _ _ ((rd_T39 l0_4 x3_1).f4) false _ ?side1 ?side2 A22.out).mono ?_); (case side1 => exact Kd.C_below HR623_4.out bwS); (case side2 => exact HC623_4.out); rintro e w' ⟨rfl, ⟨nd, rfl⟩⟩))
         go_ret
         exact ⟨ew, bwS⟩
        replace c21 := Bool.eq_false_iff.mpr c21; subst c21; rw [if_neg nft] at H; obtain rfl := Option.some.inj H; obtain ⟨hcz38_0, hcz38_1, hcz38_2, hcz38_3, hcz38_4⟩ := ce5 BK622; obtain ⟨hfz38_0, hfz38_1, hfz38_2, hfz38_3, hfz38_4⟩ := fz5 BK622; have p623 : 0 ≤ (x3_1 : Int) := od; have q623 : x3_1 < (l0_4.length : Int) := od; obtain ⟨ad623, A623_3, c623_3, A623_4, c623_4, A623_5, c623_5, e623, hx623_0, hx623_1, hx623_2, hx623_3, hx623_4, hx623_5, hx623_6, hx623_7, hx623_8, hl623_3, hi623_3, hl623_4, hi623_4, hl623_5, hi623_5⟩ := at_T39 HR0_4.out x3_1 p623 q623; cases e623; replace hx623_0 := hbc HB hx623_0; replace hx623_1 := hbc HB hx623_1; replace hx623_2 := hbc HB hx623_2; replace hx623_3 := hbc HB hx623_3; replace hx623_4 := hbc HB hx623_4; replace hx623_5 := hbc HB hx623_5; replace hx623_6 := hbc HB hx623_6; replace hx623_7 := hbc HB hx623_7; replace hx623_8 := hbc HB hx623_8; have HR623_3 := Aside0.mk hi623_3; have HC623_3 := Aside0.mk hl623_3; clear hi623_3 hl623_3; have HR623_4 := Aside0.mk hi623_4; have HC623_4 := Aside0.mk hl623_4; clear hi623_4 hl623_4; have HR623_5 := Aside0.mk hi623_5; have HC623_5 := Aside0.mk hl623_5; clear hi623_5 hl623_5; replace p623 := eq_true p623; replace q623 := eq_true q623
        go_wp2_with (first | ((with_reducible refine gate_dst (N := 4) rfl ?_); (try (refine gate_guard (by rfl) ?_; dsimp only)); refine box_event ?hg (N := 4) ?hd (cs := #[.string (⟨#[]⟩ : ByteArray), .string (⟨#[]⟩ : ByteArray), .int .i64 0, .slice none 0 0, .slice none 0 0, .slice none 0 0, .int .i64 0, .int .i64 0, .bool false]) (t := 39) ?hr ?_; (case hd => rfl); (case hg => rfl); (case hr => first | (go_simp; done) | (go_simp; rfl)); intro gb624 hg w39 hbox hb; have n0_ := Aside0.mk (blk_below (g := gb622) (o := .cells #[.string a0_0, .string a0_1, .int .i64 a0_2, .int .i64 a0_3, .slice (some ad623) l0_4.length c0_4] 71 (0, 0)) bk hb); have n1_ := Aside0.mk (below_step bwS hb); have n2_ := Aside0.mk (hbox); have n3_ := Aside0.mk ((by rw [hg]; exact (below_size bwS) : w.heap.size ≤ gb624)); have n4_ := Aside0.mk ((by rw [hg]; exact (below_size bwS) : w.heap.size ≤ gb624)); have n5_ := Aside0.mk ((by rw [hg]; exact Nat.ne_of_lt (blk_lt (g := gb622) (o := .cells #[.string a0_0, .string a0_1, .int .i64 a0_2, .int .i64 a0_3, .slice (some ad623) l0_4.length c0_4] 71 (0, 0)) bk) : gb622 ≠ gb624)); have n6_ := Aside0.mk ((by rw [hg]; exact Nat.ne_of_gt (blk_lt (g := gb622) (o := .cells #[.string a0_0, .string a0_1, .int .i64 a0_2, .int .i64 a0_3, .slice (some ad623) l0_4.length c0_4] 71 (0, 0)) bk) : gb624 ≠ gb622)); clear BK622; clear HB; have BK622 := n0_; have HB := n1_; have BK624 := n2_; have GW624 := n3_; have GE624 := n4_; have NB622_624 := n5_; have NB624_622 := n6_; clear n0_ n1_ n2_ n3_ n4_ n5_ n6_; clear hb hbox hg; have hnb40 := NB624_622.out; have hnc40 := NB622_624.out; have hcz41_0 : w39.cell? ⟨gb624, 0, none⟩ = some (.string (⟨#[]⟩ : ByteArray)) := (blk_cell BK624.out 0).trans rfl; have hcz41_1 : w39.cell? ⟨gb624, 1, none⟩ = some (.string (⟨#[]⟩ : ByteArray)) := (blk_cell BK624.out 1).trans rfl; have hcz41_2 : w39.cell? ⟨gb624, 2, none⟩ = some (.int .i64 0) := (blk_cell BK624.out 2).trans rfl; have hcz41_3 : w39.cell? ⟨gb624, 3, none⟩ = some (.slice none 0 0) := (blk_cell BK624.out 3).trans rfl; have hcz41_4 : w39.cell? ⟨gb624, 4, none⟩ = some (.slice none 0 0) := (blk_cell BK624.out 4).trans rfl; have hcz41_5 : w39.cell? ⟨gb624, 5, none⟩ = some (.slice none 0 0) := (blk_cell BK624.out 5).trans rfl; have hcz41_6 : w39.cell? ⟨gb624, 6, none⟩ = some (.int .i64 0) := (blk_cell BK624.out 6).trans rfl; have hcz41_7 : w39.cell? ⟨gb624, 7, none⟩ = some (.int .i64 0) := (blk_cell BK624.out 7).trans rfl; have hcz41_8 : w39.cell? ⟨gb624, 8, none⟩ = some (.bool false) := (blk_cell BK624.out 8).trans rfl; obtain ⟨hfz41_0, hfz41_1, hfz41_2, hfz41_3, hfz41_4, hfz41_5, hfz41_6, hfz41_7, hfz41_8⟩ := fz9 BK624) | (go_at_call 77; (with_reducible refine (bulletinlaw32_short.calls kj2 _ _ ((rd_T39 l0_4 x3_1).f3) false _ ?side1 ?side2 A20.out).mono ?_); (case side1 => exact Kd.C_below HR623_3.out bwS); (case side2 => exact HC623_3.out); rintro e w' ⟨rfl, ⟨nd, rfl⟩⟩))
        go_ret
        exact ⟨ew, bwS⟩
       rw [if_neg c9] at H; exact absurd H (by simp)
      rw [if_neg c8] at H; exact absurd H (by simp)
     replace c7 := Bool.eq_false_iff.mpr c7; subst c7; rw [if_neg nft] at H
     by_cases c42 : (a0_0.size : Int) ≤ 300
     ·rw [if_pos c42] at H; have c42b0 := decide_eq_true c42; have c42b1 : decide (a0_0.size ≤ 300) = true := decide_eq_true (by omega); clear c42
      by_cases c43 : (a0_1.size : Int) ≤ 100
      ·rw [if_pos c43] at H; have c43b0 := decide_eq_true c43; have c43b1 : decide (a0_1.size ≤ 100) = true := decide_eq_true (by omega); clear c43; obtain rfl := Option.some.inj H; obtain ⟨hcz44_0, hcz44_1, hcz44_2, hcz44_3, hcz44_4⟩ := ce5 BK622; obtain ⟨hfz44_0, hfz44_1, hfz44_2, hfz44_3, hfz44_4⟩ := fz5 BK622
       go_wp2
       go_ret
       exact ⟨ew, bwS⟩
      rw [if_neg c43] at H; have c43b0 := decide_eq_false c43; have c43b1 : decide (a0_1.size ≤ 100) = false := decide_eq_false (by omega); clear c43; obtain rfl := Option.some.inj H; obtain ⟨hcz45_0, hcz45_1, hcz45_2, hcz45_3, hcz45_4⟩ := ce5 BK622; obtain ⟨hfz45_0, hfz45_1, hfz45_2, hfz45_3, hfz45_4⟩ := fz5 BK622
      go_wp2
      go_ret
      exact ⟨ew, bwS⟩
     rw [if_neg c42] at H; have c42b0 := decide_eq_false c42; have c42b1 : decide (a0_0.size ≤ 300) = false := decide_eq_false (by omega); clear c42; obtain rfl := Option.some.inj H; obtain ⟨hcz46_0, hcz46_1, hcz46_2, hcz46_3, hcz46_4⟩ := ce5 BK622; obtain ⟨hfz46_0, hfz46_1, hfz46_2, hfz46_3, hfz46_4⟩ := fz5 BK622
     go_wp2
     go_ret
     exact ⟨ew, bwS⟩

end Go.Proofs.YtcndmhpeolbepaaGreatDoor.Fn
namespace Go.Proofs.YtcndmhpeolbepaaGreatDoor.Fn
attribute [local go_sem] max2_int min2_int max_two min_two max_three min_three max_four min_four
def bulletinlaw34_light.f (k : Nat) (a0_0 : ByteArray) (a0_1 : ByteArray) (a0_2 : Int) (l0_3 : List (S23)) (l0_4 : List (S23)) (l0_5 : List (S23)) (a0_6 : Int) (a0_7 : Int) (a0_8 : Bool) : Option (Bool) := (bulletinlaw32_Light.f k (⟨#[]⟩ : ByteArray) (⟨#[]⟩ : ByteArray) 0 0 (([(⟨a0_0, a0_1, a0_2, l0_3, l0_4, l0_5, a0_6, a0_7, a0_8⟩ : S39)] : List (S39)))).bind fun t632 => (some t632)
set_option maxRecDepth 100000 in
theorem bulletinlaw34_light.calls (k : Nat) (a0_0 : ByteArray) (a0_1 : ByteArray) (a0_2 : Int) (P0_3_ : Nat → Prop) (A0_3 : Option Addr) (c0_3 : Nat) (l0_3 : List (S23)) (P0_4_ : Nat → Prop) (A0_4 : Option Addr) (c0_4 : Nat) (l0_4 : List (S23)) (P0_5_ : Nat → Prop) (A0_5 : Option Addr) (c0_5 : Nat) (l0_5 : List (S23)) (a0_6 : Int) (a0_7 : Int) (a0_8 : Bool) (r : Bool) (w : World) (hs0_3 : Kd.V k23 23 w w.heap.size (fun k_ => P0_3_ k_) (.slice A0_3 l0_3.length c0_3) l0_3) (hs0_4 : Kd.V k23 23 w w.heap.size (fun k_ => P0_4_ k_) (.slice A0_4 l0_4.length c0_4) l0_4) (hs0_5 : Kd.V k23 23 w w.heap.size (fun k_ => P0_5_ k_) (.slice A0_5 l0_5.length c0_5) l0_5) (h : bulletinlaw34_light.f k a0_0 a0_1 a0_2 l0_3 l0_4 l0_5 a0_6 a0_7 a0_8 = some r) :
  Calls Tryz.prog 20 #[.agg #[.string a0_0, .string a0_1, .int .i64 a0_2, .slice A0_3 l0_3.length c0_3, .slice A0_4 l0_4.length c0_4, .slice A0_5 l0_5.length c0_5, .int .i64 a0_6, .int .i64 a0_7, .bool a0_8]] w fun e w' => e = .returned (.bool r) ∧ Below w.heap.size w w' := by
 have hu39 := Tryz.underlying39; have hu71 := Tryz.underlying71; have HO0_3 := Aside0.mk (show Kd.V k23 23 w w.heap.size (fun k_ => ((P0_3_ k_ ∨ P0_4_ k_ ∨ P0_5_ k_) ∨ w.heap.size ≤ k_)) (.slice A0_3 l0_3.length c0_3) l0_3 from Kd.V_mono hs0_3 (fun k_ hk => .inl (.inl hk))); have HO0_4 := Aside0.mk (show Kd.V k23 23 w w.heap.size (fun k_ => ((P0_3_ k_ ∨ P0_4_ k_ ∨ P0_5_ k_) ∨ w.heap.size ≤ k_)) (.slice A0_4 l0_4.length c0_4) l0_4 from Kd.V_mono hs0_4 (fun k_ hk => .inl (.inr (.inl hk)))); have HO0_5 := Aside0.mk (show Kd.V k23 23 w w.heap.size (fun k_ => ((P0_3_ k_ ∨ P0_4_ k_ ∨ P0_5_ k_) ∨ w.heap.size ≤ k_)) (.slice A0_5 l0_5.length c0_5) l0_5 from Kd.V_mono hs0_5 (fun k_ hk => .inl (.inr (.inr hk)))); have HB := Aside0.mk (Below.refl w.heap.size w); have H : ((bulletinlaw32_Light.f k (⟨#[]⟩ : ByteArray) (⟨#[]⟩ : ByteArray) 0 0 (([(⟨a0_0, a0_1, a0_2, l0_3, l0_4, l0_5, a0_6, a0_7, a0_8⟩ : S39)] : List (S39)))).bind fun t632 => (some t632)) = some r := h; clear h; obtain ⟨y629, hy629⟩ : ∃ y_ : List (S39), y_ = (([(⟨a0_0, a0_1, a0_2, l0_3, l0_4, l0_5, a0_6, a0_7, a0_8⟩ : S39)] : List (S39))) := ⟨_, rfl⟩
 replace H : ((bulletinlaw32_Light.f k (⟨#[]⟩ : ByteArray) (⟨#[]⟩ : ByteArray) 0 0 y629).bind fun t632 => (some t632)) = some r := by first | (rw [hy629]; with_reducible exact H) | (have H2_ := (Option.bind_some _ _).symm.trans H; rw [hy629]; with_reducible exact H2_) | (have H2_ := (Option.bind_some _ _).symm.trans H; with_reducible exact H2_) | with_reducible exact H | (rw [hy629]; exact H) | exact H
 have Ny629 := Aside0.mk hy629; clear hy629; replace H := Option.bind_eq_some_iff.mp H; obtain ⟨t632, A20, H⟩ := H; have A2 := Aside0.mk A20; clear A20; obtain rfl := Option.some.inj H
 go_enter Tryz.func20, Tryz.ntmps20
 go_wp2_with (first | ((with_reducible refine gate_dst (N := 1) rfl ?_); refine box_event ?hg (N := 1) ?hd (cs := #[.string a0_0, .string a0_1, .int .i64 a0_2, .slice A0_3 l0_3.length c0_3, .slice A0_4 l0_4.length c0_4, .slice A0_5 l0_5.length c0_5, .int .i64 a0_6, .int .i64 a0_7, .bool a0_8]) (t := 39) ?hr ?_; (case hd => rfl); (case hg => rfl); (case hr => first | (go_simp; done) | (go_simp; rfl)); intro gb628 hg w3 hbox hb; have n0_ := Aside0.mk (Kd.V_below (Kd.V_elderB (by (with_reducible repeat (first | apply Kd.V_alloc | apply Kd.V_drewN | apply Kd.V_drew)); exact HO0_3.out) gb628 (Nat.le_of_eq hg.symm)) hb); have n1_ := Aside0.mk (Kd.V_below (Kd.V_elderB (by (with_reducible repeat (first | apply Kd.V_alloc | apply Kd.V_drewN | apply Kd.V_drew)); exact HO0_4.out) gb628 (Nat.le_of_eq hg.symm)) hb); have n2_ := Aside0.mk (Kd.V_below (Kd.V_elderB (by (with_reducible repeat (first | apply Kd.V_alloc | apply Kd.V_drewN | apply Kd.V_drew)); exact HO0_5.out) gb628 (Nat.le_of_eq hg.symm)) hb); have n3_ := Aside0.mk (below_step bw hb); have n4_ := Aside0.mk (hbox); have n5_ := Aside0.mk ((by rw [hg]; exact (below_size bw) : w.heap.size ≤ gb628)); have n6_ := Aside0.mk ((by rw [hg]; exact (below_size bw) : w.heap.size ≤ gb628)); clear HO0_3; clear HO0_4; clear HO0_5; clear HB; have HO0_3 := n0_; have HO0_4 := n1_; have HO0_5 := n2_; have HB := n3_; have BK628 := n4_; have GW628 := n5_; have GE628 := n6_; clear n0_ n1_ n2_ n3_ n4_ n5_ n6_; clear hb hbox hg; obtain ⟨hcz4_0, hcz4_1, hcz4_2, hcz4_3, hcz4_4, hcz4_5, hcz4_6, hcz4_7, hcz4_8⟩ := ce9 BK628; obtain ⟨hfz4_0, hfz4_1, hfz4_2, hfz4_3, hfz4_4, hfz4_5, hfz4_6, hfz4_7, hfz4_8⟩ := fz9 BK628) | ((with_reducible refine gate_dst (N := 4) rfl ?_); refine Kd.N_lit k39 _ 39 ?hg (N' := 4) ?hd (xs := ([(⟨a0_0, a0_1, a0_2, l0_3, l0_4, l0_5, a0_6, a0_7, a0_8⟩ : S39)] : List (S39))) (inner := [.string a0_0, .string a0_1, .int .i64 a0_2, .slice A0_3 l0_3.length c0_3, .slice A0_4 l0_4.length c0_4, .slice A0_5 l0_5.length c0_5, .int .i64 a0_6, .int .i64 a0_7, .bool a0_8]) (ok := (fun k_ => ((P0_3_ k_ ∨ P0_4_ k_ ∨ P0_5_ k_) ∨ w.heap.size ≤ k_) ∧ k_ ≠ gb628)) (okp := (fun k_ => ((P0_3_ k_ ∨ P0_4_ k_ ∨ P0_5_ k_) ∨ w.heap.size ≤ k_) ∧ k_ ≠ gb628)) ?hr ?hp (fun _ hk => hk) ((show ∀ k_, w3.heap.size ≤ k_ → (fun k_ => ((P0_3_ k_ ∨ P0_4_ k_ ∨ P0_5_ k_) ∨ w.heap.size ≤ k_) ∧ k_ ≠ gb628) k_ from fun k_ hk => ⟨(.inr (Nat.le_trans (below_size bwS) hk)), Kd.freshB (g := gb628) (o := .cells #[.string a0_0, .string a0_1, .int .i64 a0_2, .slice A0_3 l0_3.length c0_3, .slice A0_4 l0_4.length c0_4, .slice A0_5 l0_5.length c0_5, .int .i64 a0_6, .int .i64 a0_7, .bool a0_8] 39 (0, 0)) bk k_ hk⟩) _ (Nat.le_refl _)) (Below.refl _ _) (Nat.le_refl _) (by simp) ?_; (case hd => rfl); (case hg => rfl); (case hr => first | (go_simp; done) | (go_simp; rfl)); (case hp => exact (Reps.c9 (show Kd.FK k39 _ _ (⟨a0_0, a0_1, a0_2, l0_3, l0_4, l0_5, a0_6, a0_7, a0_8⟩ : S39) [.string a0_0, .string a0_1, .int .i64 a0_2, .slice A0_3 l0_3.length c0_3, .slice A0_4 l0_4.length c0_4, .slice A0_5 l0_5.length c0_5, .int .i64 a0_6, .int .i64 a0_7, .bool a0_8] from (k39_mkF _ _ (⟨a0_0, a0_1, a0_2, l0_3, l0_4, l0_5, a0_6, a0_7, a0_8⟩ : S39) (Kd.V_reads' (Kd.V_mono (ok' := (fun k_ => ((P0_3_ k_ ∨ P0_4_ k_ ∨ P0_5_ k_) ∨ w.heap.size ≤ k_) ∧ k_ ≠ gb628)) (HO0_3.out) (fun k_ hk => ⟨hk.1, hk.2⟩))).2.1 (Kd.V_F (Kd.V_mono (ok' := (fun k_ => ((P0_3_ k_ ∨ P0_4_ k_ ∨ P0_5_ k_) ∨ w.heap.size ≤ k_) ∧ k_ ≠ gb628)) (HO0_3.out) (fun k_ hk => ⟨hk.1, hk.2⟩))) (Kd.V_reads' (Kd.V_mono (ok' := (fun k_ => ((P0_3_ k_ ∨ P0_4_ k_ ∨ P0_5_ k_) ∨ w.heap.size ≤ k_) ∧ k_ ≠ gb628)) (HO0_4.out) (fun k_ hk => ⟨hk.1, hk.2⟩))).2.1 (Kd.V_F (Kd.V_mono (ok' := (fun k_ => ((P0_3_ k_ ∨ P0_4_ k_ ∨ P0_5_ k_) ∨ w.heap.size ≤ k_) ∧ k_ ≠ gb628)) (HO0_4.out) (fun k_ hk => ⟨hk.1, hk.2⟩))) (Kd.V_reads' (Kd.V_mono (ok' := (fun k_ => ((P0_3_ k_ ∨ P0_4_ k_ ∨ P0_5_ k_) ∨ w.heap.size ≤ k_) ∧ k_ ≠ gb628)) (HO0_5.out) (fun k_ hk => ⟨hk.1, hk.2⟩))).2.1 (Kd.V_F (Kd.V_mono (ok' := (fun k_ => ((P0_3_ k_ ∨ P0_4_ k_ ∨ P0_5_ k_) ∨ w.heap.size ≤ k_) ∧ k_ ≠ gb628)) (HO0_5.out) (fun k_ hk => ⟨hk.1, hk.2⟩))))) (Reps.none _ _))); intro v630 w5 ho6 hb hg_ hnew_; clear hg_ hnew_; (first | rw [← Ny629.out] at ho6 | (simp only [Int.reduceToNat] at ho6; rw [← Ny629.out] at ho6)); have n0_ := Aside0.mk (Kd.V_elder' (by (with_reducible repeat (first | apply Kd.V_alloc | apply Kd.V_drewN | apply Kd.V_drew)); exact HO0_3.out) (Kd.N_base ho6) hb); have n1_ := Aside0.mk (Kd.V_elder' (by (with_reducible repeat (first | apply Kd.V_alloc | apply Kd.V_drewN | apply Kd.V_drew)); exact HO0_4.out) (Kd.N_base ho6) hb); have n2_ := Aside0.mk (Kd.V_elder' (by (with_reducible repeat (first | apply Kd.V_alloc | apply Kd.V_drewN | apply Kd.V_drew)); exact HO0_5.out) (Kd.N_base ho6) hb); have n3_ := Aside0.mk (Kd.N_lower ho6 (below_size bwS)); have n4_ := Aside0.mk (blk_below (g := gb628) (o := .cells #[.string a0_0, .string a0_1, .int .i64 a0_2, .slice A0_3 l0_3.length c0_3, .slice A0_4 l0_4.length c0_4, .slice A0_5 l0_5.length c0_5, .int .i64 a0_6, .int .i64 a0_7, .bool a0_8] 39 (0, 0)) bk hb); have n5_ := Aside0.mk (below_step bwS hb); clear HO0_3; clear HO0_4; clear HO0_5; clear BK628; clear HB; have HO0_3 := n0_; have HO0_4 := n1_; have HO0_5 := n2_; have HO631 := n3_; have BK628 := n4_; have HB := n5_; clear n0_ n1_ n2_ n3_ n4_ n5_; clear hb ho6; obtain ⟨Ao7, co7, eo7⟩ := Kd.N_slice HO631.out; subst eo7) | ((with_reducible refine gate_callee (f := 35) rfl ?_); refine goesL_ (some 6) rfl rfl Tryz.func35 (by kernel_rfl) rfl #[.agg #[.string (⟨#[]⟩ : ByteArray), .string (⟨#[]⟩ : ByteArray), .int .i64 0, .int .i64 0, .slice Ao7 y629.length co7]] rfl am ?_; (with_reducible refine (bulletinlaw32_Light.calls k (⟨#[]⟩ : ByteArray) (⟨#[]⟩ : ByteArray) 0 0 _ _ y629 t632 _ ?side1 ?side2 A2.out).mono ?_); (case side1 => repeat (first | exact (Kd.N_reads' HO631.out).2.2 | (with_reducible refine Kd.C_alloc ?_ _) | (with_reducible refine Kd.C_drewN ?_ _) | (with_reducible refine Kd.C_drew ?_))); (case side2 => exact (Kd.N_reads' HO631.out).2.1); rintro e w8 ⟨rfl, hb⟩; refine ⟨_, rfl, ?_⟩; have n0_ := Aside0.mk (Kd.V_below (by (with_reducible repeat (first | apply Kd.V_alloc | apply Kd.V_drewN | apply Kd.V_drew)); exact HO0_3.out) hb); have n1_ := Aside0.mk (Kd.V_below (by (with_reducible repeat (first | apply Kd.V_alloc | apply Kd.V_drewN | apply Kd.V_drew)); exact HO0_4.out) hb); have n2_ := Aside0.mk (Kd.V_below (by (with_reducible repeat (first | apply Kd.V_alloc | apply Kd.V_drewN | apply Kd.V_drew)); exact HO0_5.out) hb); have n3_ := Aside0.mk (Kd.N_below (by (with_reducible repeat (first | apply Kd.N_alloc | apply Kd.N_drewN | apply Kd.N_drew)); exact HO631.out) hb); have n4_ := Aside0.mk (blk_below (g := gb628) (o := .cells #[.string a0_0, .string a0_1, .int .i64 a0_2, .slice A0_3 l0_3.length c0_3, .slice A0_4 l0_4.length c0_4, .slice A0_5 l0_5.length c0_5, .int .i64 a0_6, .int .i64 a0_7, .bool a0_8] 39 (0, 0)) bk hb); have n5_ := Aside0.mk (below_step bwS hb); clear HO0_3; clear HO0_4; clear HO0_5; clear HO631; clear BK628; clear HB; have HO0_3 := n0_; have HO0_4 := n1_; have HO0_5 := n2_; have HO631 := n3_; have BK628 := n4_; have HB := n5_; clear n0_ n1_ n2_ n3_ n4_ n5_; (try clear hb); (try clear hb2); (try clear hk); (try clear hi)))
 go_ret
 exact ⟨ew, bwS⟩
def b64_white.f (a0 : Int) : Option (Bool) := if a0 = 32 then (some true) else (if a0 = 9 then (some true) else (if a0 = 13 then (some true) else (some (a0 == 10))))
set_option maxRecDepth 100000 in
theorem b64_white.calls (a0 : Int) (r : Bool) (w : World) (h : b64_white.f a0 = some r) :
  Calls Tryz.prog 208 #[.int .u8 a0] w fun e w' => e = .returned (.bool r) ∧ Drawn0 w w' := by
 have H : (if a0 = 32 then (some true) else (if a0 = 9 then (some true) else (if a0 = 13 then (some true) else (some (a0 == 10))))) = some r := h; clear h
 by_cases c2 : a0 = 32
 ·rw [if_pos c2] at H; have c2b0 := beq_iff_eq.mpr c2; have c2b1 := bne_eq_false_iff_eq.mpr c2; clear c2; obtain rfl := Option.some.inj H
  go_enter Tryz.func208, Tryz.ntmps208
  go_wp2
  go_ret
  exact ⟨cl, d0⟩
 rw [if_neg c2] at H; have c2b0 := beq_eq_false_iff_ne.mpr c2; have c2b1 := bne_iff_ne.mpr c2
 by_cases c3 : a0 = 9
 ·rw [if_pos c3] at H; have c3b0 := beq_iff_eq.mpr c3; have c3b1 := bne_eq_false_iff_eq.mpr c3; clear c3; obtain rfl := Option.some.inj H
  go_enter Tryz.func208, Tryz.ntmps208
  go_wp2
  go_ret
  exact ⟨cl, d0⟩
 rw [if_neg c3] at H; have c3b0 := beq_eq_false_iff_ne.mpr c3; have c3b1 := bne_iff_ne.mpr c3
 by_cases c4 : a0 = 13
 ·rw [if_pos c4] at H; have c4b0 := beq_iff_eq.mpr c4; have c4b1 := bne_eq_false_iff_eq.mpr c4; clear c4; obtain rfl := Option.some.inj H
  go_enter Tryz.func208, Tryz.ntmps208
  go_wp2
  go_ret
  exact ⟨cl, d0⟩
 rw [if_neg c4] at H; have c4b0 := beq_eq_false_iff_ne.mpr c4; have c4b1 := bne_iff_ne.mpr c4; obtain rfl := Option.some.inj H
 go_enter Tryz.func208, Tryz.ntmps208
 go_wp2
 go_ret
 exact ⟨cl, d0⟩
def b64_bare.l0 : Nat → ByteArray → List Int → Int → Int → Option (ByteArray)
 | 0, _, _, _, _ => none
 | k + 1, x0, x3, x6, x7 => if x7 < x6 then (if 0 ≤ x7 then (if x7 < (x0.size : Int) then ((b64_white.f (bt x0 x7)).bind fun t160 => (if t160 = true then (b64_bare.l0 k x0 x3 x6 (wrap64 (x7 + 1))) else (if x3.length < 140737488355328 then (b64_bare.l0 k x0 (x3 ++ [bt x0 x7]) x6 (wrap64 (x7 + 1))) else (none)))) else (none)) else (none)) else (some (strOfNums x3))
def b64_bare.f (k : Nat) (a0 : ByteArray) : Option (ByteArray) := b64_bare.l0 k a0 ([] : List Int) (a0.size : Int) 0
set_option maxRecDepth 100000 in
theorem b64_bare.calls (k : Nat) (a0 : ByteArray) (r : ByteArray) (w : World) (h : b64_bare.f k a0 = some r) :
  Calls Tryz.prog 190 #[.string a0] w fun e w' => e = .returned (.string r) ∧ Below w.heap.size w w' := by
 have HB := Aside0.mk (Below.refl w.heap.size w); have H : (b64_bare.l0 k a0 ([] : List Int) (a0.size : Int) 0) = some r := h; clear h; have H' := Aside0.mk H; clear H
 go_enter Tryz.func190, Tryz.ntmps190
 go_wp2
 go_loopg [3, 7] k (fun kq v3 v7 w' => ∃ (x3_1 : List Int) (x7_1 : Int), v7 = .int .i64 x7_1 ∧ Aside0 (b64_bare.l0 kq a0 x3_1 (a0.size : Int) x7_1 = some r) ∧ Aside0 (kq ≤ k) ∧ Aside0 (Kd.R (Kd.int .u8) 5 w' w.heap.size (fun _ => True) v3 x3_1) ∧ Aside0 (Below w.heap.size w w'))
 case atStart => exact ⟨(([] : List Int)), (0), cl, H', ⟨Nat.le_refl _⟩, ⟨by first | exact Kd.R_nil _ _ _ _ _ | exact Kd.N_nil _ _ _ _ _ | exact Kd.V_nil _ _ _ _ _ | exact Kd.Q_nil _ _ _ _ _ | exact Kd.S_nil _ _ _ _ _⟩, ⟨bw⟩⟩
 case round =>
  clear H'
  try clear c1
  obtain ⟨x3_1, x7_1, rfl, HA, HK1, HO_3, HB⟩ := hrel; cases gk with
  | zero => exact absurd HA.out (by simp [b64_bare.l0])
  | succ k1 =>
   have H := HA.out; clear HA; simp only [b64_bare.l0] at H
   by_cases c2 : x7_1 < (a0.size : Int)
   ·rw [if_pos c2] at H; have c2b0 := decide_eq_true c2; clear c2
    by_cases c3 : 0 ≤ x7_1
    ·rw [if_pos c3] at H; have c3b0 := decide_eq_true c3; clear c3
     by_cases c4 : x7_1 < (a0.size : Int)
     ·rw [if_pos c4] at H; have c4b0 := decide_eq_true c4; clear c4; replace H := Option.bind_eq_some_iff.mp H; obtain ⟨t160, A60, H⟩ := H; have A6 := Aside0.mk A60; clear A60
      by_cases c7 : t160 = true
      ·subst c7; rw [if_pos rfl] at H; have H' := Aside0.mk H; clear H; have p5 : 0 ≤ (x7_1 : Int) := od; have q5 : x7_1 < (a0.size : Int) := od; have hx5 := bt_at a0 x7_1; replace p5 := eq_true p5; replace q5 := eq_true q5
       go_wp2_with (first | ((with_reducible refine gate_callee (f := 208) rfl ?_); refine goesL_ (some 13) rfl rfl Tryz.func208 (by kernel_rfl) rfl #[.int .u8 (bt a0 x7_1)] rfl am ?_; (with_reducible refine (b64_white.calls (bt a0 x7_1) true _ A6.out).mono ?_); rintro e w' ⟨rfl, ⟨nd, rfl⟩⟩; refine ⟨_, rfl, ?_⟩))
       go_roundg k1
       case measure => have := HK1.out; omega
       case rel => exact ⟨(x3_1), (wrap64 (x7_1 + 1)), cl, H', ⟨by have := HK1.out; omega⟩, ⟨ra HO_3.out⟩, ⟨bw⟩⟩
      replace c7 := Bool.eq_false_iff.mpr c7; subst c7; rw [if_neg nft] at H
      by_cases c9 : x3_1.length < 140737488355328
      ·rw [if_pos c9] at H; have LMc9 := Aside0.mk c9; clear c9; obtain ⟨y161, hy161⟩ : ∃ y_ : List Int, y_ = (x3_1 ++ [bt a0 x7_1]) := ⟨_, rfl⟩
       replace H : (b64_bare.l0 k1 a0 y161 (a0.size : Int) (wrap64 (x7_1 + 1))) = some r := by first | (rw [hy161]; with_reducible exact H) | (have H2_ := (Option.bind_some _ _).symm.trans H; rw [hy161]; with_reducible exact H2_) | (have H2_ := (Option.bind_some _ _).symm.trans H; with_reducible exact H2_) | with_reducible exact H | (rw [hy161]; exact H) | exact H
       have Ny161 := Aside0.mk hy161; clear hy161; have H' := Aside0.mk H; clear H; have p5 : 0 ≤ (x7_1 : Int) := od; have q5 : x7_1 < (a0.size : Int) := od; have hx5 := bt_at a0 x7_1; replace p5 := eq_true p5; replace q5 := eq_true q5
       go_wp2_with (first | ((with_reducible refine gate_callee (f := 208) rfl ?_); refine goesL_ (some 13) rfl rfl Tryz.func208 (by kernel_rfl) rfl #[.int .u8 (bt a0 x7_1)] rfl am ?_; (with_reducible refine (b64_white.calls (bt a0 x7_1) false _ A6.out).mono ?_); rintro e w' ⟨rfl, ⟨nd, rfl⟩⟩; refine ⟨_, rfl, ?_⟩; have p8 : 0 ≤ (x7_1 : Int) := od; have q8 : x7_1 < (a0.size : Int) := od; have hx8 := bt_at a0 x7_1; replace p8 := eq_true p8; replace q8 := eq_true q8) | ((with_reducible refine gate_builtin (b := .append) (xs := #[.tmp 15, .tmp 19]) rfl ?_); at_builtin; refine Kd.R_append (Kd.int .u8) (w0 := w) w.heap.size rfl (.tmp 15) (.tmp 19) 83 5 (.int .u8 0) 1 rfl Tryz.underlying83 info5 rfl (by decide) (by omega) u3 x3_1 (bt a0 x7_1) [.int .u8 (bt a0 x7_1)] (fun _ => True) (fun _ => False) rfl rfl ?aP (fun _ hk => hk.elim) ?aF ?aO ?aB ?aS ?aL ?_; (case aP => exact rfl); (case aB => exact bw); (case aF => exact (fun _ _ => trivial)); (case aO => exact (ra HO_3.out)); (case aS => exact (below_size bw)); (case aL => have := LMc9.out; omega); intro v162 w10 ho hb hg hat; rw [← Ny161.out] at ho; have n0_ := Aside0.mk (hb); have n1_ := Aside0.mk (ho); clear HB; clear HO_3; have HB := n0_; have HO163 := n1_; clear n0_ n1_; clear ho hb hg hat))
       go_roundg k1
       case measure => have := HK1.out; omega
       case rel => exact ⟨(y161), (wrap64 (x7_1 + 1)), cl, H', ⟨by have := HK1.out; omega⟩, ⟨ra HO163.out⟩, ⟨bw⟩⟩
      rw [if_neg c9] at H; exact absurd H (by simp)
     rw [if_neg c4] at H; exact absurd H (by simp)
    rw [if_neg c3] at H; exact absurd H (by simp)
   rw [if_neg c2] at H; have c2b0 := decide_eq_false c2; clear c2; obtain rfl := Option.some.inj H; have hcv11 := own_string (P := Tryz.prog) Tryz.underlying83 Tryz.underlying5 Tryz.underlying9 (Kd.own_of_R HO_3.out)
   go_wp2
   go_ret
   exact ⟨ew, bw⟩
def glyph_plain.f (a0 : Int) : Option (Bool) := if a0 ≥ 32 then (some (decide (a0 ≤ 126))) else (some false)
set_option maxRecDepth 100000 in
theorem glyph_plain.calls (a0 : Int) (r : Bool) (w : World) (h : glyph_plain.f a0 = some r) :
  Calls Tryz.prog 109 #[.int .i32 a0] w fun e w' => e = .returned (.bool r) ∧ Drawn0 w w' := by
 have H : (if a0 ≥ 32 then (some (decide (a0 ≤ 126))) else (some false)) = some r := h; clear h
 by_cases c2 : a0 ≥ 32
 ·rw [if_pos c2] at H; have c2b0 : decide (32 ≤ a0) = true := decide_eq_true c2; clear c2; obtain rfl := Option.some.inj H
  go_enter Tryz.func109, Tryz.ntmps109
  go_wp2
  go_ret
  exact ⟨cl, d0⟩
 rw [if_neg c2] at H; have c2b0 : decide (32 ≤ a0) = false := decide_eq_false c2; clear c2; obtain rfl := Option.some.inj H
 go_enter Tryz.func109, Tryz.ntmps109
 go_wp2
 go_ret
 exact ⟨cl, d0⟩
end Go.Proofs.YtcndmhpeolbepaaGreatDoor.Fn
namespace Go.Proofs.YtcndmhpeolbepaaGreatDoor.Fn
open Go.RowKit Go.Proofs.YtcndmhpeolbepaaGreatDoorW.PrintWords Go.Proofs.YtcndmhpeolbepaaGreatDoorW.PrintLast Go.Proofs.YtcndmhpeolbepaaGreatDoorW.PrintMore
attribute [local go_sem] max2_int min2_int max_two min_two max_three min_three max_four min_four
set_option linter.unusedVariables false
set_option linter.unusedSimpArgs false

mutual
def qp_digit.j0 : Nat → Int → Bool → Option (Int)
 | 0, _, _ => none
 | k + 1, x0, x3 => if x3 = true then (some ((x0 - 48) % 256)) else (if x0 ≥ 65 then (qp_digit.j1 k x0 (decide (x0 ≤ 70))) else (qp_digit.j1 k x0 false))
def qp_digit.j1 : Nat → Int → Bool → Option (Int)
 | 0, _, _ => none
 | k + 1, x0, x13 => if x13 = true then (some (((x0 - 65) % 256) + 10)) else (if x0 ≥ 97 then (if x0 ≤ 102 then (some (((x0 - 97) % 256) + 10)) else (some (-1))) else (some (-1)))
end
def qp_digit.f (k : Nat) (a0 : Int) : Option (Int) := if a0 ≥ 48 then (qp_digit.j0 k a0 (decide (a0 ≤ 57))) else (qp_digit.j0 k a0 false)
theorem qp_digit.mono_l : ∀ k, (∀ y0 y1, LeO (qp_digit.j0 k y0 y1) (qp_digit.j0 (k + 1) y0 y1)) ∧ (∀ y0 y1, LeO (qp_digit.j1 k y0 y1) (qp_digit.j1 (k + 1) y0 y1))
 | 0 => ⟨fun _ _ r h => by simp [qp_digit.j0] at h, fun _ _ r h => by simp [qp_digit.j1] at h⟩
 | k + 1 => by
  obtain ⟨ih0, ih1⟩ := qp_digit.mono_l k; refine ⟨?_, ?_⟩
  ·intro y0 y1; unfold qp_digit.j0
   repeat' first
   | (with_reducible exact ih0 _ _)
   | (with_reducible exact ih1 _ _)
   | (with_reducible exact LeO.refl _)
   | (with_reducible exact LeO.none _)
   | (with_reducible refine LeO.ite ?_ ?_)
   | (with_reducible refine LeO.bind ?_ (fun _ => ?_))
   | exact ih0 _ _
   | exact ih1 _ _
   | exact LeO.none _
   | refine LeO.ite ?_ ?_
   | refine LeO.bind ?_ (fun _ => ?_)
  intro y0 y1; unfold qp_digit.j1
  repeat' first
  | (with_reducible exact ih0 _ _)
  | (with_reducible exact ih1 _ _)
  | (with_reducible exact LeO.refl _)
  | (with_reducible exact LeO.none _)
  | (with_reducible refine LeO.ite ?_ ?_)
  | (with_reducible refine LeO.bind ?_ (fun _ => ?_))
  | exact ih0 _ _
  | exact ih1 _ _
  | exact LeO.none _
  | refine LeO.ite ?_ ?_
  | refine LeO.bind ?_ (fun _ => ?_)
theorem qp_digit.mono : ∀ a0 k, LeO (qp_digit.f k a0) (qp_digit.f (k + 1) a0) := by
 intro a0 k; obtain ⟨ih0, ih1⟩ := qp_digit.mono_l k; unfold qp_digit.f
 repeat' first
   | (with_reducible exact ih0 _ _)
   | (with_reducible exact ih1 _ _)
   | (with_reducible exact LeO.refl _)
   | (with_reducible exact LeO.none _)
   | (with_reducible refine LeO.ite ?_ ?_)
   | (with_reducible refine LeO.bind ?_ (fun _ => ?_))
   | exact ih0 _ _
   | exact ih1 _ _
   | exact LeO.none _
   | refine LeO.ite ?_ ?_
   | refine LeO.bind ?_ (fun _ => ?_)
set_option maxHeartbeats 8000000 in
set_option maxRecDepth 100000 in
theorem qp_digit.calls (k : Nat) (a0 : Int) (r : Int) (w : World) (h : qp_digit.f k a0 = some r) :
  Calls Tryz.prog 207 #[.int .u8 a0] w fun e w' => e = .returned (.int .i64 r) ∧ Drawn0 w w' := by
 have H : (if a0 ≥ 48 then (qp_digit.j0 k a0 (decide (a0 ≤ 57))) else (qp_digit.j0 k a0 false)) = some r := h; clear h; have HC2 := Aside0.mk H; clear H
 go_enter Tryz.func207, Tryz.ntmps207
 go_upto_region 1 with (fail)
 go_cut [3] (fun v3 wc => ∃ (kq : Nat) (x3_1 : Bool), v3 = .bool x3_1 ∧ Aside0 (qp_digit.j0 kq a0 x3_1 = some r) ∧ Aside0 (kq ≤ k) ∧ Drawn0 w wc)
 case first =>
  have H := HC2.out; clear HC2
  by_cases c3 : a0 ≥ 48
  ·rw [if_pos c3] at H; have c3b0 : decide (48 ≤ a0) = true := decide_eq_true c3; clear c3
   (first | rw [c3b0] | (simp only [i64_w, i32_w]; rw [c3b0]) | skip)
   have H' := Aside0.mk H; clear H
   go_wp2
   go_meet
   case rel => exact ⟨_, (decide (a0 ≤ 57)), cl, H', ⟨by first | omega | exact Nat.le_refl _⟩, d0⟩
  rw [if_neg c3] at H; have c3b0 : decide (48 ≤ a0) = false := decide_eq_false c3; clear c3
  (first | rw [c3b0] | (simp only [i64_w, i32_w]; rw [c3b0]) | skip)
  have H' := Aside0.mk H; clear H
  go_wp2
  go_meet
  case rel => exact ⟨_, (false), cl, H', ⟨by first | omega | exact Nat.le_refl _⟩, d0⟩
 case rest =>
  clear HC2
  try clear c2
  try clear p2
  try clear c3
  try clear c3b0
  obtain ⟨kq, x3_1, rfl, HA, HJ1, ⟨mc1, rfl⟩⟩ := hcut; cases kq with
  | zero => exact absurd HA.out (by simp [qp_digit.j0])
  | succ kj1 =>
   have H := HA.out; clear HA; simp only [qp_digit.j0] at H
   by_cases c4 : x3_1 = true
   ·subst c4; rw [if_pos rfl] at H; obtain rfl := Option.some.inj H
    go_wp2
    go_ret
    exact ⟨cl, d0⟩
   replace c4 := Bool.eq_false_iff.mpr c4; subst c4; rw [if_neg nft] at H; have HC5 := Aside0.mk H; clear H
   go_upto_region 3 with (fail)
   go_cut [13] (fun v13 wc => ∃ (kq : Nat) (x13_4 : Bool), v13 = .bool x13_4 ∧ Aside0 (qp_digit.j1 kq a0 x13_4 = some r) ∧ Aside0 (kq ≤ kj1) ∧ Drawn0 w wc)
   case first =>
    have H := HC5.out; clear HC5
    by_cases c6 : a0 ≥ 65
    ·rw [if_pos c6] at H; have c6b0 : decide (65 ≤ a0) = true := decide_eq_true c6; clear c6
     (first | rw [c6b0] | (simp only [i64_w, i32_w]; rw [c6b0]) | skip)
     have H' := Aside0.mk H; clear H
     go_wp2
     go_meet
     case rel => exact ⟨_, (decide (a0 ≤ 70)), cl, H', ⟨by have := HJ1.out; first | omega | exact Nat.le_refl _⟩, d0⟩
    rw [if_neg c6] at H; have c6b0 : decide (65 ≤ a0) = false := decide_eq_false c6; clear c6
    (first | rw [c6b0] | (simp only [i64_w, i32_w]; rw [c6b0]) | skip)
    have H' := Aside0.mk H; clear H
    go_wp2
    go_meet
    case rel => exact ⟨_, (false), cl, H', ⟨by have := HJ1.out; first | omega | exact Nat.le_refl _⟩, d0⟩
   case rest =>
    clear HC5
    try clear c1
    try clear c2
    try clear p2
    try clear c3
    try clear c3b0
    try clear c4
    try clear c6
    try clear c6b0
    try clear p2
    obtain ⟨kq, x13_4, rfl, HA, HJ4, ⟨mc4, rfl⟩⟩ := hcut; cases kq with
    | zero => exact absurd HA.out (by simp [qp_digit.j1])
    | succ kj4 =>
     have H := HA.out; clear HA; simp only [qp_digit.j1] at H
     by_cases c7 : x13_4 = true
     ·subst c7; rw [if_pos rfl] at H; obtain rfl := Option.some.inj H
      go_wp2
      go_ret
      exact ⟨cl, d0⟩
     replace c7 := Bool.eq_false_iff.mpr c7; subst c7; rw [if_neg nft] at H
     by_cases c8 : a0 ≥ 97
     ·rw [if_pos c8] at H; have c8b0 : decide (97 ≤ a0) = true := decide_eq_true c8; clear c8
      by_cases c9 : a0 ≤ 102
      ·rw [if_pos c9] at H; have c9b0 := decide_eq_true c9; clear c9; obtain rfl := Option.some.inj H
       go_wp2
       go_ret
       exact ⟨cl, d0⟩
      rw [if_neg c9] at H; have c9b0 := decide_eq_false c9; clear c9; obtain rfl := Option.some.inj H
      go_wp2
      go_ret
      exact ⟨cl, d0⟩
     rw [if_neg c8] at H; have c8b0 : decide (97 ≤ a0) = false := decide_eq_false c8; clear c8; obtain rfl := Option.some.inj H
     go_wp2
     go_ret
     exact ⟨cl, d0⟩

end Go.Proofs.YtcndmhpeolbepaaGreatDoor.Fn
namespace Go.Proofs.YtcndmhpeolbepaaGreatDoor.Fn
attribute [local go_sem] max2_int min2_int max_two min_two max_three min_three max_four min_four
def qp_Byte.j0 : Nat → ByteArray → Bool → Option (Int × Bool)
 | 0, _, _ => none
 | k + 1, x0, x18 => if x18 = true then (some (0, false)) else (if 0 < (x0.size : Int) then ((qp_digit.f k (bt x0 0)).bind fun t145 => (if 1 < (x0.size : Int) then ((qp_digit.f k (bt x0 1)).bind fun t146 => (some ((Go.bits .or .i64 (wrap64 (t145 * 16)) t146) % 256, true))) else (none))) else (none))
def qp_Byte.f (k : Nat) (a0 : ByteArray) : Option (Int × Bool) := if (a0.size : Int) = 2 then (if 0 < (a0.size : Int) then ((qp_digit.f k (bt a0 0)).bind fun t143 => (if t143 < 0 then (qp_Byte.j0 k a0 true) else (if 1 < (a0.size : Int) then ((qp_digit.f k (bt a0 1)).bind fun t144 => (qp_Byte.j0 k a0 (decide (t144 < 0)))) else (none)))) else (none)) else (qp_Byte.j0 k a0 true)
set_option maxRecDepth 100000 in
theorem qp_Byte.calls (k : Nat) (a0 : ByteArray) (r1 : Int) (r2 : Bool) (w : World) (h : qp_Byte.f k a0 = some (r1, r2)) :
  Calls Tryz.prog 189 #[.string a0] w fun e w' => e = .returned (.tuple #[.int .u8 r1, .bool r2]) ∧ Drawn0 w w' := by
 have H : (if (a0.size : Int) = 2 then (if 0 < (a0.size : Int) then ((qp_digit.f k (bt a0 0)).bind fun t143 => (if t143 < 0 then (qp_Byte.j0 k a0 true) else (if 1 < (a0.size : Int) then ((qp_digit.f k (bt a0 1)).bind fun t144 => (qp_Byte.j0 k a0 (decide (t144 < 0)))) else (none)))) else (none)) else (qp_Byte.j0 k a0 true)) = some (r1, r2) := h; clear h; have HC2 := Aside0.mk H; clear H
 go_enter Tryz.func189, Tryz.ntmps189
 go_upto_region 1 with (fail)
 repeat (go_quiet (fail); go_upto_region 1 with (fail))
 go_cut [18] (fun v18 wc => ∃ (kq : Nat) (x18_1 : Bool), v18 = .bool x18_1 ∧ Aside0 (qp_Byte.j0 kq a0 x18_1 = some (r1, r2)) ∧ Aside0 (kq ≤ k) ∧ Drawn0 w wc)
 case first =>
  have H := HC2.out; clear HC2
  by_cases c3 : (a0.size : Int) = 2
  ·rw [if_pos c3] at H; have c3b0 := beq_iff_eq.mpr c3; have c3b1 := bne_eq_false_iff_eq.mpr c3; clear c3
   (first | rw [c3b0] | (simp only [i64_w, i32_w]; rw [c3b0]) | skip)
   by_cases c4 : 0 < (a0.size : Int)
   ·rw [if_pos c4] at H; have c4b0 := decide_eq_true c4; have c4b1 : decide (0 < a0.size) = true := decide_eq_true (by omega); clear c4; replace H := Option.bind_eq_some_iff.mp H; obtain ⟨t143, A60, H⟩ := H; have A6 := Aside0.mk A60; clear A60
    by_cases c7 : t143 < 0
    ·rw [if_pos c7] at H; have c7b0 := decide_eq_true c7; clear c7; have H' := Aside0.mk H; clear H; have p5 : 0 ≤ (0 : Int) := (by omega)
     have q5 : 0 < a0.size := (by have : (0 : Int) < (a0.size : Int) := od; omega)
     have hx5 : ∀ h : 0 < a0.size, ((a0[0]'h).toNat : Int) = bt a0 0 := bt_at a0 0; clear p5; have qi5 : (0 < (a0.size : Int)) = True := eq_true (od); replace q5 := eq_true q5
     go_wp2_with (first | (go_at_call 207; (with_reducible refine (qp_digit.calls k (bt a0 0) t143 _ A6.out).mono ?_); rintro e w' ⟨rfl, ⟨nd, rfl⟩⟩; (try first | exact ⟨rfl, _, World.drewN_drewN _ _ _⟩ | exact ⟨rfl, _, Eq.trans (World.drewN_drewN _ _ _) (congrArg (World.drewN _) (Nat.add_assoc _ _ _))⟩)))
     repeat (go_quiet (first | (go_at_call 207; (with_reducible refine (qp_digit.calls k (bt a0 0) t143 _ A6.out).mono ?_); rintro e w' ⟨rfl, ⟨nd, rfl⟩⟩; (try first | exact ⟨rfl, _, World.drewN_drewN _ _ _⟩ | exact ⟨rfl, _, Eq.trans (World.drewN_drewN _ _ _) (congrArg (World.drewN _) (Nat.add_assoc _ _ _))⟩))); try go_wp2_with (first | (go_at_call 207; (with_reducible refine (qp_digit.calls k (bt a0 0) t143 _ A6.out).mono ?_); rintro e w' ⟨rfl, ⟨nd, rfl⟩⟩; (try first | exact ⟨rfl, _, World.drewN_drewN _ _ _⟩ | exact ⟨rfl, _, Eq.trans (World.drewN_drewN _ _ _) (congrArg (World.drewN _) (Nat.add_assoc _ _ _))⟩))))
     go_meet
     case rel => exact ⟨_, (true), cl, H', ⟨by first | omega | exact Nat.le_refl _⟩, d0⟩
    rw [if_neg c7] at H; have c7b0 := decide_eq_false c7; clear c7
    by_cases c8 : 1 < (a0.size : Int)
    ·rw [if_pos c8] at H; have c8b0 := decide_eq_true c8; have c8b1 : decide (1 < a0.size) = true := decide_eq_true (by omega); clear c8; replace H := Option.bind_eq_some_iff.mp H; obtain ⟨t144, A100, H⟩ := H; have A10 := Aside0.mk A100; clear A100; have H' := Aside0.mk H; clear H; have p5 : 0 ≤ (0 : Int) := (by omega)
     have q5 : 0 < a0.size := (by have : (0 : Int) < (a0.size : Int) := od; omega)
     have hx5 : ∀ h : 0 < a0.size, ((a0[0]'h).toNat : Int) = bt a0 0 := bt_at a0 0; clear p5; have qi5 : (0 < (a0.size : Int)) = True := eq_true (od); replace q5 := eq_true q5
     go_wp2_with (first | (go_at_call 207; (with_reducible refine (qp_digit.calls k (bt a0 0) t143 _ A6.out).mono ?_); rintro e w' ⟨rfl, ⟨nd, rfl⟩⟩; (try first | exact ⟨rfl, _, World.drewN_drewN _ _ _⟩ | exact ⟨rfl, _, Eq.trans (World.drewN_drewN _ _ _) (congrArg (World.drewN _) (Nat.add_assoc _ _ _))⟩); have p9 : 0 ≤ (1 : Int) := (by omega); have q9 : 1 < a0.size := (by have : (1 : Int) < (a0.size : Int) := od; omega); have hx9 : ∀ h : 1 < a0.size, ((a0[1]'h).toNat : Int) = bt a0 1 := bt_at a0 1; clear p9; have qi9 : (1 < (a0.size : Int)) = True := eq_true (od); replace q9 := eq_true q9) | (go_at_call 207; (with_reducible refine (qp_digit.calls k (bt a0 1) t144 _ A10.out).mono ?_); rintro e w' ⟨rfl, ⟨nd, rfl⟩⟩; (try first | exact ⟨rfl, _, World.drewN_drewN _ _ _⟩ | exact ⟨rfl, _, Eq.trans (World.drewN_drewN _ _ _) (congrArg (World.drewN _) (Nat.add_assoc _ _ _))⟩)))
     repeat (go_quiet (first | (go_at_call 207; (with_reducible refine (qp_digit.calls k (bt a0 0) t143 _ A6.out).mono ?_); rintro e w' ⟨rfl, ⟨nd, rfl⟩⟩; (try first | exact ⟨rfl, _, World.drewN_drewN _ _ _⟩ | exact ⟨rfl, _, Eq.trans (World.drewN_drewN _ _ _) (congrArg (World.drewN _) (Nat.add_assoc _ _ _))⟩); have p9 : 0 ≤ (1 : Int) := (by omega); have q9 : 1 < a0.size := (by have : (1 : Int) < (a0.size : Int) := od; omega); have hx9 : ∀ h : 1 < a0.size, ((a0[1]'h).toNat : Int) = bt a0 1 := bt_at a0 1; clear p9; have qi9 : (1 < (a0.size : Int)) = True := eq_true (od); replace q9 := eq_true q9) | (go_at_call 207; (with_reducible refine (qp_digit.calls k (bt a0 1) t144 _ A10.out).mono ?_); rintro e w' ⟨rfl, ⟨nd, rfl⟩⟩; (try first | exact ⟨rfl, _, World.drewN_drewN _ _ _⟩ | exact ⟨rfl, _, Eq.trans (World.drewN_drewN _ _ _) (congrArg (World.drewN _) (Nat.add_assoc _ _ _))⟩))); try go_wp2_with (first | (go_at_call 207; (with_reducible refine (qp_digit.calls k (bt a0 0) t143 _ A6.out).mono ?_); rintro e w' ⟨rfl, ⟨nd, rfl⟩⟩; (try first | exact ⟨rfl, _, World.drewN_drewN _ _ _⟩ | exact ⟨rfl, _, Eq.trans (World.drewN_drewN _ _ _) (congrArg (World.drewN _) (Nat.add_assoc _ _ _))⟩); have p9 : 0 ≤ (1 : Int) := (by omega); have q9 : 1 < a0.size := (by have : (1 : Int) < (a0.size : Int) := od; omega); have hx9 : ∀ h : 1 < a0.size, ((a0[1]'h).toNat : Int) = bt a0 1 := bt_at a0 1; clear p9; have qi9 : (1 < (a0.size : Int)) = True := eq_true (od); replace q9 := eq_true q9) | (go_at_call 207; (with_reducible refine (qp_digit.calls k (bt a0 1) t144 _ A10.out).mono ?_); rintro e w' ⟨rfl, ⟨nd, rfl⟩⟩; (try first | exact ⟨rfl, _, World.drewN_drewN _ _ _⟩ | exact ⟨rfl, _, Eq.trans (World.drewN_drewN _ _ _) (congrArg (World.drewN _) (Nat.add_assoc _ _ _))⟩))))
     go_meet
     case rel => exact ⟨_, (decide (t144 < 0)), cl, H', ⟨by first | omega | exact Nat.le_refl _⟩, d0⟩
    rw [if_neg c8] at H; exact absurd H (by simp)
   rw [if_neg c4] at H; exact absurd H (by simp)
  rw [if_neg c3] at H; have c3b0 := beq_eq_false_iff_ne.mpr c3; have c3b1 := bne_iff_ne.mpr c3
  (first | rw [c3b0] | (simp only [i64_w, i32_w]; rw [c3b0]) | skip)
  have H' := Aside0.mk H; clear H
  go_wp2
  repeat (go_quiet (fail); try go_wp2)
  go_meet
  case rel => exact ⟨_, (true), cl, H', ⟨by first | omega | exact Nat.le_refl _⟩, d0⟩
 case rest =>
  clear HC2
  try clear c1
  try clear p2
  try clear c3
  try clear c3b0
  try clear c3b1
  try clear c4
  try clear c4b0
  try clear c4b1
  try clear p5
  try clear q5
  try clear hx5
  try clear qi5
  try clear c7
  try clear c7b0
  try clear c8
  try clear c8b0
  try clear c8b1
  try clear p9
  try clear q9
  try clear hx9
  try clear qi9
  try clear p5
  try clear p9
  try clear q5
  try clear q9
  obtain ⟨kq, x18_1, rfl, HA, HJ1, ⟨mc1, rfl⟩⟩ := hcut; cases kq with
  | zero => exact absurd HA.out (by simp [qp_Byte.j0])
  | succ kj1 =>
   have H := HA.out; clear HA; simp only [qp_Byte.j0] at H
   by_cases c11 : x18_1 = true
   ·subst c11; rw [if_pos rfl] at H; simp only [Option.some.injEq, Prod.mk.injEq] at H; obtain ⟨rfl, rfl⟩ := H
    go_wp2
    repeat (go_quiet (fail); try go_wp2)
    go_ret2
    exact ⟨cl, d0⟩
   replace c11 := Bool.eq_false_iff.mpr c11; subst c11; rw [if_neg nft] at H
   by_cases c12 : 0 < (a0.size : Int)
   ·rw [if_pos c12] at H; have c12b0 := decide_eq_true c12; have c12b1 : decide (0 < a0.size) = true := decide_eq_true (by omega); clear c12; replace H := Option.bind_eq_some_iff.mp H; obtain ⟨t145, A140, H⟩ := H; have A14 := Aside0.mk A140; clear A140
    by_cases c15 : 1 < (a0.size : Int)
    ·rw [if_pos c15] at H; have c15b0 := decide_eq_true c15; have c15b1 : decide (1 < a0.size) = true := decide_eq_true (by omega); clear c15; replace H := Option.bind_eq_some_iff.mp H; obtain ⟨t146, A170, H⟩ := H; have A17 := Aside0.mk A170; clear A170; simp only [Option.some.injEq, Prod.mk.injEq] at H; obtain ⟨rfl, rfl⟩ := H; have p13 : 0 ≤ (0 : Int) := (by omega)
     have q13 : 0 < a0.size := (by have : (0 : Int) < (a0.size : Int) := od; omega)
     have hx13 : ∀ h : 0 < a0.size, ((a0[0]'h).toNat : Int) = bt a0 0 := bt_at a0 0; clear p13; have qi13 : (0 < (a0.size : Int)) = True := eq_true (od); replace q13 := eq_true q13
     go_wp2_with (first | (go_at_call 207; (with_reducible refine (qp_digit.calls kj1 (bt a0 0) t145 _ A14.out).mono ?_); rintro e w' ⟨rfl, ⟨nd, rfl⟩⟩; (try first | exact ⟨rfl, _, World.drewN_drewN _ _ _⟩ | exact ⟨rfl, _, Eq.trans (World.drewN_drewN _ _ _) (congrArg (World.drewN _) (Nat.add_assoc _ _ _))⟩); have p16 : 0 ≤ (1 : Int) := (by omega); have q16 : 1 < a0.size := (by have : (1 : Int) < (a0.size : Int) := od; omega); have hx16 : ∀ h : 1 < a0.size, ((a0[1]'h).toNat : Int) = bt a0 1 := bt_at a0 1; clear p16; have qi16 : (1 < (a0.size : Int)) = True := eq_true (od); replace q16 := eq_true q16) | (go_at_call 207; (with_reducible refine (qp_digit.calls kj1 (bt a0 1) t146 _ A17.out).mono ?_); rintro e w' ⟨rfl, ⟨nd, rfl⟩⟩; (try first | exact ⟨rfl, _, World.drewN_drewN _ _ _⟩ | exact ⟨rfl, _, Eq.trans (World.drewN_drewN _ _ _) (congrArg (World.drewN _) (Nat.add_assoc _ _ _))⟩)))
     repeat (go_quiet (first | (go_at_call 207; (with_reducible refine (qp_digit.calls kj1 (bt a0 0) t145 _ A14.out).mono ?_); rintro e w' ⟨rfl, ⟨nd, rfl⟩⟩; (try first | exact ⟨rfl, _, World.drewN_drewN _ _ _⟩ | exact ⟨rfl, _, Eq.trans (World.drewN_drewN _ _ _) (congrArg (World.drewN _) (Nat.add_assoc _ _ _))⟩); have p16 : 0 ≤ (1 : Int) := (by omega); have q16 : 1 < a0.size := (by have : (1 : Int) < (a0.size : Int) := od; omega); have hx16 : ∀ h : 1 < a0.size, ((a0[1]'h).toNat : Int) = bt a0 1 := bt_at a0 1; clear p16; have qi16 : (1 < (a0.size : Int)) = True := eq_true (od); replace q16 := eq_true q16) | (go_at_call 207; (with_reducible refine (qp_digit.calls kj1 (bt a0 1) t146 _ A17.out).mono ?_); rintro e w' ⟨rfl, ⟨nd, rfl⟩⟩; (try first | exact ⟨rfl, _, World.drewN_drewN _ _ _⟩ | exact ⟨rfl, _, Eq.trans (World.drewN_drewN _ _ _) (congrArg (World.drewN _) (Nat.add_assoc _ _ _))⟩))); try go_wp2_with (first | (go_at_call 207; (with_reducible refine (qp_digit.calls kj1 (bt a0 0) t145 _ A14.out).mono ?_); rintro e w' ⟨rfl, ⟨nd, rfl⟩⟩; (try first | exact ⟨rfl, _, World.drewN_drewN _ _ _⟩ | exact ⟨rfl, _, Eq.trans (World.drewN_drewN _ _ _) (congrArg (World.drewN _) (Nat.add_assoc _ _ _))⟩); have p16 : 0 ≤ (1 : Int) := (by omega); have q16 : 1 < a0.size := (by have : (1 : Int) < (a0.size : Int) := od; omega); have hx16 : ∀ h : 1 < a0.size, ((a0[1]'h).toNat : Int) = bt a0 1 := bt_at a0 1; clear p16; have qi16 : (1 < (a0.size : Int)) = True := eq_true (od); replace q16 := eq_true q16) | (go_at_call 207; (with_reducible refine (qp_digit.calls kj1 (bt a0 1) t146 _ A17.out).mono ?_); rintro e w' ⟨rfl, ⟨nd, rfl⟩⟩; (try first | exact ⟨rfl, _, World.drewN_drewN _ _ _⟩ | exact ⟨rfl, _, Eq.trans (World.drewN_drewN _ _ _) (congrArg (World.drewN _) (Nat.add_assoc _ _ _))⟩))))
     go_ret2
     exact ⟨cl, d0⟩
    rw [if_neg c15] at H; exact absurd H (by simp)
   rw [if_neg c12] at H; exact absurd H (by simp)
def ew_quoted.l0 : Nat → ByteArray → List Int → Int → Option (ByteArray × Bool)
 | 0, _, _, _ => none
 | k + 1, x0, x4, x5 => if x5 < (x0.size : Int) then (if 0 ≤ x5 then (if (bt x0 x5) = 95 then (if x4.length < 140737488355328 then (ew_quoted.l0 k x0 (x4 ++ [32]) (wrap64 (x5 + 1))) else (none)) else (if (bt x0 x5) = 61 then (if 0 ≤ (wrap64 (x5 + 1)) then (if (wrap64 (x5 + 1)) ≤ (mn (wrap64 (x5 + 3)) (x0.size : Int)) then (if (mn (wrap64 (x5 + 3)) (x0.size : Int)) ≤ (x0.size : Int) then ((qp_Byte.f k (x0.extract ((wrap64 (x5 + 1)) : Int).toNat ((mn (wrap64 (x5 + 3)) (x0.size : Int)) : Int).toNat)).bind fun bt150 => (if bt150.2 = true then (if x4.length < 140737488355328 then (ew_quoted.l0 k x0 (x4 ++ [bt150.1]) (wrap64 ((wrap64 (x5 + 2)) + 1))) else (none)) else (some ((⟨#[]⟩ : ByteArray), false)))) else (none)) else (none)) else (none)) else (if x4.length < 140737488355328 then (ew_quoted.l0 k x0 (x4 ++ [bt x0 x5]) (wrap64 (x5 + 1))) else (none)))) else (none)) else (some (strOfNums x4, true))
def ew_quoted.f (k : Nat) (a0 : ByteArray) : Option (ByteArray × Bool) := ew_quoted.l0 k a0 ([] : List Int) 0
set_option maxRecDepth 100000 in
theorem ew_quoted.calls (k : Nat) (a0 : ByteArray) (r1 : ByteArray) (r2 : Bool) (w : World) (h : ew_quoted.f k a0 = some (r1, r2)) :
  Calls Tryz.prog 161 #[.string a0] w fun e w' => e = .returned (.tuple #[.string r1, .bool r2]) ∧ Below w.heap.size w w' := by
 have HB := Aside0.mk (Below.refl w.heap.size w); have H : (ew_quoted.l0 k a0 ([] : List Int) 0) = some (r1, r2) := h; clear h; have H' := Aside0.mk H; clear H
 go_enter Tryz.func161, Tryz.ntmps161
 go_wp2
 go_loopg [4, 5] k (fun kq v4 v5 w' => ∃ (x4_1 : List Int) (x5_1 : Int), v5 = .int .i64 x5_1 ∧ Aside0 (ew_quoted.l0 kq a0 x4_1 x5_1 = some (r1, r2)) ∧ Aside0 (kq ≤ k) ∧ Aside0 (Kd.R (Kd.int .u8) 5 w' w.heap.size (fun _ => True) v4 x4_1) ∧ Aside0 (Below w.heap.size w w'))
 case atStart => exact ⟨(([] : List Int)), (0), cl, H', ⟨Nat.le_refl _⟩, ⟨by first | exact Kd.R_nil _ _ _ _ _ | exact Kd.N_nil _ _ _ _ _ | exact Kd.V_nil _ _ _ _ _ | exact Kd.Q_nil _ _ _ _ _ | exact Kd.S_nil _ _ _ _ _⟩, ⟨bw⟩⟩
 case round =>
  clear H'
  try clear c1
  obtain ⟨x4_1, x5_1, rfl, HA, HK1, HO_4, HB⟩ := hrel; cases gk with
  | zero => exact absurd HA.out (by simp [ew_quoted.l0])
  | succ k1 =>
   have H := HA.out; clear HA; simp only [ew_quoted.l0] at H
   by_cases c2 : x5_1 < (a0.size : Int)
   ·rw [if_pos c2] at H; have c2b0 := decide_eq_true c2; clear c2
    by_cases c3 : 0 ≤ x5_1
    ·rw [if_pos c3] at H; have c3b0 := decide_eq_true c3; clear c3
     by_cases c5 : (bt a0 x5_1) = 95
     ·rw [if_pos c5] at H; have c5b0 := beq_iff_eq.mpr c5; have c5b1 := bne_eq_false_iff_eq.mpr c5; clear c5
      by_cases c6 : x4_1.length < 140737488355328
      ·rw [if_pos c6] at H; have LMc6 := Aside0.mk c6; clear c6; obtain ⟨y147, hy147⟩ : ∃ y_ : List Int, y_ = (x4_1 ++ [32]) := ⟨_, rfl⟩
       replace H : (ew_quoted.l0 k1 a0 y147 (wrap64 (x5_1 + 1))) = some (r1, r2) := by first | (rw [hy147]; with_reducible exact H) | (have H2_ := (Option.bind_some _ _).symm.trans H; rw [hy147]; with_reducible exact H2_) | (have H2_ := (Option.bind_some _ _).symm.trans H; with_reducible exact H2_) | with_reducible exact H | (rw [hy147]; exact H) | exact H
       have Ny147 := Aside0.mk hy147; clear hy147; have H' := Aside0.mk H; clear H; have p4 : 0 ≤ (x5_1 : Int) := od; have q4 : x5_1 < (a0.size : Int) := od; have hx4 := bt_at a0 x5_1; replace p4 := eq_true p4; replace q4 := eq_true q4
       go_wp2_with (first | ((with_reducible refine gate_builtin (b := .append) (xs := #[.tmp 25, .tmp 26]) rfl ?_); at_builtin; refine Kd.R_append (Kd.int .u8) (w0 := w) w.heap.size rfl (.tmp 25) (.tmp 26) 83 5 (.int .u8 0) 1 rfl Tryz.underlying83 info5 rfl (by decide) (by omega) u4 x4_1 32 [.int .u8 32] (fun _ => True) (fun _ => False) rfl rfl ?aP (fun _ hk => hk.elim) ?aF ?aO ?aB ?aS ?aL ?_; (case aP => exact rfl); (case aB => exact bw); (case aF => exact (fun _ _ => trivial)); (case aO => exact (ra HO_4.out)); (case aS => exact (below_size bw)); (case aL => have := LMc6.out; omega); intro v148 w7 ho hb hg hat; rw [← Ny147.out] at ho; have n0_ := Aside0.mk (hb); have n1_ := Aside0.mk (ho); clear HB; clear HO_4; have HB := n0_; have HO149 := n1_; clear n0_ n1_; clear ho hb hg hat))
       go_roundg k1
       case measure => have := HK1.out; omega
       case rel => exact ⟨(y147), (wrap64 (x5_1 + 1)), cl, H', ⟨by have := HK1.out; omega⟩, ⟨ra HO149.out⟩, ⟨bw⟩⟩
      rw [if_neg c6] at H; exact absurd H (by simp)
     rw [if_neg c5] at H; have c5b0 := beq_eq_false_iff_ne.mpr c5; have c5b1 := bne_iff_ne.mpr c5
     by_cases c8 : (bt a0 x5_1) = 61
     ·rw [if_pos c8] at H; have c8b0 := beq_iff_eq.mpr c8; have c8b1 := bne_eq_false_iff_eq.mpr c8; clear c8; obtain ⟨ji9, hji9⟩ : ∃ j_ : Int, (mn (wrap64 (x5_1 + 3)) (a0.size : Int)) = j_ := ⟨_, rfl⟩
      replace H : (if 0 ≤ (wrap64 (x5_1 + 1)) then (if (wrap64 (x5_1 + 1)) ≤ (ji9) then (if (ji9) ≤ (a0.size : Int) then ((qp_Byte.f k1 (a0.extract ((wrap64 (x5_1 + 1)) : Int).toNat ((ji9) : Int).toNat)).bind fun bt150 => (if bt150.2 = true then (if x4_1.length < 140737488355328 then (ew_quoted.l0 k1 a0 (x4_1 ++ [bt150.1]) (wrap64 ((wrap64 (x5_1 + 2)) + 1))) else (none)) else (some ((⟨#[]⟩ : ByteArray), false)))) else (none)) else (none)) else (none)) = some (r1, r2) := by first | (rw [hji9] at H; exact H) | (simp only [hji9] at H ⊢; exact H)
      have hji9_ : (if (a0.size : Int) < (wrap64 (x5_1 + 3)) then (a0.size : Int) else (wrap64 (x5_1 + 3))) = ji9 := hji9; obtain ⟨ji10, hji10⟩ : ∃ j_ : Int, (wrap64 (x5_1 + 1)) = j_ := ⟨_, rfl⟩
      replace H : (if 0 ≤ (ji10) then (if (ji10) ≤ (ji9) then (if (ji9) ≤ (a0.size : Int) then ((qp_Byte.f k1 (a0.extract ((ji10) : Int).toNat ((ji9) : Int).toNat)).bind fun bt150 => (if bt150.2 = true then (if x4_1.length < 140737488355328 then (ew_quoted.l0 k1 a0 (x4_1 ++ [bt150.1]) (wrap64 ((wrap64 (x5_1 + 2)) + 1))) else (none)) else (some ((⟨#[]⟩ : ByteArray), false)))) else (none)) else (none)) else (none)) = some (r1, r2) := by first | (rw [hji10] at H; exact H) | (simp only [hji10] at H ⊢; exact H)
      have hji10w : (IntKind.i64.wrap (x5_1 + 1)) = ji10 := (i64_w _).trans hji10
      by_cases c11 : 0 ≤ (ji10)
      ·rw [if_pos c11] at H; have c11b0 := eq_true c11; have c11b1 := decide_eq_true c11; clear c11
       by_cases c12 : (ji10) ≤ (ji9)
       ·rw [if_pos c12] at H; have c12b0 := eq_true c12; have c12b1 := decide_eq_true c12; clear c12
        by_cases c13 : (ji9) ≤ (a0.size : Int)
        ·rw [if_pos c13] at H; have c13b0 := eq_true c13; have c13b1 := decide_eq_true c13; clear c13; replace H := Option.bind_eq_some_iff.mp H; obtain ⟨⟨t150, t151⟩, A140, H⟩ := H; replace H : (if t151 = true then (if x4_1.length < 140737488355328 then (ew_quoted.l0 k1 a0 (x4_1 ++ [t150]) (wrap64 ((wrap64 (x5_1 + 2)) + 1))) else (none)) else (some ((⟨#[]⟩ : ByteArray), false))) = some (r1, r2) := H; have A14 := Aside0.mk A140; clear A140
         by_cases c15 : t151 = true
         ·subst c15; rw [if_pos rfl] at H
          by_cases c16 : x4_1.length < 140737488355328
          ·rw [if_pos c16] at H; have LMc16 := Aside0.mk c16; clear c16; obtain ⟨y152, hy152⟩ : ∃ y_ : List Int, y_ = (x4_1 ++ [t150]) := ⟨_, rfl⟩
           replace H : (ew_quoted.l0 k1 a0 y152 (wrap64 ((wrap64 (x5_1 + 2)) + 1))) = some (r1, r2) := by first | (rw [hy152]; with_reducible exact H) | (have H2_ := (Option.bind_some _ _).symm.trans H; rw [hy152]; with_reducible exact H2_) | (have H2_ := (Option.bind_some _ _).symm.trans H; with_reducible exact H2_) | with_reducible exact H | (rw [hy152]; exact H) | exact H
           have Ny152 := Aside0.mk hy152; clear hy152; have H' := Aside0.mk H; clear H; have p4 : 0 ≤ (x5_1 : Int) := od; have q4 : x5_1 < (a0.size : Int) := od; have hx4 := bt_at a0 x5_1; replace p4 := eq_true p4; replace q4 := eq_true q4
           go_wp2_with (first | ((with_reducible refine gate_callee (f := 189) rfl ?_); refine goesL_ (some 40) rfl rfl Tryz.func189 (by kernel_rfl) rfl #[.string (a0.extract ((ji10) : Int).toNat ((ji9) : Int).toNat)] rfl (by (try simp only [List.map_toArray, List.map_cons, List.map_nil]); first | done | (simp only [hji10, hji9]; rfl) | rfl | (simp only [List.length_drop, List.length_take]; rfl)) ?_; (with_reducible refine (qp_Byte.calls k1 (a0.extract ((ji10) : Int).toNat ((ji9) : Int).toNat) t150 true _ A14.out).mono ?_); rintro e w' ⟨rfl, ⟨nd, rfl⟩⟩; refine ⟨_, rfl, ?_⟩) | ((with_reducible refine gate_builtin (b := .append) (xs := #[.tmp 45, .tmp 47]) rfl ?_); at_builtin; refine Kd.R_append (Kd.int .u8) (w0 := w) w.heap.size rfl (.tmp 45) (.tmp 47) 83 5 (.int .u8 0) 1 rfl Tryz.underlying83 info5 rfl (by decide) (by omega) u4 x4_1 t150 [.int .u8 t150] (fun _ => True) (fun _ => False) rfl rfl ?aP (fun _ hk => hk.elim) ?aF ?aO ?aB ?aS ?aL ?_; (case aP => exact rfl); (case aB => exact bw); (case aF => exact (fun _ _ => trivial)); (case aO => exact (ra HO_4.out)); (case aS => exact (below_size bw)); (case aL => have := LMc16.out; omega); intro v153 w17 ho hb hg hat; rw [← Ny152.out] at ho; have n0_ := Aside0.mk (hb); have n1_ := Aside0.mk (ho); clear HB; clear HO_4; have HB := n0_; have HO154 := n1_; clear n0_ n1_; clear ho hb hg hat))
           go_roundg k1
           case measure => have := HK1.out; omega
           case rel => exact ⟨(y152), (wrap64 ((wrap64 (x5_1 + 2)) + 1)), cl, H', ⟨by have := HK1.out; omega⟩, ⟨ra HO154.out⟩, ⟨bw⟩⟩
          rw [if_neg c16] at H; exact absurd H (by simp)
         replace c15 := Bool.eq_false_iff.mpr c15; subst c15; rw [if_neg nft] at H; simp only [Option.some.injEq, Prod.mk.injEq] at H; obtain ⟨rfl, rfl⟩ := H; have p4 : 0 ≤ (x5_1 : Int) := od; have q4 : x5_1 < (a0.size : Int) := od; have hx4 := bt_at a0 x5_1; replace p4 := eq_true p4; replace q4 := eq_true q4
         go_wp2_with (first | ((with_reducible refine gate_callee (f := 189) rfl ?_); refine goesL_ (some 40) rfl rfl Tryz.func189 (by kernel_rfl) rfl #[.string (a0.extract ((ji10) : Int).toNat ((ji9) : Int).toNat)] rfl (by (try simp only [List.map_toArray, List.map_cons, List.map_nil]); first | done | (simp only [hji10, hji9]; rfl) | rfl | (simp only [List.length_drop, List.length_take]; rfl)) ?_; (with_reducible refine (qp_Byte.calls k1 (a0.extract ((ji10) : Int).toNat ((ji9) : Int).toNat) t150 false _ A14.out).mono ?_); rintro e w' ⟨rfl, ⟨nd, rfl⟩⟩; refine ⟨_, rfl, ?_⟩))
         go_ret2
         exact ⟨by first | rfl | (simp [errW_none, errW_some] <;> rfl) | (simp only [← hji9, ← hji10]; first | rfl | (simp [errW_none, errW_some] <;> rfl)) | (simp [*, errW_none, errW_some] <;> rfl), bw⟩
        rw [if_neg c13] at H; exact absurd H (by simp)
       rw [if_neg c12] at H; exact absurd H (by simp)
      rw [if_neg c11] at H; exact absurd H (by simp)
     rw [if_neg c8] at H; have c8b0 := beq_eq_false_iff_ne.mpr c8; have c8b1 := bne_iff_ne.mpr c8
     by_cases c19 : x4_1.length < 140737488355328
     ·rw [if_pos c19] at H; have LMc19 := Aside0.mk c19; clear c19; obtain ⟨y155, hy155⟩ : ∃ y_ : List Int, y_ = (x4_1 ++ [bt a0 x5_1]) := ⟨_, rfl⟩
      replace H : (ew_quoted.l0 k1 a0 y155 (wrap64 (x5_1 + 1))) = some (r1, r2) := by first | (rw [hy155]; with_reducible exact H) | (have H2_ := (Option.bind_some _ _).symm.trans H; rw [hy155]; with_reducible exact H2_) | (have H2_ := (Option.bind_some _ _).symm.trans H; with_reducible exact H2_) | with_reducible exact H | (rw [hy155]; exact H) | exact H
      have Ny155 := Aside0.mk hy155; clear hy155; have H' := Aside0.mk H; clear H; have p4 : 0 ≤ (x5_1 : Int) := od; have q4 : x5_1 < (a0.size : Int) := od; have hx4 := bt_at a0 x5_1; replace p4 := eq_true p4; replace q4 := eq_true q4; have p18 : 0 ≤ (x5_1 : Int) := od; have q18 : x5_1 < (a0.size : Int) := od; have hx18 := bt_at a0 x5_1; replace p18 := eq_true p18; replace q18 := eq_true q18
      go_wp2_with (first | ((with_reducible refine gate_builtin (b := .append) (xs := #[.tmp 17, .tmp 21]) rfl ?_); at_builtin; refine Kd.R_append (Kd.int .u8) (w0 := w) w.heap.size rfl (.tmp 17) (.tmp 21) 83 5 (.int .u8 0) 1 rfl Tryz.underlying83 info5 rfl (by decide) (by omega) u4 x4_1 (bt a0 x5_1) [.int .u8 (bt a0 x5_1)] (fun _ => True) (fun _ => False) rfl rfl ?aP (fun _ hk => hk.elim) ?aF ?aO ?aB ?aS ?aL ?_; (case aP => exact rfl); (case aB => exact bw); (case aF => exact (fun _ _ => trivial)); (case aO => exact (ra HO_4.out)); (case aS => exact (below_size bw)); (case aL => have := LMc19.out; omega); intro v156 w20 ho hb hg hat; rw [← Ny155.out] at ho; have n0_ := Aside0.mk (hb); have n1_ := Aside0.mk (ho); clear HB; clear HO_4; have HB := n0_; have HO157 := n1_; clear n0_ n1_; clear ho hb hg hat))
      go_roundg k1
      case measure => have := HK1.out; omega
      case rel => exact ⟨(y155), (wrap64 (x5_1 + 1)), cl, H', ⟨by have := HK1.out; omega⟩, ⟨ra HO157.out⟩, ⟨bw⟩⟩
     rw [if_neg c19] at H; exact absurd H (by simp)
    rw [if_neg c3] at H; exact absurd H (by simp)
   rw [if_neg c2] at H; have c2b0 := decide_eq_false c2; clear c2; simp only [Option.some.injEq, Prod.mk.injEq] at H; obtain ⟨rfl, rfl⟩ := H; have hcv21 := own_string (P := Tryz.prog) Tryz.underlying83 Tryz.underlying5 Tryz.underlying9 (Kd.own_of_R HO_4.out)
   go_wp2
   go_ret2
   exact ⟨ew, bw⟩
def ew_solid.l0 : Nat → ByteArray → Int → Int → Option (Bool)
 | 0, _, _, _ => none
 | k + 1, x0, x5, x6 => if x6 < x5 then (if 0 ≤ x6 then (if x6 < (x0.size : Int) then (if (bt x0 x6) ≤ 32 then (some false) else (if (bt x0 x6) > 126 then (some false) else (ew_solid.l0 k x0 x5 (wrap64 (x6 + 1))))) else (none)) else (none)) else (some true)
def ew_solid.f (k : Nat) (a0 : ByteArray) : Option (Bool) := ew_solid.l0 k a0 (a0.size : Int) 0
set_option maxRecDepth 100000 in
theorem ew_solid.calls (k : Nat) (a0 : ByteArray) (r : Bool) (w : World) (h : ew_solid.f k a0 = some r) :
  Calls Tryz.prog 132 #[.string a0] w fun e w' => e = .returned (.bool r) ∧ Drawn0 w w' := by
 have H : (ew_solid.l0 k a0 (a0.size : Int) 0) = some r := h; clear h; have H' := Aside0.mk H; clear H
 go_enter Tryz.func132, Tryz.ntmps132
 go_wp2
 go_loopg [6] k (fun kq v6 w' => ∃ (x6_1 : Int), v6 = .int .i64 x6_1 ∧ Aside0 (ew_solid.l0 kq a0 (a0.size : Int) x6_1 = some r) ∧ Aside0 (kq ≤ k) ∧ Drawn0 w w')
 case atStart => exact ⟨(0), cl, H', ⟨Nat.le_refl _⟩, d0⟩
 case round =>
  clear H'
  try clear c1
  obtain ⟨x6_1, rfl, HA, HK1, ⟨m1, rfl⟩⟩ := hrel; cases gk with
  | zero => exact absurd HA.out (by simp [ew_solid.l0])
  | succ k1 =>
   have H := HA.out; clear HA; simp only [ew_solid.l0] at H
   by_cases c2 : x6_1 < (a0.size : Int)
   ·rw [if_pos c2] at H; have c2b0 := decide_eq_true c2; clear c2
    by_cases c3 : 0 ≤ x6_1
    ·rw [if_pos c3] at H; have c3b0 := decide_eq_true c3; clear c3
     by_cases c4 : x6_1 < (a0.size : Int)
     ·rw [if_pos c4] at H; have c4b0 := decide_eq_true c4; clear c4
      by_cases c6 : (bt a0 x6_1) ≤ 32
      ·rw [if_pos c6] at H; have c6b0 := decide_eq_true c6; clear c6; obtain rfl := Option.some.inj H; have p5 : 0 ≤ (x6_1 : Int) := od; have q5 : x6_1 < (a0.size : Int) := od; have hx5 := bt_at a0 x6_1; replace p5 := eq_true p5; replace q5 := eq_true q5
       go_wp2
       go_ret
       exact ⟨cl, d0⟩
      rw [if_neg c6] at H; have c6b0 := decide_eq_false c6; clear c6
      by_cases c8 : (bt a0 x6_1) > 126
      ·rw [if_pos c8] at H; have c8b0 : decide (126 < (bt a0 x6_1)) = true := decide_eq_true c8; clear c8; obtain rfl := Option.some.inj H; have p5 : 0 ≤ (x6_1 : Int) := od; have q5 : x6_1 < (a0.size : Int) := od; have hx5 := bt_at a0 x6_1; replace p5 := eq_true p5; replace q5 := eq_true q5; have p7 : 0 ≤ (x6_1 : Int) := od; have q7 : x6_1 < (a0.size : Int) := od; have hx7 := bt_at a0 x6_1; replace p7 := eq_true p7; replace q7 := eq_true q7
       go_wp2
       go_ret
       exact ⟨cl, d0⟩
      rw [if_neg c8] at H; have c8b0 : decide (126 < (bt a0 x6_1)) = false := decide_eq_false c8; clear c8; have H' := Aside0.mk H; clear H; have p5 : 0 ≤ (x6_1 : Int) := od; have q5 : x6_1 < (a0.size : Int) := od; have hx5 := bt_at a0 x6_1; replace p5 := eq_true p5; replace q5 := eq_true q5; have p7 : 0 ≤ (x6_1 : Int) := od; have q7 : x6_1 < (a0.size : Int) := od; have hx7 := bt_at a0 x6_1; replace p7 := eq_true p7; replace q7 := eq_true q7
      go_wp2
      go_roundg k1
      case measure => have := HK1.out; omega
      case rel => exact ⟨(wrap64 (x6_1 + 1)), cl, H', ⟨by have := HK1.out; omega⟩, d0⟩
     rw [if_neg c4] at H; exact absurd H (by simp)
    rw [if_neg c3] at H; exact absurd H (by simp)
   rw [if_neg c2] at H; have c2b0 := decide_eq_false c2; clear c2; obtain rfl := Option.some.inj H
   go_wp2
   go_ret
   exact ⟨cl, d0⟩
def stringslite_HasPrefix.f (a0 : ByteArray) (a1 : ByteArray) : Option (Bool) := if (a0.size : Int) ≥ (a1.size : Int) then (if 0 ≤ (a1.size : Int) then (if (a1.size : Int) ≤ (a0.size : Int) then (some ((a0.extract 0 ((a1.size : Int) : Int).toNat).toList == a1.toList)) else (none)) else (none)) else (some false)
set_option maxRecDepth 100000 in
theorem stringslite_HasPrefix.calls (a0 : ByteArray) (a1 : ByteArray) (r : Bool) (w : World) (h : stringslite_HasPrefix.f a0 a1 = some r) :
  Calls Tryz.prog 160 #[.string a0, .string a1] w fun e w' => e = .returned (.bool r) ∧ Drawn0 w w' := by
 have H : (if (a0.size : Int) ≥ (a1.size : Int) then (if 0 ≤ (a1.size : Int) then (if (a1.size : Int) ≤ (a0.size : Int) then (some ((a0.extract 0 ((a1.size : Int) : Int).toNat).toList == a1.toList)) else (none)) else (none)) else (some false)) = some r := h; clear h
 by_cases c3 : (a0.size : Int) ≥ (a1.size : Int)
 ·rw [if_pos c3] at H; have c3b0 : decide ((a1.size : Int) ≤ (a0.size : Int)) = true := decide_eq_true c3; have c3b1 : decide (a1.size ≤ a0.size) = true := decide_eq_true (Int.ofNat_le.mp c3); clear c3
  by_cases c4 : 0 ≤ (a1.size : Int)
  ·rw [if_pos c4] at H; have c4b0 := eq_true c4; have c4b1 := decide_eq_true c4; clear c4
   by_cases c5 : (a1.size : Int) ≤ (a0.size : Int)
   ·rw [if_pos c5] at H; have c5b0 := eq_true c5; have c5b1 := decide_eq_true c5; clear c5; obtain rfl := Option.some.inj H
    go_enter Tryz.func160, Tryz.ntmps160
    go_wp2
    go_ret
    exact ⟨cl, d0⟩
   rw [if_neg c5] at H; exact absurd H (by simp)
  rw [if_neg c4] at H; exact absurd H (by simp)
 rw [if_neg c3] at H; have c3b0 : decide ((a1.size : Int) ≤ (a0.size : Int)) = false := decide_eq_false c3; have c3b1 : decide (a1.size ≤ a0.size) = false := decide_eq_false (fun h => c3 (Int.ofNat_le.mpr h)); clear c3; obtain rfl := Option.some.inj H
 go_enter Tryz.func160, Tryz.ntmps160
 go_wp2
 go_ret
 exact ⟨cl, d0⟩
def stringslite_CutPrefix.f (a0 : ByteArray) (a1 : ByteArray) : Option (ByteArray × Bool) := (stringslite_HasPrefix.f a0 a1).bind fun t139 => (if t139 = true then (if 0 ≤ (a1.size : Int) then (if (a1.size : Int) ≤ (a0.size : Int) then (some (a0.extract ((a1.size : Int) : Int).toNat a0.size, true)) else (none)) else (none)) else (some (a0, false)))
set_option maxRecDepth 100000 in
theorem stringslite_CutPrefix.calls (a0 : ByteArray) (a1 : ByteArray) (r1 : ByteArray) (r2 : Bool) (w : World) (h : stringslite_CutPrefix.f a0 a1 = some (r1, r2)) :
  Calls Tryz.prog 158 #[.string a0, .string a1] w fun e w' => e = .returned (.tuple #[.string r1, .bool r2]) ∧ Drawn0 w w' := by
 have H : ((stringslite_HasPrefix.f a0 a1).bind fun t139 => (if t139 = true then (if 0 ≤ (a1.size : Int) then (if (a1.size : Int) ≤ (a0.size : Int) then (some (a0.extract ((a1.size : Int) : Int).toNat a0.size, true)) else (none)) else (none)) else (some (a0, false)))) = some (r1, r2) := h; clear h; replace H := Option.bind_eq_some_iff.mp H; obtain ⟨t139, A30, H⟩ := H; have A3 := Aside0.mk A30; clear A30
 by_cases c4 : t139 = true
 ·subst c4; rw [if_pos rfl] at H
  by_cases c5 : 0 ≤ (a1.size : Int)
  ·rw [if_pos c5] at H; have c5b0 := eq_true c5; have c5b1 := decide_eq_true c5; clear c5
   by_cases c6 : (a1.size : Int) ≤ (a0.size : Int)
   ·rw [if_pos c6] at H; have c6b0 := eq_true c6; have c6b1 := decide_eq_true c6; clear c6; simp only [Option.some.injEq, Prod.mk.injEq] at H; obtain ⟨rfl, rfl⟩ := H
    go_enter Tryz.func158, Tryz.ntmps158
    go_wp2_with (first | ((with_reducible refine gate_callee (f := 160) rfl ?_); refine goesL_ (some 8) rfl rfl Tryz.func160 (by kernel_rfl) rfl #[.string a0, .string a1] rfl am ?_; (with_reducible refine (stringslite_HasPrefix.calls a0 a1 true _ A3.out).mono ?_); rintro e w' ⟨rfl, ⟨nd, rfl⟩⟩; refine ⟨_, rfl, ?_⟩))
    go_ret2
    exact ⟨cl, d0⟩
   rw [if_neg c6] at H; exact absurd H (by simp)
  rw [if_neg c5] at H; exact absurd H (by simp)
 replace c4 := Bool.eq_false_iff.mpr c4; subst c4; rw [if_neg nft] at H; simp only [Option.some.injEq, Prod.mk.injEq] at H; obtain ⟨rfl, rfl⟩ := H
 go_enter Tryz.func158, Tryz.ntmps158
 go_wp2_with (first | ((with_reducible refine gate_callee (f := 160) rfl ?_); refine goesL_ (some 8) rfl rfl Tryz.func160 (by kernel_rfl) rfl #[.string a0, .string a1] rfl am ?_; (with_reducible refine (stringslite_HasPrefix.calls a0 a1 false _ A3.out).mono ?_); rintro e w' ⟨rfl, ⟨nd, rfl⟩⟩; refine ⟨_, rfl, ?_⟩))
 go_ret2
 exact ⟨cl, d0⟩
def strings_CutPrefix.f (a0 : ByteArray) (a1 : ByteArray) : Option (ByteArray × Bool) := (stringslite_CutPrefix.f a0 a1).bind fun bt140 => (some (bt140.1, bt140.2))
set_option maxRecDepth 100000 in
theorem strings_CutPrefix.calls (a0 : ByteArray) (a1 : ByteArray) (r1 : ByteArray) (r2 : Bool) (w : World) (h : strings_CutPrefix.f a0 a1 = some (r1, r2)) :
  Calls Tryz.prog 130 #[.string a0, .string a1] w fun e w' => e = .returned (.tuple #[.string r1, .bool r2]) ∧ Drawn0 w w' := by
 have H : ((stringslite_CutPrefix.f a0 a1).bind fun bt140 => (some (bt140.1, bt140.2))) = some (r1, r2) := h; clear h; replace H := Option.bind_eq_some_iff.mp H; obtain ⟨⟨t140, t141⟩, A30, H⟩ := H; replace H : (some (t140, t141)) = some (r1, r2) := H; have A3 := Aside0.mk A30; clear A30; simp only [Option.some.injEq, Prod.mk.injEq] at H; obtain ⟨rfl, rfl⟩ := H
 go_enter Tryz.func130, Tryz.ntmps130
 go_wp2_with (first | ((with_reducible refine gate_callee (f := 158) rfl ?_); refine goesL_ (some 8) rfl rfl Tryz.func158 (by kernel_rfl) rfl #[.string a0, .string a1] rfl am ?_; (with_reducible refine (stringslite_CutPrefix.calls a0 a1 t140 t141 _ A3.out).mono ?_); rintro e w' ⟨rfl, ⟨nd, rfl⟩⟩; refine ⟨_, rfl, ?_⟩))
 go_ret2
 exact ⟨cl, d0⟩
def strings_HasPrefix.f (a0 : ByteArray) (a1 : ByteArray) : Option (Bool) := (stringslite_HasPrefix.f a0 a1).bind fun t142 => (some t142)
set_option maxRecDepth 100000 in
theorem strings_HasPrefix.calls (a0 : ByteArray) (a1 : ByteArray) (r : Bool) (w : World) (h : strings_HasPrefix.f a0 a1 = some r) :
  Calls Tryz.prog 133 #[.string a0, .string a1] w fun e w' => e = .returned (.bool r) ∧ Drawn0 w w' := by
 have H : ((stringslite_HasPrefix.f a0 a1).bind fun t142 => (some t142)) = some r := h; clear h; replace H := Option.bind_eq_some_iff.mp H; obtain ⟨t142, A30, H⟩ := H; have A3 := Aside0.mk A30; clear A30; obtain rfl := Option.some.inj H
 go_enter Tryz.func133, Tryz.ntmps133
 go_wp2_with (first | ((with_reducible refine gate_callee (f := 160) rfl ?_); refine goesL_ (some 7) rfl rfl Tryz.func160 (by kernel_rfl) rfl #[.string a0, .string a1] rfl am ?_; (with_reducible refine (stringslite_HasPrefix.calls a0 a1 t142 _ A3.out).mono ?_); rintro e w' ⟨rfl, ⟨nd, rfl⟩⟩; refine ⟨_, rfl, ?_⟩))
 go_ret
 exact ⟨cl, d0⟩
def bulletinref06_tail.f (a0 : ByteArray) (a1 : Int) : Option (Int) := if a1 ≥ (a0.size : Int) then (some (-1)) else (if 0 ≤ a1 then (if a1 < (a0.size : Int) then (if (bt a0 a1) < 128 then (some (-1)) else (if (bt a0 a1) > 191 then (some (-1)) else (some (wrap64 ((wrap64 (bt a0 a1)) - 128))))) else (none)) else (none))
end Go.Proofs.YtcndmhpeolbepaaGreatDoor.Fn
namespace Go.Proofs.YtcndmhpeolbepaaGreatDoor.Fn
open Go.RowKit Go.Proofs.YtcndmhpeolbepaaGreatDoorW.PrintWords Go.Proofs.YtcndmhpeolbepaaGreatDoorW.PrintLast Go.Proofs.YtcndmhpeolbepaaGreatDoorW.PrintMore
attribute [local go_sem] max2_int min2_int max_two min_two max_three min_three max_four min_four
set_option linter.unusedVariables false
set_option linter.unusedSimpArgs false

mutual
def bulletinref06_One.j0 : Nat → ByteArray → Int → Int → Int → Int → Bool → Option (Int × Int)
 | 0, _, _, _, _, _, _ => none
 | k + 1, x0, x1, x6, x7, x8, x24 => if x24 = true then (bulletinref06_One.j1 k x0 x1 x6 2 (wrap64 (x6 - 192))) else (bulletinref06_One.j1 k x0 x1 x6 x7 x8)
def bulletinref06_One.j1 : Nat → ByteArray → Int → Int → Int → Int → Option (Int × Int)
 | 0, _, _, _, _, _ => none
 | k + 1, x0, x1, x6, x7, x8 => if x6 ≥ 224 then (bulletinref06_One.j2 k x0 x1 x6 x7 x8 (decide (x6 < 240))) else (bulletinref06_One.j2 k x0 x1 x6 x7 x8 false)
def bulletinref06_One.j2 : Nat → ByteArray → Int → Int → Int → Int → Bool → Option (Int × Int)
 | 0, _, _, _, _, _, _ => none
 | k + 1, x0, x1, x6, x7, x8, x32 => if x32 = true then (bulletinref06_One.j3 k x0 x1 x6 3 (wrap64 (x6 - 224))) else (bulletinref06_One.j3 k x0 x1 x6 x7 x8)
def bulletinref06_One.j3 : Nat → ByteArray → Int → Int → Int → Int → Option (Int × Int)
 | 0, _, _, _, _, _ => none
 | k + 1, x0, x1, x6, x7, x8 => if x6 ≥ 240 then (bulletinref06_One.j4 k x0 x1 x6 x7 x8 (decide (x6 < 248))) else (bulletinref06_One.j4 k x0 x1 x6 x7 x8 false)
def bulletinref06_One.j4 : Nat → ByteArray → Int → Int → Int → Int → Bool → Option (Int × Int)
 | 0, _, _, _, _, _, _ => none
 | k + 1, x0, x1, x6, x7, x8, x40 => if x40 = true then (bulletinref06_One.j5 k x0 x1 4 (wrap64 (x6 - 240))) else (bulletinref06_One.j5 k x0 x1 x7 x8)
def bulletinref06_One.j5 : Nat → ByteArray → Int → Int → Int → Option (Int × Int)
 | 0, _, _, _, _ => none
 | k + 1, x0, x1, x7, x8 => bulletinref06_One.l0 k x0 x1 x7 x8 1
def bulletinref06_One.l0 : Nat → ByteArray → Int → Int → Int → Int → Option (Int × Int)
 | 0, _, _, _, _, _ => none
 | k + 1, x0, x1, x7, x8, x9 => if x9 < x7 then ((bulletinref06_tail.f x0 (wrap64 (x1 + x9))).bind fun t315 => (if t315 < 0 then (some ((-1), 1)) else (bulletinref06_One.l0 k x0 x1 x7 (wrap64 ((wrap64 (64 * x8)) + t315)) (wrap64 (x9 + 1))))) else ((some (([0, 0, 128, 2048, 65536] : List Int) : List Int)).bind fun y316 => (if x7 = 0 then (some ((-1), 1)) else (if 0 ≤ x7 then (if x7 < (y316.length : Int) then (if x8 < (rd y316 x7) then (some ((-1), 1)) else (if x8 ≥ 55296 then (if x8 ≤ 57343 then (some ((-1), 1)) else (if x8 > 1114111 then (some ((-1), 1)) else (some (x8, x7)))) else (if x8 > 1114111 then (some ((-1), 1)) else (some (x8, x7))))) else (none)) else (none))))
end
end Go.Proofs.YtcndmhpeolbepaaGreatDoor.Fn
namespace Go.Proofs.YtcndmhpeolbepaaGreatDoor.Fn
attribute [local go_sem] max2_int min2_int max_two min_two max_three min_three max_four min_four
def lex_text.f (a0 : Int) : Option (Bool) := if a0 = 9 then (some true) else (if a0 ≥ 32 then (some (a0 != 127)) else (some false))
set_option maxRecDepth 100000 in
theorem lex_text.calls (a0 : Int) (r : Bool) (w : World) (h : lex_text.f a0 = some r) :
  Calls Tryz.prog 108 #[.int .u8 a0] w fun e w' => e = .returned (.bool r) ∧ Drawn0 w w' := by
 have H : (if a0 = 9 then (some true) else (if a0 ≥ 32 then (some (a0 != 127)) else (some false))) = some r := h; clear h
 by_cases c2 : a0 = 9
 ·rw [if_pos c2] at H; have c2b0 := beq_iff_eq.mpr c2; have c2b1 := bne_eq_false_iff_eq.mpr c2; clear c2; obtain rfl := Option.some.inj H
  go_enter Tryz.func108, Tryz.ntmps108
  go_wp2
  go_ret
  exact ⟨cl, d0⟩
 rw [if_neg c2] at H; have c2b0 := beq_eq_false_iff_ne.mpr c2; have c2b1 := bne_iff_ne.mpr c2
 by_cases c3 : a0 ≥ 32
 ·rw [if_pos c3] at H; have c3b0 : decide (32 ≤ a0) = true := decide_eq_true c3; clear c3; obtain rfl := Option.some.inj H
  go_enter Tryz.func108, Tryz.ntmps108
  go_wp2
  go_ret
  exact ⟨cl, d0⟩
 rw [if_neg c3] at H; have c3b0 : decide (32 ≤ a0) = false := decide_eq_false c3; clear c3; obtain rfl := Option.some.inj H
 go_enter Tryz.func108, Tryz.ntmps108
 go_wp2
 go_ret
 exact ⟨cl, d0⟩
def addr_labelled.f (a0 : Int) : Option (Bool) := if a0 ≥ 97 then (if a0 ≤ 122 then (some true) else (if a0 ≥ 65 then (if a0 ≤ 90 then (some true) else (if a0 ≥ 48 then (if a0 ≤ 57 then (some true) else (some (a0 == 45))) else (some (a0 == 45)))) else (if a0 ≥ 48 then (if a0 ≤ 57 then (some true) else (some (a0 == 45))) else (some (a0 == 45))))) else (if a0 ≥ 65 then (if a0 ≤ 90 then (some true) else (if a0 ≥ 48 then (if a0 ≤ 57 then (some true) else (some (a0 == 45))) else (some (a0 == 45)))) else (if a0 ≥ 48 then (if a0 ≤ 57 then (some true) else (some (a0 == 45))) else (some (a0 == 45))))
set_option maxRecDepth 100000 in
theorem addr_labelled.calls (a0 : Int) (r : Bool) (w : World) (h : addr_labelled.f a0 = some r) :
  Calls Tryz.prog 226 #[.int .u8 a0] w fun e w' => e = .returned (.bool r) ∧ Drawn0 w w' := by
 have H : (if a0 ≥ 97 then (if a0 ≤ 122 then (some true) else (if a0 ≥ 65 then (if a0 ≤ 90 then (some true) else (if a0 ≥ 48 then (if a0 ≤ 57 then (some true) else (some (a0 == 45))) else (some (a0 == 45)))) else (if a0 ≥ 48 then (if a0 ≤ 57 then (some true) else (some (a0 == 45))) else (some (a0 == 45))))) else (if a0 ≥ 65 then (if a0 ≤ 90 then (some true) else (if a0 ≥ 48 then (if a0 ≤ 57 then (some true) else (some (a0 == 45))) else (some (a0 == 45)))) else (if a0 ≥ 48 then (if a0 ≤ 57 then (some true) else (some (a0 == 45))) else (some (a0 == 45))))) = some r := h; clear h
 by_cases c2 : a0 ≥ 97
 ·rw [if_pos c2] at H; have c2b0 : decide (97 ≤ a0) = true := decide_eq_true c2; clear c2
  by_cases c3 : a0 ≤ 122
  ·rw [if_pos c3] at H; have c3b0 := decide_eq_true c3; clear c3; obtain rfl := Option.some.inj H
   go_enter Tryz.func226, Tryz.ntmps226
   go_wp2
   go_ret
   exact ⟨cl, d0⟩
  rw [if_neg c3] at H; have c3b0 := decide_eq_false c3; clear c3
  by_cases c4 : a0 ≥ 65
  ·rw [if_pos c4] at H; have c4b0 : decide (65 ≤ a0) = true := decide_eq_true c4; clear c4
   by_cases c5 : a0 ≤ 90
   ·rw [if_pos c5] at H; have c5b0 := decide_eq_true c5; clear c5; obtain rfl := Option.some.inj H
    go_enter Tryz.func226, Tryz.ntmps226
    go_wp2
    go_ret
    exact ⟨cl, d0⟩
   rw [if_neg c5] at H; have c5b0 := decide_eq_false c5; clear c5
   by_cases c6 : a0 ≥ 48
   ·rw [if_pos c6] at H; have c6b0 : decide (48 ≤ a0) = true := decide_eq_true c6; clear c6
    by_cases c7 : a0 ≤ 57
    ·rw [if_pos c7] at H; have c7b0 := decide_eq_true c7; clear c7; obtain rfl := Option.some.inj H
     go_enter Tryz.func226, Tryz.ntmps226
     go_wp2
     go_ret
     exact ⟨cl, d0⟩
    rw [if_neg c7] at H; have c7b0 := decide_eq_false c7; clear c7; obtain rfl := Option.some.inj H
    go_enter Tryz.func226, Tryz.ntmps226
    go_wp2
    go_ret
    exact ⟨cl, d0⟩
   rw [if_neg c6] at H; have c6b0 : decide (48 ≤ a0) = false := decide_eq_false c6; clear c6; obtain rfl := Option.some.inj H
   go_enter Tryz.func226, Tryz.ntmps226
   go_wp2
   go_ret
   exact ⟨cl, d0⟩
  rw [if_neg c4] at H; have c4b0 : decide (65 ≤ a0) = false := decide_eq_false c4; clear c4
  by_cases c8 : a0 ≥ 48
  ·rw [if_pos c8] at H; have c8b0 : decide (48 ≤ a0) = true := decide_eq_true c8; clear c8
   by_cases c9 : a0 ≤ 57
   ·rw [if_pos c9] at H; have c9b0 := decide_eq_true c9; clear c9; obtain rfl := Option.some.inj H
    go_enter Tryz.func226, Tryz.ntmps226
    go_wp2
    go_ret
    exact ⟨cl, d0⟩
   rw [if_neg c9] at H; have c9b0 := decide_eq_false c9; clear c9; obtain rfl := Option.some.inj H
   go_enter Tryz.func226, Tryz.ntmps226
   go_wp2
   go_ret
   exact ⟨cl, d0⟩
  rw [if_neg c8] at H; have c8b0 : decide (48 ≤ a0) = false := decide_eq_false c8; clear c8; obtain rfl := Option.some.inj H
  go_enter Tryz.func226, Tryz.ntmps226
  go_wp2
  go_ret
  exact ⟨cl, d0⟩
 rw [if_neg c2] at H; have c2b0 : decide (97 ≤ a0) = false := decide_eq_false c2; clear c2
 by_cases c10 : a0 ≥ 65
 ·rw [if_pos c10] at H; have c10b0 : decide (65 ≤ a0) = true := decide_eq_true c10; clear c10
  by_cases c11 : a0 ≤ 90
  ·rw [if_pos c11] at H; have c11b0 := decide_eq_true c11; clear c11; obtain rfl := Option.some.inj H
   go_enter Tryz.func226, Tryz.ntmps226
   go_wp2
   go_ret
   exact ⟨cl, d0⟩
  rw [if_neg c11] at H; have c11b0 := decide_eq_false c11; clear c11
  by_cases c12 : a0 ≥ 48
  ·rw [if_pos c12] at H; have c12b0 : decide (48 ≤ a0) = true := decide_eq_true c12; clear c12
   by_cases c13 : a0 ≤ 57
   ·rw [if_pos c13] at H; have c13b0 := decide_eq_true c13; clear c13; obtain rfl := Option.some.inj H
    go_enter Tryz.func226, Tryz.ntmps226
    go_wp2
    go_ret
    exact ⟨cl, d0⟩
   rw [if_neg c13] at H; have c13b0 := decide_eq_false c13; clear c13; obtain rfl := Option.some.inj H
   go_enter Tryz.func226, Tryz.ntmps226
   go_wp2
   go_ret
   exact ⟨cl, d0⟩
  rw [if_neg c12] at H; have c12b0 : decide (48 ≤ a0) = false := decide_eq_false c12; clear c12; obtain rfl := Option.some.inj H
  go_enter Tryz.func226, Tryz.ntmps226
  go_wp2
  go_ret
  exact ⟨cl, d0⟩
 rw [if_neg c10] at H; have c10b0 : decide (65 ≤ a0) = false := decide_eq_false c10; clear c10
 by_cases c14 : a0 ≥ 48
 ·rw [if_pos c14] at H; have c14b0 : decide (48 ≤ a0) = true := decide_eq_true c14; clear c14
  by_cases c15 : a0 ≤ 57
  ·rw [if_pos c15] at H; have c15b0 := decide_eq_true c15; clear c15; obtain rfl := Option.some.inj H
   go_enter Tryz.func226, Tryz.ntmps226
   go_wp2
   go_ret
   exact ⟨cl, d0⟩
  rw [if_neg c15] at H; have c15b0 := decide_eq_false c15; clear c15; obtain rfl := Option.some.inj H
  go_enter Tryz.func226, Tryz.ntmps226
  go_wp2
  go_ret
  exact ⟨cl, d0⟩
 rw [if_neg c14] at H; have c14b0 : decide (48 ≤ a0) = false := decide_eq_false c14; clear c14; obtain rfl := Option.some.inj H
 go_enter Tryz.func226, Tryz.ntmps226
 go_wp2
 go_ret
 exact ⟨cl, d0⟩
def addr_label.l0 : Nat → ByteArray → Int → Int → Option (Bool)
 | 0, _, _, _ => none
 | k + 1, x0, x5, x6 => if x6 < x5 then (if 0 ≤ x6 then (if x6 < (x0.size : Int) then ((addr_labelled.f (bt x0 x6)).bind fun t509 => (if t509 = true then (addr_label.l0 k x0 x5 (wrap64 (x6 + 1))) else (some false))) else (none)) else (none)) else (if x0.toList = ([] : List UInt8) then (some false) else (if 0 < (x0.size : Int) then (if (bt x0 0) = 45 then (some false) else (if 0 ≤ (wrap64 ((x0.size : Int) - 1)) then (if (wrap64 ((x0.size : Int) - 1)) < (x0.size : Int) then (some ((bt x0 (wrap64 ((x0.size : Int) - 1))) != 45)) else (none)) else (none))) else (none)))
def addr_label.f (k : Nat) (a0 : ByteArray) : Option (Bool) := addr_label.l0 k a0 (a0.size : Int) 0
set_option maxRecDepth 100000 in
theorem addr_label.calls (k : Nat) (a0 : ByteArray) (r : Bool) (w : World) (h : addr_label.f k a0 = some r) :
  Calls Tryz.prog 225 #[.string a0] w fun e w' => e = .returned (.bool r) ∧ Drawn0 w w' := by
 have H : (addr_label.l0 k a0 (a0.size : Int) 0) = some r := h; clear h; have H' := Aside0.mk H; clear H
 go_enter Tryz.func225, Tryz.ntmps225
 go_wp2
 go_loopg [6] k (fun kq v6 w' => ∃ (x6_1 : Int), v6 = .int .i64 x6_1 ∧ Aside0 (addr_label.l0 kq a0 (a0.size : Int) x6_1 = some r) ∧ Aside0 (kq ≤ k) ∧ Drawn0 w w')
 case atStart => exact ⟨(0), cl, H', ⟨Nat.le_refl _⟩, d0⟩
 case round =>
  clear H'; obtain ⟨x6_1, rfl, HA, HK1, ⟨m1, rfl⟩⟩ := hrel; cases gk with
  | zero => exact absurd HA.out (by simp [addr_label.l0])
  | succ k1 =>
   have H := HA.out; clear HA; simp only [addr_label.l0] at H
   by_cases c2 : x6_1 < (a0.size : Int)
   ·rw [if_pos c2] at H; have c2b0 := decide_eq_true c2; clear c2
    by_cases c3 : 0 ≤ x6_1
    ·rw [if_pos c3] at H; have c3b0 := decide_eq_true c3; clear c3
     by_cases c4 : x6_1 < (a0.size : Int)
     ·rw [if_pos c4] at H; have c4b0 := decide_eq_true c4; clear c4; replace H := Option.bind_eq_some_iff.mp H; obtain ⟨t509, A60, H⟩ := H; have A6 := Aside0.mk A60; clear A60
      by_cases c7 : t509 = true
      ·subst c7; rw [if_pos rfl] at H; have H' := Aside0.mk H; clear H; have p5 : 0 ≤ (x6_1 : Int) := od; have q5 : x6_1 < (a0.size : Int) := od; have hx5 := bt_at a0 x6_1; replace p5 := eq_true p5; replace q5 := eq_true q5
       go_wp2_with (first | ((with_reducible refine gate_callee (f := 226) rfl ?_); refine goesL_ (some 12) rfl rfl Tryz.func226 (by kernel_rfl) rfl #[.int .u8 (bt a0 x6_1)] rfl am ?_; (with_reducible refine (addr_labelled.calls (bt a0 x6_1) true _ A6.out).mono ?_); rintro e w' ⟨rfl, ⟨nd, rfl⟩⟩; refine ⟨_, rfl, ?_⟩))
       go_roundg k1
       case measure => have := HK1.out; omega
       case rel => exact ⟨(wrap64 (x6_1 + 1)), cl, H', ⟨by have := HK1.out; omega⟩, d0⟩
      replace c7 := Bool.eq_false_iff.mpr c7; subst c7; rw [if_neg nft] at H; obtain rfl := Option.some.inj H; have p5 : 0 ≤ (x6_1 : Int) := od; have q5 : x6_1 < (a0.size : Int) := od; have hx5 := bt_at a0 x6_1; replace p5 := eq_true p5; replace q5 := eq_true q5
      go_wp2_with (first | ((with_reducible refine gate_callee (f := 226) rfl ?_); refine goesL_ (some 12) rfl rfl Tryz.func226 (by kernel_rfl) rfl #[.int .u8 (bt a0 x6_1)] rfl am ?_; (with_reducible refine (addr_labelled.calls (bt a0 x6_1) false _ A6.out).mono ?_); rintro e w' ⟨rfl, ⟨nd, rfl⟩⟩; refine ⟨_, rfl, ?_⟩))
      go_ret
      exact ⟨cl, d0⟩
     rw [if_neg c4] at H; exact absurd H (by simp)
    rw [if_neg c3] at H; exact absurd H (by simp)
   rw [if_neg c2] at H; have c2b0 := decide_eq_false c2; clear c2
   by_cases c8 : a0.toList = ([] : List UInt8)
   ·rw [if_pos c8] at H; have c8b0 := beq_iff_eq.mpr c8; have c8b1 := bne_eq_false_iff_eq.mpr c8; clear c8; obtain rfl := Option.some.inj H
    go_wp2
    go_ret
    exact ⟨cl, d0⟩
   rw [if_neg c8] at H; have c8b0 := beq_eq_false_iff_ne.mpr c8; have c8b1 := bne_iff_ne.mpr c8
   by_cases c9 : 0 < (a0.size : Int)
   ·rw [if_pos c9] at H; have c9b0 := decide_eq_true c9; have c9b1 : decide (0 < a0.size) = true := decide_eq_true (by omega); clear c9
    by_cases c11 : (bt a0 0) = 45
    ·rw [if_pos c11] at H; have c11b0 := beq_iff_eq.mpr c11; have c11b1 := bne_eq_false_iff_eq.mpr c11; clear c11; obtain rfl := Option.some.inj H; have p10 : 0 ≤ (0 : Int) := (by omega)
     have q10 : 0 < a0.size := (by have : (0 : Int) < (a0.size : Int) := od; omega)
     have hx10 : ∀ h : 0 < a0.size, ((a0[0]'h).toNat : Int) = bt a0 0 := bt_at a0 0; clear p10; have qi10 : (0 < (a0.size : Int)) = True := eq_true (od); replace q10 := eq_true q10
     go_wp2
     go_ret
     exact ⟨cl, d0⟩
    rw [if_neg c11] at H; have c11b0 := beq_eq_false_iff_ne.mpr c11; have c11b1 := bne_iff_ne.mpr c11; obtain ⟨ji12, hji12⟩ : ∃ j_ : Int, (wrap64 ((a0.size : Int) - 1)) = j_ := ⟨_, rfl⟩
    replace H : (if 0 ≤ (ji12) then (if (ji12) < (a0.size : Int) then (some ((bt a0 (ji12)) != 45)) else (none)) else (none)) = some r := by first | (rw [hji12] at H; exact H) | (simp only [hji12] at H ⊢; exact H)
    have hji12w : (IntKind.i64.wrap ((a0.size : Int) - 1)) = ji12 := (i64_w _).trans hji12
    by_cases c13 : 0 ≤ (ji12)
    ·rw [if_pos c13] at H; have c13b0 := decide_eq_true c13; clear c13
     by_cases c14 : (ji12) < (a0.size : Int)
     ·rw [if_pos c14] at H; have c14b0 := decide_eq_true c14; clear c14; obtain rfl := Option.some.inj H; have p10 : 0 ≤ (0 : Int) := (by omega)
      have q10 : 0 < a0.size := (by have : (0 : Int) < (a0.size : Int) := od; omega)
      have hx10 : ∀ h : 0 < a0.size, ((a0[0]'h).toNat : Int) = bt a0 0 := bt_at a0 0; clear p10; have qi10 : (0 < (a0.size : Int)) = True := eq_true (od); replace q10 := eq_true q10; have p15 : 0 ≤ ((ji12) : Int) := od; have q15 : (ji12) < (a0.size : Int) := od; have hx15 := bt_at a0 (ji12); replace p15 := eq_true p15; replace q15 := eq_true q15
      go_wp2
      go_ret
      exact ⟨by first | rfl | (simp; done) | (simp only [← hji12] <;> (first | rfl | simp)) | (simp [*]; done) | (simp [nil_ne]; done) | (simp [u8_w, i64w_]; done) | (simp [size_lit]; done) | (simp; unfold wrap64; omega), d0⟩
     rw [if_neg c14] at H; exact absurd H (by simp)
    rw [if_neg c13] at H; exact absurd H (by simp)
   rw [if_neg c9] at H; exact absurd H (by simp)
end Go.Proofs.YtcndmhpeolbepaaGreatDoor.Fn
namespace Go.Proofs.YtcndmhpeolbepaaGreatDoor.Fn
open Go.RowKit Go.Proofs.YtcndmhpeolbepaaGreatDoorW.PrintWords Go.Proofs.YtcndmhpeolbepaaGreatDoorW.PrintLast Go.Proofs.YtcndmhpeolbepaaGreatDoorW.PrintMore
attribute [local go_sem] max2_int min2_int max_two min_two max_three min_three max_four min_four
set_option linter.unusedVariables false
set_option linter.unusedSimpArgs false

mutual
def lex_Quote.l0 : Nat → ByteArray → List Int → Int → Int → Option (ByteArray)
 | 0, _, _, _, _ => none
 | k + 1, x0, x3, x8, x9 => if x9 < x8 then (if 0 ≤ x9 then (if x9 < (x0.size : Int) then (if (bt x0 x9) = 34 then (lex_Quote.j1 k x0 x3 (bt x0 x9) x8 x9 true) else (lex_Quote.j1 k x0 x3 (bt x0 x9) x8 x9 ((bt x0 x9) == 92))) else (none)) else (none)) else (if x3.length < 140737488355328 then (some (strOfNums (x3 ++ [34]))) else (none))
def lex_Quote.j1 : Nat → ByteArray → List Int → Int → Int → Int → Bool → Option (ByteArray)
 | 0, _, _, _, _, _, _ => none
 | k + 1, x0, x3, x5, x8, x9, x15 => if x15 = true then (if x3.length < 140737488355328 then ((some (x3 ++ [92] : List Int)).bind fun y235 => (if y235.length < 140737488355328 then (lex_Quote.l0 k x0 (y235 ++ [x5]) x8 (wrap64 (x9 + 1))) else (none))) else (none)) else ((lex_text.f x5).bind fun t241 => (if t241 = true then (if x3.length < 140737488355328 then (lex_Quote.l0 k x0 (x3 ++ [x5]) x8 (wrap64 (x9 + 1))) else (none)) else (if x3.length < 140737488355328 then (lex_Quote.l0 k x0 (x3 ++ [32]) x8 (wrap64 (x9 + 1))) else (none))))
end
def lex_Quote.f (k : Nat) (a0 : ByteArray) : Option (ByteArray) := lex_Quote.l0 k a0 (([34] : List Int)) (a0.size : Int) 0
set_option maxHeartbeats 8000000 in
set_option maxRecDepth 100000 in
theorem lex_Quote.calls (k : Nat) (a0 : ByteArray) (r : ByteArray) (w : World) (h : lex_Quote.f k a0 = some r) :
  Calls Tryz.prog 63 #[.string a0] w fun e w' => e = .returned (.string r) ∧ Below w.heap.size w w' := by
 have HB := Aside0.mk (Below.refl w.heap.size w); have H : (lex_Quote.l0 k a0 (([34] : List Int)) (a0.size : Int) 0) = some r := h; clear h; obtain ⟨y229, hy229⟩ : ∃ y_ : List Int, y_ = (([34] : List Int)) := ⟨_, rfl⟩
 replace H : (lex_Quote.l0 k a0 y229 (a0.size : Int) 0) = some r := by first | (rw [hy229]; with_reducible exact H) | (have H2_ := (Option.bind_some _ _).symm.trans H; rw [hy229]; with_reducible exact H2_) | (have H2_ := (Option.bind_some _ _).symm.trans H; with_reducible exact H2_) | with_reducible exact H | (rw [hy229]; exact H) | exact H
 have Ny229 := Aside0.mk hy229; clear hy229; have H' := Aside0.mk H; clear H
 go_enter Tryz.func63, Tryz.ntmps63
 go_wp2_with (first | ((with_reducible refine gate_dst (N := 6) rfl ?_); refine Kd.R_lit (Kd.int .u8) _ 5 ?hg (N := 6) ?hd (xs := ([34] : List Int)) (inner := [.int .u8 34]) (ok := fun _ => True) (okp := fun _ => True) ?hr ?hp (fun _ hk => hk) trivial (Below.refl _ _) (Nat.le_refl _) (by simp) ?_; (case hd => rfl); (case hg => rfl); (case hr => first | (go_simp; done) | (go_simp; rfl)); (case hp => exact (Reps.one (show Kd.M (Kd.int .u8) _ _ _ 34 [.int .u8 34] from rfl) (Reps.none _ _))); intro v230 w2 ho3 hb hg_ hnew_; clear hg_ hnew_; (first | rw [← Ny229.out] at ho3 | (simp only [Int.reduceToNat] at ho3; rw [← Ny229.out] at ho3)); have n0_ := Aside0.mk (Kd.R_lower ho3 (below_size bw)); have n1_ := Aside0.mk (below_step bw hb); clear HB; have HO231 := n0_; have HB := n1_; clear n0_ n1_; clear hb ho3))
 go_loopg [3, 9] k (fun kq v3 v9 w' => ∃ (x3_1 : List Int) (x9_1 : Int), v9 = .int .i64 x9_1 ∧ Aside0 (lex_Quote.l0 kq a0 x3_1 (a0.size : Int) x9_1 = some r) ∧ Aside0 (kq ≤ k) ∧ Aside0 (Kd.R (Kd.int .u8) 5 w' w.heap.size (fun _ => True) v3 x3_1) ∧ Aside0 (Below w.heap.size w w'))
 case atStart => exact ⟨(y229), (0), cl, H', ⟨Nat.le_refl _⟩, ⟨ra HO231.out⟩, ⟨bw⟩⟩
 case round =>
  clear H'
  try clear p2
  obtain ⟨x3_1, x9_1, rfl, HA, HK1, HO_3, HB⟩ := hrel; cases gk with
  | zero => exact absurd HA.out (by simp [lex_Quote.l0])
  | succ k1 =>
   have H := HA.out; clear HA; simp only [lex_Quote.l0] at H
   by_cases c4 : x9_1 < (a0.size : Int)
   ·rw [if_pos c4] at H; have c4b0 := decide_eq_true c4; clear c4
    by_cases c5 : 0 ≤ x9_1
    ·rw [if_pos c5] at H; have c5b0 := decide_eq_true c5; clear c5
     by_cases c6 : x9_1 < (a0.size : Int)
     ·rw [if_pos c6] at H; have c6b0 := decide_eq_true c6; clear c6; have HC8 := Aside0.mk H; clear H; have p7 : 0 ≤ (x9_1 : Int) := od; have q7 : x9_1 < (a0.size : Int) := od; have hx7 := bt_at a0 x9_1; replace p7 := eq_true p7; replace q7 := eq_true q7
      go_upto_region 6 with (fail)
      go_cut [15] (fun v15 wc => ∃ (kq : Nat) (x15_7 : Bool), v15 = .bool x15_7 ∧ Aside0 (lex_Quote.j1 kq a0 x3_1 (bt a0 x9_1) (a0.size : Int) x9_1 x15_7 = some r) ∧ Aside0 (kq ≤ k1) ∧ Aside0 (Kd.R (Kd.int .u8) 5 wc w.heap.size (fun _ => True) u3 x3_1) ∧ Aside0 (Below w.heap.size w wc))
      case first =>
       have H := HC8.out; clear HC8
       by_cases c9 : (bt a0 x9_1) = 34
       ·rw [if_pos c9] at H; have c9b0 := beq_iff_eq.mpr c9; have c9b1 := bne_eq_false_iff_eq.mpr c9; clear c9
        (first | rw [c9b0] | (simp only [i64_w, i32_w]; rw [c9b0]) | skip)
        have H' := Aside0.mk H; clear H
        go_wp2
        go_meet
        case rel => exact ⟨_, (true), cl, H', ⟨by have := HK1.out; first | omega | exact Nat.le_refl _⟩, ⟨ra HO_3.out⟩, ⟨bw⟩⟩
       rw [if_neg c9] at H; have c9b0 := beq_eq_false_iff_ne.mpr c9; have c9b1 := bne_iff_ne.mpr c9
       (first | rw [c9b0] | (simp only [i64_w, i32_w]; rw [c9b0]) | skip)
       have H' := Aside0.mk H; clear H
       go_wp2
       go_meet
       case rel => exact ⟨_, (((bt a0 x9_1) == 92)), cl, H', ⟨by have := HK1.out; first | omega | exact Nat.le_refl _⟩, ⟨ra HO_3.out⟩, ⟨bw⟩⟩
      case rest =>
       clear HC8
       try clear p2
       try clear c4
       try clear c4b0
       try clear c5
       try clear c5b0
       try clear c6
       try clear c6b0
       try clear p7
       try clear q7
       try clear hx7
       try clear c9
       try clear c9b0
       try clear c9b1
       try clear p2
       try clear p7
       try clear q7
       obtain ⟨kq, x15_7, rfl, HA, HJ7, HO_3, HB⟩ := hcut; cases kq with
       | zero => exact absurd HA.out (by simp [lex_Quote.j1])
       | succ kj7 =>
        have H := HA.out; clear HA; simp only [lex_Quote.j1] at H
        by_cases c10 : x15_7 = true
        ·subst c10; rw [if_pos rfl] at H
         by_cases c11 : x3_1.length < 140737488355328
         ·rw [if_pos c11] at H; have LMc11 := Aside0.mk c11; clear c11; obtain ⟨y235, hy235⟩ : ∃ y_ : List Int, y_ = (x3_1 ++ [92]) := ⟨_, rfl⟩
          replace H : (if y235.length < 140737488355328 then (lex_Quote.l0 kj7 a0 (y235 ++ [(bt a0 x9_1)]) (a0.size : Int) (wrap64 (x9_1 + 1))) else (none)) = some r := by first | (rw [hy235]; with_reducible exact H) | (have H2_ := (Option.bind_some _ _).symm.trans H; rw [hy235]; with_reducible exact H2_) | (have H2_ := (Option.bind_some _ _).symm.trans H; with_reducible exact H2_) | with_reducible exact H | (rw [hy235]; exact H) | exact H
          have Ny235 := Aside0.mk hy235; clear hy235
          by_cases c12 : y235.length < 140737488355328
          ·rw [if_pos c12] at H; have LMc12 := Aside0.mk c12; clear c12; obtain ⟨y238, hy238⟩ : ∃ y_ : List Int, y_ = (y235 ++ [(bt a0 x9_1)]) := ⟨_, rfl⟩
           replace H : (lex_Quote.l0 kj7 a0 y238 (a0.size : Int) (wrap64 (x9_1 + 1))) = some r := by first | (rw [hy238]; with_reducible exact H) | (have H2_ := (Option.bind_some _ _).symm.trans H; rw [hy238]; with_reducible exact H2_) | (have H2_ := (Option.bind_some _ _).symm.trans H; with_reducible exact H2_) | with_reducible exact H | (rw [hy238]; exact H) | exact H
           have Ny238 := Aside0.mk hy238; clear hy238; have H' := Aside0.mk H; clear H
           go_wp2_with (first | ((with_reducible refine gate_builtin (b := .append) (xs := #[.tmp 22, .tmp 23]) rfl ?_); at_builtin; refine Kd.R_append (Kd.int .u8) (w0 := w) w.heap.size rfl (.tmp 22) (.tmp 23) 83 5 (.int .u8 0) 1 rfl Tryz.underlying83 info5 rfl (by decide) (by omega) u3 x3_1 92 [.int .u8 92] (fun _ => True) (fun _ => False) rfl rfl ?aP (fun _ hk => hk.elim) ?aF ?aO ?aB ?aS ?aL ?_; (case aP => exact rfl); (case aB => exact bw); (case aF => exact (fun _ _ => trivial)); (case aO => exact (ra HO_3.out)); (case aS => exact (below_size bw)); (case aL => have := LMc11.out; omega); intro v236 w13 ho hb hg hat; rw [← Ny235.out] at ho; have n0_ := Aside0.mk (hb); have n1_ := Aside0.mk (ho); clear HB; clear HO_3; have HB := n0_; have HO237 := n1_; clear n0_ n1_; clear ho hb hg hat) | ((with_reducible refine gate_builtin (b := .append) (xs := #[.tmp 29, .tmp 31]) rfl ?_); at_builtin; refine Kd.R_append (Kd.int .u8) (w0 := w) w.heap.size rfl (.tmp 29) (.tmp 31) 83 5 (.int .u8 0) 1 rfl Tryz.underlying83 info5 rfl (by decide) (by omega) v236 y235 (bt a0 x9_1) [.int .u8 (bt a0 x9_1)] (fun _ => True) (fun _ => False) rfl rfl ?aP (fun _ hk => hk.elim) ?aF ?aO ?aB ?aS ?aL ?_; (case aP => exact rfl); (case aB => exact bw); (case aF => exact (fun _ _ => trivial)); (case aO => exact (ra HO237.out)); (case aS => exact (below_size bw)); (case aL => have := LMc12.out; omega); intro v239 w14 ho hb hg hat; rw [← Ny238.out] at ho; have n0_ := Aside0.mk (hb); have n1_ := Aside0.mk (ho); clear HB; clear HO237; have HB := n0_; have HO240 := n1_; clear n0_ n1_; clear ho hb hg hat))
           go_roundg kj7
           case measure => have := HK1.out; have := HJ7.out; omega
           case rel => exact ⟨(y238), (wrap64 (x9_1 + 1)), cl, H', ⟨by have := HK1.out; have := HJ7.out; omega⟩, ⟨ra HO240.out⟩, ⟨bw⟩⟩
          rw [if_neg c12] at H; exact absurd H (by simp)
         rw [if_neg c11] at H; exact absurd H (by simp)
        replace c10 := Bool.eq_false_iff.mpr c10; subst c10; rw [if_neg nft] at H; replace H := Option.bind_eq_some_iff.mp H; obtain ⟨t241, A150, H⟩ := H; have A15 := Aside0.mk A150; clear A150
        by_cases c16 : t241 = true
        ·subst c16; rw [if_pos rfl] at H
         by_cases c17 : x3_1.length < 140737488355328
         ·rw [if_pos c17] at H; have LMc17 := Aside0.mk c17; clear c17; obtain ⟨y242, hy242⟩ : ∃ y_ : List Int, y_ = (x3_1 ++ [(bt a0 x9_1)]) := ⟨_, rfl⟩
          replace H : (lex_Quote.l0 kj7 a0 y242 (a0.size : Int) (wrap64 (x9_1 + 1))) = some r := by first | (rw [hy242]; with_reducible exact H) | (have H2_ := (Option.bind_some _ _).symm.trans H; rw [hy242]; with_reducible exact H2_) | (have H2_ := (Option.bind_some _ _).symm.trans H; with_reducible exact H2_) | with_reducible exact H | (rw [hy242]; exact H) | exact H
          have Ny242 := Aside0.mk hy242; clear hy242; have H' := Aside0.mk H; clear H
          go_wp2_with (first | ((with_reducible refine gate_callee (f := 108) rfl ?_); refine goesL_ (some 27) rfl rfl Tryz.func108 (by kernel_rfl) rfl #[.int .u8 (bt a0 x9_1)] rfl am ?_; (with_reducible refine (lex_text.calls (bt a0 x9_1) true _ A15.out).mono ?_); rintro e w' ⟨rfl, ⟨nd, rfl⟩⟩; refine ⟨_, rfl, ?_⟩) | ((with_reducible refine gate_builtin (b := .append) (xs := #[.tmp 29, .tmp 31]) rfl ?_); at_builtin; refine Kd.R_append (Kd.int .u8) (w0 := w) w.heap.size rfl (.tmp 29) (.tmp 31) 83 5 (.int .u8 0) 1 rfl Tryz.underlying83 info5 rfl (by decide) (by omega) u3 x3_1 (bt a0 x9_1) [.int .u8 (bt a0 x9_1)] (fun _ => True) (fun _ => False) rfl rfl ?aP (fun _ hk => hk.elim) ?aF ?aO ?aB ?aS ?aL ?_; (case aP => exact rfl); (case aB => exact bw); (case aF => exact (fun _ _ => trivial)); (case aO => exact (ra HO_3.out)); (case aS => exact (below_size bw)); (case aL => have := LMc17.out; omega); intro v243 w18 ho hb hg hat; rw [← Ny242.out] at ho; have n0_ := Aside0.mk (hb); have n1_ := Aside0.mk (ho); clear HB; clear HO_3; have HB := n0_; have HO244 := n1_; clear n0_ n1_; clear ho hb hg hat))
          go_roundg kj7
          case measure => have := HK1.out; have := HJ7.out; omega
          case rel => exact ⟨(y242), (wrap64 (x9_1 + 1)), cl, H', ⟨by have := HK1.out; have := HJ7.out; omega⟩, ⟨ra HO244.out⟩, ⟨bw⟩⟩
         rw [if_neg c17] at H; exact absurd H (by simp)
        replace c16 := Bool.eq_false_iff.mpr c16; subst c16; rw [if_neg nft] at H
        by_cases c19 : x3_1.length < 140737488355328
        ·rw [if_pos c19] at H; have LMc19 := Aside0.mk c19; clear c19; obtain ⟨y245, hy245⟩ : ∃ y_ : List Int, y_ = (x3_1 ++ [32]) := ⟨_, rfl⟩
         replace H : (lex_Quote.l0 kj7 a0 y245 (a0.size : Int) (wrap64 (x9_1 + 1))) = some r := by first | (rw [hy245]; with_reducible exact H) | (have H2_ := (Option.bind_some _ _).symm.trans H; rw [hy245]; with_reducible exact H2_) | (have H2_ := (Option.bind_some _ _).symm.trans H; with_reducible exact H2_) | with_reducible exact H | (rw [hy245]; exact H) | exact H
         have Ny245 := Aside0.mk hy245; clear hy245; have H' := Aside0.mk H; clear H
         go_wp2_with (first | ((with_reducible refine gate_callee (f := 108) rfl ?_); refine goesL_ (some 27) rfl rfl Tryz.func108 (by kernel_rfl) rfl #[.int .u8 (bt a0 x9_1)] rfl am ?_; (with_reducible refine (lex_text.calls (bt a0 x9_1) false _ A15.out).mono ?_); rintro e w' ⟨rfl, ⟨nd, rfl⟩⟩; refine ⟨_, rfl, ?_⟩) | ((with_reducible refine gate_builtin (b := .append) (xs := #[.tmp 29, .tmp 31]) rfl ?_); at_builtin; refine Kd.R_append (Kd.int .u8) (w0 := w) w.heap.size rfl (.tmp 29) (.tmp 31) 83 5 (.int .u8 0) 1 rfl Tryz.underlying83 info5 rfl (by decide) (by omega) u3 x3_1 32 [.int .u8 32] (fun _ => True) (fun _ => False) rfl rfl ?aP (fun _ hk => hk.elim) ?aF ?aO ?aB ?aS ?aL ?_; (case aP => exact rfl); (case aB => exact bw); (case aF => exact (fun _ _ => trivial)); (case aO => exact (ra HO_3.out)); (case aS => exact (below_size bw)); (case aL => have := LMc19.out; omega); intro v246 w20 ho hb hg hat; rw [← Ny245.out] at ho; have n0_ := Aside0.mk (hb); have n1_ := Aside0.mk (ho); clear HB; clear HO_3; have HB := n0_; have HO247 := n1_; clear n0_ n1_; clear ho hb hg hat))
         go_roundg kj7
         case measure => have := HK1.out; have := HJ7.out; omega
         case rel => exact ⟨(y245), (wrap64 (x9_1 + 1)), cl, H', ⟨by have := HK1.out; have := HJ7.out; omega⟩, ⟨ra HO247.out⟩, ⟨bw⟩⟩
        rw [if_neg c19] at H; exact absurd H (by simp)
     rw [if_neg c6] at H; exact absurd H (by simp)
    rw [if_neg c5] at H; exact absurd H (by simp)
   rw [if_neg c4] at H; have c4b0 := decide_eq_false c4; clear c4
   by_cases c21 : x3_1.length < 140737488355328
   ·rw [if_pos c21] at H; have LMc21 := Aside0.mk c21; clear c21; obtain ⟨y232, hy232⟩ : ∃ y_ : List Int, y_ = (x3_1 ++ [34]) := ⟨_, rfl⟩
    replace H : (some (strOfNums y232)) = some r := by first | (rw [hy232]; with_reducible exact H) | (have H2_ := (Option.bind_some _ _).symm.trans H; rw [hy232]; with_reducible exact H2_) | (have H2_ := (Option.bind_some _ _).symm.trans H; with_reducible exact H2_) | with_reducible exact H | (rw [hy232]; exact H) | exact H
    have Ny232 := Aside0.mk hy232; clear hy232; obtain rfl := Option.some.inj H
    go_wp2_with (first | ((with_reducible refine gate_builtin (b := .append) (xs := #[.tmp 34, .tmp 35]) rfl ?_); at_builtin; refine Kd.R_append (Kd.int .u8) (w0 := w) w.heap.size rfl (.tmp 34) (.tmp 35) 83 5 (.int .u8 0) 1 rfl Tryz.underlying83 info5 rfl (by decide) (by omega) u3 x3_1 34 [.int .u8 34] (fun _ => True) (fun _ => False) rfl rfl ?aP (fun _ hk => hk.elim) ?aF ?aO ?aB ?aS ?aL ?_; (case aP => exact rfl); (case aB => exact bw); (case aF => exact (fun _ _ => trivial)); (case aO => exact (ra HO_3.out)); (case aS => exact (below_size bw)); (case aL => have := LMc21.out; omega); intro v233 w22 ho hb hg hat; rw [← Ny232.out] at ho; have n0_ := Aside0.mk (hb); have n1_ := Aside0.mk (ho); clear HB; clear HO_3; have HB := n0_; have HO234 := n1_; clear n0_ n1_; clear ho hb hg hat; have hcv23 := own_string (P := Tryz.prog) Tryz.underlying83 Tryz.underlying5 Tryz.underlying9 (Kd.own_of_R HO234.out)))
    go_ret
    exact ⟨ew, bw⟩
   rw [if_neg c21] at H; exact absurd H (by simp)

end Go.Proofs.YtcndmhpeolbepaaGreatDoor.Fn
namespace Go.Proofs.YtcndmhpeolbepaaGreatDoor.Fn
attribute [local go_sem] max2_int min2_int max_two min_two max_three min_three max_four min_four
def glyph_control.f (a0 : Int) : Option (Bool) := if a0 < 32 then (some true) else (if a0 ≥ 127 then (some (decide (a0 ≤ 159))) else (some false))
set_option maxRecDepth 100000 in
theorem glyph_control.calls (a0 : Int) (r : Bool) (w : World) (h : glyph_control.f a0 = some r) :
  Calls Tryz.prog 93 #[.int .i32 a0] w fun e w' => e = .returned (.bool r) ∧ Drawn0 w w' := by
 have H : (if a0 < 32 then (some true) else (if a0 ≥ 127 then (some (decide (a0 ≤ 159))) else (some false))) = some r := h; clear h
 by_cases c2 : a0 < 32
 ·rw [if_pos c2] at H; have c2b0 := decide_eq_true c2; clear c2; obtain rfl := Option.some.inj H
  go_enter Tryz.func93, Tryz.ntmps93
  go_wp2
  go_ret
  exact ⟨cl, d0⟩
 rw [if_neg c2] at H; have c2b0 := decide_eq_false c2; clear c2
 by_cases c3 : a0 ≥ 127
 ·rw [if_pos c3] at H; have c3b0 : decide (127 ≤ a0) = true := decide_eq_true c3; clear c3; obtain rfl := Option.some.inj H
  go_enter Tryz.func93, Tryz.ntmps93
  go_wp2
  go_ret
  exact ⟨cl, d0⟩
 rw [if_neg c3] at H; have c3b0 : decide (127 ≤ a0) = false := decide_eq_false c3; clear c3; obtain rfl := Option.some.inj H
 go_enter Tryz.func93, Tryz.ntmps93
 go_wp2
 go_ret
 exact ⟨cl, d0⟩
end Go.Proofs.YtcndmhpeolbepaaGreatDoor.Fn
-- written by xprint.py of this session over the kit's printer; not trusted: Lean checks it
namespace Go.Proofs.YtcndmhpeolbepaaGreatDoor.Fn
open Go.RowKit Go.Proofs.YtcndmhpeolbepaaGreatDoorW.PrintWords Go.Proofs.YtcndmhpeolbepaaGreatDoorW.PrintLast Go.Proofs.YtcndmhpeolbepaaGreatDoorW.PrintMore
attribute [local go_sem] max2_int min2_int max_two min_two max_three min_three max_four min_four   -- for this text's walks alone
set_option linter.unusedVariables false
set_option linter.unusedSimpArgs false

theorem eqA194 (d : Nat) (w : World) (x0 y0 : Int) (x1 y1 : ByteArray) :
  (Op.equalIn (d + 2) 194 (.agg #[.int .i64 x0, .string x1]) (.agg #[.int .i64 y0, .string y1])).run Tryz.prog w = .ok (x0 == y0 && (x1.toList == y1.toList)) w := by
 refine eqA_of Tryz.underlying194 (by kernel_rfl) ?_
 refine eqf_cons (by rfl) (by go_simp; rfl) (by go_simp; rfl) (by go_simp) ?_
 exact eqf_last (by rfl) (by go_simp; rfl) (by go_simp; rfl) (by go_simp)
end Go.Proofs.YtcndmhpeolbepaaGreatDoor.Fn
namespace Go.Proofs.YtcndmhpeolbepaaGreatDoor.Fn
attribute [local go_sem] max2_int min2_int max_two min_two max_three min_three max_four min_four
def lex_escaped.f (a0 : ByteArray) : Option (Int) := if a0.toList = ([] : List UInt8) then (some 9) else (if 0 < (a0.size : Int) then ((lex_text.f (bt a0 0)).bind fun t448 => (if t448 = true then (some 0) else (some 3))) else (none))
set_option maxRecDepth 100000 in
theorem lex_escaped.calls (a0 : ByteArray) (r : Int) (w : World) (h : lex_escaped.f a0 = some r) :
  Calls Tryz.prog 210 #[.string a0] w fun e w' => e = .returned (.int .i64 r) ∧ Drawn0 w w' := by
 have H : (if a0.toList = ([] : List UInt8) then (some 9) else (if 0 < (a0.size : Int) then ((lex_text.f (bt a0 0)).bind fun t448 => (if t448 = true then (some 0) else (some 3))) else (none))) = some r := h; clear h
 by_cases c2 : a0.toList = ([] : List UInt8)
 ·rw [if_pos c2] at H; have c2b0 := beq_iff_eq.mpr c2; have c2b1 := bne_eq_false_iff_eq.mpr c2; clear c2; obtain rfl := Option.some.inj H
  go_enter Tryz.func210, Tryz.ntmps210
  go_wp2
  go_ret
  exact ⟨cl, d0⟩
 rw [if_neg c2] at H; have c2b0 := beq_eq_false_iff_ne.mpr c2; have c2b1 := bne_iff_ne.mpr c2
 by_cases c3 : 0 < (a0.size : Int)
 ·rw [if_pos c3] at H; have c3b0 := decide_eq_true c3; have c3b1 : decide (0 < a0.size) = true := decide_eq_true (by omega); clear c3; replace H := Option.bind_eq_some_iff.mp H; obtain ⟨t448, A50, H⟩ := H; have A5 := Aside0.mk A50; clear A50
  by_cases c6 : t448 = true
  ·subst c6; rw [if_pos rfl] at H; obtain rfl := Option.some.inj H; have p4 : 0 ≤ (0 : Int) := (by omega)
   have q4 : 0 < a0.size := (by have : (0 : Int) < (a0.size : Int) := od; omega)
   have hx4 : ∀ h : 0 < a0.size, ((a0[0]'h).toNat : Int) = bt a0 0 := bt_at a0 0; clear p4; have qi4 : (0 < (a0.size : Int)) = True := eq_true (od); replace q4 := eq_true q4
   go_enter Tryz.func210, Tryz.ntmps210
   go_wp2_with (first | ((with_reducible refine gate_callee (f := 108) rfl ?_); refine goesL_ (some 9) rfl rfl Tryz.func108 (by kernel_rfl) rfl #[.int .u8 (bt a0 0)] rfl am ?_; (with_reducible refine (lex_text.calls (bt a0 0) true _ A5.out).mono ?_); rintro e w' ⟨rfl, ⟨nd, rfl⟩⟩; refine ⟨_, rfl, ?_⟩))
   go_ret
   exact ⟨cl, d0⟩
  replace c6 := Bool.eq_false_iff.mpr c6; subst c6; rw [if_neg nft] at H; obtain rfl := Option.some.inj H; have p4 : 0 ≤ (0 : Int) := (by omega)
  have q4 : 0 < a0.size := (by have : (0 : Int) < (a0.size : Int) := od; omega)
  have hx4 : ∀ h : 0 < a0.size, ((a0[0]'h).toNat : Int) = bt a0 0 := bt_at a0 0; clear p4; have qi4 : (0 < (a0.size : Int)) = True := eq_true (od); replace q4 := eq_true q4
  go_enter Tryz.func210, Tryz.ntmps210
  go_wp2_with (first | ((with_reducible refine gate_callee (f := 108) rfl ?_); refine goesL_ (some 9) rfl rfl Tryz.func108 (by kernel_rfl) rfl #[.int .u8 (bt a0 0)] rfl am ?_; (with_reducible refine (lex_text.calls (bt a0 0) false _ A5.out).mono ?_); rintro e w' ⟨rfl, ⟨nd, rfl⟩⟩; refine ⟨_, rfl, ?_⟩))
  go_ret
  exact ⟨cl, d0⟩
 rw [if_neg c3] at H; exact absurd H (by simp)
def lex_white.f (a0 : Int) : Option (Bool) := if a0 = 32 then (some true) else (some (a0 == 9))
set_option maxRecDepth 100000 in
theorem lex_white.calls (a0 : Int) (r : Bool) (w : World) (h : lex_white.f a0 = some r) :
  Calls Tryz.prog 198 #[.int .u8 a0] w fun e w' => e = .returned (.bool r) ∧ Drawn0 w w' := by
 have H : (if a0 = 32 then (some true) else (some (a0 == 9))) = some r := h; clear h
 by_cases c2 : a0 = 32
 ·rw [if_pos c2] at H; have c2b0 := beq_iff_eq.mpr c2; have c2b1 := bne_eq_false_iff_eq.mpr c2; clear c2; obtain rfl := Option.some.inj H
  go_enter Tryz.func198, Tryz.ntmps198
  go_wp2
  go_ret
  exact ⟨cl, d0⟩
 rw [if_neg c2] at H; have c2b0 := beq_eq_false_iff_ne.mpr c2; have c2b1 := bne_iff_ne.mpr c2; obtain rfl := Option.some.inj H
 go_enter Tryz.func198, Tryz.ntmps198
 go_wp2
 go_ret
 exact ⟨cl, d0⟩
def lex_fold.f (a0 : ByteArray) : Option (Bool) := if (a0.size : Int) > 2 then (if 0 < (a0.size : Int) then (if (bt a0 0) = 13 then (if 1 < (a0.size : Int) then (if (bt a0 1) = 10 then (if 2 < (a0.size : Int) then ((lex_white.f (bt a0 2)).bind fun t447 => (some t447)) else (none)) else (some false)) else (none)) else (some false)) else (none)) else (some false)
set_option maxRecDepth 100000 in
theorem lex_fold.calls (a0 : ByteArray) (r : Bool) (w : World) (h : lex_fold.f a0 = some r) :
  Calls Tryz.prog 199 #[.string a0] w fun e w' => e = .returned (.bool r) ∧ Drawn0 w w' := by
 have H : (if (a0.size : Int) > 2 then (if 0 < (a0.size : Int) then (if (bt a0 0) = 13 then (if 1 < (a0.size : Int) then (if (bt a0 1) = 10 then (if 2 < (a0.size : Int) then ((lex_white.f (bt a0 2)).bind fun t447 => (some t447)) else (none)) else (some false)) else (none)) else (some false)) else (none)) else (some false)) = some r := h; clear h
 by_cases c2 : (a0.size : Int) > 2
 ·rw [if_pos c2] at H; have c2b0 : decide (2 < (a0.size : Int)) = true := decide_eq_true c2; have c2b1 : decide (2 < a0.size) = true := decide_eq_true (by omega); clear c2
  by_cases c3 : 0 < (a0.size : Int)
  ·rw [if_pos c3] at H; have c3b0 := decide_eq_true c3; have c3b1 : decide (0 < a0.size) = true := decide_eq_true (by omega); clear c3
   by_cases c5 : (bt a0 0) = 13
   ·rw [if_pos c5] at H; have c5b0 := beq_iff_eq.mpr c5; have c5b1 := bne_eq_false_iff_eq.mpr c5; clear c5
    by_cases c6 : 1 < (a0.size : Int)
    ·rw [if_pos c6] at H; have c6b0 := decide_eq_true c6; have c6b1 : decide (1 < a0.size) = true := decide_eq_true (by omega); clear c6
     by_cases c8 : (bt a0 1) = 10
     ·rw [if_pos c8] at H; have c8b0 := beq_iff_eq.mpr c8; have c8b1 := bne_eq_false_iff_eq.mpr c8; clear c8
      by_cases c9 : 2 < (a0.size : Int)
      ·rw [if_pos c9] at H; have c9b0 := decide_eq_true c9; have c9b1 : decide (2 < a0.size) = true := decide_eq_true (by omega); clear c9; replace H := Option.bind_eq_some_iff.mp H; obtain ⟨t447, A110, H⟩ := H; have A11 := Aside0.mk A110; clear A110; obtain rfl := Option.some.inj H; have p4 : 0 ≤ (0 : Int) := (by omega)
       have q4 : 0 < a0.size := (by have : (0 : Int) < (a0.size : Int) := od; omega)
       have hx4 : ∀ h : 0 < a0.size, ((a0[0]'h).toNat : Int) = bt a0 0 := bt_at a0 0; clear p4; have qi4 : (0 < (a0.size : Int)) = True := eq_true (od); replace q4 := eq_true q4; have p7 : 0 ≤ (1 : Int) := (by omega)
       have q7 : 1 < a0.size := (by have : (1 : Int) < (a0.size : Int) := od; omega)
       have hx7 : ∀ h : 1 < a0.size, ((a0[1]'h).toNat : Int) = bt a0 1 := bt_at a0 1; clear p7; have qi7 : (1 < (a0.size : Int)) = True := eq_true (od); replace q7 := eq_true q7; have p10 : 0 ≤ (2 : Int) := (by omega)
       have q10 : 2 < a0.size := (by have : (2 : Int) < (a0.size : Int) := od; omega)
       have hx10 : ∀ h : 2 < a0.size, ((a0[2]'h).toNat : Int) = bt a0 2 := bt_at a0 2; clear p10; have qi10 : (2 < (a0.size : Int)) = True := eq_true (od); replace q10 := eq_true q10
       go_enter Tryz.func199, Tryz.ntmps199
       go_wp2_with (first | (go_at_call 198; (with_reducible refine (lex_white.calls (bt a0 2) t447 _ A11.out).mono ?_); rintro e w' ⟨rfl, ⟨nd, rfl⟩⟩))
       go_ret
       exact ⟨cl, d0⟩
      rw [if_neg c9] at H; exact absurd H (by simp)
     rw [if_neg c8] at H; have c8b0 := beq_eq_false_iff_ne.mpr c8; have c8b1 := bne_iff_ne.mpr c8; obtain rfl := Option.some.inj H; have p4 : 0 ≤ (0 : Int) := (by omega)
     have q4 : 0 < a0.size := (by have : (0 : Int) < (a0.size : Int) := od; omega)
     have hx4 : ∀ h : 0 < a0.size, ((a0[0]'h).toNat : Int) = bt a0 0 := bt_at a0 0; clear p4; have qi4 : (0 < (a0.size : Int)) = True := eq_true (od); replace q4 := eq_true q4; have p7 : 0 ≤ (1 : Int) := (by omega)
     have q7 : 1 < a0.size := (by have : (1 : Int) < (a0.size : Int) := od; omega)
     have hx7 : ∀ h : 1 < a0.size, ((a0[1]'h).toNat : Int) = bt a0 1 := bt_at a0 1; clear p7; have qi7 : (1 < (a0.size : Int)) = True := eq_true (od); replace q7 := eq_true q7
     go_enter Tryz.func199, Tryz.ntmps199
     go_wp2
     go_ret
     exact ⟨cl, d0⟩
    rw [if_neg c6] at H; exact absurd H (by simp)
   rw [if_neg c5] at H; have c5b0 := beq_eq_false_iff_ne.mpr c5; have c5b1 := bne_iff_ne.mpr c5; obtain rfl := Option.some.inj H; have p4 : 0 ≤ (0 : Int) := (by omega)
   have q4 : 0 < a0.size := (by have : (0 : Int) < (a0.size : Int) := od; omega)
   have hx4 : ∀ h : 0 < a0.size, ((a0[0]'h).toNat : Int) = bt a0 0 := bt_at a0 0; clear p4; have qi4 : (0 < (a0.size : Int)) = True := eq_true (od); replace q4 := eq_true q4
   go_enter Tryz.func199, Tryz.ntmps199
   go_wp2
   go_ret
   exact ⟨cl, d0⟩
  rw [if_neg c3] at H; exact absurd H (by simp)
 rw [if_neg c2] at H; have c2b0 : decide (2 < (a0.size : Int)) = false := decide_eq_false c2; have c2b1 : decide (2 < a0.size) = false := decide_eq_false (by omega); clear c2; obtain rfl := Option.some.inj H
 go_enter Tryz.func199, Tryz.ntmps199
 go_wp2
 go_ret
 exact ⟨cl, d0⟩
end Go.Proofs.YtcndmhpeolbepaaGreatDoor.Fn
namespace Go.Proofs.YtcndmhpeolbepaaGreatDoor.Fn
open Go.RowKit Go.Proofs.YtcndmhpeolbepaaGreatDoorW.PrintWords Go.Proofs.YtcndmhpeolbepaaGreatDoorW.PrintLast Go.Proofs.YtcndmhpeolbepaaGreatDoorW.PrintMore
attribute [local go_sem] max2_int min2_int max_two min_two max_three min_three max_four min_four
set_option linter.unusedVariables false
set_option linter.unusedSimpArgs false

mutual
def lex_comment.l0 : Nat → ByteArray → Int → Int → Option (ByteArray × Int)
 | 0, _, _, _ => none
 | k + 1, x0, x4, x5 => if x5 < (x0.size : Int) then (if 0 ≤ x5 then (if x5 ≤ (x0.size : Int) then ((lex_fold.f (x0.extract (x5 : Int).toNat x0.size)).bind fun t449 => (if t449 = true then (lex_comment.l0 k x0 x4 (wrap64 ((wrap64 (x5 + 1)) + 1))) else (if (bt x0 x5) = 92 then (if 0 ≤ (wrap64 (x5 + 1)) then (if (wrap64 (x5 + 1)) ≤ (x0.size : Int) then ((lex_escaped.f (x0.extract ((wrap64 (x5 + 1)) : Int).toNat x0.size)).bind fun t450 => (if t450 = 0 then (lex_comment.l0 k x0 x4 (wrap64 ((wrap64 (x5 + 1)) + 1))) else (some ((⟨#[]⟩ : ByteArray), t450)))) else (none)) else (none)) else (if (bt x0 x5) = 40 then (lex_comment.j1 k x0 x4 x5 (bt x0 x5) (x4 == 16)) else (lex_comment.j1 k x0 x4 x5 (bt x0 x5) false))))) else (none)) else (none)) else (if x4 > 0 then (some ((⟨#[]⟩ : ByteArray), 9)) else (some (x0, 0)))
def lex_comment.j1 : Nat → ByteArray → Int → Int → Int → Bool → Option (ByteArray × Int)
 | 0, _, _, _, _, _ => none
 | k + 1, x0, x4, x5, x6, x36 => if x36 = true then (some ((⟨#[]⟩ : ByteArray), 1)) else (if x6 = 40 then (lex_comment.l0 k x0 (wrap64 (x4 + 1)) (wrap64 (x5 + 1))) else (if x6 = 41 then (lex_comment.j2 k x0 x4 x5 x6 (x4 == 1)) else (lex_comment.j2 k x0 x4 x5 x6 false)))
def lex_comment.j2 : Nat → ByteArray → Int → Int → Int → Bool → Option (ByteArray × Int)
 | 0, _, _, _, _, _ => none
 | k + 1, x0, x4, x5, x6, x48 => if x48 = true then (if 0 ≤ (wrap64 (x5 + 1)) then (if (wrap64 (x5 + 1)) ≤ (x0.size : Int) then (if 0 > 0 then (some ((⟨#[]⟩ : ByteArray), 9)) else (some (x0.extract ((wrap64 (x5 + 1)) : Int).toNat x0.size, 0))) else (none)) else (none)) else (if x6 = 41 then (lex_comment.l0 k x0 (wrap64 (x4 - 1)) (wrap64 (x5 + 1))) else ((lex_text.f x6).bind fun t451 => (if t451 = true then (lex_comment.l0 k x0 x4 (wrap64 (x5 + 1))) else (some ((⟨#[]⟩ : ByteArray), 3)))))
end
def lex_comment.f (k : Nat) (a0 : ByteArray) : Option (ByteArray × Int) := lex_comment.l0 k a0 0 0
set_option maxHeartbeats 8000000 in
set_option maxRecDepth 100000 in
theorem lex_comment.calls (k : Nat) (a0 : ByteArray) (r1 : ByteArray) (r2 : Int) (w : World) (h : lex_comment.f k a0 = some (r1, r2)) :
  Calls Tryz.prog 200 #[.string a0] w fun e w' => e = .returned (.tuple #[.string r1, .int .i64 r2]) ∧ Drawn0 w w' := by
 have H : (lex_comment.l0 k a0 0 0) = some (r1, r2) := h; clear h; have H' := Aside0.mk H; clear H
 go_enter Tryz.func200, Tryz.ntmps200
 go_wp2
 go_step3
 go_wp2
 go_step3
 go_wp2
 go_loopg [0, 4, 5] k (fun kq v0 v4 v5 w' => ∃ (x0_1 : ByteArray) (x4_1 : Int) (x5_1 : Int), v0 = .string x0_1 ∧ v4 = .int .i64 x4_1 ∧ v5 = .int .i64 x5_1 ∧ Aside0 (lex_comment.l0 kq x0_1 x4_1 x5_1 = some (r1, r2)) ∧ Aside0 (kq ≤ k) ∧ Drawn0 w w')
 case atStart => exact ⟨(a0), (0), (0), cl, cl, cl, H', ⟨Nat.le_refl _⟩, d0⟩
 case round =>
  clear H'; obtain ⟨x0_1, x4_1, x5_1, rfl, rfl, rfl, HA, HK1, ⟨m1, rfl⟩⟩ := hrel; cases gk with
  | zero => exact absurd HA.out (by simp [lex_comment.l0])
  | succ k1 =>
   have H := HA.out; clear HA; simp only [lex_comment.l0] at H
   by_cases c2 : x5_1 < (x0_1.size : Int)
   ·rw [if_pos c2] at H; have c2b0 := decide_eq_true c2; clear c2
    by_cases c3 : 0 ≤ x5_1
    ·rw [if_pos c3] at H; have c3b0 := decide_eq_true c3; clear c3; have c5b0 := eq_true (od : 0 ≤ x5_1)
     by_cases c6 : x5_1 ≤ (x0_1.size : Int)
     ·rw [if_pos c6] at H; have c6b0 := eq_true c6; have c6b1 := decide_eq_true c6; clear c6; replace H := Option.bind_eq_some_iff.mp H; obtain ⟨t449, A70, H⟩ := H; have A7 := Aside0.mk A70; clear A70
      by_cases c8 : t449 = true
      ·subst c8; rw [if_pos rfl] at H; have H' := Aside0.mk H; clear H; have p4 : 0 ≤ (x5_1 : Int) := od; have q4 : x5_1 < (x0_1.size : Int) := od; have hx4 := bt_at x0_1 x5_1; replace p4 := eq_true p4; replace q4 := eq_true q4
       go_wp2_with (first | ((with_reducible refine gate_callee (f := 199) rfl ?_); refine goesL_ (some 21) rfl rfl Tryz.func199 (by kernel_rfl) rfl #[.string (x0_1.extract (x5_1 : Int).toNat x0_1.size)] rfl am ?_; (with_reducible refine (lex_fold.calls (x0_1.extract (x5_1 : Int).toNat x0_1.size) true _ A7.out).mono ?_); rintro e w' ⟨rfl, ⟨nd, rfl⟩⟩; refine ⟨_, rfl, ?_⟩))
       go_roundg k1
       case measure => have := HK1.out; omega
       case rel => exact ⟨(x0_1), (x4_1), (wrap64 ((wrap64 (x5_1 + 1)) + 1)), cl, cl, cl, H', ⟨by have := HK1.out; omega⟩, d0⟩
      replace c8 := Bool.eq_false_iff.mpr c8; subst c8; rw [if_neg nft] at H
      by_cases c9 : (bt x0_1 x5_1) = 92
      ·rw [if_pos c9] at H; have c9b0 := beq_iff_eq.mpr c9; have c9b1 := bne_eq_false_iff_eq.mpr c9; clear c9; obtain ⟨ji10, hji10⟩ : ∃ j_ : Int, (wrap64 (x5_1 + 1)) = j_ := ⟨_, rfl⟩
       replace H : (if 0 ≤ (ji10) then (if (ji10) ≤ (x0_1.size : Int) then ((lex_escaped.f (x0_1.extract ((ji10) : Int).toNat x0_1.size)).bind fun t450 => (if t450 = 0 then (lex_comment.l0 k1 x0_1 x4_1 (wrap64 ((ji10) + 1))) else (some ((⟨#[]⟩ : ByteArray), t450)))) else (none)) else (none)) = some (r1, r2) := by first | (rw [hji10] at H; exact H) | (simp only [hji10] at H ⊢; exact H)
       (try rw [hji10] at A7)
       have hji10w : (IntKind.i64.wrap (x5_1 + 1)) = ji10 := (i64_w _).trans hji10
       by_cases c11 : 0 ≤ (ji10)
       ·rw [if_pos c11] at H; have c11b0 := eq_true c11; have c11b1 := decide_eq_true c11; clear c11
        by_cases c12 : (ji10) ≤ (x0_1.size : Int)
        ·rw [if_pos c12] at H; have c12b0 := eq_true c12; have c12b1 := decide_eq_true c12; clear c12; replace H := Option.bind_eq_some_iff.mp H; obtain ⟨t450, A130, H⟩ := H; have A13 := Aside0.mk A130; clear A130
         by_cases c14 : t450 = 0
         ·rw [if_pos c14] at H; have c14b0 := beq_iff_eq.mpr c14; have c14b1 := bne_eq_false_iff_eq.mpr c14; clear c14; have H' := Aside0.mk H; clear H; have p4 : 0 ≤ (x5_1 : Int) := od; have q4 : x5_1 < (x0_1.size : Int) := od; have hx4 := bt_at x0_1 x5_1; replace p4 := eq_true p4; replace q4 := eq_true q4
          go_wp2_with (first | ((with_reducible refine gate_callee (f := 199) rfl ?_); refine goesL_ (some 21) rfl rfl Tryz.func199 (by kernel_rfl) rfl #[.string (x0_1.extract (x5_1 : Int).toNat x0_1.size)] rfl am ?_; (with_reducible refine (lex_fold.calls (x0_1.extract (x5_1 : Int).toNat x0_1.size) false _ A7.out).mono ?_); rintro e w' ⟨rfl, ⟨nd, rfl⟩⟩; refine ⟨_, rfl, ?_⟩) | ((with_reducible refine gate_callee (f := 210) rfl ?_); refine goesL_ (some 32) rfl rfl Tryz.func210 (by kernel_rfl) rfl #[.string (x0_1.extract ((ji10) : Int).toNat x0_1.size)] rfl (by (try simp only [List.map_toArray, List.map_cons, List.map_nil]); first | done | (simp only [hji10]; rfl) | rfl | (simp only [List.length_drop, List.length_take]; rfl)) ?_; (with_reducible refine (lex_escaped.calls (x0_1.extract ((ji10) : Int).toNat x0_1.size) t450 _ A13.out).mono ?_); rintro e w' ⟨rfl, ⟨nd, rfl⟩⟩; refine ⟨_, rfl, ?_⟩))
          go_roundg k1
          case measure => have := HK1.out; omega
          case rel => exact ⟨(x0_1), (x4_1), (wrap64 ((ji10) + 1)), cl, cl, (by first | rfl | (simp; done) | (simp only [← hji10] <;> (first | rfl | simp)) | (simp [*]; done) | (simp [nil_ne]; done) | (simp [u8_w, i64w_]; done) | (simp [size_lit]; done) | (simp; unfold wrap64; omega)), H', ⟨by have := HK1.out; omega⟩, d0⟩
         rw [if_neg c14] at H; have c14b0 := beq_eq_false_iff_ne.mpr c14; have c14b1 := bne_iff_ne.mpr c14; simp only [Option.some.injEq, Prod.mk.injEq] at H; obtain ⟨rfl, rfl⟩ := H; have p4 : 0 ≤ (x5_1 : Int) := od; have q4 : x5_1 < (x0_1.size : Int) := od; have hx4 := bt_at x0_1 x5_1; replace p4 := eq_true p4; replace q4 := eq_true q4
         go_wp2_with (first | ((with_reducible refine gate_callee (f := 199) rfl ?_); refine goesL_ (some 21) rfl rfl Tryz.func199 (by kernel_rfl) rfl #[.string (x0_1.extract (x5_1 : Int).toNat x0_1.size)] rfl am ?_; (with_reducible refine (lex_fold.calls (x0_1.extract (x5_1 : Int).toNat x0_1.size) false _ A7.out).mono ?_); rintro e w' ⟨rfl, ⟨nd, rfl⟩⟩; refine ⟨_, rfl, ?_⟩) | ((with_reducible refine gate_callee (f := 210) rfl ?_); refine goesL_ (some 32) rfl rfl Tryz.func210 (by kernel_rfl) rfl #[.string (x0_1.extract ((ji10) : Int).toNat x0_1.size)] rfl (by (try simp only [List.map_toArray, List.map_cons, List.map_nil]); first | done | (simp only [hji10]; rfl) | rfl | (simp only [List.length_drop, List.length_take]; rfl)) ?_; (with_reducible refine (lex_escaped.calls (x0_1.extract ((ji10) : Int).toNat x0_1.size) t450 _ A13.out).mono ?_); rintro e w' ⟨rfl, ⟨nd, rfl⟩⟩; refine ⟨_, rfl, ?_⟩))
         (try rw [Exit.noGoto_ret])
         go_ret2
         exact ⟨by first | rfl | (simp; done) | (simp only [← hji10] <;> (first | rfl | simp)) | (simp [*]; done) | (simp [nil_ne]; done) | (simp [u8_w, i64w_]; done) | (simp [size_lit]; done) | (simp; unfold wrap64; omega), d0⟩
        rw [if_neg c12] at H; exact absurd H (by simp)
       rw [if_neg c11] at H; exact absurd H (by simp)
      rw [if_neg c9] at H; have c9b0 := beq_eq_false_iff_ne.mpr c9; have c9b1 := bne_iff_ne.mpr c9; have HC15 := Aside0.mk H; clear H; have p4 : 0 ≤ (x5_1 : Int) := od; have q4 : x5_1 < (x0_1.size : Int) := od; have hx4 := bt_at x0_1 x5_1; replace p4 := eq_true p4; replace q4 := eq_true q4
      go_upto_region 13 with (first | ((with_reducible refine gate_callee (f := 199) rfl ?_); refine goesL_ (some 21) rfl rfl Tryz.func199 (by kernel_rfl) rfl #[.string (x0_1.extract (x5_1 : Int).toNat x0_1.size)] rfl am ?_; (with_reducible refine (lex_fold.calls (x0_1.extract (x5_1 : Int).toNat x0_1.size) false _ A7.out).mono ?_); rintro e w' ⟨rfl, ⟨nd, rfl⟩⟩; refine ⟨_, rfl, ?_⟩))
      (try simp only [Act.put, sa_, sz_, ss_])
      go_cut [36] (fun v36 wc => ∃ (kq : Nat) (x36_14 : Bool), v36 = .bool x36_14 ∧ Aside0 (lex_comment.j1 kq x0_1 x4_1 x5_1 (bt x0_1 x5_1) x36_14 = some (r1, r2)) ∧ Aside0 (kq ≤ k1) ∧ Drawn0 w wc)
      case first =>
       have H := HC15.out; clear HC15
       by_cases c16 : (bt x0_1 x5_1) = 40
       ·rw [if_pos c16] at H; have c16b0 := beq_iff_eq.mpr c16; have c16b1 := bne_eq_false_iff_eq.mpr c16; clear c16
        (first | rw [c16b0] | (simp only [i64_w, i32_w]; rw [c16b0]) | skip)
        have H' := Aside0.mk H; clear H
        go_wp2
        go_meet
        case rel => exact ⟨_, ((x4_1 == 16)), cl, H', ⟨by have := HK1.out; first | omega | exact Nat.le_refl _⟩, d0⟩
       rw [if_neg c16] at H; have c16b0 := beq_eq_false_iff_ne.mpr c16; have c16b1 := bne_iff_ne.mpr c16
       (first | rw [c16b0] | (simp only [i64_w, i32_w]; rw [c16b0]) | skip)
       have H' := Aside0.mk H; clear H
       go_wp2
       go_meet
       case rel => exact ⟨_, (false), cl, H', ⟨by have := HK1.out; first | omega | exact Nat.le_refl _⟩, d0⟩
      case rest =>
       clear HC15 c2b0 c3b0 p4 q4 hx4 c5b0 c6b0 c6b1 c9 c9b0 c9b1; obtain ⟨kq, x36_14, rfl, HA, HJ14, ⟨mc14, rfl⟩⟩ := hcut; cases kq with
       | zero => exact absurd HA.out (by simp [lex_comment.j1])
       | succ kj14 =>
        have H := HA.out; clear HA; simp only [lex_comment.j1] at H
        by_cases c17 : x36_14 = true
        ·subst c17; rw [if_pos rfl] at H; simp only [Option.some.injEq, Prod.mk.injEq] at H; obtain ⟨rfl, rfl⟩ := H
         go_wp2
         (try rw [Exit.noGoto_ret])
         go_ret2
         exact ⟨cl, d0⟩
        replace c17 := Bool.eq_false_iff.mpr c17; subst c17; rw [if_neg nft] at H
        by_cases c18 : (bt x0_1 x5_1) = 40
        ·rw [if_pos c18] at H; have c18b0 := beq_iff_eq.mpr c18; have c18b1 := bne_eq_false_iff_eq.mpr c18; clear c18; have H' := Aside0.mk H; clear H
         go_wp2
         go_roundg kj14
         case measure => have := HK1.out; have := HJ14.out; omega
         case rel => exact ⟨(x0_1), (wrap64 (x4_1 + 1)), (wrap64 (x5_1 + 1)), cl, cl, cl, H', ⟨by have := HK1.out; have := HJ14.out; omega⟩, d0⟩
        rw [if_neg c18] at H; have c18b0 := beq_eq_false_iff_ne.mpr c18; have c18b1 := bne_iff_ne.mpr c18; have HC19 := Aside0.mk H; clear H
        go_upto_region 17 with (fail)
        go_cut [48] (fun v48 wc => ∃ (kq : Nat) (x48_18 : Bool), v48 = .bool x48_18 ∧ Aside0 (lex_comment.j2 kq x0_1 x4_1 x5_1 (bt x0_1 x5_1) x48_18 = some (r1, r2)) ∧ Aside0 (kq ≤ kj14) ∧ Drawn0 w wc)
        case first =>
         have H := HC19.out; clear HC19
         by_cases c20 : (bt x0_1 x5_1) = 41
         ·rw [if_pos c20] at H; have c20b0 := beq_iff_eq.mpr c20; have c20b1 := bne_eq_false_iff_eq.mpr c20; clear c20
          (first | rw [c20b0] | (simp only [i64_w, i32_w]; rw [c20b0]) | skip)
          have H' := Aside0.mk H; clear H
          go_wp2
          go_meet
          case rel => exact ⟨_, ((x4_1 == 1)), cl, H', ⟨by have := HK1.out; have := HJ14.out; first | omega | exact Nat.le_refl _⟩, d0⟩
         rw [if_neg c20] at H; have c20b0 := beq_eq_false_iff_ne.mpr c20; have c20b1 := bne_iff_ne.mpr c20
         (first | rw [c20b0] | (simp only [i64_w, i32_w]; rw [c20b0]) | skip)
         have H' := Aside0.mk H; clear H
         go_wp2
         go_meet
         case rel => exact ⟨_, (false), cl, H', ⟨by have := HK1.out; have := HJ14.out; first | omega | exact Nat.le_refl _⟩, d0⟩
        case rest =>
         clear HC19 c18 c18b0 c18b1; obtain ⟨kq, x48_18, rfl, HA, HJ18, ⟨mc18, rfl⟩⟩ := hcut; cases kq with
         | zero => exact absurd HA.out (by simp [lex_comment.j2])
         | succ kj18 =>
          have H := HA.out; clear HA; simp only [lex_comment.j2] at H
          by_cases c21 : x48_18 = true
          ·subst c21; rw [if_pos rfl] at H; obtain ⟨ji22, hji22⟩ : ∃ j_ : Int, (wrap64 (x5_1 + 1)) = j_ := ⟨_, rfl⟩
           replace H : (if 0 ≤ (ji22) then (if (ji22) ≤ (x0_1.size : Int) then (if 0 > 0 then (some ((⟨#[]⟩ : ByteArray), 9)) else (some (x0_1.extract ((ji22) : Int).toNat x0_1.size, 0))) else (none)) else (none)) = some (r1, r2) := by first | (rw [hji22] at H; exact H) | (simp only [hji22] at H ⊢; exact H)
           have hji22w : (IntKind.i64.wrap (x5_1 + 1)) = ji22 := (i64_w _).trans hji22
           by_cases c23 : 0 ≤ (ji22)
           ·rw [if_pos c23] at H; have c23b0 := eq_true c23; have c23b1 := decide_eq_true c23; clear c23
            by_cases c24 : (ji22) ≤ (x0_1.size : Int)
            ·rw [if_pos c24] at H; have c24b0 := eq_true c24; have c24b1 := decide_eq_true c24; clear c24
             by_cases c25 : 0 > 0
             ·exact absurd c25 (by decide)
             rw [if_neg c25] at H; have c25b0 : decide (0 < 0) = false := decide_eq_false c25; clear c25; simp only [Option.some.injEq, Prod.mk.injEq] at H; obtain ⟨rfl, rfl⟩ := H
             go_wp2
             (try rw [Exit.noGoto_ret])
             go_ret2
             exact ⟨by first | rfl | (simp; done) | (simp only [← hji22] <;> (first | rfl | simp)) | (simp [*]; done) | (simp [nil_ne]; done) | (simp [u8_w, i64w_]; done) | (simp [size_lit]; done) | (simp; unfold wrap64; omega), d0⟩
            rw [if_neg c24] at H; exact absurd H (by simp)
           rw [if_neg c23] at H; exact absurd H (by simp)
          replace c21 := Bool.eq_false_iff.mpr c21; subst c21; rw [if_neg nft] at H
          by_cases c26 : (bt x0_1 x5_1) = 41
          ·rw [if_pos c26] at H; have c26b0 := beq_iff_eq.mpr c26; have c26b1 := bne_eq_false_iff_eq.mpr c26; clear c26; have H' := Aside0.mk H; clear H
           go_wp2
           go_roundg kj18
           case measure => have := HK1.out; have := HJ14.out; have := HJ18.out; omega
           case rel => exact ⟨(x0_1), (wrap64 (x4_1 - 1)), (wrap64 (x5_1 + 1)), cl, cl, cl, H', ⟨by have := HK1.out; have := HJ14.out; have := HJ18.out; omega⟩, d0⟩
          rw [if_neg c26] at H; have c26b0 := beq_eq_false_iff_ne.mpr c26; have c26b1 := bne_iff_ne.mpr c26; replace H := Option.bind_eq_some_iff.mp H; obtain ⟨t451, A270, H⟩ := H; have A27 := Aside0.mk A270; clear A270
          by_cases c28 : t451 = true
          ·subst c28; rw [if_pos rfl] at H; have H' := Aside0.mk H; clear H
           go_wp2_with (first | ((with_reducible refine gate_callee (f := 108) rfl ?_); refine goesL_ (some 66) rfl rfl Tryz.func108 (by kernel_rfl) rfl #[.int .u8 (bt x0_1 x5_1)] rfl am ?_; (with_reducible refine (lex_text.calls (bt x0_1 x5_1) true _ A27.out).mono ?_); rintro e w' ⟨rfl, ⟨nd, rfl⟩⟩; refine ⟨_, rfl, ?_⟩))
           go_roundg kj18
           case measure => have := HK1.out; have := HJ14.out; have := HJ18.out; omega
           case rel => exact ⟨(x0_1), (x4_1), (wrap64 (x5_1 + 1)), cl, cl, cl, H', ⟨by have := HK1.out; have := HJ14.out; have := HJ18.out; omega⟩, d0⟩
          replace c28 := Bool.eq_false_iff.mpr c28; subst c28; rw [if_neg nft] at H; simp only [Option.some.injEq, Prod.mk.injEq] at H; obtain ⟨rfl, rfl⟩ := H
          go_wp2_with (first | ((with_reducible refine gate_callee (f := 108) rfl ?_); refine goesL_ (some 66) rfl rfl Tryz.func108 (by kernel_rfl) rfl #[.int .u8 (bt x0_1 x5_1)] rfl am ?_; (with_reducible refine (lex_text.calls (bt x0_1 x5_1) false _ A27.out).mono ?_); rintro e w' ⟨rfl, ⟨nd, rfl⟩⟩; refine ⟨_, rfl, ?_⟩))
          (try rw [Exit.noGoto_ret])
          go_ret2
          exact ⟨cl, d0⟩
     rw [if_neg c6] at H; exact absurd H (by simp)
    rw [if_neg c3] at H; exact absurd H (by simp)
   rw [if_neg c2] at H; have c2b0 := decide_eq_false c2; clear c2
   by_cases c29 : x4_1 > 0
   ·rw [if_pos c29] at H; have c29b0 : decide (0 < x4_1) = true := decide_eq_true c29; clear c29; simp only [Option.some.injEq, Prod.mk.injEq] at H; obtain ⟨rfl, rfl⟩ := H
    go_wp2
    (try rw [Exit.noGoto_ret])
    go_ret2
    exact ⟨cl, d0⟩
   rw [if_neg c29] at H; have c29b0 : decide (0 < x4_1) = false := decide_eq_false c29; clear c29; simp only [Option.some.injEq, Prod.mk.injEq] at H; obtain ⟨rfl, rfl⟩ := H
   go_wp2
   (try rw [Exit.noGoto_ret])
   go_ret2
   exact ⟨cl, d0⟩

end Go.Proofs.YtcndmhpeolbepaaGreatDoor.Fn
