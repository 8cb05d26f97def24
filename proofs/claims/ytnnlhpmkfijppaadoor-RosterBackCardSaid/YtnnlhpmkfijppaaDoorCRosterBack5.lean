/- A part of the proof of this sentence: A right member is read again of its text, and what any text is read as is right and has just that text -/
import Derived.Test.YtnnlhpmkfijppaaDoorCRosterBack4
import Derived.Deep.SlicePairs
import Derived.ProofKit
import Derived.OpenShut
import Derived.SizedLaws
import Derived.Lib.SmallJoins
set_option linter.unusedVariables false
namespace Go.Proofs.YtnnlhpmkfijppaaDoor.Fn
open Go.RowKit Go.ChangeShapes Go.WideShapes Go.Proofs.YtnnlhpmkfijppaaDoorW.PrintWords

/-! A member (an address and six cells) that came in. -/
theorem array8 {α : Type} {cs : Array α} (h : cs.size = 8) : ∃ c0 c1 c2 c3 c4 c5 c6 c7, cs = #[c0, c1, c2, c3, c4, c5, c6, c7] := by
 obtain ⟨l⟩ := cs
 match l, h with
 | [c0, c1, c2, c3, c4, c5, c6, c7], _ => exact ⟨c0, c1, c2, c3, c4, c5, c6, c7, rfl⟩
theorem list7 {α : Type} {cs : List α} (h : cs.length = 7) : ∃ c0 c1 c2 c3 c4 c5 c6, cs = [c0, c1, c2, c3, c4, c5, c6] := by
 match cs, h with
 | [c0, c1, c2, c3, c4, c5, c6], _ => exact ⟨c0, c1, c2, c3, c4, c5, c6, rfl⟩
theorem list2 {α : Type} {cs : List α} (h : cs.length = 2) : ∃ c0 c1, cs = [c0, c1] := by
 match cs, h with
 | [c0, c1], _ => exact ⟨c0, c1, rfl⟩
theorem cells_str : Tryd.prog.cellsOf 9 = 1 := by kernel_rfl
theorem cells_int : Tryd.prog.cellsOf 3 = 1 := by kernel_rfl
theorem cells_bool : Tryd.prog.cellsOf 4 = 1 := by kernel_rfl
set_option maxRecDepth 100000 in
theorem open_addr {H : Type} {enc : TypeId × Value → H} {w : World} {base : Nat} {spare : Nat → Bool} {held : Bool} {fuel : Nat} {c0 c1 : Value} {y : DataW H × List MemPlace}
  (h : DataW.trod enc Tryd.prog w base spare held fuel 23 [c0, c1] = some y) :
  ∃ (a0 a1 : ByteArray), c0 = .string a0 ∧ c1 = .string a1 ∧ y.1 = .agg [.lit (.string a0.data.toList), .lit (.string a1.data.toList)] := by
 obtain ⟨xs, n, _, rfl, hl, hlen, hall⟩ := DataW.trod_struct Tryd.underlying23 h
 obtain ⟨y0, y1, rfl⟩ := list2 hlen
 have f0 := hall 0 _ rfl
 have f1 := hall 1 _ rfl
 obtain ⟨a0, e0, x0, _⟩ := DataW.trod_string Tryd.underlying9 f0
 obtain ⟨a1, e1, x1, _⟩ := DataW.trod_string Tryd.underlying9 f1
 have k0 : c0 = .string a0 := by have := congrArg (·[0]?) e0; simpa [cells_str] using this
 have k1 : c1 = .string a1 := by have := congrArg (·[0]?) e1; simpa [cells_str] using this
 exact ⟨a0, a1, k0, k1, by subst x0; subst x1; rfl⟩
set_option maxRecDepth 100000 in
theorem open_member {H : Type} {enc : TypeId × Value → H} {w W : World} {base base' : Nat} {spare : Nat → Bool} {held : Bool} {re : Reach} {v : Value} {d : DataW H} {ps : List MemPlace}
  (hv : Value.okWide Tryd.prog W re base' 25 v) (h : DataW.Trod enc Tryd.prog w base spare held 25 v d ps) :
  ∃ (a0 a1 : ByteArray) (a2 : Int) (a3 : Bool) (a4 a5 a6 a7 : Int), v = .agg #[.string a0, .string a1, .int .i64 a2, .bool a3, .int .i64 a4, .int .i64 a5, .int .i64 a6, .int .i64 a7] ∧
   a0.size ∈ d.weights Tryd.prog 25 ∧ a1.size ∈ d.weights Tryd.prog 25 ∧ (-9223372036854775808 ≤ a4 ∧ a4 ≤ 9223372036854775807) ∧ (-9223372036854775808 ≤ a5 ∧ a5 ≤ 9223372036854775807) ∧ (-9223372036854775808 ≤ a6 ∧ a6 ≤ 9223372036854775807) ∧ (-9223372036854775808 ≤ a7 ∧ a7 ≤ 9223372036854775807) := by
 obtain ⟨cs, rfl, hsz⟩ := okWide_struct Tryd.underlying25 hv
 obtain ⟨c0, c1, c2, c3, c4, c5, c6, c7, rfl⟩ := array8 (hsz.trans (by kernel_rfl))
 obtain ⟨fuel, hf⟩ := h
 obtain ⟨xs, n, _, hx, hl, hlen, hall⟩ := DataW.trod_struct Tryd.underlying25 hf
 obtain ⟨y0, y1, y2, y3, y4, y5, y6, rfl⟩ := list7 hlen
 have f0 := hall 0 _ rfl
 have f1 := hall 1 _ rfl
 have f2 := hall 2 _ rfl
 have f3 := hall 3 _ rfl
 have f4 := hall 4 _ rfl
 have f5 := hall 5 _ rfl
 have f6 := hall 6 _ rfl
 obtain ⟨a0, a1, e0, e1, x0⟩ := open_addr (c0 := c0) (c1 := c1) f0
 obtain ⟨a2, e2, x2, _⟩ := DataW.trod_int Tryd.underlying3 f1
 obtain ⟨a3, e3, x3⟩ := DataW.trod_bool Tryd.underlying4 f2
 obtain ⟨a4, e4, x4, w4⟩ := DataW.trod_int Tryd.underlying3 f3
 obtain ⟨a5, e5, x5, w5⟩ := DataW.trod_int Tryd.underlying3 f4
 obtain ⟨a6, e6, x6, w6⟩ := DataW.trod_int Tryd.underlying3 f5
 obtain ⟨a7, e7, x7, w7⟩ := DataW.trod_int Tryd.underlying3 f6
 have k2 : c2 = .int .i64 a2 := by have := congrArg (·[0]?) e2; simpa [cells_int, Value.cells] using this
 have k3 : c3 = .bool a3 := by have := congrArg (·[0]?) e3; simpa [cells_bool, Value.cells] using this
 have k4 : c4 = .int .i64 a4 := by have := congrArg (·[0]?) e4; simpa [cells_int, Value.cells] using this
 have k5 : c5 = .int .i64 a5 := by have := congrArg (·[0]?) e5; simpa [cells_int, Value.cells] using this
 have k6 : c6 = .int .i64 a6 := by have := congrArg (·[0]?) e6; simpa [cells_int, Value.cells] using this
 have k7 : c7 = .int .i64 a7 := by have := congrArg (·[0]?) e7; simpa [cells_int, Value.cells] using this
 have hd : d = .agg [y0.1, y1.1, y2.1, y3.1, y4.1, y5.1, y6.1] := by
  have := congrArg Prod.fst hx
  simpa using this
 have hw : ∀ parts : List (DataW H), (DataW.agg parts).weights Tryd.prog 25 = DataW.weightsEach Tryd.prog [23, 3, 4, 3, 3, 3, 3] parts := fun parts => by
  unfold DataW.weights
  rw [Tryd.underlying25]
  rfl
 have hw2 : ∀ parts : List (DataW H), (DataW.agg parts).weights Tryd.prog 23 = DataW.weightsEach Tryd.prog [9, 9] parts := fun parts => by
  unfold DataW.weights
  rw [Tryd.underlying23]
  rfl
 have hw3 : ∀ a : ByteArray, a.size ∈ (DataW.lit (.string a.data.toList) : DataW H).weights Tryd.prog 9 := fun a => by
  unfold DataW.weights
  have : a.data.toList.length = a.size := Array.length_toList
  rw [this]
  exact List.mem_singleton.2 rfl
 refine ⟨a0, a1, a2, a3, a4, a5, a6, a7, by rw [e0, e1, k2, k3, k4, k5, k6, k7], ?_, ?_, bounds_i64 w4, bounds_i64 w5, bounds_i64 w6, bounds_i64 w7⟩
 ·rw [hd, hw, x0]
  refine DataW.weights_mem_each (j := 0) rfl rfl _ ?_
  rw [hw2]
  exact DataW.weights_mem_each (j := 0) rfl rfl _ (hw3 a0)
 ·rw [hd, hw, x0]
  refine DataW.weights_mem_each (j := 0) rfl rfl _ ?_
  rw [hw2]
  exact DataW.weights_mem_each (j := 1) rfl rfl _ (hw3 a1)
theorem sized_sub {H : Type} {P : Program} {ts : List TypeId} {ds : List (DataW H)} (h : (DataW.weightsEach P ts ds).all (· ≤ reachBytes) = true) {j : Nat} {t : TypeId} {d : DataW H} (ht : ts[j]? = some t) (hd : ds[j]? = some d) {n : Nat} (hn : n ∈ d.weights P t) : n ≤ 140737488355328 := by
 have h1 := List.all_eq_true.1 h _ (DataW.weights_mem_each ht hd n hn)
 have h2 := reachBytes_lt
 have h3 : n ≤ reachBytes := by simpa using h1
 omega
end Go.Proofs.YtnnlhpmkfijppaaDoor.Fn
