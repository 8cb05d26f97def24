/- A part of the proof of this sentence: OrderReads (35.5): the commands of any mail, as a member may send it, are as the document reads them; of at most 30 fields, names of at most 200, values and body of at most 3000 bytes. -/
import Derived.Test.YtihabmcaplnbcaaGreatDoorCOrderReads5
import Derived.Test.YtihabmcaplnbcaaGreatDoorRows
import Derived.Test.YtihabmcaplnbcaaGreatDoorTie
import Derived.Test.YtihabmcaplnbcaaGreatDoorCards
import Derived.WalkKit
import Derived.ProofKit
import Derived.OpenShut
import Derived.ShutString
import Derived.ChangeOld
import Derived.Below
import Derived.SizedLaws
import Derived.Lib.SmallJoins
import Derived.SevenTiedAt
-- the row of the law OrderReads, out of its pure statement and its walk
namespace Go.Proofs.YtihabmcaplnbcaaGreatDoor.orderReads
open Go.ChangeShapes Go.WideShapes Go.ChangeAt Go.RowKit Go.Joins
open Go.ChangeMaps (open_string shut_string)
set_option maxRecDepth 100000 in
theorem lifted (os : Os) (started : os.Started) (H : Type) (enc : TypeId × Value → H) :
  ReturnsInHanded {} Tryz.checked os 5 .any (fun w args => (Rows.orderReadsSpec.pre enc Tryz.prog Tryz.f5 [] false w args ∧ laidMetH Tryz.prog listed w) ∧ sizedMet enc Tryz.prog Tryz.f5 (OpenSpec.ofChange Rows.orderReadsSpec) false w args) (Rows.orderReadsSpec.post enc Tryz.prog Tryz.f5 false true false false) := by
 refine lift_both (C := Tryz.checked) (X := fun w _ => laidMetH Tryz.prog listed w) (fun _ _ _ hh h => h.of_heap hh) own started (by kernel_rfl) Tryz.func5
  (ChangeSpec.witness_at (enc := enc) (C := Tryz.checked) (os := os) (X := fun w _ => laidMetH Tryz.prog listed w) false (laidWorld os) #[.agg #[.slice none 0 0, .string ByteArray.empty]] 8 rfl (by kernel_rfl) (by kernel_rfl) (by kernel_rfl) (by kernel_rfl) (by kernel_rfl) (laid_met os _)) ?_
 intro W base args ds gs before hval0 hW hZ hL hSh
 have hG : Fn.Glob W := Fn.glob_of hL hSh
 have hval : ∀ (j : Nat) t v, Tryz.f5.params[j]? = some t → args[j]? = some v → Value.okWide Tryz.prog W .any base t v := hval0
 have hW' := hW
 obtain ⟨p, q, hA0, hV, rfl, _, _⟩ := hW
 have hA : DataW.TrodAll enc Tryz.prog W 0 (fun _ => true) true Tryz.f5.params.toList args.toList ds p := hA0
 rw [Tryz.params5] at hA hval
 obtain ⟨v0, vs0, d0, ds0, p0, q0, hargs, rfl, rfl, h0, r0⟩ := trodAll_cons hA
 obtain ⟨rfl, rfl, rfl⟩ := trodAll_nil r0
 obtain rfl : args = #[v0] := by cases args; simp_all
 obtain ⟨rfl, rfl⟩ := trodVars_none hV
 have k0 := h0
 have lt0 : ∀ x ∈ p0, x.block < W.heap.size := by obtain ⟨m, hm⟩ := k0; exact DataW.trod_lt m _ _ _ hm
 obtain ⟨c0_0, c0_1, y0_0, y0_1, m0, rfl, _, _, g0_0, g0_1⟩ := open_agg2 Tryz.underlying24 (by kernel_rfl) (by kernel_rfl) (hval 0 24 v0 rfl rfl) h0
 obtain ⟨A0_0, n0_0, a0_0, rfl, hc0_0, _, hr0_0⟩ := Fn.open_fields g0_0
 obtain ⟨a0_1, e0_1, _, _⟩ := DataW.trod_string Tryz.underlying9 g0_1
 simp only [List.cons.injEq, and_true] at e0_1
 subst e0_1
 obtain ⟨k, hk⟩ := Pl.OrderReads a0_0 a0_1
 refine (Fn.bulletinlaw35_OrderReads.calls k A0_0 n0_0 a0_0 a0_1 true W hG hr0_0 hc0_0 hk).mono ?_
 rintro e W' ⟨rfl, bel⟩
 exact ⟨_, rfl, _, _, _, [], _, [], hW', trodAll_mk1 (shut_bool Tryz.underlying4 _), (trodAll_cons_mk (Below.trod laidOut (by kernel_rfl) (of_decide_eq_true (by kernel_rfl)) k0 bel lt0) trodAll_mk0), rfl, bel.frame _, fun h => by cases h⟩
end Go.Proofs.YtihabmcaplnbcaaGreatDoor.orderReads
