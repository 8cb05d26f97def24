/- The law bulletinlaw15.HeadFolds returns true for every input: no line of a right field, written, has more than 78 bytes, if no piece of it has more than 70, nor its name more than 7, and each begins with a blank but the first; the tables of unicode/utf8 are as the program's text lays them. -/
import Derived.Test.YtlomcmdbbnbciaaDoorCHeadFolds1
import Derived.Test.YtlomcmdbbnbciaaDoorRows
import Derived.Test.YtlomcmdbbnbciaaDoorTie
import Derived.Test.YtlomcmdbbnbciaaDoorCards
import Derived.WalkKit
import Derived.ProofKit
import Derived.OpenShut
import Derived.ShutString
import Derived.ChangeOld
import Derived.Below
import Derived.SizedLaws
import Derived.Lib.SmallJoins
import Derived.SevenTiedAt
-- written by xprint.py of this session over the kit's printer; not trusted: Lean checks it
namespace Go.Proofs.YtlomcmdbbnbciaaDoor.Fn
open Go.RowKit Go.Proofs.YtlomcmdbbnbciaaDoorW.PrintWords Go.Proofs.YtlomcmdbbnbciaaDoorW.PrintLast Go.Proofs.YtlomcmdbbnbciaaDoorW.PrintMore
attribute [local go_sem] max2_int min2_int max_two min_two max_three min_three max_four min_four   -- for this text's walks alone
set_option linter.unusedVariables false
set_option linter.unusedSimpArgs false

/-! ### bulletinlaw15_HeadFolds: function 11 -/
mutual
def bulletinlaw15_HeadFolds.j0 : Nat → Bool → ByteArray → ByteArray → ByteArray → ByteArray → Option (Bool)
 | 0, _, _, _, _, _ => none
 | k + 1, x30, x606000, x606001, x608000, x608001 => if x30 = true then (some true) else (bulletinlaw15_HeadFolds.l0 k 0 (x606001.size : Int) 0 x606000 x606001 x608000 x608001)
def bulletinlaw15_HeadFolds.l0 : Nat → Int → Int → Int → ByteArray → ByteArray → ByteArray → ByteArray → Option (Bool)
 | 0, _, _, _, _, _, _, _ => none
 | k + 1, x4, x33, x34, x606000, x606001, x608000, x608001 => if x34 < x33 then (if x34 > 0 then (if 0 ≤ x34 then (if x34 < (x606001.size : Int) then (if (bt x606001 x34) = 32 then (if 0 ≤ (wrap64 (x34 - 1)) then (if (wrap64 (x34 - 1)) < (x606001.size : Int) then (if (bt x606001 (wrap64 (x34 - 1))) = 32 then (bulletinlaw15_HeadFolds.j2 k (wrap64 (x4 + 1)) x33 x34 false x606000 x606001 x608000 x608001) else (bulletinlaw15_HeadFolds.j2 k (wrap64 (x4 + 1)) x33 x34 ((bt x606001 (wrap64 (x34 - 1))) != 9) x606000 x606001 x608000 x608001)) else (none)) else (none)) else (if (bt x606001 x34) = 9 then (if 0 ≤ (wrap64 (x34 - 1)) then (if (wrap64 (x34 - 1)) < (x606001.size : Int) then (if (bt x606001 (wrap64 (x34 - 1))) = 32 then (bulletinlaw15_HeadFolds.j2 k (wrap64 (x4 + 1)) x33 x34 false x606000 x606001 x608000 x608001) else (bulletinlaw15_HeadFolds.j2 k (wrap64 (x4 + 1)) x33 x34 ((bt x606001 (wrap64 (x34 - 1))) != 9) x606000 x606001 x608000 x608001)) else (none)) else (none)) else (bulletinlaw15_HeadFolds.j2 k (wrap64 (x4 + 1)) x33 x34 false x606000 x606001 x608000 x608001))) else (none)) else (none)) else (bulletinlaw15_HeadFolds.j2 k (wrap64 (x4 + 1)) x33 x34 false x606000 x606001 x608000 x608001)) else ((head_Show.f x608000 x608001).bind fun t609 => (bulletinlaw15_HeadFolds.l1 k t609 0 0))
def bulletinlaw15_HeadFolds.j2 : Nat → Int → Int → Int → Bool → ByteArray → ByteArray → ByteArray → ByteArray → Option (Bool)
 | 0, _, _, _, _, _, _, _, _ => none
 | k + 1, x4, x33, x34, x70, x606000, x606001, x608000, x608001 => if x70 = true then (if 1 > 69 then (some true) else (bulletinlaw15_HeadFolds.l0 k 1 x33 (wrap64 (x34 + 1)) x606000 x606001 x608000 x608001)) else (if x4 > 69 then (some true) else (bulletinlaw15_HeadFolds.l0 k x4 x33 (wrap64 (x34 + 1)) x606000 x606001 x608000 x608001))
def bulletinlaw15_HeadFolds.l1 : Nat → ByteArray → Int → Int → Option (Bool)
 | 0, _, _, _ => none
 | k + 1, x6, x7, x8 => if (wrap64 (x8 + 1)) < (x6.size : Int) then (if 0 ≤ x8 then (if x8 < (x6.size : Int) then (if (bt x6 x8) = 13 then (if (wrap64 (x8 - x7)) > 78 then (some false) else (if x7 > 0 then (if 0 ≤ x7 then (if x7 < (x6.size : Int) then (if (bt x6 x7) = 32 then (bulletinlaw15_HeadFolds.l1 k x6 (wrap64 (x8 + 2)) (wrap64 (x8 + 1))) else (if (bt x6 x7) = 9 then (bulletinlaw15_HeadFolds.l1 k x6 (wrap64 (x8 + 2)) (wrap64 (x8 + 1))) else (some false))) else (none)) else (none)) else (bulletinlaw15_HeadFolds.l1 k x6 (wrap64 (x8 + 2)) (wrap64 (x8 + 1))))) else (bulletinlaw15_HeadFolds.l1 k x6 x7 (wrap64 (x8 + 1)))) else (none)) else (none)) else (some (x7 == (x6.size : Int)))
end
def bulletinlaw15_HeadFolds.f (k : Nat) (a0_0 : ByteArray) (a0_1 : ByteArray) : Option (Bool) := (bulletinlaw15_works.f k).bind fun t606 => (if t606 = true then (if (a0_0.size : Int) > 7 then (bulletinlaw15_HeadFolds.j0 k true a0_0 a0_1 a0_0 a0_1) else (if (a0_1.size : Int) > 3000 then (bulletinlaw15_HeadFolds.j0 k true a0_0 a0_1 a0_0 a0_1) else ((head_Right.f a0_0 a0_1).bind fun t608 => (bulletinlaw15_HeadFolds.j0 k (!t608) a0_0 a0_1 a0_0 a0_1)))) else (some false))
set_option maxHeartbeats 8000000 in
set_option maxRecDepth 100000 in
theorem bulletinlaw15_HeadFolds.calls (k : Nat) (a0_0 : ByteArray) (a0_1 : ByteArray) (r : Bool) (w : World) (hG : Glob w) (h : bulletinlaw15_HeadFolds.f k a0_0 a0_1 = some r) :
  Calls Tryd.prog 11 #[.agg #[.string a0_0, .string a0_1]] w fun e w' => e = .returned (.bool r) ∧ Below w.heap.size w w' := by
 have hu59 := Tryd.underlying59
 have hu60 := Tryd.underlying60
 have HB := Aside0.mk (Below.refl w.heap.size w)
 have H : ((bulletinlaw15_works.f k).bind fun t606 => (if t606 = true then (if (a0_0.size : Int) > 7 then (bulletinlaw15_HeadFolds.j0 k true a0_0 a0_1 a0_0 a0_1) else (if (a0_1.size : Int) > 3000 then (bulletinlaw15_HeadFolds.j0 k true a0_0 a0_1 a0_0 a0_1) else ((head_Right.f a0_0 a0_1).bind fun t608 => (bulletinlaw15_HeadFolds.j0 k (!t608) a0_0 a0_1 a0_0 a0_1)))) else (some false))) = some r := h
 clear h
 replace H := Option.bind_eq_some_iff.mp H
 obtain ⟨t606, A20, H⟩ := H
 replace H : (if t606 = true then (if (a0_0.size : Int) > 7 then (bulletinlaw15_HeadFolds.j0 k true a0_0 a0_1 a0_0 a0_1) else (if (a0_1.size : Int) > 3000 then (bulletinlaw15_HeadFolds.j0 k true a0_0 a0_1 a0_0 a0_1) else ((head_Right.f a0_0 a0_1).bind fun t608 => (bulletinlaw15_HeadFolds.j0 k (!t608) a0_0 a0_1 a0_0 a0_1)))) else (some false)) = some r := H
 have A2 := Aside0.mk A20
 clear A20
 by_cases c3 : t606 = true
 ·subst c3
  have H1 : (if (a0_0.size : Int) > 7 then (bulletinlaw15_HeadFolds.j0 k true a0_0 a0_1 a0_0 a0_1) else (if (a0_1.size : Int) > 3000 then (bulletinlaw15_HeadFolds.j0 k true a0_0 a0_1 a0_0 a0_1) else ((head_Right.f a0_0 a0_1).bind fun t608 => (bulletinlaw15_HeadFolds.j0 k (!t608) a0_0 a0_1 a0_0 a0_1)))) = some r := by rw [if_pos rfl] at H; exact H
  clear H
  have H := H1
  clear H1
  have HC4 := Aside0.mk H
  clear H
  go_enter Tryd.func11, Tryd.ntmps11
  go_upto_region 4 with (first | ((with_reducible refine gate_dst (N := 1) rfl ?_); (try (refine gate_guard (by rfl) ?_; dsimp only)); refine box_event ?hg (N := 1) ?hd (cs := #[.string a0_0, .string a0_1]) (t := 59) ?hr ?_; (case hd => rfl); (case hg => rfl); (case hr => first | (go_simp; done) | (go_simp; rfl)); intro gb605 hg w5 hbox hb; have n0_ := Aside0.mk (below_step bw hb); have n1_ := Aside0.mk (hbox); have n2_ := Aside0.mk ((by rw [hg]; exact (below_size bw) : w.heap.size ≤ gb605)); have n3_ := Aside0.mk ((by rw [hg]; exact (below_size bw) : w.heap.size ≤ gb605)); clear HB; have HB := n0_; have BK605 := n1_; have GW605 := n2_; have GE605 := n3_; clear n0_ n1_ n2_ n3_; clear hb hbox hg) | ((with_reducible refine gate_callee (f := 40) rfl ?_); refine goesL_ (some 9) rfl rfl Tryd.func40 (by kernel_rfl) rfl #[] rfl am ?_; (with_reducible refine (bulletinlaw15_works.calls (hG := by first | exact hG | exact Glob.below hG (by first | exact HB.out | (repeat (first | (with_reducible first | exact HB.out | apply below_alloc | apply pw_below_drewN | apply below_drew1 | refine below_set ?_ GE605.out | refine below_set ?_ GE607.out) | exact HB.out))) | exact Glob.drawn hG (by repeat (first | exact Drawn0.refl _ | apply Drawn0.step))) k  true _ A2.out).mono ?_); rintro e w6 ⟨rfl, hb⟩; refine ⟨_, rfl, ?_⟩; have n0_ := Aside0.mk (blk_below (g := gb605) (o := .cells #[.string a0_0, .string a0_1] 59 (0, 0)) bk hb); have n1_ := Aside0.mk (below_step bwS hb); clear BK605; clear HB; have BK605 := n0_; have HB := n1_; clear n0_ n1_; (try clear hb); (try clear hb2); (try clear hk); (try clear hi); have hcz7_0 : w6.cell? ⟨gb605, 0, none⟩ = some (.string a0_0) := (blk_cell BK605.out 0).trans rfl; have hcz7_1 : w6.cell? ⟨gb605, 1, none⟩ = some (.string a0_1) := (blk_cell BK605.out 1).trans rfl; have hfz7_0 := blk_frozen BK605.out 0; have hfz7_1 := blk_frozen BK605.out 1) | ((with_reducible refine gate_dst (N := 3) rfl ?_); (try (refine gate_guard (by rfl) ?_; dsimp only)); refine box_event ?hg (N := 3) ?hd (cs := #[.string (⟨#[]⟩ : ByteArray), .string (⟨#[]⟩ : ByteArray)]) (t := 60) ?hr ?_; (case hd => rfl); (case hg => rfl); (case hr => first | (go_simp; done) | (go_simp; rfl)); intro gb607 hg w8 hbox hb; have n0_ := Aside0.mk (blk_below (g := gb605) (o := .cells #[.string a0_0, .string a0_1] 59 (0, 0)) bk hb); have n1_ := Aside0.mk (below_step bwS hb); have n2_ := Aside0.mk (hbox); have n3_ := Aside0.mk ((by rw [hg]; exact (below_size bwS) : w.heap.size ≤ gb607)); have n4_ := Aside0.mk ((by rw [hg]; exact (below_size bwS) : w.heap.size ≤ gb607)); have n5_ := Aside0.mk ((by rw [hg]; exact Nat.ne_of_lt (blk_lt (g := gb605) (o := .cells #[.string a0_0, .string a0_1] 59 (0, 0)) bk) : gb605 ≠ gb607)); have n6_ := Aside0.mk ((by rw [hg]; exact Nat.ne_of_gt (blk_lt (g := gb605) (o := .cells #[.string a0_0, .string a0_1] 59 (0, 0)) bk) : gb607 ≠ gb605)); clear BK605; clear HB; have BK605 := n0_; have HB := n1_; have BK607 := n2_; have GW607 := n3_; have GE607 := n4_; have NB605_607 := n5_; have NB607_605 := n6_; clear n0_ n1_ n2_ n3_ n4_ n5_ n6_; clear hb hbox hg; have hnb9 := NB607_605.out; have hnc9 := NB605_607.out; have hcz10_0 : w8.cell? ⟨gb607, 0, none⟩ = some (.string (⟨#[]⟩ : ByteArray)) := (blk_cell BK607.out 0).trans rfl; have hcz10_1 : w8.cell? ⟨gb607, 1, none⟩ = some (.string (⟨#[]⟩ : ByteArray)) := (blk_cell BK607.out 1).trans rfl; have hfz10_0 := blk_frozen BK607.out 0; have hfz10_1 := blk_frozen BK607.out 1))
  (try simp only [Act.put, List.setIfInBounds_toArray, List.set_cons_zero, List.set_cons_succ])
  go_cut [30] (fun v30 wc => ∃ (kq : Nat) (x30_3 : Bool), v30 = .bool x30_3 ∧ Aside0 (bulletinlaw15_HeadFolds.j0 kq x30_3 a0_0 a0_1 a0_0 a0_1 = some r) ∧ Aside0 (kq ≤ k) ∧ Aside0 (wc.heap[gb605]? = some (.cells #[.string a0_0, .string a0_1] 59 (0, 0))) ∧ Aside0 (wc.heap[gb607]? = some (.cells #[.string a0_0, .string a0_1] 60 (0, 0))) ∧ Aside0 (Below w.heap.size w wc))
  case first =>
   have H := HC4.out
   clear HC4
   by_cases c11 : (a0_0.size : Int) > 7
   ·rw [if_pos c11] at H
    have c11b0 : decide (7 < (a0_0.size : Int)) = true := decide_eq_true c11
    have c11b1 : decide (7 < a0_0.size) = true := decide_eq_true (by omega)
    clear c11
    (first | rw [c11b0] | (simp only [i64_w, i32_w]; rw [c11b0]) | skip)
    have H' := Aside0.mk H
    clear H
    have hnb12 := NB605_607.out
    have hnc12 := NB607_605.out
    have hcz13_0 : w8.cell? ⟨gb605, 0, none⟩ = some (.string a0_0) := (blk_cell BK605.out 0).trans rfl
    have hcz13_1 : w8.cell? ⟨gb605, 1, none⟩ = some (.string a0_1) := (blk_cell BK605.out 1).trans rfl
    have hfz13_0 := blk_frozen BK605.out 0
    have hfz13_1 := blk_frozen BK605.out 1
    go_wp2
    go_meet
    case rel => exact ⟨_, (true), cl, H', ⟨by first | omega | exact Nat.le_refl _⟩, ⟨by (with_reducible repeat (first | refine blk_drewN ?_ _ | refine blk_drew ?_ | refine blk_alloc ?_ _)); refine blk_far ?_ NB605_607.out _; (with_reducible repeat (first | refine blk_drewN ?_ _ | refine blk_drew ?_ | refine blk_alloc ?_ _)); refine blk_far ?_ NB605_607.out _; (with_reducible repeat (first | refine blk_drewN ?_ _ | refine blk_drew ?_ | refine blk_alloc ?_ _)); exact BK605.out⟩, ⟨by (with_reducible repeat (first | refine blk_drewN ?_ _ | refine blk_drew ?_ | refine blk_alloc ?_ _)); refine blk_put (cs := #[.string a0_0, .string (⟨#[]⟩ : ByteArray)]) ?_ 1 _ rfl; (with_reducible repeat (first | refine blk_drewN ?_ _ | refine blk_drew ?_ | refine blk_alloc ?_ _)); refine blk_put (cs := #[.string (⟨#[]⟩ : ByteArray), .string (⟨#[]⟩ : ByteArray)]) ?_ 0 _ rfl; (with_reducible repeat (first | refine blk_drewN ?_ _ | refine blk_drew ?_ | refine blk_alloc ?_ _)); exact BK607.out⟩, ⟨by repeat (first | (with_reducible first | exact HB.out | apply below_alloc | apply pw_below_drewN | apply below_drew1 | refine below_set ?_ GE605.out | refine below_set ?_ GE607.out) | exact HB.out)⟩⟩
   ·rw [if_neg c11] at H
    have c11b0 : decide (7 < (a0_0.size : Int)) = false := decide_eq_false c11
    have c11b1 : decide (7 < a0_0.size) = false := decide_eq_false (by omega)
    clear c11
    (first | rw [c11b0] | (simp only [i64_w, i32_w]; rw [c11b0]) | skip)
    by_cases c14 : (a0_1.size : Int) > 3000
    ·rw [if_pos c14] at H
     have c14b0 : decide (3000 < (a0_1.size : Int)) = true := decide_eq_true c14
     have c14b1 : decide (3000 < a0_1.size) = true := decide_eq_true (by omega)
     clear c14
     have H' := Aside0.mk H
     clear H
     have hnb15 := NB605_607.out
     have hnc15 := NB607_605.out
     have hcz16_0 : w8.cell? ⟨gb605, 0, none⟩ = some (.string a0_0) := (blk_cell BK605.out 0).trans rfl
     have hcz16_1 : w8.cell? ⟨gb605, 1, none⟩ = some (.string a0_1) := (blk_cell BK605.out 1).trans rfl
     have hfz16_0 := blk_frozen BK605.out 0
     have hfz16_1 := blk_frozen BK605.out 1
     go_wp2
     go_meet
     case rel => exact ⟨_, (true), cl, H', ⟨by first | omega | exact Nat.le_refl _⟩, ⟨by (with_reducible repeat (first | refine blk_drewN ?_ _ | refine blk_drew ?_ | refine blk_alloc ?_ _)); refine blk_far ?_ NB605_607.out _; (with_reducible repeat (first | refine blk_drewN ?_ _ | refine blk_drew ?_ | refine blk_alloc ?_ _)); refine blk_far ?_ NB605_607.out _; (with_reducible repeat (first | refine blk_drewN ?_ _ | refine blk_drew ?_ | refine blk_alloc ?_ _)); exact BK605.out⟩, ⟨by (with_reducible repeat (first | refine blk_drewN ?_ _ | refine blk_drew ?_ | refine blk_alloc ?_ _)); refine blk_put (cs := #[.string a0_0, .string (⟨#[]⟩ : ByteArray)]) ?_ 1 _ rfl; (with_reducible repeat (first | refine blk_drewN ?_ _ | refine blk_drew ?_ | refine blk_alloc ?_ _)); refine blk_put (cs := #[.string (⟨#[]⟩ : ByteArray), .string (⟨#[]⟩ : ByteArray)]) ?_ 0 _ rfl; (with_reducible repeat (first | refine blk_drewN ?_ _ | refine blk_drew ?_ | refine blk_alloc ?_ _)); exact BK607.out⟩, ⟨by repeat (first | (with_reducible first | exact HB.out | apply below_alloc | apply pw_below_drewN | apply below_drew1 | refine below_set ?_ GE605.out | refine below_set ?_ GE607.out) | exact HB.out)⟩⟩
    ·rw [if_neg c14] at H
     have c14b0 : decide (3000 < (a0_1.size : Int)) = false := decide_eq_false c14
     have c14b1 : decide (3000 < a0_1.size) = false := decide_eq_false (by omega)
     clear c14
     replace H := Option.bind_eq_some_iff.mp H
     obtain ⟨t608, A170, H⟩ := H
     replace H : (bulletinlaw15_HeadFolds.j0 k (!t608) a0_0 a0_1 a0_0 a0_1) = some r := H
     have A17 := Aside0.mk A170
     clear A170
     have H' := Aside0.mk H
     clear H
     have hnb18 := NB605_607.out
     have hnc18 := NB607_605.out
     have hcz19_0 : w8.cell? ⟨gb605, 0, none⟩ = some (.string a0_0) := (blk_cell BK605.out 0).trans rfl
     have hcz19_1 : w8.cell? ⟨gb605, 1, none⟩ = some (.string a0_1) := (blk_cell BK605.out 1).trans rfl
     have hfz19_0 := blk_frozen BK605.out 0
     have hfz19_1 := blk_frozen BK605.out 1
     have hcz20_0 : w8.cell? ⟨gb607, 0, none⟩ = some (.string (⟨#[]⟩ : ByteArray)) := (blk_cell BK607.out 0).trans rfl
     have hcz20_1 : w8.cell? ⟨gb607, 1, none⟩ = some (.string (⟨#[]⟩ : ByteArray)) := (blk_cell BK607.out 1).trans rfl
     have hfz20_0 := blk_frozen BK607.out 0
     have hfz20_1 := blk_frozen BK607.out 1
     go_wp2_with (first | (go_at_call 44; (with_reducible refine (head_Right.calls (hG := by first | exact hG | exact Glob.below hG (by first | exact HB.out | (repeat (first | (with_reducible first | exact HB.out | apply below_alloc | apply pw_below_drewN | apply below_drew1 | refine below_set ?_ GE605.out | refine below_set ?_ GE607.out) | exact HB.out))) | exact Glob.drawn hG (by repeat (first | exact Drawn0.refl _ | apply Drawn0.step))) a0_0 a0_1 t608 _ A17.out).mono ?_); rintro e w21 ⟨rfl, hb⟩; have n0_ := Aside0.mk (blk_below (g := gb605) (o := .cells #[.string a0_0, .string a0_1] 59 (0, 0)) (by (with_reducible repeat (first | refine blk_drewN ?_ _ | refine blk_drew ?_ | refine blk_alloc ?_ _)); refine blk_far ?_ NB605_607.out _; (with_reducible repeat (first | refine blk_drewN ?_ _ | refine blk_drew ?_ | refine blk_alloc ?_ _)); refine blk_far ?_ NB605_607.out _; (with_reducible repeat (first | refine blk_drewN ?_ _ | refine blk_drew ?_ | refine blk_alloc ?_ _)); exact BK605.out) hb); have n1_ := Aside0.mk (blk_below (g := gb607) (o := .cells #[.string a0_0, .string a0_1] 60 (0, 0)) (by (with_reducible repeat (first | refine blk_drewN ?_ _ | refine blk_drew ?_ | refine blk_alloc ?_ _)); refine blk_put (cs := #[.string a0_0, .string (⟨#[]⟩ : ByteArray)]) ?_ 1 _ rfl; (with_reducible repeat (first | refine blk_drewN ?_ _ | refine blk_drew ?_ | refine blk_alloc ?_ _)); refine blk_put (cs := #[.string (⟨#[]⟩ : ByteArray), .string (⟨#[]⟩ : ByteArray)]) ?_ 0 _ rfl; (with_reducible repeat (first | refine blk_drewN ?_ _ | refine blk_drew ?_ | refine blk_alloc ?_ _)); exact BK607.out) hb); have n2_ := Aside0.mk (below_step (by repeat (first | (with_reducible first | exact HB.out | apply below_alloc | apply pw_below_drewN | apply below_drew1 | refine below_set ?_ GE605.out | refine below_set ?_ GE607.out) | exact HB.out)) hb); clear BK605; clear BK607; clear HB; have BK605 := n0_; have BK607 := n1_; have HB := n2_; clear n0_ n1_ n2_; (try clear hb); (try clear hb2); (try clear hk); (try clear hi)))
     go_meet
     case rel => exact ⟨_, (!t608), cl, H', ⟨by first | omega | exact Nat.le_refl _⟩, ⟨by (with_reducible repeat (first | refine blk_drewN ?_ _ | refine blk_drew ?_ | refine blk_alloc ?_ _)); exact BK605.out⟩, ⟨by (with_reducible repeat (first | refine blk_drewN ?_ _ | refine blk_drew ?_ | refine blk_alloc ?_ _)); exact BK607.out⟩, ⟨by repeat (first | (with_reducible first | exact HB.out | apply below_alloc | apply pw_below_drewN | apply below_drew1 | refine below_set ?_ GE605.out | refine below_set ?_ GE607.out) | exact HB.out)⟩⟩
  case rest =>
   clear HC4
   try clear c1
   try clear p2
   try clear c3
   try clear c4
   try clear c9
   try clear c11
   try clear c11b0
   try clear c11b1
   try clear c12
   try clear c14
   try clear c14b0
   try clear c14b1
   try clear c15
   try clear c18
   try clear hcz10_0
   try clear hcz10_1
   try clear hcz13_0
   try clear hcz13_1
   try clear hcz16_0
   try clear hcz16_1
   try clear hcz19_0
   try clear hcz19_1
   try clear hcz20_0
   try clear hcz20_1
   try clear hcz7_0
   try clear hcz7_1
   try clear hfz10_0
   try clear hfz10_1
   try clear hfz13_0
   try clear hfz13_1
   try clear hfz16_0
   try clear hfz16_1
   try clear hfz19_0
   try clear hfz19_1
   try clear hfz20_0
   try clear hfz20_1
   try clear hfz7_0
   try clear hfz7_1
   obtain ⟨kq, x30_3, rfl, HA, HJ3, BK605, BK607, HB⟩ := hcut
   cases kq with
   | zero => exact absurd HA.out (by simp [bulletinlaw15_HeadFolds.j0])
   | succ kj3 =>
    have H := HA.out
    clear HA
    simp only [bulletinlaw15_HeadFolds.j0] at H
    by_cases c22 : x30_3 = true
    ·subst c22
     have H1 : (some true) = some r := by rw [if_pos rfl] at H; exact H
     clear H
     have H := H1
     clear H1
     obtain rfl := Option.some.inj H
     go_wp2
     go_ret
     exact ⟨by first | rfl | (simp [errW_none, errW_some] <;> rfl) | (simp [*, errW_none, errW_some] <;> rfl), by repeat (first | (with_reducible first | exact HB.out | apply below_alloc | apply pw_below_drewN | apply below_drew1 | refine below_set ?_ GE605.out | refine below_set ?_ GE607.out) | exact HB.out)⟩
    ·replace c22 := Bool.eq_false_iff.mpr c22
     subst c22
     have H1 : (bulletinlaw15_HeadFolds.l0 kj3 0 (a0_1.size : Int) 0 a0_0 a0_1 a0_0 a0_1) = some r := by rw [if_neg (show ¬ (false = true) by decide)] at H; exact H
     clear H
     have H := H1
     clear H1
     have H' := Aside0.mk H
     clear H
     have hnb23 := NB605_607.out
     have hnc23 := NB607_605.out
     have hcz24_0 : wc.cell? ⟨gb605, 0, none⟩ = some (.string a0_0) := (blk_cell BK605.out 0).trans rfl
     have hcz24_1 : wc.cell? ⟨gb605, 1, none⟩ = some (.string a0_1) := (blk_cell BK605.out 1).trans rfl
     have hfz24_0 := blk_frozen BK605.out 0
     have hfz24_1 := blk_frozen BK605.out 1
     go_wp2
     go_loopg [4, 34] kj3 (fun kq v4 v34 w' => ∃ (x4_2 : Int) (x34_2 : Int), v4 = .int .i64 x4_2 ∧ v34 = .int .i64 x34_2 ∧ Aside0 (bulletinlaw15_HeadFolds.l0 kq x4_2 (a0_1.size : Int) x34_2 a0_0 a0_1 a0_0 a0_1 = some r) ∧ Aside0 (kq ≤ kj3) ∧ Aside0 (w'.heap[gb605]? = some (.cells #[.string a0_0, .string a0_1] 59 (0, 0))) ∧ Aside0 (w'.heap[gb607]? = some (.cells #[.string a0_0, .string a0_1] 60 (0, 0))) ∧ Aside0 (Below w.heap.size w w'))
     case atStart => exact ⟨(0), (0), cl, cl, H', ⟨Nat.le_refl _⟩, ⟨by (with_reducible repeat (first | refine blk_drewN ?_ _ | refine blk_drew ?_ | refine blk_alloc ?_ _)); exact BK605.out⟩, ⟨by (with_reducible repeat (first | refine blk_drewN ?_ _ | refine blk_drew ?_ | refine blk_alloc ?_ _)); exact BK607.out⟩, ⟨by repeat (first | (with_reducible first | exact HB.out | apply below_alloc | apply pw_below_drewN | apply below_drew1 | refine below_set ?_ GE605.out | refine below_set ?_ GE607.out) | exact HB.out)⟩⟩
     case round =>
      clear H'
      try clear c1
      try clear c2
      try clear p2
      try clear c3
      try clear c4
      try clear c9
      try clear c11
      try clear c11b0
      try clear c11b1
      try clear c12
      try clear c14
      try clear c14b0
      try clear c14b1
      try clear c15
      try clear c18
      try clear c22
      try clear c23
      try clear hcz10_0
      try clear hcz10_1
      try clear hcz13_0
      try clear hcz13_1
      try clear hcz16_0
      try clear hcz16_1
      try clear hcz19_0
      try clear hcz19_1
      try clear hcz20_0
      try clear hcz20_1
      try clear hcz24_0
      try clear hcz24_1
      try clear hcz7_0
      try clear hcz7_1
      try clear hfz10_0
      try clear hfz10_1
      try clear hfz13_0
      try clear hfz13_1
      try clear hfz16_0
      try clear hfz16_1
      try clear hfz19_0
      try clear hfz19_1
      try clear hfz20_0
      try clear hfz20_1
      try clear hfz24_0
      try clear hfz24_1
      try clear hfz7_0
      try clear hfz7_1
      try clear p2
      obtain ⟨x4_2, x34_2, rfl, rfl, HA, HK2, BK605, BK607, HB⟩ := hrel
      cases gk with
      | zero => exact absurd HA.out (by simp [bulletinlaw15_HeadFolds.l0])
      | succ k2 =>
       have H := HA.out
       clear HA
       simp only [bulletinlaw15_HeadFolds.l0] at H
       by_cases c25 : x34_2 < (a0_1.size : Int)
       ·rw [if_pos c25] at H
        have c25b0 : decide (x34_2 < (a0_1.size : Int)) = true := decide_eq_true c25
        clear c25
        have HC26 := Aside0.mk H
        clear H
        go_upto_region 11 with (fail)
        go_cut [70] (fun v70 wc => ∃ (kq : Nat) (x70_25 : Bool), v70 = .bool x70_25 ∧ Aside0 (bulletinlaw15_HeadFolds.j2 kq (wrap64 (x4_2 + 1)) (a0_1.size : Int) x34_2 x70_25 a0_0 a0_1 a0_0 a0_1 = some r) ∧ Aside0 (kq ≤ k2) ∧ Aside0 (wc.heap[gb605]? = some (.cells #[.string a0_0, .string a0_1] 59 (0, 0))) ∧ Aside0 (wc.heap[gb607]? = some (.cells #[.string a0_0, .string a0_1] 60 (0, 0))) ∧ Aside0 (Below w.heap.size w wc))
        case first =>
         have H := HC26.out
         clear HC26
         by_cases c27 : x34_2 > 0
         ·rw [if_pos c27] at H
          have c27b0 : decide (0 < x34_2) = true := decide_eq_true c27
          clear c27
          (first | rw [c27b0] | (simp only [i64_w, i32_w]; rw [c27b0]) | skip)
          by_cases c28 : 0 ≤ x34_2
          ·rw [if_pos c28] at H
           have c28b0 : decide (0 ≤ x34_2) = true := decide_eq_true c28
           clear c28
           by_cases c29 : x34_2 < (a0_1.size : Int)
           ·rw [if_pos c29] at H
            have c29b0 : decide (x34_2 < (a0_1.size : Int)) = true := decide_eq_true c29
            clear c29
            by_cases c31 : (bt a0_1 x34_2) = 32
            ·rw [if_pos c31] at H
             have c31b0 : ((bt a0_1 x34_2) == 32) = true := beq_iff_eq.mpr c31
             have c31b1 : ((bt a0_1 x34_2) != 32) = false := bne_eq_false_iff_eq.mpr c31
             clear c31
             obtain ⟨ji32, hji32⟩ : ∃ j_ : Int, (wrap64 (x34_2 - 1)) = j_ := ⟨_, rfl⟩
             replace H : (if 0 ≤ (ji32) then (if (ji32) < (a0_1.size : Int) then (if (bt a0_1 (ji32)) = 32 then (bulletinlaw15_HeadFolds.j2 k2 (wrap64 (x4_2 + 1)) (a0_1.size : Int) x34_2 false a0_0 a0_1 a0_0 a0_1) else (bulletinlaw15_HeadFolds.j2 k2 (wrap64 (x4_2 + 1)) (a0_1.size : Int) x34_2 ((bt a0_1 (ji32)) != 9) a0_0 a0_1 a0_0 a0_1)) else (none)) else (none)) = some r := by first | (rw [hji32] at H; exact H) | (simp only [hji32] at H ⊢; exact H)
             have hji32w : (IntKind.i64.wrap (x34_2 - 1)) = ji32 := (i64_w _).trans hji32
             by_cases c33 : 0 ≤ (ji32)
             ·rw [if_pos c33] at H
              have c33b0 : decide (0 ≤ (ji32)) = true := decide_eq_true c33
              clear c33
              by_cases c34 : (ji32) < (a0_1.size : Int)
              ·rw [if_pos c34] at H
               have c34b0 : decide ((ji32) < (a0_1.size : Int)) = true := decide_eq_true c34
               clear c34
               by_cases c36 : (bt a0_1 (ji32)) = 32
               ·rw [if_pos c36] at H
                have c36b0 : ((bt a0_1 (ji32)) == 32) = true := beq_iff_eq.mpr c36
                have c36b1 : ((bt a0_1 (ji32)) != 32) = false := bne_eq_false_iff_eq.mpr c36
                clear c36
                have H' := Aside0.mk H
                clear H
                have hnb37 := NB605_607.out
                have hnc37 := NB607_605.out
                have hcz38_0 : wr.cell? ⟨gb605, 0, none⟩ = some (.string a0_0) := (blk_cell BK605.out 0).trans rfl
                have hcz38_1 : wr.cell? ⟨gb605, 1, none⟩ = some (.string a0_1) := (blk_cell BK605.out 1).trans rfl
                have hfz38_0 := blk_frozen BK605.out 0
                have hfz38_1 := blk_frozen BK605.out 1
                have p30 : 0 ≤ (x34_2 : Int) := od
                have q30 : x34_2 < (a0_1.size : Int) := od
                have hx30 := bt_at a0_1 x34_2
                replace p30 := eq_true p30
                replace q30 := eq_true q30
                have p35 : 0 ≤ ((ji32) : Int) := od
                have q35 : (ji32) < (a0_1.size : Int) := od
                have hx35 := bt_at a0_1 (ji32)
                replace p35 := eq_true p35
                replace q35 := eq_true q35
                go_wp2
                go_meet
                case rel => exact ⟨_, (false), cl, H', ⟨by have := HJ3.out; have := HK2.out; first | omega | exact Nat.le_refl _⟩, ⟨by (with_reducible repeat (first | refine blk_drewN ?_ _ | refine blk_drew ?_ | refine blk_alloc ?_ _)); exact BK605.out⟩, ⟨by (with_reducible repeat (first | refine blk_drewN ?_ _ | refine blk_drew ?_ | refine blk_alloc ?_ _)); exact BK607.out⟩, ⟨by repeat (first | (with_reducible first | exact HB.out | apply below_alloc | apply pw_below_drewN | apply below_drew1 | refine below_set ?_ GE605.out | refine below_set ?_ GE607.out) | exact HB.out)⟩⟩
               ·rw [if_neg c36] at H
                have c36b0 : ((bt a0_1 (ji32)) == 32) = false := beq_eq_false_iff_ne.mpr c36
                have c36b1 : ((bt a0_1 (ji32)) != 32) = true := bne_iff_ne.mpr c36
                have H' := Aside0.mk H
                clear H
                have hnb40 := NB605_607.out
                have hnc40 := NB607_605.out
                have hcz41_0 : wr.cell? ⟨gb605, 0, none⟩ = some (.string a0_0) := (blk_cell BK605.out 0).trans rfl
                have hcz41_1 : wr.cell? ⟨gb605, 1, none⟩ = some (.string a0_1) := (blk_cell BK605.out 1).trans rfl
                have hfz41_0 := blk_frozen BK605.out 0
                have hfz41_1 := blk_frozen BK605.out 1
                have p30 : 0 ≤ (x34_2 : Int) := od
                have q30 : x34_2 < (a0_1.size : Int) := od
                have hx30 := bt_at a0_1 x34_2
                replace p30 := eq_true p30
                replace q30 := eq_true q30
                have p35 : 0 ≤ ((ji32) : Int) := od
                have q35 : (ji32) < (a0_1.size : Int) := od
                have hx35 := bt_at a0_1 (ji32)
                replace p35 := eq_true p35
                replace q35 := eq_true q35
                have p39 : 0 ≤ ((ji32) : Int) := od
                have q39 : (ji32) < (a0_1.size : Int) := od
                have hx39 := bt_at a0_1 (ji32)
                replace p39 := eq_true p39
                replace q39 := eq_true q39
                go_wp2
                go_meet
                case rel => exact ⟨_, (((bt a0_1 (ji32)) != 9)), (by first | rfl | (simp; done) | (simp only [← hji32] <;> (first | rfl | simp)) | (simp [*]; done) | (simp [nil_ne]; done)), H', ⟨by have := HJ3.out; have := HK2.out; first | omega | exact Nat.le_refl _⟩, ⟨by (with_reducible repeat (first | refine blk_drewN ?_ _ | refine blk_drew ?_ | refine blk_alloc ?_ _)); exact BK605.out⟩, ⟨by (with_reducible repeat (first | refine blk_drewN ?_ _ | refine blk_drew ?_ | refine blk_alloc ?_ _)); exact BK607.out⟩, ⟨by repeat (first | (with_reducible first | exact HB.out | apply below_alloc | apply pw_below_drewN | apply below_drew1 | refine below_set ?_ GE605.out | refine below_set ?_ GE607.out) | exact HB.out)⟩⟩
              ·rw [if_neg c34] at H
               exact absurd H (by simp)
             ·rw [if_neg c33] at H
              exact absurd H (by simp)
            ·rw [if_neg c31] at H
             have c31b0 : ((bt a0_1 x34_2) == 32) = false := beq_eq_false_iff_ne.mpr c31
             have c31b1 : ((bt a0_1 x34_2) != 32) = true := bne_iff_ne.mpr c31
             by_cases c43 : (bt a0_1 x34_2) = 9
             ·rw [if_pos c43] at H
              have c43b0 : ((bt a0_1 x34_2) == 9) = true := beq_iff_eq.mpr c43
              have c43b1 : ((bt a0_1 x34_2) != 9) = false := bne_eq_false_iff_eq.mpr c43
              clear c43
              obtain ⟨ji44, hji44⟩ : ∃ j_ : Int, (wrap64 (x34_2 - 1)) = j_ := ⟨_, rfl⟩
              replace H : (if 0 ≤ (ji44) then (if (ji44) < (a0_1.size : Int) then (if (bt a0_1 (ji44)) = 32 then (bulletinlaw15_HeadFolds.j2 k2 (wrap64 (x4_2 + 1)) (a0_1.size : Int) x34_2 false a0_0 a0_1 a0_0 a0_1) else (bulletinlaw15_HeadFolds.j2 k2 (wrap64 (x4_2 + 1)) (a0_1.size : Int) x34_2 ((bt a0_1 (ji44)) != 9) a0_0 a0_1 a0_0 a0_1)) else (none)) else (none)) = some r := by first | (rw [hji44] at H; exact H) | (simp only [hji44] at H ⊢; exact H)
              have hji44w : (IntKind.i64.wrap (x34_2 - 1)) = ji44 := (i64_w _).trans hji44
              by_cases c45 : 0 ≤ (ji44)
              ·rw [if_pos c45] at H
               have c45b0 : decide (0 ≤ (ji44)) = true := decide_eq_true c45
               clear c45
               by_cases c46 : (ji44) < (a0_1.size : Int)
               ·rw [if_pos c46] at H
                have c46b0 : decide ((ji44) < (a0_1.size : Int)) = true := decide_eq_true c46
                clear c46
                by_cases c48 : (bt a0_1 (ji44)) = 32
                ·rw [if_pos c48] at H
                 have c48b0 : ((bt a0_1 (ji44)) == 32) = true := beq_iff_eq.mpr c48
                 have c48b1 : ((bt a0_1 (ji44)) != 32) = false := bne_eq_false_iff_eq.mpr c48
                 clear c48
                 have H' := Aside0.mk H
                 clear H
                 have hnb49 := NB605_607.out
                 have hnc49 := NB607_605.out
                 have hcz50_0 : wr.cell? ⟨gb605, 0, none⟩ = some (.string a0_0) := (blk_cell BK605.out 0).trans rfl
                 have hcz50_1 : wr.cell? ⟨gb605, 1, none⟩ = some (.string a0_1) := (blk_cell BK605.out 1).trans rfl
                 have hfz50_0 := blk_frozen BK605.out 0
                 have hfz50_1 := blk_frozen BK605.out 1
                 have p30 : 0 ≤ (x34_2 : Int) := od
                 have q30 : x34_2 < (a0_1.size : Int) := od
                 have hx30 := bt_at a0_1 x34_2
                 replace p30 := eq_true p30
                 replace q30 := eq_true q30
                 have p42 : 0 ≤ (x34_2 : Int) := od
                 have q42 : x34_2 < (a0_1.size : Int) := od
                 have hx42 := bt_at a0_1 x34_2
                 replace p42 := eq_true p42
                 replace q42 := eq_true q42
                 have p47 : 0 ≤ ((ji44) : Int) := od
                 have q47 : (ji44) < (a0_1.size : Int) := od
                 have hx47 := bt_at a0_1 (ji44)
                 replace p47 := eq_true p47
                 replace q47 := eq_true q47
                 go_wp2
                 go_meet
                 case rel => exact ⟨_, (false), cl, H', ⟨by have := HJ3.out; have := HK2.out; first | omega | exact Nat.le_refl _⟩, ⟨by (with_reducible repeat (first | refine blk_drewN ?_ _ | refine blk_drew ?_ | refine blk_alloc ?_ _)); exact BK605.out⟩, ⟨by (with_reducible repeat (first | refine blk_drewN ?_ _ | refine blk_drew ?_ | refine blk_alloc ?_ _)); exact BK607.out⟩, ⟨by repeat (first | (with_reducible first | exact HB.out | apply below_alloc | apply pw_below_drewN | apply below_drew1 | refine below_set ?_ GE605.out | refine below_set ?_ GE607.out) | exact HB.out)⟩⟩
                ·rw [if_neg c48] at H
                 have c48b0 : ((bt a0_1 (ji44)) == 32) = false := beq_eq_false_iff_ne.mpr c48
                 have c48b1 : ((bt a0_1 (ji44)) != 32) = true := bne_iff_ne.mpr c48
                 have H' := Aside0.mk H
                 clear H
                 have hnb52 := NB605_607.out
                 have hnc52 := NB607_605.out
                 have hcz53_0 : wr.cell? ⟨gb605, 0, none⟩ = some (.string a0_0) := (blk_cell BK605.out 0).trans rfl
                 have hcz53_1 : wr.cell? ⟨gb605, 1, none⟩ = some (.string a0_1) := (blk_cell BK605.out 1).trans rfl
                 have hfz53_0 := blk_frozen BK605.out 0
                 have hfz53_1 := blk_frozen BK605.out 1
                 have p30 : 0 ≤ (x34_2 : Int) := od
                 have q30 : x34_2 < (a0_1.size : Int) := od
                 have hx30 := bt_at a0_1 x34_2
                 replace p30 := eq_true p30
                 replace q30 := eq_true q30
                 have p42 : 0 ≤ (x34_2 : Int) := od
                 have q42 : x34_2 < (a0_1.size : Int) := od
                 have hx42 := bt_at a0_1 x34_2
                 replace p42 := eq_true p42
                 replace q42 := eq_true q42
                 have p47 : 0 ≤ ((ji44) : Int) := od
                 have q47 : (ji44) < (a0_1.size : Int) := od
                 have hx47 := bt_at a0_1 (ji44)
                 replace p47 := eq_true p47
                 replace q47 := eq_true q47
                 have p51 : 0 ≤ ((ji44) : Int) := od
                 have q51 : (ji44) < (a0_1.size : Int) := od
                 have hx51 := bt_at a0_1 (ji44)
                 replace p51 := eq_true p51
                 replace q51 := eq_true q51
                 go_wp2
                 go_meet
                 case rel => exact ⟨_, (((bt a0_1 (ji44)) != 9)), (by first | rfl | (simp; done) | (simp only [← hji44] <;> (first | rfl | simp)) | (simp [*]; done) | (simp [nil_ne]; done)), H', ⟨by have := HJ3.out; have := HK2.out; first | omega | exact Nat.le_refl _⟩, ⟨by (with_reducible repeat (first | refine blk_drewN ?_ _ | refine blk_drew ?_ | refine blk_alloc ?_ _)); exact BK605.out⟩, ⟨by (with_reducible repeat (first | refine blk_drewN ?_ _ | refine blk_drew ?_ | refine blk_alloc ?_ _)); exact BK607.out⟩, ⟨by repeat (first | (with_reducible first | exact HB.out | apply below_alloc | apply pw_below_drewN | apply below_drew1 | refine below_set ?_ GE605.out | refine below_set ?_ GE607.out) | exact HB.out)⟩⟩
               ·rw [if_neg c46] at H
                exact absurd H (by simp)
              ·rw [if_neg c45] at H
               exact absurd H (by simp)
             ·rw [if_neg c43] at H
              have c43b0 : ((bt a0_1 x34_2) == 9) = false := beq_eq_false_iff_ne.mpr c43
              have c43b1 : ((bt a0_1 x34_2) != 9) = true := bne_iff_ne.mpr c43
              have H' := Aside0.mk H
              clear H
              have hnb54 := NB605_607.out
              have hnc54 := NB607_605.out
              have hcz55_0 : wr.cell? ⟨gb605, 0, none⟩ = some (.string a0_0) := (blk_cell BK605.out 0).trans rfl
              have hcz55_1 : wr.cell? ⟨gb605, 1, none⟩ = some (.string a0_1) := (blk_cell BK605.out 1).trans rfl
              have hfz55_0 := blk_frozen BK605.out 0
              have hfz55_1 := blk_frozen BK605.out 1
              have p30 : 0 ≤ (x34_2 : Int) := od
              have q30 : x34_2 < (a0_1.size : Int) := od
              have hx30 := bt_at a0_1 x34_2
              replace p30 := eq_true p30
              replace q30 := eq_true q30
              have p42 : 0 ≤ (x34_2 : Int) := od
              have q42 : x34_2 < (a0_1.size : Int) := od
              have hx42 := bt_at a0_1 x34_2
              replace p42 := eq_true p42
              replace q42 := eq_true q42
              go_wp2
              go_meet
              case rel => exact ⟨_, (false), cl, H', ⟨by have := HJ3.out; have := HK2.out; first | omega | exact Nat.le_refl _⟩, ⟨by (with_reducible repeat (first | refine blk_drewN ?_ _ | refine blk_drew ?_ | refine blk_alloc ?_ _)); exact BK605.out⟩, ⟨by (with_reducible repeat (first | refine blk_drewN ?_ _ | refine blk_drew ?_ | refine blk_alloc ?_ _)); exact BK607.out⟩, ⟨by repeat (first | (with_reducible first | exact HB.out | apply below_alloc | apply pw_below_drewN | apply below_drew1 | refine below_set ?_ GE605.out | refine below_set ?_ GE607.out) | exact HB.out)⟩⟩
           ·rw [if_neg c29] at H
            exact absurd H (by simp)
          ·rw [if_neg c28] at H
           exact absurd H (by simp)
         ·rw [if_neg c27] at H
          have c27b0 : decide (0 < x34_2) = false := decide_eq_false c27
          clear c27
          (first | rw [c27b0] | (simp only [i64_w, i32_w]; rw [c27b0]) | skip)
          have H' := Aside0.mk H
          clear H
          go_wp2
          go_meet
          case rel => exact ⟨_, (false), cl, H', ⟨by have := HJ3.out; have := HK2.out; first | omega | exact Nat.le_refl _⟩, ⟨by (with_reducible repeat (first | refine blk_drewN ?_ _ | refine blk_drew ?_ | refine blk_alloc ?_ _)); exact BK605.out⟩, ⟨by (with_reducible repeat (first | refine blk_drewN ?_ _ | refine blk_drew ?_ | refine blk_alloc ?_ _)); exact BK607.out⟩, ⟨by repeat (first | (with_reducible first | exact HB.out | apply below_alloc | apply pw_below_drewN | apply below_drew1 | refine below_set ?_ GE605.out | refine below_set ?_ GE607.out) | exact HB.out)⟩⟩
        case rest =>
         clear HC26
         try clear c1
         try clear c2
         try clear p2
         try clear c3
         try clear p3
         try clear q3
         try clear hx3
         try clear c4
         try clear p4
         try clear q4
         try clear hx4
         try clear c5
         try clear p5
         try clear q5
         try clear hx5
         try clear p6
         try clear c9
         try clear c11
         try clear c11b0
         try clear c11b1
         try clear c12
         try clear c14
         try clear c14b0
         try clear c14b1
         try clear c15
         try clear c18
         try clear c22
         try clear c23
         try clear c25
         try clear c25b0
         try clear c27
         try clear c27b0
         try clear c28
         try clear c28b0
         try clear c29
         try clear c29b0
         try clear p30
         try clear q30
         try clear hx30
         try clear c31
         try clear c31b0
         try clear c31b1
         try clear c33
         try clear c33b0
         try clear c34
         try clear c34b0
         try clear p35
         try clear q35
         try clear hx35
         try clear c36
         try clear c36b0
         try clear c36b1
         try clear c37
         try clear p39
         try clear q39
         try clear hx39
         try clear c40
         try clear p42
         try clear q42
         try clear hx42
         try clear c43
         try clear c43b0
         try clear c43b1
         try clear c45
         try clear c45b0
         try clear c46
         try clear c46b0
         try clear p47
         try clear q47
         try clear hx47
         try clear c48
         try clear c48b0
         try clear c48b1
         try clear c49
         try clear p51
         try clear q51
         try clear hx51
         try clear c52
         try clear c54
         try clear hcz10_0
         try clear hcz10_1
         try clear hcz13_0
         try clear hcz13_1
         try clear hcz16_0
         try clear hcz16_1
         try clear hcz19_0
         try clear hcz19_1
         try clear hcz20_0
         try clear hcz20_1
         try clear hcz24_0
         try clear hcz24_1
         try clear hcz38_0
         try clear hcz38_1
         try clear hcz41_0
         try clear hcz41_1
         try clear hcz50_0
         try clear hcz50_1
         try clear hcz53_0
         try clear hcz53_1
         try clear hcz55_0
         try clear hcz55_1
         try clear hcz7_0
         try clear hcz7_1
         try clear hfz10_0
         try clear hfz10_1
         try clear hfz13_0
         try clear hfz13_1
         try clear hfz16_0
         try clear hfz16_1
         try clear hfz19_0
         try clear hfz19_1
         try clear hfz20_0
         try clear hfz20_1
         try clear hfz24_0
         try clear hfz24_1
         try clear hfz38_0
         try clear hfz38_1
         try clear hfz41_0
         try clear hfz41_1
         try clear hfz50_0
         try clear hfz50_1
         try clear hfz53_0
         try clear hfz53_1
         try clear hfz55_0
         try clear hfz55_1
         try clear hfz7_0
         try clear hfz7_1
         try clear p2
         try clear p30
         try clear p35
         try clear p39
         try clear p42
         try clear p47
         try clear p51
         try clear q30
         try clear q35
         try clear q39
         try clear q42
         try clear q47
         try clear q51
         obtain ⟨kq, x70_25, rfl, HA, HJ25, BK605, BK607, HB⟩ := hcut
         cases kq with
         | zero => exact absurd HA.out (by simp [bulletinlaw15_HeadFolds.j2])
         | succ kj25 =>
          have H := HA.out
          clear HA
          simp only [bulletinlaw15_HeadFolds.j2] at H
          by_cases c56 : x70_25 = true
          ·subst c56
           have H1 : (if 1 > 69 then (some true) else (bulletinlaw15_HeadFolds.l0 kj25 1 (a0_1.size : Int) (wrap64 (x34_2 + 1)) a0_0 a0_1 a0_0 a0_1)) = some r := by rw [if_pos rfl] at H; exact H
           clear H
           have H := H1
           clear H1
           by_cases c57 : 1 > 69
           ·exact absurd c57 (by decide)
           ·rw [if_neg c57] at H
            have c57b0 : decide (69 < 1) = false := decide_eq_false c57
            clear c57
            have H' := Aside0.mk H
            clear H
            go_wp2
            go_roundg kj25
            case measure => have := HJ3.out; have := HK2.out; have := HJ25.out; omega
            case rel => exact ⟨(1), (wrap64 (x34_2 + 1)), cl, cl, H', ⟨by have := HJ3.out; have := HK2.out; have := HJ25.out; omega⟩, ⟨by (with_reducible repeat (first | refine blk_drewN ?_ _ | refine blk_drew ?_ | refine blk_alloc ?_ _)); exact BK605.out⟩, ⟨by (with_reducible repeat (first | refine blk_drewN ?_ _ | refine blk_drew ?_ | refine blk_alloc ?_ _)); exact BK607.out⟩, ⟨by repeat (first | (with_reducible first | exact HB.out | apply below_alloc | apply pw_below_drewN | apply below_drew1 | refine below_set ?_ GE605.out | refine below_set ?_ GE607.out) | exact HB.out)⟩⟩
          ·replace c56 := Bool.eq_false_iff.mpr c56
           subst c56
           have H1 : (if (wrap64 (x4_2 + 1)) > 69 then (some true) else (bulletinlaw15_HeadFolds.l0 kj25 (wrap64 (x4_2 + 1)) (a0_1.size : Int) (wrap64 (x34_2 + 1)) a0_0 a0_1 a0_0 a0_1)) = some r := by rw [if_neg (show ¬ (false = true) by decide)] at H; exact H
           clear H
           have H := H1
           clear H1
           by_cases c58 : (wrap64 (x4_2 + 1)) > 69
           ·rw [if_pos c58] at H
            have c58b0 : decide (69 < (wrap64 (x4_2 + 1))) = true := decide_eq_true c58
            clear c58
            obtain rfl := Option.some.inj H
            go_wp2
            go_ret
            exact ⟨by first | rfl | (simp [errW_none, errW_some] <;> rfl) | (simp [*, errW_none, errW_some] <;> rfl), by repeat (first | (with_reducible first | exact HB.out | apply below_alloc | apply pw_below_drewN | apply below_drew1 | refine below_set ?_ GE605.out | refine below_set ?_ GE607.out) | exact HB.out)⟩
           ·rw [if_neg c58] at H
            have c58b0 : decide (69 < (wrap64 (x4_2 + 1))) = false := decide_eq_false c58
            clear c58
            have H' := Aside0.mk H
            clear H
            go_wp2
            go_roundg kj25
            case measure => have := HJ3.out; have := HK2.out; have := HJ25.out; omega
            case rel => exact ⟨((wrap64 (x4_2 + 1))), (wrap64 (x34_2 + 1)), cl, cl, H', ⟨by have := HJ3.out; have := HK2.out; have := HJ25.out; omega⟩, ⟨by (with_reducible repeat (first | refine blk_drewN ?_ _ | refine blk_drew ?_ | refine blk_alloc ?_ _)); exact BK605.out⟩, ⟨by (with_reducible repeat (first | refine blk_drewN ?_ _ | refine blk_drew ?_ | refine blk_alloc ?_ _)); exact BK607.out⟩, ⟨by repeat (first | (with_reducible first | exact HB.out | apply below_alloc | apply pw_below_drewN | apply below_drew1 | refine below_set ?_ GE605.out | refine below_set ?_ GE607.out) | exact HB.out)⟩⟩
       ·rw [if_neg c25] at H
        have c25b0 : decide (x34_2 < (a0_1.size : Int)) = false := decide_eq_false c25
        clear c25
        replace H := Option.bind_eq_some_iff.mp H
        obtain ⟨t609, A590, H⟩ := H
        replace H : (bulletinlaw15_HeadFolds.l1 k2 t609 0 0) = some r := H
        have A59 := Aside0.mk A590
        clear A590
        have H' := Aside0.mk H
        clear H
        have hnb60 := NB607_605.out
        have hnc60 := NB605_607.out
        have hcz61_0 : wr.cell? ⟨gb607, 0, none⟩ = some (.string a0_0) := (blk_cell BK607.out 0).trans rfl
        have hcz61_1 : wr.cell? ⟨gb607, 1, none⟩ = some (.string a0_1) := (blk_cell BK607.out 1).trans rfl
        have hfz61_0 := blk_frozen BK607.out 0
        have hfz61_1 := blk_frozen BK607.out 1
        go_wp2_with (first | ((with_reducible refine gate_callee (f := 45) rfl ?_); refine goesL_ (some 75) rfl rfl Tryd.func45 (by kernel_rfl) rfl #[.agg #[.string a0_0, .string a0_1]] rfl am ?_; (with_reducible refine (head_Show.calls a0_0 a0_1 t609 _ A59.out).mono ?_); rintro e w62 ⟨rfl, hb⟩; refine ⟨_, rfl, ?_⟩; have n0_ := Aside0.mk (blk_below (g := gb605) (o := .cells #[.string a0_0, .string a0_1] 59 (0, 0)) bk hb); have n1_ := Aside0.mk (blk_below (g := gb607) (o := .cells #[.string a0_0, .string a0_1] 60 (0, 0)) bk hb); have n2_ := Aside0.mk (below_step (by repeat (first | (with_reducible first | exact HB.out | apply below_alloc | apply pw_below_drewN | apply below_drew1 | refine below_set ?_ GE605.out | refine below_set ?_ GE607.out) | exact HB.out)) hb); clear BK605; clear BK607; clear HB; have BK605 := n0_; have BK607 := n1_; have HB := n2_; clear n0_ n1_ n2_; (try clear hb); (try clear hb2); (try clear hk); (try clear hi)))
        go_loopg [7, 8] k2 (fun kq v7 v8 w' => ∃ (x7_3 : Int) (x8_3 : Int), v7 = .int .i64 x7_3 ∧ v8 = .int .i64 x8_3 ∧ Aside0 (bulletinlaw15_HeadFolds.l1 kq t609 x7_3 x8_3 = some r) ∧ Aside0 (kq ≤ k2) ∧ Aside0 (w'.heap[gb605]? = some (.cells #[.string a0_0, .string a0_1] 59 (0, 0))) ∧ Aside0 (w'.heap[gb607]? = some (.cells #[.string a0_0, .string a0_1] 60 (0, 0))) ∧ Aside0 (Below w.heap.size w w'))
        case atStart => exact ⟨(0), (0), cl, cl, H', ⟨Nat.le_refl _⟩, ⟨by (with_reducible repeat (first | refine blk_drewN ?_ _ | refine blk_drew ?_ | refine blk_alloc ?_ _)); exact BK605.out⟩, ⟨by (with_reducible repeat (first | refine blk_drewN ?_ _ | refine blk_drew ?_ | refine blk_alloc ?_ _)); exact BK607.out⟩, ⟨by repeat (first | (with_reducible first | exact HB.out | apply below_alloc | apply pw_below_drewN | apply below_drew1 | refine below_set ?_ GE605.out | refine below_set ?_ GE607.out) | exact HB.out)⟩⟩
        case round =>
         clear H'
         try clear c1
         try clear c2
         try clear p2
         try clear c3
         try clear p3
         try clear q3
         try clear hx3
         try clear c4
         try clear p4
         try clear q4
         try clear hx4
         try clear c5
         try clear p5
         try clear q5
         try clear hx5
         try clear c6
         try clear p6
         try clear c9
         try clear c11
         try clear c11b0
         try clear c11b1
         try clear c12
         try clear c14
         try clear c14b0
         try clear c14b1
         try clear c15
         try clear c18
         try clear c22
         try clear c23
         try clear c25
         try clear c25b0
         try clear c27
         try clear c27b0
         try clear c28
         try clear c28b0
         try clear c29
         try clear c29b0
         try clear p30
         try clear q30
         try clear hx30
         try clear c31
         try clear c31b0
         try clear c31b1
         try clear c33
         try clear c33b0
         try clear c34
         try clear c34b0
         try clear p35
         try clear q35
         try clear hx35
         try clear c36
         try clear c36b0
         try clear c36b1
         try clear c37
         try clear p39
         try clear q39
         try clear hx39
         try clear c40
         try clear p42
         try clear q42
         try clear hx42
         try clear c43
         try clear c43b0
         try clear c43b1
         try clear c45
         try clear c45b0
         try clear c46
         try clear c46b0
         try clear p47
         try clear q47
         try clear hx47
         try clear c48
         try clear c48b0
         try clear c48b1
         try clear c49
         try clear p51
         try clear q51
         try clear hx51
         try clear c52
         try clear c54
         try clear c56
         try clear c57
         try clear c57b0
         try clear c58
         try clear c58b0
         try clear c60
         try clear hcz10_0
         try clear hcz10_1
         try clear hcz13_0
         try clear hcz13_1
         try clear hcz16_0
         try clear hcz16_1
         try clear hcz19_0
         try clear hcz19_1
         try clear hcz20_0
         try clear hcz20_1
         try clear hcz24_0
         try clear hcz24_1
         try clear hcz38_0
         try clear hcz38_1
         try clear hcz41_0
         try clear hcz41_1
         try clear hcz50_0
         try clear hcz50_1
         try clear hcz53_0
         try clear hcz53_1
         try clear hcz55_0
         try clear hcz55_1
         try clear hcz61_0
         try clear hcz61_1
         try clear hcz7_0
         try clear hcz7_1
         try clear hfz10_0
         try clear hfz10_1
         try clear hfz13_0
         try clear hfz13_1
         try clear hfz16_0
         try clear hfz16_1
         try clear hfz19_0
         try clear hfz19_1
         try clear hfz20_0
         try clear hfz20_1
         try clear hfz24_0
         try clear hfz24_1
         try clear hfz38_0
         try clear hfz38_1
         try clear hfz41_0
         try clear hfz41_1
         try clear hfz50_0
         try clear hfz50_1
         try clear hfz53_0
         try clear hfz53_1
         try clear hfz55_0
         try clear hfz55_1
         try clear hfz61_0
         try clear hfz61_1
         try clear hfz7_0
         try clear hfz7_1
         try clear p2
         try clear p3
         try clear p30
         try clear p35
         try clear p39
         try clear p4
         try clear p42
         try clear p47
         try clear p5
         try clear p51
         try clear p6
         try clear q3
         try clear q30
         try clear q35
         try clear q39
         try clear q4
         try clear q42
         try clear q47
         try clear q5
         try clear q51
         obtain ⟨x7_3, x8_3, rfl, rfl, HA, HK3, BK605, BK607, HB⟩ := hrel
         cases gk with
         | zero => exact absurd HA.out (by simp [bulletinlaw15_HeadFolds.l1])
         | succ k3 =>
          have H := HA.out
          clear HA
          simp only [bulletinlaw15_HeadFolds.l1] at H
          by_cases c63 : (wrap64 (x8_3 + 1)) < (t609.size : Int)
          ·rw [if_pos c63] at H
           have c63b0 : decide ((wrap64 (x8_3 + 1)) < (t609.size : Int)) = true := decide_eq_true c63
           clear c63
           by_cases c64 : 0 ≤ x8_3
           ·rw [if_pos c64] at H
            have c64b0 : decide (0 ≤ x8_3) = true := decide_eq_true c64
            clear c64
            by_cases c65 : x8_3 < (t609.size : Int)
            ·rw [if_pos c65] at H
             have c65b0 : decide (x8_3 < (t609.size : Int)) = true := decide_eq_true c65
             clear c65
             by_cases c67 : (bt t609 x8_3) = 13
             ·rw [if_pos c67] at H
              have c67b0 : ((bt t609 x8_3) == 13) = true := beq_iff_eq.mpr c67
              have c67b1 : ((bt t609 x8_3) != 13) = false := bne_eq_false_iff_eq.mpr c67
              clear c67
              by_cases c68 : (wrap64 (x8_3 - x7_3)) > 78
              ·rw [if_pos c68] at H
               have c68b0 : decide (78 < (wrap64 (x8_3 - x7_3))) = true := decide_eq_true c68
               clear c68
               obtain rfl := Option.some.inj H
               have p66 : 0 ≤ (x8_3 : Int) := od
               have q66 : x8_3 < (t609.size : Int) := od
               have hx66 := bt_at t609 x8_3
               replace p66 := eq_true p66
               replace q66 := eq_true q66
               go_wp2
               go_ret
               exact ⟨by first | rfl | (simp [errW_none, errW_some] <;> rfl) | (simp [*, errW_none, errW_some] <;> rfl), by repeat (first | (with_reducible first | exact HB.out | apply below_alloc | apply pw_below_drewN | apply below_drew1 | refine below_set ?_ GE605.out | refine below_set ?_ GE607.out) | exact HB.out)⟩
              ·rw [if_neg c68] at H
               have c68b0 : decide (78 < (wrap64 (x8_3 - x7_3))) = false := decide_eq_false c68
               clear c68
               by_cases c69 : x7_3 > 0
               ·rw [if_pos c69] at H
                have c69b0 : decide (0 < x7_3) = true := decide_eq_true c69
                clear c69
                by_cases c70 : 0 ≤ x7_3
                ·rw [if_pos c70] at H
                 have c70b0 : decide (0 ≤ x7_3) = true := decide_eq_true c70
                 clear c70
                 by_cases c71 : x7_3 < (t609.size : Int)
                 ·rw [if_pos c71] at H
                  have c71b0 : decide (x7_3 < (t609.size : Int)) = true := decide_eq_true c71
                  clear c71
                  by_cases c73 : (bt t609 x7_3) = 32
                  ·rw [if_pos c73] at H
                   have c73b0 : ((bt t609 x7_3) == 32) = true := beq_iff_eq.mpr c73
                   have c73b1 : ((bt t609 x7_3) != 32) = false := bne_eq_false_iff_eq.mpr c73
                   clear c73
                   have H' := Aside0.mk H
                   clear H
                   have p66 : 0 ≤ (x8_3 : Int) := od
                   have q66 : x8_3 < (t609.size : Int) := od
                   have hx66 := bt_at t609 x8_3
                   replace p66 := eq_true p66
                   replace q66 := eq_true q66
                   have p72 : 0 ≤ (x7_3 : Int) := od
                   have q72 : x7_3 < (t609.size : Int) := od
                   have hx72 := bt_at t609 x7_3
                   replace p72 := eq_true p72
                   replace q72 := eq_true q72
                   go_wp2
                   go_roundg k3
                   case measure => have := HJ3.out; have := HK2.out; have := HK3.out; omega
                   case rel => exact ⟨(wrap64 (x8_3 + 2)), (wrap64 (x8_3 + 1)), cl, cl, H', ⟨by have := HJ3.out; have := HK2.out; have := HK3.out; omega⟩, ⟨by (with_reducible repeat (first | refine blk_drewN ?_ _ | refine blk_drew ?_ | refine blk_alloc ?_ _)); exact BK605.out⟩, ⟨by (with_reducible repeat (first | refine blk_drewN ?_ _ | refine blk_drew ?_ | refine blk_alloc ?_ _)); exact BK607.out⟩, ⟨by repeat (first | (with_reducible first | exact HB.out | apply below_alloc | apply pw_below_drewN | apply below_drew1 | refine below_set ?_ GE605.out | refine below_set ?_ GE607.out) | exact HB.out)⟩⟩
                  ·rw [if_neg c73] at H
                   have c73b0 : ((bt t609 x7_3) == 32) = false := beq_eq_false_iff_ne.mpr c73
                   have c73b1 : ((bt t609 x7_3) != 32) = true := bne_iff_ne.mpr c73
                   by_cases c75 : (bt t609 x7_3) = 9
                   ·rw [if_pos c75] at H
                    have c75b0 : ((bt t609 x7_3) == 9) = true := beq_iff_eq.mpr c75
                    have c75b1 : ((bt t609 x7_3) != 9) = false := bne_eq_false_iff_eq.mpr c75
                    clear c75
                    have H' := Aside0.mk H
                    clear H
                    have p66 : 0 ≤ (x8_3 : Int) := od
                    have q66 : x8_3 < (t609.size : Int) := od
                    have hx66 := bt_at t609 x8_3
                    replace p66 := eq_true p66
                    replace q66 := eq_true q66
                    have p72 : 0 ≤ (x7_3 : Int) := od
                    have q72 : x7_3 < (t609.size : Int) := od
                    have hx72 := bt_at t609 x7_3
                    replace p72 := eq_true p72
                    replace q72 := eq_true q72
                    have p74 : 0 ≤ (x7_3 : Int) := od
                    have q74 : x7_3 < (t609.size : Int) := od
                    have hx74 := bt_at t609 x7_3
                    replace p74 := eq_true p74
                    replace q74 := eq_true q74
                    go_wp2
                    go_roundg k3
                    case measure => have := HJ3.out; have := HK2.out; have := HK3.out; omega
                    case rel => exact ⟨(wrap64 (x8_3 + 2)), (wrap64 (x8_3 + 1)), cl, cl, H', ⟨by have := HJ3.out; have := HK2.out; have := HK3.out; omega⟩, ⟨by (with_reducible repeat (first | refine blk_drewN ?_ _ | refine blk_drew ?_ | refine blk_alloc ?_ _)); exact BK605.out⟩, ⟨by (with_reducible repeat (first | refine blk_drewN ?_ _ | refine blk_drew ?_ | refine blk_alloc ?_ _)); exact BK607.out⟩, ⟨by repeat (first | (with_reducible first | exact HB.out | apply below_alloc | apply pw_below_drewN | apply below_drew1 | refine below_set ?_ GE605.out | refine below_set ?_ GE607.out) | exact HB.out)⟩⟩
                   ·rw [if_neg c75] at H
                    have c75b0 : ((bt t609 x7_3) == 9) = false := beq_eq_false_iff_ne.mpr c75
                    have c75b1 : ((bt t609 x7_3) != 9) = true := bne_iff_ne.mpr c75
                    obtain rfl := Option.some.inj H
                    have p66 : 0 ≤ (x8_3 : Int) := od
                    have q66 : x8_3 < (t609.size : Int) := od
                    have hx66 := bt_at t609 x8_3
                    replace p66 := eq_true p66
                    replace q66 := eq_true q66
                    have p72 : 0 ≤ (x7_3 : Int) := od
                    have q72 : x7_3 < (t609.size : Int) := od
                    have hx72 := bt_at t609 x7_3
                    replace p72 := eq_true p72
                    replace q72 := eq_true q72
                    have p74 : 0 ≤ (x7_3 : Int) := od
                    have q74 : x7_3 < (t609.size : Int) := od
                    have hx74 := bt_at t609 x7_3
                    replace p74 := eq_true p74
                    replace q74 := eq_true q74
                    go_wp2
                    go_ret
                    exact ⟨by first | rfl | (simp [errW_none, errW_some] <;> rfl) | (simp [*, errW_none, errW_some] <;> rfl), by repeat (first | (with_reducible first | exact HB.out | apply below_alloc | apply pw_below_drewN | apply below_drew1 | refine below_set ?_ GE605.out | refine below_set ?_ GE607.out) | exact HB.out)⟩
                 ·rw [if_neg c71] at H
                  exact absurd H (by simp)
                ·rw [if_neg c70] at H
                 exact absurd H (by simp)
               ·rw [if_neg c69] at H
                have c69b0 : decide (0 < x7_3) = false := decide_eq_false c69
                clear c69
                have H' := Aside0.mk H
                clear H
                have p66 : 0 ≤ (x8_3 : Int) := od
                have q66 : x8_3 < (t609.size : Int) := od
                have hx66 := bt_at t609 x8_3
                replace p66 := eq_true p66
                replace q66 := eq_true q66
                go_wp2
                go_roundg k3
                case measure => have := HJ3.out; have := HK2.out; have := HK3.out; omega
                case rel => exact ⟨(wrap64 (x8_3 + 2)), (wrap64 (x8_3 + 1)), cl, cl, H', ⟨by have := HJ3.out; have := HK2.out; have := HK3.out; omega⟩, ⟨by (with_reducible repeat (first | refine blk_drewN ?_ _ | refine blk_drew ?_ | refine blk_alloc ?_ _)); exact BK605.out⟩, ⟨by (with_reducible repeat (first | refine blk_drewN ?_ _ | refine blk_drew ?_ | refine blk_alloc ?_ _)); exact BK607.out⟩, ⟨by repeat (first | (with_reducible first | exact HB.out | apply below_alloc | apply pw_below_drewN | apply below_drew1 | refine below_set ?_ GE605.out | refine below_set ?_ GE607.out) | exact HB.out)⟩⟩
             ·rw [if_neg c67] at H
              have c67b0 : ((bt t609 x8_3) == 13) = false := beq_eq_false_iff_ne.mpr c67
              have c67b1 : ((bt t609 x8_3) != 13) = true := bne_iff_ne.mpr c67
              have H' := Aside0.mk H
              clear H
              have p66 : 0 ≤ (x8_3 : Int) := od
              have q66 : x8_3 < (t609.size : Int) := od
              have hx66 := bt_at t609 x8_3
              replace p66 := eq_true p66
              replace q66 := eq_true q66
              go_wp2
              go_roundg k3
              case measure => have := HJ3.out; have := HK2.out; have := HK3.out; omega
              case rel => exact ⟨(x7_3), (wrap64 (x8_3 + 1)), cl, cl, H', ⟨by have := HJ3.out; have := HK2.out; have := HK3.out; omega⟩, ⟨by (with_reducible repeat (first | refine blk_drewN ?_ _ | refine blk_drew ?_ | refine blk_alloc ?_ _)); exact BK605.out⟩, ⟨by (with_reducible repeat (first | refine blk_drewN ?_ _ | refine blk_drew ?_ | refine blk_alloc ?_ _)); exact BK607.out⟩, ⟨by repeat (first | (with_reducible first | exact HB.out | apply below_alloc | apply pw_below_drewN | apply below_drew1 | refine below_set ?_ GE605.out | refine below_set ?_ GE607.out) | exact HB.out)⟩⟩
            ·rw [if_neg c65] at H
             exact absurd H (by simp)
           ·rw [if_neg c64] at H
            exact absurd H (by simp)
          ·rw [if_neg c63] at H
           have c63b0 : decide ((wrap64 (x8_3 + 1)) < (t609.size : Int)) = false := decide_eq_false c63
           clear c63
           obtain rfl := Option.some.inj H
           go_wp2
           go_ret
           exact ⟨by first | rfl | (simp [errW_none, errW_some] <;> rfl) | (simp [*, errW_none, errW_some] <;> rfl), by repeat (first | (with_reducible first | exact HB.out | apply below_alloc | apply pw_below_drewN | apply below_drew1 | refine below_set ?_ GE605.out | refine below_set ?_ GE607.out) | exact HB.out)⟩
 ·replace c3 := Bool.eq_false_iff.mpr c3
  subst c3
  have H1 : (some false) = some r := by rw [if_neg (show ¬ (false = true) by decide)] at H; exact H
  clear H
  have H := H1
  clear H1
  obtain rfl := Option.some.inj H
  go_enter Tryd.func11, Tryd.ntmps11
  go_wp2_with (first | ((with_reducible refine gate_dst (N := 1) rfl ?_); (try (refine gate_guard (by rfl) ?_; dsimp only)); refine box_event ?hg (N := 1) ?hd (cs := #[.string a0_0, .string a0_1]) (t := 59) ?hr ?_; (case hd => rfl); (case hg => rfl); (case hr => first | (go_simp; done) | (go_simp; rfl)); intro gb605 hg w76 hbox hb; have n0_ := Aside0.mk (below_step bw hb); have n1_ := Aside0.mk (hbox); have n2_ := Aside0.mk ((by rw [hg]; exact (below_size bw) : w.heap.size ≤ gb605)); have n3_ := Aside0.mk ((by rw [hg]; exact (below_size bw) : w.heap.size ≤ gb605)); clear HB; have HB := n0_; have BK605 := n1_; have GW605 := n2_; have GE605 := n3_; clear n0_ n1_ n2_ n3_; clear hb hbox hg) | ((with_reducible refine gate_callee (f := 40) rfl ?_); refine goesL_ (some 9) rfl rfl Tryd.func40 (by kernel_rfl) rfl #[] rfl am ?_; (with_reducible refine (bulletinlaw15_works.calls (hG := by first | exact hG | exact Glob.below hG (by first | exact HB.out | (repeat (first | (with_reducible first | exact HB.out | apply below_alloc | apply pw_below_drewN | apply below_drew1 | refine below_set ?_ GE605.out | refine below_set ?_ GE607.out) | exact HB.out))) | exact Glob.drawn hG (by repeat (first | exact Drawn0.refl _ | apply Drawn0.step))) k  false _ A2.out).mono ?_); rintro e w77 ⟨rfl, hb⟩; refine ⟨_, rfl, ?_⟩; have n0_ := Aside0.mk (blk_below (g := gb605) (o := .cells #[.string a0_0, .string a0_1] 59 (0, 0)) bk hb); have n1_ := Aside0.mk (below_step bwS hb); clear BK605; clear HB; have BK605 := n0_; have HB := n1_; clear n0_ n1_; (try clear hb); (try clear hb2); (try clear hk); (try clear hi)))
  go_ret
  exact ⟨by first | rfl | (simp [errW_none, errW_some] <;> rfl) | (simp [*, errW_none, errW_some] <;> rfl), by repeat (first | (with_reducible first | exact HB.out | apply below_alloc | apply pw_below_drewN | apply below_drew1 | refine below_set ?_ GE605.out) | exact HB.out)⟩

end Go.Proofs.YtlomcmdbbnbciaaDoor.Fn
set_option linter.unusedVariables false
set_option linter.unusedSimpArgs false
namespace Go.Proofs.YtlomcmdbbnbciaaDoor.Pl
def printL (l : List (Bytes × Bytes)) : Bytes := l.flatMap fun f => showL f.1 f.2
end Go.Proofs.YtlomcmdbbnbciaaDoor.Pl
namespace Go.Proofs.YtlomcmdbbnbciaaDoor.Fn
open Go.RowKit Go.Proofs.YtlomcmdbbnbciaaDoorW.PrintWords

def ofP (x : S60) : List UInt8 × List UInt8 := (Pl.bs x.f0, Pl.bs x.f1)
def okP (x : S60) : Bool := decide (x.f0.size ≤ 1000000) && decide (x.f1.size ≤ 1000000)
def head_Print.f (l0 : List (S60)) : Option ByteArray :=
  if l0.length ≤ 1000000 then (if l0.all okP = true then some (Pl.str (Pl.printL (l0.map ofP))) else none) else none
end Go.Proofs.YtlomcmdbbnbciaaDoor.Fn
-- written by xprint.py of this session over the kit's printer; not trusted: Lean checks it
namespace Go.Proofs.YtlomcmdbbnbciaaDoor.Fn
open Go.RowKit Go.Proofs.YtlomcmdbbnbciaaDoorW.PrintWords Go.Proofs.YtlomcmdbbnbciaaDoorW.PrintLast Go.Proofs.YtlomcmdbbnbciaaDoorW.PrintMore
attribute [local go_sem] max2_int min2_int max_two min_two max_three min_three max_four min_four   -- for this text's walks alone
set_option linter.unusedVariables false
set_option linter.unusedSimpArgs false

/-! ### bulletinref15_blank: function 94 -/
def bulletinref15_blank.f (a0 : Int) : Option (Bool) := if a0 = 32 then (some true) else (some (a0 == 9))
end Go.Proofs.YtlomcmdbbnbciaaDoor.Fn
-- written by xprint.py of this session over the kit's printer; not trusted: Lean checks it
namespace Go.Proofs.YtlomcmdbbnbciaaDoor.Fn
open Go.RowKit Go.Proofs.YtlomcmdbbnbciaaDoorW.PrintWords Go.Proofs.YtlomcmdbbnbciaaDoorW.PrintLast Go.Proofs.YtlomcmdbbnbciaaDoorW.PrintMore
attribute [local go_sem] max2_int min2_int max_two min_two max_three min_three max_four min_four   -- for this text's walks alone
set_option linter.unusedVariables false
set_option linter.unusedSimpArgs false

/-! ### bulletinref15_Trim: function 96 -/
mutual
def bulletinref15_Trim.j1 : Nat → ByteArray → Option (ByteArray)
 | 0, _ => none
 | k + 1, x0 => bulletinref15_Trim.l1 k x0
def bulletinref15_Trim.l1 : Nat → ByteArray → Option (ByteArray)
 | 0, _ => none
 | k + 1, x0 => if (x0.size : Int) > 0 then (if 0 ≤ (wrap64 ((x0.size : Int) - 1)) then (if (wrap64 ((x0.size : Int) - 1)) < (x0.size : Int) then ((bulletinref15_blank.f (bt x0 (wrap64 ((x0.size : Int) - 1)))).bind fun t557 => (if t557 = true then (if (wrap64 ((x0.size : Int) - 1)) ≤ (x0.size : Int) then (bulletinref15_Trim.l1 k (x0.extract 0 ((wrap64 ((x0.size : Int) - 1)) : Int).toNat)) else (none)) else (some x0))) else (none)) else (none)) else (some x0)
def bulletinref15_Trim.l0 : Nat → ByteArray → Option (ByteArray)
 | 0, _ => none
 | k + 1, x0 => if (x0.size : Int) > 0 then (if 0 < (x0.size : Int) then ((bulletinref15_blank.f (bt x0 0)).bind fun t556 => (if t556 = true then (if 1 ≤ (x0.size : Int) then (bulletinref15_Trim.l0 k (x0.extract 1 x0.size)) else (none)) else (bulletinref15_Trim.j1 k x0))) else (none)) else (bulletinref15_Trim.j1 k x0)
end
def bulletinref15_Trim.f (k : Nat) (a0 : ByteArray) : Option (ByteArray) := bulletinref15_Trim.l0 k a0
end Go.Proofs.YtlomcmdbbnbciaaDoor.Fn
-- written by xprint.py of this session over the kit's printer; not trusted: Lean checks it
namespace Go.Proofs.YtlomcmdbbnbciaaDoor.Fn
open Go.RowKit Go.Proofs.YtlomcmdbbnbciaaDoorW.PrintWords Go.Proofs.YtlomcmdbbnbciaaDoorW.PrintLast Go.Proofs.YtlomcmdbbnbciaaDoorW.PrintMore
attribute [local go_sem] max2_int min2_int max_two min_two max_three min_three max_four min_four   -- for this text's walks alone
set_option linter.unusedVariables false
set_option linter.unusedSimpArgs false

/-! ### bulletinref15_line: function 92 -/
def bulletinref15_line.l0 : Nat → ByteArray → Int → Option (Int)
 | 0, _, _ => none
 | k + 1, x0, x3 => if (wrap64 (x3 + 1)) < (x0.size : Int) then (if 0 ≤ x3 then (if x3 < (x0.size : Int) then (if (bt x0 x3) = 13 then (if 0 ≤ (wrap64 (x3 + 1)) then (if (bt x0 (wrap64 (x3 + 1))) = 10 then (some x3) else (bulletinref15_line.l0 k x0 (wrap64 (x3 + 1)))) else (none)) else (bulletinref15_line.l0 k x0 (wrap64 (x3 + 1)))) else (none)) else (none)) else (some (-1))
def bulletinref15_line.f (k : Nat) (a0 : ByteArray) : Option (Int) := bulletinref15_line.l0 k a0 0
end Go.Proofs.YtlomcmdbbnbciaaDoor.Fn
-- written by xprint.py of this session over the kit's printer; not trusted: Lean checks it
namespace Go.Proofs.YtlomcmdbbnbciaaDoor.Fn
open Go.RowKit Go.Proofs.YtlomcmdbbnbciaaDoorW.PrintWords Go.Proofs.YtlomcmdbbnbciaaDoorW.PrintLast Go.Proofs.YtlomcmdbbnbciaaDoorW.PrintMore
attribute [local go_sem] max2_int min2_int max_two min_two max_three min_three max_four min_four   -- for this text's walks alone
set_option linter.unusedVariables false
set_option linter.unusedSimpArgs false

/-! ### bulletinref15_named: function 95 -/
def bulletinref15_named.l0 : Nat → ByteArray → Int → Option (Bool)
 | 0, _, _ => none
 | k + 1, x0, x3 => if x3 < (x0.size : Int) then (if 0 ≤ x3 then (if (bt x0 x3) < 33 then (some false) else (if (bt x0 x3) > 126 then (some false) else (if (bt x0 x3) = 58 then (some false) else (bulletinref15_named.l0 k x0 (wrap64 (x3 + 1)))))) else (none)) else (if (x0.size : Int) ≥ 1 then (some (decide ((x0.size : Int) ≤ 76))) else (some false))
def bulletinref15_named.f (k : Nat) (a0 : ByteArray) : Option (Bool) := bulletinref15_named.l0 k a0 0
end Go.Proofs.YtlomcmdbbnbciaaDoor.Fn
-- written by xprint.py of this session over the kit's printer; not trusted: Lean checks it
namespace Go.Proofs.YtlomcmdbbnbciaaDoor.Fn
open Go.RowKit Go.Proofs.YtlomcmdbbnbciaaDoorW.PrintWords Go.Proofs.YtlomcmdbbnbciaaDoorW.PrintLast Go.Proofs.YtlomcmdbbnbciaaDoorW.PrintMore
attribute [local go_sem] max2_int min2_int max_two min_two max_three min_three max_four min_four   -- for this text's walks alone
set_option linter.unusedVariables false
set_option linter.unusedSimpArgs false

/-! ### bulletinref15_textual: function 93 -/
def bulletinref15_textual.l0 : Nat → ByteArray → Int → Option (Bool)
 | 0, _, _ => none
 | k + 1, x0, x3 => if x3 < (x0.size : Int) then (if 0 ≤ x3 then (if (bt x0 x3) = 9 then (bulletinref15_textual.l0 k x0 (wrap64 (x3 + 1))) else (if (bt x0 x3) < 32 then (some false) else (if (bt x0 x3) = 127 then (some false) else (bulletinref15_textual.l0 k x0 (wrap64 (x3 + 1)))))) else (none)) else (some true)
def bulletinref15_textual.f (k : Nat) (a0 : ByteArray) : Option (Bool) := bulletinref15_textual.l0 k a0 0
end Go.Proofs.YtlomcmdbbnbciaaDoor.Fn
-- written by xprint.py of this session over the kit's printer; not trusted: Lean checks it
namespace Go.Proofs.YtlomcmdbbnbciaaDoor.Fn
open Go.RowKit Go.Proofs.YtlomcmdbbnbciaaDoorW.PrintWords Go.Proofs.YtlomcmdbbnbciaaDoorW.PrintLast Go.Proofs.YtlomcmdbbnbciaaDoorW.PrintMore
attribute [local go_sem] max2_int min2_int max_two min_two max_three min_three max_four min_four   -- for this text's walks alone
set_option linter.unusedVariables false
set_option linter.unusedSimpArgs false

/-! ### bulletinref15_Parse: function 42 -/
mutual
def bulletinref15_Parse.l0 : Nat → ByteArray → List (S59) → ByteArray → Int → Option ((List (S59)) × ByteArray × Int)
 | 0, _, _, _, _ => none
 | k + 1, x0, x5, x6, x7 => if x7 < (x0.size : Int) then (if 0 ≤ x7 then (if x7 ≤ (x0.size : Int) then ((bulletinref15_line.f k (x0.extract (x7 : Int).toNat x0.size)).bind fun t558 => (if t558 < 0 then (some (([] : List (S59)), (⟨#[]⟩ : ByteArray), 9)) else (if x7 ≤ (wrap64 (x7 + t558)) then (if (wrap64 (x7 + t558)) ≤ (x0.size : Int) then (if t558 = 0 then (if 0 ≤ (wrap64 ((wrap64 (x7 + t558)) + 2)) then (if (wrap64 ((wrap64 (x7 + t558)) + 2)) ≤ (x0.size : Int) then (bulletinref15_Parse.l0 k x0 x5 (x0.extract ((wrap64 ((wrap64 (x7 + t558)) + 2)) : Int).toNat x0.size) (x0.size : Int)) else (none)) else (none)) else (if t558 > 998 then (some (([] : List (S59)), (⟨#[]⟩ : ByteArray), 2)) else ((bulletinref15_textual.f k (x0.extract (x7 : Int).toNat ((wrap64 (x7 + t558)) : Int).toNat)).bind fun t559 => (if t559 = true then (if 0 < ((x0.extract (x7 : Int).toNat ((wrap64 (x7 + t558)) : Int).toNat).size : Int) then ((bulletinref15_blank.f (bt (x0.extract (x7 : Int).toNat ((wrap64 (x7 + t558)) : Int).toNat) 0)).bind fun t560 => (if t560 = true then (if (x5.length : Int) = 0 then (some (([] : List (S59)), (⟨#[]⟩ : ByteArray), 150)) else (if 0 ≤ (wrap64 ((x5.length : Int) - 1)) then (if (wrap64 ((x5.length : Int) - 1)) < (x5.length : Int) then (if ((rd_T59 x5 (wrap64 ((x5.length : Int) - 1))).f1).size + (x0.extract (x7 : Int).toNat ((wrap64 (x7 + t558)) : Int).toNat).size ≤ 9223372036854775807 then (bulletinref15_Parse.l0 k x0 (x5.set ((wrap64 ((x5.length : Int) - 1)) : Int).toNat (⟨(rd_T59 x5 (wrap64 ((x5.length : Int) - 1))).f0, ((rd_T59 x5 (wrap64 ((x5.length : Int) - 1))).f1) ++ (x0.extract (x7 : Int).toNat ((wrap64 (x7 + t558)) : Int).toNat)⟩ : S59)) x6 (wrap64 ((wrap64 (x7 + t558)) + 2))) else (none)) else (none)) else (none))) else (bulletinref15_Parse.l1 k x0 x5 x6 (wrap64 ((wrap64 (x7 + t558)) + 2)) (x0.extract (x7 : Int).toNat ((wrap64 (x7 + t558)) : Int).toNat) 0))) else (none)) else (some (([] : List (S59)), (⟨#[]⟩ : ByteArray), 150)))))) else (none)) else (none)))) else (none)) else (none)) else (bulletinref15_Parse.l2 k x5 x6 0)
def bulletinref15_Parse.j2 : Nat → ByteArray → List (S59) → ByteArray → Int → ByteArray → Int → Option ((List (S59)) × ByteArray × Int)
 | 0, _, _, _, _, _, _ => none
 | k + 1, x0, x5, x6, x7, x9, x10 => if x10 = (x9.size : Int) then (bulletinref15_Parse.j3 k x0 x5 x6 x7 x9 x10 true) else (if 0 ≤ x10 then (if x10 ≤ (x9.size : Int) then ((bulletinref15_named.f k (x9.extract 0 (x10 : Int).toNat)).bind fun t563 => (bulletinref15_Parse.j3 k x0 x5 x6 x7 x9 x10 (!t563))) else (none)) else (none))
def bulletinref15_Parse.j3 : Nat → ByteArray → List (S59) → ByteArray → Int → ByteArray → Int → Bool → Option ((List (S59)) × ByteArray × Int)
 | 0, _, _, _, _, _, _, _ => none
 | k + 1, x0, x5, x6, x7, x9, x10, x87 => if x87 = true then (some (([] : List (S59)), (⟨#[]⟩ : ByteArray), 150)) else (if (x5.length : Int) = 100 then (some (([] : List (S59)), (⟨#[]⟩ : ByteArray), 8)) else (if 0 ≤ x10 then (if x10 ≤ (x9.size : Int) then (if 0 ≤ (wrap64 (x10 + 1)) then (if (wrap64 (x10 + 1)) ≤ (x9.size : Int) then (if x5.length < 4398046511104 then (bulletinref15_Parse.l0 k x0 (x5 ++ [(⟨x9.extract 0 (x10 : Int).toNat, x9.extract ((wrap64 (x10 + 1)) : Int).toNat x9.size⟩ : S59)]) x6 x7) else (none)) else (none)) else (none)) else (none)) else (none)))
def bulletinref15_Parse.l1 : Nat → ByteArray → List (S59) → ByteArray → Int → ByteArray → Int → Option ((List (S59)) × ByteArray × Int)
 | 0, _, _, _, _, _, _ => none
 | k + 1, x0, x5, x6, x7, x9, x10 => if x10 < (x9.size : Int) then (if 0 ≤ x10 then (if (bt x9 x10) = 58 then (bulletinref15_Parse.j2 k x0 x5 x6 x7 x9 x10) else (bulletinref15_Parse.l1 k x0 x5 x6 x7 x9 (wrap64 (x10 + 1)))) else (none)) else (bulletinref15_Parse.j2 k x0 x5 x6 x7 x9 x10)
def bulletinref15_Parse.l2 : Nat → List (S59) → ByteArray → Int → Option ((List (S59)) × ByteArray × Int)
 | 0, _, _, _ => none
 | k + 1, x5, x6, x11 => if x11 < (x5.length : Int) then (if 0 ≤ x11 then ((bulletinref15_Trim.f k ((rd_T59 x5 x11).f1)).bind fun t568 => (bulletinref15_Parse.l2 k (x5.set (x11 : Int).toNat (⟨(rd_T59 x5 x11).f0, t568⟩ : S59)) x6 (wrap64 (x11 + 1)))) else (none)) else (some (x5, x6, 0))
end
end Go.Proofs.YtlomcmdbbnbciaaDoor.Fn
set_option linter.unusedVariables false
set_option linter.unusedSimpArgs false
namespace Go.Proofs.YtlomcmdbbnbciaaDoor.Pl
open Go.RowKit Go.Proofs.YtlomcmdbbnbciaaDoorW.PrintWords Go.Proofs.YtlomcmdbbnbciaaDoor.Fn

/-! The document's Parse computes the machine. -/
theorem crlf_two (c d : UInt8) (r : Bytes) : crlf (c :: d :: r) = if c = 13 ∧ d = 10 then some 0 else (crlf (d :: r)).map (· + 1) := by
  show (if c = 13 ∧ (d :: r).head? = some 10 then some 0 else (crlf (d :: r)).map (· + 1)) = _
  simp only [List.head?_cons, Option.some.injEq]
/-! Trim -/
def ltrim (s : Bytes) : Bytes := s.dropWhile wb
def rtrim (s : Bytes) : Bytes := (s.reverse.dropWhile wb).reverse
theorem rtrim_cons (c : UInt8) (r : Bytes) : rtrim (c :: r) = if rtrim r = [] then (if wb c = true then [] else [c]) else c :: rtrim r := by
  unfold rtrim
  rw [List.reverse_cons, List.dropWhile_append]
  by_cases h : (r.reverse.dropWhile wb) = []
  · rw [h, if_pos (by simp), if_pos (by simp)]
    by_cases hc : wb c = true
    · rw [if_pos hc, List.dropWhile_cons_of_pos hc]; rfl
    · rw [if_neg hc, List.dropWhile_cons_of_neg hc]; rfl
  · rw [if_neg (by simpa using h), if_neg (by simpa using h)]
    simp
theorem trim_comm : ∀ s : Bytes, ltrim (rtrim s) = rtrim (ltrim s)
  | [] => rfl
  | c :: r => by
    have ih := trim_comm r
    by_cases hc : wb c = true
    · have e : ltrim (c :: r) = ltrim r := List.dropWhile_cons_of_pos hc
      rw [e, ← ih, rtrim_cons]
      by_cases h : rtrim r = []
      · rw [if_pos h, if_pos hc, h]
      · rw [if_neg h]; exact List.dropWhile_cons_of_pos hc
    · have e : ltrim (c :: r) = c :: r := List.dropWhile_cons_of_neg hc
      rw [e, rtrim_cons]
      by_cases h : rtrim r = []
      · rw [if_pos h, if_neg hc]; exact List.dropWhile_cons_of_neg hc
      · rw [if_neg h]; exact List.dropWhile_cons_of_neg hc
theorem trim_eq (s : Bytes) : trim s = rtrim (ltrim s) := by rw [← trim_comm]; rfl
end Go.Proofs.YtlomcmdbbnbciaaDoor.Pl
set_option linter.unusedVariables false
set_option linter.unusedSimpArgs false
namespace Go.Proofs.YtlomcmdbbnbciaaDoor.Pl
open Go.RowKit Go.Proofs.YtlomcmdbbnbciaaDoorW.PrintWords Go.Proofs.YtlomcmdbbnbciaaDoor.Fn

/-! The document's Parse: line by line. -/
theorem wrap_two (a : Nat) (h : a ≤ 1000000000) : wrap64 ((a : Int) + 2) = ((a + 2 : Nat) : Int) := by
  rw [wrap_id (by omega) (by omega)]
  omega
end Go.Proofs.YtlomcmdbbnbciaaDoor.Pl
set_option linter.unusedVariables false
set_option linter.unusedSimpArgs false
namespace Go.Proofs.YtlomcmdbbnbciaaDoor.Pl
open Go.RowKit Go.Proofs.YtlomcmdbbnbciaaDoorW.PrintWords Go.Proofs.YtlomcmdbbnbciaaDoor.Fn

/-! A field as it is written: its lines. -/
def linesFrom : Nat → Bool → Nat → Bytes → Bytes → List Bytes
  | 0, _, _, _, cur => [cur]
  | f + 1, first, pos, s, cur => if s = [] then [cur] else if brk first pos s = true then cur :: linesFrom f false (0 + pieceL s) (s.drop (pieceL s)) (s.take (pieceL s))
    else linesFrom f false (pos + pieceL s) (s.drop (pieceL s)) (cur ++ s.take (pieceL s))
def flat (l : List Bytes) : Bytes := l.flatMap fun x => x ++ [13, 10]
theorem flat_cons (x : Bytes) (l : List Bytes) : flat (x :: l) = x ++ (13 :: 10 :: flat l) := by simp [flat]
theorem lines_flat : ∀ (f : Nat) (first : Bool) (pos : Nat) (s cur : Bytes), s.length ≤ f → cur ++ (showFrom f first pos s ++ [13, 10]) = flat (linesFrom f first pos s cur)
  | 0, first, pos, s, cur, h => by
    obtain rfl := List.eq_nil_of_length_eq_zero (by omega : s.length = 0)
    simp [showFrom, linesFrom, flat]
  | f + 1, first, pos, s, cur, h => by
    unfold showFrom linesFrom
    by_cases h0 : s = []
    · rw [if_pos h0, if_pos h0]; simp [flat]
    · have hp := pieceL_pos s h0
      have hl : (s.drop (pieceL s)).length ≤ f := by rw [List.length_drop]; omega
      rw [if_neg h0, if_neg h0]
      by_cases hb : brk first pos s = true
      · rw [if_pos hb, if_pos hb, if_pos hb, flat_cons, ← lines_flat f false (0 + pieceL s) _ (s.take (pieceL s)) hl]
        simp
      · rw [if_neg hb, if_neg hb, if_neg hb, ← lines_flat f false (pos + pieceL s) _ (cur ++ s.take (pieceL s)) hl]
        simp
theorem drop_takeWhile (p : UInt8 → Bool) : ∀ l : Bytes, l.drop (l.takeWhile p).length = l.dropWhile p
  | [] => rfl
  | c :: r => by
    by_cases h : p c = true
    · rw [List.takeWhile_cons_of_pos h, List.dropWhile_cons_of_pos h, List.length_cons, List.drop_succ_cons, drop_takeWhile p r]
    · rw [List.takeWhile_cons_of_neg h, List.dropWhile_cons_of_neg h]; rfl
theorem dropWhile_head (p : UInt8 → Bool) : ∀ l : Bytes, l.dropWhile p = [] ∨ p ((l.dropWhile p).headD 0) = false
  | [] => .inl rfl
  | c :: r => by
    by_cases h : p c = true
    · rw [List.dropWhile_cons_of_pos h]; exact dropWhile_head p r
    · rw [List.dropWhile_cons_of_neg h]; right; simpa using h
theorem piece_next (s : Bytes) : s.drop (pieceL s) = [] ∨ wb ((s.drop (pieceL s)).headD 0) = true := by
  have e : s.drop (pieceL s) = (s.drop (lead s)).dropWhile (fun c => !wb c) := by
    rw [← drop_takeWhile, List.drop_drop]
    rfl
  rw [e]
  rcases dropWhile_head (fun c => !wb c) (s.drop (lead s)) with h | h
  · exact .inl h
  · exact .inr (by simpa using h)
theorem head_take {s : Bytes} {n : Nat} (h0 : 0 < n) (r : Bytes) (hs : s ≠ []) : (s.take n ++ r).headD 0 = s.headD 0 ∧ s.take n ++ r ≠ [] := by
  cases s with
  | nil => exact absurd rfl hs
  | cons c s =>
    obtain ⟨n, rfl⟩ : ∃ m, n = m + 1 := ⟨n - 1, by omega⟩
    simp
theorem lines_shape : ∀ (f : Nat) (first : Bool) (pos : Nat) (s cur : Bytes), s.length ≤ f → (s = [] ∨ wb (s.headD 0) = true) →
    ∃ t Ls, linesFrom f first pos s cur = (cur ++ t) :: Ls ∧ t ++ Ls.flatten = s ∧ (∀ x ∈ Ls, wb (x.headD 0) = true ∧ x ≠ [])
  | 0, first, pos, s, cur, h, _ => by
    obtain rfl := List.eq_nil_of_length_eq_zero (by omega : s.length = 0)
    exact ⟨[], [], by simp [linesFrom], rfl, by simp⟩
  | f + 1, first, pos, s, cur, h, hw => by
    unfold linesFrom
    by_cases h0 : s = []
    · rw [if_pos h0]; exact ⟨[], [], by simp, by simp [h0], by simp⟩
    · have hp := pieceL_pos s h0
      have hl : (s.drop (pieceL s)).length ≤ f := by rw [List.length_drop]; omega
      have hw' : wb (s.headD 0) = true := hw.resolve_left h0
      rw [if_neg h0]
      by_cases hb : brk first pos s = true
      · rw [if_pos hb]
        obtain ⟨t, Ls, e1, e2, e3⟩ := lines_shape f false (0 + pieceL s) (s.drop (pieceL s)) (s.take (pieceL s)) hl (piece_next s)
        refine ⟨[], (s.take (pieceL s) ++ t) :: Ls, by rw [e1]; simp, ?_, ?_⟩
        · rw [List.flatten_cons, List.nil_append, List.append_assoc, e2, List.take_append_drop]
        · intro x hx
          rcases List.mem_cons.1 hx with rfl | hx
          · obtain ⟨g1, g2⟩ := head_take hp t h0
            exact ⟨by rw [g1]; exact hw', g2⟩
          · exact e3 x hx
      · rw [if_neg hb]
        obtain ⟨t, Ls, e1, e2, e3⟩ := lines_shape f false (pos + pieceL s) (s.drop (pieceL s)) (cur ++ s.take (pieceL s)) hl (piece_next s)
        refine ⟨s.take (pieceL s) ++ t, Ls, by rw [e1, List.append_assoc], ?_, e3⟩
        rw [List.append_assoc, e2, List.take_append_drop]
def noCr (l : Bytes) : Prop := ∀ c ∈ l, c ≠ 13
theorem crlf_line : ∀ (l rest : Bytes), noCr l → crlf (l ++ (13 :: 10 :: rest)) = some l.length
  | [], rest, _ => by rw [List.nil_append, crlf_two, if_pos ⟨rfl, rfl⟩]; rfl
  | c :: l, rest, h => by
    have ih := crlf_line l rest (fun x hx => h x (List.mem_cons_of_mem _ hx))
    have hc : c ≠ 13 := h c (by simp)
    show (if c = 13 ∧ (l ++ (13 :: 10 :: rest)).head? = some 10 then some 0 else (crlf (l ++ (13 :: 10 :: rest))).map (· + 1)) = _
    rw [if_neg (fun e => hc e.1), ih]
    rfl
theorem text_noCr {l : Bytes} (h : textual l = true) : noCr l := by
  intro c hc e
  subst e
  have := List.all_eq_true.1 h 13 hc
  revert this
  decide
theorem name_text {n : Bytes} (h : n.all nameB = true) : textual n = true := by
  unfold textual
  rw [List.all_eq_true] at h ⊢
  intro c hc
  have := h c hc
  unfold nameB at this
  unfold textB
  simp only [Bool.and_eq_true, Bool.not_eq_true', decide_eq_false_iff_not, Bool.or_eq_true, decide_eq_true_iff] at this ⊢
  omega
theorem textual_app (a b : Bytes) : textual (a ++ b) = (textual a && textual b) := by unfold textual; rw [List.all_append]
def lead1 (v : Bytes) : Bytes := if v = [] then [] else 32 :: v
theorem cuts_flat : ∀ (ls : List Bytes), (∀ x ∈ ls, noCr x) → linesL (str (flat ls)) = ls.map str ++ [str []]
  | [], _ => by
    unfold linesL
    rw [show flat [] = [] from rfl, cuts_last finds_crlf _ (by unfold findCrlf; rw [str_data]; decide)]
    rfl
  | x :: ls, h => by
    have ih := cuts_flat ls (fun y hy => h y (List.mem_cons_of_mem _ hy))
    have hf : findCrlf (str (flat (x :: ls))) = (x.length : Int) := by
      unfold findCrlf
      rw [str_data, index_crlf, flat_cons, crlf_line x (flat ls) (h x (by simp))]
    unfold linesL at ih ⊢
    rw [cuts_more finds_crlf _ (by rw [hf]; omega), hf, Int.toNat_natCast]
    have e1 : (str (flat (x :: ls))).extract 0 x.length = str x := by rw [str_extract, flat_cons, List.take_left, List.drop_zero]
    have e2 : (str (flat (x :: ls))).extract (x.length + 2) (str (flat (x :: ls))).size = str (flat ls) := by
      rw [str_extract, str_size, List.take_of_length_le (Nat.le_refl _), flat_cons, ← List.drop_drop, List.drop_left]
      rfl
    rw [e1, e2, ih]
    rfl
theorem show_lines (n v : Bytes) : showL n v = flat (linesFrom (v.length + 1) true (n.length + 1) (lead1 v) (n ++ [58])) := by
  unfold showL
  have : (lead1 v).length ≤ v.length + 1 := by unfold lead1; split <;> simp
  rw [← lines_flat _ _ _ _ _ this]
  rfl
theorem field_lines {n v : Bytes} (h : rightL n v = true) : ∃ t Ls, showL n v = flat ((n ++ (58 :: t)) :: Ls) ∧ t ++ Ls.flatten = lead1 v ∧ named n = true ∧ textual t = true ∧ (n ++ (58 :: t)).length ≤ 998 ∧
    (∀ x ∈ Ls, wb (x.headD 0) = true ∧ x ≠ [] ∧ x.length ≤ 998 ∧ textual x = true) ∧ trim v = v ∧ linesFrom (v.length + 1) true (n.length + 1) (lead1 v) (n ++ [58]) = (n ++ (58 :: t)) :: Ls := by
  unfold rightL at h
  simp only [Bool.and_eq_true, decide_eq_true_iff] at h
  obtain ⟨hn, ht, htr, hl⟩ := h
  have hlen : (lead1 v).length ≤ v.length + 1 := by unfold lead1; split <;> simp
  have hhd : lead1 v = [] ∨ wb ((lead1 v).headD 0) = true := by
    unfold lead1
    split
    · exact .inl rfl
    · exact .inr rfl
  obtain ⟨t, Ls, e1, e2, e3⟩ := lines_shape (v.length + 1) true (n.length + 1) (lead1 v) (n ++ [58]) hlen hhd
  have e1' : linesFrom (v.length + 1) true (n.length + 1) (lead1 v) (n ++ [58]) = (n ++ (58 :: t)) :: Ls := by rw [e1]; simp
  have htl : textual (lead1 v) = true := by
    unfold lead1
    split
    · rfl
    · rw [show (32 :: v : Bytes) = [32] ++ v from rfl, textual_app, ht]; decide
  have hmem : ∀ c, c ∈ lead1 v → textB c = true := fun c hc => List.all_eq_true.1 htl c hc
  have htt : textual t = true := List.all_eq_true.2 fun c hc => hmem c (by rw [← e2]; exact List.mem_append_left _ hc)
  have htx : ∀ x ∈ Ls, textual x = true := fun x hx => List.all_eq_true.2 fun c hc => hmem c (by rw [← e2]; exact List.mem_append_right _ (List.mem_flatten.2 ⟨x, hx, hc⟩))
  have hall : n.all nameB = true := by unfold named at hn; exact (Bool.and_eq_true _ _ ▸ hn).1
  have h0 : textual (n ++ (58 :: t)) = true := by
    rw [textual_app, name_text hall, Bool.true_and, show (58 :: t : Bytes) = [58] ++ t from rfl, textual_app, htt]; decide
  have hs : showL n v = flat ((n ++ (58 :: t)) :: Ls) := by rw [show_lines, e1']
  rw [hs, cuts_flat _ (fun x hx => by
    rcases List.mem_cons.1 hx with rfl | hx
    · exact text_noCr h0
    · exact text_noCr (htx x hx))] at hl
  rw [List.all_eq_true] at hl
  have hfit : ∀ x ∈ (n ++ (58 :: t)) :: Ls, x.length ≤ 998 := fun x hx => by
    have := hl (str x) (List.mem_append_left _ (List.mem_map_of_mem hx))
    unfold fitsL at this
    rw [decide_eq_true_iff, str_size] at this
    exact this
  exact ⟨t, Ls, hs, e2, hn, htt, hfit _ (by simp), fun x hx => ⟨(e3 x hx).1, (e3 x hx).2, hfit x (List.mem_cons_of_mem _ hx), htx x hx⟩, htr, e1'⟩
end Go.Proofs.YtlomcmdbbnbciaaDoor.Pl
-- written by xprint.py of this session over the kit's printer; not trusted: Lean checks it
namespace Go.Proofs.YtlomcmdbbnbciaaDoor.Fn
open Go.RowKit Go.Proofs.YtlomcmdbbnbciaaDoorW.PrintWords Go.Proofs.YtlomcmdbbnbciaaDoorW.PrintLast Go.Proofs.YtlomcmdbbnbciaaDoorW.PrintMore
attribute [local go_sem] max2_int min2_int max_two min_two max_three min_three max_four min_four   -- for this text's walks alone
set_option linter.unusedVariables false
set_option linter.unusedSimpArgs false

/-! ### bulletinlaw15_Same: function 43 -/
def bulletinlaw15_Same.l0 : Nat → List (S60) → List (S59) → Bool → Int → Option (Bool)
 | 0, _, _, _, _ => none
 | k + 1, x0, x1, x5, x6 => if x5 = true then (if x6 < (x0.length : Int) then (if x6 < (x1.length : Int) then (if 0 ≤ x6 then (if ((rd_T60 x0 x6).f0).toList = ((rd_T59 x1 x6).f0).toList then (bulletinlaw15_Same.l0 k x0 x1 (((rd_T60 x0 x6).f1).toList == ((rd_T59 x1 x6).f1).toList) (wrap64 (x6 + 1))) else (bulletinlaw15_Same.l0 k x0 x1 false (wrap64 (x6 + 1)))) else (none)) else (some x5)) else (some x5)) else (some x5)
def bulletinlaw15_Same.f (k : Nat) (l0 : List (S60)) (l1 : List (S59)) : Option (Bool) := bulletinlaw15_Same.l0 k l0 l1 ((l0.length : Int) == (l1.length : Int)) 0
end Go.Proofs.YtlomcmdbbnbciaaDoor.Fn
-- written by xprint.py of this session over the kit's printer; not trusted: Lean checks it
namespace Go.Proofs.YtlomcmdbbnbciaaDoor.Fn
open Go.RowKit Go.Proofs.YtlomcmdbbnbciaaDoorW.PrintWords Go.Proofs.YtlomcmdbbnbciaaDoorW.PrintLast Go.Proofs.YtlomcmdbbnbciaaDoorW.PrintMore
attribute [local go_sem] max2_int min2_int max_two min_two max_three min_three max_four min_four   -- for this text's walks alone
set_option linter.unusedVariables false
set_option linter.unusedSimpArgs false

/-! ### bulletinlaw15_HeadReads: function 9 -/
end Go.Proofs.YtlomcmdbbnbciaaDoor.Fn
set_option linter.unusedVariables false
set_option linter.unusedSimpArgs false
namespace Go.Proofs.YtlomcmdbbnbciaaDoor.Pl
open Go.RowKit Go.Proofs.YtlomcmdbbnbciaaDoorW.PrintWords Go.Proofs.YtlomcmdbbnbciaaDoor.Fn

theorem up_of {α : Type} {f : Nat → Option α} (h : ∀ k, LeO (f k) (f (k + 1))) {r : α} {k : Nat} (hr : f k = some r) (k' : Nat) (hk : k ≤ k') : f k' = some r := by
  obtain ⟨d, rfl⟩ : ∃ d, k' = k + d := ⟨k' - k, by omega⟩
  clear hk
  induction d with
  | zero => exact hr
  | succ d ih => exact h (k + d) r ih
set_option maxRecDepth 100000 in
theorem works15_at : bulletinlaw15_works.f 100 = some true := by decide +kernel
theorem works15 (k : Nat) (hk : 100 ≤ k) : bulletinlaw15_works.f k = some true := up_of bulletinlaw15_works.mono works15_at k hk
end Go.Proofs.YtlomcmdbbnbciaaDoor.Pl
-- written by xprint.py of this session over the kit's printer; not trusted: Lean checks it
namespace Go.Proofs.YtlomcmdbbnbciaaDoor.Fn
open Go.RowKit Go.Proofs.YtlomcmdbbnbciaaDoorW.PrintWords Go.Proofs.YtlomcmdbbnbciaaDoorW.PrintLast Go.Proofs.YtlomcmdbbnbciaaDoorW.PrintMore
attribute [local go_sem] max2_int min2_int max_two min_two max_three min_three max_four min_four   -- for this text's walks alone
set_option linter.unusedVariables false
set_option linter.unusedSimpArgs false

/-! ### bulletinlaw15_Light: function 46 -/
mutual
def bulletinlaw15_Light.l0 : Nat → List (S59) → Int → Option (Bool)
 | 0, _, _ => none
 | k + 1, x0, x3 => if x3 < (x0.length : Int) then (bulletinlaw15_Light.j1 k x0 x3 (decide (x3 < 30))) else (bulletinlaw15_Light.j1 k x0 x3 false)
def bulletinlaw15_Light.j1 : Nat → List (S59) → Int → Bool → Option (Bool)
 | 0, _, _, _ => none
 | k + 1, x0, x3, x11 => if x11 = true then (if 0 ≤ x3 then (if x3 < (x0.length : Int) then (if (((rd_T59 x0 x3).f0).size : Int) > 200 then (some false) else (if (((rd_T59 x0 x3).f1).size : Int) > 3000 then (some false) else (bulletinlaw15_Light.l0 k x0 (wrap64 (x3 + 1))))) else (none)) else (none)) else (some (decide ((x0.length : Int) ≤ 30)))
end
end Go.Proofs.YtlomcmdbbnbciaaDoor.Fn
-- written by xprint.py of this session over the kit's printer; not trusted: Lean checks it
namespace Go.Proofs.YtlomcmdbbnbciaaDoor.Fn
open Go.RowKit Go.Proofs.YtlomcmdbbnbciaaDoorW.PrintWords Go.Proofs.YtlomcmdbbnbciaaDoorW.PrintLast Go.Proofs.YtlomcmdbbnbciaaDoorW.PrintMore
attribute [local go_sem] max2_int min2_int max_two min_two max_three min_three max_four min_four   -- for this text's walks alone
set_option linter.unusedVariables false
set_option linter.unusedSimpArgs false

/-! ### bulletinlaw15_To: function 47 -/
def bulletinlaw15_To.l0 : Nat → List (S59) → List (S60) → Int → Option ((List (S60)))
 | 0, _, _, _ => none
 | k + 1, x0, x3, x4 => if x4 < (x0.length : Int) then (if 0 ≤ x4 then (if x3.length < 4398046511104 then (bulletinlaw15_To.l0 k x0 (x3 ++ [(⟨(rd_T59 x0 x4).f0, (rd_T59 x0 x4).f1⟩ : S60)]) (wrap64 (x4 + 1))) else (none)) else (none)) else (some x3)
def bulletinlaw15_To.f (k : Nat) (l0 : List (S59)) : Option ((List (S60))) := bulletinlaw15_To.l0 k l0 ([] : List (S60)) 0
end Go.Proofs.YtlomcmdbbnbciaaDoor.Fn
-- written by xprint.py of this session over the kit's printer; not trusted: Lean checks it
namespace Go.Proofs.YtlomcmdbbnbciaaDoor.Fn
open Go.RowKit Go.Proofs.YtlomcmdbbnbciaaDoorW.PrintWords Go.Proofs.YtlomcmdbbnbciaaDoorW.PrintLast Go.Proofs.YtlomcmdbbnbciaaDoorW.PrintMore
attribute [local go_sem] max2_int min2_int max_two min_two max_three min_three max_four min_four   -- for this text's walks alone
set_option linter.unusedVariables false
set_option linter.unusedSimpArgs false

/-! ### bulletinlaw15_HeadBack: function 12 -/
mutual
def bulletinlaw15_HeadBack.j0 : Nat → List (S59) → ByteArray → Bool → Option (Bool)
 | 0, _, _, _ => none
 | k + 1, x0, x1, x19 => if x19 = true then (some true) else ((bulletinlaw15_To.f k x0).bind fun t619 => (bulletinlaw15_HeadBack.l0 k x0 x1 t619 (t619.length : Int) 0))
def bulletinlaw15_HeadBack.l0 : Nat → List (S59) → ByteArray → List (S60) → Int → Int → Option (Bool)
 | 0, _, _, _, _, _ => none
 | k + 1, x0, x1, x5, x23, x24 => if x24 < x23 then (if 0 ≤ x24 then (if x24 < (x5.length : Int) then ((head_Right.f ((rd_T60 x5 x24).f0) ((rd_T60 x5 x24).f1)).bind fun t623 => (if t623 = true then (bulletinlaw15_HeadBack.l0 k x0 x1 x5 x23 (wrap64 (x24 + 1))) else (some true))) else (none)) else (none)) else ((head_Print.f x5).bind fun t624 => (if t624.size + 2 ≤ 9223372036854775807 then (if (t624 ++ (⟨#[13, 10]⟩ : ByteArray)).size + x1.size ≤ 9223372036854775807 then ((head_Parse.f k ((t624 ++ (⟨#[13, 10]⟩ : ByteArray)) ++ x1)).bind fun bt625 => (if bt625.2.2 = 0 then (if bt625.2.1.toList = x1.toList then ((bulletinlaw15_Same.f k bt625.1 x0).bind fun t630 => (bulletinlaw15_HeadBack.j2 k x0 x5 (!t630))) else (bulletinlaw15_HeadBack.j2 k x0 x5 true)) else (bulletinlaw15_HeadBack.j2 k x0 x5 true))) else (none)) else (none)))
def bulletinlaw15_HeadBack.j2 : Nat → List (S59) → List (S60) → Bool → Option (Bool)
 | 0, _, _, _ => none
 | k + 1, x0, x5, x56 => if x56 = true then (some false) else ((head_Print.f x5).bind fun t631 => ((head_Parse.f k t631).bind fun bt632 => (if bt632.2.2 = 0 then (if bt632.2.1.toList = ([] : List UInt8) then ((bulletinlaw15_Same.f k bt632.1 x0).bind fun t637 => (some t637)) else (some false)) else (some false))))
end
end Go.Proofs.YtlomcmdbbnbciaaDoor.Fn
set_option linter.unusedVariables false
set_option linter.unusedSimpArgs false
namespace Go.Proofs.YtlomcmdbbnbciaaDoor.Pl
open Go.RowKit Go.Proofs.YtlomcmdbbnbciaaDoorW.PrintWords Go.Proofs.YtlomcmdbbnbciaaDoor.Fn

theorem headright_is {n v : Bytes} (h1 : n.length ≤ 1000000) (h2 : v.length ≤ 1000000) : head_Right.f (str n) (str v) = some (rightL n v) := by
  unfold head_Right.f
  rw [if_pos (by rw [str_size]; exact h1), if_pos (by rw [str_size]; exact h2), bs_str, bs_str]
end Go.Proofs.YtlomcmdbbnbciaaDoor.Pl
set_option linter.unusedVariables false
set_option linter.unusedSimpArgs false
namespace Go.Proofs.YtlomcmdbbnbciaaDoor.Pl
open Go.RowKit Go.Proofs.YtlomcmdbbnbciaaDoorW.PrintWords Go.Proofs.YtlomcmdbbnbciaaDoor.Fn

def turn (prev : Option UInt8) (c : UInt8) : Bool := match prev with | none => false | some p => wb c && !wb p
def scan : Nat → Option UInt8 → Bytes → Bool
  | _, _, [] => true
  | run, prev, c :: r => if 69 < (if turn prev c = true then 1 else run + 1) then false else scan (if turn prev c = true then 1 else run + 1) (some c) r
theorem scan_blank : ∀ (a b : Bytes) (run : Nat) (p : UInt8), a.all wb = true → wb p = true → run ≤ 69 → scan run (some p) (a ++ b) = true → run + a.length ≤ 69 ∧ ∃ q, wb q = true ∧ scan (run + a.length) (some q) b = true
  | [], b, run, p, _, hp, hr, h => ⟨hr, p, hp, h⟩
  | c :: a, b, run, p, ha, hp, hr, h => by
    rw [List.all_cons, Bool.and_eq_true] at ha
    have ht : turn (some p) c = false := by unfold turn; simp [hp]
    rw [List.cons_append, scan, ht, if_neg (show ¬ (false = true) by decide)] at h
    by_cases h1 : 69 < run + 1
    · rw [if_pos h1] at h; cases h
    · rw [if_neg h1] at h
      obtain ⟨g1, q, g2, g3⟩ := scan_blank a b (run + 1) c ha.2 ha.1 (by omega) h
      rw [List.length_cons]
      exact ⟨by omega, q, g2, by rw [show run + (a.length + 1) = run + 1 + a.length by omega]; exact g3⟩
theorem scan_word : ∀ (a b : Bytes) (run : Nat) (prev : Option UInt8), a.all (fun c => !wb c) = true → run ≤ 69 → scan run prev (a ++ b) = true → run + a.length ≤ 69 ∧ ∃ q, (a ≠ [] → ∃ x, q = some x ∧ wb x = false) ∧ scan (run + a.length) q b = true
  | [], b, run, prev, _, hr, h => ⟨hr, prev, fun e => absurd rfl e, h⟩
  | c :: a, b, run, prev, ha, hr, h => by
    rw [List.all_cons, Bool.and_eq_true] at ha
    have hc : wb c = false := by simpa using ha.1
    have ht : turn prev c = false := by unfold turn; cases prev <;> simp [hc]
    rw [List.cons_append, scan, ht, if_neg (show ¬ (false = true) by decide)] at h
    by_cases h1 : 69 < run + 1
    · rw [if_pos h1] at h; cases h
    · rw [if_neg h1] at h
      obtain ⟨g1, q, g2, g3⟩ := scan_word a b (run + 1) (some c) ha.2 (by omega) h
      rw [List.length_cons]
      refine ⟨by omega, ?_⟩
      rw [show run + (a.length + 1) = run + 1 + a.length by omega]
      cases a with
      | nil => exact ⟨some c, fun _ => ⟨c, rfl, hc⟩, h⟩
      | cons d a => exact ⟨q, fun _ => g2 (by simp), g3⟩
theorem all_takeWhile (p : UInt8 → Bool) : ∀ l : Bytes, (l.takeWhile p).all p = true
  | [] => rfl
  | c :: r => by
    by_cases h : p c = true
    · rw [List.takeWhile_cons_of_pos h, List.all_cons, h, all_takeWhile p r]; rfl
    · rw [List.takeWhile_cons_of_neg h]; rfl
theorem take_lead (s : Bytes) : s = s.takeWhile wb ++ s.drop (lead s) := by
  have h := List.takeWhile_append_dropWhile (p := wb) (l := s)
  rw [drop_lead] at h
  exact h.symm
theorem scan_piece (s : Bytes) (run : Nat) (p : UInt8) (hs : s ≠ []) (hw : wb (s.headD 0) = true) (hp : wb p = false) (h : scan run (some p) s = true) :
    pieceL s ≤ 69 ∧ (s.drop (pieceL s) = [] ∨ ∃ q, wb q = false ∧ scan (pieceL s) (some q) (s.drop (pieceL s)) = true) := by
  cases s with
  | nil => exact absurd rfl hs
  | cons c r =>
    rw [List.headD_cons] at hw
    have ht : turn (some p) c = true := by unfold turn; simp [hw, hp]
    rw [scan, ht, if_pos rfl, if_neg (by decide)] at h
    have hlead : lead (c :: r) = lead r + 1 := by unfold lead; rw [List.takeWhile_cons_of_pos hw]; rfl
    have hd1 : (c :: r).drop (lead (c :: r)) = r.drop (lead r) := by rw [hlead]; rfl
    rw [take_lead r] at h
    obtain ⟨g1, q, g2, g3⟩ := scan_blank _ _ 1 c (all_takeWhile wb r) hw (by omega) h
    have hl : (r.takeWhile wb).length = lead r := rfl
    rw [hl] at g1 g3
    have hsplit : r.drop (lead r) = (r.drop (lead r)).takeWhile (fun c => !wb c) ++ (r.drop (lead r)).drop (word (r.drop (lead r))) := by
      have e := List.takeWhile_append_dropWhile (p := fun c => !wb c) (l := r.drop (lead r))
      rw [← drop_takeWhile] at e
      exact e.symm
    rw [hsplit] at g3
    obtain ⟨k1, q2, k2, k3⟩ := scan_word _ _ (1 + lead r) (some q) (all_takeWhile _ _) g1 g3
    have hwl : ((r.drop (lead r)).takeWhile (fun c => !wb c)).length = word (r.drop (lead r)) := rfl
    have hpc : pieceL (c :: r) = 1 + lead r + word (r.drop (lead r)) := by unfold pieceL; rw [hd1, hlead]; omega
    have hdp : (c :: r).drop (pieceL (c :: r)) = (r.drop (lead r)).drop (word (r.drop (lead r))) := by
      rw [hpc, show 1 + lead r + word (r.drop (lead r)) = (lead r + word (r.drop (lead r))) + 1 by omega, List.drop_succ_cons, List.drop_drop]
    rw [hwl] at k1 k3
    refine ⟨by omega, ?_⟩
    rw [hdp, hpc]
    by_cases he : (r.drop (lead r)).takeWhile (fun c => !wb c) = []
    · left
      have hn := dropWhile_head wb r
      rw [drop_lead] at hn
      rcases hn with hn | hn
      · rw [hn]; rfl
      · cases e : r.drop (lead r) with
        | nil => rfl
        | cons d t =>
          rw [e, List.headD_cons] at hn
          rw [e, List.takeWhile_cons_of_pos (by simpa using hn)] at he
          simp at he
    · obtain ⟨x, rfl, hx⟩ := k2 he
      exact .inr ⟨x, hx, k3⟩
theorem lines78 : ∀ (f pos : Nat) (s cur : Bytes) (run : Nat) (p : UInt8), s.length ≤ f → (s = [] ∨ (wb (s.headD 0) = true ∧ wb p = false ∧ scan run (some p) s = true)) → cur.length = pos → pos ≤ 78 → ∀ x ∈ linesFrom f false pos s cur, x.length ≤ 78
  | 0, pos, s, cur, run, p, hl, _, hc, hp, x, hx => by
    rw [linesFrom, List.mem_singleton] at hx
    rw [hx]; omega
  | f + 1, pos, s, cur, run, p, hl, hs, hc, hp, x, hx => by
    unfold linesFrom at hx
    by_cases h0 : s = []
    · rw [if_pos h0, List.mem_singleton] at hx
      rw [hx]; omega
    · obtain ⟨hw, hpp, hsc⟩ := hs.resolve_left h0
      obtain ⟨g1, g2⟩ := scan_piece s run p h0 hw hpp hsc
      have hpos := pieceL_pos s h0
      have hple := pieceL_le s
      have hdl : (s.drop (pieceL s)).length ≤ f := by rw [List.length_drop]; omega
      have hnext : ∃ q, s.drop (pieceL s) = [] ∨ (wb ((s.drop (pieceL s)).headD 0) = true ∧ wb q = false ∧ scan (pieceL s) (some q) (s.drop (pieceL s)) = true) := by
        rcases g2 with g2 | ⟨q, q1, q2⟩
        · exact ⟨0, .inl g2⟩
        · rcases piece_next s with h | h
          · exact ⟨0, .inl h⟩
          · exact ⟨q, .inr ⟨h, q1, q2⟩⟩
      obtain ⟨q, hq⟩ := hnext
      have htk : (s.take (pieceL s)).length = pieceL s := by rw [List.length_take]; omega
      rw [if_neg h0] at hx
      by_cases hb : brk false pos s = true
      · rw [if_pos hb] at hx
        rcases List.mem_cons.1 hx with rfl | hx
        · omega
        · exact lines78 f (0 + pieceL s) _ _ (pieceL s) q hdl hq (by omega) (by omega) x hx
      · rw [if_neg hb] at hx
        have hb' : ¬ 78 < pos + pieceL s := by
          intro h
          exact hb (by unfold brk; simp [h])
        exact lines78 f (pos + pieceL s) _ _ (pieceL s) q hdl hq (by rw [List.length_append]; omega) (by omega) x hx
theorem trim_head {v : Bytes} (h : trim v = v) (h0 : v ≠ []) : wb (v.headD 0) = false := by
  cases v with
  | nil => exact absurd rfl h0
  | cons c r =>
    rw [List.headD_cons]
    cases hc : wb c with
    | false => rfl
    | true =>
      exfalso
      rw [trim_eq] at h
      have e : ltrim (c :: r) = ltrim r := List.dropWhile_cons_of_pos hc
      rw [e] at h
      have l1 : (rtrim (ltrim r)).length ≤ (ltrim r).length := by
        unfold rtrim
        have := (List.dropWhile_sublist wb (l := (ltrim r).reverse)).length_le
        rw [List.length_reverse] at this ⊢
        exact this
      have l2 : (ltrim r).length ≤ r.length := (List.dropWhile_sublist wb (l := r)).length_le
      rw [h, List.length_cons] at l1
      omega
theorem fold78 (n v : Bytes) (hn : n.length ≤ 7) (hv : trim v = v) (hs : scan 0 none v = true) : ∀ x ∈ linesFrom (v.length + 1) true (n.length + 1) (lead1 v) (n ++ [58]), x.length ≤ 78 := by
  intro x hx
  by_cases h0 : v = []
  · subst h0
    rw [show lead1 [] = [] from rfl, linesFrom, if_pos rfl, List.mem_singleton] at hx
    rw [hx, List.length_append]; simp only [List.length_cons, List.length_nil]; omega
  · have hl1 : lead1 v = 32 :: v := by unfold lead1; rw [if_neg h0]
    have hhd := trim_head hv h0
    have hlead : lead (32 :: v) = 1 := by
      unfold lead
      rw [List.takeWhile_cons_of_pos (by decide)]
      cases v with
      | nil => rfl
      | cons c r => rw [List.headD_cons] at hhd; rw [List.takeWhile_cons_of_neg (by rw [hhd]; decide)]; rfl
    have hpc : pieceL (32 :: v) = 1 + word v := by unfold pieceL; rw [hlead]; rfl
    have hsplit : v = v.takeWhile (fun c => !wb c) ++ v.drop (word v) := by
      have e := List.takeWhile_append_dropWhile (p := fun c => !wb c) (l := v)
      rw [← drop_takeWhile] at e
      exact e.symm
    have hne : v.takeWhile (fun c => !wb c) ≠ [] := by
      cases v with
      | nil => exact absurd rfl h0
      | cons c r => rw [List.headD_cons] at hhd; rw [List.takeWhile_cons_of_pos (by simpa using hhd)]; simp
    rw [hsplit] at hs
    obtain ⟨g1, q, g2, g3⟩ := scan_word _ _ 0 none (all_takeWhile _ _) (by omega) hs
    obtain ⟨y, rfl, hy⟩ := g2 hne
    have hwl : (v.takeWhile (fun c => !wb c)).length = word v := rfl
    rw [hwl] at g1 g3
    have hdp : (32 :: v).drop (pieceL (32 :: v)) = v.drop (word v) := by rw [hpc, show 1 + word v = word v + 1 by omega, List.drop_succ_cons]
    have hwle := word_le v
    rw [hl1] at hx
    unfold linesFrom at hx
    rw [if_neg (by simp), if_neg (show ¬ brk true (n.length + 1) (32 :: v) = true by unfold brk; simp), hdp] at hx
    refine lines78 v.length (n.length + 1 + pieceL (32 :: v)) (v.drop (word v)) _ (0 + word v) y (by rw [List.length_drop]; omega) ?_ ?_ (by omega) x hx
    · rcases piece_next (32 :: v) with h | h
      · rw [hdp] at h; exact .inl h
      · rw [hdp] at h; exact .inr ⟨h, hy, g3⟩
    · rw [List.length_append, List.length_append, List.length_take, List.length_cons]
      simp only [List.length_cons, List.length_nil]
      omega
/-! the loops -/
theorem eq32 (c : UInt8) : ((c.toNat : Int) = 32) = (c = 32) := propext ⟨fun h => UInt8.toNat_inj.1 (show c.toNat = 32 by omega), fun h => by rw [h]; rfl⟩
theorem eq9 (c : UInt8) : ((c.toNat : Int) = 9) = (c = 9) := propext ⟨fun h => UInt8.toNat_inj.1 (show c.toNat = 9 by omega), fun h => by rw [h]; rfl⟩
theorem wb_or (c : UInt8) : (wb c = true) = (c = 32 ∨ c = 9) := by unfold wb; simp
theorem wrap_sub (a b : Nat) (h : b ≤ a) (ha : a ≤ 1000000000) : wrap64 ((a : Int) - (b : Int)) = ((a - b : Nat) : Int) := by
  rw [wrap_id (by omega) (by omega)]
  omega
theorem wrap_pred (a : Nat) (h : 0 < a) (ha : a ≤ 1000000000) : wrap64 ((a : Int) - 1) = ((a - 1 : Nat) : Int) := by
  rw [wrap_id (by omega) (by omega)]
  omega
theorem j2_is (n v : ByteArray) (k run i : Nat) (b : Bool) (hi : i ≤ 1000000) :
    bulletinlaw15_HeadFolds.j2 (k + 1) ((run + 1 : Nat) : Int) (v.size : Int) (i : Int) b n v n v = if 69 < (if b = true then 1 else run + 1) then some true else bulletinlaw15_HeadFolds.l0 k (((if b = true then 1 else run + 1) : Nat) : Int) (v.size : Int) ((i + 1 : Nat) : Int) n v n v := by
  rw [bulletinlaw15_HeadFolds.j2, wrap_succ i (by omega)]
  cases b with
  | true => rw [if_pos rfl, if_neg (by decide), if_pos rfl, if_neg (by decide)]; rfl
  | false =>
    rw [if_neg (by decide), if_neg (show ¬ (false = true) by decide)]
    by_cases h : 69 < run + 1
    · rw [if_pos (by omega), if_pos h]
    · rw [if_neg (by omega), if_neg h]
theorem turn_step (n v : ByteArray) (hv : v.size ≤ 3000) (k run i : Nat) (c : UInt8) (r : Bytes) (prev : Option UInt8) (h : (bs v).drop i = c :: r) (hp : (i = 0 ∧ prev = none) ∨ (0 < i ∧ ∃ p, prev = some p ∧ bt v ((i - 1 : Nat) : Int) = (p.toNat : Int))) (hr : run ≤ 69) :
    bulletinlaw15_HeadFolds.l0 (k + 1) (run : Int) (v.size : Int) (i : Int) n v n v = bulletinlaw15_HeadFolds.j2 k ((run + 1 : Nat) : Int) (v.size : Int) (i : Int) (turn prev c) n v n v := by
  obtain ⟨h1, h2, h3, h4⟩ := drop_cons h
  rw [bs_length] at h1
  rw [bulletinlaw15_HeadFolds.l0, wrap_succ run (by omega), if_pos (by omega)]
  rcases hp with ⟨rfl, rfl⟩ | ⟨hi, p, rfl, hb⟩
  · rw [if_neg (by omega)]; rfl
  · rw [if_pos (by omega), if_pos (by omega), if_pos (by omega), bt_drop h, wrap_pred i hi (by omega), hb]
    simp only [eq32, eq9]
    have hq : ((p.toNat : Int) != 9) = !decide (p = 9) := by
      rw [Bool.eq_iff_iff, bne_iff_ne, Bool.not_eq_true', decide_eq_false_iff_not]
      exact ⟨fun h e => h (by rw [e]; rfl), fun h e => h (UInt8.toNat_inj.1 (show p.toNat = 9 by omega))⟩
    have ht : turn (some p) c = (wb c && !wb p) := rfl
    have hwp : ∀ x : UInt8, wb x = (decide (x = 32) || decide (x = 9)) := fun x => by rw [Bool.eq_iff_iff, wb_or]; simp
    rw [hq, ht, hwp c, hwp p]
    by_cases a : c = 32
    · rw [if_pos a, if_pos (by omega), if_pos (by omega)]
      by_cases b : p = 32
      · rw [if_pos b]; simp [b]
      · rw [if_neg b]; simp [a, b]
    · rw [if_neg a]
      by_cases a2 : c = 9
      · rw [if_pos a2, if_pos (by omega), if_pos (by omega)]
        by_cases b : p = 32
        · rw [if_pos b]; simp [b]
        · rw [if_neg b]; simp [a2, b]
      · rw [if_neg a2]; simp [a, a2]
theorem scan_rounds (n v : ByteArray) (hv : v.size ≤ 3000) (B : Nat) (prev0 : Option UInt8) :
    ∀ (l : Bytes) (i run k : Nat) (prev : Option UInt8), (bs v).drop i = l → i ≤ v.size → run ≤ 69 → ((i = 0 ∧ prev = none) ∨ (0 < i ∧ ∃ p, prev = some p ∧ bt v ((i - 1 : Nat) : Int) = (p.toNat : Int))) → B + 2 * l.length + 2 < k →
    (scan run prev l = true → ∀ k' run', B ≤ k' → bulletinlaw15_HeadFolds.l0 (k' + 1) run' (v.size : Int) (v.size : Int) n v n v = some true) →
    bulletinlaw15_HeadFolds.l0 k (run : Int) (v.size : Int) (i : Int) n v n v = some true := by
  intro l
  induction l with
  | nil =>
    intro i run k prev h hi hr hp hk hV
    have := drop_nil h
    rw [bs_length] at this
    obtain rfl : i = v.size := by omega
    obtain ⟨k, rfl⟩ : ∃ q, k = q + 1 := ⟨k - 1, by omega⟩
    exact hV rfl k _ (by simp at hk; omega)
  | cons c r ih =>
    intro i run k prev h hi hr hp hk hV
    obtain ⟨k, rfl⟩ : ∃ q, k = q + 2 := ⟨k - 2, by omega⟩
    simp only [List.length_cons] at hk
    obtain ⟨h1, h2, h3, h4⟩ := drop_cons h
    rw [bs_length] at h1
    rw [turn_step n v hv (k + 1) run i c r prev h hp hr, j2_is n v k run i _ (by omega)]
    rw [scan] at hV
    generalize (if turn prev c = true then 1 else run + 1) = m at hV ⊢
    by_cases hm : 69 < m
    · rw [if_pos hm]
    · rw [if_neg hm] at hV ⊢
      refine ih (i + 1) m k (some c) h3 (by omega) (by omega) (.inr ⟨by omega, c, rfl, ?_⟩) (by omega) hV
      rw [Nat.add_sub_cancel]
      exact bt_drop h
theorem line_rounds2 (s : ByteArray) (hs : s.size ≤ 1000000) (at0 : Nat) (x : Bytes) (hx : x.length ≤ 78) (hat : 0 < at0 → bt s (at0 : Int) = 32 ∨ bt s (at0 : Int) = 9) (B : Nat) :
    ∀ (y : Bytes) (rest : Bytes) (i k : Nat), (bs s).drop i = y ++ (13 :: 10 :: rest) → noCr y → i + y.length = at0 + x.length → B + y.length + 2 < k →
    (∀ k', B ≤ k' → bulletinlaw15_HeadFolds.l1 k' s ((at0 + x.length + 2 : Nat) : Int) ((at0 + x.length + 1 : Nat) : Int) = some true) → bulletinlaw15_HeadFolds.l1 k s (at0 : Int) (i : Int) = some true := by
  intro y
  induction y with
  | nil =>
    intro rest i k h hcr hi hk hV
    obtain ⟨k, rfl⟩ : ∃ q, k = q + 1 := ⟨k - 1, by omega⟩
    rw [List.nil_append] at h
    obtain ⟨h1, h2, h3, h4⟩ := drop_cons h
    obtain ⟨g1, g2, g3, g4⟩ := drop_cons h3
    rw [bs_length] at h1 g1
    simp only [List.length_nil, Nat.add_zero] at hi
    rw [← hi] at hV
    rw [bulletinlaw15_HeadFolds.l1, wrap_succ i (by omega), wrap_two i (by omega), if_pos (by omega), if_pos (by omega), if_pos (by omega), bt_drop h, if_pos (by rfl), wrap_sub i at0 (by omega) (by omega), if_neg (by omega)]
    have hfin := hV k (by omega)
    by_cases ha : 0 < at0
    · rw [if_pos (by omega), if_pos (by omega), if_pos (by omega), hfin]
      rcases hat ha with e | e
      · rw [if_pos e]
      · rw [e, if_neg (by decide), if_pos rfl]
    · rw [if_neg (by omega), hfin]
  | cons c y ih =>
    intro rest i k h hcr hi hk hV
    obtain ⟨k, rfl⟩ : ∃ q, k = q + 1 := ⟨k - 1, by omega⟩
    simp only [List.length_cons] at hi hk
    rw [List.cons_append] at h
    obtain ⟨h1, h2, h3, h4⟩ := drop_cons h
    rw [bs_length] at h1
    have hlen := congrArg List.length h3
    rw [List.length_drop, bs_length, List.length_append, List.length_cons] at hlen
    have hc : c ≠ 13 := hcr c (by simp)
    have hn : ¬ ((c.toNat : Int) = 13) := fun e => hc (UInt8.toNat_inj.1 (show c.toNat = 13 by omega))
    rw [bulletinlaw15_HeadFolds.l1, wrap_succ i (by omega), if_pos (by omega), if_pos (by omega), if_pos (by omega), bt_drop h, if_neg hn]
    exact ih rest (i + 1) k h3 (fun d hd => hcr d (List.mem_cons_of_mem _ hd)) (by omega) (by omega) hV
theorem all_lines (s : ByteArray) (hs : s.size ≤ 1000000) : ∀ (xs : List Bytes) (at0 k : Nat), (bs s).drop at0 = flat xs → at0 ≤ s.size → (∀ x ∈ xs, x.length ≤ 78 ∧ noCr x) → (∀ x ∈ (if at0 = 0 then xs.tail else xs), wb (x.headD 0) = true ∧ x ≠ []) →
    2 * (flat xs).length + 4 < k → bulletinlaw15_HeadFolds.l1 k s (at0 : Int) (at0 : Int) = some true
  | [], at0, k, h, ha, _, _, hk => by
    obtain ⟨k, rfl⟩ : ∃ q, k = q + 1 := ⟨k - 1, by omega⟩
    have := drop_nil h
    rw [bs_length] at this
    rw [bulletinlaw15_HeadFolds.l1, wrap_succ at0 (by omega), if_neg (by omega)]
    congr 1
    rw [beq_iff_eq]
    omega
  | x :: xs, at0, k, h, ha, hx, hw, hk => by
    obtain ⟨hx1, hx2⟩ := hx x (by simp)
    rw [flat_cons] at h hk
    rw [List.length_append, List.length_cons, List.length_cons] at hk
    have hlen := congrArg List.length h
    rw [List.length_drop, bs_length, List.length_append, List.length_cons, List.length_cons] at hlen
    have hd1 : (bs s).drop (at0 + x.length) = 13 :: 10 :: flat xs := by rw [← List.drop_drop, h, List.drop_left]
    obtain ⟨d1, d2, d3, d4⟩ := drop_cons hd1
    obtain ⟨e1, e2, e3, e4⟩ := drop_cons d3
    have ih := fun k' hk' => all_lines s hs xs (at0 + x.length + 2) k' e3 (by omega) (fun y hy => hx y (List.mem_cons_of_mem _ hy)) (fun y hy => by
      rw [if_neg (by omega)] at hy
      refine hw y ?_
      split
      · exact hy
      · exact List.mem_cons_of_mem _ hy) hk'
    refine line_rounds2 s hs at0 x hx1 (fun hpos => ?_) ((flat xs).length * 2 + 6) x (flat xs) at0 k h hx2 rfl (by omega) (fun k' hk' => ?_)
    · obtain ⟨w1, w2⟩ := hw x (by rw [if_neg (by omega)]; simp)
      cases x with
      | nil => exact absurd rfl w2
      | cons c r =>
        rw [List.headD_cons, wb_or] at w1
        rw [List.cons_append] at h
        rw [bt_drop h]
        rcases w1 with rfl | rfl
        · exact .inl rfl
        · exact .inr rfl
    · obtain ⟨k', rfl⟩ : ∃ q, k' = q + 1 := ⟨k' - 1, by omega⟩
      have hz : s.size = at0 + x.length + 2 + (flat xs).length := by omega
      rw [bulletinlaw15_HeadFolds.l1]
      by_cases hend : (flat xs).length = 0
      · rw [wrap_succ _ (by omega), if_neg (by omega)]
        congr 1
        rw [beq_iff_eq]
        omega
      · rw [wrap_succ _ (by omega), if_pos (by omega), if_pos (by omega), if_pos (by rw [bs_length] at e1; omega), bt_drop d3, if_neg (by decide)]
        exact ih k' (by omega)
theorem HeadFolds (n v : ByteArray) : ∃ k, bulletinlaw15_HeadFolds.f k n v = some true := by
  refine ⟨1000000, ?_⟩
  generalize hk : (1000000 : Nat) = k
  obtain ⟨k, rfl⟩ : ∃ m, k = m + 1 := ⟨k - 1, by omega⟩
  have hw := works15 (k + 1) (by omega)
  have hj : ∀ a b c d, bulletinlaw15_HeadFolds.j0 (k + 1) true a b c d = some true := fun a b c d => by rw [bulletinlaw15_HeadFolds.j0, if_pos rfl]
  unfold bulletinlaw15_HeadFolds.f
  rw [hw, Option.bind_some, if_pos rfl]
  by_cases h1 : (n.size : Int) > 7
  · rw [if_pos h1, hj]
  rw [if_neg h1]
  by_cases h2 : (v.size : Int) > 3000
  · rw [if_pos h2, hj]
  have hbn := bs_length n
  have hbv := bs_length v
  have hR : head_Right.f n v = some (rightL (bs n) (bs v)) := by
    have := @headright_is (bs n) (bs v) (by omega) (by omega)
    rwa [str_bs, str_bs] at this
  rw [if_neg h2, hR, Option.bind_some]
  cases hr : rightL (bs n) (bs v) with
  | false => exact hj _ _ _ _
  | true =>
    show bulletinlaw15_HeadFolds.j0 (k + 1) false n v n v = some true
    rw [bulletinlaw15_HeadFolds.j0, if_neg (by decide)]
    refine scan_rounds n v (by omega) 500000 none (bs v) 0 0 k none (by rw [List.drop_zero]) (by omega) (by omega) (.inl ⟨rfl, rfl⟩) (by omega) (fun hsc k' run' hk' => ?_)
    obtain ⟨t, Ls, e1, e2, e3, e4, e5, e6, e7, e8⟩ := field_lines hr
    have h78 := fold78 (bs n) (bs v) (by omega) e7 hsc
    rw [e8] at h78
    have hS : head_Show.f n v = some (str (showL (bs n) (bs v))) := by
      unfold head_Show.f
      rw [if_pos (by omega), if_pos (by omega)]
    have hsl := showL_length (bs n) (bs v)
    have hz : (str (showL (bs n) (bs v))).size = (showL (bs n) (bs v)).length := str_size _
    have hall : (bs n).all nameB = true := by unfold named at e3; exact (Bool.and_eq_true _ _ ▸ e3).1
    have h0 : textual (bs n ++ (58 :: t)) = true := by
      rw [textual_app, name_text hall, Bool.true_and, show (58 :: t : Bytes) = [58] ++ t from rfl, textual_app, e4]; decide
    rw [bulletinlaw15_HeadFolds.l0, if_neg (by omega), hS, Option.bind_some]
    refine all_lines _ (by omega) ((bs n ++ (58 :: t)) :: Ls) 0 k' (by rw [List.drop_zero, bs_str, e1]) (by omega) (fun x hx => ⟨h78 x hx, ?_⟩) (fun x hx => ?_) (by rw [← e1]; omega)
    · rcases List.mem_cons.1 hx with rfl | hx
      · exact text_noCr h0
      · exact text_noCr (e6 x hx).2.2.2
    · rw [if_pos rfl, List.tail_cons] at hx
      exact ⟨(e6 x hx).1, (e6 x hx).2.1⟩
end Go.Proofs.YtlomcmdbbnbciaaDoor.Pl
-- the row of the law HeadFolds, out of its pure statement and its walk
namespace Go.Proofs.YtlomcmdbbnbciaaDoor.headFolds
open Go.ChangeShapes Go.WideShapes Go.ChangeAt Go.RowKit Go.Joins
open Go.ChangeMaps (open_string shut_string)
set_option maxRecDepth 100000 in
theorem lifted (os : Os) (started : os.Started) (H : Type) (enc : TypeId × Value → H) :
    ReturnsInHanded {} Tryd.checked os 11 .any (fun w args => (Rows.headFoldsSpec.pre enc Tryd.prog Tryd.f11 [] false w args ∧ laidMetH Tryd.prog listed w) ∧ sizedMet enc Tryd.prog Tryd.f11 (OpenSpec.ofChange Rows.headFoldsSpec) false w args) (Rows.headFoldsSpec.post enc Tryd.prog Tryd.f11 false true false false) := by
  refine lift_both (C := Tryd.checked) (X := fun w _ => laidMetH Tryd.prog listed w) (fun _ _ _ hh h => h.of_heap hh) own started (by kernel_rfl) Tryd.func11
    (ChangeSpec.witness_at (enc := enc) (C := Tryd.checked) (os := os) (X := fun w _ => laidMetH Tryd.prog listed w) false (laidWorld os) #[.agg #[.string ByteArray.empty, .string ByteArray.empty]] 8 rfl (by kernel_rfl) (by kernel_rfl) (by kernel_rfl) (by kernel_rfl) (by kernel_rfl) (laid_met os _)) ?_
  intro W base args ds gs before hval0 hW _ hL hSh
  have hG : Fn.Glob W := Fn.glob_of hL hSh
  have hval : ∀ (j : Nat) t v, Tryd.f11.params[j]? = some t → args[j]? = some v → Value.okWide Tryd.prog W .any base t v := hval0
  have hW' := hW
  obtain ⟨p, q, hA0, hV, rfl, _, _⟩ := hW
  have hA : DataW.TrodAll enc Tryd.prog W 0 (fun _ => true) true Tryd.f11.params.toList args.toList ds p := hA0
  rw [Tryd.params11] at hA hval
  obtain ⟨v0, vs0, d0, ds0, p0, q0, hargs, rfl, rfl, h0, r0⟩ := trodAll_cons hA
  obtain ⟨rfl, rfl, rfl⟩ := trodAll_nil r0
  obtain rfl : args = #[v0] := by cases args; simp_all
  obtain ⟨rfl, rfl⟩ := trodVars_none hV
  have k0 := h0
  have lt0 : ∀ x ∈ p0, x.block < W.heap.size := by obtain ⟨m, hm⟩ := k0; exact DataW.trod_lt m _ _ _ hm
  obtain ⟨c0_0, c0_1, y0_0, y0_1, m0, rfl, _, _, g0_0, g0_1⟩ := open_agg2 Tryd.underlying59 (by kernel_rfl) (by kernel_rfl) (hval 0 59 v0 rfl rfl) h0
  obtain ⟨a0_0, e0_0, _, _⟩ := DataW.trod_string Tryd.underlying9 g0_0
  simp only [List.cons.injEq, and_true] at e0_0
  subst e0_0
  obtain ⟨a0_1, e0_1, _, _⟩ := DataW.trod_string Tryd.underlying9 g0_1
  simp only [List.cons.injEq, and_true] at e0_1
  subst e0_1
  obtain ⟨k, hk⟩ := Pl.HeadFolds a0_0 a0_1
  refine (Fn.bulletinlaw15_HeadFolds.calls k a0_0 a0_1 true W hG hk).mono ?_
  rintro e W' ⟨rfl, bel⟩
  exact ⟨_, rfl, _, _, _, [], _, [], hW', trodAll_mk1 (shut_bool Tryd.underlying4 _), (trodAll_cons_mk (Below.trod laidOut (by kernel_rfl) (of_decide_eq_true (by kernel_rfl)) k0 bel lt0) trodAll_mk0), rfl, bel.frame _, fun h => by cases h⟩
theorem over : Rows.headFoldsRow.holds Tryd.pinned (OpenSpec.ofChange Rows.headFoldsSpec) :=
  OpenClaim.holds_of_wide 11 Tryd.f11 rfl rfl rfl rfl rfl rfl rfl ⟨rfl, rfl, rfl, rfl, rfl⟩ rfl rfl rfl rfl rfl (by kernel_rfl) Tryd.func11 (by kernel_rfl)
    (of_decide_eq_true (by kernel_rfl)) (by unfold Func.isWrapper; first | (rw [if_pos (by decide +kernel)]; kernel_rfl) | (rw [if_neg (by decide +kernel)]; exact ⟨rfl, rfl⟩))
    (fun os started H enc _ => lifted os started H enc)
theorem proved : Rows.HeadFoldsSaid := over
#print axioms proved
theorem card : Rows.HeadFoldsCardSaid :=
  Claim7.holds_tied_plain_at .later [] [.data, .pinned] true (true, "a3f6bcdc9cb347ffdc7221f102fbc562a39496553b45ea8bedd4c5b8b6bf59b8") false
    proved (fun _ h => by cases h) (by kernel_rfl) (fun _ h => by cases h) headFolds_row_tie rfl ⟨rfl, rfl⟩ (by kernel_rfl) rfl
    (fun f fn hf hfn => by
      obtain rfl : f = 11 := Option.some.inj ((show Tryd.prog.funcNamed "bulletin/bulletinlaw15.HeadFolds" = some 11 by kernel_rfl).symm.trans hf) |>.symm
      obtain rfl : fn = Tryd.f11 := (Option.some.inj (Tryd.func11.symm.trans hfn)).symm
      exact ⟨by kernel_rfl, fun j t ht => by
        rw [Tryd.params11] at ht
        have hall : ([59] : List TypeId).all (fun t => !(Tryd.prog.wantsStandIn t)) = true := by kernel_rfl
        have hm : t ∈ ([59] : List TypeId) := by simpa using Array.mem_of_getElem? ht
        have h2 : Tryd.prog.wantsStandIn t = false := by simpa using List.all_eq_true.1 hall t hm
        exact h2⟩)
    (by kernel_rfl)
#print axioms card
end Go.Proofs.YtlomcmdbbnbciaaDoor.headFolds
namespace Go.Proofs.YtlomcmdbbnbciaaDoor
theorem headFolds_holds : Rows.HeadFoldsCardSaid := headFolds.card
end Go.Proofs.YtlomcmdbbnbciaaDoor
