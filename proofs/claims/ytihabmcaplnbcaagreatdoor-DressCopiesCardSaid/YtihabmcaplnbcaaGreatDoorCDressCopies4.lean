/- A part of the proof of this sentence: DressCopies (36.3): any post, as a member gets it, by any token, is as the document has it, and the post itself is as it was; of at most 30 fields, names of at most 200, values and body of at most 3000 bytes. -/
import Derived.Test.YtihabmcaplnbcaaGreatDoorCDressCopies3
import Derived.Deep.SlicePairs
import Derived.ProofKit
import Derived.OpenShut
namespace Go.Proofs.YtihabmcaplnbcaaGreatDoor.Fn
open Go.RowKit Go.Proofs.YtihabmcaplnbcaaGreatDoorW.PrintWords Go.Proofs.YtihabmcaplnbcaaGreatDoorW.PrintLast Go.Proofs.YtihabmcaplnbcaaGreatDoorW.PrintMore
attribute [local go_sem] max2_int min2_int max_two min_two max_three min_three max_four min_four
set_option linter.unusedVariables false
set_option linter.unusedSimpArgs false

/-! ### bulletinlaw36_DressCopies: function 3 -/
mutual
def bulletinlaw36_DressCopies.j0 : Nat → ByteArray → ByteArray → ByteArray → Bool → List (S74) → ByteArray → Option (Bool)
 | 0, _, _, _, _, _, _ => none
 | k + 1, x0, x1, x3, x29, x335000, x335001 => if x29 = true then ((bulletinlaw36_works.f).bind fun t336 => (some t336)) else ((bulletinlaw16_To.f k x335000 x335001).bind fun bt337 => ((dress_Copy.f k x0 x1 bt337.1 bt337.2 x3).bind fun bt342 => ((bulletinref36_Copy.f k x0 x1 x335000 x335001 x3).bind fun bt347 => ((bulletinlaw16_Same.f k bt342.1 bt342.2 bt347.1 bt347.2).bind fun t351 => (if t351 = true then (bulletinlaw36_DressCopies.l0 k (bt342.1.length : Int) 0 x335000 x335001 bt337.1 bt337.2 bt342.1 bt342.2) else (some false))))))
def bulletinlaw36_DressCopies.l0 : Nat → Int → Int → List (S74) → ByteArray → List (S35) → ByteArray → List (S35) → ByteArray → Option (Bool)
 | 0, _, _, _, _, _, _, _, _ => none
 | k + 1, x48, x49, x335000, x335001, x342000, x342001, x347000, x347001 => if x49 < x48 then (if 0 ≤ x49 then (if x49 < (x347000.length : Int) then (bulletinlaw36_DressCopies.l0 k x48 (wrap64 (x49 + 1)) x335000 x335001 x342000 x342001 (x347000.set (x49 : Int).toNat (⟨(⟨#[115, 112, 111, 105, 108, 116]⟩ : ByteArray), (rd_T35 x347000 x49).f1⟩ : S35)) x347001) else (none)) else (none)) else ((bulletinlaw16_Same.f k x342000 x342001 x335000 x335001).bind fun t353 => (if t353 = true then ((bulletinlaw36_works.f).bind fun t354 => (some t354)) else (some false)))
end
def bulletinlaw36_DressCopies.f (k : Nat) (a0 : ByteArray) (a1 : ByteArray) (l2_0 : List (S74)) (a2_1 : ByteArray) (a3 : ByteArray) : Option (Bool) := (bulletinlaw16_Light.f k l2_0 a2_1).bind fun t335 => (if t335 = true then (if (a0.size : Int) > 300 then (bulletinlaw36_DressCopies.j0 k a0 a1 a3 true l2_0 a2_1) else (if (a1.size : Int) > 100 then (bulletinlaw36_DressCopies.j0 k a0 a1 a3 true l2_0 a2_1) else (bulletinlaw36_DressCopies.j0 k a0 a1 a3 (decide ((a3.size : Int) > 100)) l2_0 a2_1))) else (bulletinlaw36_DressCopies.j0 k a0 a1 a3 true l2_0 a2_1))
def bulletinlaw36_DressCopies.T5 : Bool × List (List Nat × List Nat) := (true, [([], []), ([], []), ([], []), ([], []), ([], []), ([1, 2, 3, 4], [1, 2, 3, 4]), ([0, 5, 5], [0, 5]), ([6], [6])])
def bulletinlaw36_DressCopies.B5 : List Nat := [0, 0, 0, 0, 0, 30, 63, 127]
theorem bulletinlaw36_DressCopies.tab5 : rtab .any (opsOf Tryz.f3 5) = bulletinlaw36_DressCopies.T5 := by kernel_rfl
theorem bulletinlaw36_DressCopies.bits5 : waitsOk bulletinlaw36_DressCopies.T5.2 bulletinlaw36_DressCopies.B5 = true := by kernel_rfl
set_option maxHeartbeats 8000000 in
set_option maxRecDepth 100000 in
theorem bulletinlaw36_DressCopies.calls (k : Nat) (a0 : ByteArray) (a1 : ByteArray) (A2_0 : Option Addr) (c2_0 : Nat) (l2_0 : List (S74)) (a2_1 : ByteArray) (a3 : ByteArray) (r : Bool) (w : World) (hG : Glob w) (hr2_0 : Kd.C k74 w A2_0 l2_0.length l2_0) (hc2_0 : l2_0.length ≤ c2_0) (h : bulletinlaw36_DressCopies.f k a0 a1 l2_0 a2_1 a3 = some r) :
  Calls Tryz.prog 3 #[.string a0, .string a1, .agg #[.slice A2_0 l2_0.length c2_0, .string a2_1], .string a3] w fun e w' => e = .returned (.bool r) ∧ Below w.heap.size w w' := by
 have hu24 := Tryz.underlying24
 have hu29 := Tryz.underlying29
 have HR2_0 := Aside0.mk hr2_0
 have HC2_0 := Aside0.mk hc2_0
 clear hr2_0 hc2_0
 have HB := Aside0.mk (Below.refl w.heap.size w)
 have H : ((bulletinlaw16_Light.f k l2_0 a2_1).bind fun t335 => (if t335 = true then (if (a0.size : Int) > 300 then (bulletinlaw36_DressCopies.j0 k a0 a1 a3 true l2_0 a2_1) else (if (a1.size : Int) > 100 then (bulletinlaw36_DressCopies.j0 k a0 a1 a3 true l2_0 a2_1) else (bulletinlaw36_DressCopies.j0 k a0 a1 a3 (decide ((a3.size : Int) > 100)) l2_0 a2_1))) else (bulletinlaw36_DressCopies.j0 k a0 a1 a3 true l2_0 a2_1))) = some r := h
 clear h
 have HC5 := Aside0.mk H
 clear H
 go_enter Tryz.func3, Tryz.ntmps3
 go_upto_region 1 with (first | ((with_reducible refine gate_dst (N := 6) rfl ?_); (try (refine gate_guard (by rfl) ?_; dsimp only)); refine box_event ?hg (N := 6) ?hd (cs := #[.slice A2_0 l2_0.length c2_0, .string a2_1]) (t := 24) ?hr ?_; (case hd => rfl); (case hg => rfl); (case hr => first | (go_simp; done) | (go_simp; rfl)); intro gb334 hg w6 hbox hb; have n0_ := Aside0.mk (below_step bw hb); have n1_ := Aside0.mk (hbox); have n2_ := Aside0.mk ((by rw [hg]; exact (below_size bw) : w.heap.size ≤ gb334)); have n3_ := Aside0.mk ((by rw [hg]; exact (below_size bw) : w.heap.size ≤ gb334)); clear HB; have HB := n0_; have BK334 := n1_; have GW334 := n2_; have GE334 := n3_; clear n0_ n1_ n2_ n3_; clear hb hbox hg))
 (try simp only [Act.put, List.setIfInBounds_toArray, List.set_cons_zero, List.set_cons_succ])
 go_cut [29] (fun v29 wc => ∃ (kq : Nat) (x29_4 : Bool), v29 = .bool x29_4 ∧ Aside0 (bulletinlaw36_DressCopies.j0 kq a0 a1 a3 x29_4 l2_0 a2_1 = some r) ∧ Aside0 (kq ≤ k) ∧ Aside0 (wc.heap[gb334]? = some (.cells #[(.slice A2_0 l2_0.length c2_0), .string a2_1] 24 (0, 0))) ∧ Aside0 (Below w.heap.size w wc))
 case first =>
  have H := HC5.out
  clear HC5
  replace H := Option.bind_eq_some_iff.mp H
  obtain ⟨t335, A70, H⟩ := H
  replace H : (if t335 = true then (if (a0.size : Int) > 300 then (bulletinlaw36_DressCopies.j0 k a0 a1 a3 true l2_0 a2_1) else (if (a1.size : Int) > 100 then (bulletinlaw36_DressCopies.j0 k a0 a1 a3 true l2_0 a2_1) else (bulletinlaw36_DressCopies.j0 k a0 a1 a3 (decide ((a3.size : Int) > 100)) l2_0 a2_1))) else (bulletinlaw36_DressCopies.j0 k a0 a1 a3 true l2_0 a2_1)) = some r := H
  have A7 := Aside0.mk A70
  clear A70
  by_cases c8 : t335 = true
  ·subst c8
   have H1 : (if (a0.size : Int) > 300 then (bulletinlaw36_DressCopies.j0 k a0 a1 a3 true l2_0 a2_1) else (if (a1.size : Int) > 100 then (bulletinlaw36_DressCopies.j0 k a0 a1 a3 true l2_0 a2_1) else (bulletinlaw36_DressCopies.j0 k a0 a1 a3 (decide ((a3.size : Int) > 100)) l2_0 a2_1))) = some r := by rw [if_pos rfl] at H; exact H
   clear H
   have H := H1
   clear H1
   by_cases c9 : (a0.size : Int) > 300
   ·rw [if_pos c9] at H
    have c9b0 : decide (300 < (a0.size : Int)) = true := decide_eq_true c9
    have c9b1 : decide (300 < a0.size) = true := decide_eq_true (by omega)
    clear c9
    (first | rw [c9b0] | (simp only [i64_w, i32_w]; rw [c9b0]) | skip)
    have H' := Aside0.mk H
    clear H
    have hcz10_0 : w6.cell? ⟨gb334, 0, none⟩ = some (.slice A2_0 l2_0.length c2_0) := (blk_cell BK334.out 0).trans rfl
    have hcz10_1 : w6.cell? ⟨gb334, 1, none⟩ = some (.string a2_1) := (blk_cell BK334.out 1).trans rfl
    have hfz10_0 := blk_frozen BK334.out 0
    have hfz10_1 := blk_frozen BK334.out 1
    go_wp2_with (first | ((with_reducible refine gate_callee (f := 7) rfl ?_); refine goesL_ (some 13) rfl rfl Tryz.func7 (by kernel_rfl) rfl #[.agg #[.slice A2_0 l2_0.length c2_0, .string a2_1]] rfl am ?_; (with_reducible refine (bulletinlaw16_Light.calls k _ _ l2_0 a2_1 true _ ?side1 ?side2 A7.out).mono ?_); (case side1 => repeat (first | exact (Kd.C_below HR2_0.out HB.out) | (with_reducible refine Kd.C_alloc ?_ _) | (with_reducible refine Kd.C_drewN ?_ _) | (with_reducible refine Kd.C_drew ?_))); (case side2 => exact HC2_0.out); rintro e w11 ⟨rfl, hb⟩; refine ⟨_, rfl, ?_⟩; have n0_ := Aside0.mk (blk_below (g := gb334) (o := .cells #[.slice A2_0 l2_0.length c2_0, .string a2_1] 24 (0, 0)) bk hb); have n1_ := Aside0.mk (below_step bwS hb); clear BK334; clear HB; have BK334 := n0_; have HB := n1_; clear n0_ n1_; (try clear hb); (try clear hb2); (try clear hk); (try clear hi)))
    go_meet
    case rel => exact ⟨_, (true), cl, H', ⟨by first | omega | exact Nat.le_refl _⟩, ⟨bk⟩, ⟨bwS⟩⟩
   ·rw [if_neg c9] at H
    have c9b0 : decide (300 < (a0.size : Int)) = false := decide_eq_false c9
    have c9b1 : decide (300 < a0.size) = false := decide_eq_false (by omega)
    clear c9
    (first | rw [c9b0] | (simp only [i64_w, i32_w]; rw [c9b0]) | skip)
    by_cases c12 : (a1.size : Int) > 100
    ·rw [if_pos c12] at H
     have c12b0 : decide (100 < (a1.size : Int)) = true := decide_eq_true c12
     have c12b1 : decide (100 < a1.size) = true := decide_eq_true (by omega)
     clear c12
     have H' := Aside0.mk H
     clear H
     have hcz13_0 : w6.cell? ⟨gb334, 0, none⟩ = some (.slice A2_0 l2_0.length c2_0) := (blk_cell BK334.out 0).trans rfl
     have hcz13_1 : w6.cell? ⟨gb334, 1, none⟩ = some (.string a2_1) := (blk_cell BK334.out 1).trans rfl
     have hfz13_0 := blk_frozen BK334.out 0
     have hfz13_1 := blk_frozen BK334.out 1
     go_wp2_with (first | ((with_reducible refine gate_callee (f := 7) rfl ?_); refine goesL_ (some 13) rfl rfl Tryz.func7 (by kernel_rfl) rfl #[.agg #[.slice A2_0 l2_0.length c2_0, .string a2_1]] rfl am ?_; (with_reducible refine (bulletinlaw16_Light.calls k _ _ l2_0 a2_1 true _ ?side1 ?side2 A7.out).mono ?_); (case side1 => repeat (first | exact (Kd.C_below HR2_0.out HB.out) | (with_reducible refine Kd.C_alloc ?_ _) | (with_reducible refine Kd.C_drewN ?_ _) | (with_reducible refine Kd.C_drew ?_))); (case side2 => exact HC2_0.out); rintro e w14 ⟨rfl, hb⟩; refine ⟨_, rfl, ?_⟩; have n0_ := Aside0.mk (blk_below (g := gb334) (o := .cells #[.slice A2_0 l2_0.length c2_0, .string a2_1] 24 (0, 0)) bk hb); have n1_ := Aside0.mk (below_step bwS hb); clear BK334; clear HB; have BK334 := n0_; have HB := n1_; clear n0_ n1_; (try clear hb); (try clear hb2); (try clear hk); (try clear hi)))
     go_meet
     case rel => exact ⟨_, (true), cl, H', ⟨by first | omega | exact Nat.le_refl _⟩, ⟨bk⟩, ⟨bwS⟩⟩
    ·rw [if_neg c12] at H
     have c12b0 : decide (100 < (a1.size : Int)) = false := decide_eq_false c12
     have c12b1 : decide (100 < a1.size) = false := decide_eq_false (by omega)
     clear c12
     have H' := Aside0.mk H
     clear H
     have hcz15_0 : w6.cell? ⟨gb334, 0, none⟩ = some (.slice A2_0 l2_0.length c2_0) := (blk_cell BK334.out 0).trans rfl
     have hcz15_1 : w6.cell? ⟨gb334, 1, none⟩ = some (.string a2_1) := (blk_cell BK334.out 1).trans rfl
     have hfz15_0 := blk_frozen BK334.out 0
     have hfz15_1 := blk_frozen BK334.out 1
     go_wp2_with (first | ((with_reducible refine gate_callee (f := 7) rfl ?_); refine goesL_ (some 13) rfl rfl Tryz.func7 (by kernel_rfl) rfl #[.agg #[.slice A2_0 l2_0.length c2_0, .string a2_1]] rfl am ?_; (with_reducible refine (bulletinlaw16_Light.calls k _ _ l2_0 a2_1 true _ ?side1 ?side2 A7.out).mono ?_); (case side1 => repeat (first | exact (Kd.C_below HR2_0.out HB.out) | (with_reducible refine Kd.C_alloc ?_ _) | (with_reducible refine Kd.C_drewN ?_ _) | (with_reducible refine Kd.C_drew ?_))); (case side2 => exact HC2_0.out); rintro e w16 ⟨rfl, hb⟩; refine ⟨_, rfl, ?_⟩; have n0_ := Aside0.mk (blk_below (g := gb334) (o := .cells #[.slice A2_0 l2_0.length c2_0, .string a2_1] 24 (0, 0)) bk hb); have n1_ := Aside0.mk (below_step bwS hb); clear BK334; clear HB; have BK334 := n0_; have HB := n1_; clear n0_ n1_; (try clear hb); (try clear hb2); (try clear hk); (try clear hi)))
     go_meet
     case rel => exact ⟨_, (decide ((a3.size : Int) > 100)), cl, H', ⟨by first | omega | exact Nat.le_refl _⟩, ⟨bk⟩, ⟨bwS⟩⟩
  ·replace c8 := Bool.eq_false_iff.mpr c8
   subst c8
   have H1 : (bulletinlaw36_DressCopies.j0 k a0 a1 a3 true l2_0 a2_1) = some r := by rw [if_neg (show ¬ (false = true) by decide)] at H; exact H
   clear H
   have H := H1
   clear H1
   have H' := Aside0.mk H
   clear H
   have hcz17_0 : w6.cell? ⟨gb334, 0, none⟩ = some (.slice A2_0 l2_0.length c2_0) := (blk_cell BK334.out 0).trans rfl
   have hcz17_1 : w6.cell? ⟨gb334, 1, none⟩ = some (.string a2_1) := (blk_cell BK334.out 1).trans rfl
   have hfz17_0 := blk_frozen BK334.out 0
   have hfz17_1 := blk_frozen BK334.out 1
   go_wp2_with (first | ((with_reducible refine gate_callee (f := 7) rfl ?_); refine goesL_ (some 13) rfl rfl Tryz.func7 (by kernel_rfl) rfl #[.agg #[.slice A2_0 l2_0.length c2_0, .string a2_1]] rfl am ?_; (with_reducible refine (bulletinlaw16_Light.calls k _ _ l2_0 a2_1 false _ ?side1 ?side2 A7.out).mono ?_); (case side1 => repeat (first | exact (Kd.C_below HR2_0.out HB.out) | (with_reducible refine Kd.C_alloc ?_ _) | (with_reducible refine Kd.C_drewN ?_ _) | (with_reducible refine Kd.C_drew ?_))); (case side2 => exact HC2_0.out); rintro e w18 ⟨rfl, hb⟩; refine ⟨_, rfl, ?_⟩; have n0_ := Aside0.mk (blk_below (g := gb334) (o := .cells #[.slice A2_0 l2_0.length c2_0, .string a2_1] 24 (0, 0)) bk hb); have n1_ := Aside0.mk (below_step bwS hb); clear BK334; clear HB; have BK334 := n0_; have HB := n1_; clear n0_ n1_; (try clear hb); (try clear hb2); (try clear hk); (try clear hi)))
   go_meet
   case rel => exact ⟨_, (true), cl, H', ⟨by first | omega | exact Nat.le_refl _⟩, ⟨bk⟩, ⟨bwS⟩⟩
 case rest =>
  clear HC5
  try clear c1
  try clear c2
  try clear p2
  try clear c3
  try clear c7
  try clear c8
  try clear c9
  try clear c9b0
  try clear c9b1
  try clear c12
  try clear c12b0
  try clear c12b1
  try clear hcz10_0
  try clear hcz10_1
  try clear hcz13_0
  try clear hcz13_1
  try clear hcz15_0
  try clear hcz15_1
  try clear hcz17_0
  try clear hcz17_1
  try clear hfz10_0
  try clear hfz10_1
  try clear hfz13_0
  try clear hfz13_1
  try clear hfz15_0
  try clear hfz15_1
  try clear hfz17_0
  try clear hfz17_1
  obtain ⟨kq, x29_4, rfl, HA, HJ4, BK334, HB⟩ := hcut
  cases kq with
  | zero => exact absurd HA.out (by simp [bulletinlaw36_DressCopies.j0])
  | succ kj4 =>
   have H := HA.out
   clear HA
   simp only [bulletinlaw36_DressCopies.j0] at H
   by_cases c19 : x29_4 = true
   ·subst c19
    have H1 : ((bulletinlaw36_works.f).bind fun t336 => (some t336)) = some r := by rw [if_pos rfl] at H; exact H
    clear H
    have H := H1
    clear H1
    replace H := Option.bind_eq_some_iff.mp H
    obtain ⟨t336, A200, H⟩ := H
    replace H : (some t336) = some r := H
    have A20 := Aside0.mk A200
    clear A200
    obtain rfl := Option.some.inj H
    go_wp2_with (first | ((with_reducible refine gate_callee (f := 8) rfl ?_); refine goesL_ (some 30) rfl rfl Tryz.func8 (by kernel_rfl) rfl #[] rfl am ?_; (with_reducible refine (bulletinlaw36_works.calls (hG := by first | exact hG | exact Glob.below hG (by first | exact HB.out | (repeat (first | (with_reducible first | exact HB.out | apply below_alloc | apply pw_below_drewN | apply below_drew1 | refine below_set ?_ GE334.out | refine below_set ?_ GE341.out | refine below_set ?_ GE346.out) | exact HB.out))) | exact Glob.drawn hG (by repeat (first | exact Drawn0.refl _ | apply Drawn0.step)))  t336 _ A20.out).mono ?_); rintro e w21 ⟨rfl, hb⟩; refine ⟨_, rfl, ?_⟩; have n0_ := Aside0.mk (blk_below (g := gb334) (o := .cells #[.slice A2_0 l2_0.length c2_0, .string a2_1] 24 (0, 0)) bk hb); have n1_ := Aside0.mk (below_step bwS hb); clear BK334; clear HB; have BK334 := n0_; have HB := n1_; clear n0_ n1_; (try clear hb); (try clear hb2); (try clear hk); (try clear hi)))
    go_ret
    exact ⟨by first | rfl | (simp [errW_none, errW_some] <;> rfl) | (simp [*, errW_none, errW_some] <;> rfl), bwS⟩
   ·replace c19 := Bool.eq_false_iff.mpr c19
    subst c19
    have H1 : ((bulletinlaw16_To.f kj4 l2_0 a2_1).bind fun bt337 => ((dress_Copy.f kj4 a0 a1 bt337.1 bt337.2 a3).bind fun bt342 => ((bulletinref36_Copy.f kj4 a0 a1 l2_0 a2_1 a3).bind fun bt347 => ((bulletinlaw16_Same.f kj4 bt342.1 bt342.2 bt347.1 bt347.2).bind fun t351 => (if t351 = true then (bulletinlaw36_DressCopies.l0 kj4 (bt342.1.length : Int) 0 l2_0 a2_1 bt337.1 bt337.2 bt342.1 bt342.2) else (some false)))))) = some r := by rw [if_neg (show ¬ (false = true) by decide)] at H; exact H
    clear H
    have H := H1
    clear H1
    replace H := Option.bind_eq_some_iff.mp H
    obtain ⟨⟨t337, t340⟩, A220, H⟩ := H
    replace H : ((dress_Copy.f kj4 a0 a1 t337 t340 a3).bind fun bt342 => ((bulletinref36_Copy.f kj4 a0 a1 l2_0 a2_1 a3).bind fun bt347 => ((bulletinlaw16_Same.f kj4 bt342.1 bt342.2 bt347.1 bt347.2).bind fun t351 => (if t351 = true then (bulletinlaw36_DressCopies.l0 kj4 (bt342.1.length : Int) 0 l2_0 a2_1 t337 t340 bt342.1 bt342.2) else (some false))))) = some r := H
    have A22 := Aside0.mk A220
    clear A220
    replace H := Option.bind_eq_some_iff.mp H
    obtain ⟨⟨t342, t345⟩, A230, H⟩ := H
    replace H : ((bulletinref36_Copy.f kj4 a0 a1 l2_0 a2_1 a3).bind fun bt347 => ((bulletinlaw16_Same.f kj4 t342 t345 bt347.1 bt347.2).bind fun t351 => (if t351 = true then (bulletinlaw36_DressCopies.l0 kj4 (t342.length : Int) 0 l2_0 a2_1 t337 t340 t342 t345) else (some false)))) = some r := H
    have A23 := Aside0.mk A230
    clear A230
    replace H := Option.bind_eq_some_iff.mp H
    obtain ⟨⟨t347, t350⟩, A240, H⟩ := H
    replace H : ((bulletinlaw16_Same.f kj4 t342 t345 t347 t350).bind fun t351 => (if t351 = true then (bulletinlaw36_DressCopies.l0 kj4 (t342.length : Int) 0 l2_0 a2_1 t337 t340 t342 t345) else (some false))) = some r := H
    have A24 := Aside0.mk A240
    clear A240
    replace H := Option.bind_eq_some_iff.mp H
    obtain ⟨t351, A250, H⟩ := H
    replace H : (if t351 = true then (bulletinlaw36_DressCopies.l0 kj4 (t342.length : Int) 0 l2_0 a2_1 t337 t340 t342 t345) else (some false)) = some r := H
    have A25 := Aside0.mk A250
    clear A250
    by_cases c26 : t351 = true
    ·subst c26
     have H1 : (bulletinlaw36_DressCopies.l0 kj4 (t342.length : Int) 0 l2_0 a2_1 t337 t340 t342 t345) = some r := by rw [if_pos rfl] at H; exact H
     clear H
     have H := H1
     clear H1
     have H' := Aside0.mk H
     clear H
     have hcz27_0 : wc.cell? ⟨gb334, 0, none⟩ = some (.slice A2_0 l2_0.length c2_0) := (blk_cell BK334.out 0).trans rfl
     have hcz27_1 : wc.cell? ⟨gb334, 1, none⟩ = some (.string a2_1) := (blk_cell BK334.out 1).trans rfl
     have hfz27_0 := blk_frozen BK334.out 0
     have hfz27_1 := blk_frozen BK334.out 1
     try go_wp2_with (first | ((with_reducible refine gate_callee (f := 9) rfl ?_); refine goesL_ (some 32) rfl rfl Tryz.func9 (by kernel_rfl) rfl #[.agg #[.slice A2_0 l2_0.length c2_0, .string a2_1]] rfl am ?_; (with_reducible refine (bulletinlaw16_To.calls kj4 _ _ l2_0 a2_1 t337 t340 _ ?side1 ?side2 A22.out).mono ?_); (case side1 => repeat (first | exact (Kd.C_below HR2_0.out HB.out) | (with_reducible refine Kd.C_alloc ?_ _) | (with_reducible refine Kd.C_drewN ?_ _) | (with_reducible refine Kd.C_drew ?_))); (case side2 => exact HC2_0.out); rintro e w28 ⟨v338, rfl, ho0, hb⟩; refine ⟨_, rfl, ?_⟩; have n0_ := Aside0.mk (Kd.R_lower ho0 (below_size bwS)); have n1_ := Aside0.mk (blk_below (g := gb334) (o := .cells #[.slice A2_0 l2_0.length c2_0, .string a2_1] 24 (0, 0)) bk hb); have n2_ := Aside0.mk (below_step bwS hb); clear BK334; clear HB; have HO339 := n0_; have BK334 := n1_; have HB := n2_; clear n0_ n1_ n2_; (try clear hb); (try clear hb2); (try clear hk); (try clear hi); (try clear ho0)) | ((with_reducible refine gate_dst (N := 9) rfl ?_); (try (refine gate_guard (by rfl) ?_; dsimp only)); refine box_event ?hg (N := 9) ?hd (cs := #[.slice none 0 0, .string (⟨#[]⟩ : ByteArray)]) (t := 29) ?hr ?_; (case hd => rfl); (case hg => rfl); (case hr => first | (go_simp; done) | (go_simp; rfl)); intro gb341 hg w29 hbox hb; have n0_ := Aside0.mk (Kd.R_below (by (with_reducible repeat (first | apply Kd.R_alloc | apply Kd.R_drewN | apply Kd.R_drew)); exact HO339.out) hb); have n1_ := Aside0.mk (blk_below (g := gb334) (o := .cells #[.slice A2_0 l2_0.length c2_0, .string a2_1] 24 (0, 0)) bk hb); have n2_ := Aside0.mk (below_step bwS hb); have n3_ := Aside0.mk (hbox); have n4_ := Aside0.mk ((by rw [hg]; exact (below_size bwS) : w.heap.size ≤ gb341)); have n5_ := Aside0.mk ((by rw [hg]; exact (below_size bwS) : w.heap.size ≤ gb341)); have n6_ := Aside0.mk ((by rw [hg]; exact Nat.ne_of_lt (blk_lt (g := gb334) (o := .cells #[.slice A2_0 l2_0.length c2_0, .string a2_1] 24 (0, 0)) bk) : gb334 ≠ gb341)); have n7_ := Aside0.mk ((by rw [hg]; exact Nat.ne_of_gt (blk_lt (g := gb334) (o := .cells #[.slice A2_0 l2_0.length c2_0, .string a2_1] 24 (0, 0)) bk) : gb341 ≠ gb334)); clear HO339; clear BK334; clear HB; have HO339 := n0_; have BK334 := n1_; have HB := n2_; have BK341 := n3_; have GW341 := n4_; have GE341 := n5_; have NB334_341 := n6_; have NB341_334 := n7_; clear n0_ n1_ n2_ n3_ n4_ n5_ n6_ n7_; clear hb hbox hg; obtain ⟨Ao30, co30, eo30⟩ := Kd.R_slice HO339.out; subst eo30; have hnb31 := NB341_334.out; have hnc31 := NB334_341.out; have hcz32_0 : w29.cell? ⟨gb341, 0, none⟩ = some (.slice none 0 0) := (blk_cell BK341.out 0).trans rfl; have hcz32_1 : w29.cell? ⟨gb341, 1, none⟩ = some (.string (⟨#[]⟩ : ByteArray)) := (blk_cell BK341.out 1).trans rfl; have hfz32_0 := blk_frozen BK341.out 0; have hfz32_1 := blk_frozen BK341.out 1) | ((with_reducible refine gate_callee (f := 10) rfl ?_); refine goesL_ (some 37) rfl rfl Tryz.func10 (by kernel_rfl) rfl #[.string a0, .string a1, .agg #[.slice Ao30 t337.length co30, .string t340], .string a3] rfl am ?_; (with_reducible refine (dress_Copy.calls kj4 a0 a1 _ _ t337 t340 a3 t342 t345 _ ?side1 ?side2 A23.out).mono ?_); (case side1 => refine (Kd.R_reads' (e := 35) (base := w.heap.size) (ok := fun k_ => True) (n := t337.length) (c := co30) ?_).2.2; exact (by (with_reducible repeat (first | apply Kd.R_alloc | apply Kd.R_drewN | apply Kd.R_drew)); exact (Kd.R_mono (Kd.R_far (p := ⟨gb341, 1, none⟩) (Kd.R_far (p := ⟨gb341, 0, none⟩) (Kd.R_types HO339.out BK341.out (by decide)) (fun _ hk => hk.2) (.slice Ao30 t337.length co30)) (fun _ hk => hk.2) (.string t340)) (fun _ h_ => h_.1)))); (case side2 => exact (Kd.R_reads' HO339.out).2.1); rintro e w33 ⟨v343, rfl, ho0, hb⟩; refine ⟨_, rfl, ?_⟩; have n0_ := Aside0.mk (Kd.R_elder' (by (with_reducible repeat (first | apply Kd.R_alloc | apply Kd.R_drewN | apply Kd.R_drew)); exact (Kd.R_mono (Kd.R_far (p := ⟨gb341, 1, none⟩) (Kd.R_far (p := ⟨gb341, 0, none⟩) (Kd.R_types HO339.out BK341.out (by decide)) (fun _ hk => hk.2) (.slice Ao30 t337.length co30)) (fun _ hk => hk.2) (.string t340)) (fun _ h_ => h_.1))) (Kd.R_base ho0) hb); have n1_ := Aside0.mk (Kd.R_lower (Kd.R_new' ho0 (Kd.R_lt (by (with_reducible repeat (first | apply Kd.R_alloc | apply Kd.R_drewN | apply Kd.R_drew)); exact (Kd.R_mono (Kd.R_far (p := ⟨gb341, 1, none⟩) (Kd.R_far (p := ⟨gb341, 0, none⟩) (Kd.R_types HO339.out BK341.out (by decide)) (fun _ hk => hk.2) (.slice Ao30 t337.length co30)) (fun _ hk => hk.2) (.string t340)) (fun _ h_ => h_.1))))) (below_size bwS)); have n2_ := Aside0.mk (blk_below (g := gb334) (o := .cells #[.slice A2_0 l2_0.length c2_0, .string a2_1] 24 (0, 0)) (by (with_reducible repeat (first | refine blk_drewN ?_ _ | refine blk_drew ?_ | refine blk_alloc ?_ _)); refine blk_far ?_ NB334_341.out _; (with_reducible repeat (first | refine blk_drewN ?_ _ | refine blk_drew ?_ | refine blk_alloc ?_ _)); refine blk_far ?_ NB334_341.out _; (with_reducible repeat (first | refine blk_drewN ?_ _ | refine blk_drew ?_ | refine blk_alloc ?_ _)); exact BK334.out) hb); have n3_ := Aside0.mk (blk_below (g := gb341) (o := .cells #[.slice Ao30 t337.length co30, .string t340] 29 (0, 0)) (by (with_reducible repeat (first | refine blk_drewN ?_ _ | refine blk_drew ?_ | refine blk_alloc ?_ _)); refine blk_put (cs := #[.slice Ao30 t337.length co30, .string (⟨#[]⟩ : ByteArray)]) ?_ 1 _ rfl; (with_reducible repeat (first | refine blk_drewN ?_ _ | refine blk_drew ?_ | refine blk_alloc ?_ _)); refine blk_put (cs := #[.slice none 0 0, .string (⟨#[]⟩ : ByteArray)]) ?_ 0 _ rfl; (with_reducible repeat (first | refine blk_drewN ?_ _ | refine blk_drew ?_ | refine blk_alloc ?_ _)); exact BK341.out) hb); have n4_ := Aside0.mk (below_step bwS hb); clear HO339; clear BK334; clear BK341; clear HB; have HO339 := n0_; have HO344 := n1_; have BK334 := n2_; have BK341 := n3_; have HB := n4_; clear n0_ n1_ n2_ n3_ n4_; (try clear hb); (try clear hb2); (try clear hk); (try clear hi); (try clear ho0)) | ((with_reducible refine gate_dst (N := 10) rfl ?_); (try (refine gate_guard (by rfl) ?_; dsimp only)); refine box_event ?hg (N := 10) ?hd (cs := #[.slice none 0 0, .string (⟨#[]⟩ : ByteArray)]) (t := 29) ?hr ?_; (case hd => rfl); (case hg => rfl); (case hr => first | (go_simp; done) | (go_simp; rfl)); intro gb346 hg w34 hbox hb; have n0_ := Aside0.mk (Kd.R_below (by (with_reducible repeat (first | apply Kd.R_alloc | apply Kd.R_drewN | apply Kd.R_drew)); exact HO339.out) hb); have n1_ := Aside0.mk (Kd.R_below (by (with_reducible repeat (first | apply Kd.R_alloc | apply Kd.R_drewN | apply Kd.R_drew)); exact HO344.out) hb); have n2_ := Aside0.mk (blk_below (g := gb334) (o := .cells #[.slice A2_0 l2_0.length c2_0, .string a2_1] 24 (0, 0)) bk hb); have n3_ := Aside0.mk (blk_below (g := gb341) (o := .cells #[.slice Ao30 t337.length co30, .string t340] 29 (0, 0)) bk hb); have n4_ := Aside0.mk (below_step bwS hb); have n5_ := Aside0.mk (hbox); have n6_ := Aside0.mk ((by rw [hg]; exact (below_size bwS) : w.heap.size ≤ gb346)); have n7_ := Aside0.mk ((by rw [hg]; exact (below_size bwS) : w.heap.size ≤ gb346)); have n8_ := Aside0.mk ((by rw [hg]; exact Nat.ne_of_lt (blk_lt (g := gb334) (o := .cells #[.slice A2_0 l2_0.length c2_0, .string a2_1] 24 (0, 0)) bk) : gb334 ≠ gb346)); have n9_ := Aside0.mk ((by rw [hg]; exact Nat.ne_of_gt (blk_lt (g := gb334) (o := .cells #[.slice A2_0 l2_0.length c2_0, .string a2_1] 24 (0, 0)) bk) : gb346 ≠ gb334)); have n10_ := Aside0.mk ((by rw [hg]; exact Nat.ne_of_lt (blk_lt (g := gb341) (o := .cells #[.slice Ao30 t337.length co30, .string t340] 29 (0, 0)) bk) : gb341 ≠ gb346)); have n11_ := Aside0.mk ((by rw [hg]; exact Nat.ne_of_gt (blk_lt (g := gb341) (o := .cells #[.slice Ao30 t337.length co30, .string t340] 29 (0, 0)) bk) : gb346 ≠ gb341)); clear HO339; clear HO344; clear BK334; clear BK341; clear HB; have HO339 := n0_; have HO344 := n1_; have BK334 := n2_; have BK341 := n3_; have HB := n4_; have BK346 := n5_; have GW346 := n6_; have GE346 := n7_; have NB334_346 := n8_; have NB346_334 := n9_; have NB341_346 := n10_; have NB346_341 := n11_; clear n0_ n1_ n2_ n3_ n4_ n5_ n6_ n7_ n8_ n9_ n10_ n11_; clear hb hbox hg; obtain ⟨Ao35, co35, eo35⟩ := Kd.R_slice HO344.out; subst eo35; have hnb36 := NB346_334.out; have hnc36 := NB334_346.out; have hnb37 := NB346_341.out; have hnc37 := NB341_346.out; have hcz38_0 : w34.cell? ⟨gb346, 0, none⟩ = some (.slice none 0 0) := (blk_cell BK346.out 0).trans rfl; have hcz38_1 : w34.cell? ⟨gb346, 1, none⟩ = some (.string (⟨#[]⟩ : ByteArray)) := (blk_cell BK346.out 1).trans rfl; have hfz38_0 := blk_frozen BK346.out 0; have hfz38_1 := blk_frozen BK346.out 1))
     have n0_ : Aside0 (Kd.R k35 35 ((w34.setCell ⟨gb346, 0, none⟩ (.slice Ao35 t342.length co35)).setCell ⟨gb346, 1, none⟩ (.string t345)) w.heap.size (fun k_ => some k_ ≠ (.slice Ao35 t342.length co35 : Value).ownBlock) (.slice Ao30 t337.length co30) t337) := ⟨by (with_reducible repeat (first | apply Kd.R_alloc | apply Kd.R_drewN | apply Kd.R_drew)); exact Kd.R_mono (Kd.R_far (p := ⟨gb346, 1, none⟩) (Kd.R_far (p := ⟨gb346, 0, none⟩) (Kd.R_types HO339.out BK346.out (by decide)) (fun _ hk => hk.2) (.slice Ao35 t342.length co35)) (fun _ hk => hk.2) (.string t345)) (fun _ hk => hk.1.2)⟩
     have n1_ : Aside0 (Kd.R k35 35 ((w34.setCell ⟨gb346, 0, none⟩ (.slice Ao35 t342.length co35)).setCell ⟨gb346, 1, none⟩ (.string t345)) w.heap.size (fun k_ => some k_ ≠ (.slice Ao30 t337.length co30 : Value).ownBlock) (.slice Ao35 t342.length co35) t342) := ⟨by (with_reducible repeat (first | apply Kd.R_alloc | apply Kd.R_drewN | apply Kd.R_drew)); exact Kd.R_mono (Kd.R_far (p := ⟨gb346, 1, none⟩) (Kd.R_far (p := ⟨gb346, 0, none⟩) (Kd.R_types HO344.out BK346.out (by decide)) (fun _ hk => hk.2) (.slice Ao35 t342.length co35)) (fun _ hk => hk.2) (.string t345)) (fun _ hk => hk.1.2)⟩
     have n2_ : Aside0 (((w34.setCell ⟨gb346, 0, none⟩ (.slice Ao35 t342.length co35)).setCell ⟨gb346, 1, none⟩ (.string t345)).heap[gb334]? = some (.cells #[.slice A2_0 l2_0.length c2_0, .string a2_1] 24 (0, 0))) := ⟨by (with_reducible repeat (first | refine blk_drewN ?_ _ | refine blk_drew ?_ | refine blk_alloc ?_ _)); refine blk_far ?_ NB334_346.out _; (with_reducible repeat (first | refine blk_drewN ?_ _ | refine blk_drew ?_ | refine blk_alloc ?_ _)); refine blk_far ?_ NB334_346.out _; (with_reducible repeat (first | refine blk_drewN ?_ _ | refine blk_drew ?_ | refine blk_alloc ?_ _)); exact BK334.out⟩
     have n3_ : Aside0 (((w34.setCell ⟨gb346, 0, none⟩ (.slice Ao35 t342.length co35)).setCell ⟨gb346, 1, none⟩ (.string t345)).heap[gb341]? = some (.cells #[.slice Ao30 t337.length co30, .string t340] 29 (0, 0))) := ⟨by (with_reducible repeat (first | refine blk_drewN ?_ _ | refine blk_drew ?_ | refine blk_alloc ?_ _)); refine blk_far ?_ NB341_346.out _; (with_reducible repeat (first | refine blk_drewN ?_ _ | refine blk_drew ?_ | refine blk_alloc ?_ _)); refine blk_far ?_ NB341_346.out _; (with_reducible repeat (first | refine blk_drewN ?_ _ | refine blk_drew ?_ | refine blk_alloc ?_ _)); exact BK341.out⟩
     have n4_ : Aside0 (((w34.setCell ⟨gb346, 0, none⟩ (.slice Ao35 t342.length co35)).setCell ⟨gb346, 1, none⟩ (.string t345)).heap[gb346]? = some (.cells #[.slice Ao35 t342.length co35, .string t345] 29 (0, 0))) := ⟨by (with_reducible repeat (first | refine blk_drewN ?_ _ | refine blk_drew ?_ | refine blk_alloc ?_ _)); refine blk_put (cs := #[.slice Ao35 t342.length co35, .string (⟨#[]⟩ : ByteArray)]) ?_ 1 _ rfl; (with_reducible repeat (first | refine blk_drewN ?_ _ | refine blk_drew ?_ | refine blk_alloc ?_ _)); refine blk_put (cs := #[.slice none 0 0, .string (⟨#[]⟩ : ByteArray)]) ?_ 0 _ rfl; (with_reducible repeat (first | refine blk_drewN ?_ _ | refine blk_drew ?_ | refine blk_alloc ?_ _)); exact BK346.out⟩
     have n5_ : Aside0 (Below w.heap.size w ((w34.setCell ⟨gb346, 0, none⟩ (.slice Ao35 t342.length co35)).setCell ⟨gb346, 1, none⟩ (.string t345))) := ⟨bwS⟩
     (try clear HO339)
     (try clear HO344)
     (try clear BK334)
     (try clear BK341)
     (try clear BK346)
     (try clear HB)
     generalize ((w34.setCell ⟨gb346, 0, none⟩ (.slice Ao35 t342.length co35)).setCell ⟨gb346, 1, none⟩ (.string t345)) = w39 at n0_ n1_ n2_ n3_ n4_ n5_ ⊢
     have HO339 := n0_
     have HO344 := n1_
     have BK334 := n2_
     have BK341 := n3_
     have BK346 := n4_
     have HB := n5_
     clear n0_ n1_ n2_ n3_ n4_ n5_
     have n0_ := Aside0.mk (Kd.R_drew HO339.out)
     have n1_ := Aside0.mk (Kd.R_drew HO344.out)
     have n2_ := Aside0.mk (blk_drew BK334.out)
     have n3_ := Aside0.mk (blk_drew BK341.out)
     have n4_ := Aside0.mk (blk_drew BK346.out)
     have n5_ := Aside0.mk (below_drew1 HB.out)
     clear HO339
     clear HO344
     clear BK334
     clear BK341
     clear BK346
     clear HB
     have HO339 := n0_
     have HO344 := n1_
     have BK334 := n2_
     have BK341 := n3_
     have BK346 := n4_
     have HB := n5_
     clear n0_ n1_ n2_ n3_ n4_ n5_
     refine start_ (n := 8) (S := fun w' => w'.cell? ⟨gb346, 0, none⟩ = some (.slice Ao35 t342.length co35) ∧ w'.cell? ⟨gb346, 1, none⟩ = some (.string t345) ∧ w'.cell? ⟨gb334, 0, none⟩ = some (.slice A2_0 l2_0.length c2_0) ∧ w'.cell? ⟨gb334, 1, none⟩ = some (.string a2_1)) (ds := []) #[false, false, false, false, false, false, false, false] (by kernel_rfl) rfl rfl ⟨(blk_cell BK346.out 0).trans rfl, (blk_cell BK346.out 1).trans rfl, (blk_cell BK334.out 0).trans rfl, (blk_cell BK334.out 1).trans rfl⟩ (fun hHeld => ?_); refine with_tabW bulletinlaw36_DressCopies.tab5 bulletinlaw36_DressCopies.bits5 (fun HT_ HW_ => ?_)
     generalize w39.drew = w40 at HO339 HO344 BK334 BK341 BK346 HB hHeld ⊢
     refine pure_ (i := 1) (N := some 39) (v := ?_) (a' := ?_) (bitsL 8 2) rfl rfl (any_of HT_.out (by kernel_rfl)) (fun _ _ _ h => h) (Or.inl ⟨by rfl, ?_⟩) ?_ ?_
     rotate_left
     ·intro w'
      go_simp
      with_reducible rfl
     rotate_left
     ·simp only [Act.put, List.setIfInBounds_toArray, List.set_cons_zero, List.set_cons_succ, i64_w, i32_w]
      rfl
     refine pure_ (i := 2) (N := some 40) (v := ?_) (a' := ?_) (bitsL 8 6) rfl rfl (any_of HT_.out (by kernel_rfl)) (fun _ _ _ h => h) (Or.inl ⟨by rfl, ?_⟩) ?_ ?_
     rotate_left
     ·intro w'
      go_simp
      with_reducible rfl
     rotate_left
     ·simp only [Act.put, List.setIfInBounds_toArray, List.set_cons_zero, List.set_cons_succ, i64_w, i32_w]
      rfl
     refine pure_ (i := 4) (N := some 42) (v := ?_) (a' := ?_) (bitsL 8 22) rfl rfl (any_of HT_.out (by kernel_rfl)) (fun _ _ _ h => h) (Or.inl ⟨by rfl, ?_⟩) ?_ ?_
     rotate_left
     ·intro w'
      go_simp
      with_reducible rfl
     rotate_left
     ·simp only [Act.put, List.setIfInBounds_toArray, List.set_cons_zero, List.set_cons_succ, i64_w, i32_w]
      rfl
     refine take_ (i := 0) (N := some 38) (v := ?_) (a' := ?_) (bitsL 8 23) rfl rfl (take_ofW HT_.out HW_.out (by kernel_rfl)) (fun _ _ _ h => h) (Or.inl ⟨by rfl, ?_⟩) hHeld ?_ ?_
     rotate_left
     ·rintro w' ⟨s0, s1, s2, s3⟩
      go_simp
      with_reducible rfl
     rotate_left
     ·simp only [Act.put, List.setIfInBounds_toArray, List.set_cons_zero, List.set_cons_succ, i64_w, i32_w]
      rfl
     refine take_ (i := 3) (N := some 41) (v := ?_) (a' := ?_) (bitsL 8 31) rfl rfl (take_ofW HT_.out HW_.out (by kernel_rfl)) (fun _ _ _ h => h) (Or.inl ⟨by rfl, ?_⟩) hHeld ?_ ?_
     rotate_left
     ·rintro w' ⟨s0, s1, s2, s3⟩
      go_simp
      with_reducible rfl
     rotate_left
     ·simp only [Act.put, List.setIfInBounds_toArray, List.set_cons_zero, List.set_cons_succ, i64_w, i32_w]
      rfl
     refine one_ (i := 5) (N := some 43) (bitsL 8 63) rfl rfl (one_of HT_.out (by kernel_rfl)) (by decide) (fun K hK => ?_)
     refine goes_ Tryz.func12 (by kernel_rfl) rfl #[.string a0, .string a1, .agg #[.slice A2_0 l2_0.length c2_0, .string a2_1], .string a3] (by rfl) rfl rfl am ?_
     with_reducible refine (bulletinref36_Copy.calls kj4 a0 a1 _ _ l2_0 a2_1 a3 t347 t350 _ ?side1 ?side2 A24.out).mono ?_
     (case side1 => repeat (first | exact (Kd.C_below HR2_0.out HB.out) | (with_reducible refine Kd.C_alloc ?_ _) | (with_reducible refine Kd.C_drewN ?_ _) | (with_reducible refine Kd.C_drew ?_)))
     (case side2 => exact HC2_0.out)
     rintro e w41 ⟨v348, rfl, ho0, hb⟩
     refine ⟨_, rfl, ?_⟩
     have n0_ := Aside0.mk (Kd.R_below (by (with_reducible repeat (first | apply Kd.R_alloc | apply Kd.R_drewN | apply Kd.R_drew)); exact HO339.out) hb)
     have n1_ := Aside0.mk (Kd.R_below (by (with_reducible repeat (first | apply Kd.R_alloc | apply Kd.R_drewN | apply Kd.R_drew)); exact HO344.out) hb)
     have n2_ := Aside0.mk (Kd.R_lower ho0 (below_size bwS))
     have n3_ := Aside0.mk (blk_below (g := gb334) (o := .cells #[.slice A2_0 l2_0.length c2_0, .string a2_1] 24 (0, 0)) bk hb)
     have n4_ := Aside0.mk (blk_below (g := gb341) (o := .cells #[.slice Ao30 t337.length co30, .string t340] 29 (0, 0)) bk hb)
     have n5_ := Aside0.mk (blk_below (g := gb346) (o := .cells #[.slice Ao35 t342.length co35, .string t345] 29 (0, 0)) bk hb)
     have n6_ := Aside0.mk (below_step bwS hb)
     clear HO339
     clear HO344
     clear BK334
     clear BK341
     clear BK346
     clear HB
     have HO339 := n0_
     have HO344 := n1_
     have HO349 := n2_
     have BK334 := n3_
     have BK341 := n4_
     have BK346 := n5_
     have HB := n6_
     clear n0_ n1_ n2_ n3_ n4_ n5_ n6_
     (try clear hb)
     (try clear hb2)
     (try clear hk)
     (try clear hi)
     (try clear ho0)
     obtain ⟨Ao42, co42, eo42⟩ := Kd.R_slice HO349.out
     (first | subst eo42 | (injection eo42 with f1_ f2_ f3_; have f4_ := f1_.symm; have f5_ := f3_.symm; clear f1_ f2_ f3_; subst f4_; subst f5_))
     refine hK.out _ _ ⟨(blk_cell BK346.out 0).trans rfl, (blk_cell BK346.out 1).trans rfl, (blk_cell BK334.out 0).trans rfl, (blk_cell BK334.out 1).trans rfl⟩ (fun hHeld => ?_)
     clear hK K
     refine norm_ (a' := ?_) ?_ ?_
     rotate_left
     ·show Act.put _ (some 43) _ = _
      simp only [Act.put, List.setIfInBounds_toArray, List.set_cons_zero, List.set_cons_succ, i64_w, i32_w]
      rfl
     refine one_ (i := 6) (N := some 44) (bitsL 8 127) rfl rfl (one_of HT_.out (by kernel_rfl)) (by decide) (fun K hK => ?_)
     refine goes_ Tryz.func11 (by kernel_rfl) rfl #[.agg #[.slice Ao35 t342.length co35, .string t345], .agg #[.slice Ao42 t347.length co42, .string t350]] (by rfl) rfl rfl am ?_
     with_reducible refine (bulletinlaw16_Same.calls kj4 _ _ t342 t345 _ _ t347 t350 true _ ?side1 ?side2 ?side3 ?side4 A25.out).mono ?_
     (case side1 => repeat (first | exact (Kd.R_reads' HO344.out).2.2 | (with_reducible refine Kd.C_alloc ?_ _) | (with_reducible refine Kd.C_drewN ?_ _) | (with_reducible refine Kd.C_drew ?_)))
     (case side2 => exact (Kd.R_reads' HO344.out).2.1)
     (case side3 => repeat (first | exact (Kd.R_reads' HO349.out).2.2 | (with_reducible refine Kd.C_alloc ?_ _) | (with_reducible refine Kd.C_drewN ?_ _) | (with_reducible refine Kd.C_drew ?_)))
     (case side4 => exact (Kd.R_reads' HO349.out).2.1)
     rintro e w43 ⟨rfl, hb⟩
     refine ⟨_, rfl, ?_⟩
     have n0_ := Aside0.mk (Kd.R_below (by (with_reducible repeat (first | apply Kd.R_alloc | apply Kd.R_drewN | apply Kd.R_drew)); exact HO339.out) hb)
     have n1_ := Aside0.mk (Kd.R_below (by (with_reducible repeat (first | apply Kd.R_alloc | apply Kd.R_drewN | apply Kd.R_drew)); exact HO344.out) hb)
     have n2_ := Aside0.mk (Kd.R_below (by (with_reducible repeat (first | apply Kd.R_alloc | apply Kd.R_drewN | apply Kd.R_drew)); exact HO349.out) hb)
     have n3_ := Aside0.mk (blk_below (g := gb334) (o := .cells #[.slice A2_0 l2_0.length c2_0, .string a2_1] 24 (0, 0)) bk hb)
     have n4_ := Aside0.mk (blk_below (g := gb341) (o := .cells #[.slice Ao30 t337.length co30, .string t340] 29 (0, 0)) bk hb)
     have n5_ := Aside0.mk (blk_below (g := gb346) (o := .cells #[.slice Ao35 t342.length co35, .string t345] 29 (0, 0)) bk hb)
     have n6_ := Aside0.mk (below_step bwS hb)
     clear HO339
     clear HO344
     clear HO349
     clear BK334
     clear BK341
     clear BK346
     clear HB
     have HO339 := n0_
     have HO344 := n1_
     have HO349 := n2_
     have BK334 := n3_
     have BK341 := n4_
     have BK346 := n5_
     have HB := n6_
     clear n0_ n1_ n2_ n3_ n4_ n5_ n6_
     (try clear hb)
     (try clear hb2)
     (try clear hk)
     (try clear hi)
     refine hK.out _ _ ⟨(blk_cell BK346.out 0).trans rfl, (blk_cell BK346.out 1).trans rfl, (blk_cell BK334.out 0).trans rfl, (blk_cell BK334.out 1).trans rfl⟩ (fun hHeld => ?_)
     clear hK K
     refine norm_ (a' := ?_) ?_ ?_
     rotate_left
     ·show Act.put _ (some 44) _ = _
      simp only [Act.put, List.setIfInBounds_toArray, List.set_cons_zero, List.set_cons_succ, i64_w, i32_w]
      rfl
     refine pure_ (i := 7) (N := some 45) (v := ?_) (a' := ?_) (bitsL 8 255) rfl rfl (any_of HT_.out (by kernel_rfl)) (fun _ _ _ h => h) (Or.inl ⟨by rfl, ?_⟩) ?_ ?_
     rotate_left
     ·intro w'
      go_simp
      with_reducible rfl
     rotate_left
     ·simp only [Act.put, List.setIfInBounds_toArray, List.set_cons_zero, List.set_cons_succ, i64_w, i32_w]
      rfl
     refine done_ (done_of HT_.out (by kernel_rfl)) ?_
     have hcz44_0 : w43.cell? ⟨gb346, 0, none⟩ = some (.slice Ao35 t342.length co35) := (blk_cell BK346.out 0).trans rfl
     have hcz44_1 : w43.cell? ⟨gb346, 1, none⟩ = some (.string t345) := (blk_cell BK346.out 1).trans rfl
     have hfz44_0 := blk_frozen BK346.out 0
     have hfz44_1 := blk_frozen BK346.out 1
     try go_wp2
     go_loopg [49] kj4 (fun kq v49 w' => ∃ (x49_2 : Int) (x342000_2 : List (S35)) (x347000_2 : List (S35)) (u342000 : Value) (u347000 : Value), v49 = .int .i64 x49_2 ∧ Aside0 (bulletinlaw36_DressCopies.l0 kq (t342.length : Int) x49_2 l2_0 a2_1 x342000_2 t340 x347000_2 t345 = some r) ∧ Aside0 (kq ≤ kj4) ∧ Aside0 (Kd.R k35 35 w' w.heap.size (fun k_ => some k_ ≠ (u347000 : Value).ownBlock) u342000 x342000_2) ∧ Aside0 (Kd.R k35 35 w' w.heap.size (fun k_ => some k_ ≠ (u342000 : Value).ownBlock) u347000 x347000_2) ∧ Aside0 (w'.heap[gb334]? = some (.cells #[(.slice A2_0 l2_0.length c2_0), .string a2_1] 24 (0, 0))) ∧ Aside0 (w'.heap[gb341]? = some (.cells #[u342000, .string t340] 29 (0, 0))) ∧ Aside0 (w'.heap[gb346]? = some (.cells #[u347000, .string t345] 29 (0, 0))) ∧ Aside0 (Below w.heap.size w w'))
     case atStart => exact ⟨(0), (t337), (t342), (.slice Ao30 t337.length co30), (.slice Ao35 t342.length co35), cl, H', ⟨Nat.le_refl _⟩, ⟨by (with_reducible repeat (first | apply Kd.R_alloc | apply Kd.R_drewN | apply Kd.R_drew)); exact HO339.out⟩, ⟨by (with_reducible repeat (first | apply Kd.R_alloc | apply Kd.R_drewN | apply Kd.R_drew)); exact HO344.out⟩, ⟨bk⟩, ⟨bk⟩, ⟨bk⟩, ⟨bwS⟩⟩
     case round =>
      clear H'
      try clear c1
      try clear c2
      try clear p2
      try clear c3
      try clear c7
      try clear c8
      try clear c9
      try clear c9b0
      try clear c9b1
      try clear c10
      try clear c11
      try clear c12
      try clear c12b0
      try clear c12b1
      try clear c19
      try clear c26
      try clear c31
      try clear c36
      try clear c37
      try clear hcz10_0
      try clear hcz10_1
      try clear hcz13_0
      try clear hcz13_1
      try clear hcz15_0
      try clear hcz15_1
      try clear hcz17_0
      try clear hcz17_1
      try clear hcz27_0
      try clear hcz27_1
      try clear hcz32_0
      try clear hcz32_1
      try clear hcz38_0
      try clear hcz38_1
      try clear hcz44_0
      try clear hcz44_1
      try clear hfz10_0
      try clear hfz10_1
      try clear hfz13_0
      try clear hfz13_1
      try clear hfz15_0
      try clear hfz15_1
      try clear hfz17_0
      try clear hfz17_1
      try clear hfz27_0
      try clear hfz27_1
      try clear hfz32_0
      try clear hfz32_1
      try clear hfz38_0
      try clear hfz38_1
      try clear hfz44_0
      try clear hfz44_1
      try clear p2
      obtain ⟨x49_2, x342000_2, x347000_2, u342000, u347000, rfl, HA, HK2, HO_342000, HO_347000, BK334, BK341, BK346, HB⟩ := hrel
      cases gk with
      | zero => exact absurd HA.out (by simp [bulletinlaw36_DressCopies.l0])
      | succ k2 =>
       have H := HA.out
       clear HA
       simp only [bulletinlaw36_DressCopies.l0] at H
       by_cases c45 : x49_2 < (t342.length : Int)
       ·rw [if_pos c45] at H
        have c45b0 : decide (x49_2 < (t342.length : Int)) = true := decide_eq_true c45
        clear c45
        by_cases c46 : 0 ≤ x49_2
        ·rw [if_pos c46] at H
         have c46b0 : decide (0 ≤ x49_2) = true := decide_eq_true c46
         clear c46
         by_cases c47 : x49_2 < (x347000_2.length : Int)
         ·rw [if_pos c47] at H
          have c47b0 : decide (x49_2 < (x347000_2.length : Int)) = true := decide_eq_true c47
          clear c47
          obtain ⟨y352, hy352⟩ : ∃ y_ : List (S35), y_ = (x347000_2.set (x49_2 : Int).toNat (⟨(⟨#[115, 112, 111, 105, 108, 116]⟩ : ByteArray), (rd_T35 x347000_2 x49_2).f1⟩ : S35)) := ⟨_, rfl⟩
          replace H : (bulletinlaw36_DressCopies.l0 k2 (t342.length : Int) (wrap64 (x49_2 + 1)) l2_0 a2_1 x342000_2 t340 y352 t345) = some r := by first | (rw [hy352]; with_reducible exact H) | (have H2_ := (Option.bind_some _ _).symm.trans H; rw [hy352]; with_reducible exact H2_) | (have H2_ := (Option.bind_some _ _).symm.trans H; with_reducible exact H2_) | with_reducible exact H | (rw [hy352]; exact H) | exact H
          have Ny352 := Aside0.mk hy352
          clear hy352
          have H' := Aside0.mk H
          clear H
          have hnb49 := NB346_334.out
          have hnc49 := NB334_346.out
          have hnb50 := NB346_341.out
          have hnc50 := NB341_346.out
          have hcz51_0 : wr.cell? ⟨gb346, 0, none⟩ = some (u347000) := (blk_cell BK346.out 0).trans rfl
          have hcz51_1 : wr.cell? ⟨gb346, 1, none⟩ = some (.string t345) := (blk_cell BK346.out 1).trans rfl
          have hfz51_0 := blk_frozen BK346.out 0
          have hfz51_1 := blk_frozen BK346.out 1
          have p48 : 0 ≤ (x49_2 : Int) := od
          have q48 : (x49_2 : Int) < ((x347000_2.length : Int) : Int) := od
          obtain ⟨go48, co48, eo48, gb48, gl48, cl48, HG48⟩ := Kd.R_form HO_347000.out (by omega)
          (first | cases eo48 | (injection eo48 with ea_ en_ ec_; (first | subst ea_ | (injection ea_ with ea_; subst ea_)); subst ec_; clear en_))
          have GB48 := Aside0.mk gb48
          have GG48 := Aside0.mk HG48
          clear gb48 gl48 HG48
          obtain ⟨ce48, hcl48, hM48, hcc48, hfr48⟩ := Kd.R_elem HO_347000.out z35 (x49_2 : Int) p48 q48
          obtain rfl := k35_openM hM48
          have hx48_0 : wr.cell? ⟨go48, (x49_2 : Int).toNat * 2, none⟩ = some (.string ((rd_T35 x347000_2 x49_2).f0)) := hcc48 0 _ rfl
          have hx48_1 : wr.cell? ⟨go48, (x49_2 : Int).toNat * 2 + 1, none⟩ = some (.string ((rd_T35 x347000_2 x49_2).f1)) := hcc48 1 _ rfl
          have hf48_0 : wr.frozen? ⟨go48, (x49_2 : Int).toNat * 2, none⟩ = false := hfr48 0
          have hf48_1 : wr.frozen? ⟨go48, (x49_2 : Int).toNat * 2 + 1, none⟩ = false := hfr48 1
          clear hcl48 hcc48 hfr48 hM48
          replace p48 := eq_true p48
          replace q48 := eq_true q48
          have HX52 := Aside0.mk (show Kd.R k35 35 wr w.heap.size (fun k_ => some k_ ≠ (u342000 : Value).ownBlock) (.slice (some ⟨go48, 0, none⟩) x347000_2.length co48) x347000_2 from (by (with_reducible repeat (first | apply Kd.R_alloc | apply Kd.R_drewN | apply Kd.R_drew)); exact HO_347000.out))
          obtain ⟨ce52, hcl52, hM52, hcc52, hfr52⟩ := Kd.R_elem HX52.out z35 (x49_2 : Int) (od) (by have h_ : (x49_2 : Int) < ((x347000_2.length : Int) : Int) := od; first | exact h_ | (have e_ := (Kd.R_reads' HO_347000.out).1; omega) | simpa using h_)
          obtain rfl := k35_openM hM52
          have HP52 := Kd.R_seg HX52.out (x49_2 : Int) (od) (by have h_ : (x49_2 : Int) < ((x347000_2.length : Int) : Int) := od; first | exact h_ | (have e_ := (Kd.R_reads' HO_347000.out).1; omega) | simpa using h_) (seg := [.string (⟨#[115, 112, 111, 105, 108, 116]⟩ : ByteArray)]) (j := 0) hcl52 hcc52 (show 1 ≤ 2 from by decide) (x' := (⟨(⟨#[115, 112, 111, 105, 108, 116]⟩ : ByteArray), (rd_T35 x347000_2 x49_2).f1⟩ : S35)) (k35_mkM _ _ _ (⟨(⟨#[115, 112, 111, 105, 108, 116]⟩ : ByteArray), (rd_T35 x347000_2 x49_2).f1⟩ : S35) ) (fun _ hk => hk)
          have hx52_0 := hcc52 0 _ rfl
          (try simp only [show (k35).sz = 2 from rfl, Nat.mul_one, Nat.add_zero] at hx52_0)
          have hf52_0 := hfr52 0
          (try simp only [show (k35).sz = 2 from rfl, Nat.mul_one, Nat.add_zero] at hf52_0)
          clear hcl52 hcc52 hfr52 hM52
          go_wp2_with (first | ((with_reducible refine gate_store (t := 9) (p := 56) rfl ?_); refine store_event (t := 9) (p := 56) (v := ?vo_w53) (w1 := (wr.setCell ⟨go48, (x49_2 : Int).toNat * 2, none⟩ (.string (⟨#[115, 112, 111, 105, 108, 116]⟩ : ByteArray)))) ?hg ?ho ?hn ?hr ?_; (case ho => rfl); (case hg => rfl); (case hn => rfl); (case hr => first | (go_simp; done) | (go_simp; rfl)); intro w53 hw; have hg : wr.grownBy w53 (some go48) := (by rw [hw]; exact HP52.2); have hp_ : Kd.R k35 35 w53 w.heap.size (fun k_ => some k_ ≠ (u342000 : Value).ownBlock) (.slice (some ⟨go48, 0, none⟩) x347000_2.length co48) y352 := (by rw [hw, Ny352.out]; exact HP52.1); clear HP52; have n0_ := Aside0.mk (Kd.R_after (v := (.slice (some ⟨go48, 0, none⟩) x347000_2.length co48)) (v1 := (.slice (some ⟨go48, 0, none⟩) x347000_2.length co48)) (ok := (fun _ => True)) (by (with_reducible repeat (first | apply Kd.R_alloc | apply Kd.R_drewN | apply Kd.R_drew)); exact Kd.R_mono HO_342000.out (fun _ hk => ⟨trivial, hk⟩)) hg (.inl rfl)); have n1_ := Aside0.mk (hp_); have n2_ := Aside0.mk (blk_grown (g := gb334) (o := .cells #[.slice A2_0 l2_0.length c2_0, .string a2_1] 24 (0, 0)) bk hg (Kd.R_ne HO_347000.out BK334.out (by decide))); have n3_ := Aside0.mk (blk_grown (g := gb341) (o := .cells #[u342000, .string t340] 29 (0, 0)) bk hg (Kd.R_ne HO_347000.out BK341.out (by decide))); have n4_ := Aside0.mk (blk_grown (g := gb346) (o := .cells #[.slice (some ⟨go48, 0, none⟩) x347000_2.length co48, .string t345] 29 (0, 0)) bk hg (Kd.R_ne HO_347000.out BK346.out (by decide))); have n5_ := Aside0.mk ((by rw [hw]; exact below_set (HB.out) GB48.out : Below w.heap.size w w53)); clear HO_342000; clear HO_347000; clear BK334; clear BK341; clear BK346; clear HB; have HO_342000 := n0_; have HO_347000 := n1_; have BK334 := n2_; have BK341 := n3_; have BK346 := n4_; have HB := n5_; clear n0_ n1_ n2_ n3_ n4_ n5_; clear hg hw hp_))
          go_roundg k2
          case measure => have := HJ4.out; have := HK2.out; omega
          case rel => exact ⟨(wrap64 (x49_2 + 1)), (x342000_2), (y352), (u342000), (.slice (some ⟨go48, 0, none⟩) x347000_2.length co48), cl, H', ⟨by have := HJ4.out; have := HK2.out; omega⟩, ⟨by (with_reducible repeat (first | apply Kd.R_alloc | apply Kd.R_drewN | apply Kd.R_drew)); exact Kd.R_mono HO_342000.out (fun _ hk => hk.2)⟩, ⟨by (with_reducible repeat (first | apply Kd.R_alloc | apply Kd.R_drewN | apply Kd.R_drew)); exact HO_347000.out⟩, ⟨bk⟩, ⟨bk⟩, ⟨bk⟩, ⟨bwS⟩⟩
         ·rw [if_neg c47] at H
          exact absurd H (by simp)
        ·rw [if_neg c46] at H
         exact absurd H (by simp)
       ·rw [if_neg c45] at H
        have c45b0 : decide (x49_2 < (t342.length : Int)) = false := decide_eq_false c45
        clear c45
        replace H := Option.bind_eq_some_iff.mp H
        obtain ⟨t353, A540, H⟩ := H
        replace H : (if t353 = true then ((bulletinlaw36_works.f).bind fun t354 => (some t354)) else (some false)) = some r := H
        have A54 := Aside0.mk A540
        clear A540
        by_cases c55 : t353 = true
        ·subst c55
         have H1 : ((bulletinlaw36_works.f).bind fun t354 => (some t354)) = some r := by rw [if_pos rfl] at H; exact H
         clear H
         have H := H1
         clear H1
         replace H := Option.bind_eq_some_iff.mp H
         obtain ⟨t354, A560, H⟩ := H
         replace H : (some t354) = some r := H
         have A56 := Aside0.mk A560
         clear A560
         obtain rfl := Option.some.inj H
         have hnb57 := NB341_334.out
         have hnc57 := NB334_341.out
         have hnb58 := NB341_346.out
         have hnc58 := NB346_341.out
         have hcz59_0 : wr.cell? ⟨gb341, 0, none⟩ = some (u342000) := (blk_cell BK341.out 0).trans rfl
         have hcz59_1 : wr.cell? ⟨gb341, 1, none⟩ = some (.string t340) := (blk_cell BK341.out 1).trans rfl
         have hfz59_0 := blk_frozen BK341.out 0
         have hfz59_1 := blk_frozen BK341.out 1
         have hnb60 := NB334_346.out
         have hnc60 := NB346_334.out
         have hcz61_0 : wr.cell? ⟨gb334, 0, none⟩ = some (.slice A2_0 l2_0.length c2_0) := (blk_cell BK334.out 0).trans rfl
         have hcz61_1 : wr.cell? ⟨gb334, 1, none⟩ = some (.string a2_1) := (blk_cell BK334.out 1).trans rfl
         have hfz61_0 := blk_frozen BK334.out 0
         have hfz61_1 := blk_frozen BK334.out 1
         obtain ⟨Ao62, co62, eo62⟩ := Kd.R_slice HO_342000.out
         subst eo62
         go_wp2_with (first | ((with_reducible refine gate_callee (f := 11) rfl ?_); refine goesL_ (some 60) rfl rfl Tryz.func11 (by kernel_rfl) rfl #[.agg #[.slice Ao62 x342000_2.length co62, .string t340], .agg #[.slice A2_0 l2_0.length c2_0, .string a2_1]] rfl am ?_; (with_reducible refine (bulletinlaw16_Same.calls k2 _ _ x342000_2 t340 _ _ l2_0 a2_1 true _ ?side1 ?side2 ?side3 ?side4 A54.out).mono ?_); (case side1 => repeat (first | exact (Kd.R_reads' HO_342000.out).2.2 | (with_reducible refine Kd.C_alloc ?_ _) | (with_reducible refine Kd.C_drewN ?_ _) | (with_reducible refine Kd.C_drew ?_))); (case side2 => exact (Kd.R_reads' HO_342000.out).2.1); (case side3 => repeat (first | exact (Kd.C_below HR2_0.out HB.out) | (with_reducible refine Kd.C_alloc ?_ _) | (with_reducible refine Kd.C_drewN ?_ _) | (with_reducible refine Kd.C_drew ?_))); (case side4 => exact HC2_0.out); rintro e w63 ⟨rfl, hb⟩; refine ⟨_, rfl, ?_⟩; have n0_ := Aside0.mk (Kd.R_below (by (with_reducible repeat (first | apply Kd.R_alloc | apply Kd.R_drewN | apply Kd.R_drew)); exact HO_342000.out) hb); have n1_ := Aside0.mk (Kd.R_below (by (with_reducible repeat (first | apply Kd.R_alloc | apply Kd.R_drewN | apply Kd.R_drew)); exact HO_347000.out) hb); have n2_ := Aside0.mk (blk_below (g := gb334) (o := .cells #[.slice A2_0 l2_0.length c2_0, .string a2_1] 24 (0, 0)) bk hb); have n3_ := Aside0.mk (blk_below (g := gb341) (o := .cells #[.slice Ao62 x342000_2.length co62, .string t340] 29 (0, 0)) bk hb); have n4_ := Aside0.mk (blk_below (g := gb346) (o := .cells #[u347000, .string t345] 29 (0, 0)) bk hb); have n5_ := Aside0.mk (below_step bwS hb); clear HO_342000; clear HO_347000; clear BK334; clear BK341; clear BK346; clear HB; have HO_342000 := n0_; have HO_347000 := n1_; have BK334 := n2_; have BK341 := n3_; have BK346 := n4_; have HB := n5_; clear n0_ n1_ n2_ n3_ n4_ n5_; (try clear hb); (try clear hb2); (try clear hk); (try clear hi)) | (go_at_call 8; (with_reducible refine (bulletinlaw36_works.calls (hG := by first | exact hG | exact Glob.below hG (by first | exact HB.out | (repeat (first | (with_reducible first | exact HB.out | apply below_alloc | apply pw_below_drewN | apply below_drew1 | refine below_set ?_ GE334.out | refine below_set ?_ GE341.out | refine below_set ?_ GE346.out) | exact HB.out))) | exact Glob.drawn hG (by repeat (first | exact Drawn0.refl _ | apply Drawn0.step)))  t354 _ A56.out).mono ?_); rintro e w64 ⟨rfl, hb⟩; have n0_ := Aside0.mk (Kd.R_below (by (with_reducible repeat (first | apply Kd.R_alloc | apply Kd.R_drewN | apply Kd.R_drew)); exact HO_342000.out) hb); have n1_ := Aside0.mk (Kd.R_below (by (with_reducible repeat (first | apply Kd.R_alloc | apply Kd.R_drewN | apply Kd.R_drew)); exact HO_347000.out) hb); have n2_ := Aside0.mk (blk_below (g := gb334) (o := .cells #[.slice A2_0 l2_0.length c2_0, .string a2_1] 24 (0, 0)) bk hb); have n3_ := Aside0.mk (blk_below (g := gb341) (o := .cells #[.slice Ao62 x342000_2.length co62, .string t340] 29 (0, 0)) bk hb); have n4_ := Aside0.mk (blk_below (g := gb346) (o := .cells #[u347000, .string t345] 29 (0, 0)) bk hb); have n5_ := Aside0.mk (below_step bwS hb); clear HO_342000; clear HO_347000; clear BK334; clear BK341; clear BK346; clear HB; have HO_342000 := n0_; have HO_347000 := n1_; have BK334 := n2_; have BK341 := n3_; have BK346 := n4_; have HB := n5_; clear n0_ n1_ n2_ n3_ n4_ n5_; (try clear hb); (try clear hb2); (try clear hk); (try clear hi)))
         go_ret
         exact ⟨by first | rfl | (simp [errW_none, errW_some] <;> rfl) | (simp [*, errW_none, errW_some] <;> rfl), bwS⟩
        ·replace c55 := Bool.eq_false_iff.mpr c55
         subst c55
         have H1 : (some false) = some r := by rw [if_neg (show ¬ (false = true) by decide)] at H; exact H
         clear H
         have H := H1
         clear H1
         obtain rfl := Option.some.inj H
         have hnb65 := NB341_334.out
         have hnc65 := NB334_341.out
         have hnb66 := NB341_346.out
         have hnc66 := NB346_341.out
         have hcz67_0 : wr.cell? ⟨gb341, 0, none⟩ = some (u342000) := (blk_cell BK341.out 0).trans rfl
         have hcz67_1 : wr.cell? ⟨gb341, 1, none⟩ = some (.string t340) := (blk_cell BK341.out 1).trans rfl
         have hfz67_0 := blk_frozen BK341.out 0
         have hfz67_1 := blk_frozen BK341.out 1
         have hnb68 := NB334_346.out
         have hnc68 := NB346_334.out
         have hcz69_0 : wr.cell? ⟨gb334, 0, none⟩ = some (.slice A2_0 l2_0.length c2_0) := (blk_cell BK334.out 0).trans rfl
         have hcz69_1 : wr.cell? ⟨gb334, 1, none⟩ = some (.string a2_1) := (blk_cell BK334.out 1).trans rfl
         have hfz69_0 := blk_frozen BK334.out 0
         have hfz69_1 := blk_frozen BK334.out 1
         obtain ⟨Ao70, co70, eo70⟩ := Kd.R_slice HO_342000.out
         subst eo70
         go_wp2_with (first | ((with_reducible refine gate_callee (f := 11) rfl ?_); refine goesL_ (some 60) rfl rfl Tryz.func11 (by kernel_rfl) rfl #[.agg #[.slice Ao70 x342000_2.length co70, .string t340], .agg #[.slice A2_0 l2_0.length c2_0, .string a2_1]] rfl am ?_; (with_reducible refine (bulletinlaw16_Same.calls k2 _ _ x342000_2 t340 _ _ l2_0 a2_1 false _ ?side1 ?side2 ?side3 ?side4 A54.out).mono ?_); (case side1 => repeat (first | exact (Kd.R_reads' HO_342000.out).2.2 | (with_reducible refine Kd.C_alloc ?_ _) | (with_reducible refine Kd.C_drewN ?_ _) | (with_reducible refine Kd.C_drew ?_))); (case side2 => exact (Kd.R_reads' HO_342000.out).2.1); (case side3 => repeat (first | exact (Kd.C_below HR2_0.out HB.out) | (with_reducible refine Kd.C_alloc ?_ _) | (with_reducible refine Kd.C_drewN ?_ _) | (with_reducible refine Kd.C_drew ?_))); (case side4 => exact HC2_0.out); rintro e w71 ⟨rfl, hb⟩; refine ⟨_, rfl, ?_⟩; have n0_ := Aside0.mk (Kd.R_below (by (with_reducible repeat (first | apply Kd.R_alloc | apply Kd.R_drewN | apply Kd.R_drew)); exact HO_342000.out) hb); have n1_ := Aside0.mk (Kd.R_below (by (with_reducible repeat (first | apply Kd.R_alloc | apply Kd.R_drewN | apply Kd.R_drew)); exact HO_347000.out) hb); have n2_ := Aside0.mk (blk_below (g := gb334) (o := .cells #[.slice A2_0 l2_0.length c2_0, .string a2_1] 24 (0, 0)) bk hb); have n3_ := Aside0.mk (blk_below (g := gb341) (o := .cells #[.slice Ao70 x342000_2.length co70, .string t340] 29 (0, 0)) bk hb); have n4_ := Aside0.mk (blk_below (g := gb346) (o := .cells #[u347000, .string t345] 29 (0, 0)) bk hb); have n5_ := Aside0.mk (below_step bwS hb); clear HO_342000; clear HO_347000; clear BK334; clear BK341; clear BK346; clear HB; have HO_342000 := n0_; have HO_347000 := n1_; have BK334 := n2_; have BK341 := n3_; have BK346 := n4_; have HB := n5_; clear n0_ n1_ n2_ n3_ n4_ n5_; (try clear hb); (try clear hb2); (try clear hk); (try clear hi)))
         go_ret
         exact ⟨by first | rfl | (simp [errW_none, errW_some] <;> rfl) | (simp [*, errW_none, errW_some] <;> rfl), bwS⟩
    ·replace c26 := Bool.eq_false_iff.mpr c26
     subst c26
     have H1 : (some false) = some r := by rw [if_neg (show ¬ (false = true) by decide)] at H; exact H
     clear H
     have H := H1
     clear H1
     obtain rfl := Option.some.inj H
     have hcz72_0 : wc.cell? ⟨gb334, 0, none⟩ = some (.slice A2_0 l2_0.length c2_0) := (blk_cell BK334.out 0).trans rfl
     have hcz72_1 : wc.cell? ⟨gb334, 1, none⟩ = some (.string a2_1) := (blk_cell BK334.out 1).trans rfl
     have hfz72_0 := blk_frozen BK334.out 0
     have hfz72_1 := blk_frozen BK334.out 1
     try go_wp2_with (first | ((with_reducible refine gate_callee (f := 9) rfl ?_); refine goesL_ (some 32) rfl rfl Tryz.func9 (by kernel_rfl) rfl #[.agg #[.slice A2_0 l2_0.length c2_0, .string a2_1]] rfl am ?_; (with_reducible refine (bulletinlaw16_To.calls kj4 _ _ l2_0 a2_1 t337 t340 _ ?side1 ?side2 A22.out).mono ?_); (case side1 => repeat (first | exact (Kd.C_below HR2_0.out HB.out) | (with_reducible refine Kd.C_alloc ?_ _) | (with_reducible refine Kd.C_drewN ?_ _) | (with_reducible refine Kd.C_drew ?_))); (case side2 => exact HC2_0.out); rintro e w73 ⟨v338, rfl, ho0, hb⟩; refine ⟨_, rfl, ?_⟩; have n0_ := Aside0.mk (Kd.R_lower ho0 (below_size bwS)); have n1_ := Aside0.mk (blk_below (g := gb334) (o := .cells #[.slice A2_0 l2_0.length c2_0, .string a2_1] 24 (0, 0)) bk hb); have n2_ := Aside0.mk (below_step bwS hb); clear BK334; clear HB; have HO339 := n0_; have BK334 := n1_; have HB := n2_; clear n0_ n1_ n2_; (try clear hb); (try clear hb2); (try clear hk); (try clear hi); (try clear ho0)) | ((with_reducible refine gate_dst (N := 9) rfl ?_); (try (refine gate_guard (by rfl) ?_; dsimp only)); refine box_event ?hg (N := 9) ?hd (cs := #[.slice none 0 0, .string (⟨#[]⟩ : ByteArray)]) (t := 29) ?hr ?_; (case hd => rfl); (case hg => rfl); (case hr => first | (go_simp; done) | (go_simp; rfl)); intro gb341 hg w74 hbox hb; have n0_ := Aside0.mk (Kd.R_below (by (with_reducible repeat (first | apply Kd.R_alloc | apply Kd.R_drewN | apply Kd.R_drew)); exact HO339.out) hb); have n1_ := Aside0.mk (blk_below (g := gb334) (o := .cells #[.slice A2_0 l2_0.length c2_0, .string a2_1] 24 (0, 0)) bk hb); have n2_ := Aside0.mk (below_step bwS hb); have n3_ := Aside0.mk (hbox); have n4_ := Aside0.mk ((by rw [hg]; exact (below_size bwS) : w.heap.size ≤ gb341)); have n5_ := Aside0.mk ((by rw [hg]; exact (below_size bwS) : w.heap.size ≤ gb341)); have n6_ := Aside0.mk ((by rw [hg]; exact Nat.ne_of_lt (blk_lt (g := gb334) (o := .cells #[.slice A2_0 l2_0.length c2_0, .string a2_1] 24 (0, 0)) bk) : gb334 ≠ gb341)); have n7_ := Aside0.mk ((by rw [hg]; exact Nat.ne_of_gt (blk_lt (g := gb334) (o := .cells #[.slice A2_0 l2_0.length c2_0, .string a2_1] 24 (0, 0)) bk) : gb341 ≠ gb334)); clear HO339; clear BK334; clear HB; have HO339 := n0_; have BK334 := n1_; have HB := n2_; have BK341 := n3_; have GW341 := n4_; have GE341 := n5_; have NB334_341 := n6_; have NB341_334 := n7_; clear n0_ n1_ n2_ n3_ n4_ n5_ n6_ n7_; clear hb hbox hg; obtain ⟨Ao75, co75, eo75⟩ := Kd.R_slice HO339.out; subst eo75; have hnb76 := NB341_334.out; have hnc76 := NB334_341.out; have hcz77_0 : w74.cell? ⟨gb341, 0, none⟩ = some (.slice none 0 0) := (blk_cell BK341.out 0).trans rfl; have hcz77_1 : w74.cell? ⟨gb341, 1, none⟩ = some (.string (⟨#[]⟩ : ByteArray)) := (blk_cell BK341.out 1).trans rfl; have hfz77_0 := blk_frozen BK341.out 0; have hfz77_1 := blk_frozen BK341.out 1) | ((with_reducible refine gate_callee (f := 10) rfl ?_); refine goesL_ (some 37) rfl rfl Tryz.func10 (by kernel_rfl) rfl #[.string a0, .string a1, .agg #[.slice Ao75 t337.length co75, .string t340], .string a3] rfl am ?_; (with_reducible refine (dress_Copy.calls kj4 a0 a1 _ _ t337 t340 a3 t342 t345 _ ?side1 ?side2 A23.out).mono ?_); (case side1 => refine (Kd.R_reads' (e := 35) (base := w.heap.size) (ok := fun k_ => True) (n := t337.length) (c := co75) ?_).2.2; exact (by (with_reducible repeat (first | apply Kd.R_alloc | apply Kd.R_drewN | apply Kd.R_drew)); exact (Kd.R_mono (Kd.R_far (p := ⟨gb341, 1, none⟩) (Kd.R_far (p := ⟨gb341, 0, none⟩) (Kd.R_types HO339.out BK341.out (by decide)) (fun _ hk => hk.2) (.slice Ao75 t337.length co75)) (fun _ hk => hk.2) (.string t340)) (fun _ h_ => h_.1)))); (case side2 => exact (Kd.R_reads' HO339.out).2.1); rintro e w78 ⟨v343, rfl, ho0, hb⟩; refine ⟨_, rfl, ?_⟩; have n0_ := Aside0.mk (Kd.R_elder' (by (with_reducible repeat (first | apply Kd.R_alloc | apply Kd.R_drewN | apply Kd.R_drew)); exact (Kd.R_mono (Kd.R_far (p := ⟨gb341, 1, none⟩) (Kd.R_far (p := ⟨gb341, 0, none⟩) (Kd.R_types HO339.out BK341.out (by decide)) (fun _ hk => hk.2) (.slice Ao75 t337.length co75)) (fun _ hk => hk.2) (.string t340)) (fun _ h_ => h_.1))) (Kd.R_base ho0) hb); have n1_ := Aside0.mk (Kd.R_lower (Kd.R_new' ho0 (Kd.R_lt (by (with_reducible repeat (first | apply Kd.R_alloc | apply Kd.R_drewN | apply Kd.R_drew)); exact (Kd.R_mono (Kd.R_far (p := ⟨gb341, 1, none⟩) (Kd.R_far (p := ⟨gb341, 0, none⟩) (Kd.R_types HO339.out BK341.out (by decide)) (fun _ hk => hk.2) (.slice Ao75 t337.length co75)) (fun _ hk => hk.2) (.string t340)) (fun _ h_ => h_.1))))) (below_size bwS)); have n2_ := Aside0.mk (blk_below (g := gb334) (o := .cells #[.slice A2_0 l2_0.length c2_0, .string a2_1] 24 (0, 0)) (by (with_reducible repeat (first | refine blk_drewN ?_ _ | refine blk_drew ?_ | refine blk_alloc ?_ _)); refine blk_far ?_ NB334_341.out _; (with_reducible repeat (first | refine blk_drewN ?_ _ | refine blk_drew ?_ | refine blk_alloc ?_ _)); refine blk_far ?_ NB334_341.out _; (with_reducible repeat (first | refine blk_drewN ?_ _ | refine blk_drew ?_ | refine blk_alloc ?_ _)); exact BK334.out) hb); have n3_ := Aside0.mk (blk_below (g := gb341) (o := .cells #[.slice Ao75 t337.length co75, .string t340] 29 (0, 0)) (by (with_reducible repeat (first | refine blk_drewN ?_ _ | refine blk_drew ?_ | refine blk_alloc ?_ _)); refine blk_put (cs := #[.slice Ao75 t337.length co75, .string (⟨#[]⟩ : ByteArray)]) ?_ 1 _ rfl; (with_reducible repeat (first | refine blk_drewN ?_ _ | refine blk_drew ?_ | refine blk_alloc ?_ _)); refine blk_put (cs := #[.slice none 0 0, .string (⟨#[]⟩ : ByteArray)]) ?_ 0 _ rfl; (with_reducible repeat (first | refine blk_drewN ?_ _ | refine blk_drew ?_ | refine blk_alloc ?_ _)); exact BK341.out) hb); have n4_ := Aside0.mk (below_step bwS hb); clear HO339; clear BK334; clear BK341; clear HB; have HO339 := n0_; have HO344 := n1_; have BK334 := n2_; have BK341 := n3_; have HB := n4_; clear n0_ n1_ n2_ n3_ n4_; (try clear hb); (try clear hb2); (try clear hk); (try clear hi); (try clear ho0)) | ((with_reducible refine gate_dst (N := 10) rfl ?_); (try (refine gate_guard (by rfl) ?_; dsimp only)); refine box_event ?hg (N := 10) ?hd (cs := #[.slice none 0 0, .string (⟨#[]⟩ : ByteArray)]) (t := 29) ?hr ?_; (case hd => rfl); (case hg => rfl); (case hr => first | (go_simp; done) | (go_simp; rfl)); intro gb346 hg w79 hbox hb; have n0_ := Aside0.mk (Kd.R_below (by (with_reducible repeat (first | apply Kd.R_alloc | apply Kd.R_drewN | apply Kd.R_drew)); exact HO339.out) hb); have n1_ := Aside0.mk (Kd.R_below (by (with_reducible repeat (first | apply Kd.R_alloc | apply Kd.R_drewN | apply Kd.R_drew)); exact HO344.out) hb); have n2_ := Aside0.mk (blk_below (g := gb334) (o := .cells #[.slice A2_0 l2_0.length c2_0, .string a2_1] 24 (0, 0)) bk hb); have n3_ := Aside0.mk (blk_below (g := gb341) (o := .cells #[.slice Ao75 t337.length co75, .string t340] 29 (0, 0)) bk hb); have n4_ := Aside0.mk (below_step bwS hb); have n5_ := Aside0.mk (hbox); have n6_ := Aside0.mk ((by rw [hg]; exact (below_size bwS) : w.heap.size ≤ gb346)); have n7_ := Aside0.mk ((by rw [hg]; exact (below_size bwS) : w.heap.size ≤ gb346)); have n8_ := Aside0.mk ((by rw [hg]; exact Nat.ne_of_lt (blk_lt (g := gb334) (o := .cells #[.slice A2_0 l2_0.length c2_0, .string a2_1] 24 (0, 0)) bk) : gb334 ≠ gb346)); have n9_ := Aside0.mk ((by rw [hg]; exact Nat.ne_of_gt (blk_lt (g := gb334) (o := .cells #[.slice A2_0 l2_0.length c2_0, .string a2_1] 24 (0, 0)) bk) : gb346 ≠ gb334)); have n10_ := Aside0.mk ((by rw [hg]; exact Nat.ne_of_lt (blk_lt (g := gb341) (o := .cells #[.slice Ao75 t337.length co75, .string t340] 29 (0, 0)) bk) : gb341 ≠ gb346)); have n11_ := Aside0.mk ((by rw [hg]; exact Nat.ne_of_gt (blk_lt (g := gb341) (o := .cells #[.slice Ao75 t337.length co75, .string t340] 29 (0, 0)) bk) : gb346 ≠ gb341)); clear HO339; clear HO344; clear BK334; clear BK341; clear HB; have HO339 := n0_; have HO344 := n1_; have BK334 := n2_; have BK341 := n3_; have HB := n4_; have BK346 := n5_; have GW346 := n6_; have GE346 := n7_; have NB334_346 := n8_; have NB346_334 := n9_; have NB341_346 := n10_; have NB346_341 := n11_; clear n0_ n1_ n2_ n3_ n4_ n5_ n6_ n7_ n8_ n9_ n10_ n11_; clear hb hbox hg; obtain ⟨Ao80, co80, eo80⟩ := Kd.R_slice HO344.out; subst eo80; have hnb81 := NB346_334.out; have hnc81 := NB334_346.out; have hnb82 := NB346_341.out; have hnc82 := NB341_346.out; have hcz83_0 : w79.cell? ⟨gb346, 0, none⟩ = some (.slice none 0 0) := (blk_cell BK346.out 0).trans rfl; have hcz83_1 : w79.cell? ⟨gb346, 1, none⟩ = some (.string (⟨#[]⟩ : ByteArray)) := (blk_cell BK346.out 1).trans rfl; have hfz83_0 := blk_frozen BK346.out 0; have hfz83_1 := blk_frozen BK346.out 1))
     have n0_ : Aside0 (Kd.R k35 35 ((w79.setCell ⟨gb346, 0, none⟩ (.slice Ao80 t342.length co80)).setCell ⟨gb346, 1, none⟩ (.string t345)) w.heap.size (fun k_ => some k_ ≠ (.slice Ao80 t342.length co80 : Value).ownBlock) (.slice Ao75 t337.length co75) t337) := ⟨by (with_reducible repeat (first | apply Kd.R_alloc | apply Kd.R_drewN | apply Kd.R_drew)); exact Kd.R_mono (Kd.R_far (p := ⟨gb346, 1, none⟩) (Kd.R_far (p := ⟨gb346, 0, none⟩) (Kd.R_types HO339.out BK346.out (by decide)) (fun _ hk => hk.2) (.slice Ao80 t342.length co80)) (fun _ hk => hk.2) (.string t345)) (fun _ hk => hk.1.2)⟩
     have n1_ : Aside0 (Kd.R k35 35 ((w79.setCell ⟨gb346, 0, none⟩ (.slice Ao80 t342.length co80)).setCell ⟨gb346, 1, none⟩ (.string t345)) w.heap.size (fun k_ => some k_ ≠ (.slice Ao75 t337.length co75 : Value).ownBlock) (.slice Ao80 t342.length co80) t342) := ⟨by (with_reducible repeat (first | apply Kd.R_alloc | apply Kd.R_drewN | apply Kd.R_drew)); exact Kd.R_mono (Kd.R_far (p := ⟨gb346, 1, none⟩) (Kd.R_far (p := ⟨gb346, 0, none⟩) (Kd.R_types HO344.out BK346.out (by decide)) (fun _ hk => hk.2) (.slice Ao80 t342.length co80)) (fun _ hk => hk.2) (.string t345)) (fun _ hk => hk.1.2)⟩
     have n2_ : Aside0 (((w79.setCell ⟨gb346, 0, none⟩ (.slice Ao80 t342.length co80)).setCell ⟨gb346, 1, none⟩ (.string t345)).heap[gb334]? = some (.cells #[.slice A2_0 l2_0.length c2_0, .string a2_1] 24 (0, 0))) := ⟨by (with_reducible repeat (first | refine blk_drewN ?_ _ | refine blk_drew ?_ | refine blk_alloc ?_ _)); refine blk_far ?_ NB334_346.out _; (with_reducible repeat (first | refine blk_drewN ?_ _ | refine blk_drew ?_ | refine blk_alloc ?_ _)); refine blk_far ?_ NB334_346.out _; (with_reducible repeat (first | refine blk_drewN ?_ _ | refine blk_drew ?_ | refine blk_alloc ?_ _)); exact BK334.out⟩
     have n3_ : Aside0 (((w79.setCell ⟨gb346, 0, none⟩ (.slice Ao80 t342.length co80)).setCell ⟨gb346, 1, none⟩ (.string t345)).heap[gb341]? = some (.cells #[.slice Ao75 t337.length co75, .string t340] 29 (0, 0))) := ⟨by (with_reducible repeat (first | refine blk_drewN ?_ _ | refine blk_drew ?_ | refine blk_alloc ?_ _)); refine blk_far ?_ NB341_346.out _; (with_reducible repeat (first | refine blk_drewN ?_ _ | refine blk_drew ?_ | refine blk_alloc ?_ _)); refine blk_far ?_ NB341_346.out _; (with_reducible repeat (first | refine blk_drewN ?_ _ | refine blk_drew ?_ | refine blk_alloc ?_ _)); exact BK341.out⟩
     have n4_ : Aside0 (((w79.setCell ⟨gb346, 0, none⟩ (.slice Ao80 t342.length co80)).setCell ⟨gb346, 1, none⟩ (.string t345)).heap[gb346]? = some (.cells #[.slice Ao80 t342.length co80, .string t345] 29 (0, 0))) := ⟨by (with_reducible repeat (first | refine blk_drewN ?_ _ | refine blk_drew ?_ | refine blk_alloc ?_ _)); refine blk_put (cs := #[.slice Ao80 t342.length co80, .string (⟨#[]⟩ : ByteArray)]) ?_ 1 _ rfl; (with_reducible repeat (first | refine blk_drewN ?_ _ | refine blk_drew ?_ | refine blk_alloc ?_ _)); refine blk_put (cs := #[.slice none 0 0, .string (⟨#[]⟩ : ByteArray)]) ?_ 0 _ rfl; (with_reducible repeat (first | refine blk_drewN ?_ _ | refine blk_drew ?_ | refine blk_alloc ?_ _)); exact BK346.out⟩
     have n5_ : Aside0 (Below w.heap.size w ((w79.setCell ⟨gb346, 0, none⟩ (.slice Ao80 t342.length co80)).setCell ⟨gb346, 1, none⟩ (.string t345))) := ⟨bwS⟩
     (try clear HO339)
     (try clear HO344)
     (try clear BK334)
     (try clear BK341)
     (try clear BK346)
     (try clear HB)
     generalize ((w79.setCell ⟨gb346, 0, none⟩ (.slice Ao80 t342.length co80)).setCell ⟨gb346, 1, none⟩ (.string t345)) = w84 at n0_ n1_ n2_ n3_ n4_ n5_ ⊢
     have HO339 := n0_
     have HO344 := n1_
     have BK334 := n2_
     have BK341 := n3_
     have BK346 := n4_
     have HB := n5_
     clear n0_ n1_ n2_ n3_ n4_ n5_
     have n0_ := Aside0.mk (Kd.R_drew HO339.out)
     have n1_ := Aside0.mk (Kd.R_drew HO344.out)
     have n2_ := Aside0.mk (blk_drew BK334.out)
     have n3_ := Aside0.mk (blk_drew BK341.out)
     have n4_ := Aside0.mk (blk_drew BK346.out)
     have n5_ := Aside0.mk (below_drew1 HB.out)
     clear HO339
     clear HO344
     clear BK334
     clear BK341
     clear BK346
     clear HB
     have HO339 := n0_
     have HO344 := n1_
     have BK334 := n2_
     have BK341 := n3_
     have BK346 := n4_
     have HB := n5_
     clear n0_ n1_ n2_ n3_ n4_ n5_
     refine start_ (n := 8) (S := fun w' => w'.cell? ⟨gb346, 0, none⟩ = some (.slice Ao80 t342.length co80) ∧ w'.cell? ⟨gb346, 1, none⟩ = some (.string t345) ∧ w'.cell? ⟨gb334, 0, none⟩ = some (.slice A2_0 l2_0.length c2_0) ∧ w'.cell? ⟨gb334, 1, none⟩ = some (.string a2_1)) (ds := []) #[false, false, false, false, false, false, false, false] (by kernel_rfl) rfl rfl ⟨(blk_cell BK346.out 0).trans rfl, (blk_cell BK346.out 1).trans rfl, (blk_cell BK334.out 0).trans rfl, (blk_cell BK334.out 1).trans rfl⟩ (fun hHeld => ?_); refine with_tabW bulletinlaw36_DressCopies.tab5 bulletinlaw36_DressCopies.bits5 (fun HT_ HW_ => ?_)
     generalize w84.drew = w85 at HO339 HO344 BK334 BK341 BK346 HB hHeld ⊢
     refine pure_ (i := 1) (N := some 39) (v := ?_) (a' := ?_) (bitsL 8 2) rfl rfl (any_of HT_.out (by kernel_rfl)) (fun _ _ _ h => h) (Or.inl ⟨by rfl, ?_⟩) ?_ ?_
     rotate_left
     ·intro w'
      go_simp
      with_reducible rfl
     rotate_left
     ·simp only [Act.put, List.setIfInBounds_toArray, List.set_cons_zero, List.set_cons_succ, i64_w, i32_w]
      rfl
     refine pure_ (i := 2) (N := some 40) (v := ?_) (a' := ?_) (bitsL 8 6) rfl rfl (any_of HT_.out (by kernel_rfl)) (fun _ _ _ h => h) (Or.inl ⟨by rfl, ?_⟩) ?_ ?_
     rotate_left
     ·intro w'
      go_simp
      with_reducible rfl
     rotate_left
     ·simp only [Act.put, List.setIfInBounds_toArray, List.set_cons_zero, List.set_cons_succ, i64_w, i32_w]
      rfl
     refine pure_ (i := 4) (N := some 42) (v := ?_) (a' := ?_) (bitsL 8 22) rfl rfl (any_of HT_.out (by kernel_rfl)) (fun _ _ _ h => h) (Or.inl ⟨by rfl, ?_⟩) ?_ ?_
     rotate_left
     ·intro w'
      go_simp
      with_reducible rfl
     rotate_left
     ·simp only [Act.put, List.setIfInBounds_toArray, List.set_cons_zero, List.set_cons_succ, i64_w, i32_w]
      rfl
     refine take_ (i := 0) (N := some 38) (v := ?_) (a' := ?_) (bitsL 8 23) rfl rfl (take_ofW HT_.out HW_.out (by kernel_rfl)) (fun _ _ _ h => h) (Or.inl ⟨by rfl, ?_⟩) hHeld ?_ ?_
     rotate_left
     ·rintro w' ⟨s0, s1, s2, s3⟩
      go_simp
      with_reducible rfl
     rotate_left
     ·simp only [Act.put, List.setIfInBounds_toArray, List.set_cons_zero, List.set_cons_succ, i64_w, i32_w]
      rfl
     refine take_ (i := 3) (N := some 41) (v := ?_) (a' := ?_) (bitsL 8 31) rfl rfl (take_ofW HT_.out HW_.out (by kernel_rfl)) (fun _ _ _ h => h) (Or.inl ⟨by rfl, ?_⟩) hHeld ?_ ?_
     rotate_left
     ·rintro w' ⟨s0, s1, s2, s3⟩
      go_simp
      with_reducible rfl
     rotate_left
     ·simp only [Act.put, List.setIfInBounds_toArray, List.set_cons_zero, List.set_cons_succ, i64_w, i32_w]
      rfl
     refine one_ (i := 5) (N := some 43) (bitsL 8 63) rfl rfl (one_of HT_.out (by kernel_rfl)) (by decide) (fun K hK => ?_)
     refine goes_ Tryz.func12 (by kernel_rfl) rfl #[.string a0, .string a1, .agg #[.slice A2_0 l2_0.length c2_0, .string a2_1], .string a3] (by rfl) rfl rfl am ?_
     with_reducible refine (bulletinref36_Copy.calls kj4 a0 a1 _ _ l2_0 a2_1 a3 t347 t350 _ ?side1 ?side2 A24.out).mono ?_
     (case side1 => repeat (first | exact (Kd.C_below HR2_0.out HB.out) | (with_reducible refine Kd.C_alloc ?_ _) | (with_reducible refine Kd.C_drewN ?_ _) | (with_reducible refine Kd.C_drew ?_)))
     (case side2 => exact HC2_0.out)
     rintro e w86 ⟨v348, rfl, ho0, hb⟩
     refine ⟨_, rfl, ?_⟩
     have n0_ := Aside0.mk (Kd.R_below (by (with_reducible repeat (first | apply Kd.R_alloc | apply Kd.R_drewN | apply Kd.R_drew)); exact HO339.out) hb)
     have n1_ := Aside0.mk (Kd.R_below (by (with_reducible repeat (first | apply Kd.R_alloc | apply Kd.R_drewN | apply Kd.R_drew)); exact HO344.out) hb)
     have n2_ := Aside0.mk (Kd.R_lower ho0 (below_size bwS))
     have n3_ := Aside0.mk (blk_below (g := gb334) (o := .cells #[.slice A2_0 l2_0.length c2_0, .string a2_1] 24 (0, 0)) bk hb)
     have n4_ := Aside0.mk (blk_below (g := gb341) (o := .cells #[.slice Ao75 t337.length co75, .string t340] 29 (0, 0)) bk hb)
     have n5_ := Aside0.mk (blk_below (g := gb346) (o := .cells #[.slice Ao80 t342.length co80, .string t345] 29 (0, 0)) bk hb)
     have n6_ := Aside0.mk (below_step bwS hb)
     clear HO339
     clear HO344
     clear BK334
     clear BK341
     clear BK346
     clear HB
     have HO339 := n0_
     have HO344 := n1_
     have HO349 := n2_
     have BK334 := n3_
     have BK341 := n4_
     have BK346 := n5_
     have HB := n6_
     clear n0_ n1_ n2_ n3_ n4_ n5_ n6_
     (try clear hb)
     (try clear hb2)
     (try clear hk)
     (try clear hi)
     (try clear ho0)
     obtain ⟨Ao87, co87, eo87⟩ := Kd.R_slice HO349.out
     (first | subst eo87 | (injection eo87 with f1_ f2_ f3_; have f4_ := f1_.symm; have f5_ := f3_.symm; clear f1_ f2_ f3_; subst f4_; subst f5_))
     refine hK.out _ _ ⟨(blk_cell BK346.out 0).trans rfl, (blk_cell BK346.out 1).trans rfl, (blk_cell BK334.out 0).trans rfl, (blk_cell BK334.out 1).trans rfl⟩ (fun hHeld => ?_)
     clear hK K
     refine norm_ (a' := ?_) ?_ ?_
     rotate_left
     ·show Act.put _ (some 43) _ = _
      simp only [Act.put, List.setIfInBounds_toArray, List.set_cons_zero, List.set_cons_succ, i64_w, i32_w]
      rfl
     refine one_ (i := 6) (N := some 44) (bitsL 8 127) rfl rfl (one_of HT_.out (by kernel_rfl)) (by decide) (fun K hK => ?_)
     refine goes_ Tryz.func11 (by kernel_rfl) rfl #[.agg #[.slice Ao80 t342.length co80, .string t345], .agg #[.slice Ao87 t347.length co87, .string t350]] (by rfl) rfl rfl am ?_
     with_reducible refine (bulletinlaw16_Same.calls kj4 _ _ t342 t345 _ _ t347 t350 false _ ?side1 ?side2 ?side3 ?side4 A25.out).mono ?_
     (case side1 => repeat (first | exact (Kd.R_reads' HO344.out).2.2 | (with_reducible refine Kd.C_alloc ?_ _) | (with_reducible refine Kd.C_drewN ?_ _) | (with_reducible refine Kd.C_drew ?_)))
     (case side2 => exact (Kd.R_reads' HO344.out).2.1)
     (case side3 => repeat (first | exact (Kd.R_reads' HO349.out).2.2 | (with_reducible refine Kd.C_alloc ?_ _) | (with_reducible refine Kd.C_drewN ?_ _) | (with_reducible refine Kd.C_drew ?_)))
     (case side4 => exact (Kd.R_reads' HO349.out).2.1)
     rintro e w88 ⟨rfl, hb⟩
     refine ⟨_, rfl, ?_⟩
     have n0_ := Aside0.mk (Kd.R_below (by (with_reducible repeat (first | apply Kd.R_alloc | apply Kd.R_drewN | apply Kd.R_drew)); exact HO339.out) hb)
     have n1_ := Aside0.mk (Kd.R_below (by (with_reducible repeat (first | apply Kd.R_alloc | apply Kd.R_drewN | apply Kd.R_drew)); exact HO344.out) hb)
     have n2_ := Aside0.mk (Kd.R_below (by (with_reducible repeat (first | apply Kd.R_alloc | apply Kd.R_drewN | apply Kd.R_drew)); exact HO349.out) hb)
     have n3_ := Aside0.mk (blk_below (g := gb334) (o := .cells #[.slice A2_0 l2_0.length c2_0, .string a2_1] 24 (0, 0)) bk hb)
     have n4_ := Aside0.mk (blk_below (g := gb341) (o := .cells #[.slice Ao75 t337.length co75, .string t340] 29 (0, 0)) bk hb)
     have n5_ := Aside0.mk (blk_below (g := gb346) (o := .cells #[.slice Ao80 t342.length co80, .string t345] 29 (0, 0)) bk hb)
     have n6_ := Aside0.mk (below_step bwS hb)
     clear HO339
     clear HO344
     clear HO349
     clear BK334
     clear BK341
     clear BK346
     clear HB
     have HO339 := n0_
     have HO344 := n1_
     have HO349 := n2_
     have BK334 := n3_
     have BK341 := n4_
     have BK346 := n5_
     have HB := n6_
     clear n0_ n1_ n2_ n3_ n4_ n5_ n6_
     (try clear hb)
     (try clear hb2)
     (try clear hk)
     (try clear hi)
     refine hK.out _ _ ⟨(blk_cell BK346.out 0).trans rfl, (blk_cell BK346.out 1).trans rfl, (blk_cell BK334.out 0).trans rfl, (blk_cell BK334.out 1).trans rfl⟩ (fun hHeld => ?_)
     clear hK K
     refine norm_ (a' := ?_) ?_ ?_
     rotate_left
     ·show Act.put _ (some 44) _ = _
      simp only [Act.put, List.setIfInBounds_toArray, List.set_cons_zero, List.set_cons_succ, i64_w, i32_w]
      rfl
     refine pure_ (i := 7) (N := some 45) (v := ?_) (a' := ?_) (bitsL 8 255) rfl rfl (any_of HT_.out (by kernel_rfl)) (fun _ _ _ h => h) (Or.inl ⟨by rfl, ?_⟩) ?_ ?_
     rotate_left
     ·intro w'
      go_simp
      with_reducible rfl
     rotate_left
     ·simp only [Act.put, List.setIfInBounds_toArray, List.set_cons_zero, List.set_cons_succ, i64_w, i32_w]
      rfl
     refine done_ (done_of HT_.out (by kernel_rfl)) ?_
     try go_wp2
     go_ret
     exact ⟨by first | rfl | (simp [errW_none, errW_some] <;> rfl) | (simp [*, errW_none, errW_some] <;> rfl), bwS⟩

end Go.Proofs.YtihabmcaplnbcaaGreatDoor.Fn
namespace Go.Proofs.YtihabmcaplnbcaaGreatDoor.Fn
open Go.RowKit Go.Proofs.YtihabmcaplnbcaaGreatDoorW.PrintWords Go.Proofs.YtihabmcaplnbcaaGreatDoorW.PrintLast Go.Proofs.YtihabmcaplnbcaaGreatDoorW.PrintMore
attribute [local go_sem] max2_int min2_int max_two min_two max_three min_three max_four min_four
set_option linter.unusedVariables false
set_option linter.unusedSimpArgs false

/-! ### head_same: function 78 -/
end Go.Proofs.YtihabmcaplnbcaaGreatDoor.Fn
set_option linter.unusedVariables false
set_option linter.unusedSimpArgs false
namespace Go.Proofs.YtihabmcaplnbcaaGreatDoor.Pl
open Go.Proofs.YtihabmcaplnbcaaGreatDoorW.PrintWords
end Go.Proofs.YtihabmcaplnbcaaGreatDoor.Pl
namespace Go.Proofs.YtihabmcaplnbcaaGreatDoor.Fn
open Go.RowKit Go.Proofs.YtihabmcaplnbcaaGreatDoorW.PrintWords

end Go.Proofs.YtihabmcaplnbcaaGreatDoor.Fn
set_option linter.unusedVariables false
set_option linter.unusedSimpArgs false
namespace Go.Proofs.YtihabmcaplnbcaaGreatDoor.Pl
open Go.RowKit Go.Proofs.YtihabmcaplnbcaaGreatDoorW.PrintWords Go.Proofs.YtihabmcaplnbcaaGreatDoor.Fn

/-! Layer 15: fields, the document's and the program's. -/
abbrev FQ := S74
abbrev FP := S35
def toF (x : FQ) : FP := ⟨x.f0, x.f1⟩
theorem rdQ (l : List FQ) (i : Nat) (h : i < l.length) : rd_T74 l (i : Int) = l[i] := by
  unfold rd_T74
  rw [Int.toNat_natCast, List.getD_eq_getElem?_getD, List.getElem?_eq_getElem h]; rfl
theorem rdP (l : List FP) (i : Nat) (h : i < l.length) : rd_T35 l (i : Int) = l[i] := by
  unfold rd_T35
  rw [Int.toNat_natCast, List.getD_eq_getElem?_getD, List.getElem?_eq_getElem h]; rfl
theorem wrapS (i : Nat) (h : i < 1000000000) : wrap64 ((i : Int) + 1) = ((i + 1 : Nat) : Int) := by
  rw [wrap_id (by omega) (by omega)]; omega
def okQ (f : FQ) : Bool := decide (f.f0.size ≤ 200) && decide (f.f1.size ≤ 3000)
def lightQ (l : List FQ) : Bool := (l.take 30).all okQ && decide (l.length ≤ 30)
theorem lightQ_rounds (l : List FQ) : ∀ (n i k : Nat), i + n = 31 → i ≤ 30 → 2 * n + 3 < k → i ≤ l.length → bulletinlaw15_Light.l0 k l (i : Int) = some (((l.take 30).drop i).all okQ && decide (l.length ≤ 30)) := by
  intro n
  induction n with
  | zero => intro i k h hi; omega
  | succ n ih =>
    intro i k h hi hk hil
    obtain ⟨k, rfl⟩ : ∃ q, k = q + 2 := ⟨k - 2, by omega⟩
    have hd : decide ((l.length : Int) ≤ 30) = decide (l.length ≤ 30) := by congr 1; exact propext ⟨fun h => by omega, fun h => by omega⟩
    rw [bulletinlaw15_Light.l0]
    by_cases h1 : i < l.length
    · rw [if_pos (by omega)]
      by_cases h2 : i < 30
      · rw [decide_eq_true (show ((i : Int) < 30) by omega), bulletinlaw15_Light.j1, if_pos rfl, if_pos (by omega), if_pos (by omega), rdQ l i h1]
        have hdr : (l.take 30).drop i = l[i] :: (l.take 30).drop (i + 1) := by
          rw [List.drop_eq_getElem_cons (by rw [List.length_take]; omega), List.getElem_take]
        rw [hdr, List.all_cons]
        have hok : okQ l[i] = (decide ((l[i]).f0.size ≤ 200) && decide ((l[i]).f1.size ≤ 3000)) := rfl
        by_cases a : (l[i]).f0.size > 200
        · rw [if_pos (by omega), hok, decide_eq_false (by omega)]; rfl
        · rw [if_neg (by omega)]
          by_cases b : (l[i]).f1.size > 3000
          · rw [if_pos (by omega), hok, decide_eq_false (show ¬ (l[i]).f1.size ≤ 3000 by omega)]; simp
          · rw [if_neg (by omega), wrapS i (by omega), ih (i + 1) k (by omega) (by omega) (by omega) (by omega), hok, decide_eq_true (show (l[i]).f0.size ≤ 200 by omega), decide_eq_true (show (l[i]).f1.size ≤ 3000 by omega)]
            rfl
      · rw [decide_eq_false (show ¬ ((i : Int) < 30) by omega), bulletinlaw15_Light.j1, if_neg (by decide), hd, List.drop_of_length_le (by rw [List.length_take]; omega)]
        rfl
    · rw [if_neg (by omega), bulletinlaw15_Light.j1, if_neg (by decide), hd, List.drop_of_length_le (by rw [List.length_take]; omega)]
      rfl
theorem lightQ_is (l : List FQ) (k : Nat) (hk : 100 < k) : bulletinlaw15_Light.f k l = some (lightQ l) := by
  unfold bulletinlaw15_Light.f lightQ
  have := lightQ_rounds l 31 0 k (by omega) (by omega) (by omega) (by omega)
  rw [List.drop_zero] at this
  exact this
theorem lightQ_some {l : List FQ} (h : lightQ l = true) : l.length ≤ 30 ∧ ∀ f ∈ l, f.f0.size ≤ 200 ∧ f.f1.size ≤ 3000 := by
  unfold lightQ at h
  rw [Bool.and_eq_true, decide_eq_true_iff] at h
  refine ⟨h.2, fun f hf => ?_⟩
  rw [List.take_of_length_le h.2] at h
  have := List.all_eq_true.1 h.1 f hf
  unfold okQ at this
  rw [Bool.and_eq_true, decide_eq_true_iff, decide_eq_true_iff] at this
  exact this
theorem toQ_rounds (l : List FQ) (hl : l.length ≤ 1000000) : ∀ (n i k : Nat), l.length = i + n → n < k → bulletinlaw15_To.l0 k l ((l.take i).map toF) (i : Int) = some (l.map toF) := by
  intro n
  induction n with
  | zero =>
    intro i k h hk
    obtain ⟨k, rfl⟩ : ∃ q, k = q + 1 := ⟨k - 1, by omega⟩
    rw [bulletinlaw15_To.l0, if_neg (by omega), List.take_of_length_le (by omega)]
  | succ n ih =>
    intro i k h hk
    obtain ⟨k, rfl⟩ : ∃ q, k = q + 1 := ⟨k - 1, by omega⟩
    rw [bulletinlaw15_To.l0, if_pos (by omega), if_pos (by omega), if_pos (by rw [List.length_map, List.length_take]; omega), rdQ l i (by omega), wrapS i (by omega)]
    have := ih (i + 1) k (by omega) (by omega)
    rw [List.take_succ_eq_append_getElem (by omega), List.map_append] at this
    exact this
theorem toQ_is (l : List FQ) (hl : l.length ≤ 1000000) (k : Nat) (hk : l.length < k) : bulletinlaw15_To.f k l = some (l.map toF) := by
  unfold bulletinlaw15_To.f
  exact toQ_rounds l hl l.length 0 k (by omega) (by omega)
end Go.Proofs.YtihabmcaplnbcaaGreatDoor.Pl
set_option linter.unusedVariables false
set_option linter.unusedSimpArgs false
namespace Go.Proofs.YtihabmcaplnbcaaGreatDoor.Pl
open Go.RowKit Go.Proofs.YtihabmcaplnbcaaGreatDoorW.PrintWords Go.Proofs.YtihabmcaplnbcaaGreatDoor.Fn

theorem light16 (l : List FQ) (b : ByteArray) (k : Nat) (hk : 100 < k) : bulletinlaw16_Light.f k l b = some (lightQ l && decide ((b.size : Int) ≤ 3000)) := by
  unfold bulletinlaw16_Light.f
  rw [lightQ_is l k hk, Option.bind_some]
  cases lightQ l <;> rfl
theorem to16 (l : List FQ) (b : ByteArray) (hl : l.length ≤ 1000000) (k : Nat) (hk : l.length < k) : bulletinlaw16_To.f k l b = some (l.map toF, b) := by
  unfold bulletinlaw16_To.f
  rw [toQ_is l hl k hk, Option.bind_some]
end Go.Proofs.YtihabmcaplnbcaaGreatDoor.Pl
set_option linter.unusedVariables false
set_option linter.unusedSimpArgs false
namespace Go.Proofs.YtihabmcaplnbcaaGreatDoor.Pl
open Go.RowKit Go.Proofs.YtihabmcaplnbcaaGreatDoorW.PrintWords Go.Proofs.YtihabmcaplnbcaaGreatDoor.Fn

theorem sameQ_rounds (q : List FQ) (hl : q.length ≤ 1000000) : ∀ (n i k : Nat), q.length = i + n → n < k → bulletinlaw15_Same.l0 k (q.map toF) q true (i : Int) = some true := by
  have hlen : (q.map toF).length = q.length := List.length_map ..
  intro n
  induction n with
  | zero =>
    intro i k h hk
    obtain ⟨k, rfl⟩ : ∃ q, k = q + 1 := ⟨k - 1, by omega⟩
    rw [bulletinlaw15_Same.l0, if_pos rfl, if_neg (by omega)]
  | succ n ih =>
    intro i k h hk
    obtain ⟨k, rfl⟩ : ∃ q, k = q + 1 := ⟨k - 1, by omega⟩
    have hi : i < q.length := by omega
    have e : (q.map toF)[i]'(by omega) = toF q[i] := List.getElem_map ..
    rw [bulletinlaw15_Same.l0, if_pos rfl, if_pos (by omega), if_pos (by omega), if_pos (by omega), rdQ q i hi, rdP _ i (by omega), e, if_pos (show (toF q[i]).f0.toList = q[i].f0.toList from rfl), wrapS i (by omega), show (toF q[i]).f1 = q[i].f1 from rfl, beq_self_eq_true]
    exact ih (i + 1) k (by omega) (by omega)
theorem sameQ_is (q : List FQ) (hl : q.length ≤ 1000000) (k : Nat) (hk : q.length < k) : bulletinlaw15_Same.f k (q.map toF) q = some true := by
  unfold bulletinlaw15_Same.f
  rw [List.length_map, beq_self_eq_true]
  exact sameQ_rounds q hl q.length 0 k (by omega) (by omega)
end Go.Proofs.YtihabmcaplnbcaaGreatDoor.Pl
namespace Go.Proofs.YtihabmcaplnbcaaGreatDoor.Fn
open Go.RowKit Go.Proofs.YtihabmcaplnbcaaGreatDoorW.PrintWords Go.Proofs.YtihabmcaplnbcaaGreatDoorW.PrintLast Go.Proofs.YtihabmcaplnbcaaGreatDoorW.PrintMore
attribute [local go_sem] max2_int min2_int max_two min_two max_three min_three max_four min_four
set_option linter.unusedVariables false
set_option linter.unusedSimpArgs false

/-! ### bulletinref06_Fold: function 49 -/
end Go.Proofs.YtihabmcaplnbcaaGreatDoor.Fn
namespace Go.Proofs.YtihabmcaplnbcaaGreatDoor.Fn
open Go.RowKit Go.Proofs.YtihabmcaplnbcaaGreatDoorW.PrintWords Go.Proofs.YtihabmcaplnbcaaGreatDoorW.PrintLast Go.Proofs.YtihabmcaplnbcaaGreatDoorW.PrintMore
attribute [local go_sem] max2_int min2_int max_two min_two max_three min_three max_four min_four
set_option linter.unusedVariables false
set_option linter.unusedSimpArgs false

/-! ### bulletinref13_label: function 200 -/
mutual
def bulletinref13_label.l0 : Nat → ByteArray → Int → Option (Bool)
 | 0, _, _ => none
 | k + 1, x0, x3 => if x3 < (x0.size : Int) then (if 0 ≤ x3 then (if (bt x0 x3) ≥ 65 then (bulletinref13_label.j1 k x0 x3 (bt x0 x3) (decide ((bt x0 x3) ≤ 90))) else (bulletinref13_label.j1 k x0 x3 (bt x0 x3) false)) else (none)) else (some (x0.toList != ([] : List UInt8)))
def bulletinref13_label.j1 : Nat → ByteArray → Int → Int → Bool → Option (Bool)
 | 0, _, _, _, _ => none
 | k + 1, x0, x3, x4, x20 => if x20 = true then (if x3 = 0 then (if ((x4 + 32) % 256) ≥ 97 then (if ((x4 + 32) % 256) ≤ 122 then (bulletinref13_label.l0 k x0 (wrap64 (x3 + 1))) else (if ((x4 + 32) % 256) ≥ 48 then (if ((x4 + 32) % 256) ≤ 57 then (bulletinref13_label.l0 k x0 (wrap64 (x3 + 1))) else (if ((x4 + 32) % 256) = 45 then (some false) else (some false))) else (if ((x4 + 32) % 256) = 45 then (some false) else (some false)))) else (if ((x4 + 32) % 256) ≥ 48 then (if ((x4 + 32) % 256) ≤ 57 then (bulletinref13_label.l0 k x0 (wrap64 (x3 + 1))) else (if ((x4 + 32) % 256) = 45 then (some false) else (some false))) else (if ((x4 + 32) % 256) = 45 then (some false) else (some false)))) else (if ((x4 + 32) % 256) ≥ 97 then (if ((x4 + 32) % 256) ≤ 122 then (bulletinref13_label.l0 k x0 (wrap64 (x3 + 1))) else (if ((x4 + 32) % 256) ≥ 48 then (if ((x4 + 32) % 256) ≤ 57 then (bulletinref13_label.l0 k x0 (wrap64 (x3 + 1))) else (if ((x4 + 32) % 256) = 45 then (if x3 = (wrap64 ((x0.size : Int) - 1)) then (some false) else (bulletinref13_label.l0 k x0 (wrap64 (x3 + 1)))) else (some false))) else (if ((x4 + 32) % 256) = 45 then (if x3 = (wrap64 ((x0.size : Int) - 1)) then (some false) else (bulletinref13_label.l0 k x0 (wrap64 (x3 + 1)))) else (some false)))) else (if ((x4 + 32) % 256) ≥ 48 then (if ((x4 + 32) % 256) ≤ 57 then (bulletinref13_label.l0 k x0 (wrap64 (x3 + 1))) else (if ((x4 + 32) % 256) = 45 then (if x3 = (wrap64 ((x0.size : Int) - 1)) then (some false) else (bulletinref13_label.l0 k x0 (wrap64 (x3 + 1)))) else (some false))) else (if ((x4 + 32) % 256) = 45 then (if x3 = (wrap64 ((x0.size : Int) - 1)) then (some false) else (bulletinref13_label.l0 k x0 (wrap64 (x3 + 1)))) else (some false))))) else (if x3 = 0 then (if x4 ≥ 97 then (if x4 ≤ 122 then (bulletinref13_label.l0 k x0 (wrap64 (x3 + 1))) else (if x4 ≥ 48 then (if x4 ≤ 57 then (bulletinref13_label.l0 k x0 (wrap64 (x3 + 1))) else (if x4 = 45 then (some false) else (some false))) else (if x4 = 45 then (some false) else (some false)))) else (if x4 ≥ 48 then (if x4 ≤ 57 then (bulletinref13_label.l0 k x0 (wrap64 (x3 + 1))) else (if x4 = 45 then (some false) else (some false))) else (if x4 = 45 then (some false) else (some false)))) else (if x4 ≥ 97 then (if x4 ≤ 122 then (bulletinref13_label.l0 k x0 (wrap64 (x3 + 1))) else (if x4 ≥ 48 then (if x4 ≤ 57 then (bulletinref13_label.l0 k x0 (wrap64 (x3 + 1))) else (if x4 = 45 then (if x3 = (wrap64 ((x0.size : Int) - 1)) then (some false) else (bulletinref13_label.l0 k x0 (wrap64 (x3 + 1)))) else (some false))) else (if x4 = 45 then (if x3 = (wrap64 ((x0.size : Int) - 1)) then (some false) else (bulletinref13_label.l0 k x0 (wrap64 (x3 + 1)))) else (some false)))) else (if x4 ≥ 48 then (if x4 ≤ 57 then (bulletinref13_label.l0 k x0 (wrap64 (x3 + 1))) else (if x4 = 45 then (if x3 = (wrap64 ((x0.size : Int) - 1)) then (some false) else (bulletinref13_label.l0 k x0 (wrap64 (x3 + 1)))) else (some false))) else (if x4 = 45 then (if x3 = (wrap64 ((x0.size : Int) - 1)) then (some false) else (bulletinref13_label.l0 k x0 (wrap64 (x3 + 1)))) else (some false)))))
end
end Go.Proofs.YtihabmcaplnbcaaGreatDoor.Fn
namespace Go.Proofs.YtihabmcaplnbcaaGreatDoor.Fn
open Go.RowKit Go.Proofs.YtihabmcaplnbcaaGreatDoorW.PrintWords Go.Proofs.YtihabmcaplnbcaaGreatDoorW.PrintLast Go.Proofs.YtihabmcaplnbcaaGreatDoorW.PrintMore
attribute [local go_sem] max2_int min2_int max_two min_two max_three min_three max_four min_four
set_option linter.unusedVariables false
set_option linter.unusedSimpArgs false

/-! ### bulletinref13_Domain: function 174 -/
end Go.Proofs.YtihabmcaplnbcaaGreatDoor.Fn
namespace Go.Proofs.YtihabmcaplnbcaaGreatDoor.Fn
open Go.RowKit Go.Proofs.YtihabmcaplnbcaaGreatDoorW.PrintWords Go.Proofs.YtihabmcaplnbcaaGreatDoorW.PrintLast Go.Proofs.YtihabmcaplnbcaaGreatDoorW.PrintMore
attribute [local go_sem] max2_int min2_int max_two min_two max_three min_three max_four min_four
set_option linter.unusedVariables false
set_option linter.unusedSimpArgs false

/-! ### bulletinref13_Why: function 134 -/
mutual
def bulletinref13_Why.j0 : Nat → Int → Bool → ByteArray → ByteArray → Option (Int)
 | 0, _, _, _, _ => none
 | k + 1, x4, x18, x585000, x585001 => if x18 = true then (some 130) else (bulletinref13_Why.l0 k x4 0 x585000 x585001)
def bulletinref13_Why.l0 : Nat → Int → Int → ByteArray → ByteArray → Option (Int)
 | 0, _, _, _, _ => none
 | k + 1, x4, x5, x585000, x585001 => if x5 < (x585000.size : Int) then (if 0 ≤ x5 then (if (bt x585000 x5) < 32 then (some 130) else (if (bt x585000 x5) > 126 then (some 130) else (bulletinref13_Why.l0 k x4 (wrap64 (x5 + 1)) x585000 x585001))) else (none)) else (if x4 = 0 then (if (x585000.size : Int) > 64 then (some 2) else ((bulletinref13_Text.f k x585000 x585001).bind fun t587 => (if (t587.size : Int) > 254 then (some 2) else (some 0)))) else (some 2))
end
end Go.Proofs.YtihabmcaplnbcaaGreatDoor.Fn
set_option linter.unusedVariables false
namespace Go.Proofs.YtihabmcaplnbcaaGreatDoor.Pl
open Go.RowKit Go.Proofs.YtihabmcaplnbcaaGreatDoorW.PrintWords Go.Proofs.YtihabmcaplnbcaaGreatDoor.Fn

/-! Layer 13, the document's, over lists of bytes: it answers as the program does. -/
theorem rdS_drop {l : List Bytes} {i : Nat} {x : Bytes} {r : List Bytes} (h : l.drop i = x :: r) : rdOf ByteArray.empty (l.map str) (i : Int) = str x := by
  have h1 : l[i]? = some x := by
    have := congrArg List.head? h
    rw [List.head?_drop] at this
    exact this
  unfold rdOf
  rw [List.getD_eq_getElem?_getD, List.getElem?_map]
  simp [h1]
theorem dropS_lt {α : Type} {l : List α} {i : Nat} {x : α} {r : List α} (h : l.drop i = x :: r) : i < l.length ∧ l.drop (i + 1) = r := by
  have h1 : i < l.length := by
    rcases Nat.lt_or_ge i l.length with h' | h'
    · exact h'
    · rw [List.drop_of_length_le h'] at h; cases h
  refine ⟨h1, ?_⟩
  rw [← List.drop_drop, h]
  rfl
def headJoin (w : Bytes) : List Bytes → List Bytes
  | [] => [w]
  | p :: ps => (w ++ p) :: ps
theorem headJoin_nil (l : List Bytes) (h : l ≠ []) : headJoin [] l = l := by
  cases l with
  | nil => exact absurd rfl h
  | cons p ps => rfl
theorem headJoin_step (c x : UInt8) (w rest : Bytes) (hx : ¬ x = c) : headJoin w (splitL c (x :: rest)) = headJoin (w ++ [x]) (splitL c rest) := by
  have h := splitL_ne c rest
  rw [splitL, if_neg hx]
  cases hs : splitL c rest with
  | nil => exact absurd hs h
  | cons p ps => simp [headJoin]
theorem refSplit_l0 (s : ByteArray) (hs : s.size ≤ 1000000000) (c : UInt8) : ∀ (rest : Bytes) (i k : Nat) (acc : List Bytes) (w : Bytes), (bs s).drop i = rest → i ≤ (bs s).length → rest.length + 1 ≤ k → acc.length ≤ i → w.length ≤ i →
    bulletinref13_Split.l0 k s (c.toNat : Int) (acc.map str) (str w) (i : Int) = some ((acc ++ headJoin w (splitL c rest)).map str)
  | [], i, k, acc, w, hd, hi, hk, ha, hw => by
    obtain ⟨k, rfl⟩ : ∃ j, k = j + 1 := ⟨k - 1, by omega⟩
    have := drop_nil hd
    rw [bs_length] at this hi
    rw [bulletinref13_Split.l0, if_neg (by omega), if_pos (by rw [List.length_map]; omega)]
    simp [splitL, headJoin]
  | x :: rest, i, k, acc, w, hd, hi, hk, ha, hw => by
    obtain ⟨k, rfl⟩ : ∃ j, k = j + 1 := ⟨k - 1, by omega⟩
    obtain ⟨h1, h2, h3, h4⟩ := drop_cons hd
    have h5 : i < s.size := by rw [bs_length] at h1; exact h1
    simp only [List.length_cons] at hk
    have e : ((x.toNat : Int) = (c.toNat : Int)) = (x = c) := propext ⟨fun q => UInt8.toNat_inj.1 (by omega), fun q => by rw [q]⟩
    rw [bulletinref13_Split.l0, if_pos (by omega), if_pos (by omega), bt_drop hd]
    by_cases hx : x = c
    · rw [if_pos (by rw [e]; exact hx), if_pos (by rw [List.length_map]; omega), wrap_succ i (by omega)]
      rw [show acc.map str ++ [str w] = (acc ++ [w]).map str by simp, show (⟨#[]⟩ : ByteArray) = str [] from rfl]
      rw [refSplit_l0 s hs c rest (i + 1) k (acc ++ [w]) [] h3 (by omega) (by omega) (by simp; omega) (by simp)]
      rw [headJoin_nil _ (splitL_ne c rest), splitL, if_pos hx]
      simp [headJoin]
    · rw [if_neg (by rw [e]; exact hx), wrap_succ i (by omega), if_pos (by omega), if_pos (by omega)]
      simp only [Int.toNat_natCast]
      rw [extract_one hd, str_app, if_pos (by rw [str_size, str_size]; simp; omega)]
      rw [refSplit_l0 s hs c rest (i + 1) k acc (w ++ [x]) h3 (by omega) (by omega) (by omega) (by simp; omega)]
      rw [headJoin_step c x w rest hx]
theorem refSplit_is (s : ByteArray) (hs : s.size ≤ 1000000000) (k : Nat) (hk : s.size + 1 ≤ k) : bulletinref13_Split.f k s 46 = some ((splitL 46 (bs s)).map str) := by
  have := refSplit_l0 s hs 46 (bs s) 0 k [] [] (by simp) (by omega) (by rw [bs_length]; omega) (by simp) (by simp)
  rw [headJoin_nil _ (splitL_ne _ _)] at this
  unfold bulletinref13_Split.f
  exact this
theorem splitL_length (c : UInt8) : ∀ l : Bytes, (splitL c l).length ≤ l.length + 1
  | [] => by simp [splitL]
  | x :: l => by
    have ih := splitL_length c l
    have hne := splitL_ne c l
    rw [splitL]
    split
    · simp; omega
    · cases h : splitL c l with
      | nil => exact absurd h hne
      | cons w r => rw [h] at ih; simp at ih ⊢; omega
theorem splitL_mem_length (c : UInt8) : ∀ (l w : Bytes), w ∈ splitL c l → w.length ≤ l.length
  | [], w, h => by simp [splitL] at h; simp [h]
  | x :: l, w, h => by
    have hne := splitL_ne c l
    rw [splitL] at h
    split at h
    · rcases List.mem_cons.1 h with q | q
      · rw [q]; simp
      · have := splitL_mem_length c l w q; simp; omega
    · cases hs : splitL c l with
      | nil => exact absurd hs hne
      | cons p r =>
        rw [hs] at h
        rcases List.mem_cons.1 h with q | q
        · have := splitL_mem_length c l p (by rw [hs]; simp); rw [q]; simp; omega
        · have := splitL_mem_length c l w (by rw [hs]; simp [q]); simp; omega

/-! IsAtom -/
set_option maxRecDepth 100000 in
theorem refatomic_at (c : UInt8) : bulletinref12_atomic.f 20 (c.toNat : Int) = some (atomic c) := forall_byte (p := fun c => bulletinref12_atomic.f 20 (c.toNat : Int) = some (atomic c)) (by decide +kernel) c
theorem refatomic_is (c : UInt8) (k : Nat) (hk : 20 ≤ k) : bulletinref12_atomic.f k (c.toNat : Int) = some (atomic c) := mono_up (fun k => bulletinref12_atomic.mono _ k) (refatomic_at c) k hk
theorem refIsAtom_l0 (s : ByteArray) (hs : s.size ≤ 1000000000) : ∀ (rest : Bytes) (i k : Nat), (bs s).drop i = rest → i ≤ (bs s).length → rest.length + 1 + 20 ≤ k →
    bulletinref12_IsAtom.l0 k s (i : Int) = some (rest.all atomic)
  | [], i, k, hd, hi, hk => by
    obtain ⟨k, rfl⟩ : ∃ j, k = j + 1 := ⟨k - 1, by omega⟩
    have := drop_nil hd
    rw [bs_length] at this hi
    rw [bulletinref12_IsAtom.l0, if_neg (by omega)]
    rfl
  | c :: rest, i, k, hd, hi, hk => by
    obtain ⟨k, rfl⟩ : ∃ j, k = j + 1 := ⟨k - 1, by omega⟩
    obtain ⟨h1, h2, h3, h4⟩ := drop_cons hd
    have h5 : i < s.size := by rw [bs_length] at h1; exact h1
    simp only [List.length_cons] at hk
    rw [bulletinref12_IsAtom.l0, if_pos (by omega), if_pos (by omega), bt_drop hd, refatomic_is c k (by omega), Option.bind_some]
    cases ha : atomic c with
    | true => rw [if_pos rfl, wrap_succ i (by omega), refIsAtom_l0 s hs rest (i + 1) k h3 (by omega) (by omega)]; simp [ha]
    | false => rw [if_neg (by simp)]; simp [ha]
theorem refIsAtom_is (s : ByteArray) (hs : s.size ≤ 1000000000) (k : Nat) (hk : s.size + 1 + 20 ≤ k) : bulletinref12_IsAtom.f k s = some (atomL (bs s)) := by
  unfold bulletinref12_IsAtom.f atomL
  rw [toList_bs]
  cases h : bs s with
  | nil => rw [if_pos rfl]; rfl
  | cons c r =>
    rw [if_neg (by simp)]
    have := refIsAtom_l0 s hs (bs s) 0 k (by simp) (by omega) (by rw [bs_length]; omega)
    rw [h] at this
    rw [show (0 : Int) = ((0 : Nat) : Int) from rfl, this]
    simp
theorem refDotted_l0 (l : List Bytes) (hl : l.length ≤ 1000000000) (m : Nat) (hm : m ≤ 1000000000) (hw : ∀ w ∈ l, w.length ≤ m) : ∀ (rest : List Bytes) (i k : Nat), l.drop i = rest → i ≤ l.length → rest.length + m + 30 ≤ k →
    bulletinref13_Dotted.l0 k (l.map str) (i : Int) = some (rest.all atomL)
  | [], i, k, hd, hi, hk => by
    obtain ⟨k, rfl⟩ : ∃ j, k = j + 1 := ⟨k - 1, by omega⟩
    have : l.length ≤ i := by have := congrArg List.length hd; simp at this; omega
    rw [bulletinref13_Dotted.l0, if_neg (by rw [List.length_map]; omega)]
    rfl
  | x :: rest, i, k, hd, hi, hk => by
    obtain ⟨k, rfl⟩ : ∃ j, k = j + 1 := ⟨k - 1, by omega⟩
    obtain ⟨h1, h2⟩ := dropS_lt hd
    have hx := hw x (List.mem_of_mem_drop (i := i) (by rw [hd]; simp))
    simp only [List.length_cons] at hk
    rw [bulletinref13_Dotted.l0, if_pos (by rw [List.length_map]; omega), if_pos (by omega), rdS_drop hd, refIsAtom_is (str x) (by rw [str_size]; omega) k (by rw [str_size]; omega), bs_str, Option.bind_some]
    cases ha : atomL x with
    | true => rw [if_pos rfl, wrap_succ i (by omega), refDotted_l0 l hl m hm hw rest (i + 1) k h2 (by omega) (by omega)]; simp [ha]
    | false => rw [if_neg (by simp)]; simp [ha]
theorem refDotted_is (s : ByteArray) (hs : s.size ≤ 1000000) (k : Nat) (hk : 2 * s.size + 40 ≤ k) : bulletinref13_Dotted.f k s = some (dottedL (bs s)) := by
  unfold bulletinref13_Dotted.f dottedL
  have hl := splitL_length 46 (bs s)
  rw [bs_length] at hl
  rw [refSplit_is s (by omega) k (by omega), Option.bind_some]
  exact refDotted_l0 _ (by omega) s.size (by omega) (fun w hw => by have := splitL_mem_length 46 _ _ hw; rw [bs_length] at this; exact this) _ 0 k (by simp) (by omega) (by omega)

/-! Quote -/
set_option maxRecDepth 100000 in
theorem reftext_is (c : UInt8) : bulletinref12_Text.f (c.toNat : Int) = some (text c) := forall_byte (p := fun c => bulletinref12_Text.f (c.toNat : Int) = some (text c)) (by decide +kernel) c
theorem text_34 : text 34 = true := by decide +kernel
theorem text_92 : text 92 = true := by decide +kernel
theorem refQuote_l0 (s : ByteArray) (hs : s.size ≤ 1000000000) : ∀ (rest : Bytes) (i k : Nat) (acc : Bytes), (bs s).drop i = rest → i ≤ (bs s).length → 2 * rest.length + 1 ≤ k → acc.length ≤ 2 * i →
    bulletinref12_Quote.l0 k s (str acc) (i : Int) = some (str (34 :: (acc ++ rest.flatMap qB ++ [34])))
  | [], i, k, acc, hd, hi, hk, ha => by
    obtain ⟨k, rfl⟩ : ∃ j, k = j + 1 := ⟨k - 1, by omega⟩
    have := drop_nil hd
    rw [bs_length] at this hi
    rw [bulletinref12_Quote.l0, if_neg (by omega), if_pos (by rw [str_size]; omega), show (⟨#[34]⟩ : ByteArray) = str [34] from rfl, str_app, if_pos (by rw [str_size]; simp; omega), str_app]
    simp
  | c :: rest, i, k, acc, hd, hi, hk, ha => by
    obtain ⟨k, rfl⟩ : ∃ j, k = j + 1 + 1 := ⟨k - 2, by simp at hk; omega⟩
    obtain ⟨h1, h2, h3, h4⟩ := drop_cons hd
    have h5 : i < s.size := by rw [bs_length] at h1; exact h1
    simp only [List.length_cons] at hk
    have e34 : ((c.toNat : Int) = 34) = (c = 34) := byte_eq c 34 (by decide)
    have e92 : ((c.toNat : Int) = 92) = (c = 92) := byte_eq c 92 (by decide)
    have goon : ∀ acc' : Bytes, acc'.length ≤ acc.length + 2 → bulletinref12_Quote.l0 k s (str acc') (wrap64 ((i : Int) + 1)) = some (str (34 :: (acc' ++ rest.flatMap qB ++ [34]))) := by
      intro acc' hl
      rw [wrap_succ i (by omega)]
      exact refQuote_l0 s hs rest (i + 1) k acc' h3 (by omega) (by omega) (by omega)
    have esc : c = 34 ∨ c = 92 → bulletinref12_Quote.j1 (k + 1) s (str acc) (i : Int) (str [c]) true = some (str (34 :: (acc ++ (c :: rest).flatMap qB ++ [34]))) := by
      intro hc
      have ht : text c = true := by rcases hc with h | h <;> rw [h]; exact text_34; exact text_92
      rw [bulletinref12_Quote.j1, if_pos rfl, if_pos (by rw [str_size]; simp), if_pos (by omega), if_pos (by omega), bt_drop hd, reftext_is, Option.bind_some, ht, if_pos rfl, show (⟨#[92]⟩ : ByteArray) = str [92] from rfl, str_app, str_app, if_pos (by rw [str_size, str_size]; simp; omega), goon _ (by simp)]
      simp [qB, hc]
    rw [bulletinref12_Quote.l0, if_pos (by omega), if_pos (by omega), wrap_succ i (by omega), if_pos (by omega), if_pos (by omega), bt_drop hd]
    simp only [Int.toNat_natCast]
    rw [extract_one hd]
    by_cases c34 : c = 34
    · rw [if_pos (by rw [e34]; exact c34), esc (.inl c34)]
    · rw [if_neg (by rw [e34]; exact c34)]
      by_cases c92 : c = 92
      · rw [show ((c.toNat : Int) == 92) = true by rw [beq_iff_eq, e92]; exact c92, esc (.inr c92)]
      · rw [show ((c.toNat : Int) == 92) = false by rw [beq_eq_false_iff_ne, ne_eq, e92]; exact c92, bulletinref12_Quote.j1, if_neg (by decide), if_pos (by omega), if_pos (by omega), bt_drop hd, reftext_is, Option.bind_some]
        have hn : ¬ (c = 34 ∨ c = 92) := fun h => h.elim c34 c92
        cases ht : text c with
        | true =>
          rw [if_pos rfl, str_app, if_pos (by rw [str_size, str_size]; simp; omega), goon _ (by simp)]
          simp [qB, hn, ht]
        | false =>
          rw [if_neg (by decide), show (⟨#[32]⟩ : ByteArray) = str [32] from rfl, str_app, if_pos (by rw [str_size]; omega), goon _ (by simp)]
          simp [qB, hn, ht]
theorem refQuote_is (s : ByteArray) (hs : s.size ≤ 1000000000) (k : Nat) (hk : 2 * s.size + 1 ≤ k) : bulletinref12_Quote.f k s = some (str (quote (bs s))) := by
  have := refQuote_l0 s hs (bs s) 0 k [] (by simp) (by omega) (by rw [bs_length]; omega) (by simp)
  unfold bulletinref12_Quote.f quote
  exact this
theorem refText_is (a b : ByteArray) (ha : a.size ≤ 1000000) (hb : b.size ≤ 1000000) (k : Nat) (hk : 2 * a.size + 40 ≤ k) : bulletinref13_Text.f k a b = some (str (textL (bs a) (bs b))) := by
  unfold bulletinref13_Text.f textL localL
  rw [refDotted_is a ha k hk, Option.bind_some]
  cases hd : dottedL (bs a) with
  | true =>
    rw [if_pos rfl, if_pos (by omega), if_pos (by simp only [ByteArray.size_append]; have : (⟨#[64]⟩ : ByteArray).size = 1 := rfl; omega), if_pos rfl]
    congr 1
    apply bs_inj
    rw [bs_app, bs_app, bs_str]
    simp [bs]
  | false =>
    have hq := quote_length (bs a)
    rw [bs_length] at hq
    rw [if_neg (by decide), refQuote_is a (by omega) k (by omega), Option.bind_some]
    rw [if_pos (by rw [str_size]; omega), if_pos (by simp only [ByteArray.size_append, str_size]; have : (⟨#[64]⟩ : ByteArray).size = 1 := rfl; omega), if_neg (by decide)]
    congr 1
    apply bs_inj
    rw [bs_app, bs_app, bs_str, bs_str]
    simp [bs]
end Go.Proofs.YtihabmcaplnbcaaGreatDoor.Pl
set_option linter.unusedVariables false
set_option linter.unusedSimpArgs false
namespace Go.Proofs.YtihabmcaplnbcaaGreatDoor.Pl
open Go.RowKit Go.Proofs.YtihabmcaplnbcaaGreatDoorW.PrintWords Go.Proofs.YtihabmcaplnbcaaGreatDoor.Fn

theorem works36c : bulletinlaw36_works.f = some true := by decide +kernel
def localB (list token : ByteArray) : ByteArray := ((list ++ ⟨#[45, 99, 111, 110, 102, 105, 114, 109]⟩) ++ ⟨#[43]⟩) ++ token
theorem localB_size (list token : ByteArray) : (localB list token).size = list.size + 9 + token.size := by
  unfold localB
  rw [ByteArray.size_append, ByteArray.size_append, ByteArray.size_append]
  show list.size + 8 + 1 + _ = _
  omega
theorem local_is (list token : ByteArray) (hl : list.size ≤ 1000) (ht : token.size ≤ 1000) (k : Nat) (hk : 1 ≤ k) : verp_Local.f k list 4 token = some (localB list token) := by
  obtain ⟨k, rfl⟩ : ∃ j, k = j + 1 := ⟨k - 1, by omega⟩
  have z1 : (list ++ (⟨#[45, 99, 111, 110, 102, 105, 114, 109]⟩ : ByteArray)).size = list.size + 8 := by rw [ByteArray.size_append]; rfl
  have z2 : ((list ++ (⟨#[45, 99, 111, 110, 102, 105, 114, 109]⟩ : ByteArray)) ++ (⟨#[43]⟩ : ByteArray)).size = list.size + 9 := by rw [ByteArray.size_append, z1]; rfl
  unfold verp_Local.f
  rw [if_neg (by decide), verp_Local.j0, if_neg (by decide), show verp_extended.f 4 = some true from rfl, Option.bind_some, if_pos rfl, show verp_suffix.f 4 = some (⟨#[45, 99, 111, 110, 102, 105, 114, 109]⟩ : ByteArray) from rfl, Option.bind_some, if_pos (by show list.size + 8 ≤ _; omega), if_pos (by rw [z1]; omega), if_pos (by rw [z2]; omega)]
  rfl
theorem reflocal_is (list token : ByteArray) (hl : list.size ≤ 1000) (ht : token.size ≤ 1000) (k : Nat) (hk : 1 ≤ k) : bulletinref24_Local.f k list 4 token = some (localB list token) := by
  obtain ⟨k, rfl⟩ : ∃ j, k = j + 1 := ⟨k - 1, by omega⟩
  have z1 : (list ++ (⟨#[45, 99, 111, 110, 102, 105, 114, 109]⟩ : ByteArray)).size = list.size + 8 := by rw [ByteArray.size_append]; rfl
  have z2 : ((list ++ (⟨#[45, 99, 111, 110, 102, 105, 114, 109]⟩ : ByteArray)) ++ (⟨#[43]⟩ : ByteArray)).size = list.size + 9 := by rw [ByteArray.size_append, z1]; rfl
  unfold bulletinref24_Local.f
  rw [if_neg (by decide), bulletinref24_Local.j0, if_neg (by decide), if_pos (by decide), show bulletinref24_Suffix.f 4 = some (⟨#[45, 99, 111, 110, 102, 105, 114, 109]⟩ : ByteArray) from rfl, Option.bind_some, if_pos (by show list.size + 8 ≤ _; omega), if_pos (by rw [z1]; omega), if_pos (by rw [z2]; omega)]
  rfl
def leaveL (T h t : Bytes) : Bytes := [60, 109, 97, 105, 108, 116, 111, 58] ++ (T ++ ([62, 44, 32, 60, 104, 116, 116, 112, 115, 58, 47, 47] ++ (h ++ ([47, 108, 101, 97, 118, 101, 47] ++ (t ++ [62])))))
def twoF (v : ByteArray) : List FP := [⟨⟨#[76, 105, 115, 116, 45, 85, 110, 115, 117, 98, 115, 99, 114, 105, 98, 101]⟩, v⟩, ⟨⟨#[76, 105, 115, 116, 45, 85, 110, 115, 117, 98, 115, 99, 114, 105, 98, 101, 45, 80, 111, 115, 116]⟩, ⟨#[76, 105, 115, 116, 45, 85, 110, 115, 117, 98, 115, 99, 114, 105, 98, 101, 61, 79, 110, 101, 45, 67, 108, 105, 99, 107]⟩⟩]
def twoQ (v : ByteArray) : List FQ := [⟨⟨#[76, 105, 115, 116, 45, 85, 110, 115, 117, 98, 115, 99, 114, 105, 98, 101]⟩, v⟩, ⟨⟨#[76, 105, 115, 116, 45, 85, 110, 115, 117, 98, 115, 99, 114, 105, 98, 101, 45, 80, 111, 115, 116]⟩, ⟨#[76, 105, 115, 116, 45, 85, 110, 115, 117, 98, 115, 99, 114, 105, 98, 101, 61, 79, 110, 101, 45, 67, 108, 105, 99, 107]⟩⟩]
theorem copy_is (host list token : ByteArray) (l : List FP) (b : ByteArray) (hh : host.size ≤ 1000) (hl : list.size ≤ 1000) (ht : token.size ≤ 1000) (hn : l.length ≤ 1000) (k : Nat) (hk : 10000 ≤ k) :
    dress_Copy.f k host list l b token = some (l ++ twoF (str (leaveL (textL (bs (localB list token)) (bs host)) (bs host) (bs token))), b) := by
  have hL := localB_size list token
  have hT := textL_length (bs (localB list token)) (bs host)
  rw [bs_length, bs_length] at hT
  have hat : dress_at.f k host list 4 token = some (localB list token, host) := by
    unfold dress_at.f
    rw [local_is list token hl ht k (by omega), Option.bind_some]
  obtain ⟨T, hTT⟩ : ∃ T, textL (bs (localB list token)) (bs host) = T := ⟨_, rfl⟩
  have htx := addrText_is (localB list token) host (by omega) (by omega) k (by omega)
  rw [hTT] at htx hT
  have l8 : (⟨#[60, 109, 97, 105, 108, 116, 111, 58]⟩ : ByteArray) = str [60, 109, 97, 105, 108, 116, 111, 58] := rfl
  have l1 : (⟨#[62]⟩ : ByteArray) = str [62] := rfl
  have l11 : (⟨#[44, 32, 60, 104, 116, 116, 112, 115, 58, 47, 47]⟩ : ByteArray) = str [44, 32, 60, 104, 116, 116, 112, 115, 58, 47, 47] := rfl
  have l7 : (⟨#[47, 108, 101, 97, 118, 101, 47]⟩ : ByteArray) = str [47, 108, 101, 97, 118, 101, 47] := rfl
  have hm : dress_mailto.f k (localB list token) host ⟨#[]⟩ = some (str ([60, 109, 97, 105, 108, 116, 111, 58] ++ T ++ [62])) := by
    unfold dress_mailto.f
    rw [htx, Option.bind_some, if_pos (by rw [str_size]; omega), if_pos (by rw [toList_bs]; rfl), l8, l1, str_app, str_app, if_pos (by rw [str_size]; simp; omega)]
  have hb1 := bs_length host
  have hb2 := bs_length token
  unfold dress_Copy.f
  rw [hat, Option.bind_some]
  simp only []
  rw [hm, Option.bind_some, l11, l7, l1]
  obtain ⟨H, hH⟩ : ∃ H, bs host = H := ⟨_, rfl⟩
  obtain ⟨K, hK⟩ : ∃ K, bs token = K := ⟨_, rfl⟩
  have eh : host = str H := by rw [← hH, str_bs]
  have ek : token = str K := by rw [← hK, str_bs]
  rw [hH] at hb1
  rw [hK] at hb2
  rw [hTT, hH, hK]
  rw [show (str ([60, 109, 97, 105, 108, 116, 111, 58] ++ T ++ [62]) ++ str [44, 32, 60, 104, 116, 116, 112, 115, 58, 47, 47] ++ host) = str (([60, 109, 97, 105, 108, 116, 111, 58] ++ T ++ [62]) ++ [44, 32, 60, 104, 116, 116, 112, 115, 58, 47, 47] ++ H) by rw [eh, str_app, str_app]]
  rw [str_app, str_app]
  rw [show (str (([60, 109, 97, 105, 108, 116, 111, 58] ++ T ++ [62]) ++ [44, 32, 60, 104, 116, 116, 112, 115, 58, 47, 47] ++ H ++ [47, 108, 101, 97, 118, 101, 47]) ++ token) = str ((([60, 109, 97, 105, 108, 116, 111, 58] ++ T ++ [62]) ++ [44, 32, 60, 104, 116, 116, 112, 115, 58, 47, 47] ++ H ++ [47, 108, 101, 97, 118, 101, 47]) ++ K) by rw [ek, str_app]]
  rw [str_app]
  rw [if_pos (by rw [str_size]; simp; omega), if_pos (by rw [str_size]; simp; omega), if_pos (by rw [str_size]; simp; omega), if_pos (by rw [str_size]; simp; omega), if_pos (by rw [str_size]; simp; omega)]
  simp only [Option.bind_some, List.length_nil, Nat.zero_add, List.nil_append, dress_field.f]
  rw [if_pos (by omega), if_pos (by simp; omega)]
  simp [twoF, leaveL]
theorem refcopy_is (host list token : ByteArray) (l : List FQ) (b : ByteArray) (hh : host.size ≤ 1000) (hl : list.size ≤ 1000) (ht : token.size ≤ 1000) (hn : l.length ≤ 1000) (k : Nat) (hk : 10000 ≤ k) :
    bulletinref36_Copy.f k host list l b token = some (l ++ twoQ (str (leaveL (textL (bs (localB list token)) (bs host)) (bs host) (bs token))), b) := by
  have hL := localB_size list token
  have hT := textL_length (bs (localB list token)) (bs host)
  rw [bs_length, bs_length] at hT
  obtain ⟨T, hTT⟩ : ∃ T, textL (bs (localB list token)) (bs host) = T := ⟨_, rfl⟩
  have htx := refText_is (localB list token) host (by omega) (by omega) k (by omega)
  rw [hTT] at htx hT
  have hto : bulletinref36_To.f k host list 4 token = some (str T) := by
    unfold bulletinref36_To.f
    rw [reflocal_is list token hl ht k (by omega), Option.bind_some, htx, Option.bind_some]
  have l8 : (⟨#[60, 109, 97, 105, 108, 116, 111, 58]⟩ : ByteArray) = str [60, 109, 97, 105, 108, 116, 111, 58] := rfl
  have l12 : (⟨#[62, 44, 32, 60, 104, 116, 116, 112, 115, 58, 47, 47]⟩ : ByteArray) = str [62, 44, 32, 60, 104, 116, 116, 112, 115, 58, 47, 47] := rfl
  have l7 : (⟨#[47, 108, 101, 97, 118, 101, 47]⟩ : ByteArray) = str [47, 108, 101, 97, 118, 101, 47] := rfl
  have l1 : (⟨#[62]⟩ : ByteArray) = str [62] := rfl
  have hb1 := bs_length host
  have hb2 := bs_length token
  obtain ⟨H, hH⟩ : ∃ H, bs host = H := ⟨_, rfl⟩
  obtain ⟨K, hK⟩ : ∃ K, bs token = K := ⟨_, rfl⟩
  have eh : host = str H := by rw [← hH, str_bs]
  have ek : token = str K := by rw [← hK, str_bs]
  rw [hH] at hb1
  rw [hK] at hb2
  unfold bulletinref36_Copy.f
  simp only [Option.bind_some, List.length_nil, Nat.zero_add, List.nil_append]
  rw [if_pos (by omega), hto, Option.bind_some, l8, l12, l7, l1, hTT, hH, hK, str_app, str_app]
  rw [show (str ([60, 109, 97, 105, 108, 116, 111, 58] ++ T ++ [62, 44, 32, 60, 104, 116, 116, 112, 115, 58, 47, 47]) ++ host) = str ([60, 109, 97, 105, 108, 116, 111, 58] ++ T ++ [62, 44, 32, 60, 104, 116, 116, 112, 115, 58, 47, 47] ++ H) by rw [eh, str_app]]
  rw [str_app]
  rw [show (str ([60, 109, 97, 105, 108, 116, 111, 58] ++ T ++ [62, 44, 32, 60, 104, 116, 116, 112, 115, 58, 47, 47] ++ H ++ [47, 108, 101, 97, 118, 101, 47]) ++ token) = str ([60, 109, 97, 105, 108, 116, 111, 58] ++ T ++ [62, 44, 32, 60, 104, 116, 116, 112, 115, 58, 47, 47] ++ H ++ [47, 108, 101, 97, 118, 101, 47] ++ K) by rw [ek, str_app]]
  rw [str_app]
  rw [if_pos (by rw [str_size]; omega), if_pos (by rw [str_size]; simp; omega), if_pos (by rw [str_size]; simp; omega), if_pos (by rw [str_size]; simp; omega), if_pos (by rw [str_size]; simp; omega), if_pos (by rw [str_size]; simp; omega), if_pos (by omega), if_pos (by simp; omega)]
  simp [twoQ, leaveL]
theorem copies_l0 (q : List FQ) (hq : q.length ≤ 30) (b wb : ByteArray) : ∀ (n i k : Nat) (x : List FP), x.length = i + n → x.length ≤ 100 → n + 1000 < k →
    bulletinlaw36_DressCopies.l0 k (x.length : Int) (i : Int) q b (q.map toF) b x wb = some true := by
  intro n
  induction n with
  | zero =>
    intro i k x hx hl hk
    obtain ⟨k, rfl⟩ : ∃ q, k = q + 1 := ⟨k - 1, by omega⟩
    have hs : bulletinlaw16_Same.f k (q.map toF) b q b = some true := by
      unfold bulletinlaw16_Same.f
      rw [sameQ_is q (by omega) k (by omega), Option.bind_some, if_pos rfl]
      simp
    rw [bulletinlaw36_DressCopies.l0, if_neg (by omega), hs, Option.bind_some, if_pos rfl, works36c, Option.bind_some]
  | succ n ih =>
    intro i k x hx hl hk
    obtain ⟨k, rfl⟩ : ∃ q, k = q + 1 := ⟨k - 1, by omega⟩
    rw [bulletinlaw36_DressCopies.l0, if_pos (by omega), if_pos (by omega), if_pos (by omega), wrap_succ i (by omega)]
    have := ih (i + 1) k (x.set (i : Int).toNat (⟨(⟨#[115, 112, 111, 105, 108, 116]⟩ : ByteArray), (rd_T35 x (i : Int)).f1⟩ : FP)) (by rw [List.length_set]; omega) (by rw [List.length_set]; exact hl) (by omega)
    rw [List.length_set] at this
    exact this
theorem DressCopies (host list : ByteArray) (q : List FQ) (b token : ByteArray) : ∃ k, bulletinlaw36_DressCopies.f k host list q b token = some true := by
  refine ⟨1100000, ?_⟩
  generalize hK : (1100000 : Nat) = K
  obtain ⟨K, rfl⟩ : ∃ j, K = j + 1 := ⟨K - 1, by omega⟩
  have hbad : bulletinlaw36_DressCopies.j0 (K + 1) host list token true q b = some true := by rw [bulletinlaw36_DressCopies.j0, if_pos rfl, works36c, Option.bind_some]
  unfold bulletinlaw36_DressCopies.f
  rw [light16 q b (K + 1) (by omega), Option.bind_some]
  cases hL : (lightQ q && decide ((b.size : Int) ≤ 3000)) with
  | false => rw [if_neg (by decide)]; exact hbad
  | true =>
    rw [Bool.and_eq_true, decide_eq_true_eq] at hL
    obtain ⟨hl, hf⟩ := lightQ_some hL.1
    rw [if_pos rfl]
    by_cases h1 : (host.size : Int) > 300
    · rw [if_pos h1]; exact hbad
    rw [if_neg h1]
    by_cases h2 : (list.size : Int) > 100
    · rw [if_pos h2]; exact hbad
    rw [if_neg h2]
    by_cases h3 : (token.size : Int) > 100
    · rw [show decide ((token.size : Int) > 100) = true from decide_eq_true h3]; exact hbad
    have hc := copy_is host list token (q.map toF) b (by omega) (by omega) (by omega) (by rw [List.length_map]; omega) K (by omega)
    have hr := refcopy_is host list token q b (by omega) (by omega) (by omega) (by omega) K (by omega)
    obtain ⟨v, hv⟩ : ∃ v, str (leaveL (textL (bs (localB list token)) (bs host)) (bs host) (bs token)) = v := ⟨_, rfl⟩
    rw [hv] at hc hr
    have e : q.map toF ++ twoF v = (q ++ twoQ v).map toF := by simp [twoF, twoQ, toF]
    have hs : bulletinlaw16_Same.f K ((q ++ twoQ v).map toF) b (q ++ twoQ v) b = some true := by
      unfold bulletinlaw16_Same.f
      rw [sameQ_is _ (by simp [twoQ]; omega) K (by simp [twoQ]; omega), Option.bind_some, if_pos rfl]
      simp
    rw [e] at hc
    rw [show decide ((token.size : Int) > 100) = false from decide_eq_false h3, bulletinlaw36_DressCopies.j0, if_neg (by decide), to16 q b (by omega) K (by omega), Option.bind_some]
    simp only []
    rw [hc, Option.bind_some, hr, Option.bind_some]
    simp only []
    rw [hs, Option.bind_some, if_pos rfl]
    have := copies_l0 q hl b b ((q ++ twoQ v).map toF).length 0 K ((q ++ twoQ v).map toF) (by simp) (by simp [twoQ]; omega) (by simp [twoQ]; omega)
    exact this
end Go.Proofs.YtihabmcaplnbcaaGreatDoor.Pl
set_option linter.unusedVariables false
namespace Go.Proofs.YtihabmcaplnbcaaGreatDoor.Fn
open Go.RowKit Go.ChangeShapes Go.WideShapes Go.Proofs.YtihabmcaplnbcaaGreatDoorW.PrintWords

/-! A slice of fields (two texts each) that came in. -/
def strOf : Value → ByteArray | .string s => s | _ => ByteArray.empty
theorem open_fields {H : Type} {enc : TypeId × Value → H} {w : World} {base : Nat} {spare : Nat → Bool} {held : Bool} {fuel : Nat} {v : Value} {x : DataW H × List MemPlace}
    (h : DataW.trod enc Tryz.prog w base spare held fuel 22 [v] = some x) :
    ∃ (A : Option Addr) (c : Nat) (l : List (S74)), v = .slice A l.length c ∧ l.length ≤ c ∧ c ≤ maxLen ∧ Kd.C k74 w A l.length l := by
  rcases Go.Deep.open_slice_pairs Tryz.underlying22 Tryz.underlying74 (by kernel_rfl) rfl rfl (by kernel_rfl) (by kernel_rfl) h with ⟨h0, _⟩ | ⟨a, len, cap, m, n, V0, V1, D0, D1, P0, P1, hv, hb, hl, hm, hmm, _, hx⟩
  · refine ⟨none, 0, [], ?_, Nat.le_refl _, Nat.zero_le _, ?_⟩
    · simpa using h0
    · exact ⟨rfl, by simp, fun h => absurd h (by simp)⟩
  · have hlm : len ≤ m := by rw [hmm]; split <;> omega
    have s0 : ∀ i, i < len → V0 i = .string (strOf (V0 i)) := fun i hi => by
      obtain ⟨_, _, g, _⟩ := hx i (by omega)
      obtain ⟨s, e, _⟩ := DataW.trod_string Tryz.underlying9 g
      simp only [List.cons.injEq, and_true] at e
      rw [e]; rfl
    have s1 : ∀ i, i < len → V1 i = .string (strOf (V1 i)) := fun i hi => by
      obtain ⟨_, _, _, g⟩ := hx i (by omega)
      obtain ⟨s, e, _⟩ := DataW.trod_string Tryz.underlying9 g
      simp only [List.cons.injEq, and_true] at e
      rw [e]; rfl
    have hlen : ((List.range len).map fun i => (⟨strOf (V0 i), strOf (V1 i)⟩ : S74)).length = len := by simp
    refine ⟨some a, cap, (List.range len).map fun i => ⟨strOf (V0 i), strOf (V1 i)⟩, ?_, by rw [hlen]; exact hl, hm, ?_⟩
    · rw [hlen]; simpa using hv
    · rw [hlen]
      refine ⟨hlen, by unfold maxLen at hm; omega, fun h0 => ⟨a, rfl, fun j p hp => ?_⟩⟩
      have hj : j < len := by
        have := (List.getElem?_eq_some_iff.1 hp).1
        rwa [hlen] at this
      have hp' : p = ⟨strOf (V0 j), strOf (V1 j)⟩ := by
        rw [List.getElem?_map, List.getElem?_range hj] at hp
        exact (Option.some.inj hp).symm
      subst hp'
      obtain ⟨g0, g1, _, _⟩ := hx j (by omega)
      rw [s0 j hj] at g0
      rw [s1 j hj] at g1
      refine ⟨[.string (strOf (V0 j)), .string (strOf (V1 j))], rfl, k74_mk w _, fun i u hu => ?_⟩
      match i, hu with
      | 0, hu => obtain rfl := Option.some.inj hu; exact g0
      | 1, hu => obtain rfl := Option.some.inj hu; exact g1
      | i + 2, hu => simp at hu
end Go.Proofs.YtihabmcaplnbcaaGreatDoor.Fn
