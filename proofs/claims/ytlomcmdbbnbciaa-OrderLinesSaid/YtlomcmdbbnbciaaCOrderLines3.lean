/- For every line and every command OrderLines returns true; no condition. -/
import Derived.Test.YtlomcmdbbnbciaaCOrderLines2
import Derived.Test.YtlomcmdbbnbciaaWMore
import Derived.Test.YtlomcmdbbnbciaaRows
import Derived.WalkKit
import Derived.ProofKit
import Derived.OpenShut
import Derived.ShutString
import Derived.ChangeOld
import Derived.Below
import Derived.SizedLaws
import Derived.Lib.SmallJoins
-- written by xprint.py of this session over the kit's printer; not trusted: Lean checks it
namespace Go.Proofs.Ytlomcmdbbnbciaa.Fn
open Go.RowKit Go.Proofs.YtlomcmdbbnbciaaW.PrintWords Go.Proofs.YtlomcmdbbnbciaaW.PrintLast Go.Proofs.YtlomcmdbbnbciaaW.PrintMore
attribute [local go_sem] max2_int min2_int max_two min_two max_three min_three max_four min_four   -- for this text's walks alone
set_option linter.unusedVariables false
set_option linter.unusedSimpArgs false

attribute [local go_sem high] eqA25
/-! ### bulletinlaw35_OrderLines: function 3 -/
def bulletinlaw35_OrderLines.j0 : Nat → ByteArray → Bool → Int → Int → ByteArray → Option (Bool)
  | 0, _, _, _, _, _ => none
  | k + 1, x0, x13, x256000, x256001, x256002 => if x13 = true then ((bulletinlaw35_works.f k).bind fun t256 => (some t256)) else ((order_Line.f k x0).bind fun bt257 => ((bulletinref35_Words.f k x0).bind fun t260 => ((bulletinref35_Of.f k t260).bind fun bt263 => ((bulletinlaw35_To.f bt263.1 bt263.2.1 bt263.2.2).bind fun bt266 => (if (bt257.1 == bt266.1 && (bt257.2.1 == bt266.2.1 && (bt257.2.2.toList == bt266.2.2.toList))) = true then ((bulletinlaw35_To.f x256000 x256001 x256002).bind fun bt269 => ((order_Show.f k bt269.1 bt269.2.1 bt269.2.2).bind fun t272 => ((bulletinref35_Show.f k x256000 x256001 x256002).bind fun t273 => (if t272.toList = t273.toList then ((bulletinlaw35_works.f k).bind fun t274 => (some t274)) else (some false))))) else (some false))))))
def bulletinlaw35_OrderLines.f (k : Nat) (a0 : ByteArray) (a1_0 : Int) (a1_1 : Int) (a1_2 : ByteArray) : Option (Bool) := if (a0.size : Int) > 500 then (bulletinlaw35_OrderLines.j0 k a0 true a1_0 a1_1 a1_2) else (bulletinlaw35_OrderLines.j0 k a0 (decide ((a1_2.size : Int) > 500)) a1_0 a1_1 a1_2)
theorem bulletinlaw35_OrderLines.mono_l : ∀ k, (∀ y0 y1 y2 y3 y4, LeO (bulletinlaw35_OrderLines.j0 k y0 y1 y2 y3 y4) (bulletinlaw35_OrderLines.j0 (k + 1) y0 y1 y2 y3 y4))
  | 0 => fun _ _ _ _ _ r h => by simp [bulletinlaw35_OrderLines.j0] at h
  | k + 1 => by
    have ih0 := bulletinlaw35_OrderLines.mono_l k
    · intro y0 y1 y2 y3 y4
      unfold bulletinlaw35_OrderLines.j0
      repeat' first
      | (with_reducible exact ih0 _ _ _ _ _)
      | (with_reducible exact bulletinlaw35_works.mono _)
      | (with_reducible exact bulletinref35_Of.mono _ _)
      | (with_reducible exact bulletinref35_Show.mono _ _ _ _)
      | (with_reducible exact bulletinref35_Words.mono _ _)
      | (with_reducible exact order_Line.mono _ _)
      | (with_reducible exact order_Show.mono _ _ _ _)
      | (with_reducible exact LeO.refl _)
      | (with_reducible exact LeO.none _)
      | (with_reducible refine LeO.ite ?_ ?_)
      | (with_reducible refine LeO.bind ?_ (fun _ => ?_))
      | exact ih0 _ _ _ _ _
      | exact bulletinlaw35_works.mono _
      | exact bulletinref35_Of.mono _ _
      | exact bulletinref35_Show.mono _ _ _ _
      | exact bulletinref35_Words.mono _ _
      | exact order_Line.mono _ _
      | exact order_Show.mono _ _ _ _
      | exact LeO.none _
      | refine LeO.ite ?_ ?_
      | refine LeO.bind ?_ (fun _ => ?_)
theorem bulletinlaw35_OrderLines.mono : ∀ a0 a1 a2 a3 k, LeO (bulletinlaw35_OrderLines.f k a0 a1 a2 a3) (bulletinlaw35_OrderLines.f (k + 1) a0 a1 a2 a3) := by
  intro a0 a1 a2 a3 k
  have ih0 := bulletinlaw35_OrderLines.mono_l k
  unfold bulletinlaw35_OrderLines.f
  repeat' first
      | (with_reducible exact ih0 _ _ _ _ _)
      | (with_reducible exact bulletinlaw35_works.mono _)
      | (with_reducible exact bulletinref35_Of.mono _ _)
      | (with_reducible exact bulletinref35_Show.mono _ _ _ _)
      | (with_reducible exact bulletinref35_Words.mono _ _)
      | (with_reducible exact order_Line.mono _ _)
      | (with_reducible exact order_Show.mono _ _ _ _)
      | (with_reducible exact LeO.refl _)
      | (with_reducible exact LeO.none _)
      | (with_reducible refine LeO.ite ?_ ?_)
      | (with_reducible refine LeO.bind ?_ (fun _ => ?_))
      | exact ih0 _ _ _ _ _
      | exact bulletinlaw35_works.mono _
      | exact bulletinref35_Of.mono _ _
      | exact bulletinref35_Show.mono _ _ _ _
      | exact bulletinref35_Words.mono _ _
      | exact order_Line.mono _ _
      | exact order_Show.mono _ _ _ _
      | exact LeO.none _
      | refine LeO.ite ?_ ?_
      | refine LeO.bind ?_ (fun _ => ?_)
def bulletinlaw35_OrderLines.T3 : Bool × List (List Nat × List Nat) := (true, [([], []), ([0], [0]), ([], []), ([2, 1], [2]), ([3, 3], [3]), ([4, 4], [4]), ([1, 5], [1, 5]), ([6, 5], [6]), ([7], [7]), ([8, 7, 7], [7, 8]), ([9, 9, 7], [7, 9]), ([7], [7]), ([11, 10, 7], [7, 11]), ([10, 12, 7], [7, 10, 12]), ([7, 13], [7, 13]), ([14, 12], [14]), ([15, 15], [15]), ([15, 16], [15, 16]), ([17, 16, 0, 1, 2, 3, 4, 5, 6, 7, 8, 9, 10, 11, 12, 13, 14, 15, 16, 17], [17])])
def bulletinlaw35_OrderLines.B3 : List Nat := [0, 1, 0, 7, 15, 31, 63, 127, 255, 511, 1023, 255, 4095, 8191, 16383, 32767, 65535, 131071, 262143]
theorem bulletinlaw35_OrderLines.tab3 : rtab .any (opsOf Try.f3 3) = bulletinlaw35_OrderLines.T3 := by kernel_rfl
theorem bulletinlaw35_OrderLines.bits3 : waitsOk bulletinlaw35_OrderLines.T3.2 bulletinlaw35_OrderLines.B3 = true := by kernel_rfl
set_option maxHeartbeats 8000000 in
set_option maxRecDepth 100000 in
theorem bulletinlaw35_OrderLines.calls (k : Nat) (a0 : ByteArray) (a1_0 : Int) (a1_1 : Int) (a1_2 : ByteArray) (r : Bool) (w : World) (h : bulletinlaw35_OrderLines.f k a0 a1_0 a1_1 a1_2 = some r) :
    Calls Try.prog 3 #[.string a0, .agg #[.int .i64 a1_0, .int .i64 a1_1, .string a1_2]] w fun e w' => e = .returned (.bool r) ∧ Below w.heap.size w w' := by
  have hu23 := Try.underlying23
  have HB := Aside0.mk (Below.refl w.heap.size w)
  have H : (if (a0.size : Int) > 500 then (bulletinlaw35_OrderLines.j0 k a0 true a1_0 a1_1 a1_2) else (bulletinlaw35_OrderLines.j0 k a0 (decide ((a1_2.size : Int) > 500)) a1_0 a1_1 a1_2)) = some r := h
  clear h
  have HC3 := Aside0.mk H
  clear H
  go_enter Try.func3, Try.ntmps3
  go_upto_region 1 with (first | ((with_reducible refine gate_dst (N := 3) rfl ?_); (try (refine gate_guard (by rfl) ?_; dsimp only)); refine box_event ?hg (N := 3) ?hd (cs := #[.int .i64 a1_0, .int .i64 a1_1, .string a1_2]) (t := 23) ?hr ?_; (case hd => rfl); (case hg => rfl); (case hr => first | (go_simp; done) | (go_simp; rfl)); intro gb255 hg w4 hbox hb; have n0_ := Aside0.mk (below_step (by repeat (first | (with_reducible first | exact HB.out | apply below_alloc | apply pw_below_drewN | apply below_drew1) | exact HB.out)) hb); have n1_ := Aside0.mk (hbox); have n2_ := Aside0.mk ((by rw [hg]; exact (below_size (by repeat (first | (with_reducible first | exact HB.out | apply below_alloc | apply pw_below_drewN | apply below_drew1) | exact HB.out))) : w.heap.size ≤ gb255)); have n3_ := Aside0.mk ((by rw [hg]; exact (below_size (by repeat (first | (with_reducible first | exact HB.out | apply below_alloc | apply pw_below_drewN | apply below_drew1) | exact HB.out))) : w.heap.size ≤ gb255)); clear HB; have HB := n0_; have BK255 := n1_; have GW255 := n2_; have GE255 := n3_; clear n0_ n1_ n2_ n3_; clear hb hbox hg))
  (try simp only [Act.put, List.setIfInBounds_toArray, List.set_cons_zero, List.set_cons_succ])
  go_cut [13] (fun v13 wc => ∃ (kq : Nat) (x13_2 : Bool), v13 = .bool x13_2 ∧ Aside0 (bulletinlaw35_OrderLines.j0 kq a0 x13_2 a1_0 a1_1 a1_2 = some r) ∧ Aside0 (kq ≤ k) ∧ Aside0 (wc.heap[gb255]? = some (.cells #[.int .i64 a1_0, .int .i64 a1_1, .string a1_2] 23 (0, 0))) ∧ Aside0 (Below w.heap.size w wc))
  case first =>
    have H := HC3.out
    clear HC3
    by_cases c5 : (a0.size : Int) > 500
    · rw [if_pos c5] at H
      have c5b0 : decide (500 < (a0.size : Int)) = true := decide_eq_true c5
      have c5b1 : decide (500 < a0.size) = true := decide_eq_true (by omega)
      clear c5
      (first | rw [c5b0] | (simp only [i64_w, i32_w]; rw [c5b0]) | skip)
      have H' := Aside0.mk H
      clear H
      go_wp2
      go_meet
      case rel => exact ⟨_, (true), (by first | rfl | (simp; done) | (simp [*]; done) | (simp [nil_ne]; done)), H', ⟨by first | omega | exact Nat.le_refl _⟩, ⟨by (with_reducible repeat (first | refine blk_drewN ?_ _ | refine blk_drew ?_ | refine blk_alloc ?_ _)); exact BK255.out⟩, ⟨by repeat (first | (with_reducible first | exact HB.out | apply below_alloc | apply pw_below_drewN | apply below_drew1 | refine below_set ?_ GE255.out) | exact HB.out)⟩⟩
    · rw [if_neg c5] at H
      have c5b0 : decide (500 < (a0.size : Int)) = false := decide_eq_false c5
      have c5b1 : decide (500 < a0.size) = false := decide_eq_false (by omega)
      clear c5
      (first | rw [c5b0] | (simp only [i64_w, i32_w]; rw [c5b0]) | skip)
      have H' := Aside0.mk H
      clear H
      have hcz6_0 : w4.cell? ⟨gb255, 0, none⟩ = some (.int .i64 a1_0) := (blk_cell BK255.out 0).trans rfl
      have hcz6_1 : w4.cell? ⟨gb255, 1, none⟩ = some (.int .i64 a1_1) := (blk_cell BK255.out 1).trans rfl
      have hcz6_2 : w4.cell? ⟨gb255, 2, none⟩ = some (.string a1_2) := (blk_cell BK255.out 2).trans rfl
      have hfz6_0 := blk_frozen BK255.out 0
      have hfz6_1 := blk_frozen BK255.out 1
      have hfz6_2 := blk_frozen BK255.out 2
      go_wp2
      go_meet
      case rel => exact ⟨_, (decide ((a1_2.size : Int) > 500)), (by first | rfl | (simp; done) | (simp [*]; done) | (simp [nil_ne]; done)), H', ⟨by first | omega | exact Nat.le_refl _⟩, ⟨by (with_reducible repeat (first | refine blk_drewN ?_ _ | refine blk_drew ?_ | refine blk_alloc ?_ _)); exact BK255.out⟩, ⟨by repeat (first | (with_reducible first | exact HB.out | apply below_alloc | apply pw_below_drewN | apply below_drew1 | refine below_set ?_ GE255.out) | exact HB.out)⟩⟩
  case rest =>
    clear HC3
    try clear p2
    try clear c3
    try clear c5
    try clear c5b0
    try clear c5b1
    try clear hcz6_0
    try clear hcz6_1
    try clear hcz6_2
    try clear hfz6_0
    try clear hfz6_1
    try clear hfz6_2
    obtain ⟨kq, x13_2, rfl, HA, HJ2, BK255, HB⟩ := hcut
    cases kq with
    | zero => exact absurd HA.out (by simp [bulletinlaw35_OrderLines.j0])
    | succ kj2 =>
      have H := HA.out
      clear HA
      simp only [bulletinlaw35_OrderLines.j0] at H
      by_cases c7 : x13_2 = true
      · subst c7
        have H1 : ((bulletinlaw35_works.f kj2).bind fun t256 => (some t256)) = some r := by rw [if_pos rfl] at H; exact H
        clear H
        have H := H1
        clear H1
        replace H := Option.bind_eq_some_iff.mp H
        obtain ⟨t256, A80, H⟩ := H
        replace H : (some t256) = some r := H
        have A8 := Aside0.mk A80
        clear A80
        obtain rfl := Option.some.inj H
        go_wp2_with (first | ((with_reducible refine gate_callee (f := 4) rfl ?_); refine goesL_ (some 14) rfl rfl Try.func4 (by kernel_rfl) rfl #[] rfl (by (try simp only [List.map_toArray, List.map_cons, List.map_nil]); first | done | rfl | (simp only [List.length_drop, List.length_take]; rfl)) ?_; (with_reducible refine (bulletinlaw35_works.calls kj2  t256 _ A8.out).mono ?_); rintro e w9 ⟨rfl, hb⟩; refine ⟨_, rfl, ?_⟩; have n0_ := Aside0.mk (blk_below (g := gb255) (o := .cells #[.int .i64 a1_0, .int .i64 a1_1, .string a1_2] 23 (0, 0)) (by (with_reducible repeat (first | refine blk_drewN ?_ _ | refine blk_drew ?_ | refine blk_alloc ?_ _)); exact BK255.out) hb); have n1_ := Aside0.mk (below_step (by repeat (first | (with_reducible first | exact HB.out | apply below_alloc | apply pw_below_drewN | apply below_drew1 | refine below_set ?_ GE255.out) | exact HB.out)) hb); clear BK255; clear HB; have BK255 := n0_; have HB := n1_; clear n0_ n1_; (try clear hb); (try clear hb2); (try clear hk); (try clear hi)))
        go_ret
        exact ⟨by first | rfl | (simp [errW_none, errW_some] <;> rfl) | (simp [*, errW_none, errW_some] <;> rfl), by repeat (first | (with_reducible first | exact HB.out | apply below_alloc | apply pw_below_drewN | apply below_drew1 | refine below_set ?_ GE255.out) | exact HB.out)⟩
      · replace c7 := Bool.eq_false_iff.mpr c7
        subst c7
        have H1 : ((order_Line.f kj2 a0).bind fun bt257 => ((bulletinref35_Words.f kj2 a0).bind fun t260 => ((bulletinref35_Of.f kj2 t260).bind fun bt263 => ((bulletinlaw35_To.f bt263.1 bt263.2.1 bt263.2.2).bind fun bt266 => (if (bt257.1 == bt266.1 && (bt257.2.1 == bt266.2.1 && (bt257.2.2.toList == bt266.2.2.toList))) = true then ((bulletinlaw35_To.f a1_0 a1_1 a1_2).bind fun bt269 => ((order_Show.f kj2 bt269.1 bt269.2.1 bt269.2.2).bind fun t272 => ((bulletinref35_Show.f kj2 a1_0 a1_1 a1_2).bind fun t273 => (if t272.toList = t273.toList then ((bulletinlaw35_works.f kj2).bind fun t274 => (some t274)) else (some false))))) else (some false)))))) = some r := by rw [if_neg (show ¬ (false = true) by decide)] at H; exact H
        clear H
        have H := H1
        clear H1
        replace H := Option.bind_eq_some_iff.mp H
        obtain ⟨⟨t257, t258, t259⟩, A100, H⟩ := H
        replace H : ((bulletinref35_Words.f kj2 a0).bind fun t260 => ((bulletinref35_Of.f kj2 t260).bind fun bt263 => ((bulletinlaw35_To.f bt263.1 bt263.2.1 bt263.2.2).bind fun bt266 => (if (t257 == bt266.1 && (t258 == bt266.2.1 && (t259.toList == bt266.2.2.toList))) = true then ((bulletinlaw35_To.f a1_0 a1_1 a1_2).bind fun bt269 => ((order_Show.f kj2 bt269.1 bt269.2.1 bt269.2.2).bind fun t272 => ((bulletinref35_Show.f kj2 a1_0 a1_1 a1_2).bind fun t273 => (if t272.toList = t273.toList then ((bulletinlaw35_works.f kj2).bind fun t274 => (some t274)) else (some false))))) else (some false))))) = some r := H
        have A10 := Aside0.mk A100
        clear A100
        replace H := Option.bind_eq_some_iff.mp H
        obtain ⟨t260, A110, H⟩ := H
        replace H : ((bulletinref35_Of.f kj2 t260).bind fun bt263 => ((bulletinlaw35_To.f bt263.1 bt263.2.1 bt263.2.2).bind fun bt266 => (if (t257 == bt266.1 && (t258 == bt266.2.1 && (t259.toList == bt266.2.2.toList))) = true then ((bulletinlaw35_To.f a1_0 a1_1 a1_2).bind fun bt269 => ((order_Show.f kj2 bt269.1 bt269.2.1 bt269.2.2).bind fun t272 => ((bulletinref35_Show.f kj2 a1_0 a1_1 a1_2).bind fun t273 => (if t272.toList = t273.toList then ((bulletinlaw35_works.f kj2).bind fun t274 => (some t274)) else (some false))))) else (some false)))) = some r := H
        have A11 := Aside0.mk A110
        clear A110
        replace H := Option.bind_eq_some_iff.mp H
        obtain ⟨⟨t263, t264, t265⟩, A120, H⟩ := H
        replace H : ((bulletinlaw35_To.f t263 t264 t265).bind fun bt266 => (if (t257 == bt266.1 && (t258 == bt266.2.1 && (t259.toList == bt266.2.2.toList))) = true then ((bulletinlaw35_To.f a1_0 a1_1 a1_2).bind fun bt269 => ((order_Show.f kj2 bt269.1 bt269.2.1 bt269.2.2).bind fun t272 => ((bulletinref35_Show.f kj2 a1_0 a1_1 a1_2).bind fun t273 => (if t272.toList = t273.toList then ((bulletinlaw35_works.f kj2).bind fun t274 => (some t274)) else (some false))))) else (some false))) = some r := H
        have A12 := Aside0.mk A120
        clear A120
        replace H := Option.bind_eq_some_iff.mp H
        obtain ⟨⟨t266, t267, t268⟩, A130, H⟩ := H
        replace H : (if (t257 == t266 && (t258 == t267 && (t259.toList == t268.toList))) = true then ((bulletinlaw35_To.f a1_0 a1_1 a1_2).bind fun bt269 => ((order_Show.f kj2 bt269.1 bt269.2.1 bt269.2.2).bind fun t272 => ((bulletinref35_Show.f kj2 a1_0 a1_1 a1_2).bind fun t273 => (if t272.toList = t273.toList then ((bulletinlaw35_works.f kj2).bind fun t274 => (some t274)) else (some false))))) else (some false)) = some r := H
        have A13 := Aside0.mk A130
        clear A130
        by_cases c14 : (t257 == t266 && (t258 == t267 && (t259.toList == t268.toList))) = true
        · rw [if_pos c14] at H
          have c14b0 : (t257 == t266 && (t258 == t267 && (t259.toList == t268.toList))) = true := c14
          (try (have c14b1 : decide (t257 = t266 && (t258 == t267 && (t259.toList == t268.toList))) = true := by simpa using c14))
          (try (have c14b2 : (t257 == t266 && (t258 == t267 && (t259.toList == t268.toList))) = true := by simpa using c14))
          clear c14
          replace H := Option.bind_eq_some_iff.mp H
          obtain ⟨⟨t269, t270, t271⟩, A150, H⟩ := H
          replace H : ((order_Show.f kj2 t269 t270 t271).bind fun t272 => ((bulletinref35_Show.f kj2 a1_0 a1_1 a1_2).bind fun t273 => (if t272.toList = t273.toList then ((bulletinlaw35_works.f kj2).bind fun t274 => (some t274)) else (some false)))) = some r := H
          have A15 := Aside0.mk A150
          clear A150
          replace H := Option.bind_eq_some_iff.mp H
          obtain ⟨t272, A160, H⟩ := H
          replace H : ((bulletinref35_Show.f kj2 a1_0 a1_1 a1_2).bind fun t273 => (if t272.toList = t273.toList then ((bulletinlaw35_works.f kj2).bind fun t274 => (some t274)) else (some false))) = some r := H
          have A16 := Aside0.mk A160
          clear A160
          replace H := Option.bind_eq_some_iff.mp H
          obtain ⟨t273, A170, H⟩ := H
          replace H : (if t272.toList = t273.toList then ((bulletinlaw35_works.f kj2).bind fun t274 => (some t274)) else (some false)) = some r := H
          have A17 := Aside0.mk A170
          clear A170
          by_cases c18 : t272.toList = t273.toList
          · rw [if_pos c18] at H
            have c18b0 : (t272.toList == t273.toList) = true := beq_iff_eq.mpr c18
            have c18b1 : (t272.toList != t273.toList) = false := bne_eq_false_iff_eq.mpr c18
            clear c18
            replace H := Option.bind_eq_some_iff.mp H
            obtain ⟨t274, A190, H⟩ := H
            replace H : (some t274) = some r := H
            have A19 := Aside0.mk A190
            clear A190
            obtain rfl := Option.some.inj H
            try go_wp2
            have n0_ := Aside0.mk (blk_drew BK255.out)
            have n1_ := Aside0.mk (below_drew1 HB.out)
            clear BK255
            clear HB
            have BK255 := n0_
            have HB := n1_
            clear n0_ n1_
            refine start_ (n := 19) (S := fun w' => w'.cell? ⟨gb255, 0, none⟩ = some (.int .i64 a1_0) ∧ w'.cell? ⟨gb255, 1, none⟩ = some (.int .i64 a1_1) ∧ w'.cell? ⟨gb255, 2, none⟩ = some (.string a1_2)) (ds := []) #[false, false, false, false, false, false, false, false, false, false, false, false, false, false, false, false, false, false, false] (by kernel_rfl) rfl rfl ⟨(blk_cell BK255.out 0).trans rfl, (blk_cell BK255.out 1).trans rfl, (blk_cell BK255.out 2).trans rfl⟩ (fun hHeld => ?_); refine with_tabW bulletinlaw35_OrderLines.tab3 bulletinlaw35_OrderLines.bits3 (fun HT_ HW_ => ?_)
            generalize wc.drew = w20 at BK255 HB hHeld ⊢
            refine pure_ (i := 0) (N := some 15) (v := ?_) (a' := ?_) #[true, false, false, false, false, false, false, false, false, false, false, false, false, false, false, false, false, false, false] rfl rfl (any_of HT_.out (by kernel_rfl)) (fun _ _ _ h => h) (Or.inl ⟨by rfl, ?_⟩) ?_ ?_
            rotate_left
            · intro w'
              go_simp
              with_reducible rfl
            rotate_left
            · simp only [Act.put, List.setIfInBounds_toArray, List.set_cons_zero, List.set_cons_succ, i64_w, i32_w]
              rfl
            refine pure_ (i := 2) (N := some 17) (v := ?_) (a' := ?_) #[true, false, true, false, false, false, false, false, false, false, false, false, false, false, false, false, false, false, false] rfl rfl (any_of HT_.out (by kernel_rfl)) (fun _ _ _ h => h) (Or.inl ⟨by rfl, ?_⟩) ?_ ?_
            rotate_left
            · intro w'
              go_simp
              with_reducible rfl
            rotate_left
            · simp only [Act.put, List.setIfInBounds_toArray, List.set_cons_zero, List.set_cons_succ, i64_w, i32_w]
              rfl
            refine one_ (i := 1) (N := some 16) #[true, true, true, false, false, false, false, false, false, false, false, false, false, false, false, false, false, false, false] rfl rfl (one_of HT_.out (by kernel_rfl)) (by decide) (fun K hK => ?_)
            refine goes_ Try.func5 (by kernel_rfl) rfl #[.string a0] (by rfl) rfl rfl (by (try simp only [List.map_toArray, List.map_cons, List.map_nil]); first | done | rfl | (simp only [List.length_drop, List.length_take]; rfl)) ?_
            with_reducible refine (order_Line.calls kj2 a0 t257 t258 t259 _ A10.out).mono ?_
            rintro e w21 ⟨rfl, hb⟩
            refine ⟨_, rfl, ?_⟩
            have n0_ := Aside0.mk (blk_below (g := gb255) (o := .cells #[.int .i64 a1_0, .int .i64 a1_1, .string a1_2] 23 (0, 0)) (by (with_reducible repeat (first | refine blk_drewN ?_ _ | refine blk_drew ?_ | refine blk_alloc ?_ _)); exact BK255.out) hb)
            have n1_ := Aside0.mk (below_step (by repeat (first | (with_reducible first | exact HB.out | apply below_alloc | apply pw_below_drewN | apply below_drew1 | refine below_set ?_ GE255.out) | exact HB.out)) hb)
            clear BK255
            clear HB
            have BK255 := n0_
            have HB := n1_
            clear n0_ n1_
            (try clear hb)
            (try clear hb2)
            (try clear hk)
            (try clear hi)
            refine hK.out _ _ ⟨(blk_cell BK255.out 0).trans rfl, (blk_cell BK255.out 1).trans rfl, (blk_cell BK255.out 2).trans rfl⟩ (fun hHeld => ?_)
            clear hK K
            refine norm_ (a' := ?_) ?_ ?_
            rotate_left
            · show Act.put _ (some 16) _ = _
              simp only [Act.put, List.setIfInBounds_toArray, List.set_cons_zero, List.set_cons_succ, i64_w, i32_w]
              rfl
            refine one_ (i := 3) (N := some 18) #[true, true, true, true, false, false, false, false, false, false, false, false, false, false, false, false, false, false, false] rfl rfl (one_of HT_.out (by kernel_rfl)) (by decide) (fun K hK => ?_)
            refine goes_ Try.func8 (by kernel_rfl) rfl #[.string a0] (by rfl) rfl rfl (by (try simp only [List.map_toArray, List.map_cons, List.map_nil]); first | done | rfl | (simp only [List.length_drop, List.length_take]; rfl)) ?_
            with_reducible refine (bulletinref35_Words.calls kj2 a0 t260 _ A11.out).mono ?_
            rintro e w22 ⟨v261, rfl, ho0, hb⟩
            refine ⟨_, rfl, ?_⟩
            have n0_ := Aside0.mk (Kd.R_lower ho0 (below_size (by repeat (first | (with_reducible first | exact HB.out | apply below_alloc | apply pw_below_drewN | apply below_drew1 | refine below_set ?_ GE255.out) | exact HB.out))))
            have n1_ := Aside0.mk (blk_below (g := gb255) (o := .cells #[.int .i64 a1_0, .int .i64 a1_1, .string a1_2] 23 (0, 0)) (by (with_reducible repeat (first | refine blk_drewN ?_ _ | refine blk_drew ?_ | refine blk_alloc ?_ _)); exact BK255.out) hb)
            have n2_ := Aside0.mk (below_step (by repeat (first | (with_reducible first | exact HB.out | apply below_alloc | apply pw_below_drewN | apply below_drew1 | refine below_set ?_ GE255.out) | exact HB.out)) hb)
            clear BK255
            clear HB
            have HO262 := n0_
            have BK255 := n1_
            have HB := n2_
            clear n0_ n1_ n2_
            (try clear hb)
            (try clear hb2)
            (try clear hk)
            (try clear hi)
            (try clear ho0)
            obtain ⟨Ao23, co23, eo23⟩ := Kd.R_slice HO262.out
            (first | subst eo23 | (injection eo23 with f1_ f2_ f3_; have f4_ := f1_.symm; have f5_ := f3_.symm; clear f1_ f2_ f3_; subst f4_; subst f5_))
            refine hK.out _ _ ⟨(blk_cell BK255.out 0).trans rfl, (blk_cell BK255.out 1).trans rfl, (blk_cell BK255.out 2).trans rfl⟩ (fun hHeld => ?_)
            clear hK K
            refine norm_ (a' := ?_) ?_ ?_
            rotate_left
            · show Act.put _ (some 18) _ = _
              simp only [Act.put, List.setIfInBounds_toArray, List.set_cons_zero, List.set_cons_succ, i64_w, i32_w]
              rfl
            refine one_ (i := 4) (N := some 19) #[true, true, true, true, true, false, false, false, false, false, false, false, false, false, false, false, false, false, false] rfl rfl (one_of HT_.out (by kernel_rfl)) (by decide) (fun K hK => ?_)
            refine goes_ Try.func7 (by kernel_rfl) rfl #[.slice Ao23 t260.length co23] (by rfl) rfl rfl (by (try simp only [List.map_toArray, List.map_cons, List.map_nil]); first | done | rfl | (simp only [List.length_drop, List.length_take]; rfl)) ?_
            with_reducible refine (bulletinref35_Of.calls kj2 _ _ t260 t263 t264 t265 _ ?side1 ?side2 A12.out).mono ?_
            (case side1 => repeat (first | exact (Kd.R_reads' HO262.out).2.2 | (with_reducible refine Kd.C_alloc ?_ _) | (with_reducible refine Kd.C_drewN ?_ _) | (with_reducible refine Kd.C_drew ?_)))
            (case side2 => exact (Kd.R_reads' HO262.out).2.1)
            rintro e w24 ⟨rfl, hb⟩
            refine ⟨_, rfl, ?_⟩
            have n0_ := Aside0.mk (Kd.R_below (by (with_reducible repeat (first | apply Kd.R_alloc | apply Kd.R_drewN | apply Kd.R_drew)); exact HO262.out) hb)
            have n1_ := Aside0.mk (blk_below (g := gb255) (o := .cells #[.int .i64 a1_0, .int .i64 a1_1, .string a1_2] 23 (0, 0)) (by (with_reducible repeat (first | refine blk_drewN ?_ _ | refine blk_drew ?_ | refine blk_alloc ?_ _)); exact BK255.out) hb)
            have n2_ := Aside0.mk (below_step (by repeat (first | (with_reducible first | exact HB.out | apply below_alloc | apply pw_below_drewN | apply below_drew1 | refine below_set ?_ GE255.out) | exact HB.out)) hb)
            clear HO262
            clear BK255
            clear HB
            have HO262 := n0_
            have BK255 := n1_
            have HB := n2_
            clear n0_ n1_ n2_
            (try clear hb)
            (try clear hb2)
            (try clear hk)
            (try clear hi)
            refine hK.out _ _ ⟨(blk_cell BK255.out 0).trans rfl, (blk_cell BK255.out 1).trans rfl, (blk_cell BK255.out 2).trans rfl⟩ (fun hHeld => ?_)
            clear hK K
            refine norm_ (a' := ?_) ?_ ?_
            rotate_left
            · show Act.put _ (some 19) _ = _
              simp only [Act.put, List.setIfInBounds_toArray, List.set_cons_zero, List.set_cons_succ, i64_w, i32_w]
              rfl
            refine one_ (i := 5) (N := some 20) #[true, true, true, true, true, true, false, false, false, false, false, false, false, false, false, false, false, false, false] rfl rfl (one_of HT_.out (by kernel_rfl)) (by decide) (fun K hK => ?_)
            refine goes_ Try.func6 (by kernel_rfl) rfl #[.agg #[.int .i64 t263, .int .i64 t264, .string t265]] (by rfl) rfl rfl (by (try simp only [List.map_toArray, List.map_cons, List.map_nil]); first | done | rfl | (simp only [List.length_drop, List.length_take]; rfl)) ?_
            with_reducible refine (bulletinlaw35_To.calls t263 t264 t265 t266 t267 t268 _ A13.out).mono ?_
            rintro e w25 ⟨rfl, hb⟩
            refine ⟨_, rfl, ?_⟩
            have n0_ := Aside0.mk (Kd.R_below (by (with_reducible repeat (first | apply Kd.R_alloc | apply Kd.R_drewN | apply Kd.R_drew)); exact HO262.out) hb)
            have n1_ := Aside0.mk (blk_below (g := gb255) (o := .cells #[.int .i64 a1_0, .int .i64 a1_1, .string a1_2] 23 (0, 0)) (by (with_reducible repeat (first | refine blk_drewN ?_ _ | refine blk_drew ?_ | refine blk_alloc ?_ _)); exact BK255.out) hb)
            have n2_ := Aside0.mk (below_step (by repeat (first | (with_reducible first | exact HB.out | apply below_alloc | apply pw_below_drewN | apply below_drew1 | refine below_set ?_ GE255.out) | exact HB.out)) hb)
            clear HO262
            clear BK255
            clear HB
            have HO262 := n0_
            have BK255 := n1_
            have HB := n2_
            clear n0_ n1_ n2_
            (try clear hb)
            (try clear hb2)
            (try clear hk)
            (try clear hi)
            refine hK.out _ _ ⟨(blk_cell BK255.out 0).trans rfl, (blk_cell BK255.out 1).trans rfl, (blk_cell BK255.out 2).trans rfl⟩ (fun hHeld => ?_)
            clear hK K
            refine norm_ (a' := ?_) ?_ ?_
            rotate_left
            · show Act.put _ (some 20) _ = _
              simp only [Act.put, List.setIfInBounds_toArray, List.set_cons_zero, List.set_cons_succ, i64_w, i32_w]
              rfl
            refine pure_ (i := 6) (N := some 21) (v := ?_) (a' := ?_) #[true, true, true, true, true, true, true, false, false, false, false, false, false, false, false, false, false, false, false] rfl rfl (any_of HT_.out (by kernel_rfl)) (fun _ _ _ h => h) (Or.inl ⟨by rfl, ?_⟩) ?_ ?_
            rotate_left
            · intro w'
              go_simp
              with_reducible rfl
            rotate_left
            · simp only [Act.put, List.setIfInBounds_toArray, List.set_cons_zero, List.set_cons_succ, i64_w, i32_w]
              rfl
            refine pure_ (i := 7) (N := some 22) (v := ?_) (a' := ?_) #[true, true, true, true, true, true, true, true, false, false, false, false, false, false, false, false, false, false, false] rfl rfl (any_of HT_.out (by kernel_rfl)) (fun _ _ _ h => h) (Or.inl ⟨by rfl, ?_⟩) ?_ ?_
            rotate_left
            · intro w'
              go_simp
              with_reducible rfl
            rotate_left
            · simp only [Act.put, List.setIfInBounds_toArray, List.set_cons_zero, List.set_cons_succ, i64_w, i32_w]
              rfl
            refine take_ (i := 8) (N := some 23) (v := ?_) (a' := ?_) #[true, true, true, true, true, true, true, true, true, false, false, false, false, false, false, false, false, false, false] rfl rfl (take_ofW HT_.out HW_.out (by kernel_rfl)) (fun _ _ _ h => h) (Or.inl ⟨by rfl, ?_⟩) hHeld ?_ ?_
            rotate_left
            · rintro w' ⟨s0, s1, s2⟩
              go_simp
              with_reducible rfl
            rotate_left
            · simp only [Act.put, List.setIfInBounds_toArray, List.set_cons_zero, List.set_cons_succ, i64_w, i32_w]
              rfl
            refine take_ (i := 11) (N := some 26) (v := ?_) (a' := ?_) #[true, true, true, true, true, true, true, true, true, false, false, true, false, false, false, false, false, false, false] rfl rfl (take_ofW HT_.out HW_.out (by kernel_rfl)) (fun _ _ _ h => h) (Or.inl ⟨by rfl, ?_⟩) hHeld ?_ ?_
            rotate_left
            · rintro w' ⟨s0, s1, s2⟩
              go_simp
              with_reducible rfl
            rotate_left
            · simp only [Act.put, List.setIfInBounds_toArray, List.set_cons_zero, List.set_cons_succ, i64_w, i32_w]
              rfl
            refine one_ (i := 9) (N := some 24) #[true, true, true, true, true, true, true, true, true, true, false, true, false, false, false, false, false, false, false] rfl rfl (one_of HT_.out (by kernel_rfl)) (by decide) (fun K hK => ?_)
            refine goes_ Try.func6 (by kernel_rfl) rfl #[.agg #[.int .i64 a1_0, .int .i64 a1_1, .string a1_2]] (by rfl) rfl rfl (by (try simp only [List.map_toArray, List.map_cons, List.map_nil]); first | done | rfl | (simp only [List.length_drop, List.length_take]; rfl)) ?_
            with_reducible refine (bulletinlaw35_To.calls a1_0 a1_1 a1_2 t269 t270 t271 _ A15.out).mono ?_
            rintro e w26 ⟨rfl, hb⟩
            refine ⟨_, rfl, ?_⟩
            have n0_ := Aside0.mk (Kd.R_below (by (with_reducible repeat (first | apply Kd.R_alloc | apply Kd.R_drewN | apply Kd.R_drew)); exact HO262.out) hb)
            have n1_ := Aside0.mk (blk_below (g := gb255) (o := .cells #[.int .i64 a1_0, .int .i64 a1_1, .string a1_2] 23 (0, 0)) (by (with_reducible repeat (first | refine blk_drewN ?_ _ | refine blk_drew ?_ | refine blk_alloc ?_ _)); exact BK255.out) hb)
            have n2_ := Aside0.mk (below_step (by repeat (first | (with_reducible first | exact HB.out | apply below_alloc | apply pw_below_drewN | apply below_drew1 | refine below_set ?_ GE255.out) | exact HB.out)) hb)
            clear HO262
            clear BK255
            clear HB
            have HO262 := n0_
            have BK255 := n1_
            have HB := n2_
            clear n0_ n1_ n2_
            (try clear hb)
            (try clear hb2)
            (try clear hk)
            (try clear hi)
            refine hK.out _ _ ⟨(blk_cell BK255.out 0).trans rfl, (blk_cell BK255.out 1).trans rfl, (blk_cell BK255.out 2).trans rfl⟩ (fun hHeld => ?_)
            clear hK K
            refine norm_ (a' := ?_) ?_ ?_
            rotate_left
            · show Act.put _ (some 24) _ = _
              simp only [Act.put, List.setIfInBounds_toArray, List.set_cons_zero, List.set_cons_succ, i64_w, i32_w]
              rfl
            refine one_ (i := 10) (N := some 25) #[true, true, true, true, true, true, true, true, true, true, true, true, false, false, false, false, false, false, false] rfl rfl (one_of HT_.out (by kernel_rfl)) (by decide) (fun K hK => ?_)
            refine goes_ Try.func9 (by kernel_rfl) rfl #[.agg #[.int .i64 t269, .int .i64 t270, .string t271]] (by rfl) rfl rfl (by (try simp only [List.map_toArray, List.map_cons, List.map_nil]); first | done | rfl | (simp only [List.length_drop, List.length_take]; rfl)) ?_
            with_reducible refine (order_Show.calls kj2 t269 t270 t271 t272 _ A16.out).mono ?_
            rintro e w27 ⟨rfl, hb⟩
            refine ⟨_, rfl, ?_⟩
            have n0_ := Aside0.mk (Kd.R_below (by (with_reducible repeat (first | apply Kd.R_alloc | apply Kd.R_drewN | apply Kd.R_drew)); exact HO262.out) hb)
            have n1_ := Aside0.mk (blk_below (g := gb255) (o := .cells #[.int .i64 a1_0, .int .i64 a1_1, .string a1_2] 23 (0, 0)) (by (with_reducible repeat (first | refine blk_drewN ?_ _ | refine blk_drew ?_ | refine blk_alloc ?_ _)); exact BK255.out) hb)
            have n2_ := Aside0.mk (below_step (by repeat (first | (with_reducible first | exact HB.out | apply below_alloc | apply pw_below_drewN | apply below_drew1 | refine below_set ?_ GE255.out) | exact HB.out)) hb)
            clear HO262
            clear BK255
            clear HB
            have HO262 := n0_
            have BK255 := n1_
            have HB := n2_
            clear n0_ n1_ n2_
            (try clear hb)
            (try clear hb2)
            (try clear hk)
            (try clear hi)
            refine hK.out _ _ ⟨(blk_cell BK255.out 0).trans rfl, (blk_cell BK255.out 1).trans rfl, (blk_cell BK255.out 2).trans rfl⟩ (fun hHeld => ?_)
            clear hK K
            refine norm_ (a' := ?_) ?_ ?_
            rotate_left
            · show Act.put _ (some 25) _ = _
              simp only [Act.put, List.setIfInBounds_toArray, List.set_cons_zero, List.set_cons_succ, i64_w, i32_w]
              rfl
            refine one_ (i := 12) (N := some 27) #[true, true, true, true, true, true, true, true, true, true, true, true, true, false, false, false, false, false, false] rfl rfl (one_of HT_.out (by kernel_rfl)) (by decide) (fun K hK => ?_)
            refine goes_ Try.func10 (by kernel_rfl) rfl #[.agg #[.int .i64 a1_0, .int .i64 a1_1, .string a1_2]] (by rfl) rfl rfl (by (try simp only [List.map_toArray, List.map_cons, List.map_nil]); first | done | rfl | (simp only [List.length_drop, List.length_take]; rfl)) ?_
            with_reducible refine (bulletinref35_Show.calls kj2 a1_0 a1_1 a1_2 t273 _ A17.out).mono ?_
            rintro e w28 ⟨rfl, hb⟩
            refine ⟨_, rfl, ?_⟩
            have n0_ := Aside0.mk (Kd.R_below (by (with_reducible repeat (first | apply Kd.R_alloc | apply Kd.R_drewN | apply Kd.R_drew)); exact HO262.out) hb)
            have n1_ := Aside0.mk (blk_below (g := gb255) (o := .cells #[.int .i64 a1_0, .int .i64 a1_1, .string a1_2] 23 (0, 0)) (by (with_reducible repeat (first | refine blk_drewN ?_ _ | refine blk_drew ?_ | refine blk_alloc ?_ _)); exact BK255.out) hb)
            have n2_ := Aside0.mk (below_step (by repeat (first | (with_reducible first | exact HB.out | apply below_alloc | apply pw_below_drewN | apply below_drew1 | refine below_set ?_ GE255.out) | exact HB.out)) hb)
            clear HO262
            clear BK255
            clear HB
            have HO262 := n0_
            have BK255 := n1_
            have HB := n2_
            clear n0_ n1_ n2_
            (try clear hb)
            (try clear hb2)
            (try clear hk)
            (try clear hi)
            refine hK.out _ _ ⟨(blk_cell BK255.out 0).trans rfl, (blk_cell BK255.out 1).trans rfl, (blk_cell BK255.out 2).trans rfl⟩ (fun hHeld => ?_)
            clear hK K
            refine norm_ (a' := ?_) ?_ ?_
            rotate_left
            · show Act.put _ (some 27) _ = _
              simp only [Act.put, List.setIfInBounds_toArray, List.set_cons_zero, List.set_cons_succ, i64_w, i32_w]
              rfl
            refine pure_ (i := 13) (N := some 28) (v := ?_) (a' := ?_) #[true, true, true, true, true, true, true, true, true, true, true, true, true, true, false, false, false, false, false] rfl rfl (any_of HT_.out (by kernel_rfl)) (fun _ _ _ h => h) (Or.inl ⟨by rfl, ?_⟩) ?_ ?_
            rotate_left
            · intro w'
              go_simp
              with_reducible rfl
            rotate_left
            · simp only [Act.put, List.setIfInBounds_toArray, List.set_cons_zero, List.set_cons_succ, i64_w, i32_w]
              rfl
            refine pure_ (i := 14) (N := some 29) (v := ?_) (a' := ?_) #[true, true, true, true, true, true, true, true, true, true, true, true, true, true, true, false, false, false, false] rfl rfl (any_of HT_.out (by kernel_rfl)) (fun _ _ _ h => h) (Or.inl ⟨by rfl, ?_⟩) ?_ ?_
            rotate_left
            · intro w'
              go_simp
              with_reducible rfl
            rotate_left
            · simp only [Act.put, List.setIfInBounds_toArray, List.set_cons_zero, List.set_cons_succ, i64_w, i32_w]
              rfl
            refine pure_ (i := 15) (N := some 30) (v := ?_) (a' := ?_) #[true, true, true, true, true, true, true, true, true, true, true, true, true, true, true, true, false, false, false] rfl rfl (any_of HT_.out (by kernel_rfl)) (fun _ _ _ h => h) (Or.inl ⟨by rfl, ?_⟩) ?_ ?_
            rotate_left
            · intro w'
              go_simp
              with_reducible rfl
            rotate_left
            · simp only [Act.put, List.setIfInBounds_toArray, List.set_cons_zero, List.set_cons_succ, i64_w, i32_w]
              rfl
            refine one_ (i := 16) (N := some 31) #[true, true, true, true, true, true, true, true, true, true, true, true, true, true, true, true, true, false, false] rfl rfl (one_of HT_.out (by kernel_rfl)) (by decide) (fun K hK => ?_)
            refine goes_ Try.func4 (by kernel_rfl) rfl #[] (by rfl) rfl rfl (by (try simp only [List.map_toArray, List.map_cons, List.map_nil]); first | done | rfl | (simp only [List.length_drop, List.length_take]; rfl)) ?_
            with_reducible refine (bulletinlaw35_works.calls kj2  t274 _ A19.out).mono ?_
            rintro e w29 ⟨rfl, hb⟩
            refine ⟨_, rfl, ?_⟩
            have n0_ := Aside0.mk (Kd.R_below (by (with_reducible repeat (first | apply Kd.R_alloc | apply Kd.R_drewN | apply Kd.R_drew)); exact HO262.out) hb)
            have n1_ := Aside0.mk (blk_below (g := gb255) (o := .cells #[.int .i64 a1_0, .int .i64 a1_1, .string a1_2] 23 (0, 0)) (by (with_reducible repeat (first | refine blk_drewN ?_ _ | refine blk_drew ?_ | refine blk_alloc ?_ _)); exact BK255.out) hb)
            have n2_ := Aside0.mk (below_step (by repeat (first | (with_reducible first | exact HB.out | apply below_alloc | apply pw_below_drewN | apply below_drew1 | refine below_set ?_ GE255.out) | exact HB.out)) hb)
            clear HO262
            clear BK255
            clear HB
            have HO262 := n0_
            have BK255 := n1_
            have HB := n2_
            clear n0_ n1_ n2_
            (try clear hb)
            (try clear hb2)
            (try clear hk)
            (try clear hi)
            refine hK.out _ _ ⟨(blk_cell BK255.out 0).trans rfl, (blk_cell BK255.out 1).trans rfl, (blk_cell BK255.out 2).trans rfl⟩ (fun hHeld => ?_)
            clear hK K
            refine norm_ (a' := ?_) ?_ ?_
            rotate_left
            · show Act.put _ (some 31) _ = _
              simp only [Act.put, List.setIfInBounds_toArray, List.set_cons_zero, List.set_cons_succ, i64_w, i32_w]
              rfl
            refine pure_ (i := 17) (N := some 32) (v := ?_) (a' := ?_) #[true, true, true, true, true, true, true, true, true, true, true, true, true, true, true, true, true, true, false] rfl rfl (any_of HT_.out (by kernel_rfl)) (fun _ _ _ h => h) (Or.inl ⟨by rfl, ?_⟩) ?_ ?_
            rotate_left
            · intro w'
              go_simp
              with_reducible rfl
            rotate_left
            · simp only [Act.put, List.setIfInBounds_toArray, List.set_cons_zero, List.set_cons_succ, i64_w, i32_w]
              rfl
            refine pure_ (i := 18) (N := some 4) (v := ?_) (a' := ?_) #[true, true, true, true, true, true, true, true, true, true, true, true, true, true, true, true, true, true, true] rfl rfl (any_of HT_.out (by kernel_rfl)) (fun _ _ _ h => h) (Or.inl ⟨by rfl, ?_⟩) ?_ ?_
            rotate_left
            · intro w'
              go_simp
              with_reducible rfl
            rotate_left
            · simp only [Act.put, List.setIfInBounds_toArray, List.set_cons_zero, List.set_cons_succ, i64_w, i32_w]
              rfl
            refine done_ (done_of HT_.out (by kernel_rfl)) ?_
            try go_wp2
            go_ret
            exact ⟨by first | rfl | (simp [errW_none, errW_some] <;> rfl) | (simp [*, errW_none, errW_some] <;> rfl), by repeat (first | (with_reducible first | exact HB.out | apply below_alloc | apply pw_below_drewN | apply below_drew1 | refine below_set ?_ GE255.out) | exact HB.out)⟩
          · rw [if_neg c18] at H
            have c18b0 : (t272.toList == t273.toList) = false := beq_eq_false_iff_ne.mpr c18
            have c18b1 : (t272.toList != t273.toList) = true := bne_iff_ne.mpr c18
            obtain rfl := Option.some.inj H
            try go_wp2
            have n0_ := Aside0.mk (blk_drew BK255.out)
            have n1_ := Aside0.mk (below_drew1 HB.out)
            clear BK255
            clear HB
            have BK255 := n0_
            have HB := n1_
            clear n0_ n1_
            refine start_ (n := 19) (S := fun w' => w'.cell? ⟨gb255, 0, none⟩ = some (.int .i64 a1_0) ∧ w'.cell? ⟨gb255, 1, none⟩ = some (.int .i64 a1_1) ∧ w'.cell? ⟨gb255, 2, none⟩ = some (.string a1_2)) (ds := []) #[false, false, false, false, false, false, false, false, false, false, false, false, false, false, false, false, false, false, false] (by kernel_rfl) rfl rfl ⟨(blk_cell BK255.out 0).trans rfl, (blk_cell BK255.out 1).trans rfl, (blk_cell BK255.out 2).trans rfl⟩ (fun hHeld => ?_); refine with_tabW bulletinlaw35_OrderLines.tab3 bulletinlaw35_OrderLines.bits3 (fun HT_ HW_ => ?_)
            generalize wc.drew = w30 at BK255 HB hHeld ⊢
            refine pure_ (i := 0) (N := some 15) (v := ?_) (a' := ?_) #[true, false, false, false, false, false, false, false, false, false, false, false, false, false, false, false, false, false, false] rfl rfl (any_of HT_.out (by kernel_rfl)) (fun _ _ _ h => h) (Or.inl ⟨by rfl, ?_⟩) ?_ ?_
            rotate_left
            · intro w'
              go_simp
              with_reducible rfl
            rotate_left
            · simp only [Act.put, List.setIfInBounds_toArray, List.set_cons_zero, List.set_cons_succ, i64_w, i32_w]
              rfl
            refine pure_ (i := 2) (N := some 17) (v := ?_) (a' := ?_) #[true, false, true, false, false, false, false, false, false, false, false, false, false, false, false, false, false, false, false] rfl rfl (any_of HT_.out (by kernel_rfl)) (fun _ _ _ h => h) (Or.inl ⟨by rfl, ?_⟩) ?_ ?_
            rotate_left
            · intro w'
              go_simp
              with_reducible rfl
            rotate_left
            · simp only [Act.put, List.setIfInBounds_toArray, List.set_cons_zero, List.set_cons_succ, i64_w, i32_w]
              rfl
            refine one_ (i := 1) (N := some 16) #[true, true, true, false, false, false, false, false, false, false, false, false, false, false, false, false, false, false, false] rfl rfl (one_of HT_.out (by kernel_rfl)) (by decide) (fun K hK => ?_)
            refine goes_ Try.func5 (by kernel_rfl) rfl #[.string a0] (by rfl) rfl rfl (by (try simp only [List.map_toArray, List.map_cons, List.map_nil]); first | done | rfl | (simp only [List.length_drop, List.length_take]; rfl)) ?_
            with_reducible refine (order_Line.calls kj2 a0 t257 t258 t259 _ A10.out).mono ?_
            rintro e w31 ⟨rfl, hb⟩
            refine ⟨_, rfl, ?_⟩
            have n0_ := Aside0.mk (blk_below (g := gb255) (o := .cells #[.int .i64 a1_0, .int .i64 a1_1, .string a1_2] 23 (0, 0)) (by (with_reducible repeat (first | refine blk_drewN ?_ _ | refine blk_drew ?_ | refine blk_alloc ?_ _)); exact BK255.out) hb)
            have n1_ := Aside0.mk (below_step (by repeat (first | (with_reducible first | exact HB.out | apply below_alloc | apply pw_below_drewN | apply below_drew1 | refine below_set ?_ GE255.out) | exact HB.out)) hb)
            clear BK255
            clear HB
            have BK255 := n0_
            have HB := n1_
            clear n0_ n1_
            (try clear hb)
            (try clear hb2)
            (try clear hk)
            (try clear hi)
            refine hK.out _ _ ⟨(blk_cell BK255.out 0).trans rfl, (blk_cell BK255.out 1).trans rfl, (blk_cell BK255.out 2).trans rfl⟩ (fun hHeld => ?_)
            clear hK K
            refine norm_ (a' := ?_) ?_ ?_
            rotate_left
            · show Act.put _ (some 16) _ = _
              simp only [Act.put, List.setIfInBounds_toArray, List.set_cons_zero, List.set_cons_succ, i64_w, i32_w]
              rfl
            refine one_ (i := 3) (N := some 18) #[true, true, true, true, false, false, false, false, false, false, false, false, false, false, false, false, false, false, false] rfl rfl (one_of HT_.out (by kernel_rfl)) (by decide) (fun K hK => ?_)
            refine goes_ Try.func8 (by kernel_rfl) rfl #[.string a0] (by rfl) rfl rfl (by (try simp only [List.map_toArray, List.map_cons, List.map_nil]); first | done | rfl | (simp only [List.length_drop, List.length_take]; rfl)) ?_
            with_reducible refine (bulletinref35_Words.calls kj2 a0 t260 _ A11.out).mono ?_
            rintro e w32 ⟨v261, rfl, ho0, hb⟩
            refine ⟨_, rfl, ?_⟩
            have n0_ := Aside0.mk (Kd.R_lower ho0 (below_size (by repeat (first | (with_reducible first | exact HB.out | apply below_alloc | apply pw_below_drewN | apply below_drew1 | refine below_set ?_ GE255.out) | exact HB.out))))
            have n1_ := Aside0.mk (blk_below (g := gb255) (o := .cells #[.int .i64 a1_0, .int .i64 a1_1, .string a1_2] 23 (0, 0)) (by (with_reducible repeat (first | refine blk_drewN ?_ _ | refine blk_drew ?_ | refine blk_alloc ?_ _)); exact BK255.out) hb)
            have n2_ := Aside0.mk (below_step (by repeat (first | (with_reducible first | exact HB.out | apply below_alloc | apply pw_below_drewN | apply below_drew1 | refine below_set ?_ GE255.out) | exact HB.out)) hb)
            clear BK255
            clear HB
            have HO262 := n0_
            have BK255 := n1_
            have HB := n2_
            clear n0_ n1_ n2_
            (try clear hb)
            (try clear hb2)
            (try clear hk)
            (try clear hi)
            (try clear ho0)
            obtain ⟨Ao33, co33, eo33⟩ := Kd.R_slice HO262.out
            (first | subst eo33 | (injection eo33 with f1_ f2_ f3_; have f4_ := f1_.symm; have f5_ := f3_.symm; clear f1_ f2_ f3_; subst f4_; subst f5_))
            refine hK.out _ _ ⟨(blk_cell BK255.out 0).trans rfl, (blk_cell BK255.out 1).trans rfl, (blk_cell BK255.out 2).trans rfl⟩ (fun hHeld => ?_)
            clear hK K
            refine norm_ (a' := ?_) ?_ ?_
            rotate_left
            · show Act.put _ (some 18) _ = _
              simp only [Act.put, List.setIfInBounds_toArray, List.set_cons_zero, List.set_cons_succ, i64_w, i32_w]
              rfl
            refine one_ (i := 4) (N := some 19) #[true, true, true, true, true, false, false, false, false, false, false, false, false, false, false, false, false, false, false] rfl rfl (one_of HT_.out (by kernel_rfl)) (by decide) (fun K hK => ?_)
            refine goes_ Try.func7 (by kernel_rfl) rfl #[.slice Ao33 t260.length co33] (by rfl) rfl rfl (by (try simp only [List.map_toArray, List.map_cons, List.map_nil]); first | done | rfl | (simp only [List.length_drop, List.length_take]; rfl)) ?_
            with_reducible refine (bulletinref35_Of.calls kj2 _ _ t260 t263 t264 t265 _ ?side1 ?side2 A12.out).mono ?_
            (case side1 => repeat (first | exact (Kd.R_reads' HO262.out).2.2 | (with_reducible refine Kd.C_alloc ?_ _) | (with_reducible refine Kd.C_drewN ?_ _) | (with_reducible refine Kd.C_drew ?_)))
            (case side2 => exact (Kd.R_reads' HO262.out).2.1)
            rintro e w34 ⟨rfl, hb⟩
            refine ⟨_, rfl, ?_⟩
            have n0_ := Aside0.mk (Kd.R_below (by (with_reducible repeat (first | apply Kd.R_alloc | apply Kd.R_drewN | apply Kd.R_drew)); exact HO262.out) hb)
            have n1_ := Aside0.mk (blk_below (g := gb255) (o := .cells #[.int .i64 a1_0, .int .i64 a1_1, .string a1_2] 23 (0, 0)) (by (with_reducible repeat (first | refine blk_drewN ?_ _ | refine blk_drew ?_ | refine blk_alloc ?_ _)); exact BK255.out) hb)
            have n2_ := Aside0.mk (below_step (by repeat (first | (with_reducible first | exact HB.out | apply below_alloc | apply pw_below_drewN | apply below_drew1 | refine below_set ?_ GE255.out) | exact HB.out)) hb)
            clear HO262
            clear BK255
            clear HB
            have HO262 := n0_
            have BK255 := n1_
            have HB := n2_
            clear n0_ n1_ n2_
            (try clear hb)
            (try clear hb2)
            (try clear hk)
            (try clear hi)
            refine hK.out _ _ ⟨(blk_cell BK255.out 0).trans rfl, (blk_cell BK255.out 1).trans rfl, (blk_cell BK255.out 2).trans rfl⟩ (fun hHeld => ?_)
            clear hK K
            refine norm_ (a' := ?_) ?_ ?_
            rotate_left
            · show Act.put _ (some 19) _ = _
              simp only [Act.put, List.setIfInBounds_toArray, List.set_cons_zero, List.set_cons_succ, i64_w, i32_w]
              rfl
            refine one_ (i := 5) (N := some 20) #[true, true, true, true, true, true, false, false, false, false, false, false, false, false, false, false, false, false, false] rfl rfl (one_of HT_.out (by kernel_rfl)) (by decide) (fun K hK => ?_)
            refine goes_ Try.func6 (by kernel_rfl) rfl #[.agg #[.int .i64 t263, .int .i64 t264, .string t265]] (by rfl) rfl rfl (by (try simp only [List.map_toArray, List.map_cons, List.map_nil]); first | done | rfl | (simp only [List.length_drop, List.length_take]; rfl)) ?_
            with_reducible refine (bulletinlaw35_To.calls t263 t264 t265 t266 t267 t268 _ A13.out).mono ?_
            rintro e w35 ⟨rfl, hb⟩
            refine ⟨_, rfl, ?_⟩
            have n0_ := Aside0.mk (Kd.R_below (by (with_reducible repeat (first | apply Kd.R_alloc | apply Kd.R_drewN | apply Kd.R_drew)); exact HO262.out) hb)
            have n1_ := Aside0.mk (blk_below (g := gb255) (o := .cells #[.int .i64 a1_0, .int .i64 a1_1, .string a1_2] 23 (0, 0)) (by (with_reducible repeat (first | refine blk_drewN ?_ _ | refine blk_drew ?_ | refine blk_alloc ?_ _)); exact BK255.out) hb)
            have n2_ := Aside0.mk (below_step (by repeat (first | (with_reducible first | exact HB.out | apply below_alloc | apply pw_below_drewN | apply below_drew1 | refine below_set ?_ GE255.out) | exact HB.out)) hb)
            clear HO262
            clear BK255
            clear HB
            have HO262 := n0_
            have BK255 := n1_
            have HB := n2_
            clear n0_ n1_ n2_
            (try clear hb)
            (try clear hb2)
            (try clear hk)
            (try clear hi)
            refine hK.out _ _ ⟨(blk_cell BK255.out 0).trans rfl, (blk_cell BK255.out 1).trans rfl, (blk_cell BK255.out 2).trans rfl⟩ (fun hHeld => ?_)
            clear hK K
            refine norm_ (a' := ?_) ?_ ?_
            rotate_left
            · show Act.put _ (some 20) _ = _
              simp only [Act.put, List.setIfInBounds_toArray, List.set_cons_zero, List.set_cons_succ, i64_w, i32_w]
              rfl
            refine pure_ (i := 6) (N := some 21) (v := ?_) (a' := ?_) #[true, true, true, true, true, true, true, false, false, false, false, false, false, false, false, false, false, false, false] rfl rfl (any_of HT_.out (by kernel_rfl)) (fun _ _ _ h => h) (Or.inl ⟨by rfl, ?_⟩) ?_ ?_
            rotate_left
            · intro w'
              go_simp
              with_reducible rfl
            rotate_left
            · simp only [Act.put, List.setIfInBounds_toArray, List.set_cons_zero, List.set_cons_succ, i64_w, i32_w]
              rfl
            refine pure_ (i := 7) (N := some 22) (v := ?_) (a' := ?_) #[true, true, true, true, true, true, true, true, false, false, false, false, false, false, false, false, false, false, false] rfl rfl (any_of HT_.out (by kernel_rfl)) (fun _ _ _ h => h) (Or.inl ⟨by rfl, ?_⟩) ?_ ?_
            rotate_left
            · intro w'
              go_simp
              with_reducible rfl
            rotate_left
            · simp only [Act.put, List.setIfInBounds_toArray, List.set_cons_zero, List.set_cons_succ, i64_w, i32_w]
              rfl
            refine take_ (i := 8) (N := some 23) (v := ?_) (a' := ?_) #[true, true, true, true, true, true, true, true, true, false, false, false, false, false, false, false, false, false, false] rfl rfl (take_ofW HT_.out HW_.out (by kernel_rfl)) (fun _ _ _ h => h) (Or.inl ⟨by rfl, ?_⟩) hHeld ?_ ?_
            rotate_left
            · rintro w' ⟨s0, s1, s2⟩
              go_simp
              with_reducible rfl
            rotate_left
            · simp only [Act.put, List.setIfInBounds_toArray, List.set_cons_zero, List.set_cons_succ, i64_w, i32_w]
              rfl
            refine take_ (i := 11) (N := some 26) (v := ?_) (a' := ?_) #[true, true, true, true, true, true, true, true, true, false, false, true, false, false, false, false, false, false, false] rfl rfl (take_ofW HT_.out HW_.out (by kernel_rfl)) (fun _ _ _ h => h) (Or.inl ⟨by rfl, ?_⟩) hHeld ?_ ?_
            rotate_left
            · rintro w' ⟨s0, s1, s2⟩
              go_simp
              with_reducible rfl
            rotate_left
            · simp only [Act.put, List.setIfInBounds_toArray, List.set_cons_zero, List.set_cons_succ, i64_w, i32_w]
              rfl
            refine one_ (i := 9) (N := some 24) #[true, true, true, true, true, true, true, true, true, true, false, true, false, false, false, false, false, false, false] rfl rfl (one_of HT_.out (by kernel_rfl)) (by decide) (fun K hK => ?_)
            refine goes_ Try.func6 (by kernel_rfl) rfl #[.agg #[.int .i64 a1_0, .int .i64 a1_1, .string a1_2]] (by rfl) rfl rfl (by (try simp only [List.map_toArray, List.map_cons, List.map_nil]); first | done | rfl | (simp only [List.length_drop, List.length_take]; rfl)) ?_
            with_reducible refine (bulletinlaw35_To.calls a1_0 a1_1 a1_2 t269 t270 t271 _ A15.out).mono ?_
            rintro e w36 ⟨rfl, hb⟩
            refine ⟨_, rfl, ?_⟩
            have n0_ := Aside0.mk (Kd.R_below (by (with_reducible repeat (first | apply Kd.R_alloc | apply Kd.R_drewN | apply Kd.R_drew)); exact HO262.out) hb)
            have n1_ := Aside0.mk (blk_below (g := gb255) (o := .cells #[.int .i64 a1_0, .int .i64 a1_1, .string a1_2] 23 (0, 0)) (by (with_reducible repeat (first | refine blk_drewN ?_ _ | refine blk_drew ?_ | refine blk_alloc ?_ _)); exact BK255.out) hb)
            have n2_ := Aside0.mk (below_step (by repeat (first | (with_reducible first | exact HB.out | apply below_alloc | apply pw_below_drewN | apply below_drew1 | refine below_set ?_ GE255.out) | exact HB.out)) hb)
            clear HO262
            clear BK255
            clear HB
            have HO262 := n0_
            have BK255 := n1_
            have HB := n2_
            clear n0_ n1_ n2_
            (try clear hb)
            (try clear hb2)
            (try clear hk)
            (try clear hi)
            refine hK.out _ _ ⟨(blk_cell BK255.out 0).trans rfl, (blk_cell BK255.out 1).trans rfl, (blk_cell BK255.out 2).trans rfl⟩ (fun hHeld => ?_)
            clear hK K
            refine norm_ (a' := ?_) ?_ ?_
            rotate_left
            · show Act.put _ (some 24) _ = _
              simp only [Act.put, List.setIfInBounds_toArray, List.set_cons_zero, List.set_cons_succ, i64_w, i32_w]
              rfl
            refine one_ (i := 10) (N := some 25) #[true, true, true, true, true, true, true, true, true, true, true, true, false, false, false, false, false, false, false] rfl rfl (one_of HT_.out (by kernel_rfl)) (by decide) (fun K hK => ?_)
            refine goes_ Try.func9 (by kernel_rfl) rfl #[.agg #[.int .i64 t269, .int .i64 t270, .string t271]] (by rfl) rfl rfl (by (try simp only [List.map_toArray, List.map_cons, List.map_nil]); first | done | rfl | (simp only [List.length_drop, List.length_take]; rfl)) ?_
            with_reducible refine (order_Show.calls kj2 t269 t270 t271 t272 _ A16.out).mono ?_
            rintro e w37 ⟨rfl, hb⟩
            refine ⟨_, rfl, ?_⟩
            have n0_ := Aside0.mk (Kd.R_below (by (with_reducible repeat (first | apply Kd.R_alloc | apply Kd.R_drewN | apply Kd.R_drew)); exact HO262.out) hb)
            have n1_ := Aside0.mk (blk_below (g := gb255) (o := .cells #[.int .i64 a1_0, .int .i64 a1_1, .string a1_2] 23 (0, 0)) (by (with_reducible repeat (first | refine blk_drewN ?_ _ | refine blk_drew ?_ | refine blk_alloc ?_ _)); exact BK255.out) hb)
            have n2_ := Aside0.mk (below_step (by repeat (first | (with_reducible first | exact HB.out | apply below_alloc | apply pw_below_drewN | apply below_drew1 | refine below_set ?_ GE255.out) | exact HB.out)) hb)
            clear HO262
            clear BK255
            clear HB
            have HO262 := n0_
            have BK255 := n1_
            have HB := n2_
            clear n0_ n1_ n2_
            (try clear hb)
            (try clear hb2)
            (try clear hk)
            (try clear hi)
            refine hK.out _ _ ⟨(blk_cell BK255.out 0).trans rfl, (blk_cell BK255.out 1).trans rfl, (blk_cell BK255.out 2).trans rfl⟩ (fun hHeld => ?_)
            clear hK K
            refine norm_ (a' := ?_) ?_ ?_
            rotate_left
            · show Act.put _ (some 25) _ = _
              simp only [Act.put, List.setIfInBounds_toArray, List.set_cons_zero, List.set_cons_succ, i64_w, i32_w]
              rfl
            refine one_ (i := 12) (N := some 27) #[true, true, true, true, true, true, true, true, true, true, true, true, true, false, false, false, false, false, false] rfl rfl (one_of HT_.out (by kernel_rfl)) (by decide) (fun K hK => ?_)
            refine goes_ Try.func10 (by kernel_rfl) rfl #[.agg #[.int .i64 a1_0, .int .i64 a1_1, .string a1_2]] (by rfl) rfl rfl (by (try simp only [List.map_toArray, List.map_cons, List.map_nil]); first | done | rfl | (simp only [List.length_drop, List.length_take]; rfl)) ?_
            with_reducible refine (bulletinref35_Show.calls kj2 a1_0 a1_1 a1_2 t273 _ A17.out).mono ?_
            rintro e w38 ⟨rfl, hb⟩
            refine ⟨_, rfl, ?_⟩
            have n0_ := Aside0.mk (Kd.R_below (by (with_reducible repeat (first | apply Kd.R_alloc | apply Kd.R_drewN | apply Kd.R_drew)); exact HO262.out) hb)
            have n1_ := Aside0.mk (blk_below (g := gb255) (o := .cells #[.int .i64 a1_0, .int .i64 a1_1, .string a1_2] 23 (0, 0)) (by (with_reducible repeat (first | refine blk_drewN ?_ _ | refine blk_drew ?_ | refine blk_alloc ?_ _)); exact BK255.out) hb)
            have n2_ := Aside0.mk (below_step (by repeat (first | (with_reducible first | exact HB.out | apply below_alloc | apply pw_below_drewN | apply below_drew1 | refine below_set ?_ GE255.out) | exact HB.out)) hb)
            clear HO262
            clear BK255
            clear HB
            have HO262 := n0_
            have BK255 := n1_
            have HB := n2_
            clear n0_ n1_ n2_
            (try clear hb)
            (try clear hb2)
            (try clear hk)
            (try clear hi)
            refine hK.out _ _ ⟨(blk_cell BK255.out 0).trans rfl, (blk_cell BK255.out 1).trans rfl, (blk_cell BK255.out 2).trans rfl⟩ (fun hHeld => ?_)
            clear hK K
            refine norm_ (a' := ?_) ?_ ?_
            rotate_left
            · show Act.put _ (some 27) _ = _
              simp only [Act.put, List.setIfInBounds_toArray, List.set_cons_zero, List.set_cons_succ, i64_w, i32_w]
              rfl
            refine pure_ (i := 13) (N := some 28) (v := ?_) (a' := ?_) #[true, true, true, true, true, true, true, true, true, true, true, true, true, true, false, false, false, false, false] rfl rfl (any_of HT_.out (by kernel_rfl)) (fun _ _ _ h => h) (Or.inl ⟨by rfl, ?_⟩) ?_ ?_
            rotate_left
            · intro w'
              go_simp
              with_reducible rfl
            rotate_left
            · simp only [Act.put, List.setIfInBounds_toArray, List.set_cons_zero, List.set_cons_succ, i64_w, i32_w]
              rfl
            refine pure_ (i := 14) (N := some 29) (v := ?_) (a' := ?_) #[true, true, true, true, true, true, true, true, true, true, true, true, true, true, true, false, false, false, false] rfl rfl (any_of HT_.out (by kernel_rfl)) (fun _ _ _ h => h) (Or.inl ⟨by rfl, ?_⟩) ?_ ?_
            rotate_left
            · intro w'
              go_simp
              with_reducible rfl
            rotate_left
            · simp only [Act.put, List.setIfInBounds_toArray, List.set_cons_zero, List.set_cons_succ, i64_w, i32_w]
              rfl
            refine pure_ (i := 15) (N := some 30) (v := ?_) (a' := ?_) #[true, true, true, true, true, true, true, true, true, true, true, true, true, true, true, true, false, false, false] rfl rfl (any_of HT_.out (by kernel_rfl)) (fun _ _ _ h => h) (Or.inl ⟨by rfl, ?_⟩) ?_ ?_
            rotate_left
            · intro w'
              go_simp
              with_reducible rfl
            rotate_left
            · simp only [Act.put, List.setIfInBounds_toArray, List.set_cons_zero, List.set_cons_succ, i64_w, i32_w]
              rfl
            refine pure_ (i := 16) (N := some 31) (v := undef) (a' := ?_) #[true, true, true, true, true, true, true, true, true, true, true, true, true, true, true, true, true, false, false] rfl rfl (any_of HT_.out (by kernel_rfl)) (fun _ _ _ h => h) (Or.inr ⟨by rfl, rfl⟩) ?_ ?_
            rotate_left
            · simp only [Act.put, List.setIfInBounds_toArray, List.set_cons_zero, List.set_cons_succ, i64_w, i32_w]
              rfl
            refine pure_ (i := 17) (N := some 32) (v := ?_) (a' := ?_) #[true, true, true, true, true, true, true, true, true, true, true, true, true, true, true, true, true, true, false] rfl rfl (any_of HT_.out (by kernel_rfl)) (fun _ _ _ h => h) (Or.inl ⟨by rfl, ?_⟩) ?_ ?_
            rotate_left
            · intro w'
              go_simp
              with_reducible rfl
            rotate_left
            · simp only [Act.put, List.setIfInBounds_toArray, List.set_cons_zero, List.set_cons_succ, i64_w, i32_w]
              rfl
            refine pure_ (i := 18) (N := some 4) (v := ?_) (a' := ?_) #[true, true, true, true, true, true, true, true, true, true, true, true, true, true, true, true, true, true, true] rfl rfl (any_of HT_.out (by kernel_rfl)) (fun _ _ _ h => h) (Or.inl ⟨by rfl, ?_⟩) ?_ ?_
            rotate_left
            · intro w'
              go_simp
              with_reducible rfl
            rotate_left
            · simp only [Act.put, List.setIfInBounds_toArray, List.set_cons_zero, List.set_cons_succ, i64_w, i32_w]
              rfl
            refine done_ (done_of HT_.out (by kernel_rfl)) ?_
            try go_wp2
            go_ret
            exact ⟨by first | rfl | (simp [errW_none, errW_some] <;> rfl) | (simp [*, errW_none, errW_some] <;> rfl), by repeat (first | (with_reducible first | exact HB.out | apply below_alloc | apply pw_below_drewN | apply below_drew1 | refine below_set ?_ GE255.out) | exact HB.out)⟩
        · rw [if_neg c14] at H
          have c14b0 : (t257 == t266 && (t258 == t267 && (t259.toList == t268.toList))) = false := by simpa using c14
          (try (have c14b1 : decide (t257 = t266 && (t258 == t267 && (t259.toList == t268.toList))) = false := by simpa using c14))
          (try (have c14b2 : (t257 == t266 && (t258 == t267 && (t259.toList == t268.toList))) = false := by simpa using c14))
          (try (have c14b3 : ¬ (t257 = t266 && (t258 == t267 && (t259.toList == t268.toList))) := by simpa using c14))
          clear c14
          obtain rfl := Option.some.inj H
          try go_wp2
          have n0_ := Aside0.mk (blk_drew BK255.out)
          have n1_ := Aside0.mk (below_drew1 HB.out)
          clear BK255
          clear HB
          have BK255 := n0_
          have HB := n1_
          clear n0_ n1_
          refine start_ (n := 19) (S := fun w' => True) (ds := []) #[false, false, false, false, false, false, false, false, false, false, false, false, false, false, false, false, false, false, false] (by kernel_rfl) rfl rfl trivial (fun hHeld => ?_); refine with_tabW bulletinlaw35_OrderLines.tab3 bulletinlaw35_OrderLines.bits3 (fun HT_ HW_ => ?_)
          generalize wc.drew = w39 at BK255 HB hHeld ⊢
          refine pure_ (i := 0) (N := some 15) (v := ?_) (a' := ?_) #[true, false, false, false, false, false, false, false, false, false, false, false, false, false, false, false, false, false, false] rfl rfl (any_of HT_.out (by kernel_rfl)) (fun _ _ _ h => h) (Or.inl ⟨by rfl, ?_⟩) ?_ ?_
          rotate_left
          · intro w'
            go_simp
            with_reducible rfl
          rotate_left
          · simp only [Act.put, List.setIfInBounds_toArray, List.set_cons_zero, List.set_cons_succ, i64_w, i32_w]
            rfl
          refine pure_ (i := 2) (N := some 17) (v := ?_) (a' := ?_) #[true, false, true, false, false, false, false, false, false, false, false, false, false, false, false, false, false, false, false] rfl rfl (any_of HT_.out (by kernel_rfl)) (fun _ _ _ h => h) (Or.inl ⟨by rfl, ?_⟩) ?_ ?_
          rotate_left
          · intro w'
            go_simp
            with_reducible rfl
          rotate_left
          · simp only [Act.put, List.setIfInBounds_toArray, List.set_cons_zero, List.set_cons_succ, i64_w, i32_w]
            rfl
          refine one_ (i := 1) (N := some 16) #[true, true, true, false, false, false, false, false, false, false, false, false, false, false, false, false, false, false, false] rfl rfl (one_of HT_.out (by kernel_rfl)) (by decide) (fun K hK => ?_)
          refine goes_ Try.func5 (by kernel_rfl) rfl #[.string a0] (by rfl) rfl rfl (by (try simp only [List.map_toArray, List.map_cons, List.map_nil]); first | done | rfl | (simp only [List.length_drop, List.length_take]; rfl)) ?_
          with_reducible refine (order_Line.calls kj2 a0 t257 t258 t259 _ A10.out).mono ?_
          rintro e w40 ⟨rfl, hb⟩
          refine ⟨_, rfl, ?_⟩
          have n0_ := Aside0.mk (blk_below (g := gb255) (o := .cells #[.int .i64 a1_0, .int .i64 a1_1, .string a1_2] 23 (0, 0)) (by (with_reducible repeat (first | refine blk_drewN ?_ _ | refine blk_drew ?_ | refine blk_alloc ?_ _)); exact BK255.out) hb)
          have n1_ := Aside0.mk (below_step (by repeat (first | (with_reducible first | exact HB.out | apply below_alloc | apply pw_below_drewN | apply below_drew1 | refine below_set ?_ GE255.out) | exact HB.out)) hb)
          clear BK255
          clear HB
          have BK255 := n0_
          have HB := n1_
          clear n0_ n1_
          (try clear hb)
          (try clear hb2)
          (try clear hk)
          (try clear hi)
          refine hK.out _ _ trivial (fun hHeld => ?_)
          clear hK K
          refine norm_ (a' := ?_) ?_ ?_
          rotate_left
          · show Act.put _ (some 16) _ = _
            simp only [Act.put, List.setIfInBounds_toArray, List.set_cons_zero, List.set_cons_succ, i64_w, i32_w]
            rfl
          refine one_ (i := 3) (N := some 18) #[true, true, true, true, false, false, false, false, false, false, false, false, false, false, false, false, false, false, false] rfl rfl (one_of HT_.out (by kernel_rfl)) (by decide) (fun K hK => ?_)
          refine goes_ Try.func8 (by kernel_rfl) rfl #[.string a0] (by rfl) rfl rfl (by (try simp only [List.map_toArray, List.map_cons, List.map_nil]); first | done | rfl | (simp only [List.length_drop, List.length_take]; rfl)) ?_
          with_reducible refine (bulletinref35_Words.calls kj2 a0 t260 _ A11.out).mono ?_
          rintro e w41 ⟨v261, rfl, ho0, hb⟩
          refine ⟨_, rfl, ?_⟩
          have n0_ := Aside0.mk (Kd.R_lower ho0 (below_size (by repeat (first | (with_reducible first | exact HB.out | apply below_alloc | apply pw_below_drewN | apply below_drew1 | refine below_set ?_ GE255.out) | exact HB.out))))
          have n1_ := Aside0.mk (blk_below (g := gb255) (o := .cells #[.int .i64 a1_0, .int .i64 a1_1, .string a1_2] 23 (0, 0)) (by (with_reducible repeat (first | refine blk_drewN ?_ _ | refine blk_drew ?_ | refine blk_alloc ?_ _)); exact BK255.out) hb)
          have n2_ := Aside0.mk (below_step (by repeat (first | (with_reducible first | exact HB.out | apply below_alloc | apply pw_below_drewN | apply below_drew1 | refine below_set ?_ GE255.out) | exact HB.out)) hb)
          clear BK255
          clear HB
          have HO262 := n0_
          have BK255 := n1_
          have HB := n2_
          clear n0_ n1_ n2_
          (try clear hb)
          (try clear hb2)
          (try clear hk)
          (try clear hi)
          (try clear ho0)
          obtain ⟨Ao42, co42, eo42⟩ := Kd.R_slice HO262.out
          (first | subst eo42 | (injection eo42 with f1_ f2_ f3_; have f4_ := f1_.symm; have f5_ := f3_.symm; clear f1_ f2_ f3_; subst f4_; subst f5_))
          refine hK.out _ _ trivial (fun hHeld => ?_)
          clear hK K
          refine norm_ (a' := ?_) ?_ ?_
          rotate_left
          · show Act.put _ (some 18) _ = _
            simp only [Act.put, List.setIfInBounds_toArray, List.set_cons_zero, List.set_cons_succ, i64_w, i32_w]
            rfl
          refine one_ (i := 4) (N := some 19) #[true, true, true, true, true, false, false, false, false, false, false, false, false, false, false, false, false, false, false] rfl rfl (one_of HT_.out (by kernel_rfl)) (by decide) (fun K hK => ?_)
          refine goes_ Try.func7 (by kernel_rfl) rfl #[.slice Ao42 t260.length co42] (by rfl) rfl rfl (by (try simp only [List.map_toArray, List.map_cons, List.map_nil]); first | done | rfl | (simp only [List.length_drop, List.length_take]; rfl)) ?_
          with_reducible refine (bulletinref35_Of.calls kj2 _ _ t260 t263 t264 t265 _ ?side1 ?side2 A12.out).mono ?_
          (case side1 => repeat (first | exact (Kd.R_reads' HO262.out).2.2 | (with_reducible refine Kd.C_alloc ?_ _) | (with_reducible refine Kd.C_drewN ?_ _) | (with_reducible refine Kd.C_drew ?_)))
          (case side2 => exact (Kd.R_reads' HO262.out).2.1)
          rintro e w43 ⟨rfl, hb⟩
          refine ⟨_, rfl, ?_⟩
          have n0_ := Aside0.mk (Kd.R_below (by (with_reducible repeat (first | apply Kd.R_alloc | apply Kd.R_drewN | apply Kd.R_drew)); exact HO262.out) hb)
          have n1_ := Aside0.mk (blk_below (g := gb255) (o := .cells #[.int .i64 a1_0, .int .i64 a1_1, .string a1_2] 23 (0, 0)) (by (with_reducible repeat (first | refine blk_drewN ?_ _ | refine blk_drew ?_ | refine blk_alloc ?_ _)); exact BK255.out) hb)
          have n2_ := Aside0.mk (below_step (by repeat (first | (with_reducible first | exact HB.out | apply below_alloc | apply pw_below_drewN | apply below_drew1 | refine below_set ?_ GE255.out) | exact HB.out)) hb)
          clear HO262
          clear BK255
          clear HB
          have HO262 := n0_
          have BK255 := n1_
          have HB := n2_
          clear n0_ n1_ n2_
          (try clear hb)
          (try clear hb2)
          (try clear hk)
          (try clear hi)
          refine hK.out _ _ trivial (fun hHeld => ?_)
          clear hK K
          refine norm_ (a' := ?_) ?_ ?_
          rotate_left
          · show Act.put _ (some 19) _ = _
            simp only [Act.put, List.setIfInBounds_toArray, List.set_cons_zero, List.set_cons_succ, i64_w, i32_w]
            rfl
          refine one_ (i := 5) (N := some 20) #[true, true, true, true, true, true, false, false, false, false, false, false, false, false, false, false, false, false, false] rfl rfl (one_of HT_.out (by kernel_rfl)) (by decide) (fun K hK => ?_)
          refine goes_ Try.func6 (by kernel_rfl) rfl #[.agg #[.int .i64 t263, .int .i64 t264, .string t265]] (by rfl) rfl rfl (by (try simp only [List.map_toArray, List.map_cons, List.map_nil]); first | done | rfl | (simp only [List.length_drop, List.length_take]; rfl)) ?_
          with_reducible refine (bulletinlaw35_To.calls t263 t264 t265 t266 t267 t268 _ A13.out).mono ?_
          rintro e w44 ⟨rfl, hb⟩
          refine ⟨_, rfl, ?_⟩
          have n0_ := Aside0.mk (Kd.R_below (by (with_reducible repeat (first | apply Kd.R_alloc | apply Kd.R_drewN | apply Kd.R_drew)); exact HO262.out) hb)
          have n1_ := Aside0.mk (blk_below (g := gb255) (o := .cells #[.int .i64 a1_0, .int .i64 a1_1, .string a1_2] 23 (0, 0)) (by (with_reducible repeat (first | refine blk_drewN ?_ _ | refine blk_drew ?_ | refine blk_alloc ?_ _)); exact BK255.out) hb)
          have n2_ := Aside0.mk (below_step (by repeat (first | (with_reducible first | exact HB.out | apply below_alloc | apply pw_below_drewN | apply below_drew1 | refine below_set ?_ GE255.out) | exact HB.out)) hb)
          clear HO262
          clear BK255
          clear HB
          have HO262 := n0_
          have BK255 := n1_
          have HB := n2_
          clear n0_ n1_ n2_
          (try clear hb)
          (try clear hb2)
          (try clear hk)
          (try clear hi)
          refine hK.out _ _ trivial (fun hHeld => ?_)
          clear hK K
          refine norm_ (a' := ?_) ?_ ?_
          rotate_left
          · show Act.put _ (some 20) _ = _
            simp only [Act.put, List.setIfInBounds_toArray, List.set_cons_zero, List.set_cons_succ, i64_w, i32_w]
            rfl
          refine pure_ (i := 6) (N := some 21) (v := ?_) (a' := ?_) #[true, true, true, true, true, true, true, false, false, false, false, false, false, false, false, false, false, false, false] rfl rfl (any_of HT_.out (by kernel_rfl)) (fun _ _ _ h => h) (Or.inl ⟨by rfl, ?_⟩) ?_ ?_
          rotate_left
          · intro w'
            go_simp
            with_reducible rfl
          rotate_left
          · simp only [Act.put, List.setIfInBounds_toArray, List.set_cons_zero, List.set_cons_succ, i64_w, i32_w]
            rfl
          refine pure_ (i := 7) (N := some 22) (v := ?_) (a' := ?_) #[true, true, true, true, true, true, true, true, false, false, false, false, false, false, false, false, false, false, false] rfl rfl (any_of HT_.out (by kernel_rfl)) (fun _ _ _ h => h) (Or.inl ⟨by rfl, ?_⟩) ?_ ?_
          rotate_left
          · intro w'
            go_simp
            with_reducible rfl
          rotate_left
          · simp only [Act.put, List.setIfInBounds_toArray, List.set_cons_zero, List.set_cons_succ, i64_w, i32_w]
            rfl
          refine pure_ (i := 8) (N := some 23) (v := undef) (a' := ?_) #[true, true, true, true, true, true, true, true, true, false, false, false, false, false, false, false, false, false, false] rfl rfl (any_of HT_.out (by kernel_rfl)) (fun _ _ _ h => h) (Or.inr ⟨by rfl, rfl⟩) ?_ ?_
          rotate_left
          · simp only [Act.put, List.setIfInBounds_toArray, List.set_cons_zero, List.set_cons_succ, i64_w, i32_w]
            rfl
          refine pure_ (i := 9) (N := some 24) (v := undef) (a' := ?_) #[true, true, true, true, true, true, true, true, true, true, false, false, false, false, false, false, false, false, false] rfl rfl (any_of HT_.out (by kernel_rfl)) (fun _ _ _ h => h) (Or.inr ⟨by rfl, rfl⟩) ?_ ?_
          rotate_left
          · simp only [Act.put, List.setIfInBounds_toArray, List.set_cons_zero, List.set_cons_succ, i64_w, i32_w]
            rfl
          refine pure_ (i := 10) (N := some 25) (v := undef) (a' := ?_) #[true, true, true, true, true, true, true, true, true, true, true, false, false, false, false, false, false, false, false] rfl rfl (any_of HT_.out (by kernel_rfl)) (fun _ _ _ h => h) (Or.inr ⟨by rfl, rfl⟩) ?_ ?_
          rotate_left
          · simp only [Act.put, List.setIfInBounds_toArray, List.set_cons_zero, List.set_cons_succ, i64_w, i32_w]
            rfl
          refine pure_ (i := 11) (N := some 26) (v := undef) (a' := ?_) #[true, true, true, true, true, true, true, true, true, true, true, true, false, false, false, false, false, false, false] rfl rfl (any_of HT_.out (by kernel_rfl)) (fun _ _ _ h => h) (Or.inr ⟨by rfl, rfl⟩) ?_ ?_
          rotate_left
          · simp only [Act.put, List.setIfInBounds_toArray, List.set_cons_zero, List.set_cons_succ, i64_w, i32_w]
            rfl
          refine pure_ (i := 12) (N := some 27) (v := undef) (a' := ?_) #[true, true, true, true, true, true, true, true, true, true, true, true, true, false, false, false, false, false, false] rfl rfl (any_of HT_.out (by kernel_rfl)) (fun _ _ _ h => h) (Or.inr ⟨by rfl, rfl⟩) ?_ ?_
          rotate_left
          · simp only [Act.put, List.setIfInBounds_toArray, List.set_cons_zero, List.set_cons_succ, i64_w, i32_w]
            rfl
          refine pure_ (i := 13) (N := some 28) (v := undef) (a' := ?_) #[true, true, true, true, true, true, true, true, true, true, true, true, true, true, false, false, false, false, false] rfl rfl (any_of HT_.out (by kernel_rfl)) (fun _ _ _ h => h) (Or.inr ⟨by rfl, rfl⟩) ?_ ?_
          rotate_left
          · simp only [Act.put, List.setIfInBounds_toArray, List.set_cons_zero, List.set_cons_succ, i64_w, i32_w]
            rfl
          refine pure_ (i := 14) (N := some 29) (v := ?_) (a' := ?_) #[true, true, true, true, true, true, true, true, true, true, true, true, true, true, true, false, false, false, false] rfl rfl (any_of HT_.out (by kernel_rfl)) (fun _ _ _ h => h) (Or.inl ⟨by rfl, ?_⟩) ?_ ?_
          rotate_left
          · intro w'
            go_simp
            with_reducible rfl
          rotate_left
          · simp only [Act.put, List.setIfInBounds_toArray, List.set_cons_zero, List.set_cons_succ, i64_w, i32_w]
            rfl
          refine pure_ (i := 15) (N := some 30) (v := ?_) (a' := ?_) #[true, true, true, true, true, true, true, true, true, true, true, true, true, true, true, true, false, false, false] rfl rfl (any_of HT_.out (by kernel_rfl)) (fun _ _ _ h => h) (Or.inl ⟨by rfl, ?_⟩) ?_ ?_
          rotate_left
          · intro w'
            go_simp
            with_reducible rfl
          rotate_left
          · simp only [Act.put, List.setIfInBounds_toArray, List.set_cons_zero, List.set_cons_succ, i64_w, i32_w]
            rfl
          refine pure_ (i := 16) (N := some 31) (v := undef) (a' := ?_) #[true, true, true, true, true, true, true, true, true, true, true, true, true, true, true, true, true, false, false] rfl rfl (any_of HT_.out (by kernel_rfl)) (fun _ _ _ h => h) (Or.inr ⟨by rfl, rfl⟩) ?_ ?_
          rotate_left
          · simp only [Act.put, List.setIfInBounds_toArray, List.set_cons_zero, List.set_cons_succ, i64_w, i32_w]
            rfl
          refine pure_ (i := 17) (N := some 32) (v := ?_) (a' := ?_) #[true, true, true, true, true, true, true, true, true, true, true, true, true, true, true, true, true, true, false] rfl rfl (any_of HT_.out (by kernel_rfl)) (fun _ _ _ h => h) (Or.inl ⟨by rfl, ?_⟩) ?_ ?_
          rotate_left
          · intro w'
            go_simp
            with_reducible rfl
          rotate_left
          · simp only [Act.put, List.setIfInBounds_toArray, List.set_cons_zero, List.set_cons_succ, i64_w, i32_w]
            rfl
          refine pure_ (i := 18) (N := some 4) (v := ?_) (a' := ?_) #[true, true, true, true, true, true, true, true, true, true, true, true, true, true, true, true, true, true, true] rfl rfl (any_of HT_.out (by kernel_rfl)) (fun _ _ _ h => h) (Or.inl ⟨by rfl, ?_⟩) ?_ ?_
          rotate_left
          · intro w'
            go_simp
            with_reducible rfl
          rotate_left
          · simp only [Act.put, List.setIfInBounds_toArray, List.set_cons_zero, List.set_cons_succ, i64_w, i32_w]
            rfl
          refine done_ (done_of HT_.out (by kernel_rfl)) ?_
          try go_wp2
          go_ret
          exact ⟨by first | rfl | (simp [errW_none, errW_some] <;> rfl) | (simp [*, errW_none, errW_some] <;> rfl), by repeat (first | (with_reducible first | exact HB.out | apply below_alloc | apply pw_below_drewN | apply below_drew1 | refine below_set ?_ GE255.out) | exact HB.out)⟩

end Go.Proofs.Ytlomcmdbbnbciaa.Fn
set_option linter.unusedVariables false
namespace Go.Proofs.Ytlomcmdbbnbciaa.Pl
open Go.RowKit Go.Proofs.YtlomcmdbbnbciaaW.PrintWords

/-! Tools for the plain laws: byte texts as lists, rounds. -/
def bs (s : ByteArray) : Bytes := s.data.toList
theorem bs_str (l : Bytes) : bs (str l) = l := str_data l
theorem str_bs (s : ByteArray) : str (bs s) = s := str_toList s
theorem bs_length (s : ByteArray) : (bs s).length = s.size := data_length s
theorem toList_bs (s : ByteArray) : s.toList = bs s := ByteArray.toList_eq s
theorem toList_str (l : Bytes) : (str l).toList = l := by rw [toList_bs, bs_str]
theorem str_inj {a b : Bytes} : str a = str b ↔ a = b := ⟨fun h => by have := congrArg bs h; rwa [bs_str, bs_str] at this, fun h => by rw [h]⟩
theorem bs_inj {a b : ByteArray} (h : bs a = bs b) : a = b := by rw [← str_bs a, ← str_bs b, h]
theorem str_app (a b : Bytes) : str a ++ str b = str (a ++ b) := by
  apply bs_inj
  simp [bs, str]
theorem bs_app (a b : ByteArray) : bs (a ++ b) = bs a ++ bs b := by simp [bs]
theorem str_lit (a : Array UInt8) : (⟨a⟩ : ByteArray) = str a.toList := by simp [str]
theorem bs_extract (s : ByteArray) (i j : Nat) : bs (s.extract i j) = ((bs s).take j).drop i := by
  simp [bs, List.extract_eq_take_drop, List.drop_take]
theorem str_extract (l : Bytes) (i j : Nat) : (str l).extract i j = str ((l.take j).drop i) := by
  apply bs_inj
  rw [bs_extract, bs_str, bs_str]
theorem bt_nat (s : ByteArray) (i : Nat) (h : i < s.size) : bt s (i : Int) = (s[i].toNat : Int) := by
  have := bt_at s (i : Int) (by simpa using h)
  simpa using this.symm
theorem bt_bs (s : ByteArray) (i : Nat) (h : i < (bs s).length) : bt s (i : Int) = ((bs s)[i].toNat : Int) := by
  rw [bt_nat s i (by rw [bs_length] at h; exact h)]
  rfl
theorem bt_str (l : Bytes) (i : Nat) (h : i < l.length) : bt (str l) (i : Int) = (l[i].toNat : Int) := by
  rw [bt_bs (str l) i (by rw [bs_str]; exact h)]
  simp [bs_str]
/-- what stands at a place, out of what lies behind it. -/
theorem drop_cons {l : Bytes} {i : Nat} {c : UInt8} {r : Bytes} (h : l.drop i = c :: r) : i < l.length ∧ l[i]? = some c ∧ l.drop (i + 1) = r ∧ (l.take (i + 1)) = l.take i ++ [c] := by
  have hi : i < l.length := by
    rcases Nat.lt_or_ge i l.length with h' | h'
    · exact h'
    · rw [List.drop_of_length_le h'] at h; cases h
  have h1 : l[i]? = some c := by
    have := congrArg List.head? h
    rw [List.head?_drop] at this
    exact this
  refine ⟨hi, h1, ?_, ?_⟩
  · rw [← List.drop_drop, h]; rfl
  · rw [List.take_add_one, h1]; rfl
theorem drop_nil {l : Bytes} {i : Nat} (h : l.drop i = []) : l.length ≤ i := by
  have := congrArg List.length h
  simp at this
  omega
theorem bt_drop {s : ByteArray} {i : Nat} {c : UInt8} {r : Bytes} (h : (bs s).drop i = c :: r) : bt s (i : Int) = (c.toNat : Int) := by
  obtain ⟨h1, h2, _⟩ := drop_cons h
  rw [bt_bs s i h1]
  rw [List.getElem?_eq_getElem h1] at h2
  injection h2 with h2
  rw [h2]
theorem wrap_id {x : Int} (h0 : -9223372036854775808 ≤ x) (h1 : x ≤ 9223372036854775807) : wrap64 x = x := by
  unfold wrap64
  omega
theorem wrap_succ (i : Nat) (h : i ≤ 140737488355328) : wrap64 ((i : Int) + 1) = ((i + 1 : Nat) : Int) := by
  rw [wrap_id (by omega) (by omega)]
  omega
theorem byte_lt (c : UInt8) : c.toNat < 256 := c.toNat_lt
/-- one byte out of a text. -/
theorem extract_one {s : ByteArray} {i : Nat} {c : UInt8} {r : Bytes} (h : (bs s).drop i = c :: r) : s.extract i (i + 1) = str [c] := by
  apply bs_inj
  rw [bs_extract, bs_str, (drop_cons h).2.2.2, List.drop_append_of_le_length (by rw [List.length_take]; have := (drop_cons h).1; omega)]
  have := (drop_cons h).1
  simp [List.drop_eq_nil_of_le, Nat.min_eq_left (Nat.le_of_lt this)]
theorem ofNat_toNat (c : UInt8) : UInt8.ofNat c.toNat = c := by simp
theorem nums_one (n : Int) : strOfNums [n] = str [UInt8.ofNat n.toNat] := rfl
end Go.Proofs.Ytlomcmdbbnbciaa.Pl
set_option linter.unusedVariables false
set_option linter.unusedSimpArgs false
namespace Go.Proofs.Ytlomcmdbbnbciaa.Pl
open Go.RowKit Go.Proofs.YtlomcmdbbnbciaaW.PrintWords Go.Proofs.Ytlomcmdbbnbciaa.Fn

/-! The reference's glyph functions, as the plain ones. -/
theorem fold_rounds (s : ByteArray) (hs : s.size ≤ 1000000000) : ∀ (l : Bytes) (k i : Nat) (acc : Bytes), (bs s).drop i = l → l.length < k → acc.length ≤ i →
    bulletinref06_Fold.l0 k s (str acc) (i : Int) = some (str (acc ++ fold l)) := by
  intro l
  induction l with
  | nil =>
    intro k i acc h hk ha
    obtain ⟨k, rfl⟩ : ∃ m, k = m + 1 := ⟨k - 1, by omega⟩
    have := drop_nil h
    rw [bs_length] at this
    simp only [bulletinref06_Fold.l0]
    rw [if_neg (by omega)]
    simp [fold]
  | cons c r ih =>
    intro k i acc h hk ha
    obtain ⟨k, rfl⟩ : ∃ m, k = m + 1 := ⟨k - 1, by omega⟩
    obtain ⟨h1, h2, h3, h4⟩ := drop_cons h
    rw [bs_length] at h1
    have hc := byte_lt c
    have hx := extract_one h
    have hw := wrap_succ i (by omega)
    simp only [bulletinref06_Fold.l0]
    rw [if_pos (by omega), if_pos (by omega), bt_drop h, hw]
    have hn := ih k (i + 1) (acc ++ [foldB c]) h3 (by simpa using hk) (by simp; omega)
    have hz : (str acc).size = acc.length := str_size acc
    have hfin : some (str (acc ++ [foldB c] ++ fold r)) = some (str (acc ++ fold (c :: r))) := by simp [fold]
    by_cases a : (c.toNat : Int) ≥ 65
    · rw [if_pos a]
      by_cases b : (c.toNat : Int) ≤ 90
      · rw [if_pos b]
        have e : strOfNums [((c.toNat : Int) + 32) % 256] = str [foldB c] := by
          rw [nums_one]
          congr 1
          have hf := foldB_up c ⟨by omega, b⟩
          have : (((c.toNat : Int) + 32) % 256).toNat = (foldB c).toNat := by omega
          rw [this, ofNat_toNat]
        simp only [Option.bind_some]
        rw [e, str_app, if_pos (by rw [hz, str_size]; simp; omega), hn, hfin]
      · rw [if_neg b]
        have hf : foldB c = c := by unfold foldB; rw [if_neg (by omega)]
        rw [if_pos (by omega), if_pos (by omega), Int.toNat_natCast, Int.toNat_natCast, hx, str_app, if_pos (by rw [hz, str_size]; simp; omega)]
        rw [hf] at hn hfin
        rw [hn, hfin]
    · rw [if_neg a]
      have hf : foldB c = c := by unfold foldB; rw [if_neg (by omega)]
      rw [if_pos (by omega), if_pos (by omega), Int.toNat_natCast, Int.toNat_natCast, hx, str_app, if_pos (by rw [hz, str_size]; simp; omega)]
      rw [hf] at hn hfin
      rw [hn, hfin]
theorem ref_fold (s : ByteArray) (hs : s.size ≤ 1000000000) (k : Nat) (hk : s.size < k) : bulletinref06_Fold.f k s = some (str (fold (bs s))) := by
  unfold bulletinref06_Fold.f
  have := fold_rounds s hs (bs s) k 0 [] (by simp) (by rw [bs_length]; exact hk) (by simp)
  simpa [str] using this

/-- the sign at a place, a bad one as -1. -/
def oneZ (s : ByteArray) (i : Nat) : Int × Int := if sign s i = 65533 ∧ width s i = 1 then (-1, 1) else ((sign s i : Int), (width s i : Int))
theorem bt_get (s : ByteArray) (i : Nat) : bt s (i : Int) = ((s.get! i).toNat : Int) := by
  by_cases h : i < s.size
  · rw [bt_nat s i h]
    simp [ByteArray.get!, getElem!_pos, h]
    rfl
  · have h1 : bt s (i : Int) = 0 := by
      unfold bt
      rw [dif_neg (by simpa using h)]
    have h2 : s.get! i = 0 := by
      have h3 : ¬ i < s.data.size := h
      show s.data[i]! = 0
      rw [getElem!_neg s.data i h3]
      rfl
    rw [h1, h2]
    rfl
theorem get_lt (s : ByteArray) (i : Nat) : (s.get! i).toNat < 256 := (s.get! i).toNat_lt
def tl (s : ByteArray) (j : Nat) : Int := if j < s.size ∧ 128 ≤ (s.get! j).toNat ∧ (s.get! j).toNat < 192 then ((s.get! j).toNat : Int) - 128 else -1
theorem tail_is (s : ByteArray) (j : Nat) : bulletinref06_tail.f s (j : Int) = some (tl s j) := by
  unfold bulletinref06_tail.f tl
  have hb := get_lt s j
  rw [bt_get]
  by_cases h : j < s.size
  · rw [if_neg (by omega), if_pos (by omega), if_pos (by omega)]
    by_cases a : 128 ≤ (s.get! j).toNat
    · rw [if_neg (by omega)]
      by_cases b : (s.get! j).toNat < 192
      · rw [if_neg (by omega), if_pos ⟨h, a, b⟩, wrap_id (x := ((s.get! j).toNat : Int)) (by omega) (by omega), wrap_id (by omega) (by omega)]
      · rw [if_pos (by omega), if_neg (by omega)]
    · rw [if_pos (by omega), if_neg (by omega)]
  · rw [if_pos (by omega), if_neg (by omega)]
theorem tl_range (s : ByteArray) (j : Nat) : -1 ≤ tl s j ∧ tl s j ≤ 63 := by
  unfold tl
  split <;> omega
theorem one_step (k : Nat) (s : ByteArray) (i : Nat) (hi : i ≤ 1000000000) (z n : Int) (q p : Nat) (hp : p = q + 1) (hq : (q : Int) < z) (hq2 : q ≤ 10) (hn : 0 ≤ n) (hn2 : n ≤ 10000000) :
    bulletinref06_One.l0 (k + 1) s (i : Int) z n (q : Int) = if tl s (i + q) < 0 then some (-1, 1) else bulletinref06_One.l0 k s (i : Int) z (64 * n + tl s (i + q)) (p : Int) := by
  subst hp
  simp only [bulletinref06_One.l0]
  have ht := tl_range s (i + q)
  have e : wrap64 ((i : Int) + (q : Int)) = ((i + q : Nat) : Int) := by rw [wrap_id (by omega) (by omega)]; omega
  rw [if_pos hq, e, tail_is]
  simp only [Option.bind_some]
  rw [wrap_id (x := 64 * n) (by omega) (by omega), wrap_id (x := 64 * n + _) (by omega) (by omega), wrap_succ q (by omega)]
def leastZ (z : Int) : Int := if z = 2 then 128 else if z = 3 then 2048 else 65536
theorem one_end (k : Nat) (s : ByteArray) (i : Nat) (z n q : Int) (hz : z = 2 ∨ z = 3 ∨ z = 4) (hq : ¬ q < z) :
    bulletinref06_One.l0 (k + 1) s (i : Int) z n q = if n < leastZ z ∨ (55296 ≤ n ∧ n ≤ 57343) ∨ 1114111 < n then some (-1, 1) else some (n, z) := by
  simp only [bulletinref06_One.l0]
  rw [if_neg hq]
  have e : ∀ z : Int, (z = 2 ∨ z = 3 ∨ z = 4) → rd [0, 0, 128, 2048, 65536] z = leastZ z := by
    rintro z (rfl | rfl | rfl) <;> rfl
  simp only [Option.bind_some]
  rw [if_neg (by omega), if_pos (by omega), if_pos (by simp; omega), e z hz]
  by_cases a : n < leastZ z
  · rw [if_pos a, if_pos (Or.inl a)]
  · rw [if_neg a]
    by_cases b : n ≥ 55296
    · rw [if_pos b]
      by_cases c : n ≤ 57343
      · rw [if_pos c, if_pos (by omega)]
      · rw [if_neg c]
        by_cases d : n > 1114111
        · rw [if_pos d, if_pos (by omega)]
        · rw [if_neg d, if_neg (by omega)]
    · rw [if_neg b]
      by_cases d : n > 1114111
      · rw [if_pos d, if_pos (by omega)]
      · rw [if_neg d, if_neg (by omega)]
theorem one_zero (k : Nat) (s : ByteArray) (i : Nat) (n q : Int) (hq : ¬ q < 0) :
    bulletinref06_One.l0 (k + 1) s (i : Int) 0 n q = some (-1, 1) := by
  simp only [bulletinref06_One.l0]
  rw [if_neg hq]
  simp
theorem one_j (k : Nat) (s : ByteArray) (i : Nat) (c : Int) (h0 : 128 ≤ c) (h1 : c < 256) :
    bulletinref06_One.j0 (k + 6) s (i : Int) c 0 0 (decide (c < 224) && decide (192 ≤ c)) = bulletinref06_One.l0 k s (i : Int) (if c < 192 then 0 else if c < 224 then 2 else if c < 240 then 3 else if c < 248 then 4 else 0) (if c < 192 then 0 else if c < 224 then c - 192 else if c < 240 then c - 224 else if c < 248 then c - 240 else 0) 1 := by
  have w1 : wrap64 (c - 192) = c - 192 := wrap_id (by omega) (by omega)
  have w2 : wrap64 (c - 224) = c - 224 := wrap_id (by omega) (by omega)
  have w3 : wrap64 (c - 240) = c - 240 := wrap_id (by omega) (by omega)
  simp only [bulletinref06_One.j0, bulletinref06_One.j1, bulletinref06_One.j2, bulletinref06_One.j3, bulletinref06_One.j4, bulletinref06_One.j5, w1, w2, w3]
  by_cases a : c < 192
  · have a1 : ¬ 192 ≤ c := by omega
    have a2 : ¬ c ≥ 224 := by omega
    have a3 : ¬ c ≥ 240 := by omega
    simp [a, a1, a2, a3]
  · have a1 : 192 ≤ c := by omega
    by_cases b : c < 224
    · have a2 : ¬ c ≥ 224 := by omega
      have a3 : ¬ c ≥ 240 := by omega
      simp [a, a1, b, a2, a3]
    · have a2 : c ≥ 224 := by omega
      by_cases d : c < 240
      · have a3 : ¬ c ≥ 240 := by omega
        simp [a, a1, b, a2, d, a3]
      · have a3 : c ≥ 240 := by omega
        by_cases f : c < 248
        · simp [a, a1, b, a2, d, a3, f]
        · simp [a, a1, b, a2, d, a3, f]

def oneP (d : Nat × Nat) : Int × Int := if d.1 = 65533 ∧ d.2 = 1 then (-1, 1) else ((d.1 : Int), (d.2 : Int))
theorem oneZ_P (s : ByteArray) (i : Nat) : oneZ s i = oneP (Utf8.decode s i) := rfl
theorem oneP_bad : oneP (65533, 1) = (-1, 1) := by simp [oneP]
theorem oneP_wide (c z : Nat) (h : z ≠ 1) : oneP (c, z) = ((c : Int), (z : Int)) := by simp [oneP, h]
theorem oneP_one (c : Nat) (h : c < 128) : oneP (c, 1) = ((c : Int), 1) := by
  unfold oneP
  rw [if_neg (by simp; omega)]
  rfl
theorem one_is (s : ByteArray) (i : Nat) (hi : i < s.size) (hs : s.size ≤ 1000000000) (k : Nat) (hk : 20 ≤ k) : bulletinref06_One.f k s (i : Int) = some (oneZ s i) := by
  obtain ⟨m, rfl⟩ : ∃ m, k = (m + 5) + 6 := ⟨k - 11, by omega⟩
  rw [oneZ_P, Lib.decode_at]
  have g0 := get_lt s i
  have g1 := get_lt s (i + 1)
  have g2 := get_lt s (i + 2)
  have g3 := get_lt s (i + 3)
  unfold bulletinref06_One.f
  rw [if_pos (by omega), if_pos (by omega), bt_get, wrap_id (x := ((s.get! i).toNat : Int)) (by omega) (by omega)]
  have hj := one_j (m + 5) s i ((s.get! i).toNat : Int)
  have t1 : tl s (i + 1) = if i + 1 < s.size ∧ 128 ≤ (s.get! (i + 1)).toNat ∧ (s.get! (i + 1)).toNat < 192 then ((s.get! (i + 1)).toNat : Int) - 128 else -1 := rfl
  have t2 : tl s (i + 2) = if i + 2 < s.size ∧ 128 ≤ (s.get! (i + 2)).toNat ∧ (s.get! (i + 2)).toNat < 192 then ((s.get! (i + 2)).toNat : Int) - 128 else -1 := rfl
  have t3 : tl s (i + 3) = if i + 3 < s.size ∧ 128 ≤ (s.get! (i + 3)).toNat ∧ (s.get! (i + 3)).toNat < 192 then ((s.get! (i + 3)).toNat : Int) - 128 else -1 := rfl
  generalize (s.get! i).toNat = b0 at *
  generalize (s.get! (i + 1)).toNat = b1 at *
  generalize (s.get! (i + 2)).toNat = b2 at *
  generalize (s.get! (i + 3)).toNat = b3 at *
  by_cases a : b0 < 128
  · rw [if_pos (by omega), show Lib.decodeN (s.size - i) b0 b1 b2 b3 = (b0, 1) by unfold Lib.decodeN; rw [if_pos a], oneP_one _ a]
  rw [if_neg (by omega)]
  have hsel : (if (b0 : Int) ≥ 192 then bulletinref06_One.j0 (m + 5 + 6) s (i : Int) (b0 : Int) 0 0 (decide ((b0 : Int) < 224)) else bulletinref06_One.j0 (m + 5 + 6) s (i : Int) (b0 : Int) 0 0 false) = bulletinref06_One.j0 (m + 5 + 6) s (i : Int) (b0 : Int) 0 0 (decide ((b0 : Int) < 224) && decide (192 ≤ (b0 : Int))) := by
    by_cases b : (b0 : Int) ≥ 192
    · rw [if_pos b]; simp [show (192 : Int) ≤ b0 from b]
    · rw [if_neg b]; simp [show ¬ (192 : Int) ≤ b0 from b]
  rw [hsel, hj (by omega) (by omega)]
  have one1 : (1 : Int) = ((1 : Nat) : Int) := rfl
  have hr1 := tl_range s (i + 1)
  have hr2 := tl_range s (i + 2)
  have hr3 := tl_range s (i + 3)
  by_cases b : b0 < 192
  · have p192 : (b0 : Int) < 192 := by omega
    rw [if_pos p192, if_pos p192, one_zero _ _ _ _ _ (by decide)]
    rw [show Lib.decodeN (s.size - i) b0 b1 b2 b3 = (65533, 1) by unfold Lib.decodeN; rw [if_neg a, if_neg (by omega), if_neg (by omega), if_neg (by omega)], oneP_bad]
  have n192 : ¬ (b0 : Int) < 192 := by omega
  rw [if_neg n192, if_neg n192]
  by_cases c : b0 < 224
  · have p224 : (b0 : Int) < 224 := by omega
    rw [if_pos p224, if_pos p224, one1, one_step _ _ _ (by omega) _ _ 1 2 rfl (by decide) (by decide) (by omega) (by omega)]
    by_cases d : tl s (i + 1) < 0
    · rw [if_pos d, show Lib.decodeN (s.size - i) b0 b1 b2 b3 = (65533, 1) by unfold Lib.decodeN; rw [if_neg a, if_neg (by split at t1 <;> omega), if_neg (by omega), if_neg (by omega)], oneP_bad]
    · rw [if_neg d, one_end _ _ _ _ _ _ (by decide) (by decide)]
      have hd : (1 < s.size - i ∧ b1 / 64 = 2) ∧ tl s (i + 1) = b1 - 128 ∧ 128 ≤ b1 := by split at t1 <;> omega
      have hD : Lib.decodeN (s.size - i) b0 b1 b2 b3 = if b0 % 32 * 64 + b1 % 64 ≥ 128 then (b0 % 32 * 64 + b1 % 64, 2) else (65533, 1) := by unfold Lib.decodeN; rw [if_neg a, if_pos ⟨by omega, hd.1⟩]
      rw [hD, show leastZ 2 = 128 from rfl]
      by_cases e : b0 % 32 * 64 + b1 % 64 ≥ 128
      · rw [if_pos e, if_neg (by omega), oneP_wide _ _ (by decide)]
        congr 2
        omega
      · rw [if_neg e, if_pos (by omega), oneP_bad]
  have n224 : ¬ (b0 : Int) < 224 := by omega
  rw [if_neg n224, if_neg n224]
  by_cases c2 : b0 < 240
  · have p240 : (b0 : Int) < 240 := by omega
    rw [if_pos p240, if_pos p240, one1, one_step _ _ _ (by omega) _ _ 1 2 rfl (by decide) (by decide) (by omega) (by omega)]
    by_cases d : tl s (i + 1) < 0
    · rw [if_pos d, show Lib.decodeN (s.size - i) b0 b1 b2 b3 = (65533, 1) by unfold Lib.decodeN; rw [if_neg a, if_neg (by omega), if_neg (by split at t1 <;> omega), if_neg (by omega)], oneP_bad]
    rw [if_neg d, one_step _ _ _ (by omega) _ _ 2 3 rfl (by decide) (by decide) (by omega) (by omega)]
    by_cases d2 : tl s (i + 2) < 0
    · rw [if_pos d2, show Lib.decodeN (s.size - i) b0 b1 b2 b3 = (65533, 1) by unfold Lib.decodeN; rw [if_neg a, if_neg (by omega), if_neg (by split at t2 <;> omega), if_neg (by omega)], oneP_bad]
    rw [if_neg d2, one_end _ _ _ _ _ _ (by decide) (by decide)]
    have hd : (1 < s.size - i ∧ b1 / 64 = 2) ∧ tl s (i + 1) = b1 - 128 ∧ 128 ≤ b1 := by split at t1 <;> omega
    have hd2 : (2 < s.size - i ∧ b2 / 64 = 2) ∧ tl s (i + 2) = b2 - 128 ∧ 128 ≤ b2 := by split at t2 <;> omega
    have hD : Lib.decodeN (s.size - i) b0 b1 b2 b3 = if b0 % 16 * 4096 + b1 % 64 * 64 + b2 % 64 ≥ 2048 ∧ (b0 % 16 * 4096 + b1 % 64 * 64 + b2 % 64 < 55296 ∨ (57344 ≤ b0 % 16 * 4096 + b1 % 64 * 64 + b2 % 64 ∧ b0 % 16 * 4096 + b1 % 64 * 64 + b2 % 64 ≤ 1114111)) then (b0 % 16 * 4096 + b1 % 64 * 64 + b2 % 64, 3) else (65533, 1) := by unfold Lib.decodeN; rw [if_neg a, if_neg (by omega), if_pos ⟨by omega, hd.1, hd2.1⟩]
    rw [hD, show leastZ 3 = 2048 from rfl]
    by_cases e : b0 % 16 * 4096 + b1 % 64 * 64 + b2 % 64 ≥ 2048 ∧ (b0 % 16 * 4096 + b1 % 64 * 64 + b2 % 64 < 55296 ∨ (57344 ≤ b0 % 16 * 4096 + b1 % 64 * 64 + b2 % 64 ∧ b0 % 16 * 4096 + b1 % 64 * 64 + b2 % 64 ≤ 1114111))
    · rw [if_pos e, if_neg (by omega), oneP_wide _ _ (by decide)]
      congr 2
      omega
    · rw [if_neg e, if_pos (by omega), oneP_bad]
  have n240 : ¬ (b0 : Int) < 240 := by omega
  rw [if_neg n240, if_neg n240]
  by_cases c3 : b0 < 248
  · have p248 : (b0 : Int) < 248 := by omega
    rw [if_pos p248, if_pos p248, one1, one_step _ _ _ (by omega) _ _ 1 2 rfl (by decide) (by decide) (by omega) (by omega)]
    by_cases d : tl s (i + 1) < 0
    · rw [if_pos d, show Lib.decodeN (s.size - i) b0 b1 b2 b3 = (65533, 1) by unfold Lib.decodeN; rw [if_neg a, if_neg (by omega), if_neg (by omega), if_neg (by split at t1 <;> omega)], oneP_bad]
    rw [if_neg d, one_step _ _ _ (by omega) _ _ 2 3 rfl (by decide) (by decide) (by omega) (by omega)]
    by_cases d2 : tl s (i + 2) < 0
    · rw [if_pos d2, show Lib.decodeN (s.size - i) b0 b1 b2 b3 = (65533, 1) by unfold Lib.decodeN; rw [if_neg a, if_neg (by omega), if_neg (by omega), if_neg (by split at t2 <;> omega)], oneP_bad]
    rw [if_neg d2, one_step _ _ _ (by omega) _ _ 3 4 rfl (by decide) (by decide) (by omega) (by omega)]
    by_cases d3 : tl s (i + 3) < 0
    · rw [if_pos d3, show Lib.decodeN (s.size - i) b0 b1 b2 b3 = (65533, 1) by unfold Lib.decodeN; rw [if_neg a, if_neg (by omega), if_neg (by omega), if_neg (by split at t3 <;> omega)], oneP_bad]
    rw [if_neg d3, one_end _ _ _ _ _ _ (by decide) (by decide)]
    have hd : (1 < s.size - i ∧ b1 / 64 = 2) ∧ tl s (i + 1) = b1 - 128 ∧ 128 ≤ b1 := by split at t1 <;> omega
    have hd2 : (2 < s.size - i ∧ b2 / 64 = 2) ∧ tl s (i + 2) = b2 - 128 ∧ 128 ≤ b2 := by split at t2 <;> omega
    have hd3 : (3 < s.size - i ∧ b3 / 64 = 2) ∧ tl s (i + 3) = b3 - 128 ∧ 128 ≤ b3 := by split at t3 <;> omega
    have hD : Lib.decodeN (s.size - i) b0 b1 b2 b3 = if b0 % 8 * 262144 + b1 % 64 * 4096 + b2 % 64 * 64 + b3 % 64 ≥ 65536 ∧ (b0 % 8 * 262144 + b1 % 64 * 4096 + b2 % 64 * 64 + b3 % 64 < 55296 ∨ (57344 ≤ b0 % 8 * 262144 + b1 % 64 * 4096 + b2 % 64 * 64 + b3 % 64 ∧ b0 % 8 * 262144 + b1 % 64 * 4096 + b2 % 64 * 64 + b3 % 64 ≤ 1114111)) then (b0 % 8 * 262144 + b1 % 64 * 4096 + b2 % 64 * 64 + b3 % 64, 4) else (65533, 1) := by unfold Lib.decodeN; rw [if_neg a, if_neg (by omega), if_neg (by omega), if_pos ⟨by omega, hd.1, hd2.1, hd3.1⟩]
    rw [hD, show leastZ 4 = 65536 from rfl]
    by_cases e : b0 % 8 * 262144 + b1 % 64 * 4096 + b2 % 64 * 64 + b3 % 64 ≥ 65536 ∧ (b0 % 8 * 262144 + b1 % 64 * 4096 + b2 % 64 * 64 + b3 % 64 < 55296 ∨ (57344 ≤ b0 % 8 * 262144 + b1 % 64 * 4096 + b2 % 64 * 64 + b3 % 64 ∧ b0 % 8 * 262144 + b1 % 64 * 4096 + b2 % 64 * 64 + b3 % 64 ≤ 1114111))
    · rw [if_pos e, if_neg (by omega), oneP_wide _ _ (by decide)]
      congr 2
      omega
    · rw [if_neg e, if_pos (by omega), oneP_bad]
  · have n248 : ¬ (b0 : Int) < 248 := by omega
    rw [if_neg n248, if_neg n248, one_zero _ _ _ _ _ (by decide)]
    rw [show Lib.decodeN (s.size - i) b0 b1 b2 b3 = (65533, 1) by unfold Lib.decodeN; rw [if_neg a, if_neg (by omega), if_neg (by omega), if_neg (by omega)], oneP_bad]
theorem oneZ_width' (s : ByteArray) (i : Nat) : (oneZ s i).2 = (width s i : Int) := by
  unfold oneZ
  split
  · rename_i h
    rw [h.2]
    rfl
  · rfl
end Go.Proofs.Ytlomcmdbbnbciaa.Pl
set_option linter.unusedVariables false
set_option linter.unusedSimpArgs false
namespace Go.Proofs.Ytlomcmdbbnbciaa.Pl
open Go.RowKit Go.Proofs.YtlomcmdbbnbciaaW.PrintWords Go.Proofs.Ytlomcmdbbnbciaa.Fn

/-! Words: byte by byte (the reference), sign by sign (the program). -/
def isBl (c : UInt8) : Bool := c == 32 || (c == 9 || (c == 13 || c == 10))
def splitW : Bytes → Bytes → List Bytes
  | [], w => if w = [] then [] else [w]
  | c :: r, w => if isBl c then (if w = [] then splitW r [] else w :: splitW r []) else splitW r (w ++ [c])
theorem isBl_nat (c : UInt8) : isBl c = blank c.toNat := by
  unfold isBl blank
  have e : ∀ n : UInt8, (c == n) = (c.toNat == n.toNat) := fun n => by
    rw [Bool.eq_iff_iff, beq_iff_eq, beq_iff_eq]
    exact ⟨fun h => by rw [h], fun h => UInt8.toNat_inj.1 h⟩
  rw [e, e, e, e]
  rfl
theorem words_rounds (s : ByteArray) (hs : s.size ≤ 1000000000) : ∀ (l : Bytes) (k i : Nat) (out : List ByteArray) (w : Bytes), (bs s).drop i = l → i ≤ s.size → 2 * l.length + 4 < k → out.length ≤ i → w.length ≤ i →
    bulletinref06_Words.l0 k s out (str w) (i : Int) = some (out ++ (splitW l w).map str) := by
  intro l
  induction l with
  | nil =>
    intro k i out w h hi hk ho hw
    obtain ⟨k, rfl⟩ : ∃ m, k = m + 1 + 1 + 1 := ⟨k - 3, by omega⟩
    have hn := drop_nil h
    rw [bs_length] at hn
    simp only [bulletinref06_Words.l0]
    rw [if_pos (by omega), if_neg (by omega)]
    simp only [bulletinref06_Words.j1, Bool.false_eq_true, if_false]
    rw [toList_str, wrap_succ i (by omega)]
    unfold splitW
    by_cases hw0 : w = []
    · rw [if_pos hw0, if_pos hw0]
      simp only [bulletinref06_Words.l0]
      rw [if_neg (by omega)]
      simp
    · rw [if_neg hw0, if_neg hw0, if_pos (by omega)]
      simp only [bulletinref06_Words.l0]
      rw [if_neg (by omega)]
      simp
  | cons c r ih =>
    intro k i out w h hi hk ho hw
    obtain ⟨k, rfl⟩ : ∃ m, k = m + 1 + 1 := ⟨k - 2, by omega⟩
    obtain ⟨h1, h2, h3, h4⟩ := drop_cons h
    rw [bs_length] at h1
    have hc := byte_lt c
    have hx := extract_one h
    have hk' : 2 * r.length + 4 < k := by simp at hk; omega
    have yes : isBl c = true → bulletinref06_Words.j1 (k + 1) s out (str w) (i : Int) false = some (out ++ (splitW (c :: r) w).map str) := by
      intro hb
      simp only [bulletinref06_Words.j1, Bool.false_eq_true, if_false]
      rw [toList_str, wrap_succ i (by omega)]
      unfold splitW
      rw [if_pos hb]
      by_cases hw0 : w = []
      · rw [if_pos hw0, if_pos hw0]
        exact ih k (i + 1) out [] h3 (by omega) hk' (by omega) (by simp)
      · rw [if_neg hw0, if_neg hw0, if_pos (by omega)]
        have := ih k (i + 1) (out ++ [str w]) [] h3 (by omega) hk' (by simp; omega) (by simp)
        rw [show (⟨#[]⟩ : ByteArray) = str [] from rfl, this]
        simp
    simp only [bulletinref06_Words.l0]
    rw [if_pos (by omega), if_pos (by omega), if_pos (by omega), bt_drop h]
    have hbl : isBl c = (c.toNat == 32 || (c.toNat == 9 || (c.toNat == 13 || c.toNat == 10))) := isBl_nat c
    by_cases a1 : (c.toNat : Int) = 32
    · rw [if_pos a1]
      exact yes (by rw [hbl]; simp [show c.toNat = 32 by omega])
    rw [if_neg a1]
    by_cases a2 : (c.toNat : Int) = 9
    · rw [if_pos a2]
      exact yes (by rw [hbl]; simp [show c.toNat = 9 by omega])
    rw [if_neg a2]
    by_cases a3 : (c.toNat : Int) = 13
    · rw [if_pos a3]
      exact yes (by rw [hbl]; simp [show c.toNat = 13 by omega])
    rw [if_neg a3]
    by_cases a4 : (c.toNat : Int) = 10
    · rw [show ((c.toNat : Int) != 10) = false by simp [a4]]
      exact yes (by rw [hbl]; simp [show c.toNat = 10 by omega])
    · rw [show ((c.toNat : Int) != 10) = true by simp [a4]]
      have hb : ¬ isBl c = true := by
        rw [hbl]
        simp
        omega
      simp only [bulletinref06_Words.j1, if_true]
      rw [if_pos (by omega), wrap_succ i (by omega), if_pos (by omega), if_pos (by omega), Int.toNat_natCast, Int.toNat_natCast, hx, str_app, if_pos (by rw [str_size, str_size]; simp; omega), ih k (i + 1) out (w ++ [c]) h3 (by omega) hk' (by omega) (by simp; omega)]
      rw [splitW, if_neg hb]
theorem ref_words (s : ByteArray) (hs : s.size ≤ 1000000000) (k : Nat) (hk : 2 * s.size + 4 < k) : bulletinref06_Words.f k s = some ((splitW (bs s) []).map str) := by
  unfold bulletinref06_Words.f
  have := words_rounds s hs (bs s) k 0 [] [] (by simp) (by omega) (by rw [bs_length]; exact hk) (by simp) (by simp)
  simpa [str] using this

/-- what stands behind a sign's first byte is no blank. -/
theorem tail_high (s : ByteArray) (i j : Nat) (h0 : 0 < j) (h : j < width s i) : 128 ≤ (s.get! (i + j)).toNat := by
  unfold width at h
  rw [Lib.decode_at] at h
  have g0 := get_lt s i
  unfold Lib.decodeN at h
  have hj : j = 1 ∨ j = 2 ∨ j = 3 := by
    repeat' split at h
    all_goals (simp only [] at h; omega)
  rcases hj with rfl | rfl | rfl
  all_goals
    repeat' split at h
    all_goals (simp only [] at h; omega)
theorem get_bs (s : ByteArray) (i : Nat) (h : i < s.size) : (bs s)[i]? = some (s.get! i) := by
  unfold bs
  have h' : i < s.data.size := h
  rw [Array.getElem?_toList, Array.getElem?_eq_getElem h']
  congr 1
  show s.data[i] = s.data[i]!
  rw [getElem!_pos s.data i h']
theorem drop_get (s : ByteArray) (i : Nat) (h : i < s.size) : (bs s).drop i = s.get! i :: (bs s).drop (i + 1) := by
  have h1 : i < (bs s).length := by rw [bs_length]; exact h
  rw [List.drop_eq_getElem_cons h1]
  congr 1
  have := get_bs s i h
  rw [List.getElem?_eq_getElem h1] at this
  exact Option.some.inj this
theorem splitW_run (s : ByteArray) (i : Nat) : ∀ (n : Nat) (w : Bytes), i + n ≤ s.size → (∀ j, j < n → isBl (s.get! (i + j)) = false) →
    splitW ((bs s).drop i) w = splitW ((bs s).drop (i + n)) (w ++ ((bs s).drop i).take n) := by
  intro n
  induction n generalizing i with
  | zero => intro w _ _; simp
  | succ n ih =>
    intro w h hb
    have h0 := hb 0 (by omega)
    rw [Nat.add_zero] at h0
    rw [drop_get s i (by omega), splitW, if_neg (by rw [h0]; decide), ih (i + 1) (w ++ [s.get! i]) (by omega) (fun j hj => by rw [show i + 1 + j = i + (j + 1) by omega]; exact hb (j + 1) (by omega))]
    rw [show i + 1 + n = i + (n + 1) by omega]
    simp
theorem sign_low (s : ByteArray) (i : Nat) (h : (s.get! i).toNat < 128) : sign s i = (s.get! i).toNat ∧ width s i = 1 := by
  unfold sign width
  rw [Lib.decode_at]
  unfold Lib.decodeN
  rw [if_pos h]
  exact ⟨rfl, rfl⟩
theorem sign_high (s : ByteArray) (i : Nat) (h : 128 ≤ (s.get! i).toNat) : 128 ≤ sign s i := by
  unfold sign
  rw [Lib.decode_at]
  have g0 := get_lt s i
  unfold Lib.decodeN
  repeat' split
  all_goals (simp only []; omega)
theorem blank_high (r : Nat) (h : 128 ≤ r) : blank r = false := by
  unfold blank
  have e : ∀ n, n < 128 → (r == n) = false := fun n hn => by
    rw [beq_eq_false_iff_ne]
    omega
  rw [e 32 (by omega), e 9 (by omega), e 13 (by omega), e 10 (by omega)]
  rfl
/-- the word that is open. -/
def open_ (s : ByteArray) (st : Option Nat) (pos : Nat) : Bytes := match st with | none => [] | some a => ((bs s).take pos).drop a
theorem open_snoc (s : ByteArray) (a pos n : Nat) (ha : a ≤ pos) (h : pos + n ≤ s.size) : ((bs s).take (pos + n)).drop a = ((bs s).take pos).drop a ++ ((bs s).drop pos).take n := by
  rw [List.take_add, List.drop_append_of_le_length (by rw [List.length_take, bs_length]; omega)]
theorem spans_words (s : ByteArray) : ∀ (f pos : Nat) (st : Option Nat) (acc : List (Nat × Nat)), pos ≤ s.size → s.size ≤ pos + f → (∀ a, st = some a → a < pos) →
    (Lib.closeSpans s (Lib.spansFromP blank s f pos st acc)).map (fun x => s.extract x.1 x.2) = acc.map (fun x => s.extract x.1 x.2) ++ (splitW ((bs s).drop pos) (open_ s st pos)).map str := by
  intro f
  induction f with
  | zero =>
    intro pos st acc hp hf hst
    obtain rfl : pos = s.size := by omega
    have hd : (bs s).drop s.size = [] := List.drop_of_length_le (by rw [bs_length]; exact Nat.le_refl _)
    rw [hd]
    cases st with
    | none => simp [Lib.spansFromP, Lib.closeSpans, splitW, open_]
    | some a =>
      have ha := hst a rfl
      have he : ((bs s).take s.size).drop a ≠ [] := by
        intro e
        have := congrArg List.length e
        simp [bs_length] at this
        omega
      have hx : s.extract a s.size = str (((bs s).take s.size).drop a) := by rw [← bs_extract, str_bs]
      rw [show open_ s (some a) s.size = ((bs s).take s.size).drop a from rfl, splitW, if_neg he]
      simp only [Lib.spansFromP, Lib.closeSpans]
      simp [hx]
  | succ f ih =>
    intro pos st acc hp hf hst
    by_cases hlt : pos < s.size
    · have hw := width_pos s pos hlt
      have hw2 : pos + width s pos ≤ s.size := width_end s pos hlt
      have hsg : (Utf8.decode s pos).1 = sign s pos := rfl
      have hwd : (Utf8.decode s pos).2 = width s pos := rfl
      unfold Lib.spansFromP
      rw [if_pos hlt, hsg, hwd]
      by_cases hb : blank (sign s pos) = true
      · have hlow : (s.get! pos).toNat < 128 := by
          rcases Nat.lt_or_ge (s.get! pos).toNat 128 with h | h
          · exact h
          · rw [blank_high _ (sign_high s pos h)] at hb
            exact absurd hb (by decide)
        obtain ⟨hs1, hs2⟩ := sign_low s pos hlow
        have hbl : isBl (s.get! pos) = true := by rw [isBl_nat, ← hs1]; exact hb
        rw [if_pos hb, hs2, drop_get s pos hlt, splitW, if_pos hbl]
        cases st with
        | none =>
          simp only []
          rw [ih (pos + 1) none acc (by omega) (by omega) (by simp)]
          simp [open_]
        | some a =>
          have ha := hst a rfl
          have he : ((bs s).take pos).drop a ≠ [] := by
            intro e
            have := congrArg List.length e
            simp [bs_length] at this
            omega
          have hx : s.extract a pos = str (((bs s).take pos).drop a) := by rw [← bs_extract, str_bs]
          simp only []
          rw [ih (pos + 1) none _ (by omega) (by omega) (by simp)]
          rw [show open_ s (some a) pos = ((bs s).take pos).drop a from rfl, if_neg he]
          simp [hx, open_]
      · rw [if_neg hb]
        have hnb : ∀ j, j < width s pos → isBl (s.get! (pos + j)) = false := by
          intro j hj
          rw [isBl_nat]
          by_cases h0 : j = 0
          · subst h0
            rw [Nat.add_zero]
            rcases Nat.lt_or_ge (s.get! pos).toNat 128 with h | h
            · rw [← (sign_low s pos h).1]
              simpa using hb
            · exact blank_high _ h
          · exact blank_high _ (tail_high s pos j (by omega) hj)
        cases st with
        | none =>
          simp only []
          rw [ih (pos + width s pos) (some pos) acc (by omega) (by omega) (fun a e => by injection e with e; omega)]
          simp only [open_]
          rw [splitW_run s pos (width s pos) [] hw2 hnb]
          rw [open_snoc s pos pos (width s pos) (Nat.le_refl _) hw2, List.drop_of_length_le (l := (bs s).take pos) (by rw [List.length_take]; omega)]
        | some a =>
          have ha := hst a rfl
          simp only []
          rw [ih (pos + width s pos) (some a) acc (by omega) (by omega) (fun b e => by injection e with e; omega)]
          simp only [open_]
          rw [splitW_run s pos (width s pos) _ hw2 hnb, open_snoc s a pos (width s pos) (by omega) hw2]
    · obtain rfl : pos = s.size := by omega
      have hd : (bs s).drop s.size = [] := List.drop_of_length_le (by rw [bs_length]; exact Nat.le_refl _)
      rw [Lib.spansFromP_end _ _ _ _ _ _ hlt, hd]
      cases st with
      | none => simp [Lib.closeSpans, splitW, open_]
      | some a =>
        have ha := hst a rfl
        have he : ((bs s).take s.size).drop a ≠ [] := by
          intro e
          have := congrArg List.length e
          simp [bs_length] at this
          omega
        have hx : s.extract a s.size = str (((bs s).take s.size).drop a) := by rw [← bs_extract, str_bs]
        rw [show open_ s (some a) s.size = ((bs s).take s.size).drop a from rfl, splitW, if_neg he]
        simp only [Lib.closeSpans]
        simp [hx]
theorem words_split (s : ByteArray) : words s = (splitW (bs s) []).map str := by
  unfold words Lib.goFieldsP Lib.spansOfP
  rw [spans_words s s.size 0 none [] (by omega) (by omega) (by simp)]
  simp [open_]
/-- what the words are: none is empty, none has a blank in it. -/
theorem splitW_words : ∀ (l w : Bytes), (∀ c ∈ w, isBl c = false) → ∀ x ∈ splitW l w, x ≠ [] ∧ ∀ c ∈ x, isBl c = false := by
  intro l
  induction l with
  | nil =>
    intro w hw x hx
    unfold splitW at hx
    split at hx
    · simp at hx
    · rename_i h
      rw [List.mem_singleton] at hx
      subst hx
      exact ⟨h, hw⟩
  | cons c r ih =>
    intro w hw x hx
    unfold splitW at hx
    split at hx
    · split at hx
      · exact ih [] (by simp) x hx
      · rename_i h
        rcases List.mem_cons.1 hx with rfl | hx
        · exact ⟨h, hw⟩
        · exact ih [] (by simp) x hx
    · rename_i h
      exact ih (w ++ [c]) (fun d hd => by
        rcases List.mem_append.1 hd with hd | hd
        · exact hw d hd
        · rw [List.mem_singleton] at hd
          subst hd
          simpa using h) x hx
theorem splitW_total : ∀ (l w : Bytes), ((splitW l w).map List.length).sum + (splitW l w).length ≤ l.length + w.length + 1 := by
  intro l
  induction l with
  | nil =>
    intro w
    unfold splitW
    split
    · simp
    · simp
  | cons c r ih =>
    intro w
    unfold splitW
    split
    · split
      · have := ih []
        simp at this ⊢ <;> omega
      · have := ih []
        simp at this ⊢ <;> omega
    · have := ih (w ++ [c])
      simp at this ⊢ <;> omega
end Go.Proofs.Ytlomcmdbbnbciaa.Pl
set_option linter.unusedVariables false
set_option linter.unusedSimpArgs false
namespace Go.Proofs.Ytlomcmdbbnbciaa.Pl
open Go.RowKit Go.Proofs.YtlomcmdbbnbciaaW.PrintWords Go.Proofs.Ytlomcmdbbnbciaa.Fn

/-! The reference's Clip, as the plain one. -/
theorem clip_rounds (s : ByteArray) (hs : s.size ≤ 1000000000) (m : Int) (hm : m ≤ 1000000000) : ∀ (f k i : Nat) (q : Int), s.size < i + f → f + 30 < k → i ≤ s.size → 0 ≤ q → q ≤ i →
    bulletinref06_Clip.l0 k s m (i : Int) q = some (s.extract 0 (clipFrom s f (m - q) i)) := by
  intro f
  induction f with
  | zero =>
    intro k i q h hk hi h0 h1
    omega
  | succ f ih =>
    intro k i q h hk hi h0 h1
    obtain ⟨k, rfl⟩ : ∃ m, k = m + 1 := ⟨k - 1, by omega⟩
    simp only [bulletinref06_Clip.l0, clipFrom]
    by_cases hq : q < m
    · rw [if_pos hq]
      by_cases hlt : i < s.size
      · have hw := width_pos s i hlt
        have hw2 : i + width s i ≤ s.size := width_end s i hlt
        rw [if_pos (by omega), if_pos hlt, if_neg (by omega), one_is s i hlt hs k (by omega)]
        simp only [Option.bind_some]
        rw [oneZ_width', wrap_id (x := (i : Int) + _) (by omega) (by omega), wrap_id (x := q + 1) (by omega) (by omega), show (i : Int) + (width s i : Int) = ((i + width s i : Nat) : Int) by omega, ih k _ (q + 1) (by omega) (by omega) hw2 (by omega) (by omega)]
        congr 3
        omega
      · obtain rfl : i = s.size := by omega
        rw [if_neg (by omega), if_neg hlt, if_pos (by omega), if_pos (by omega), Int.toNat_natCast]
    · rw [if_neg hq, if_pos (by omega), if_pos (by omega), Int.toNat_natCast]
      by_cases hlt : i < s.size
      · rw [if_pos hlt, if_pos (by omega)]
      · obtain rfl : i = s.size := by omega
        rw [if_neg hlt]
theorem ref_clip (s : ByteArray) (hs : s.size ≤ 1000000000) (m : Int) (hm : m ≤ 1000000000) (k : Nat) (hk : s.size + 40 < k) : bulletinref06_Clip.f k s m = some (clip s m) := by
  unfold bulletinref06_Clip.f clip
  have := clip_rounds s hs m hm (s.size + 1) k 0 0 (by omega) (by omega) (by omega) (by omega) (by omega)
  simpa using this
end Go.Proofs.Ytlomcmdbbnbciaa.Pl
set_option linter.unusedVariables false
set_option linter.unusedSimpArgs false
namespace Go.Proofs.Ytlomcmdbbnbciaa.Pl
open Go.RowKit Go.Proofs.YtlomcmdbbnbciaaW.PrintWords Go.Proofs.Ytlomcmdbbnbciaa.Fn

/-! The reference's Signs, Write and Clean, as the plain ones. -/
theorem oneZ_width (s : ByteArray) (i : Nat) : (oneZ s i).2 = (width s i : Int) := by
  unfold oneZ
  split
  · rename_i h
    rw [h.2]
    rfl
  · rfl
theorem drop_cons' {α : Type} {l : List α} {i : Nat} {c : α} {r : List α} (h : l.drop i = c :: r) : i < l.length ∧ l[i]? = some c ∧ l.drop (i + 1) = r := by
  have hi : i < l.length := by
    rcases Nat.lt_or_ge i l.length with h' | h'
    · exact h'
    · rw [List.drop_of_length_le h'] at h; cases h
  refine ⟨hi, ?_, ?_⟩
  · have := congrArg List.head? h
    rw [List.head?_drop] at this
    exact this
  · rw [← List.drop_drop, h]; rfl
theorem rd_drop {l : List Int} {i : Nat} {c : Int} {r : List Int} (h : l.drop i = c :: r) : rd l (i : Int) = c := by
  obtain ⟨h1, h2, _⟩ := drop_cons' h
  unfold rd
  rw [List.getD_eq_getElem?_getD, Int.toNat_natCast, h2]
  rfl

def signsFrom (s : ByteArray) : Nat → Nat → List Int
  | 0, _ => []
  | n + 1, i => if i < s.size then (oneZ s i).1 :: signsFrom s n (i + width s i) else []
theorem signs_rounds (s : ByteArray) (hs : s.size ≤ 1000000000) : ∀ (n k i : Nat) (acc : List Int), s.size ≤ i + n → n + 20 < k → acc.length ≤ i →
    bulletinref06_Signs.l0 k s acc (i : Int) = some (acc ++ signsFrom s n i) := by
  intro n
  induction n with
  | zero =>
    intro k i acc h hk ha
    obtain ⟨k, rfl⟩ : ∃ m, k = m + 1 := ⟨k - 1, by omega⟩
    simp only [bulletinref06_Signs.l0, signsFrom]
    rw [if_neg (by omega), List.append_nil]
  | succ n ih =>
    intro k i acc h hk ha
    obtain ⟨k, rfl⟩ : ∃ m, k = m + 1 := ⟨k - 1, by omega⟩
    simp only [bulletinref06_Signs.l0, signsFrom]
    by_cases hi : i < s.size
    · have hw := width_pos s i hi
      have hw2 := width_end s i hi
      have hw3 : width s i = (Utf8.decode s i).2 := rfl
      rw [if_pos (by omega), if_pos hi, one_is s i hi hs k (by omega)]
      simp only [Option.bind_some]
      rw [if_pos (by omega), oneZ_width, wrap_id (by omega) (by omega)]
      rw [show (i : Int) + (width s i : Int) = ((i + width s i : Nat) : Int) by omega, ih k _ _ (by omega) (by omega) (by simp; omega)]
      simp
    · rw [if_neg (by omega), if_neg hi, List.append_nil]
theorem signs_is (s : ByteArray) (hs : s.size ≤ 1000000000) (k : Nat) (hk : s.size + 20 < k) : bulletinref06_Signs.f k s = some (signsFrom s s.size 0) := by
  unfold bulletinref06_Signs.f
  have := signs_rounds s hs s.size k 0 [] (by omega) hk (by simp)
  simpa using this

theorem sign_valid (s : ByteArray) (i : Nat) : sign s i < 55296 ∨ (57344 ≤ sign s i ∧ sign s i ≤ 1114111) := by
  unfold sign
  rw [Lib.decode_at]
  have g0 := get_lt s i
  unfold Lib.decodeN
  repeat' split
  all_goals (simp only []; omega)
/-- a number that is a sign. -/
def valid (n : Int) : Prop := 0 ≤ n ∧ (n < 55296 ∨ (57344 ≤ n ∧ n ≤ 1114111))
theorem nums_enc (l : List Int) : strOfNums l = str (l.map fun x => x.toNat.toUInt8) := rfl
theorem tdiv_pos {a b : Int} (h : 0 ≤ a) (_hb : 0 ≤ b) : a.tdiv b = a / b := Int.tdiv_eq_ediv_of_nonneg h
theorem tmod_pos {a b : Int} (h : 0 ≤ a) (_hb : 0 ≤ b) : a.tmod b = a % b := Int.tmod_eq_emod_of_nonneg h
theorem write_is (n : Int) (h : valid n) : bulletinref06_Write.f n = some (str (Lib.encodeRune n)) := by
  obtain ⟨h0, h1⟩ := h
  unfold bulletinref06_Write.f
  have w : ∀ x : Int, 0 ≤ x → x ≤ 9000000 → wrap64 x = x := fun x a b => wrap_id (by omega) (by omega)
  by_cases a : n < 128
  · rw [if_pos a, nums_enc, Lib.encodeRune, Lib.encodeRuneZ_one h0 (by omega), Int.emod_eq_of_lt h0 (by omega)]
  rw [if_neg a]
  have d64 : n.tdiv 64 = n / 64 := tdiv_pos h0 (by decide)
  have d4096 : n.tdiv 4096 = n / 4096 := tdiv_pos h0 (by decide)
  have d262144 : n.tdiv 262144 = n / 262144 := tdiv_pos h0 (by decide)
  have m64 : n.tmod 64 = n % 64 := tmod_pos h0 (by decide)
  have mm : (n / 64).tmod 64 = n / 64 % 64 := tmod_pos (by omega) (by decide)
  have mm2 : (n / 4096).tmod 64 = n / 4096 % 64 := tmod_pos (by omega) (by decide)
  rw [d64, d4096, d262144, m64, w (n / 64) (by omega) (by omega), w (n / 4096) (by omega) (by omega), w (n / 262144) (by omega) (by omega), mm, mm2, w (192 + n / 64) (by omega) (by omega), w (128 + n % 64) (by omega) (by omega), w (224 + n / 4096) (by omega) (by omega), w (128 + n / 64 % 64) (by omega) (by omega), w (240 + n / 262144) (by omega) (by omega), w (128 + n / 4096 % 64) (by omega) (by omega)]
  by_cases b : n < 2048
  · rw [if_pos b, nums_enc, Lib.encodeRune, Lib.encodeRuneZ_two (by omega) (by omega), Int.emod_eq_of_lt (by omega) (by omega), Int.emod_eq_of_lt (by omega) (by omega)]
  rw [if_neg b]
  by_cases c : n < 65536
  · rw [if_pos c, nums_enc, Lib.encodeRune, Lib.encodeRuneZ_three (by omega), Int.emod_eq_of_lt (a := 224 + n / 4096) (by omega) (by omega), Int.emod_eq_of_lt (a := 128 + n / 64 % 64) (by omega) (by omega), Int.emod_eq_of_lt (a := 128 + n % 64) (by omega) (by omega)]
  · rw [if_neg c, nums_enc, Lib.encodeRune, Lib.encodeRuneZ_four (by omega) (by omega), Int.emod_eq_of_lt (a := 240 + n / 262144) (by omega) (by omega), Int.emod_eq_of_lt (a := 128 + n / 4096 % 64) (by omega) (by omega), Int.emod_eq_of_lt (a := 128 + n / 64 % 64) (by omega) (by omega), Int.emod_eq_of_lt (a := 128 + n % 64) (by omega) (by omega)]
theorem enc_length (n : Int) : (Lib.encodeRune n).length ≤ 4 := by
  have := (Lib.runeCells_le n).2
  rwa [Lib.runeCells_length] at this

/-- what Clean makes of a sign. -/
def cleanZ (n : Int) : Bytes := cleanR (if n = -1 then 65533 else n.toNat)
theorem cleanZ_one (s : ByteArray) (i : Nat) : cleanZ (oneZ s i).1 = cleanR (sign s i) := by
  unfold cleanZ oneZ
  split
  · rename_i h
    rw [if_pos rfl, h.1]
  · simp only []
    rw [if_neg (by omega), Int.toNat_natCast]
theorem cleanR_length (r : Nat) : (cleanR r).length ≤ 4 := by
  unfold cleanR
  split
  · simp
  · exact enc_length _
theorem enc32 : Lib.encodeRune 32 = [32] := by rfl
theorem clean_step (k : Nat) (l : List Int) (acc : Bytes) (j : Nat) (n : Int) (r : List Int) (h : l.drop j = n :: r) (hn : n = -1 ∨ valid n) (hj : j ≤ 1000000000) (ha : acc.length ≤ 4 * j) :
    bulletinref06_Clean.l0 (k + 1) l (str acc) (j : Int) = bulletinref06_Clean.l0 k l (str (acc ++ cleanZ n)) ((j + 1 : Nat) : Int) := by
  have hl := (drop_cons' h).1
  have hz : (str acc).size = acc.length := str_size acc
  have w32 : bulletinref06_Write.f 32 = some (str [32]) := by rw [write_is 32 (by unfold valid; omega), enc32]
  have wbad : bulletinref06_Write.f 65533 = some (str (Lib.encodeRune 65533)) := write_is 65533 (by unfold valid; omega)
  have hb : ∀ x : Bytes, x.length ≤ 4 → (str acc).size + (str x).size ≤ 9223372036854775807 := fun x hx => by rw [hz, str_size]; omega
  simp only [bulletinref06_Clean.l0]
  rw [if_pos (by omega), if_pos (by omega), rd_drop h, wrap_succ j (by omega)]
  unfold cleanZ cleanR control
  by_cases e : n = -1
  · subst e
    rw [if_pos rfl, if_neg (by decide), if_pos (by decide), if_neg (by decide), if_pos rfl, wbad]
    simp only [Option.bind_some]
    rw [if_pos (hb _ (enc_length _)), str_app]
    rfl
  · have hv : valid n := by rcases hn with hn | hn; exact absurd hn e; exact hn
    have h0 := hv.1
    rw [if_neg e, if_neg e]
    by_cases a : n < 32
    · rw [if_pos a, w32]
      simp only [Option.bind_some]
      rw [if_pos (hb _ (by simp)), str_app]
      simp [show n.toNat < 32 by omega]
    · rw [if_neg a]
      by_cases b : n ≥ 127
      · rw [if_pos b]
        by_cases c : n ≤ 159
        · rw [if_pos c, w32]
          simp only [Option.bind_some]
          rw [if_pos (hb _ (by simp)), str_app]
          simp [show 127 ≤ n.toNat by omega, show n.toNat ≤ 159 by omega]
        · rw [if_neg c, write_is n hv]
          simp only [Option.bind_some]
          rw [if_pos (hb _ (enc_length _)), str_app]
          simp [show ¬ n.toNat < 32 by omega, show ¬ n.toNat ≤ 159 by omega, Int.toNat_of_nonneg h0]
      · rw [if_neg b, write_is n hv]
        simp only [Option.bind_some]
        rw [if_pos (hb _ (enc_length _)), str_app]
        simp [show ¬ n.toNat < 32 by omega, show ¬ 127 ≤ n.toNat by omega, Int.toNat_of_nonneg h0]
theorem cleanZ_length (n : Int) : (cleanZ n).length ≤ 4 := cleanR_length _
theorem clean_rounds (l : List Int) (hl : l.length ≤ 1000000000) (hv : ∀ n ∈ l, n = -1 ∨ valid n) : ∀ (t : List Int) (k j : Nat) (acc : Bytes), l.drop j = t → t.length < k → acc.length ≤ 4 * j →
    bulletinref06_Clean.l0 k l (str acc) (j : Int) = some (str (acc ++ t.flatMap cleanZ)) := by
  intro t
  induction t with
  | nil =>
    intro k j acc h hk ha
    obtain ⟨k, rfl⟩ : ∃ m, k = m + 1 := ⟨k - 1, by omega⟩
    have : l.length ≤ j := by
      have := congrArg List.length h
      simp at this
      omega
    simp only [bulletinref06_Clean.l0]
    rw [if_neg (by omega)]
    simp
  | cons n r ih =>
    intro k j acc h hk ha
    obtain ⟨k, rfl⟩ : ∃ m, k = m + 1 := ⟨k - 1, by omega⟩
    obtain ⟨h1, h2, h3⟩ := drop_cons' h
    have hm : n ∈ l := List.mem_of_getElem? h2
    rw [clean_step k l acc j n r h (hv n hm) (by omega) ha, ih k (j + 1) _ h3 (by simpa using hk) (by have := cleanZ_length n; simp; omega)]
    simp
theorem signsFrom_clean (s : ByteArray) : ∀ n i, (signsFrom s n i).flatMap cleanZ = cleanFrom s n i := by
  intro n
  induction n with
  | zero => intro i; rfl
  | succ n ih =>
    intro i
    unfold signsFrom cleanFrom
    split
    · rw [List.flatMap_cons, cleanZ_one, ih]
    · rfl
theorem signsFrom_valid (s : ByteArray) : ∀ n i, ∀ x ∈ signsFrom s n i, x = -1 ∨ valid x := by
  intro n
  induction n with
  | zero => intro i x h; simp [signsFrom] at h
  | succ n ih =>
    intro i x h
    unfold signsFrom at h
    split at h
    · rcases List.mem_cons.1 h with rfl | h
      · have := sign_valid s i
        unfold oneZ
        split
        · exact .inl rfl
        · right
          unfold valid
          simp only []
          omega
      · exact ih _ x h
    · simp at h
theorem signsFrom_length (s : ByteArray) : ∀ n i, (signsFrom s n i).length ≤ n := by
  intro n
  induction n with
  | zero => intro i; simp [signsFrom]
  | succ n ih =>
    intro i
    unfold signsFrom
    split
    · have := ih (i + width s i)
      simp; omega
    · simp
theorem ref_clean (s : ByteArray) (hs : s.size ≤ 1000000000) (k : Nat) (hk : s.size + 20 < k) : bulletinref06_Clean.f k s = some (str (clean s)) := by
  unfold bulletinref06_Clean.f
  rw [signs_is s hs k hk]
  simp only [Option.bind_some]
  have hl := signsFrom_length s s.size 0
  have := clean_rounds (signsFrom s s.size 0) (by omega) (signsFrom_valid s s.size 0) (signsFrom s s.size 0) k 0 [] (by simp) (by omega) (by simp)
  rw [signsFrom_clean] at this
  simpa [str, clean] using this
theorem cleanFrom_length (s : ByteArray) : ∀ n i, (cleanFrom s n i).length ≤ 4 * n := by
  intro n
  induction n with
  | zero => intro i; simp [cleanFrom]
  | succ n ih =>
    intro i
    unfold cleanFrom
    split
    · have := ih (i + width s i)
      have := cleanR_length (sign s i)
      simp; omega
    · simp
theorem clean_length (s : ByteArray) : (clean s).length ≤ 4 * s.size := cleanFrom_length s _ _
end Go.Proofs.Ytlomcmdbbnbciaa.Pl
set_option linter.unusedVariables false
set_option linter.unusedSimpArgs false
namespace Go.Proofs.Ytlomcmdbbnbciaa.Pl
open Go.RowKit Go.Proofs.YtlomcmdbbnbciaaW.PrintWords Go.Proofs.Ytlomcmdbbnbciaa.Fn

/-! Commands: of words (the program), of the text that they make (the reference). -/
def jn (l : List Bytes) : Bytes := Lib.join l [32]
def wordN (b : Bytes) : Int := if b = [101, 97, 99, 104] then 1 else if b = [100, 105, 103, 101, 115, 116] then 2 else if b = [115, 105, 108, 101, 110, 116] then 3 else 0
def unk (t : Bytes) : Int × Int × ByteArray := (5, 0, clip (str t) 30)
def cmd : List Bytes → Int × Int × ByteArray
  | [a] =>
    if a = [104, 101, 108, 112] ∨ a = [105, 110, 102, 111] then (1, 0, str []) else if a = [106, 111, 105, 110] ∨ a = [115, 117, 98, 115, 99, 114, 105, 98, 101] then (2, 1, str [])
    else if a = [108, 101, 97, 118, 101] ∨ a = [117, 110, 115, 117, 98, 115, 99, 114, 105, 98, 101] ∨ a = [114, 101, 109, 111, 118, 101] then (3, 0, str []) else unk a
  | [a, b] =>
    if (a = [106, 111, 105, 110] ∨ a = [115, 117, 98, 115, 99, 114, 105, 98, 101]) ∧ wordN b ≠ 0 then (2, wordN b, str []) else if a = [115, 101, 116] ∧ wordN b ≠ 0 then (4, wordN b, str []) else unk (jn [a, b])
  | l => unk (jn l)
/-- the reference's, of a text. -/
def cmdT (t : Bytes) : Int × Int × ByteArray :=
  if t = [104, 101, 108, 112] ∨ t = [105, 110, 102, 111] then (1, 0, str []) else if t = [106, 111, 105, 110] ∨ t = [115, 117, 98, 115, 99, 114, 105, 98, 101] then (2, 1, str [])
  else if t = [108, 101, 97, 118, 101] ∨ t = [117, 110, 115, 117, 98, 115, 99, 114, 105, 98, 101] ∨ t = [114, 101, 109, 111, 118, 101] then (3, 0, str [])
  else if t = [106, 111, 105, 110, 32, 101, 97, 99, 104] ∨ t = [115, 117, 98, 115, 99, 114, 105, 98, 101, 32, 101, 97, 99, 104] then (2, 1, str []) else if t = [115, 101, 116, 32, 101, 97, 99, 104] then (4, 1, str [])
  else if t = [106, 111, 105, 110, 32, 100, 105, 103, 101, 115, 116] ∨ t = [115, 117, 98, 115, 99, 114, 105, 98, 101, 32, 100, 105, 103, 101, 115, 116] then (2, 2, str []) else if t = [115, 101, 116, 32, 100, 105, 103, 101, 115, 116] then (4, 2, str [])
  else if t = [106, 111, 105, 110, 32, 115, 105, 108, 101, 110, 116] ∨ t = [115, 117, 98, 115, 99, 114, 105, 98, 101, 32, 115, 105, 108, 101, 110, 116] then (2, 3, str []) else if t = [115, 101, 116, 32, 115, 105, 108, 101, 110, 116] then (4, 3, str [])
  else unk t
theorem wd1 : bulletinref33_Word.f 1 = some (str [101, 97, 99, 104]) := by rfl
theorem wd2 : bulletinref33_Word.f 2 = some (str [100, 105, 103, 101, 115, 116]) := by rfl
theorem wd3 : bulletinref33_Word.f 3 = some (str [115, 105, 108, 101, 110, 116]) := by rfl
theorem lit_str (a : Bytes) : (⟨a.toArray⟩ : ByteArray) = str a := rfl
theorem of_l1 (t : Bytes) (ht : t.length ≤ 100000000) (k : Nat) (hk : t.length + 60 < k)
    (h1 : ¬ (t = [104, 101, 108, 112] ∨ t = [105, 110, 102, 111])) (h2 : ¬ (t = [106, 111, 105, 110] ∨ t = [115, 117, 98, 115, 99, 114, 105, 98, 101])) (h3 : ¬ (t = [108, 101, 97, 118, 101] ∨ t = [117, 110, 115, 117, 98, 115, 99, 114, 105, 98, 101] ∨ t = [114, 101, 109, 111, 118, 101])) :
    bulletinref35_Of.l1 k (str t) 1 = some (cmdT t) := by
  obtain ⟨k, rfl⟩ : ∃ m, k = m + 1 + 1 + 1 + 1 + 1 + 1 + 1 := ⟨k - 7, by omega⟩
  have hc := ref_clip (str t) (by rw [str_size]; omega) 30 (by decide) k (by rw [str_size]; omega)
  have w1 : wrap64 (1 + 1) = 2 := by unfold wrap64; omega
  have w2 : wrap64 (2 + 1) = 3 := by unfold wrap64; omega
  have w3 : wrap64 (3 + 1) = 4 := by unfold wrap64; omega
  unfold cmdT
  rw [if_neg h1, if_neg h2, if_neg h3]
  rw [bulletinref35_Of.l1, if_pos (by decide), wd1]
  simp only [Option.bind_some]
  rw [if_pos (by rw [str_size]; decide), show (⟨#[106, 111, 105, 110, 32]⟩ : ByteArray) = str [106, 111, 105, 110, 32] from rfl, show (⟨#[115, 117, 98, 115, 99, 114, 105, 98, 101, 32]⟩ : ByteArray) = str [115, 117, 98, 115, 99, 114, 105, 98, 101, 32] from rfl, str_app, str_app, toList_str, toList_str, toList_str]
  simp only [List.cons_append, List.nil_append]
  by_cases j1 : t = [106, 111, 105, 110, 32, 101, 97, 99, 104]
  · rw [if_pos j1, if_pos (Or.inl j1), bulletinref35_Of.j5, if_pos rfl]
    rfl
  rw [if_neg j1, if_pos (by rw [str_size]; decide), bulletinref35_Of.j5]
  by_cases s1 : t = [115, 117, 98, 115, 99, 114, 105, 98, 101, 32, 101, 97, 99, 104]
  · rw [if_pos (by rw [s1]; rfl), if_pos (Or.inr s1)]
    rfl
  have q1 : ¬ (t = [106, 111, 105, 110, 32, 101, 97, 99, 104] ∨ t = [115, 117, 98, 115, 99, 114, 105, 98, 101, 32, 101, 97, 99, 104]) := fun h => h.elim j1 s1
  rw [if_neg (by simpa using s1), if_neg q1, if_pos (by rw [str_size]; decide), show (⟨#[115, 101, 116, 32]⟩ : ByteArray) = str [115, 101, 116, 32] from rfl, str_app, toList_str, toList_str]
  simp only [List.cons_append, List.nil_append]
  by_cases e1 : t = [115, 101, 116, 32, 101, 97, 99, 104]
  · rw [if_pos e1, if_pos e1]
    rfl
  rw [if_neg e1, if_neg e1, w1]
  rw [bulletinref35_Of.l1, if_pos (by decide), wd2]
  simp only [Option.bind_some]
  rw [if_pos (by rw [str_size]; decide), show (⟨#[106, 111, 105, 110, 32]⟩ : ByteArray) = str [106, 111, 105, 110, 32] from rfl, show (⟨#[115, 117, 98, 115, 99, 114, 105, 98, 101, 32]⟩ : ByteArray) = str [115, 117, 98, 115, 99, 114, 105, 98, 101, 32] from rfl, str_app, str_app, toList_str, toList_str, toList_str]
  simp only [List.cons_append, List.nil_append]
  by_cases j2 : t = [106, 111, 105, 110, 32, 100, 105, 103, 101, 115, 116]
  · rw [if_pos j2, if_pos (Or.inl j2), bulletinref35_Of.j5, if_pos rfl]
    rfl
  rw [if_neg j2, if_pos (by rw [str_size]; decide), bulletinref35_Of.j5]
  by_cases s2 : t = [115, 117, 98, 115, 99, 114, 105, 98, 101, 32, 100, 105, 103, 101, 115, 116]
  · rw [if_pos (by rw [s2]; rfl), if_pos (Or.inr s2)]
    rfl
  have q2 : ¬ (t = [106, 111, 105, 110, 32, 100, 105, 103, 101, 115, 116] ∨ t = [115, 117, 98, 115, 99, 114, 105, 98, 101, 32, 100, 105, 103, 101, 115, 116]) := fun h => h.elim j2 s2
  rw [if_neg (by simpa using s2), if_neg q2, if_pos (by rw [str_size]; decide), show (⟨#[115, 101, 116, 32]⟩ : ByteArray) = str [115, 101, 116, 32] from rfl, str_app, toList_str, toList_str]
  simp only [List.cons_append, List.nil_append]
  by_cases e2 : t = [115, 101, 116, 32, 100, 105, 103, 101, 115, 116]
  · rw [if_pos e2, if_pos e2]
    rfl
  rw [if_neg e2, if_neg e2, w2]
  rw [bulletinref35_Of.l1, if_pos (by decide), wd3]
  simp only [Option.bind_some]
  rw [if_pos (by rw [str_size]; decide), show (⟨#[106, 111, 105, 110, 32]⟩ : ByteArray) = str [106, 111, 105, 110, 32] from rfl, show (⟨#[115, 117, 98, 115, 99, 114, 105, 98, 101, 32]⟩ : ByteArray) = str [115, 117, 98, 115, 99, 114, 105, 98, 101, 32] from rfl, str_app, str_app, toList_str, toList_str, toList_str]
  simp only [List.cons_append, List.nil_append]
  by_cases j3 : t = [106, 111, 105, 110, 32, 115, 105, 108, 101, 110, 116]
  · rw [if_pos j3, if_pos (Or.inl j3), bulletinref35_Of.j5, if_pos rfl]
    rfl
  rw [if_neg j3, if_pos (by rw [str_size]; decide), bulletinref35_Of.j5]
  by_cases s3 : t = [115, 117, 98, 115, 99, 114, 105, 98, 101, 32, 115, 105, 108, 101, 110, 116]
  · rw [if_pos (by rw [s3]; rfl), if_pos (Or.inr s3)]
    rfl
  have q3 : ¬ (t = [106, 111, 105, 110, 32, 115, 105, 108, 101, 110, 116] ∨ t = [115, 117, 98, 115, 99, 114, 105, 98, 101, 32, 115, 105, 108, 101, 110, 116]) := fun h => h.elim j3 s3
  rw [if_neg (by simpa using s3), if_neg q3, if_pos (by rw [str_size]; decide), show (⟨#[115, 101, 116, 32]⟩ : ByteArray) = str [115, 101, 116, 32] from rfl, str_app, toList_str, toList_str]
  simp only [List.cons_append, List.nil_append]
  by_cases e3 : t = [115, 101, 116, 32, 115, 105, 108, 101, 110, 116]
  · rw [if_pos e3, if_pos e3]
    rfl
  rw [if_neg e3, if_neg e3, w3]
  rw [bulletinref35_Of.l1, if_neg (by decide), hc]
  rfl
theorem of_chain (t : Bytes) (ht : t.length ≤ 100000000) (k : Nat) (hk : t.length + 70 < k) :
    (if (str t).toList = [104, 101, 108, 112] then bulletinref35_Of.j1 k (str t) true else bulletinref35_Of.j1 k (str t) ((str t).toList == [105, 110, 102, 111])) = some (cmdT t) := by
  obtain ⟨k, rfl⟩ : ∃ m, k = m + 1 + 1 + 1 := ⟨k - 3, by omega⟩
  rw [toList_str]
  have hl := of_l1 t ht k (by omega)
  by_cases a1 : t = [104, 101, 108, 112]
  · rw [if_pos a1, bulletinref35_Of.j1, if_pos rfl]
    unfold cmdT
    rw [if_pos (Or.inl a1)]
    rfl
  rw [if_neg a1, bulletinref35_Of.j1]
  by_cases a2 : t = [105, 110, 102, 111]
  · rw [if_pos (by rw [a2]; rfl)]
    unfold cmdT
    rw [if_pos (Or.inr a2)]
    rfl
  have h1 : ¬ (t = [104, 101, 108, 112] ∨ t = [105, 110, 102, 111]) := fun h => h.elim a1 a2
  rw [if_neg (by simpa using a2), toList_str]
  by_cases b1 : t = [106, 111, 105, 110]
  · rw [if_pos b1, bulletinref35_Of.j2, if_pos rfl]
    unfold cmdT
    rw [if_neg h1, if_pos (Or.inl b1)]
    rfl
  rw [if_neg b1, bulletinref35_Of.j2]
  by_cases b2 : t = [115, 117, 98, 115, 99, 114, 105, 98, 101]
  · rw [if_pos (by rw [b2]; rfl)]
    unfold cmdT
    rw [if_neg h1, if_pos (Or.inr b2)]
    rfl
  have h2 : ¬ (t = [106, 111, 105, 110] ∨ t = [115, 117, 98, 115, 99, 114, 105, 98, 101]) := fun h => h.elim b1 b2
  rw [if_neg (by simpa using b2), toList_str]
  by_cases c1 : t = [108, 101, 97, 118, 101]
  · rw [if_pos c1, bulletinref35_Of.j3, if_pos rfl]
    unfold cmdT
    rw [if_neg h1, if_neg h2, if_pos (Or.inl c1)]
    rfl
  rw [if_neg c1]
  by_cases c2 : t = [117, 110, 115, 117, 98, 115, 99, 114, 105, 98, 101]
  · rw [if_pos c2, bulletinref35_Of.j3, if_pos rfl]
    unfold cmdT
    rw [if_neg h1, if_neg h2, if_pos (Or.inr (Or.inl c2))]
    rfl
  rw [if_neg c2, bulletinref35_Of.j3]
  by_cases c3 : t = [114, 101, 109, 111, 118, 101]
  · rw [if_pos (by rw [c3]; rfl)]
    unfold cmdT
    rw [if_neg h1, if_neg h2, if_pos (Or.inr (Or.inr c3))]
    rfl
  rw [if_neg (by simpa using c3)]
  exact hl h1 h2 (fun h => h.elim c1 (fun h => h.elim c2 c3))
theorem rdOf_drop {l : List Bytes} {i : Nat} {x : Bytes} {r : List Bytes} (h : l.drop i = x :: r) : rdOf ByteArray.empty (l.map str) (i : Int) = str x := by
  obtain ⟨_, h2, _⟩ := drop_cons' h
  unfold rdOf
  rw [List.getD_eq_getElem?_getD, Int.toNat_natCast, List.getElem?_map, h2]
  rfl
theorem of_rounds (l : List Bytes) (hl : l.length ≤ 100000000) : ∀ (t : List Bytes) (k i : Nat) (acc : Bytes), 1 ≤ i → l.drop i = t → (acc ++ Lib.joinTail [32] t).length ≤ 100000000 → t.length + (acc ++ Lib.joinTail [32] t).length + 80 < k →
    bulletinref35_Of.l0 k (l.map str) (str acc) (i : Int) = some (cmdT (acc ++ Lib.joinTail [32] t)) := by
  intro t
  induction t with
  | nil =>
    intro k i acc h1 h hs hk
    obtain ⟨k, rfl⟩ : ∃ m, k = m + 1 := ⟨k - 1, by omega⟩
    have hi : l.length ≤ i := by
      have := congrArg List.length h
      simp at this
      omega
    rw [bulletinref35_Of.l0, if_neg (by simp; omega)]
    simp only [Lib.joinTail, List.map_nil, List.flatten_nil, List.append_nil] at hs hk ⊢
    exact of_chain acc hs k (by simp at hk; omega)
  | cons x r ih =>
    intro k i acc h1 h hs hk
    obtain ⟨k, rfl⟩ : ∃ m, k = m + 1 := ⟨k - 1, by omega⟩
    obtain ⟨g1, g2, g3⟩ := drop_cons' h
    have e : acc ++ Lib.joinTail [32] (x :: r) = acc ++ [32] ++ x ++ Lib.joinTail [32] r := by simp [Lib.joinTail]
    rw [e] at hs hk ⊢
    have hb : acc.length + 1 + x.length ≤ 100000000 := by simp at hs; omega
    rw [bulletinref35_Of.l0, if_pos (by simp; omega), if_pos (by omega), if_pos (by rw [str_size]; omega), if_pos (by omega), rdOf_drop h, show (⟨#[32]⟩ : ByteArray) = str [32] from rfl, str_app, str_app, if_pos (by rw [str_size, str_size]; simp; omega), wrap_succ i (by omega)]
    exact ih k (i + 1) _ (by omega) g3 hs (by simp at hk ⊢; omega)
theorem ref_of (l : List Bytes) (hl : l.length ≤ 100000000) (hs : (jn l).length ≤ 100000000) (k : Nat) (hk : l.length + (jn l).length + 90 < k) : bulletinref35_Of.f k (l.map str) = some (cmdT (jn l)) := by
  unfold bulletinref35_Of.f
  obtain ⟨k, rfl⟩ : ∃ m, k = m + 1 := ⟨k - 1, by omega⟩
  cases l with
  | nil =>
    rw [bulletinref35_Of.l0, if_neg (by simp)]
    exact of_chain [] (by simp) k (by simp at hk ⊢ <;> omega)
  | cons x r =>
    have e : jn (x :: r) = x ++ Lib.joinTail [32] r := Lib.join_cons x r [32]
    rw [e] at hs hk ⊢
    have hd : (x :: r).drop 0 = x :: r := rfl
    have hx := rdOf_drop (l := x :: r) (i := 0) hd
    rw [bulletinref35_Of.l0, if_pos (by simp <;> omega), if_neg (by decide), if_pos (by decide)]
    rw [show (0 : Int) = ((0 : Nat) : Int) from rfl, hx, show (⟨#[]⟩ : ByteArray) = str [] from rfl, str_app, if_pos (by rw [str_size, str_size]; simp at hs ⊢ <;> omega), wrap_succ 0 (by omega)]
    exact of_rounds (x :: r) hl r k 1 ([] ++ x) (Nat.le_refl _) rfl hs (by simp at hk ⊢; omega)

/-- words are read again of their text. -/
def okW (x : Bytes) : Prop := x ≠ [] ∧ ∀ c ∈ x, isBl c = false
theorem splitW_word : ∀ (x w r : Bytes), (∀ c ∈ x, isBl c = false) → splitW (x ++ r) w = splitW r (w ++ x) := by
  intro x
  induction x with
  | nil => intro w r _; simp
  | cons c x ih =>
    intro w r h
    rw [List.cons_append, splitW, if_neg (by rw [h c (by simp)]; decide), ih (w ++ [c]) r (fun d hd => h d (by simp [hd]))]
    simp
theorem splitW_tail : ∀ (l : List Bytes) (w : Bytes), w ≠ [] → (∀ x ∈ l, okW x) → splitW (Lib.joinTail [32] l) w = w :: l := by
  intro l
  induction l with
  | nil => intro w hw _; simp [Lib.joinTail, splitW, hw]
  | cons x l ih =>
    intro w hw h
    have e : Lib.joinTail [32] (x :: l) = 32 :: (x ++ Lib.joinTail [32] l) := by simp [Lib.joinTail]
    have hx := h x (by simp)
    rw [e, splitW, if_pos (by decide), if_neg hw, splitW_word x [] _ hx.2, List.nil_append, ih x hx.1 (fun y hy => h y (by simp [hy]))]
theorem splitW_jn (l : List Bytes) (h : ∀ x ∈ l, okW x) : splitW (jn l) [] = l := by
  cases l with
  | nil => rfl
  | cons x r =>
    have e : jn (x :: r) = x ++ Lib.joinTail [32] r := Lib.join_cons x r [32]
    have hx := h x (by simp)
    rw [e, splitW_word x [] _ hx.2, List.nil_append, splitW_tail r x hx.1 (fun y hy => h y (by simp [hy]))]
theorem jn_iff (l m : List Bytes) (t : Bytes) (h : ∀ x ∈ l, okW x) (hm : splitW t [] = m) (ht : jn m = t) : (jn l = t) = (l = m) :=
  propext ⟨fun e => by rw [← splitW_jn l h, e, hm], fun e => by rw [e, ht]⟩
theorem cmdT_jn (l : List Bytes) (h : ∀ x ∈ l, okW x) : cmdT (jn l) = cmd l := by
  unfold cmdT
  simp only [jn_iff l [[104, 101, 108, 112]] [104, 101, 108, 112] h (by decide) (by decide), jn_iff l [[105, 110, 102, 111]] [105, 110, 102, 111] h (by decide) (by decide), jn_iff l [[106, 111, 105, 110]] [106, 111, 105, 110] h (by decide) (by decide), jn_iff l [[115, 117, 98, 115, 99, 114, 105, 98, 101]] [115, 117, 98, 115, 99, 114, 105, 98, 101] h (by decide) (by decide), jn_iff l [[108, 101, 97, 118, 101]] [108, 101, 97, 118, 101] h (by decide) (by decide), jn_iff l [[117, 110, 115, 117, 98, 115, 99, 114, 105, 98, 101]] [117, 110, 115, 117, 98, 115, 99, 114, 105, 98, 101] h (by decide) (by decide), jn_iff l [[114, 101, 109, 111, 118, 101]] [114, 101, 109, 111, 118, 101] h (by decide) (by decide), jn_iff l [[106, 111, 105, 110], [101, 97, 99, 104]] [106, 111, 105, 110, 32, 101, 97, 99, 104] h (by decide) (by decide), jn_iff l [[115, 117, 98, 115, 99, 114, 105, 98, 101], [101, 97, 99, 104]] [115, 117, 98, 115, 99, 114, 105, 98, 101, 32, 101, 97, 99, 104] h (by decide) (by decide), jn_iff l [[115, 101, 116], [101, 97, 99, 104]] [115, 101, 116, 32, 101, 97, 99, 104] h (by decide) (by decide), jn_iff l [[106, 111, 105, 110], [100, 105, 103, 101, 115, 116]] [106, 111, 105, 110, 32, 100, 105, 103, 101, 115, 116] h (by decide) (by decide), jn_iff l [[115, 117, 98, 115, 99, 114, 105, 98, 101], [100, 105, 103, 101, 115, 116]] [115, 117, 98, 115, 99, 114, 105, 98, 101, 32, 100, 105, 103, 101, 115, 116] h (by decide) (by decide), jn_iff l [[115, 101, 116], [100, 105, 103, 101, 115, 116]] [115, 101, 116, 32, 100, 105, 103, 101, 115, 116] h (by decide) (by decide), jn_iff l [[106, 111, 105, 110], [115, 105, 108, 101, 110, 116]] [106, 111, 105, 110, 32, 115, 105, 108, 101, 110, 116] h (by decide) (by decide), jn_iff l [[115, 117, 98, 115, 99, 114, 105, 98, 101], [115, 105, 108, 101, 110, 116]] [115, 117, 98, 115, 99, 114, 105, 98, 101, 32, 115, 105, 108, 101, 110, 116] h (by decide) (by decide), jn_iff l [[115, 101, 116], [115, 105, 108, 101, 110, 116]] [115, 101, 116, 32, 115, 105, 108, 101, 110, 116] h (by decide) (by decide)]
  match l with
  | [] => simp [cmd]
  | [a] =>
    have e : jn [a] = a := Lib.join_one a [32]
    simp only [cmd, List.cons.injEq, and_true, reduceCtorEq, and_false, or_self, if_false, e]
  | [a, b] =>
    simp only [cmd, List.cons.injEq, and_true, reduceCtorEq, and_false, or_self, if_false]
    unfold wordN
    by_cases b1 : b = [101, 97, 99, 104]
    · subst b1
      simp
    by_cases b2 : b = [100, 105, 103, 101, 115, 116]
    · subst b2
      simp
    by_cases b3 : b = [115, 105, 108, 101, 110, 116]
    · subst b3
      simp
    simp [b1, b2, b3]
  | a :: b :: c :: r =>
    simp [cmd]

/-! the program's, of words. -/
theorem rw1 : roster_Word.f 1 = some (str [101, 97, 99, 104]) := by rfl
theorem rw2 : roster_Word.f 2 = some (str [100, 105, 103, 101, 115, 116]) := by rfl
theorem rw3 : roster_Word.f 3 = some (str [115, 105, 108, 101, 110, 116]) := by rfl
theorem mode_is (b : Bytes) (k : Nat) (hk : 4 < k) : roster_Mode.f k (str b) = some (wordN b) := by
  obtain ⟨k, rfl⟩ : ∃ m, k = m + 1 + 1 + 1 + 1 := ⟨k - 4, by omega⟩
  have w1 : wrap64 (1 + 1) = 2 := by unfold wrap64; omega
  have w2 : wrap64 (2 + 1) = 3 := by unfold wrap64; omega
  have w3 : wrap64 (3 + 1) = 4 := by unfold wrap64; omega
  unfold roster_Mode.f wordN
  rw [roster_Mode.l0, if_pos (by decide), rw1]
  simp only [Option.bind_some, toList_str]
  by_cases a : b = [101, 97, 99, 104]
  · rw [if_pos a.symm, if_pos a]
  rw [if_neg (fun h => a h.symm), if_neg a, w1, roster_Mode.l0, if_pos (by decide), rw2]
  simp only [Option.bind_some, toList_str]
  by_cases a2 : b = [100, 105, 103, 101, 115, 116]
  · rw [if_pos a2.symm, if_pos a2]
  rw [if_neg (fun h => a2 h.symm), if_neg a2, w2, roster_Mode.l0, if_pos (by decide), rw3]
  simp only [Option.bind_some, toList_str]
  by_cases a3 : b = [115, 105, 108, 101, 110, 116]
  · rw [if_pos a3.symm, if_pos a3]
  rw [if_neg (fun h => a3 h.symm), if_neg a3, w3, roster_Mode.l0, if_neg (by decide)]
theorem map_data (l : List Bytes) : (l.map str).map (fun x => x.data.toList) = l := by
  rw [List.map_map]
  have : ((fun x : ByteArray => x.data.toList) ∘ str) = id := funext fun x => str_data x
  rw [this, List.map_id]
theorem unknown_is (l : List Bytes) (hl : l.length ≤ 100000000) (hs : (jn l).length ≤ 100000000) : order_unknown.f (l.map str) = some (unk (jn l)) := by
  have e : join (l.map str) (⟨#[32]⟩ : ByteArray) = str (jn l) := by
    unfold join jn
    rw [map_data]
  unfold order_unknown.f strings_Join.f
  rw [if_pos (by simp; omega), e, if_pos (by rw [str_size]; omega)]
  simp only [Option.bind_some]
  unfold glyph_Clip.f
  rw [if_pos (by rw [str_size]; omega), if_pos (by decide)]
  rfl
theorem rdOf_0 (a : Bytes) (r : List Bytes) : rdOf ByteArray.empty ((a :: r).map str) 0 = str a := rfl
theorem rdOf_1 (a b : Bytes) (r : List Bytes) : rdOf ByteArray.empty ((a :: b :: r).map str) 1 = str b := rfl
theorem eta3 (x : Int × Int × ByteArray) : (x.1, x.2.1, x.2.2) = x := rfl
def joinC : List Bytes → Int × Int × ByteArray
  | [a] => (2, 1, str [])
  | [a, b] => if wordN b ≠ 0 then (2, wordN b, str []) else unk (jn [a, b])
  | l => unk (jn l)
theorem join_is (l : List Bytes) (h0 : l ≠ []) (hl : l.length ≤ 100000000) (hs : (jn l).length ≤ 100000000) (k : Nat) (hk : 10 < k) :
    order_join.f k (l.map str) = some (joinC l) := by
  obtain ⟨k, rfl⟩ : ∃ m, k = m + 1 := ⟨k - 1, by omega⟩
  have hu := unknown_is l hl hs
  unfold order_join.f
  match l, h0, hu with
  | [a], _, hu =>
    rw [if_pos (by simp)]
    rfl
  | [a, b], _, hu =>
    rw [if_neg (by simp), if_pos (by simp), if_pos (by simp), rdOf_1, mode_is b _ (by omega)]
    simp only [Option.bind_some]
    by_cases c : wordN b = 0
    · rw [show (wordN b != 0) = false by simp [c], order_join.j0, if_neg (by decide), hu]
      simp only [Option.bind_some, eta3, joinC]
      rw [if_neg (fun h => h c)]
    · rw [show (wordN b != 0) = true by simp [c], order_join.j0, if_pos rfl, if_pos (by simp), rdOf_1, mode_is b _ (by omega)]
      simp only [Option.bind_some, joinC]
      rw [if_pos c]
      rfl
  | a :: b :: c :: r, _, hu =>
    rw [if_neg (by simp; omega), if_neg (by simp; omega), order_join.j0, if_neg (by decide), hu]
    rfl

theorem command_is (l : List Bytes) (hl : l.length ≤ 100000000) (hs : (jn l).length ≤ 100000000) (k : Nat) (hk : 40 < k) :
    order_command.f k (l.map str) = some (cmd l) := by
  obtain ⟨k, rfl⟩ : ∃ m, k = m + 1 + 1 + 1 + 1 := ⟨k - 4, by omega⟩
  have hu := unknown_is l hl hs
  unfold order_command.f
  cases l with
  | nil =>
    rw [if_pos (by simp), hu]
    rfl
  | cons a r =>
    have hj := join_is (a :: r) (by simp) hl hs
    rw [if_neg (by simp <;> omega), if_pos (by simp <;> omega), rdOf_0, toList_str]
    have hone : ((((a :: r).map str).length : Int) == 1) = decide (r = []) := by
      cases r with
      | nil => simp
      | cons b r => simp; omega
    rw [hone]
    have hun : cmd (a :: r) = unk (jn (a :: r)) → ((order_unknown.f ((a :: r).map str)).bind fun x => some (x.1, x.2.1, x.2.2)) = some (cmd (a :: r)) := fun h => by
      rw [hu, h]
      rfl
    -- help, info
    have hA : ∀ m, a = [104, 101, 108, 112] ∨ a = [105, 110, 102, 111] → order_command.j0 (m + 1) ((a :: r).map str) (decide (r = [])) (str a) true = some (cmd (a :: r)) := by
      intro m h
      rw [order_command.j0, if_pos rfl]
      cases r with
      | nil =>
        rw [if_pos (by decide)]
        simp only [cmd]
        rw [if_pos h]
        rfl
      | cons b s =>
        rw [if_neg (by simp)]
        refine hun ?_
        cases s with
        | nil => rcases h with rfl | rfl <;> simp [cmd]
        | cons d s => rfl
    by_cases a1 : a = [104, 101, 108, 112]
    · rw [if_pos a1, show (a == [104, 101, 108, 112]) = true by rw [a1]; rfl]
      exact hA _ (Or.inl a1)
    rw [if_neg a1]
    by_cases a2 : a = [105, 110, 102, 111]
    · rw [show (a == [105, 110, 102, 111]) = true by rw [a2]; rfl]
      exact hA _ (Or.inr a2)
    rw [show (a == [105, 110, 102, 111]) = false by simpa using a2, order_command.j0, if_neg (by decide), toList_str]
    have h1 : ¬ (a = [104, 101, 108, 112] ∨ a = [105, 110, 102, 111]) := fun h => h.elim a1 a2
    -- join, subscribe
    have hB : ∀ m, 20 < m → a = [106, 111, 105, 110] ∨ a = [115, 117, 98, 115, 99, 114, 105, 98, 101] → order_command.j1 (m + 1) ((a :: r).map str) (decide (r = [])) (str a) true = some (cmd (a :: r)) := by
      intro m hm h
      rw [order_command.j1, if_pos rfl, hj m (by omega)]
      simp only [Option.bind_some, eta3]
      cases r with
      | nil =>
        simp only [cmd, joinC]
        rw [if_neg h1, if_pos h]
      | cons b s =>
        cases s with
        | nil =>
          simp only [cmd, joinC]
          by_cases c : wordN b = 0
          · rw [if_neg (fun h => h c), if_neg (fun h => h.2 c), if_neg (fun h => h.2 c)]
          · rw [if_pos c, if_pos ⟨h, c⟩]
        | cons d s => rfl
    by_cases b1 : a = [106, 111, 105, 110]
    · rw [if_pos b1, show (a == [106, 111, 105, 110]) = true by rw [b1]; rfl]
      exact hB _ (by omega) (Or.inl b1)
    rw [if_neg b1]
    by_cases b2 : a = [115, 117, 98, 115, 99, 114, 105, 98, 101]
    · rw [show (a == [115, 117, 98, 115, 99, 114, 105, 98, 101]) = true by rw [b2]; rfl]
      exact hB _ (by omega) (Or.inr b2)
    rw [show (a == [115, 117, 98, 115, 99, 114, 105, 98, 101]) = false by simpa using b2, order_command.j1, if_neg (by decide), toList_str]
    have h2 : ¬ (a = [106, 111, 105, 110] ∨ a = [115, 117, 98, 115, 99, 114, 105, 98, 101]) := fun h => h.elim b1 b2
    -- leave, unsubscribe, remove
    have hC : ∀ m, a = [108, 101, 97, 118, 101] ∨ a = [117, 110, 115, 117, 98, 115, 99, 114, 105, 98, 101] ∨ a = [114, 101, 109, 111, 118, 101] → order_command.j2 (m + 1) ((a :: r).map str) (decide (r = [])) (str a) true = some (cmd (a :: r)) := by
      intro m h
      rw [order_command.j2, if_pos rfl]
      cases r with
      | nil =>
        rw [if_pos (by decide)]
        simp only [cmd]
        rw [if_neg h1, if_neg h2, if_pos h]
        rfl
      | cons b s =>
        rw [if_neg (by simp)]
        refine hun ?_
        cases s with
        | nil => rcases h with rfl | rfl | rfl <;> simp [cmd]
        | cons d s => rfl
    by_cases c1 : a = [108, 101, 97, 118, 101]
    · rw [if_pos c1, show (a == [108, 101, 97, 118, 101]) = true by rw [c1]; rfl]
      exact hC _ (Or.inl c1)
    rw [if_neg c1]
    by_cases c2 : a = [117, 110, 115, 117, 98, 115, 99, 114, 105, 98, 101]
    · rw [if_pos c2, show (a == [117, 110, 115, 117, 98, 115, 99, 114, 105, 98, 101]) = true by rw [c2]; rfl]
      exact hC _ (Or.inr (Or.inl c2))
    rw [if_neg c2]
    by_cases c3 : a = [114, 101, 109, 111, 118, 101]
    · rw [show (a == [114, 101, 109, 111, 118, 101]) = true by rw [c3]; rfl]
      exact hC _ (Or.inr (Or.inr c3))
    rw [show (a == [114, 101, 109, 111, 118, 101]) = false by simpa using c3, order_command.j2, if_neg (by decide), toList_str]
    have h3 : ¬ (a = [108, 101, 97, 118, 101] ∨ a = [117, 110, 115, 117, 98, 115, 99, 114, 105, 98, 101] ∨ a = [114, 101, 109, 111, 118, 101]) := fun h => h.elim c1 (fun h => h.elim c2 c3)
    by_cases d : a = [115, 101, 116]
    · rw [if_pos d]
      cases r with
      | nil =>
        rw [if_neg (by simp), order_command.j3, if_neg (by decide)]
        refine hun ?_
        simp only [cmd]
        rw [if_neg h1, if_neg h2, if_neg h3]
        have e : jn [a] = a := Lib.join_one a [32]
        rw [e]
      | cons b s =>
        cases s with
        | nil =>
          rw [if_pos (by simp), if_pos (by simp), rdOf_1, mode_is b _ (by omega)]
          simp only [Option.bind_some]
          by_cases c : wordN b = 0
          · rw [show (wordN b != 0) = false by simp [c], order_command.j3, if_neg (by decide)]
            refine hun ?_
            simp only [cmd]
            rw [if_neg (fun h => h.2 c), if_neg (fun h => h.2 c)]
          · rw [show (wordN b != 0) = true by simp [c], order_command.j3, if_pos rfl, if_pos (by simp), rdOf_1, mode_is b _ (by omega)]
            simp only [Option.bind_some, cmd]
            rw [if_neg (fun h => h2 h.1), if_pos ⟨d, c⟩]
            rfl
        | cons e s =>
          rw [if_neg (by simp; omega), order_command.j3, if_neg (by decide)]
          exact hun rfl
    · rw [if_neg d]
      refine hun ?_
      cases r with
      | nil =>
        simp only [cmd]
        rw [if_neg h1, if_neg h2, if_neg h3]
        have e : jn [a] = a := Lib.join_one a [32]
        rw [e]
      | cons b s =>
        cases s with
        | nil =>
          simp only [cmd]
          rw [if_neg (fun h => h2 h.1), if_neg (fun h => d h.1)]
        | cons e s => rfl
end Go.Proofs.Ytlomcmdbbnbciaa.Pl
/- The statement OrderLines, as a statement over numbers and lists alone: for every line and every command, the printed law answers true. -/
set_option linter.unusedVariables false
set_option linter.unusedSimpArgs false
namespace Go.Proofs.Ytlomcmdbbnbciaa.Pl
open Go.RowKit Go.Proofs.YtlomcmdbbnbciaaW.PrintWords Go.Proofs.Ytlomcmdbbnbciaa.Fn

/-- a line's words. -/
def lineW (s : ByteArray) : List Bytes := splitW (fold (clean s)) []
theorem sum_tail (l : List Bytes) : (Lib.joinTail [32] l).length = (l.map List.length).sum + l.length := by
  induction l with
  | nil => rfl
  | cons x l ih =>
    have e : Lib.joinTail [32] (x :: l) = 32 :: (x ++ Lib.joinTail [32] l) := by simp [Lib.joinTail]
    rw [e]
    simp [ih]
    omega
theorem jn_length (l : List Bytes) : (jn l).length ≤ (l.map List.length).sum + l.length := by
  cases l with
  | nil => simp [jn, Lib.join_nil]
  | cons x r =>
    have e : jn (x :: r) = x ++ Lib.joinTail [32] r := Lib.join_cons x r [32]
    rw [e, List.length_append, sum_tail]
    simp
    omega
theorem lineW_size (s : ByteArray) : (lineW s).length ≤ 4 * s.size + 1 ∧ (jn (lineW s)).length ≤ 4 * s.size + 1 := by
  have h1 := splitW_total (fold (clean s)) []
  have h2 := jn_length (lineW s)
  have h3 := clean_length s
  have h4 := fold_length (clean s)
  unfold lineW at h2 ⊢
  simp at h1
  omega
theorem lineW_ok (s : ByteArray) : ∀ x ∈ lineW s, okW x := splitW_words _ [] (by simp)
theorem words_is (s : ByteArray) (hs : s.size ≤ 1000000) : order_words.f s = some ((lineW s).map str) := by
  have h3 := clean_length s
  have h4 := fold_length (clean s)
  unfold order_words.f glyph_Clean.f
  rw [if_pos (by omega)]
  simp only [Option.bind_some]
  unfold glyph_Fold.f
  rw [if_pos (by rw [str_size]; omega)]
  simp only [Option.bind_some]
  unfold glyph_Words.f
  rw [if_pos (by rw [str_size, str_data]; omega)]
  simp only [Option.bind_some]
  rw [words_split, bs_str, str_data]
  rfl
theorem line_is (s : ByteArray) (hs : s.size ≤ 1000000) (k : Nat) (hk : 40 < k) : order_Line.f k s = some (cmd (lineW s)) := by
  have h := lineW_size s
  unfold order_Line.f
  rw [words_is s hs]
  simp only [Option.bind_some]
  rw [command_is _ (by omega) (by omega) k hk]
  rfl
theorem refwords_is (s : ByteArray) (hs : s.size ≤ 1000000) (k : Nat) (hk : 20000000 < k) : bulletinref35_Words.f k s = some ((lineW s).map str) := by
  have h3 := clean_length s
  have h4 := fold_length (clean s)
  unfold bulletinref35_Words.f
  rw [ref_clean s (by omega) k (by omega)]
  simp only [Option.bind_some]
  rw [ref_fold _ (by rw [str_size]; omega) k (by rw [str_size]; omega), bs_str]
  simp only [Option.bind_some]
  rw [ref_words _ (by rw [str_size]; omega) k (by rw [str_size]; omega), bs_str]
  rfl
theorem refline_is (s : ByteArray) (hs : s.size ≤ 1000000) (k : Nat) (hk : 20000000 < k) : bulletinref35_Of.f k ((lineW s).map str) = some (cmd (lineW s)) := by
  have h := lineW_size s
  rw [ref_of _ (by omega) (by omega) k (by omega), cmdT_jn _ (lineW_ok s)]
theorem word_same (n : Int) : roster_Word.f n = bulletinref33_Word.f n := by
  by_cases a1 : n = 1
  · subst a1; rfl
  by_cases a2 : n = 2
  · subst a2; rfl
  by_cases a3 : n = 3
  · subst a3; rfl
  unfold roster_Word.f bulletinref33_Word.f
  rw [if_neg a1, if_neg a2, if_neg a3]
  simp only [Option.bind_some]
  by_cases b : n < 1
  · rw [if_pos b]
  · rw [if_neg b, if_pos (by omega)]
theorem word_some (n : Int) : ∃ b : Bytes, roster_Word.f n = some (str b) ∧ b.length ≤ 6 := by
  unfold roster_Word.f
  split
  · exact ⟨_, rfl, by decide⟩
  split
  · exact ⟨_, rfl, by decide⟩
  split
  · exact ⟨_, rfl, by decide⟩
  · exact ⟨[], rfl, by decide⟩
def showC (o m : Int) (t : ByteArray) (b : Bytes) : ByteArray :=
  if o = 1 then str [104, 101, 108, 112] else if o = 3 then str [108, 101, 97, 118, 101] else if o = 2 ∧ b ≠ [] then str [106, 111, 105, 110, 32] ++ str b
  else if o = 4 ∧ b ≠ [] then str [115, 101, 116, 32] ++ str b else t
theorem show_is (o m : Int) (t : ByteArray) (b : Bytes) (hb : roster_Word.f m = some (str b)) (hl : b.length ≤ 6) (k : Nat) (hk : 1 < k) : order_Show.f k o m t = some (showC o m t b) := by
  obtain ⟨k, rfl⟩ : ∃ m, k = m + 1 := ⟨k - 1, by omega⟩
  unfold order_Show.f showC
  rw [hb]
  simp only [Option.bind_some, order_Show.j0, toList_str]
  have hz : (str b).size = b.length := str_size b
  by_cases a : o = 1
  · rw [if_pos a, if_pos a]; rfl
  rw [if_neg a, if_neg a]
  by_cases a3 : o = 3
  · rw [if_pos a3, if_pos a3]; rfl
  rw [if_neg a3, if_neg a3]
  by_cases a2 : o = 2
  · rw [if_pos a2]
    by_cases c : b = []
    · rw [if_neg (by simp [c]), if_neg (by omega), if_neg (fun h => h.2 c), if_neg (fun h => h.2 c)]
    · rw [if_pos (by simp [c]), if_pos (by omega), if_pos ⟨a2, c⟩]; rfl
  · have n2 : ¬ (o = 2 ∧ b ≠ []) := fun h => a2 h.1
    rw [if_neg a2, if_neg (by decide), if_neg n2]
    by_cases a4 : o = 4
    · rw [if_pos a4]
      by_cases c : b = []
      · have n4 : ¬ (o = 4 ∧ b ≠ []) := fun h => h.2 c
        rw [if_pos c, if_neg n4]
      · rw [if_neg c, if_pos (by omega), if_pos ⟨a4, c⟩]; rfl
    · have n4 : ¬ (o = 4 ∧ b ≠ []) := fun h => a4 h.1
      rw [if_neg a4, if_neg n4]
theorem refshow_is (o m : Int) (t : ByteArray) (b : Bytes) (hb : roster_Word.f m = some (str b)) (hl : b.length ≤ 6) (k : Nat) (hk : 1 < k) : bulletinref35_Show.f k o m t = some (showC o m t b) := by
  rw [word_same] at hb
  obtain ⟨k, rfl⟩ : ∃ m, k = m + 1 := ⟨k - 1, by omega⟩
  unfold bulletinref35_Show.f showC
  rw [hb]
  simp only [Option.bind_some, bulletinref35_Show.j0, toList_str]
  have hz : (str b).size = b.length := str_size b
  by_cases a : o = 1
  · rw [if_pos a, if_pos a]; rfl
  rw [if_neg a, if_neg a]
  by_cases a3 : o = 3
  · rw [if_pos a3, if_pos a3]; rfl
  rw [if_neg a3, if_neg a3]
  by_cases a2 : o = 2
  · rw [if_pos a2]
    by_cases c : b = []
    · rw [if_neg (by simp [c]), if_neg (by omega), if_neg (fun h => h.2 c), if_neg (fun h => h.2 c)]
    · rw [if_pos (by simp [c]), if_pos (by omega), if_pos ⟨a2, c⟩]; rfl
  · have n2 : ¬ (o = 2 ∧ b ≠ []) := fun h => a2 h.1
    rw [if_neg a2, if_neg (by decide), if_neg n2]
    by_cases a4 : o = 4
    · rw [if_pos a4]
      by_cases c : b = []
      · have n4 : ¬ (o = 4 ∧ b ≠ []) := fun h => h.2 c
        rw [if_pos c, if_neg n4]
      · rw [if_neg c, if_pos (by omega), if_pos ⟨a4, c⟩]; rfl
    · have n4 : ¬ (o = 4 ∧ b ≠ []) := fun h => a4 h.1
      rw [if_neg a4, if_neg n4]
set_option maxRecDepth 100000 in
theorem works1 : cmd (lineW (⟨#[32, 83, 117, 98, 115, 99, 114, 105, 98, 101, 32, 32, 100, 105, 103, 101, 115, 116]⟩ : ByteArray)) = (2, 2, str []) := by decide +kernel
set_option maxRecDepth 100000 in
theorem works2 : (cmd (lineW (⟨#[119, 104, 97, 116]⟩ : ByteArray))).1 = 5 := by decide +kernel
theorem works_is (k : Nat) (hk : 40 < k) : bulletinlaw35_works.f k = some true := by
  unfold bulletinlaw35_works.f
  rw [line_is _ (by decide) k hk, works1]
  simp only [Option.bind_some, if_true]
  rw [toList_str, if_pos rfl, show_is 2 2 (str []) _ rw2 (by decide) k (by omega)]
  simp only [Option.bind_some]
  rw [show showC 2 2 (str []) [100, 105, 103, 101, 115, 116] = str [106, 111, 105, 110, 32, 100, 105, 103, 101, 115, 116] from rfl, toList_str, if_pos rfl, line_is _ (by decide) k hk]
  simp only [Option.bind_some]
  rw [works2]
  rfl
theorem OrderLines (a0 : ByteArray) (a1_0 a1_1 : Int) (a1_2 : ByteArray) : ∃ k, bulletinlaw35_OrderLines.f k a0 a1_0 a1_1 a1_2 = some true := by
  refine ⟨20000001 + 1, ?_⟩
  generalize hk : (20000001 : Nat) = k
  have hw := works_is k (by omega)
  have yes : ∀ b : Bool, b = true → bulletinlaw35_OrderLines.j0 (k + 1) a0 b a1_0 a1_1 a1_2 = some true := by
    rintro b rfl
    rw [bulletinlaw35_OrderLines.j0, if_pos rfl, hw]
    rfl
  unfold bulletinlaw35_OrderLines.f
  by_cases h1 : (a0.size : Int) > 500
  · rw [if_pos h1]
    exact yes _ rfl
  rw [if_neg h1]
  by_cases h2 : (a1_2.size : Int) > 500
  · exact yes _ (by simpa using h2)
  rw [show decide ((a1_2.size : Int) > 500) = false by simpa using h2, bulletinlaw35_OrderLines.j0, if_neg (by decide), line_is a0 (by omega) k (by omega)]
  simp only [Option.bind_some]
  rw [refwords_is a0 (by omega) k (by omega)]
  simp only [Option.bind_some]
  rw [refline_is a0 (by omega) k (by omega)]
  obtain ⟨b, hb, hl⟩ := word_some a1_1
  simp only [Option.bind_some, bulletinlaw35_To.f]
  rw [show_is a1_0 a1_1 a1_2 b hb hl k (by omega), refshow_is a1_0 a1_1 a1_2 b hb hl k (by omega), hw]
  simp
end Go.Proofs.Ytlomcmdbbnbciaa.Pl
-- the row of the law OrderLines, out of its pure statement and its walk
namespace Go.Proofs.Ytlomcmdbbnbciaa.orderLines
open Go.ChangeShapes Go.WideShapes Go.ChangeAt Go.RowKit Go.Joins
open Go.ChangeMaps (open_string shut_string)
theorem own : ownKnob Try.prog.godebug = none := by kernel_rfl
theorem laidOut : laidOutB Try.prog = true := by kernel_rfl
set_option maxRecDepth 100000 in
theorem lifted (os : Os) (started : os.Started) (H : Type) (enc : TypeId × Value → H) :
    ReturnsInHanded {} Try.checked os 3 .any (Rows.orderLinesSpec.pre6 enc Try.prog Try.f3 Rows.orderLinesRow.domain false) (Rows.orderLinesSpec.post enc Try.prog Try.f3 false true false false) := by
  refine returnsInHanded_of_change_sized (C := Try.checked) own started (by kernel_rfl) Try.func3
    (ChangeSpec.witness6 (enc := enc) (C := Try.checked) false ⟨#[], #[.string ByteArray.empty, .agg #[.int .i64 0, .int .i64 0, .string ByteArray.empty]], []⟩ 8 (by kernel_rfl) (by kernel_rfl) (by kernel_rfl) (by kernel_rfl)) ?_
  intro W base args ds gs before hval0 hW _ _ _
  have hval : ∀ (j : Nat) t v, Try.f3.params[j]? = some t → args[j]? = some v → Value.okWide Try.prog W .any base t v := hval0
  have hW' := hW
  obtain ⟨p, q, hA0, hV, rfl, _, _⟩ := hW
  have hA : DataW.TrodAll enc Try.prog W 0 (fun _ => true) true Try.f3.params.toList args.toList ds p := hA0
  rw [Try.params3] at hA hval
  obtain ⟨v0, vs0, d0, ds0, p0, q0, hargs, rfl, rfl, h0, r0⟩ := trodAll_cons hA
  obtain ⟨v1, vs1, d1, ds1, p1, q1, rfl, rfl, rfl, h1, r1⟩ := trodAll_cons r0
  obtain ⟨rfl, rfl, rfl⟩ := trodAll_nil r1
  obtain rfl : args = #[v0, v1] := by cases args; simp_all
  obtain ⟨rfl, rfl⟩ := trodVars_none hV
  have k0 := h0
  have lt0 : ∀ x ∈ p0, x.block < W.heap.size := by obtain ⟨m, hm⟩ := k0; exact DataW.trod_lt m _ _ _ hm
  obtain ⟨a0, rfl, _, _, _⟩ := open_string Try.underlying9 (hval 0 9 v0 rfl rfl) h0
  have k1 := h1
  have lt1 : ∀ x ∈ p1, x.block < W.heap.size := by obtain ⟨m, hm⟩ := k1; exact DataW.trod_lt m _ _ _ hm
  obtain ⟨c1_0, c1_1, c1_2, y1_0, y1_1, y1_2, m1, rfl, _, _, g1_0, g1_1, g1_2⟩ := open_agg3 Try.underlying23 (by kernel_rfl) (by kernel_rfl) (hval 1 23 v1 rfl rfl) h1
  obtain ⟨a1_0, e1_0, _, _⟩ := DataW.trod_int Try.underlying3 g1_0
  simp only [List.cons.injEq, and_true] at e1_0
  subst e1_0
  obtain ⟨a1_1, e1_1, _, _⟩ := DataW.trod_int Try.underlying3 g1_1
  simp only [List.cons.injEq, and_true] at e1_1
  subst e1_1
  obtain ⟨a1_2, e1_2, _, _⟩ := DataW.trod_string Try.underlying9 g1_2
  simp only [List.cons.injEq, and_true] at e1_2
  subst e1_2
  obtain ⟨k, hk⟩ := Pl.OrderLines a0 a1_0 a1_1 a1_2
  refine (Fn.bulletinlaw35_OrderLines.calls k a0 a1_0 a1_1 a1_2 true W hk).mono ?_
  rintro e W' ⟨rfl, bel⟩
  exact ⟨_, rfl, _, _, _, [], _, [], hW', trodAll_mk1 (shut_bool Try.underlying4 _), (trodAll_cons_mk (Below.trod laidOut (by kernel_rfl) (of_decide_eq_true (by kernel_rfl)) k0 bel lt0) (trodAll_cons_mk (Below.trod laidOut (by kernel_rfl) (of_decide_eq_true (by kernel_rfl)) k1 bel lt1) trodAll_mk0)), rfl, bel.frame _, fun h => by cases h⟩
theorem over : Rows.orderLinesRow.holds Try.pinned (OpenSpec.ofChange Rows.orderLinesSpec) :=
  OpenClaim.holds_of_wide 3 Try.f3 rfl rfl rfl rfl rfl rfl rfl ⟨rfl, rfl, rfl, rfl, rfl⟩ rfl rfl rfl rfl rfl (by kernel_rfl) Try.func3 (by kernel_rfl)
    (of_decide_eq_true (by kernel_rfl)) (by unfold Func.isWrapper; first | (rw [if_pos (by decide +kernel)]; kernel_rfl) | (rw [if_neg (by decide +kernel)]; exact ⟨rfl, rfl⟩))
    (fun os started H enc _ => lifted os started H enc)
theorem proved : Rows.OrderLinesSaid := over
#print axioms proved
end Go.Proofs.Ytlomcmdbbnbciaa.orderLines
namespace Go.Proofs.Ytlomcmdbbnbciaa
/-- For every input the law returns true. -/
theorem orderLines_holds : Rows.OrderLinesSaid := orderLines.proved
end Go.Proofs.Ytlomcmdbbnbciaa
