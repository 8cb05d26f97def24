/- A part of the proof of this sentence: A message of right fields is read again, as it is, of what is written of it; the tables of unicode/utf8 are as the program's text lays them. -/
import Derived.Test.YtbjbpgmjijeppaaGreatDoorCMsgBack4
import Derived.Deep.SlicePairs
import Derived.ProofKit
import Derived.OpenShut
namespace Go.Proofs.YtbjbpgmjijeppaaGreatDoor.Fn
open Go.RowKit Go.Proofs.YtbjbpgmjijeppaaGreatDoorW.PrintWords Go.Proofs.YtbjbpgmjijeppaaGreatDoorW.PrintLast Go.Proofs.YtbjbpgmjijeppaaGreatDoorW.PrintMore
attribute [local go_sem] max2_int min2_int max_two min_two max_three min_three max_four min_four
set_option linter.unusedVariables false
set_option linter.unusedSimpArgs false

/-! ### bulletinlaw16_MsgBack: function 5 -/
def bulletinlaw16_MsgBack.l0 : Nat → Int → Int → List (S67) → ByteArray → List (S46) → ByteArray → Option (Bool)
 | 0, _, _, _, _, _, _ => none
 | k + 1, x17, x18, x405000, x405001, x412000, x412001 => if x18 < x17 then (if 0 ≤ x18 then (if x18 < (x412000.length : Int) then ((head_Right.f ((rd_T46 x412000 x18).f0) ((rd_T46 x412000 x18).f1)).bind fun t413 => (if t413 = true then (bulletinlaw16_MsgBack.l0 k x17 (wrap64 (x18 + 1)) x405000 x405001 x412000 x412001) else (some true))) else (none)) else (none)) else ((msg_Message_Text.f x412000 x412001).bind fun t414 => (if (t414.size : Int) > 65536 then (some true) else ((msg_Parse.f k t414).bind fun bt415 => (if bt415.2.2 = 0 then ((bulletinlaw16_Same.f k bt415.1 bt415.2.1 x405000 x405001).bind fun t421 => (some t421)) else (some false)))))
def bulletinlaw16_MsgBack.f (k : Nat) (l0_0 : List (S67)) (a0_1 : ByteArray) : Option (Bool) := (bulletinlaw16_works.f k).bind fun t405 => (if t405 = true then ((bulletinlaw16_Light.f k l0_0 a0_1).bind fun t406 => (if t406 = true then ((bulletinlaw16_To.f k l0_0 a0_1).bind fun bt407 => (bulletinlaw16_MsgBack.l0 k (bt407.1.length : Int) 0 l0_0 a0_1 bt407.1 bt407.2)) else (some true))) else (some false))
set_option maxHeartbeats 8000000 in
set_option maxRecDepth 100000 in
theorem bulletinlaw16_MsgBack.calls (k : Nat) (A0_0 : Option Addr) (c0_0 : Nat) (l0_0 : List (S67)) (a0_1 : ByteArray) (r : Bool) (w : World) (hG : Glob w) (hr0_0 : Kd.C k67 w A0_0 l0_0.length l0_0) (hc0_0 : l0_0.length ≤ c0_0) (h : bulletinlaw16_MsgBack.f k l0_0 a0_1 = some r) :
  Calls Tryz.prog 5 #[.agg #[.slice A0_0 l0_0.length c0_0, .string a0_1]] w fun e w' => e = .returned (.bool r) ∧ Below w.heap.size w w' := by
 have hu31 := Tryz.underlying31
 have hu25 := Tryz.underlying25
 have hu46 := Tryz.underlying46
 have HR0_0 := Aside0.mk hr0_0
 have HC0_0 := Aside0.mk hc0_0
 clear hr0_0 hc0_0
 have HB := Aside0.mk (Below.refl w.heap.size w)
 have H : ((bulletinlaw16_works.f k).bind fun t405 => (if t405 = true then ((bulletinlaw16_Light.f k l0_0 a0_1).bind fun t406 => (if t406 = true then ((bulletinlaw16_To.f k l0_0 a0_1).bind fun bt407 => (bulletinlaw16_MsgBack.l0 k (bt407.1.length : Int) 0 l0_0 a0_1 bt407.1 bt407.2)) else (some true))) else (some false))) = some r := h
 clear h
 replace H := Option.bind_eq_some_iff.mp H
 obtain ⟨t405, A20, H⟩ := H
 replace H : (if t405 = true then ((bulletinlaw16_Light.f k l0_0 a0_1).bind fun t406 => (if t406 = true then ((bulletinlaw16_To.f k l0_0 a0_1).bind fun bt407 => (bulletinlaw16_MsgBack.l0 k (bt407.1.length : Int) 0 l0_0 a0_1 bt407.1 bt407.2)) else (some true))) else (some false)) = some r := H
 have A2 := Aside0.mk A20
 clear A20
 by_cases c3 : t405 = true
 ·subst c3
  have H1 : ((bulletinlaw16_Light.f k l0_0 a0_1).bind fun t406 => (if t406 = true then ((bulletinlaw16_To.f k l0_0 a0_1).bind fun bt407 => (bulletinlaw16_MsgBack.l0 k (bt407.1.length : Int) 0 l0_0 a0_1 bt407.1 bt407.2)) else (some true))) = some r := by rw [if_pos rfl] at H; exact H
  clear H
  have H := H1
  clear H1
  replace H := Option.bind_eq_some_iff.mp H
  obtain ⟨t406, A40, H⟩ := H
  replace H : (if t406 = true then ((bulletinlaw16_To.f k l0_0 a0_1).bind fun bt407 => (bulletinlaw16_MsgBack.l0 k (bt407.1.length : Int) 0 l0_0 a0_1 bt407.1 bt407.2)) else (some true)) = some r := H
  have A4 := Aside0.mk A40
  clear A40
  by_cases c5 : t406 = true
  ·subst c5
   have H1 : ((bulletinlaw16_To.f k l0_0 a0_1).bind fun bt407 => (bulletinlaw16_MsgBack.l0 k (bt407.1.length : Int) 0 l0_0 a0_1 bt407.1 bt407.2)) = some r := by rw [if_pos rfl] at H; exact H
   clear H
   have H := H1
   clear H1
   replace H := Option.bind_eq_some_iff.mp H
   obtain ⟨⟨t407, t410⟩, A60, H⟩ := H
   replace H : (bulletinlaw16_MsgBack.l0 k (t407.length : Int) 0 l0_0 a0_1 t407 t410) = some r := H
   have A6 := Aside0.mk A60
   clear A60
   have H' := Aside0.mk H
   clear H
   go_enter Tryz.func5, Tryz.ntmps5
   go_wp2_with (first | ((with_reducible refine gate_dst (N := 1) rfl ?_); refine box_event ?hg (N := 1) ?hd (cs := #[.slice A0_0 l0_0.length c0_0, .string a0_1]) (t := 31) ?hr ?_; (case hd => rfl); (case hg => rfl); (case hr => first | (go_simp; done) | (go_simp; rfl)); intro gb404 hg w7 hbox hb; have n0_ := Aside0.mk (below_step bw hb); have n1_ := Aside0.mk (hbox); have n2_ := Aside0.mk ((by rw [hg]; exact (below_size bw) : w.heap.size ≤ gb404)); have n3_ := Aside0.mk ((by rw [hg]; exact (below_size bw) : w.heap.size ≤ gb404)); clear HB; have HB := n0_; have BK404 := n1_; have GW404 := n2_; have GE404 := n3_; clear n0_ n1_ n2_ n3_; clear hb hbox hg) | ((with_reducible refine gate_callee (f := 9) rfl ?_); refine goesL_ (some 8) rfl rfl Tryz.func9 (by kernel_rfl) rfl #[] rfl am ?_; (with_reducible refine (bulletinlaw16_works.calls (hG := by first | exact hG | exact Glob.below hG (by first | exact HB.out | (repeat (first | (with_reducible first | exact HB.out | apply below_alloc | apply pw_below_drewN | apply below_drew1 | refine below_set ?_ GE404.out | refine below_set ?_ GE411.out | refine below_set ?_ GE420.out) | exact HB.out))) | exact Glob.drawn hG (by repeat (first | exact Drawn0.refl _ | apply Drawn0.step))) k  true _ A2.out).mono ?_); rintro e w8 ⟨rfl, hb⟩; refine ⟨_, rfl, ?_⟩; have n0_ := Aside0.mk (blk_below (g := gb404) (o := .cells #[.slice A0_0 l0_0.length c0_0, .string a0_1] 31 (0, 0)) bk hb); have n1_ := Aside0.mk (below_step bwS hb); clear BK404; clear HB; have BK404 := n0_; have HB := n1_; clear n0_ n1_; (try clear hb); (try clear hb2); (try clear hk); (try clear hi); have hcz9_0 : w8.cell? ⟨gb404, 0, none⟩ = some (.slice A0_0 l0_0.length c0_0) := (blk_cell BK404.out 0).trans rfl; have hcz9_1 : w8.cell? ⟨gb404, 1, none⟩ = some (.string a0_1) := (blk_cell BK404.out 1).trans rfl; have hfz9_0 := blk_frozen BK404.out 0; have hfz9_1 := blk_frozen BK404.out 1) | ((with_reducible refine gate_callee (f := 18) rfl ?_); refine goesL_ (some 11) rfl rfl Tryz.func18 (by kernel_rfl) rfl #[.agg #[.slice A0_0 l0_0.length c0_0, .string a0_1]] rfl am ?_; (with_reducible refine (bulletinlaw16_Light.calls k _ _ l0_0 a0_1 true _ ?side1 ?side2 A4.out).mono ?_); (case side1 => repeat (first | exact (Kd.C_below HR0_0.out HB.out) | (with_reducible refine Kd.C_alloc ?_ _) | (with_reducible refine Kd.C_drewN ?_ _) | (with_reducible refine Kd.C_drew ?_))); (case side2 => exact HC0_0.out); rintro e w10 ⟨rfl, hb⟩; refine ⟨_, rfl, ?_⟩; have n0_ := Aside0.mk (blk_below (g := gb404) (o := .cells #[.slice A0_0 l0_0.length c0_0, .string a0_1] 31 (0, 0)) bk hb); have n1_ := Aside0.mk (below_step bwS hb); clear BK404; clear HB; have BK404 := n0_; have HB := n1_; clear n0_ n1_; (try clear hb); (try clear hb2); (try clear hk); (try clear hi); have hcz11_0 : w10.cell? ⟨gb404, 0, none⟩ = some (.slice A0_0 l0_0.length c0_0) := (blk_cell BK404.out 0).trans rfl; have hcz11_1 : w10.cell? ⟨gb404, 1, none⟩ = some (.string a0_1) := (blk_cell BK404.out 1).trans rfl; have hfz11_0 := blk_frozen BK404.out 0; have hfz11_1 := blk_frozen BK404.out 1) | ((with_reducible refine gate_callee (f := 19) rfl ?_); refine goesL_ (some 14) rfl rfl Tryz.func19 (by kernel_rfl) rfl #[.agg #[.slice A0_0 l0_0.length c0_0, .string a0_1]] rfl am ?_; (with_reducible refine (bulletinlaw16_To.calls k _ _ l0_0 a0_1 t407 t410 _ ?side1 ?side2 A6.out).mono ?_); (case side1 => repeat (first | exact (Kd.C_below HR0_0.out HB.out) | (with_reducible refine Kd.C_alloc ?_ _) | (with_reducible refine Kd.C_drewN ?_ _) | (with_reducible refine Kd.C_drew ?_))); (case side2 => exact HC0_0.out); rintro e w12 ⟨v408, rfl, ho0, hb⟩; refine ⟨_, rfl, ?_⟩; have n0_ := Aside0.mk (Kd.R_lower ho0 (below_size bwS)); have n1_ := Aside0.mk (blk_below (g := gb404) (o := .cells #[.slice A0_0 l0_0.length c0_0, .string a0_1] 31 (0, 0)) bk hb); have n2_ := Aside0.mk (below_step bwS hb); clear BK404; clear HB; have HO409 := n0_; have BK404 := n1_; have HB := n2_; clear n0_ n1_ n2_; (try clear hb); (try clear hb2); (try clear hk); (try clear hi); (try clear ho0)) | ((with_reducible refine gate_dst (N := 3) rfl ?_); refine box_event ?hg (N := 3) ?hd (cs := #[.slice none 0 0, .string (⟨#[]⟩ : ByteArray)]) (t := 25) ?hr ?_; (case hd => rfl); (case hg => rfl); (case hr => first | (go_simp; done) | (go_simp; rfl)); intro gb411 hg w13 hbox hb; have n0_ := Aside0.mk (Kd.R_below (by (with_reducible repeat (first | apply Kd.R_alloc | apply Kd.R_drewN | apply Kd.R_drew)); exact HO409.out) hb); have n1_ := Aside0.mk (blk_below (g := gb404) (o := .cells #[.slice A0_0 l0_0.length c0_0, .string a0_1] 31 (0, 0)) bk hb); have n2_ := Aside0.mk (below_step bwS hb); have n3_ := Aside0.mk (hbox); have n4_ := Aside0.mk ((by rw [hg]; exact (below_size bwS) : w.heap.size ≤ gb411)); have n5_ := Aside0.mk ((by rw [hg]; exact (below_size bwS) : w.heap.size ≤ gb411)); have n6_ := Aside0.mk ((by rw [hg]; exact Nat.ne_of_lt (blk_lt (g := gb404) (o := .cells #[.slice A0_0 l0_0.length c0_0, .string a0_1] 31 (0, 0)) bk) : gb404 ≠ gb411)); have n7_ := Aside0.mk ((by rw [hg]; exact Nat.ne_of_gt (blk_lt (g := gb404) (o := .cells #[.slice A0_0 l0_0.length c0_0, .string a0_1] 31 (0, 0)) bk) : gb411 ≠ gb404)); clear HO409; clear BK404; clear HB; have HO409 := n0_; have BK404 := n1_; have HB := n2_; have BK411 := n3_; have GW411 := n4_; have GE411 := n5_; have NB404_411 := n6_; have NB411_404 := n7_; clear n0_ n1_ n2_ n3_ n4_ n5_ n6_ n7_; clear hb hbox hg; obtain ⟨Ao14, co14, eo14⟩ := Kd.R_slice HO409.out; subst eo14; have hnb15 := NB411_404.out; have hnc15 := NB404_411.out; have hcz16_0 : w13.cell? ⟨gb411, 0, none⟩ = some (.slice none 0 0) := (blk_cell BK411.out 0).trans rfl; have hcz16_1 : w13.cell? ⟨gb411, 1, none⟩ = some (.string (⟨#[]⟩ : ByteArray)) := (blk_cell BK411.out 1).trans rfl; have hfz16_0 := blk_frozen BK411.out 0; have hfz16_1 := blk_frozen BK411.out 1))
   go_loopg [18] k (fun kq v18 w' => ∃ (x18_1 : Int), v18 = .int .i64 x18_1 ∧ Aside0 (bulletinlaw16_MsgBack.l0 kq (t407.length : Int) x18_1 l0_0 a0_1 t407 t410 = some r) ∧ Aside0 (kq ≤ k) ∧ Aside0 (Kd.R k46 46 w' w.heap.size (fun _ => True) (.slice Ao14 t407.length co14) t407) ∧ Aside0 (w'.heap[gb404]? = some (.cells #[(.slice A0_0 l0_0.length c0_0), .string a0_1] 31 (0, 0))) ∧ Aside0 (w'.heap[gb411]? = some (.cells #[(.slice Ao14 t407.length co14), .string t410] 25 (0, 0))) ∧ Aside0 (Below w.heap.size w w'))
   case atStart => exact ⟨(0), cl, H', ⟨Nat.le_refl _⟩, ⟨by (with_reducible repeat (first | apply Kd.R_alloc | apply Kd.R_drewN | apply Kd.R_drew)); exact Kd.R_mono (Kd.R_far (p := ⟨gb411, 1, none⟩) (Kd.R_far (p := ⟨gb411, 0, none⟩) (Kd.R_types HO409.out BK411.out (by decide)) (fun _ hk => hk.2) (.slice Ao14 t407.length co14)) (fun _ hk => hk.2) (.string t410)) (fun _ hk => trivial)⟩, ⟨by (with_reducible repeat (first | refine blk_drewN ?_ _ | refine blk_drew ?_ | refine blk_alloc ?_ _)); refine blk_far ?_ NB404_411.out _; (with_reducible repeat (first | refine blk_drewN ?_ _ | refine blk_drew ?_ | refine blk_alloc ?_ _)); refine blk_far ?_ NB404_411.out _; (with_reducible repeat (first | refine blk_drewN ?_ _ | refine blk_drew ?_ | refine blk_alloc ?_ _)); exact BK404.out⟩, ⟨by (with_reducible repeat (first | refine blk_drewN ?_ _ | refine blk_drew ?_ | refine blk_alloc ?_ _)); refine blk_put (cs := #[.slice Ao14 t407.length co14, .string (⟨#[]⟩ : ByteArray)]) ?_ 1 _ rfl; (with_reducible repeat (first | refine blk_drewN ?_ _ | refine blk_drew ?_ | refine blk_alloc ?_ _)); refine blk_put (cs := #[.slice none 0 0, .string (⟨#[]⟩ : ByteArray)]) ?_ 0 _ rfl; (with_reducible repeat (first | refine blk_drewN ?_ _ | refine blk_drew ?_ | refine blk_alloc ?_ _)); exact BK411.out⟩, ⟨bwS⟩⟩
   case round =>
    clear H'
    try clear c1
    try clear p2
    try clear c3
    try clear c5
    try clear c9
    try clear c15
    try clear hcz11_0
    try clear hcz11_1
    try clear hcz16_0
    try clear hcz16_1
    try clear hcz9_0
    try clear hcz9_1
    try clear hfz11_0
    try clear hfz11_1
    try clear hfz16_0
    try clear hfz16_1
    try clear hfz9_0
    try clear hfz9_1
    obtain ⟨x18_1, rfl, HA, HK1, HO_412000, BK404, BK411, HB⟩ := hrel
    cases gk with
    | zero => exact absurd HA.out (by simp [bulletinlaw16_MsgBack.l0])
    | succ k1 =>
     have H := HA.out
     clear HA
     simp only [bulletinlaw16_MsgBack.l0] at H
     by_cases c17 : x18_1 < (t407.length : Int)
     ·rw [if_pos c17] at H
      have c17b0 : decide (x18_1 < (t407.length : Int)) = true := decide_eq_true c17
      clear c17
      by_cases c18 : 0 ≤ x18_1
      ·rw [if_pos c18] at H
       have c18b0 : decide (0 ≤ x18_1) = true := decide_eq_true c18
       clear c18
       by_cases c19 : x18_1 < (t407.length : Int)
       ·rw [if_pos c19] at H
        have c19b0 : decide (x18_1 < (t407.length : Int)) = true := decide_eq_true c19
        clear c19
        replace H := Option.bind_eq_some_iff.mp H
        obtain ⟨t413, A200, H⟩ := H
        replace H : (if t413 = true then (bulletinlaw16_MsgBack.l0 k1 (t407.length : Int) (wrap64 (x18_1 + 1)) l0_0 a0_1 t407 t410) else (some true)) = some r := H
        have A20 := Aside0.mk A200
        clear A200
        by_cases c21 : t413 = true
        ·subst c21
         have H1 : (bulletinlaw16_MsgBack.l0 k1 (t407.length : Int) (wrap64 (x18_1 + 1)) l0_0 a0_1 t407 t410) = some r := by rw [if_pos rfl] at H; exact H
         clear H
         have H := H1
         clear H1
         have H' := Aside0.mk H
         clear H
         have hnb22 := NB411_404.out
         have hnc22 := NB404_411.out
         have hcz23_0 : wr.cell? ⟨gb411, 0, none⟩ = some (.slice Ao14 t407.length co14) := (blk_cell BK411.out 0).trans rfl
         have hcz23_1 : wr.cell? ⟨gb411, 1, none⟩ = some (.string t410) := (blk_cell BK411.out 1).trans rfl
         have hfz23_0 := blk_frozen BK411.out 0
         have hfz23_1 := blk_frozen BK411.out 1
         have p412 : 0 ≤ (x18_1 : Int) := od
         have q412 : x18_1 < (t407.length : Int) := od
         obtain ⟨ad412, e412, hx412_0, hx412_1⟩ := at_T46 (Kd.R_reads' HO_412000.out).2.2 x18_1 p412 q412
         cases e412
         replace p412 := eq_true p412
         replace q412 := eq_true q412
         go_wp2_with (first | ((with_reducible refine gate_callee (f := 20) rfl ?_); refine goesL_ (some 26) rfl rfl Tryz.func20 (by kernel_rfl) rfl #[.agg #[.string ((rd_T46 t407 x18_1).f0), .string ((rd_T46 t407 x18_1).f1)]] rfl am ?_; (with_reducible refine (head_Right.calls (hG := by first | exact hG | exact Glob.below hG (by first | exact HB.out | (repeat (first | (with_reducible first | exact HB.out | apply below_alloc | apply pw_below_drewN | apply below_drew1 | refine below_set ?_ GE404.out | refine below_set ?_ GE411.out | refine below_set ?_ GE420.out) | exact HB.out))) | exact Glob.drawn hG (by repeat (first | exact Drawn0.refl _ | apply Drawn0.step))) ((rd_T46 t407 x18_1).f0) ((rd_T46 t407 x18_1).f1) true _ A20.out).mono ?_); rintro e w24 ⟨rfl, hb⟩; refine ⟨_, rfl, ?_⟩; have n0_ := Aside0.mk (Kd.R_below (by (with_reducible repeat (first | apply Kd.R_alloc | apply Kd.R_drewN | apply Kd.R_drew)); exact HO_412000.out) hb); have n1_ := Aside0.mk (blk_below (g := gb404) (o := .cells #[.slice A0_0 l0_0.length c0_0, .string a0_1] 31 (0, 0)) bk hb); have n2_ := Aside0.mk (blk_below (g := gb411) (o := .cells #[.slice (some ad412) t407.length co14, .string t410] 25 (0, 0)) bk hb); have n3_ := Aside0.mk (below_step bwS hb); clear HO_412000; clear BK404; clear BK411; clear HB; have HO_412000 := n0_; have BK404 := n1_; have BK411 := n2_; have HB := n3_; clear n0_ n1_ n2_ n3_; (try clear hb); (try clear hb2); (try clear hk); (try clear hi)))
         go_roundg k1
         case measure => have := HK1.out; omega
         case rel => exact ⟨(wrap64 (x18_1 + 1)), cl, H', ⟨by have := HK1.out; omega⟩, ⟨by (with_reducible repeat (first | apply Kd.R_alloc | apply Kd.R_drewN | apply Kd.R_drew)); exact HO_412000.out⟩, ⟨bk⟩, ⟨bk⟩, ⟨bwS⟩⟩
        ·replace c21 := Bool.eq_false_iff.mpr c21
         subst c21
         have H1 : (some true) = some r := by rw [if_neg (show ¬ (false = true) by decide)] at H; exact H
         clear H
         have H := H1
         clear H1
         obtain rfl := Option.some.inj H
         have hnb25 := NB411_404.out
         have hnc25 := NB404_411.out
         have hcz26_0 : wr.cell? ⟨gb411, 0, none⟩ = some (.slice Ao14 t407.length co14) := (blk_cell BK411.out 0).trans rfl
         have hcz26_1 : wr.cell? ⟨gb411, 1, none⟩ = some (.string t410) := (blk_cell BK411.out 1).trans rfl
         have hfz26_0 := blk_frozen BK411.out 0
         have hfz26_1 := blk_frozen BK411.out 1
         have p412 : 0 ≤ (x18_1 : Int) := od
         have q412 : x18_1 < (t407.length : Int) := od
         obtain ⟨ad412, e412, hx412_0, hx412_1⟩ := at_T46 (Kd.R_reads' HO_412000.out).2.2 x18_1 p412 q412
         cases e412
         replace p412 := eq_true p412
         replace q412 := eq_true q412
         go_wp2_with (first | ((with_reducible refine gate_callee (f := 20) rfl ?_); refine goesL_ (some 26) rfl rfl Tryz.func20 (by kernel_rfl) rfl #[.agg #[.string ((rd_T46 t407 x18_1).f0), .string ((rd_T46 t407 x18_1).f1)]] rfl am ?_; (with_reducible refine (head_Right.calls (hG := by first | exact hG | exact Glob.below hG (by first | exact HB.out | (repeat (first | (with_reducible first | exact HB.out | apply below_alloc | apply pw_below_drewN | apply below_drew1 | refine below_set ?_ GE404.out | refine below_set ?_ GE411.out | refine below_set ?_ GE420.out) | exact HB.out))) | exact Glob.drawn hG (by repeat (first | exact Drawn0.refl _ | apply Drawn0.step))) ((rd_T46 t407 x18_1).f0) ((rd_T46 t407 x18_1).f1) false _ A20.out).mono ?_); rintro e w27 ⟨rfl, hb⟩; refine ⟨_, rfl, ?_⟩; have n0_ := Aside0.mk (Kd.R_below (by (with_reducible repeat (first | apply Kd.R_alloc | apply Kd.R_drewN | apply Kd.R_drew)); exact HO_412000.out) hb); have n1_ := Aside0.mk (blk_below (g := gb404) (o := .cells #[.slice A0_0 l0_0.length c0_0, .string a0_1] 31 (0, 0)) bk hb); have n2_ := Aside0.mk (blk_below (g := gb411) (o := .cells #[.slice (some ad412) t407.length co14, .string t410] 25 (0, 0)) bk hb); have n3_ := Aside0.mk (below_step bwS hb); clear HO_412000; clear BK404; clear BK411; clear HB; have HO_412000 := n0_; have BK404 := n1_; have BK411 := n2_; have HB := n3_; clear n0_ n1_ n2_ n3_; (try clear hb); (try clear hb2); (try clear hk); (try clear hi)))
         go_ret
         exact ⟨by first | rfl | (simp [errW_none, errW_some] <;> rfl) | (simp [*, errW_none, errW_some] <;> rfl), bwS⟩
       ·rw [if_neg c19] at H
        exact absurd H (by simp)
      ·rw [if_neg c18] at H
       exact absurd H (by simp)
     ·rw [if_neg c17] at H
      have c17b0 : decide (x18_1 < (t407.length : Int)) = false := decide_eq_false c17
      clear c17
      replace H := Option.bind_eq_some_iff.mp H
      obtain ⟨t414, A280, H⟩ := H
      replace H : (if (t414.size : Int) > 65536 then (some true) else ((msg_Parse.f k1 t414).bind fun bt415 => (if bt415.2.2 = 0 then ((bulletinlaw16_Same.f k1 bt415.1 bt415.2.1 l0_0 a0_1).bind fun t421 => (some t421)) else (some false)))) = some r := H
      have A28 := Aside0.mk A280
      clear A280
      by_cases c29 : (t414.size : Int) > 65536
      ·rw [if_pos c29] at H
       have c29b0 : decide (65536 < (t414.size : Int)) = true := decide_eq_true c29
       have c29b1 : decide (65536 < t414.size) = true := decide_eq_true (by omega)
       clear c29
       obtain rfl := Option.some.inj H
       have hnb30 := NB411_404.out
       have hnc30 := NB404_411.out
       have hcz31_0 : wr.cell? ⟨gb411, 0, none⟩ = some (.slice Ao14 t407.length co14) := (blk_cell BK411.out 0).trans rfl
       have hcz31_1 : wr.cell? ⟨gb411, 1, none⟩ = some (.string t410) := (blk_cell BK411.out 1).trans rfl
       have hfz31_0 := blk_frozen BK411.out 0
       have hfz31_1 := blk_frozen BK411.out 1
       go_wp2_with (first | ((with_reducible refine gate_callee (f := 13) rfl ?_); refine goesL_ (some 30) rfl rfl Tryz.func13 (by kernel_rfl) rfl #[.agg #[.slice Ao14 t407.length co14, .string t410]] rfl am ?_; (with_reducible refine (msg_Message_Text.calls _ _ t407 t410 t414 _ ?side1 ?side2 A28.out).mono ?_); (case side1 => repeat (first | exact (Kd.R_reads' HO_412000.out).2.2 | (with_reducible refine Kd.C_alloc ?_ _) | (with_reducible refine Kd.C_drewN ?_ _) | (with_reducible refine Kd.C_drew ?_))); (case side2 => exact (Kd.R_reads' HO_412000.out).2.1); rintro e w32 ⟨rfl, hb⟩; refine ⟨_, rfl, ?_⟩; have n0_ := Aside0.mk (Kd.R_below (by (with_reducible repeat (first | apply Kd.R_alloc | apply Kd.R_drewN | apply Kd.R_drew)); exact HO_412000.out) hb); have n1_ := Aside0.mk (blk_below (g := gb404) (o := .cells #[.slice A0_0 l0_0.length c0_0, .string a0_1] 31 (0, 0)) bk hb); have n2_ := Aside0.mk (blk_below (g := gb411) (o := .cells #[.slice Ao14 t407.length co14, .string t410] 25 (0, 0)) bk hb); have n3_ := Aside0.mk (below_step bwS hb); clear HO_412000; clear BK404; clear BK411; clear HB; have HO_412000 := n0_; have BK404 := n1_; have BK411 := n2_; have HB := n3_; clear n0_ n1_ n2_ n3_; (try clear hb); (try clear hb2); (try clear hk); (try clear hi)))
       go_ret
       exact ⟨by first | rfl | (simp [errW_none, errW_some] <;> rfl) | (simp [*, errW_none, errW_some] <;> rfl), bwS⟩
      ·rw [if_neg c29] at H
       have c29b0 : decide (65536 < (t414.size : Int)) = false := decide_eq_false c29
       have c29b1 : decide (65536 < t414.size) = false := decide_eq_false (by omega)
       clear c29
       replace H := Option.bind_eq_some_iff.mp H
       obtain ⟨⟨t415, t418, t419⟩, A330, H⟩ := H
       replace H : (if t419 = 0 then ((bulletinlaw16_Same.f k1 t415 t418 l0_0 a0_1).bind fun t421 => (some t421)) else (some false)) = some r := H
       have A33 := Aside0.mk A330
       clear A330
       by_cases c34 : t419 = 0
       ·rw [if_pos c34] at H
        have c34b0 : (t419 == 0) = true := beq_iff_eq.mpr c34
        have c34b1 : (t419 != 0) = false := bne_eq_false_iff_eq.mpr c34
        clear c34
        replace H := Option.bind_eq_some_iff.mp H
        obtain ⟨t421, A350, H⟩ := H
        replace H : (some t421) = some r := H
        have A35 := Aside0.mk A350
        clear A350
        obtain rfl := Option.some.inj H
        have hnb36 := NB411_404.out
        have hnc36 := NB404_411.out
        have hcz37_0 : wr.cell? ⟨gb411, 0, none⟩ = some (.slice Ao14 t407.length co14) := (blk_cell BK411.out 0).trans rfl
        have hcz37_1 : wr.cell? ⟨gb411, 1, none⟩ = some (.string t410) := (blk_cell BK411.out 1).trans rfl
        have hfz37_0 := blk_frozen BK411.out 0
        have hfz37_1 := blk_frozen BK411.out 1
        go_wp2_with (first | ((with_reducible refine gate_callee (f := 13) rfl ?_); refine goesL_ (some 30) rfl rfl Tryz.func13 (by kernel_rfl) rfl #[.agg #[.slice Ao14 t407.length co14, .string t410]] rfl am ?_; (with_reducible refine (msg_Message_Text.calls _ _ t407 t410 t414 _ ?side1 ?side2 A28.out).mono ?_); (case side1 => repeat (first | exact (Kd.R_reads' HO_412000.out).2.2 | (with_reducible refine Kd.C_alloc ?_ _) | (with_reducible refine Kd.C_drewN ?_ _) | (with_reducible refine Kd.C_drew ?_))); (case side2 => exact (Kd.R_reads' HO_412000.out).2.1); rintro e w38 ⟨rfl, hb⟩; refine ⟨_, rfl, ?_⟩; have n0_ := Aside0.mk (Kd.R_below (by (with_reducible repeat (first | apply Kd.R_alloc | apply Kd.R_drewN | apply Kd.R_drew)); exact HO_412000.out) hb); have n1_ := Aside0.mk (blk_below (g := gb404) (o := .cells #[.slice A0_0 l0_0.length c0_0, .string a0_1] 31 (0, 0)) bk hb); have n2_ := Aside0.mk (blk_below (g := gb411) (o := .cells #[.slice Ao14 t407.length co14, .string t410] 25 (0, 0)) bk hb); have n3_ := Aside0.mk (below_step bwS hb); clear HO_412000; clear BK404; clear BK411; clear HB; have HO_412000 := n0_; have BK404 := n1_; have BK411 := n2_; have HB := n3_; clear n0_ n1_ n2_ n3_; (try clear hb); (try clear hb2); (try clear hk); (try clear hi)) | ((with_reducible refine gate_callee (f := 10) rfl ?_); refine goesL_ (some 36) rfl rfl Tryz.func10 (by kernel_rfl) rfl #[.string t414] rfl am ?_; (with_reducible refine (msg_Parse.calls (hG := by first | exact hG | exact Glob.below hG (by first | exact HB.out | (repeat (first | (with_reducible first | exact HB.out | apply below_alloc | apply pw_below_drewN | apply below_drew1 | refine below_set ?_ GE404.out | refine below_set ?_ GE411.out | refine below_set ?_ GE420.out) | exact HB.out))) | exact Glob.drawn hG (by repeat (first | exact Drawn0.refl _ | apply Drawn0.step))) k1 t414 t415 t418 t419 _ A33.out).mono ?_); rintro e w39 ⟨v416, rfl, ho0, hb⟩; refine ⟨_, rfl, ?_⟩; have n0_ := Aside0.mk (Kd.R_elder' (by (with_reducible repeat (first | apply Kd.R_alloc | apply Kd.R_drewN | apply Kd.R_drew)); exact HO_412000.out) (Kd.R_base ho0) hb); have n1_ := Aside0.mk (Kd.R_lower (Kd.R_new' ho0 (Kd.R_lt (by (with_reducible repeat (first | apply Kd.R_alloc | apply Kd.R_drewN | apply Kd.R_drew)); exact HO_412000.out))) (below_size bwS)); have n2_ := Aside0.mk (blk_below (g := gb404) (o := .cells #[.slice A0_0 l0_0.length c0_0, .string a0_1] 31 (0, 0)) bk hb); have n3_ := Aside0.mk (blk_below (g := gb411) (o := .cells #[.slice Ao14 t407.length co14, .string t410] 25 (0, 0)) bk hb); have n4_ := Aside0.mk (below_step bwS hb); clear HO_412000; clear BK404; clear BK411; clear HB; have HO_412000 := n0_; have HO417 := n1_; have BK404 := n2_; have BK411 := n3_; have HB := n4_; clear n0_ n1_ n2_ n3_ n4_; (try clear hb); (try clear hb2); (try clear hk); (try clear hi); (try clear ho0)) | ((with_reducible refine gate_dst (N := 6) rfl ?_); refine box_event ?hg (N := 6) ?hd (cs := #[.slice none 0 0, .string (⟨#[]⟩ : ByteArray)]) (t := 25) ?hr ?_; (case hd => rfl); (case hg => rfl); (case hr => first | (go_simp; done) | (go_simp; rfl)); intro gb420 hg w40 hbox hb; have n0_ := Aside0.mk (Kd.R_below (by (with_reducible repeat (first | apply Kd.R_alloc | apply Kd.R_drewN | apply Kd.R_drew)); exact HO_412000.out) hb); have n1_ := Aside0.mk (Kd.R_below (by (with_reducible repeat (first | apply Kd.R_alloc | apply Kd.R_drewN | apply Kd.R_drew)); exact HO417.out) hb); have n2_ := Aside0.mk (blk_below (g := gb404) (o := .cells #[.slice A0_0 l0_0.length c0_0, .string a0_1] 31 (0, 0)) bk hb); have n3_ := Aside0.mk (blk_below (g := gb411) (o := .cells #[.slice Ao14 t407.length co14, .string t410] 25 (0, 0)) bk hb); have n4_ := Aside0.mk (below_step bwS hb); have n5_ := Aside0.mk (hbox); have n6_ := Aside0.mk ((by rw [hg]; exact (below_size bwS) : w.heap.size ≤ gb420)); have n7_ := Aside0.mk ((by rw [hg]; exact (below_size bwS) : w.heap.size ≤ gb420)); have n8_ := Aside0.mk ((by rw [hg]; exact Nat.ne_of_lt (blk_lt (g := gb404) (o := .cells #[.slice A0_0 l0_0.length c0_0, .string a0_1] 31 (0, 0)) bk) : gb404 ≠ gb420)); have n9_ := Aside0.mk ((by rw [hg]; exact Nat.ne_of_gt (blk_lt (g := gb404) (o := .cells #[.slice A0_0 l0_0.length c0_0, .string a0_1] 31 (0, 0)) bk) : gb420 ≠ gb404)); have n10_ := Aside0.mk ((by rw [hg]; exact Nat.ne_of_lt (blk_lt (g := gb411) (o := .cells #[.slice Ao14 t407.length co14, .string t410] 25 (0, 0)) bk) : gb411 ≠ gb420)); have n11_ := Aside0.mk ((by rw [hg]; exact Nat.ne_of_gt (blk_lt (g := gb411) (o := .cells #[.slice Ao14 t407.length co14, .string t410] 25 (0, 0)) bk) : gb420 ≠ gb411)); clear HO_412000; clear HO417; clear BK404; clear BK411; clear HB; have HO_412000 := n0_; have HO417 := n1_; have BK404 := n2_; have BK411 := n3_; have HB := n4_; have BK420 := n5_; have GW420 := n6_; have GE420 := n7_; have NB404_420 := n8_; have NB420_404 := n9_; have NB411_420 := n10_; have NB420_411 := n11_; clear n0_ n1_ n2_ n3_ n4_ n5_ n6_ n7_ n8_ n9_ n10_ n11_; clear hb hbox hg; obtain ⟨Ao41, co41, eo41⟩ := Kd.R_slice HO417.out; subst eo41; have hnb42 := NB420_404.out; have hnc42 := NB404_420.out; have hnb43 := NB420_411.out; have hnc43 := NB411_420.out; have hcz44_0 : w40.cell? ⟨gb420, 0, none⟩ = some (.slice none 0 0) := (blk_cell BK420.out 0).trans rfl; have hcz44_1 : w40.cell? ⟨gb420, 1, none⟩ = some (.string (⟨#[]⟩ : ByteArray)) := (blk_cell BK420.out 1).trans rfl; have hfz44_0 := blk_frozen BK420.out 0; have hfz44_1 := blk_frozen BK420.out 1; have hcz45_0 : w40.cell? ⟨gb404, 0, none⟩ = some (.slice A0_0 l0_0.length c0_0) := (blk_cell BK404.out 0).trans rfl; have hcz45_1 : w40.cell? ⟨gb404, 1, none⟩ = some (.string a0_1) := (blk_cell BK404.out 1).trans rfl; have hfz45_0 := blk_frozen BK404.out 0; have hfz45_1 := blk_frozen BK404.out 1) | (go_at_call 12; (with_reducible refine (bulletinlaw16_Same.calls k1 _ _ t415 t418 _ _ l0_0 a0_1 t421 _ ?side1 ?side2 ?side3 ?side4 A35.out).mono ?_); (case side1 => refine (Kd.R_reads' (e := 46) (base := w.heap.size) (ok := fun k_ => (True ∧ some k_ ≠ (.slice Ao14 t407.length co14 : Value).ownBlock)) (n := t415.length) (c := co41) ?_).2.2; exact (by (with_reducible repeat (first | apply Kd.R_alloc | apply Kd.R_drewN | apply Kd.R_drew)); exact (Kd.R_mono (Kd.R_far (p := ⟨gb420, 1, none⟩) (Kd.R_far (p := ⟨gb420, 0, none⟩) (Kd.R_types HO417.out BK420.out (by decide)) (fun _ hk => hk.2) (.slice Ao41 t415.length co41)) (fun _ hk => hk.2) (.string t418)) (fun _ h_ => h_.1)))); (case side2 => exact (Kd.R_reads' HO417.out).2.1); (case side3 => exact Kd.C_below HR0_0.out bwS); (case side4 => exact HC0_0.out); rintro e w46 ⟨rfl, hb⟩; have n0_ := Aside0.mk (Kd.R_below (by (with_reducible repeat (first | apply Kd.R_alloc | apply Kd.R_drewN | apply Kd.R_drew)); exact (Kd.R_mono (Kd.R_far (p := ⟨gb420, 1, none⟩) (Kd.R_far (p := ⟨gb420, 0, none⟩) (Kd.R_types HO_412000.out BK420.out (by decide)) (fun _ hk => hk.2) (.slice Ao41 t415.length co41)) (fun _ hk => hk.2) (.string t418)) (fun _ h_ => h_.1))) hb); have n1_ := Aside0.mk (Kd.R_below (by (with_reducible repeat (first | apply Kd.R_alloc | apply Kd.R_drewN | apply Kd.R_drew)); exact (Kd.R_mono (Kd.R_far (p := ⟨gb420, 1, none⟩) (Kd.R_far (p := ⟨gb420, 0, none⟩) (Kd.R_types HO417.out BK420.out (by decide)) (fun _ hk => hk.2) (.slice Ao41 t415.length co41)) (fun _ hk => hk.2) (.string t418)) (fun _ h_ => h_.1))) hb); have n2_ := Aside0.mk (blk_below (g := gb404) (o := .cells #[.slice A0_0 l0_0.length c0_0, .string a0_1] 31 (0, 0)) (by (with_reducible repeat (first | refine blk_drewN ?_ _ | refine blk_drew ?_ | refine blk_alloc ?_ _)); refine blk_far ?_ NB404_420.out _; (with_reducible repeat (first | refine blk_drewN ?_ _ | refine blk_drew ?_ | refine blk_alloc ?_ _)); refine blk_far ?_ NB404_420.out _; (with_reducible repeat (first | refine blk_drewN ?_ _ | refine blk_drew ?_ | refine blk_alloc ?_ _)); exact BK404.out) hb); have n3_ := Aside0.mk (blk_below (g := gb411) (o := .cells #[.slice Ao14 t407.length co14, .string t410] 25 (0, 0)) (by (with_reducible repeat (first | refine blk_drewN ?_ _ | refine blk_drew ?_ | refine blk_alloc ?_ _)); refine blk_far ?_ NB411_420.out _; (with_reducible repeat (first | refine blk_drewN ?_ _ | refine blk_drew ?_ | refine blk_alloc ?_ _)); refine blk_far ?_ NB411_420.out _; (with_reducible repeat (first | refine blk_drewN ?_ _ | refine blk_drew ?_ | refine blk_alloc ?_ _)); exact BK411.out) hb); have n4_ := Aside0.mk (blk_below (g := gb420) (o := .cells #[.slice Ao41 t415.length co41, .string t418] 25 (0, 0)) (by (with_reducible repeat (first | refine blk_drewN ?_ _ | refine blk_drew ?_ | refine blk_alloc ?_ _)); refine blk_put (cs := #[.slice Ao41 t415.length co41, .string (⟨#[]⟩ : ByteArray)]) ?_ 1 _ rfl; (with_reducible repeat (first | refine blk_drewN ?_ _ | refine blk_drew ?_ | refine blk_alloc ?_ _)); refine blk_put (cs := #[.slice none 0 0, .string (⟨#[]⟩ : ByteArray)]) ?_ 0 _ rfl; (with_reducible repeat (first | refine blk_drewN ?_ _ | refine blk_drew ?_ | refine blk_alloc ?_ _)); exact BK420.out) hb); have n5_ := Aside0.mk (below_step bwS hb); clear HO_412000; clear HO417; clear BK404; clear BK411; clear BK420; clear HB; have HO_412000 := n0_; have HO417 := n1_; have BK404 := n2_; have BK411 := n3_; have BK420 := n4_; have HB := n5_; clear n0_ n1_ n2_ n3_ n4_ n5_; (try clear hb); (try clear hb2); (try clear hk); (try clear hi)))
        go_ret
        exact ⟨by first | rfl | (simp [errW_none, errW_some] <;> rfl) | (simp [*, errW_none, errW_some] <;> rfl), bwS⟩
       ·rw [if_neg c34] at H
        have c34b0 : (t419 == 0) = false := beq_eq_false_iff_ne.mpr c34
        have c34b1 : (t419 != 0) = true := bne_iff_ne.mpr c34
        obtain rfl := Option.some.inj H
        have hnb47 := NB411_404.out
        have hnc47 := NB404_411.out
        have hcz48_0 : wr.cell? ⟨gb411, 0, none⟩ = some (.slice Ao14 t407.length co14) := (blk_cell BK411.out 0).trans rfl
        have hcz48_1 : wr.cell? ⟨gb411, 1, none⟩ = some (.string t410) := (blk_cell BK411.out 1).trans rfl
        have hfz48_0 := blk_frozen BK411.out 0
        have hfz48_1 := blk_frozen BK411.out 1
        go_wp2_with (first | ((with_reducible refine gate_callee (f := 13) rfl ?_); refine goesL_ (some 30) rfl rfl Tryz.func13 (by kernel_rfl) rfl #[.agg #[.slice Ao14 t407.length co14, .string t410]] rfl am ?_; (with_reducible refine (msg_Message_Text.calls _ _ t407 t410 t414 _ ?side1 ?side2 A28.out).mono ?_); (case side1 => repeat (first | exact (Kd.R_reads' HO_412000.out).2.2 | (with_reducible refine Kd.C_alloc ?_ _) | (with_reducible refine Kd.C_drewN ?_ _) | (with_reducible refine Kd.C_drew ?_))); (case side2 => exact (Kd.R_reads' HO_412000.out).2.1); rintro e w49 ⟨rfl, hb⟩; refine ⟨_, rfl, ?_⟩; have n0_ := Aside0.mk (Kd.R_below (by (with_reducible repeat (first | apply Kd.R_alloc | apply Kd.R_drewN | apply Kd.R_drew)); exact HO_412000.out) hb); have n1_ := Aside0.mk (blk_below (g := gb404) (o := .cells #[.slice A0_0 l0_0.length c0_0, .string a0_1] 31 (0, 0)) bk hb); have n2_ := Aside0.mk (blk_below (g := gb411) (o := .cells #[.slice Ao14 t407.length co14, .string t410] 25 (0, 0)) bk hb); have n3_ := Aside0.mk (below_step bwS hb); clear HO_412000; clear BK404; clear BK411; clear HB; have HO_412000 := n0_; have BK404 := n1_; have BK411 := n2_; have HB := n3_; clear n0_ n1_ n2_ n3_; (try clear hb); (try clear hb2); (try clear hk); (try clear hi)) | ((with_reducible refine gate_callee (f := 10) rfl ?_); refine goesL_ (some 36) rfl rfl Tryz.func10 (by kernel_rfl) rfl #[.string t414] rfl am ?_; (with_reducible refine (msg_Parse.calls (hG := by first | exact hG | exact Glob.below hG (by first | exact HB.out | (repeat (first | (with_reducible first | exact HB.out | apply below_alloc | apply pw_below_drewN | apply below_drew1 | refine below_set ?_ GE404.out | refine below_set ?_ GE411.out | refine below_set ?_ GE420.out) | exact HB.out))) | exact Glob.drawn hG (by repeat (first | exact Drawn0.refl _ | apply Drawn0.step))) k1 t414 t415 t418 t419 _ A33.out).mono ?_); rintro e w50 ⟨v416, rfl, ho0, hb⟩; refine ⟨_, rfl, ?_⟩; have n0_ := Aside0.mk (Kd.R_elder' (by (with_reducible repeat (first | apply Kd.R_alloc | apply Kd.R_drewN | apply Kd.R_drew)); exact HO_412000.out) (Kd.R_base ho0) hb); have n1_ := Aside0.mk (Kd.R_lower (Kd.R_new' ho0 (Kd.R_lt (by (with_reducible repeat (first | apply Kd.R_alloc | apply Kd.R_drewN | apply Kd.R_drew)); exact HO_412000.out))) (below_size bwS)); have n2_ := Aside0.mk (blk_below (g := gb404) (o := .cells #[.slice A0_0 l0_0.length c0_0, .string a0_1] 31 (0, 0)) bk hb); have n3_ := Aside0.mk (blk_below (g := gb411) (o := .cells #[.slice Ao14 t407.length co14, .string t410] 25 (0, 0)) bk hb); have n4_ := Aside0.mk (below_step bwS hb); clear HO_412000; clear BK404; clear BK411; clear HB; have HO_412000 := n0_; have HO417 := n1_; have BK404 := n2_; have BK411 := n3_; have HB := n4_; clear n0_ n1_ n2_ n3_ n4_; (try clear hb); (try clear hb2); (try clear hk); (try clear hi); (try clear ho0)) | ((with_reducible refine gate_dst (N := 6) rfl ?_); refine box_event ?hg (N := 6) ?hd (cs := #[.slice none 0 0, .string (⟨#[]⟩ : ByteArray)]) (t := 25) ?hr ?_; (case hd => rfl); (case hg => rfl); (case hr => first | (go_simp; done) | (go_simp; rfl)); intro gb420 hg w51 hbox hb; have n0_ := Aside0.mk (Kd.R_below (by (with_reducible repeat (first | apply Kd.R_alloc | apply Kd.R_drewN | apply Kd.R_drew)); exact HO_412000.out) hb); have n1_ := Aside0.mk (Kd.R_below (by (with_reducible repeat (first | apply Kd.R_alloc | apply Kd.R_drewN | apply Kd.R_drew)); exact HO417.out) hb); have n2_ := Aside0.mk (blk_below (g := gb404) (o := .cells #[.slice A0_0 l0_0.length c0_0, .string a0_1] 31 (0, 0)) bk hb); have n3_ := Aside0.mk (blk_below (g := gb411) (o := .cells #[.slice Ao14 t407.length co14, .string t410] 25 (0, 0)) bk hb); have n4_ := Aside0.mk (below_step bwS hb); have n5_ := Aside0.mk (hbox); have n6_ := Aside0.mk ((by rw [hg]; exact (below_size bwS) : w.heap.size ≤ gb420)); have n7_ := Aside0.mk ((by rw [hg]; exact (below_size bwS) : w.heap.size ≤ gb420)); have n8_ := Aside0.mk ((by rw [hg]; exact Nat.ne_of_lt (blk_lt (g := gb404) (o := .cells #[.slice A0_0 l0_0.length c0_0, .string a0_1] 31 (0, 0)) bk) : gb404 ≠ gb420)); have n9_ := Aside0.mk ((by rw [hg]; exact Nat.ne_of_gt (blk_lt (g := gb404) (o := .cells #[.slice A0_0 l0_0.length c0_0, .string a0_1] 31 (0, 0)) bk) : gb420 ≠ gb404)); have n10_ := Aside0.mk ((by rw [hg]; exact Nat.ne_of_lt (blk_lt (g := gb411) (o := .cells #[.slice Ao14 t407.length co14, .string t410] 25 (0, 0)) bk) : gb411 ≠ gb420)); have n11_ := Aside0.mk ((by rw [hg]; exact Nat.ne_of_gt (blk_lt (g := gb411) (o := .cells #[.slice Ao14 t407.length co14, .string t410] 25 (0, 0)) bk) : gb420 ≠ gb411)); clear HO_412000; clear HO417; clear BK404; clear BK411; clear HB; have HO_412000 := n0_; have HO417 := n1_; have BK404 := n2_; have BK411 := n3_; have HB := n4_; have BK420 := n5_; have GW420 := n6_; have GE420 := n7_; have NB404_420 := n8_; have NB420_404 := n9_; have NB411_420 := n10_; have NB420_411 := n11_; clear n0_ n1_ n2_ n3_ n4_ n5_ n6_ n7_ n8_ n9_ n10_ n11_; clear hb hbox hg; obtain ⟨Ao52, co52, eo52⟩ := Kd.R_slice HO417.out; subst eo52; have hnb53 := NB420_404.out; have hnc53 := NB404_420.out; have hnb54 := NB420_411.out; have hnc54 := NB411_420.out; have hcz55_0 : w51.cell? ⟨gb420, 0, none⟩ = some (.slice none 0 0) := (blk_cell BK420.out 0).trans rfl; have hcz55_1 : w51.cell? ⟨gb420, 1, none⟩ = some (.string (⟨#[]⟩ : ByteArray)) := (blk_cell BK420.out 1).trans rfl; have hfz55_0 := blk_frozen BK420.out 0; have hfz55_1 := blk_frozen BK420.out 1))
        go_ret
        exact ⟨by first | rfl | (simp [errW_none, errW_some] <;> rfl) | (simp [*, errW_none, errW_some] <;> rfl), bwS⟩
  ·replace c5 := Bool.eq_false_iff.mpr c5
   subst c5
   have H1 : (some true) = some r := by rw [if_neg (show ¬ (false = true) by decide)] at H; exact H
   clear H
   have H := H1
   clear H1
   obtain rfl := Option.some.inj H
   go_enter Tryz.func5, Tryz.ntmps5
   go_wp2_with (first | ((with_reducible refine gate_dst (N := 1) rfl ?_); refine box_event ?hg (N := 1) ?hd (cs := #[.slice A0_0 l0_0.length c0_0, .string a0_1]) (t := 31) ?hr ?_; (case hd => rfl); (case hg => rfl); (case hr => first | (go_simp; done) | (go_simp; rfl)); intro gb404 hg w56 hbox hb; have n0_ := Aside0.mk (below_step bw hb); have n1_ := Aside0.mk (hbox); have n2_ := Aside0.mk ((by rw [hg]; exact (below_size bw) : w.heap.size ≤ gb404)); have n3_ := Aside0.mk ((by rw [hg]; exact (below_size bw) : w.heap.size ≤ gb404)); clear HB; have HB := n0_; have BK404 := n1_; have GW404 := n2_; have GE404 := n3_; clear n0_ n1_ n2_ n3_; clear hb hbox hg) | ((with_reducible refine gate_callee (f := 9) rfl ?_); refine goesL_ (some 8) rfl rfl Tryz.func9 (by kernel_rfl) rfl #[] rfl am ?_; (with_reducible refine (bulletinlaw16_works.calls (hG := by first | exact hG | exact Glob.below hG (by first | exact HB.out | (repeat (first | (with_reducible first | exact HB.out | apply below_alloc | apply pw_below_drewN | apply below_drew1 | refine below_set ?_ GE404.out | refine below_set ?_ GE411.out | refine below_set ?_ GE420.out) | exact HB.out))) | exact Glob.drawn hG (by repeat (first | exact Drawn0.refl _ | apply Drawn0.step))) k  true _ A2.out).mono ?_); rintro e w57 ⟨rfl, hb⟩; refine ⟨_, rfl, ?_⟩; have n0_ := Aside0.mk (blk_below (g := gb404) (o := .cells #[.slice A0_0 l0_0.length c0_0, .string a0_1] 31 (0, 0)) bk hb); have n1_ := Aside0.mk (below_step bwS hb); clear BK404; clear HB; have BK404 := n0_; have HB := n1_; clear n0_ n1_; (try clear hb); (try clear hb2); (try clear hk); (try clear hi); have hcz58_0 : w57.cell? ⟨gb404, 0, none⟩ = some (.slice A0_0 l0_0.length c0_0) := (blk_cell BK404.out 0).trans rfl; have hcz58_1 : w57.cell? ⟨gb404, 1, none⟩ = some (.string a0_1) := (blk_cell BK404.out 1).trans rfl; have hfz58_0 := blk_frozen BK404.out 0; have hfz58_1 := blk_frozen BK404.out 1) | ((with_reducible refine gate_callee (f := 18) rfl ?_); refine goesL_ (some 11) rfl rfl Tryz.func18 (by kernel_rfl) rfl #[.agg #[.slice A0_0 l0_0.length c0_0, .string a0_1]] rfl am ?_; (with_reducible refine (bulletinlaw16_Light.calls k _ _ l0_0 a0_1 false _ ?side1 ?side2 A4.out).mono ?_); (case side1 => repeat (first | exact (Kd.C_below HR0_0.out HB.out) | (with_reducible refine Kd.C_alloc ?_ _) | (with_reducible refine Kd.C_drewN ?_ _) | (with_reducible refine Kd.C_drew ?_))); (case side2 => exact HC0_0.out); rintro e w59 ⟨rfl, hb⟩; refine ⟨_, rfl, ?_⟩; have n0_ := Aside0.mk (blk_below (g := gb404) (o := .cells #[.slice A0_0 l0_0.length c0_0, .string a0_1] 31 (0, 0)) bk hb); have n1_ := Aside0.mk (below_step bwS hb); clear BK404; clear HB; have BK404 := n0_; have HB := n1_; clear n0_ n1_; (try clear hb); (try clear hb2); (try clear hk); (try clear hi)))
   go_ret
   exact ⟨by first | rfl | (simp [errW_none, errW_some] <;> rfl) | (simp [*, errW_none, errW_some] <;> rfl), bwS⟩
 ·replace c3 := Bool.eq_false_iff.mpr c3
  subst c3
  have H1 : (some false) = some r := by rw [if_neg (show ¬ (false = true) by decide)] at H; exact H
  clear H
  have H := H1
  clear H1
  obtain rfl := Option.some.inj H
  go_enter Tryz.func5, Tryz.ntmps5
  go_wp2_with (first | ((with_reducible refine gate_dst (N := 1) rfl ?_); refine box_event ?hg (N := 1) ?hd (cs := #[.slice A0_0 l0_0.length c0_0, .string a0_1]) (t := 31) ?hr ?_; (case hd => rfl); (case hg => rfl); (case hr => first | (go_simp; done) | (go_simp; rfl)); intro gb404 hg w60 hbox hb; have n0_ := Aside0.mk (below_step bw hb); have n1_ := Aside0.mk (hbox); have n2_ := Aside0.mk ((by rw [hg]; exact (below_size bw) : w.heap.size ≤ gb404)); have n3_ := Aside0.mk ((by rw [hg]; exact (below_size bw) : w.heap.size ≤ gb404)); clear HB; have HB := n0_; have BK404 := n1_; have GW404 := n2_; have GE404 := n3_; clear n0_ n1_ n2_ n3_; clear hb hbox hg) | ((with_reducible refine gate_callee (f := 9) rfl ?_); refine goesL_ (some 8) rfl rfl Tryz.func9 (by kernel_rfl) rfl #[] rfl am ?_; (with_reducible refine (bulletinlaw16_works.calls (hG := by first | exact hG | exact Glob.below hG (by first | exact HB.out | (repeat (first | (with_reducible first | exact HB.out | apply below_alloc | apply pw_below_drewN | apply below_drew1 | refine below_set ?_ GE404.out | refine below_set ?_ GE411.out | refine below_set ?_ GE420.out) | exact HB.out))) | exact Glob.drawn hG (by repeat (first | exact Drawn0.refl _ | apply Drawn0.step))) k  false _ A2.out).mono ?_); rintro e w61 ⟨rfl, hb⟩; refine ⟨_, rfl, ?_⟩; have n0_ := Aside0.mk (blk_below (g := gb404) (o := .cells #[.slice A0_0 l0_0.length c0_0, .string a0_1] 31 (0, 0)) bk hb); have n1_ := Aside0.mk (below_step bwS hb); clear BK404; clear HB; have BK404 := n0_; have HB := n1_; clear n0_ n1_; (try clear hb); (try clear hb2); (try clear hk); (try clear hi)))
  go_ret
  exact ⟨by first | rfl | (simp [errW_none, errW_some] <;> rfl) | (simp [*, errW_none, errW_some] <;> rfl), bwS⟩

end Go.Proofs.YtbjbpgmjijeppaaGreatDoor.Fn
namespace Go.Proofs.YtbjbpgmjijeppaaGreatDoor.Fn
open Go.RowKit Go.Proofs.YtbjbpgmjijeppaaGreatDoorW.PrintWords Go.Proofs.YtbjbpgmjijeppaaGreatDoorW.PrintLast Go.Proofs.YtbjbpgmjijeppaaGreatDoorW.PrintMore
attribute [local go_sem] max2_int min2_int max_two min_two max_three min_three max_four min_four
set_option linter.unusedVariables false
set_option linter.unusedSimpArgs false

/-! ### bulletinref15_blank: function 63 -/
def bulletinref15_blank.f (a0 : Int) : Option (Bool) := if a0 = 32 then (some true) else (some (a0 == 9))
end Go.Proofs.YtbjbpgmjijeppaaGreatDoor.Fn
namespace Go.Proofs.YtbjbpgmjijeppaaGreatDoor.Fn
open Go.RowKit Go.Proofs.YtbjbpgmjijeppaaGreatDoorW.PrintWords Go.Proofs.YtbjbpgmjijeppaaGreatDoorW.PrintLast Go.Proofs.YtbjbpgmjijeppaaGreatDoorW.PrintMore
attribute [local go_sem] max2_int min2_int max_two min_two max_three min_three max_four min_four
set_option linter.unusedVariables false
set_option linter.unusedSimpArgs false

/-! ### bulletinref15_Trim: function 65 -/
mutual
def bulletinref15_Trim.j1 : Nat → ByteArray → Option (ByteArray)
 | 0, _ => none
 | k + 1, x0 => bulletinref15_Trim.l1 k x0
def bulletinref15_Trim.l1 : Nat → ByteArray → Option (ByteArray)
 | 0, _ => none
 | k + 1, x0 => if (x0.size : Int) > 0 then (if 0 ≤ (wrap64 ((x0.size : Int) - 1)) then (if (wrap64 ((x0.size : Int) - 1)) < (x0.size : Int) then ((bulletinref15_blank.f (bt x0 (wrap64 ((x0.size : Int) - 1)))).bind fun t306 => (if t306 = true then (if (wrap64 ((x0.size : Int) - 1)) ≤ (x0.size : Int) then (bulletinref15_Trim.l1 k (x0.extract 0 ((wrap64 ((x0.size : Int) - 1)) : Int).toNat)) else (none)) else (some x0))) else (none)) else (none)) else (some x0)
def bulletinref15_Trim.l0 : Nat → ByteArray → Option (ByteArray)
 | 0, _ => none
 | k + 1, x0 => if (x0.size : Int) > 0 then (if 0 < (x0.size : Int) then ((bulletinref15_blank.f (bt x0 0)).bind fun t305 => (if t305 = true then (if 1 ≤ (x0.size : Int) then (bulletinref15_Trim.l0 k (x0.extract 1 x0.size)) else (none)) else (bulletinref15_Trim.j1 k x0))) else (none)) else (bulletinref15_Trim.j1 k x0)
end
def bulletinref15_Trim.f (k : Nat) (a0 : ByteArray) : Option (ByteArray) := bulletinref15_Trim.l0 k a0
end Go.Proofs.YtbjbpgmjijeppaaGreatDoor.Fn
namespace Go.Proofs.YtbjbpgmjijeppaaGreatDoor.Fn
open Go.RowKit Go.Proofs.YtbjbpgmjijeppaaGreatDoorW.PrintWords Go.Proofs.YtbjbpgmjijeppaaGreatDoorW.PrintLast Go.Proofs.YtbjbpgmjijeppaaGreatDoorW.PrintMore
attribute [local go_sem] max2_int min2_int max_two min_two max_three min_three max_four min_four
set_option linter.unusedVariables false
set_option linter.unusedSimpArgs false

/-! ### bulletinref15_line: function 61 -/
def bulletinref15_line.l0 : Nat → ByteArray → Int → Option (Int)
 | 0, _, _ => none
 | k + 1, x0, x3 => if (wrap64 (x3 + 1)) < (x0.size : Int) then (if 0 ≤ x3 then (if x3 < (x0.size : Int) then (if (bt x0 x3) = 13 then (if 0 ≤ (wrap64 (x3 + 1)) then (if (bt x0 (wrap64 (x3 + 1))) = 10 then (some x3) else (bulletinref15_line.l0 k x0 (wrap64 (x3 + 1)))) else (none)) else (bulletinref15_line.l0 k x0 (wrap64 (x3 + 1)))) else (none)) else (none)) else (some (-1))
def bulletinref15_line.f (k : Nat) (a0 : ByteArray) : Option (Int) := bulletinref15_line.l0 k a0 0
end Go.Proofs.YtbjbpgmjijeppaaGreatDoor.Fn
namespace Go.Proofs.YtbjbpgmjijeppaaGreatDoor.Fn
open Go.RowKit Go.Proofs.YtbjbpgmjijeppaaGreatDoorW.PrintWords Go.Proofs.YtbjbpgmjijeppaaGreatDoorW.PrintLast Go.Proofs.YtbjbpgmjijeppaaGreatDoorW.PrintMore
attribute [local go_sem] max2_int min2_int max_two min_two max_three min_three max_four min_four
set_option linter.unusedVariables false
set_option linter.unusedSimpArgs false

/-! ### bulletinref15_named: function 64 -/
def bulletinref15_named.l0 : Nat → ByteArray → Int → Option (Bool)
 | 0, _, _ => none
 | k + 1, x0, x3 => if x3 < (x0.size : Int) then (if 0 ≤ x3 then (if (bt x0 x3) < 33 then (some false) else (if (bt x0 x3) > 126 then (some false) else (if (bt x0 x3) = 58 then (some false) else (bulletinref15_named.l0 k x0 (wrap64 (x3 + 1)))))) else (none)) else (if (x0.size : Int) ≥ 1 then (some (decide ((x0.size : Int) ≤ 76))) else (some false))
def bulletinref15_named.f (k : Nat) (a0 : ByteArray) : Option (Bool) := bulletinref15_named.l0 k a0 0
end Go.Proofs.YtbjbpgmjijeppaaGreatDoor.Fn
namespace Go.Proofs.YtbjbpgmjijeppaaGreatDoor.Fn
open Go.RowKit Go.Proofs.YtbjbpgmjijeppaaGreatDoorW.PrintWords Go.Proofs.YtbjbpgmjijeppaaGreatDoorW.PrintLast Go.Proofs.YtbjbpgmjijeppaaGreatDoorW.PrintMore
attribute [local go_sem] max2_int min2_int max_two min_two max_three min_three max_four min_four
set_option linter.unusedVariables false
set_option linter.unusedSimpArgs false

/-! ### bulletinref15_textual: function 62 -/
def bulletinref15_textual.l0 : Nat → ByteArray → Int → Option (Bool)
 | 0, _, _ => none
 | k + 1, x0, x3 => if x3 < (x0.size : Int) then (if 0 ≤ x3 then (if (bt x0 x3) = 9 then (bulletinref15_textual.l0 k x0 (wrap64 (x3 + 1))) else (if (bt x0 x3) < 32 then (some false) else (if (bt x0 x3) = 127 then (some false) else (bulletinref15_textual.l0 k x0 (wrap64 (x3 + 1)))))) else (none)) else (some true)
def bulletinref15_textual.f (k : Nat) (a0 : ByteArray) : Option (Bool) := bulletinref15_textual.l0 k a0 0
end Go.Proofs.YtbjbpgmjijeppaaGreatDoor.Fn
namespace Go.Proofs.YtbjbpgmjijeppaaGreatDoor.Fn
open Go.RowKit Go.Proofs.YtbjbpgmjijeppaaGreatDoorW.PrintWords Go.Proofs.YtbjbpgmjijeppaaGreatDoorW.PrintLast Go.Proofs.YtbjbpgmjijeppaaGreatDoorW.PrintMore
attribute [local go_sem] max2_int min2_int max_two min_two max_three min_three max_four min_four
set_option linter.unusedVariables false
set_option linter.unusedSimpArgs false

/-! ### bulletinref15_Parse: function 37 -/
mutual
def bulletinref15_Parse.l0 : Nat → ByteArray → List (S67) → ByteArray → Int → Option ((List (S67)) × ByteArray × Int)
 | 0, _, _, _, _ => none
 | k + 1, x0, x5, x6, x7 => if x7 < (x0.size : Int) then (if 0 ≤ x7 then (if x7 ≤ (x0.size : Int) then ((bulletinref15_line.f k (x0.extract (x7 : Int).toNat x0.size)).bind fun t307 => (if t307 < 0 then (some (([] : List (S67)), (⟨#[]⟩ : ByteArray), 9)) else (if x7 ≤ (wrap64 (x7 + t307)) then (if (wrap64 (x7 + t307)) ≤ (x0.size : Int) then (if t307 = 0 then (if 0 ≤ (wrap64 ((wrap64 (x7 + t307)) + 2)) then (if (wrap64 ((wrap64 (x7 + t307)) + 2)) ≤ (x0.size : Int) then (bulletinref15_Parse.l0 k x0 x5 (x0.extract ((wrap64 ((wrap64 (x7 + t307)) + 2)) : Int).toNat x0.size) (x0.size : Int)) else (none)) else (none)) else (if t307 > 998 then (some (([] : List (S67)), (⟨#[]⟩ : ByteArray), 2)) else ((bulletinref15_textual.f k (x0.extract (x7 : Int).toNat ((wrap64 (x7 + t307)) : Int).toNat)).bind fun t308 => (if t308 = true then (if 0 < ((x0.extract (x7 : Int).toNat ((wrap64 (x7 + t307)) : Int).toNat).size : Int) then ((bulletinref15_blank.f (bt (x0.extract (x7 : Int).toNat ((wrap64 (x7 + t307)) : Int).toNat) 0)).bind fun t309 => (if t309 = true then (if (x5.length : Int) = 0 then (some (([] : List (S67)), (⟨#[]⟩ : ByteArray), 150)) else (if 0 ≤ (wrap64 ((x5.length : Int) - 1)) then (if (wrap64 ((x5.length : Int) - 1)) < (x5.length : Int) then (if ((rd_T67 x5 (wrap64 ((x5.length : Int) - 1))).f1).size + (x0.extract (x7 : Int).toNat ((wrap64 (x7 + t307)) : Int).toNat).size ≤ 9223372036854775807 then (bulletinref15_Parse.l0 k x0 (x5.set ((wrap64 ((x5.length : Int) - 1)) : Int).toNat (⟨(rd_T67 x5 (wrap64 ((x5.length : Int) - 1))).f0, ((rd_T67 x5 (wrap64 ((x5.length : Int) - 1))).f1) ++ (x0.extract (x7 : Int).toNat ((wrap64 (x7 + t307)) : Int).toNat)⟩ : S67)) x6 (wrap64 ((wrap64 (x7 + t307)) + 2))) else (none)) else (none)) else (none))) else (bulletinref15_Parse.l1 k x0 x5 x6 (wrap64 ((wrap64 (x7 + t307)) + 2)) (x0.extract (x7 : Int).toNat ((wrap64 (x7 + t307)) : Int).toNat) 0))) else (none)) else (some (([] : List (S67)), (⟨#[]⟩ : ByteArray), 150)))))) else (none)) else (none)))) else (none)) else (none)) else (bulletinref15_Parse.l2 k x5 x6 0)
def bulletinref15_Parse.j2 : Nat → ByteArray → List (S67) → ByteArray → Int → ByteArray → Int → Option ((List (S67)) × ByteArray × Int)
 | 0, _, _, _, _, _, _ => none
 | k + 1, x0, x5, x6, x7, x9, x10 => if x10 = (x9.size : Int) then (bulletinref15_Parse.j3 k x0 x5 x6 x7 x9 x10 true) else (if 0 ≤ x10 then (if x10 ≤ (x9.size : Int) then ((bulletinref15_named.f k (x9.extract 0 (x10 : Int).toNat)).bind fun t312 => (bulletinref15_Parse.j3 k x0 x5 x6 x7 x9 x10 (!t312))) else (none)) else (none))
def bulletinref15_Parse.j3 : Nat → ByteArray → List (S67) → ByteArray → Int → ByteArray → Int → Bool → Option ((List (S67)) × ByteArray × Int)
 | 0, _, _, _, _, _, _, _ => none
 | k + 1, x0, x5, x6, x7, x9, x10, x87 => if x87 = true then (some (([] : List (S67)), (⟨#[]⟩ : ByteArray), 150)) else (if (x5.length : Int) = 100 then (some (([] : List (S67)), (⟨#[]⟩ : ByteArray), 8)) else (if 0 ≤ x10 then (if x10 ≤ (x9.size : Int) then (if 0 ≤ (wrap64 (x10 + 1)) then (if (wrap64 (x10 + 1)) ≤ (x9.size : Int) then (if x5.length < 4398046511104 then (bulletinref15_Parse.l0 k x0 (x5 ++ [(⟨x9.extract 0 (x10 : Int).toNat, x9.extract ((wrap64 (x10 + 1)) : Int).toNat x9.size⟩ : S67)]) x6 x7) else (none)) else (none)) else (none)) else (none)) else (none)))
def bulletinref15_Parse.l1 : Nat → ByteArray → List (S67) → ByteArray → Int → ByteArray → Int → Option ((List (S67)) × ByteArray × Int)
 | 0, _, _, _, _, _, _ => none
 | k + 1, x0, x5, x6, x7, x9, x10 => if x10 < (x9.size : Int) then (if 0 ≤ x10 then (if (bt x9 x10) = 58 then (bulletinref15_Parse.j2 k x0 x5 x6 x7 x9 x10) else (bulletinref15_Parse.l1 k x0 x5 x6 x7 x9 (wrap64 (x10 + 1)))) else (none)) else (bulletinref15_Parse.j2 k x0 x5 x6 x7 x9 x10)
def bulletinref15_Parse.l2 : Nat → List (S67) → ByteArray → Int → Option ((List (S67)) × ByteArray × Int)
 | 0, _, _, _ => none
 | k + 1, x5, x6, x11 => if x11 < (x5.length : Int) then (if 0 ≤ x11 then ((bulletinref15_Trim.f k ((rd_T67 x5 x11).f1)).bind fun t317 => (bulletinref15_Parse.l2 k (x5.set (x11 : Int).toNat (⟨(rd_T67 x5 x11).f0, t317⟩ : S67)) x6 (wrap64 (x11 + 1)))) else (none)) else (some (x5, x6, 0))
end
end Go.Proofs.YtbjbpgmjijeppaaGreatDoor.Fn
set_option linter.unusedVariables false
set_option linter.unusedSimpArgs false
namespace Go.Proofs.YtbjbpgmjijeppaaGreatDoor.Pl
open Go.RowKit Go.Proofs.YtbjbpgmjijeppaaGreatDoorW.PrintWords Go.Proofs.YtbjbpgmjijeppaaGreatDoor.Fn

/-! The document's Parse computes the machine. -/
def toR (f : Fld) : S67 := ⟨str f.1, str f.2⟩
theorem rd_toR (l : List Fld) (i : Nat) : rd_T67 (l.map toR) (i : Int) = toR (l.getD i ([], [])) := by
  unfold rd_T67
  rw [Int.toNat_natCast, List.getD_eq_getElem?_getD, List.getD_eq_getElem?_getD, List.getElem?_map]
  cases l[i]? with
  | none => rfl
  | some x => rfl
theorem crlf_two (c d : UInt8) (r : Bytes) : crlf (c :: d :: r) = if c = 13 ∧ d = 10 then some 0 else (crlf (d :: r)).map (· + 1) := by
  show (if c = 13 ∧ (d :: r).head? = some 10 then some 0 else (crlf (d :: r)).map (· + 1)) = _
  simp only [List.head?_cons, Option.some.injEq]
/-! Trim -/
def ltrim (s : Bytes) : Bytes := s.dropWhile wb
def rtrim (s : Bytes) : Bytes := (s.reverse.dropWhile wb).reverse
theorem rtrim_cons (c : UInt8) (r : Bytes) : rtrim (c :: r) = if rtrim r = [] then (if wb c = true then [] else [c]) else c :: rtrim r := by
  unfold rtrim
  rw [List.reverse_cons, List.dropWhile_append]
  by_cases h : (r.reverse.dropWhile wb) = []
  · rw [h, if_pos (by simp), if_pos (by simp)]
    by_cases hc : wb c = true
    · rw [if_pos hc, List.dropWhile_cons_of_pos hc]; rfl
    · rw [if_neg hc, List.dropWhile_cons_of_neg hc]; rfl
  · rw [if_neg (by simpa using h), if_neg (by simpa using h)]
    simp
theorem trim_comm : ∀ s : Bytes, ltrim (rtrim s) = rtrim (ltrim s)
  | [] => rfl
  | c :: r => by
    have ih := trim_comm r
    by_cases hc : wb c = true
    · have e : ltrim (c :: r) = ltrim r := List.dropWhile_cons_of_pos hc
      rw [e, ← ih, rtrim_cons]
      by_cases h : rtrim r = []
      · rw [if_pos h, if_pos hc, h]
      · rw [if_neg h]; exact List.dropWhile_cons_of_pos hc
    · have e : ltrim (c :: r) = c :: r := List.dropWhile_cons_of_neg hc
      rw [e, rtrim_cons]
      by_cases h : rtrim r = []
      · rw [if_pos h, if_neg hc]; exact List.dropWhile_cons_of_neg hc
      · rw [if_neg h]; exact List.dropWhile_cons_of_neg hc
theorem trim_eq (s : Bytes) : trim s = rtrim (ltrim s) := by rw [← trim_comm]; rfl
end Go.Proofs.YtbjbpgmjijeppaaGreatDoor.Pl
set_option linter.unusedVariables false
set_option linter.unusedSimpArgs false
namespace Go.Proofs.YtbjbpgmjijeppaaGreatDoor.Pl
open Go.RowKit Go.Proofs.YtbjbpgmjijeppaaGreatDoorW.PrintWords Go.Proofs.YtbjbpgmjijeppaaGreatDoor.Fn

/-! The document's Parse: line by line. -/
end Go.Proofs.YtbjbpgmjijeppaaGreatDoor.Pl
set_option linter.unusedVariables false
set_option linter.unusedSimpArgs false
namespace Go.Proofs.YtbjbpgmjijeppaaGreatDoor.Pl
open Go.RowKit Go.Proofs.YtbjbpgmjijeppaaGreatDoorW.PrintWords Go.Proofs.YtbjbpgmjijeppaaGreatDoor.Fn

/-! A field as it is written: its lines. -/
def linesFrom : Nat → Bool → Nat → Bytes → Bytes → List Bytes
  | 0, _, _, _, cur => [cur]
  | f + 1, first, pos, s, cur => if s = [] then [cur] else if brk first pos s = true then cur :: linesFrom f false (0 + pieceL s) (s.drop (pieceL s)) (s.take (pieceL s))
    else linesFrom f false (pos + pieceL s) (s.drop (pieceL s)) (cur ++ s.take (pieceL s))
def flat (l : List Bytes) : Bytes := l.flatMap fun x => x ++ [13, 10]
theorem flat_cons (x : Bytes) (l : List Bytes) : flat (x :: l) = x ++ (13 :: 10 :: flat l) := by simp [flat]
theorem lines_flat : ∀ (f : Nat) (first : Bool) (pos : Nat) (s cur : Bytes), s.length ≤ f → cur ++ (showFrom f first pos s ++ [13, 10]) = flat (linesFrom f first pos s cur)
  | 0, first, pos, s, cur, h => by
    obtain rfl := List.eq_nil_of_length_eq_zero (by omega : s.length = 0)
    simp [showFrom, linesFrom, flat]
  | f + 1, first, pos, s, cur, h => by
    unfold showFrom linesFrom
    by_cases h0 : s = []
    · rw [if_pos h0, if_pos h0]; simp [flat]
    · have hp := pieceL_pos s h0
      have hl : (s.drop (pieceL s)).length ≤ f := by rw [List.length_drop]; omega
      rw [if_neg h0, if_neg h0]
      by_cases hb : brk first pos s = true
      · rw [if_pos hb, if_pos hb, if_pos hb, flat_cons, ← lines_flat f false (0 + pieceL s) _ (s.take (pieceL s)) hl]
        simp
      · rw [if_neg hb, if_neg hb, if_neg hb, ← lines_flat f false (pos + pieceL s) _ (cur ++ s.take (pieceL s)) hl]
        simp
theorem drop_takeWhile (p : UInt8 → Bool) : ∀ l : Bytes, l.drop (l.takeWhile p).length = l.dropWhile p
  | [] => rfl
  | c :: r => by
    by_cases h : p c = true
    · rw [List.takeWhile_cons_of_pos h, List.dropWhile_cons_of_pos h, List.length_cons, List.drop_succ_cons, drop_takeWhile p r]
    · rw [List.takeWhile_cons_of_neg h, List.dropWhile_cons_of_neg h]; rfl
theorem dropWhile_head (p : UInt8 → Bool) : ∀ l : Bytes, l.dropWhile p = [] ∨ p ((l.dropWhile p).headD 0) = false
  | [] => .inl rfl
  | c :: r => by
    by_cases h : p c = true
    · rw [List.dropWhile_cons_of_pos h]; exact dropWhile_head p r
    · rw [List.dropWhile_cons_of_neg h]; right; simpa using h
theorem piece_next (s : Bytes) : s.drop (pieceL s) = [] ∨ wb ((s.drop (pieceL s)).headD 0) = true := by
  have e : s.drop (pieceL s) = (s.drop (lead s)).dropWhile (fun c => !wb c) := by
    rw [← drop_takeWhile, List.drop_drop]
    rfl
  rw [e]
  rcases dropWhile_head (fun c => !wb c) (s.drop (lead s)) with h | h
  · exact .inl h
  · exact .inr (by simpa using h)
theorem head_take {s : Bytes} {n : Nat} (h0 : 0 < n) (r : Bytes) (hs : s ≠ []) : (s.take n ++ r).headD 0 = s.headD 0 ∧ s.take n ++ r ≠ [] := by
  cases s with
  | nil => exact absurd rfl hs
  | cons c s =>
    obtain ⟨n, rfl⟩ : ∃ m, n = m + 1 := ⟨n - 1, by omega⟩
    simp
theorem lines_shape : ∀ (f : Nat) (first : Bool) (pos : Nat) (s cur : Bytes), s.length ≤ f → (s = [] ∨ wb (s.headD 0) = true) →
    ∃ t Ls, linesFrom f first pos s cur = (cur ++ t) :: Ls ∧ t ++ Ls.flatten = s ∧ (∀ x ∈ Ls, wb (x.headD 0) = true ∧ x ≠ [])
  | 0, first, pos, s, cur, h, _ => by
    obtain rfl := List.eq_nil_of_length_eq_zero (by omega : s.length = 0)
    exact ⟨[], [], by simp [linesFrom], rfl, by simp⟩
  | f + 1, first, pos, s, cur, h, hw => by
    unfold linesFrom
    by_cases h0 : s = []
    · rw [if_pos h0]; exact ⟨[], [], by simp, by simp [h0], by simp⟩
    · have hp := pieceL_pos s h0
      have hl : (s.drop (pieceL s)).length ≤ f := by rw [List.length_drop]; omega
      have hw' : wb (s.headD 0) = true := hw.resolve_left h0
      rw [if_neg h0]
      by_cases hb : brk first pos s = true
      · rw [if_pos hb]
        obtain ⟨t, Ls, e1, e2, e3⟩ := lines_shape f false (0 + pieceL s) (s.drop (pieceL s)) (s.take (pieceL s)) hl (piece_next s)
        refine ⟨[], (s.take (pieceL s) ++ t) :: Ls, by rw [e1]; simp, ?_, ?_⟩
        · rw [List.flatten_cons, List.nil_append, List.append_assoc, e2, List.take_append_drop]
        · intro x hx
          rcases List.mem_cons.1 hx with rfl | hx
          · obtain ⟨g1, g2⟩ := head_take hp t h0
            exact ⟨by rw [g1]; exact hw', g2⟩
          · exact e3 x hx
      · rw [if_neg hb]
        obtain ⟨t, Ls, e1, e2, e3⟩ := lines_shape f false (pos + pieceL s) (s.drop (pieceL s)) (cur ++ s.take (pieceL s)) hl (piece_next s)
        refine ⟨s.take (pieceL s) ++ t, Ls, by rw [e1, List.append_assoc], ?_, e3⟩
        rw [List.append_assoc, e2, List.take_append_drop]
def noCr (l : Bytes) : Prop := ∀ c ∈ l, c ≠ 13
theorem crlf_line : ∀ (l rest : Bytes), noCr l → crlf (l ++ (13 :: 10 :: rest)) = some l.length
  | [], rest, _ => by rw [List.nil_append, crlf_two, if_pos ⟨rfl, rfl⟩]; rfl
  | c :: l, rest, h => by
    have ih := crlf_line l rest (fun x hx => h x (List.mem_cons_of_mem _ hx))
    have hc : c ≠ 13 := h c (by simp)
    show (if c = 13 ∧ (l ++ (13 :: 10 :: rest)).head? = some 10 then some 0 else (crlf (l ++ (13 :: 10 :: rest))).map (· + 1)) = _
    rw [if_neg (fun e => hc e.1), ih]
    rfl
theorem text_noCr {l : Bytes} (h : textual l = true) : noCr l := by
  intro c hc e
  subst e
  have := List.all_eq_true.1 h 13 hc
  revert this
  decide
theorem parseM_fuel : ∀ (n m : Nat) (s : Bytes) (l : List Fld), s.length < n → s.length < m → parseM n s l = parseM m s l
  | 0, m, s, l, h, _ => by omega
  | n + 1, 0, s, l, _, h => by omega
  | n + 1, m + 1, s, l, hn, hm => by
    rw [parseM, parseM]
    by_cases h0 : s = []
    · rw [if_pos h0, if_pos h0]
    · rw [if_neg h0, if_neg h0]
      cases hc : crlf s with
      | none => rfl
      | some i =>
        have hr := crlf_room hc
        have hd : (s.drop (i + 2)).length = s.length - (i + 2) := List.length_drop
        simp only []
        rw [parseM_fuel n m (s.drop (i + 2)) _ (by omega) (by omega)]
theorem parse_one {line rest : Bytes} {l l' : List Fld} (hcr : noCr line) (h0 : line ≠ []) (hg : growL l line = (l', 0)) (n m : Nat) (hn : (line ++ (13 :: 10 :: rest)).length < n) (hm : rest.length < m) :
    parseM n (line ++ (13 :: 10 :: rest)) l = parseM m rest l' := by
  obtain ⟨n, rfl⟩ : ∃ q, n = q + 1 := ⟨n - 1, by omega⟩
  have hi : line.length ≠ 0 := fun e => h0 (List.eq_nil_of_length_eq_zero e)
  rw [List.length_append, List.length_cons, List.length_cons] at hn
  have e1 : (line ++ (13 :: 10 :: rest)).take line.length = line := List.take_left
  have e2 : (line ++ (13 :: 10 :: rest)).drop (line.length + 2) = rest := by
    rw [← List.drop_drop, List.drop_left]; rfl
  rw [parseM, if_neg (by simp), crlf_line line rest hcr]
  simp only []
  rw [if_neg hi, e1, e2, hg]
  rw [if_pos rfl]
  exact parseM_fuel n m rest l' (by omega) hm
theorem addLast_snoc (l : List Fld) (a : Fld) (x : Bytes) : addLast (l ++ [a]) x = l ++ [(a.1, a.2 ++ x)] := by
  unfold addLast
  have e : (l ++ [a]).length - 1 = l.length := by simp
  rw [e, List.getD_eq_getElem?_getD, List.getElem?_append_right (Nat.le_refl _), Nat.sub_self]
  simp [List.set_append]
theorem grow_more (l : List Fld) (a : Fld) (x : Bytes) (hx : x.length ≤ 998) (ht : textual x = true) (hw : wb (x.headD 0) = true) : growL (l ++ [a]) x = (l ++ [(a.1, a.2 ++ x)], 0) := by
  unfold growL
  rw [if_neg (by omega), if_neg (by rw [ht]; decide), if_pos hw, if_neg (by simp), addLast_snoc]
theorem upto_name : ∀ (n t : Bytes), n.all nameB = true → upto 58 (n ++ (58 :: t)) = n.length
  | [], t, _ => by simp [upto]
  | c :: n, t, h => by
    rw [List.all_cons, Bool.and_eq_true] at h
    have ih := upto_name n t h.2
    have hc : c ≠ 58 := by
      rintro rfl
      have := h.1
      revert this
      decide
    rw [List.cons_append, upto, if_neg hc, ih]
    rfl
theorem name_text {n : Bytes} (h : n.all nameB = true) : textual n = true := by
  unfold textual
  rw [List.all_eq_true] at h ⊢
  intro c hc
  have := h c hc
  unfold nameB at this
  unfold textB
  simp only [Bool.and_eq_true, Bool.not_eq_true', decide_eq_false_iff_not, Bool.or_eq_true, decide_eq_true_iff] at this ⊢
  omega
theorem name_head {n : Bytes} (h : named n = true) (t : Bytes) : wb ((n ++ t).headD 0) = false ∧ n ≠ [] := by
  unfold named at h
  simp only [Bool.and_eq_true, Bool.not_eq_true', decide_eq_false_iff_not, decide_eq_true_iff] at h
  cases n with
  | nil => exact absurd rfl h.2.1
  | cons c n =>
    refine ⟨?_, by simp⟩
    have hc := List.all_eq_true.1 h.1 c (by simp)
    unfold nameB at hc
    simp only [Bool.and_eq_true, Bool.not_eq_true', decide_eq_false_iff_not] at hc
    rw [List.cons_append, List.headD_cons, wb_nat]
    simp only [Bool.or_eq_false_iff, decide_eq_false_iff_not]
    omega
theorem textual_app (a b : Bytes) : textual (a ++ b) = (textual a && textual b) := by unfold textual; rw [List.all_append]
theorem grow_first (l : List Fld) (n t : Bytes) (hn : named n = true) (ht : textual t = true) (hlen : (n ++ (58 :: t)).length ≤ 998) (hl : l.length < 100) : growL l (n ++ (58 :: t)) = (l ++ [(n, t)], 0) := by
  have hall : n.all nameB = true := by unfold named at hn; exact (Bool.and_eq_true _ _ ▸ hn).1
  have hu := upto_name n t hall
  have h1 : textual (n ++ (58 :: t)) = true := by
    rw [textual_app, name_text hall, Bool.true_and, show (58 :: t : Bytes) = [58] ++ t from rfl, textual_app, ht]; decide
  unfold growL
  rw [if_neg (by omega), if_neg (by rw [h1]; decide), if_neg (by rw [(name_head hn _).1]; decide), hu, if_neg (by simp), List.take_left, if_neg (by rw [hn]; decide), if_neg (by omega)]
  rw [← List.drop_drop, List.drop_left]
  rfl
theorem parse_more (l : List Fld) (n : Bytes) : ∀ (Ls : List Bytes) (v rest : Bytes) (N M : Nat), (∀ x ∈ Ls, wb (x.headD 0) = true ∧ x ≠ [] ∧ x.length ≤ 998 ∧ textual x = true) → (flat Ls ++ rest).length < N → rest.length < M →
    parseM N (flat Ls ++ rest) (l ++ [(n, v)]) = parseM M rest (l ++ [(n, v ++ Ls.flatten)])
  | [], v, rest, N, M, _, hN, hM => by
    simp only [flat, List.flatMap_nil, List.nil_append, List.flatten_nil, List.append_nil] at hN ⊢
    exact parseM_fuel N M rest _ hN hM
  | x :: Ls, v, rest, N, M, h, hN, hM => by
    obtain ⟨h1, h2, h3, h4⟩ := h x (by simp)
    have e : flat (x :: Ls) ++ rest = x ++ (13 :: 10 :: (flat Ls ++ rest)) := by rw [flat_cons]; simp
    rw [e] at hN ⊢
    rw [parse_one (text_noCr h4) h2 (grow_more l (n, v) x h3 h4 h1) N ((flat Ls ++ rest).length + 1) hN (by omega)]
    rw [parse_more l n Ls (v ++ x) rest _ M (fun y hy => h y (List.mem_cons_of_mem _ hy)) (by omega) hM]
    simp
def lead1 (v : Bytes) : Bytes := if v = [] then [] else 32 :: v
theorem cuts_flat : ∀ (ls : List Bytes), (∀ x ∈ ls, noCr x) → linesL (str (flat ls)) = ls.map str ++ [str []]
  | [], _ => by
    unfold linesL
    rw [show flat [] = [] from rfl, cuts_last finds_crlf _ (by unfold findCrlf; rw [str_data]; decide)]
    rfl
  | x :: ls, h => by
    have ih := cuts_flat ls (fun y hy => h y (List.mem_cons_of_mem _ hy))
    have hf : findCrlf (str (flat (x :: ls))) = (x.length : Int) := by
      unfold findCrlf
      rw [str_data, index_crlf, flat_cons, crlf_line x (flat ls) (h x (by simp))]
    unfold linesL at ih ⊢
    rw [cuts_more finds_crlf _ (by rw [hf]; omega), hf, Int.toNat_natCast]
    have e1 : (str (flat (x :: ls))).extract 0 x.length = str x := by rw [str_extract, flat_cons, List.take_left, List.drop_zero]
    have e2 : (str (flat (x :: ls))).extract (x.length + 2) (str (flat (x :: ls))).size = str (flat ls) := by
      rw [str_extract, str_size, List.take_of_length_le (Nat.le_refl _), flat_cons, ← List.drop_drop, List.drop_left]
      rfl
    rw [e1, e2, ih]
    rfl
theorem show_lines (n v : Bytes) : showL n v = flat (linesFrom (v.length + 1) true (n.length + 1) (lead1 v) (n ++ [58])) := by
  unfold showL
  have : (lead1 v).length ≤ v.length + 1 := by unfold lead1; split <;> simp
  rw [← lines_flat _ _ _ _ _ this]
  rfl
theorem field_lines {n v : Bytes} (h : rightL n v = true) : ∃ t Ls, showL n v = flat ((n ++ (58 :: t)) :: Ls) ∧ t ++ Ls.flatten = lead1 v ∧ named n = true ∧ textual t = true ∧ (n ++ (58 :: t)).length ≤ 998 ∧
    (∀ x ∈ Ls, wb (x.headD 0) = true ∧ x ≠ [] ∧ x.length ≤ 998 ∧ textual x = true) ∧ trim v = v ∧ linesFrom (v.length + 1) true (n.length + 1) (lead1 v) (n ++ [58]) = (n ++ (58 :: t)) :: Ls := by
  unfold rightL at h
  simp only [Bool.and_eq_true, decide_eq_true_iff] at h
  obtain ⟨hn, ht, htr, hl⟩ := h
  have hlen : (lead1 v).length ≤ v.length + 1 := by unfold lead1; split <;> simp
  have hhd : lead1 v = [] ∨ wb ((lead1 v).headD 0) = true := by
    unfold lead1
    split
    · exact .inl rfl
    · exact .inr rfl
  obtain ⟨t, Ls, e1, e2, e3⟩ := lines_shape (v.length + 1) true (n.length + 1) (lead1 v) (n ++ [58]) hlen hhd
  have e1' : linesFrom (v.length + 1) true (n.length + 1) (lead1 v) (n ++ [58]) = (n ++ (58 :: t)) :: Ls := by rw [e1]; simp
  have htl : textual (lead1 v) = true := by
    unfold lead1
    split
    · rfl
    · rw [show (32 :: v : Bytes) = [32] ++ v from rfl, textual_app, ht]; decide
  have hmem : ∀ c, c ∈ lead1 v → textB c = true := fun c hc => List.all_eq_true.1 htl c hc
  have htt : textual t = true := List.all_eq_true.2 fun c hc => hmem c (by rw [← e2]; exact List.mem_append_left _ hc)
  have htx : ∀ x ∈ Ls, textual x = true := fun x hx => List.all_eq_true.2 fun c hc => hmem c (by rw [← e2]; exact List.mem_append_right _ (List.mem_flatten.2 ⟨x, hx, hc⟩))
  have hall : n.all nameB = true := by unfold named at hn; exact (Bool.and_eq_true _ _ ▸ hn).1
  have h0 : textual (n ++ (58 :: t)) = true := by
    rw [textual_app, name_text hall, Bool.true_and, show (58 :: t : Bytes) = [58] ++ t from rfl, textual_app, htt]; decide
  have hs : showL n v = flat ((n ++ (58 :: t)) :: Ls) := by rw [show_lines, e1']
  rw [hs, cuts_flat _ (fun x hx => by
    rcases List.mem_cons.1 hx with rfl | hx
    · exact text_noCr h0
    · exact text_noCr (htx x hx))] at hl
  rw [List.all_eq_true] at hl
  have hfit : ∀ x ∈ (n ++ (58 :: t)) :: Ls, x.length ≤ 998 := fun x hx => by
    have := hl (str x) (List.mem_append_left _ (List.mem_map_of_mem hx))
    unfold fitsL at this
    rw [decide_eq_true_iff, str_size] at this
    exact this
  exact ⟨t, Ls, hs, e2, hn, htt, hfit _ (by simp), fun x hx => ⟨(e3 x hx).1, (e3 x hx).2, hfit x (List.mem_cons_of_mem _ hx), htx x hx⟩, htr, e1'⟩
theorem parse_field {n v : Bytes} (h : rightL n v = true) (l : List Fld) (hl : l.length < 100) (rest : Bytes) (N M : Nat) (hN : (showL n v ++ rest).length < N) (hM : rest.length < M) :
    parseM N (showL n v ++ rest) l = parseM M rest (l ++ [(n, lead1 v)]) := by
  obtain ⟨t, Ls, hs, e2, hn, ht, h998, hLs, htr, _⟩ := field_lines h
  have hall : n.all nameB = true := by unfold named at hn; exact (Bool.and_eq_true _ _ ▸ hn).1
  have h0 : textual (n ++ (58 :: t)) = true := by
    rw [textual_app, name_text hall, Bool.true_and, show (58 :: t : Bytes) = [58] ++ t from rfl, textual_app, ht]; decide
  have e : showL n v ++ rest = (n ++ (58 :: t)) ++ (13 :: 10 :: (flat Ls ++ rest)) := by rw [hs, flat_cons]; simp
  rw [e] at hN ⊢
  rw [parse_one (text_noCr h0) (by simp) (grow_first l n t hn ht h998 hl) N ((flat Ls ++ rest).length + 1) hN (by omega), parse_more l n Ls t rest _ M hLs (by omega) hM, e2]
theorem trim_lead1 {v : Bytes} (h : trim v = v) : trim (lead1 v) = v := by
  unfold lead1
  split
  · rename_i e; rw [e]; rfl
  · rw [trim_eq] at h ⊢
    rw [show ltrim (32 :: v) = ltrim v from List.dropWhile_cons_of_pos (by decide)]
    exact h
theorem parse_fields : ∀ (fs : List Fld) (l : List Fld) (rest : Bytes) (N M : Nat), (∀ f ∈ fs, rightL f.1 f.2 = true) → l.length + fs.length ≤ 100 → (printL fs ++ rest).length < N → rest.length < M →
    parseM N (printL fs ++ rest) l = parseM M rest (l ++ fs.map fun f => (f.1, lead1 f.2))
  | [], l, rest, N, M, _, _, hN, hM => by
    simp only [printL, List.flatMap_nil, List.nil_append, List.map_nil, List.append_nil] at hN ⊢
    exact parseM_fuel N M rest l hN hM
  | f :: fs, l, rest, N, M, h, hl, hN, hM => by
    rw [List.length_cons] at hl
    have e : printL (f :: fs) ++ rest = showL f.1 f.2 ++ (printL fs ++ rest) := by simp [printL]
    rw [e] at hN ⊢
    rw [parse_field (h f (by simp)) l (by omega) (printL fs ++ rest) N ((printL fs ++ rest).length + 1) hN (by omega),
      parse_fields fs (l ++ [(f.1, lead1 f.2)]) rest _ M (fun g hg => h g (List.mem_cons_of_mem _ hg)) (by rw [List.length_append]; simp only [List.length_cons, List.length_nil]; omega) (by omega) hM]
    simp
theorem trims_back (fs : List Fld) (h : ∀ f ∈ fs, rightL f.1 f.2 = true) : (fs.map fun f => (f.1, lead1 f.2)).map trimF = fs := by
  rw [List.map_map]
  have : ∀ f ∈ fs, (trimF ∘ fun f : Fld => (f.1, lead1 f.2)) f = id f := fun f hf => by
    obtain ⟨_, _, _, _, _, _, _, _, htr, _⟩ := field_lines (h f hf)
    show (f.1, trim (lead1 f.2)) = f
    rw [trim_lead1 htr]
  rw [List.map_congr_left this, List.map_id]
theorem parse_print (fs : List Fld) (h : ∀ f ∈ fs, rightL f.1 f.2 = true) (hl : fs.length ≤ 100) (body : Bytes) : parseH (printL fs ++ (13 :: 10 :: body)) = (fs, body, 0) := by
  unfold parseH
  rw [parse_fields fs [] (13 :: 10 :: body) _ (body.length + 3) h (by simpa using hl) (by omega) (by simp), List.nil_append, parseM, if_neg (by simp), crlf_two, if_pos ⟨rfl, rfl⟩]
  simp only []
  rw [if_pos trivial, trims_back fs h]
  rfl
end Go.Proofs.YtbjbpgmjijeppaaGreatDoor.Pl
namespace Go.Proofs.YtbjbpgmjijeppaaGreatDoor.Fn
open Go.RowKit Go.Proofs.YtbjbpgmjijeppaaGreatDoorW.PrintWords Go.Proofs.YtbjbpgmjijeppaaGreatDoorW.PrintLast Go.Proofs.YtbjbpgmjijeppaaGreatDoorW.PrintMore
attribute [local go_sem] max2_int min2_int max_two min_two max_three min_three max_four min_four
set_option linter.unusedVariables false
set_option linter.unusedSimpArgs false

/-! ### bulletinref15_Lines: function 91 -/
mutual
def bulletinref15_Lines.j0 : Nat → List ByteArray → ByteArray → ByteArray → Option (List ByteArray)
 | 0, _, _, _ => none
 | k + 1, x3, x4, x5 => bulletinref15_Lines.l0 k x3 x4 x5 true 0
def bulletinref15_Lines.l0 : Nat → List ByteArray → ByteArray → ByteArray → Bool → Int → Option (List ByteArray)
 | 0, _, _, _, _, _ => none
 | k + 1, x3, x4, x5, x6, x7 => if x7 < (x5.size : Int) then (bulletinref15_Lines.l1 k x3 x4 x5 x6 x7 x7) else (if x3.length < 8796093022208 then (some (x3 ++ [x4])) else (none))
def bulletinref15_Lines.j3 : Nat → List ByteArray → ByteArray → ByteArray → Bool → Int → Int → Option (List ByteArray)
 | 0, _, _, _, _, _, _ => none
 | k + 1, x3, x4, x5, x6, x7, x8 => bulletinref15_Lines.l2 k x3 x4 x5 x6 x7 x8
def bulletinref15_Lines.l2 : Nat → List ByteArray → ByteArray → ByteArray → Bool → Int → Int → Option (List ByteArray)
 | 0, _, _, _, _, _, _ => none
 | k + 1, x3, x4, x5, x6, x7, x8 => if x8 < (x5.size : Int) then (if 0 ≤ x8 then ((bulletinref15_blank.f (bt x5 x8)).bind fun t337 => (if t337 = true then (if x6 = true then (if 0 ≤ x7 then (if x7 ≤ x8 then (if x8 ≤ (x5.size : Int) then (if x4.size + (x5.extract (x7 : Int).toNat (x8 : Int).toNat).size ≤ 9223372036854775807 then (bulletinref15_Lines.l0 k x3 (x4 ++ (x5.extract (x7 : Int).toNat (x8 : Int).toNat)) x5 false x8) else (none)) else (none)) else (none)) else (none)) else (if (wrap64 ((wrap64 ((x4.size : Int) + x8)) - x7)) > 78 then (if x3.length < 8796093022208 then (if 0 ≤ x7 then (if x7 ≤ x8 then (if x8 ≤ (x5.size : Int) then (if 0 + (x5.extract (x7 : Int).toNat (x8 : Int).toNat).size ≤ 9223372036854775807 then (bulletinref15_Lines.l0 k (x3 ++ [x4]) ((⟨#[]⟩ : ByteArray) ++ (x5.extract (x7 : Int).toNat (x8 : Int).toNat)) x5 false x8) else (none)) else (none)) else (none)) else (none)) else (none)) else (if 0 ≤ x7 then (if x7 ≤ x8 then (if x8 ≤ (x5.size : Int) then (if x4.size + (x5.extract (x7 : Int).toNat (x8 : Int).toNat).size ≤ 9223372036854775807 then (bulletinref15_Lines.l0 k x3 (x4 ++ (x5.extract (x7 : Int).toNat (x8 : Int).toNat)) x5 false x8) else (none)) else (none)) else (none)) else (none)))) else (bulletinref15_Lines.l2 k x3 x4 x5 x6 x7 (wrap64 (x8 + 1))))) else (none)) else (if x6 = true then (if 0 ≤ x7 then (if x7 ≤ x8 then (if x8 ≤ (x5.size : Int) then (if x4.size + (x5.extract (x7 : Int).toNat (x8 : Int).toNat).size ≤ 9223372036854775807 then (bulletinref15_Lines.l0 k x3 (x4 ++ (x5.extract (x7 : Int).toNat (x8 : Int).toNat)) x5 false x8) else (none)) else (none)) else (none)) else (none)) else (if (wrap64 ((wrap64 ((x4.size : Int) + x8)) - x7)) > 78 then (if x3.length < 8796093022208 then (if 0 ≤ x7 then (if x7 ≤ x8 then (if x8 ≤ (x5.size : Int) then (if 0 + (x5.extract (x7 : Int).toNat (x8 : Int).toNat).size ≤ 9223372036854775807 then (bulletinref15_Lines.l0 k (x3 ++ [x4]) ((⟨#[]⟩ : ByteArray) ++ (x5.extract (x7 : Int).toNat (x8 : Int).toNat)) x5 false x8) else (none)) else (none)) else (none)) else (none)) else (none)) else (if 0 ≤ x7 then (if x7 ≤ x8 then (if x8 ≤ (x5.size : Int) then (if x4.size + (x5.extract (x7 : Int).toNat (x8 : Int).toNat).size ≤ 9223372036854775807 then (bulletinref15_Lines.l0 k x3 (x4 ++ (x5.extract (x7 : Int).toNat (x8 : Int).toNat)) x5 false x8) else (none)) else (none)) else (none)) else (none))))
def bulletinref15_Lines.l1 : Nat → List ByteArray → ByteArray → ByteArray → Bool → Int → Int → Option (List ByteArray)
 | 0, _, _, _, _, _, _ => none
 | k + 1, x3, x4, x5, x6, x7, x8 => if x8 < (x5.size : Int) then (if 0 ≤ x8 then ((bulletinref15_blank.f (bt x5 x8)).bind fun t336 => (if t336 = true then (bulletinref15_Lines.l1 k x3 x4 x5 x6 x7 (wrap64 (x8 + 1))) else (bulletinref15_Lines.j3 k x3 x4 x5 x6 x7 x8))) else (none)) else (bulletinref15_Lines.j3 k x3 x4 x5 x6 x7 x8)
end
end Go.Proofs.YtbjbpgmjijeppaaGreatDoor.Fn
namespace Go.Proofs.YtbjbpgmjijeppaaGreatDoor.Fn
open Go.RowKit Go.Proofs.YtbjbpgmjijeppaaGreatDoorW.PrintWords Go.Proofs.YtbjbpgmjijeppaaGreatDoorW.PrintLast Go.Proofs.YtbjbpgmjijeppaaGreatDoorW.PrintMore
attribute [local go_sem] max2_int min2_int max_two min_two max_three min_three max_four min_four
set_option linter.unusedVariables false
set_option linter.unusedSimpArgs false

/-! ### bulletinref15_Show: function 68 -/
end Go.Proofs.YtbjbpgmjijeppaaGreatDoor.Fn
namespace Go.Proofs.YtbjbpgmjijeppaaGreatDoor.Fn
open Go.RowKit Go.Proofs.YtbjbpgmjijeppaaGreatDoorW.PrintWords Go.Proofs.YtbjbpgmjijeppaaGreatDoorW.PrintLast Go.Proofs.YtbjbpgmjijeppaaGreatDoorW.PrintMore
attribute [local go_sem] max2_int min2_int max_two min_two max_three min_three max_four min_four
set_option linter.unusedVariables false
set_option linter.unusedSimpArgs false

/-! ### bulletinref15_Print: function 40 -/
end Go.Proofs.YtbjbpgmjijeppaaGreatDoor.Fn
set_option linter.unusedVariables false
set_option linter.unusedSimpArgs false
namespace Go.Proofs.YtbjbpgmjijeppaaGreatDoor.Pl
open Go.RowKit Go.Proofs.YtbjbpgmjijeppaaGreatDoorW.PrintWords Go.Proofs.YtbjbpgmjijeppaaGreatDoor.Fn

/-! Layer 15: the document writes the same -/
end Go.Proofs.YtbjbpgmjijeppaaGreatDoor.Pl
set_option linter.unusedVariables false
set_option linter.unusedSimpArgs false
namespace Go.Proofs.YtbjbpgmjijeppaaGreatDoor.Pl
open Go.RowKit Go.Proofs.YtbjbpgmjijeppaaGreatDoorW.PrintWords Go.Proofs.YtbjbpgmjijeppaaGreatDoor.Fn

/-! Layer 14: so many addresses. -/
end Go.Proofs.YtbjbpgmjijeppaaGreatDoor.Pl
set_option linter.unusedVariables false
set_option linter.unusedSimpArgs false
namespace Go.Proofs.YtbjbpgmjijeppaaGreatDoor.Pl
open Go.RowKit Go.Proofs.YtbjbpgmjijeppaaGreatDoorW.PrintWords Go.Proofs.YtbjbpgmjijeppaaGreatDoor.Fn

/-! Layer 14: what the program's functions compute -/
end Go.Proofs.YtbjbpgmjijeppaaGreatDoor.Pl
set_option linter.unusedVariables false
namespace Go.Proofs.YtbjbpgmjijeppaaGreatDoor.Pl
open Go.RowKit Go.Proofs.YtbjbpgmjijeppaaGreatDoorW.PrintWords Go.Proofs.YtbjbpgmjijeppaaGreatDoor.Fn
set_option maxRecDepth 100000 in
theorem works16 (k : Nat) (hk : 200 ≤ k) : bulletinlaw16_works.f k = some true := mono_up (fun k => bulletinlaw16_works.mono k) (show bulletinlaw16_works.f 200 = some true by decide +kernel) k hk
end Go.Proofs.YtbjbpgmjijeppaaGreatDoor.Pl
set_option linter.unusedVariables false
set_option linter.unusedSimpArgs false
namespace Go.Proofs.YtbjbpgmjijeppaaGreatDoor.Pl
open Go.RowKit Go.Proofs.YtbjbpgmjijeppaaGreatDoorW.PrintWords Go.Proofs.YtbjbpgmjijeppaaGreatDoor.Fn

theorem same_rounds (l : List Fld) (hl : l.length ≤ 1000000000) : ∀ (n i k : Nat), l.length = i + n → n < k → bulletinlaw15_Same.l0 k (l.map toP) (l.map toR) true (i : Int) = some true := by
  intro n
  induction n with
  | zero =>
    intro i k h hk
    obtain ⟨k, rfl⟩ : ∃ q, k = q + 1 := ⟨k - 1, by omega⟩
    rw [bulletinlaw15_Same.l0, if_pos rfl, List.length_map, if_neg (by omega)]
  | succ n ih =>
    intro i k h hk
    obtain ⟨k, rfl⟩ : ∃ q, k = q + 1 := ⟨k - 1, by omega⟩
    have hn := ih (i + 1) k (by omega) (by omega)
    rw [bulletinlaw15_Same.l0, if_pos rfl, List.length_map, List.length_map, if_pos (by omega), if_pos (by omega), if_pos (by omega), rd_toP, rd_toR]
    have e1 : (toP (l.getD i ([], []))).f0.toList = (toR (l.getD i ([], []))).f0.toList := rfl
    have e2 : ((toP (l.getD i ([], []))).f1.toList == (toR (l.getD i ([], []))).f1.toList) = true := beq_iff_eq.mpr rfl
    rw [if_pos e1, e2, wrap_succ i (by omega), hn]
theorem same_is (l : List Fld) (hl : l.length ≤ 1000000000) (k : Nat) (hk : l.length < k) : bulletinlaw15_Same.f k (l.map toP) (l.map toR) = some true := by
  unfold bulletinlaw15_Same.f
  rw [List.length_map, List.length_map, show ((l.length : Int) == (l.length : Int)) = true from beq_iff_eq.mpr rfl]
  exact same_rounds l hl l.length 0 k (by omega) hk
end Go.Proofs.YtbjbpgmjijeppaaGreatDoor.Pl
set_option linter.unusedVariables false
set_option linter.unusedSimpArgs false
namespace Go.Proofs.YtbjbpgmjijeppaaGreatDoor.Pl
open Go.RowKit Go.Proofs.YtbjbpgmjijeppaaGreatDoorW.PrintWords Go.Proofs.YtbjbpgmjijeppaaGreatDoor.Fn

def okF (f : Fld) : Bool := decide (f.1.length ≤ 200) && decide (f.2.length ≤ 3000)
def lightL (l : List Fld) : Bool := (l.take 30).all okF && decide (l.length ≤ 30)
theorem light_rounds (l : List Fld) : ∀ (n i k : Nat), i + n = 31 → i ≤ 30 → 2 * n + 3 < k → i ≤ l.length → bulletinlaw15_Light.l0 k (l.map toR) (i : Int) = some (((l.take 30).drop i).all okF && decide (l.length ≤ 30)) := by
  intro n
  induction n with
  | zero => intro i k h hi; omega
  | succ n ih =>
    intro i k h hi hk hil
    obtain ⟨k, rfl⟩ : ∃ q, k = q + 2 := ⟨k - 2, by omega⟩
    have hd : decide (((l.map toR).length : Int) ≤ 30) = decide (l.length ≤ 30) := by rw [List.length_map]; congr 1; exact propext ⟨fun h => by omega, fun h => by omega⟩
    rw [bulletinlaw15_Light.l0]
    by_cases h1 : i < l.length
    · rw [if_pos (by rw [List.length_map]; omega)]
      by_cases h2 : i < 30
      · rw [decide_eq_true (show ((i : Int) < 30) by omega), bulletinlaw15_Light.j1, if_pos rfl, if_pos (by omega), if_pos (by rw [List.length_map]; omega), rd_toR]
        have hg : l.getD i ([], []) = l[i] := by rw [List.getD_eq_getElem?_getD, List.getElem?_eq_getElem h1]; rfl
        have hdr : (l.take 30).drop i = l[i] :: (l.take 30).drop (i + 1) := by
          rw [List.drop_eq_getElem_cons (by rw [List.length_take]; omega), List.getElem_take]
        have z0 : ((toR (l.getD i ([], []))).f0).size = (l[i]).1.length := by rw [hg]; exact str_size _
        have z1 : ((toR (l.getD i ([], []))).f1).size = (l[i]).2.length := by rw [hg]; exact str_size _
        rw [z0, z1, hdr, List.all_cons]
        have hok : okF l[i] = (decide ((l[i]).1.length ≤ 200) && decide ((l[i]).2.length ≤ 3000)) := rfl
        by_cases a : (l[i]).1.length > 200
        · rw [if_pos (by omega), hok, decide_eq_false (by omega)]; rfl
        · rw [if_neg (by omega)]
          by_cases b : (l[i]).2.length > 3000
          · rw [if_pos (by omega), hok, decide_eq_false (show ¬ (l[i]).2.length ≤ 3000 by omega)]; simp
          · rw [if_neg (by omega), wrap_succ i (by omega), ih (i + 1) k (by omega) (by omega) (by omega) (by omega), hok, decide_eq_true (show (l[i]).1.length ≤ 200 by omega), decide_eq_true (show (l[i]).2.length ≤ 3000 by omega)]
            rfl
      · rw [decide_eq_false (show ¬ ((i : Int) < 30) by omega), bulletinlaw15_Light.j1, if_neg (by decide), hd, List.drop_of_length_le (by rw [List.length_take]; omega)]
        rfl
    · rw [if_neg (by rw [List.length_map]; omega), bulletinlaw15_Light.j1, if_neg (by decide), hd, List.drop_of_length_le (by rw [List.length_take]; omega)]
      rfl
theorem light_is (l : List Fld) (k : Nat) (hk : 100 < k) : bulletinlaw15_Light.f k (l.map toR) = some (lightL l) := by
  unfold bulletinlaw15_Light.f lightL
  have := light_rounds l 31 0 k (by omega) (by omega) (by omega) (by omega)
  rw [List.drop_zero] at this
  exact this
theorem light_some {l : List Fld} (h : lightL l = true) : l.length ≤ 30 ∧ ∀ f ∈ l, f.1.length ≤ 200 ∧ f.2.length ≤ 3000 := by
  unfold lightL at h
  rw [Bool.and_eq_true, decide_eq_true_iff] at h
  refine ⟨h.2, fun f hf => ?_⟩
  rw [List.take_of_length_le h.2] at h
  have := List.all_eq_true.1 h.1 f hf
  unfold okF at this
  rw [Bool.and_eq_true, decide_eq_true_iff, decide_eq_true_iff] at this
  exact this
theorem to_rounds (l : List Fld) (hl : l.length ≤ 1000000) : ∀ (n i k : Nat), l.length = i + n → n < k → bulletinlaw15_To.l0 k (l.map toR) ((l.take i).map toP) (i : Int) = some (l.map toP) := by
  intro n
  induction n with
  | zero =>
    intro i k h hk
    obtain ⟨k, rfl⟩ : ∃ q, k = q + 1 := ⟨k - 1, by omega⟩
    rw [bulletinlaw15_To.l0, if_neg (by rw [List.length_map]; omega), List.take_of_length_le (by omega)]
  | succ n ih =>
    intro i k h hk
    obtain ⟨k, rfl⟩ : ∃ q, k = q + 1 := ⟨k - 1, by omega⟩
    have hi : i < l.length := by omega
    have hn := ih (i + 1) k (by omega) (by omega)
    rw [bulletinlaw15_To.l0, if_pos (by rw [List.length_map]; omega), if_pos (by omega), if_pos (by rw [List.length_map, List.length_take]; omega), rd_toR, wrap_succ i (by omega)]
    have e : (l.take i).map toP ++ [(⟨(toR (l.getD i ([], []))).f0, (toR (l.getD i ([], []))).f1⟩ : S46)] = (l.take (i + 1)).map toP := by
      rw [List.take_succ_eq_append_getElem hi, List.map_append, List.getD_eq_getElem?_getD, List.getElem?_eq_getElem hi]
      rfl
    rw [e, hn]
theorem to_is (l : List Fld) (hl : l.length ≤ 1000000) (k : Nat) (hk : l.length < k) : bulletinlaw15_To.f k (l.map toR) = some (l.map toP) := by
  unfold bulletinlaw15_To.f
  exact to_rounds l hl l.length 0 k (by omega) hk
theorem headright_is {n v : Bytes} (h1 : n.length ≤ 1000000) (h2 : v.length ≤ 1000000) : head_Right.f (str n) (str v) = some (rightL n v) := by
  unfold head_Right.f
  rw [if_pos (by rw [str_size]; exact h1), if_pos (by rw [str_size]; exact h2), bs_str, bs_str]
theorem headprint_is (l : List Fld) (hl : l.length ≤ 1000000) (hf : ∀ f ∈ l, f.1.length ≤ 1000000 ∧ f.2.length ≤ 1000000) : head_Print.f (l.map toP) = some (str (printL l)) := by
  unfold head_Print.f
  have h1 : (l.map toP).all okP = true := by
    rw [List.all_eq_true]
    intro x hx
    obtain ⟨f, hfm, rfl⟩ := List.mem_map.1 hx
    have := hf f hfm
    unfold okP
    rw [Bool.and_eq_true, decide_eq_true_iff, decide_eq_true_iff]
    exact ⟨by show (str f.1).size ≤ _; rw [str_size]; exact this.1, by show (str f.2).size ≤ _; rw [str_size]; exact this.2⟩
  have h2 : (l.map toP).map ofP = l := by
    rw [List.map_map]
    have : ∀ f ∈ l, (ofP ∘ toP) f = id f := fun f _ => by
      show (bs (str f.1), bs (str f.2)) = f
      rw [bs_str, bs_str]
    rw [List.map_congr_left this, List.map_id]
  rw [if_pos (by rw [List.length_map]; exact hl), if_pos h1, h2]
theorem fields_of (q : List (S67)) : ∃ l : List Fld, q = l.map toR := by
  refine ⟨q.map fun x => (bs x.f0, bs x.f1), ?_⟩
  rw [List.map_map]
  have : ∀ x ∈ q, (toR ∘ fun x : S67 => (bs x.f0, bs x.f1)) x = id x := fun x _ => by
    show (⟨str (bs x.f0), str (bs x.f1)⟩ : S67) = x
    rw [str_bs, str_bs]
  rw [List.map_congr_left this, List.map_id]
end Go.Proofs.YtbjbpgmjijeppaaGreatDoor.Pl
namespace Go.Proofs.YtbjbpgmjijeppaaGreatDoor.Fn
open Go.RowKit Go.Proofs.YtbjbpgmjijeppaaGreatDoorW.PrintWords Go.Proofs.YtbjbpgmjijeppaaGreatDoorW.PrintLast Go.Proofs.YtbjbpgmjijeppaaGreatDoorW.PrintMore
attribute [local go_sem] max2_int min2_int max_two min_two max_three min_three max_four min_four
set_option linter.unusedVariables false
set_option linter.unusedSimpArgs false

/-! ### bulletinref16_Parse: function 11 -/
end Go.Proofs.YtbjbpgmjijeppaaGreatDoor.Fn
namespace Go.Proofs.YtbjbpgmjijeppaaGreatDoor.Fn
open Go.RowKit Go.Proofs.YtbjbpgmjijeppaaGreatDoorW.PrintWords Go.Proofs.YtbjbpgmjijeppaaGreatDoorW.PrintLast Go.Proofs.YtbjbpgmjijeppaaGreatDoorW.PrintMore
attribute [local go_sem] max2_int min2_int max_two min_two max_three min_three max_four min_four
set_option linter.unusedVariables false
set_option linter.unusedSimpArgs false

/-! ### bulletinref16_Text: function 14 -/
end Go.Proofs.YtbjbpgmjijeppaaGreatDoor.Fn
namespace Go.Proofs.YtbjbpgmjijeppaaGreatDoor.Fn
open Go.RowKit Go.Proofs.YtbjbpgmjijeppaaGreatDoorW.PrintWords Go.Proofs.YtbjbpgmjijeppaaGreatDoorW.PrintLast Go.Proofs.YtbjbpgmjijeppaaGreatDoorW.PrintMore
attribute [local go_sem] max2_int min2_int max_two min_two max_three min_three max_four min_four
set_option linter.unusedVariables false
set_option linter.unusedSimpArgs false

/-! ### bulletinlaw16_MsgReads: function 3 -/
end Go.Proofs.YtbjbpgmjijeppaaGreatDoor.Fn
set_option linter.unusedVariables false
set_option linter.unusedSimpArgs false
namespace Go.Proofs.YtbjbpgmjijeppaaGreatDoor.Pl
open Go.RowKit Go.Proofs.YtbjbpgmjijeppaaGreatDoorW.PrintWords Go.Proofs.YtbjbpgmjijeppaaGreatDoor.Fn

theorem print_bound (T : Nat) : ∀ l : List Fld, (∀ f ∈ l, f.1.length ≤ T ∧ f.2.length ≤ T) → (printL l).length ≤ l.length * (4 * T + 6)
  | [], _ => by simp [printL]
  | f :: l, h => by
    have h1 := print_bound T l (fun g hg => h g (List.mem_cons_of_mem _ hg))
    have h2 := h f (by simp)
    have h3 := showL_length f.1 f.2
    have e : printL (f :: l) = showL f.1 f.2 ++ printL l := rfl
    rw [e, List.length_append, List.length_cons, Nat.succ_mul]
    omega
theorem msgtext_is (l : List Fld) (T : Nat) (hT : T ≤ 100000) (hl : l.length ≤ 100) (hf : ∀ f ∈ l, f.1.length ≤ T ∧ f.2.length ≤ T) (b : Bytes) (hb : b.length ≤ 1000000) : msg_Message_Text.f (l.map toP) (str b) = some (str (printL l ++ 13 :: 10 :: b)) := by
  have hp := print_bound T l hf
  have hp2 : l.length * (4 * T + 6) ≤ 100 * 400006 := Nat.mul_le_mul hl (by omega)
  unfold msg_Message_Text.f
  rw [headprint_is l (by omega) (fun f hm => by have := hf f hm; omega), Option.bind_some, if_pos (by rw [str_size]; omega), str_lit #[13, 10], str_app, if_pos (by rw [str_size, str_size]; simp only [List.length_append, List.length_cons, List.length_nil]; omega), str_app]
  simp
def parseN (s : Bytes) : List Fld × Bytes × Int := if (parseH s).2.2 = 0 then ((parseH s).1, (parseH s).2.1, 0) else ([], [], (parseH s).2.2)
theorem msgparse_is (s : ByteArray) (hs : s.size ≤ 65536) (k : Nat) (hk : 2 * s.size + 40 < k) : msg_Parse.f k s = some ((parseN (bs s)).1.map toP, str (parseN (bs s)).2.1, (parseN (bs s)).2.2) := by
  unfold msg_Parse.f parseN
  rw [if_neg (by omega), headparse_is s (by omega) k hk, Option.bind_some]
  by_cases h : (parseH (bs s)).2.2 = 0
  · rw [if_pos h, if_pos h]
  · rw [if_neg h, if_neg h]; rfl
theorem same16_is (l : List Fld) (hl : l.length ≤ 1000000000) (b : ByteArray) (k : Nat) (hk : l.length < k) : bulletinlaw16_Same.f k (l.map toP) b (l.map toR) b = some true := by
  unfold bulletinlaw16_Same.f
  rw [same_is l hl k hk, Option.bind_some, if_pos rfl]
  simp
end Go.Proofs.YtbjbpgmjijeppaaGreatDoor.Pl
set_option linter.unusedVariables false
set_option linter.unusedSimpArgs false
namespace Go.Proofs.YtbjbpgmjijeppaaGreatDoor.Pl
open Go.RowKit Go.Proofs.YtbjbpgmjijeppaaGreatDoorW.PrintWords Go.Proofs.YtbjbpgmjijeppaaGreatDoor.Fn

theorem light16_is (l : List Fld) (b : ByteArray) (k : Nat) (hk : 100 < k) : bulletinlaw16_Light.f k (l.map toR) b = some (lightL l && decide ((b.size : Int) ≤ 3000)) := by
  unfold bulletinlaw16_Light.f
  rw [light_is l k hk, Option.bind_some]
  cases lightL l with
  | true => rw [if_pos rfl]; rfl
  | false => rw [if_neg (by decide)]; rfl
theorem mback_l0 (l : List Fld) (hl : l.length ≤ 30) (hf : ∀ f ∈ l, f.1.length ≤ 200 ∧ f.2.length ≤ 3000) (b : ByteArray) (hb : b.size ≤ 3000) : ∀ (r : List Fld) (i k : Nat), l.drop i = r → i ≤ l.length → r.length + 1000000 < k → (∀ f ∈ l.take i, rightL f.1 f.2 = true) →
    bulletinlaw16_MsgBack.l0 k (l.length : Int) (i : Int) (l.map toR) b (l.map toP) b = some true
  | [], i, k, hd, hi, hk, hr => by
    obtain ⟨k, rfl⟩ : ∃ q, k = q + 1 := ⟨k - 1, by omega⟩
    have hz : l.length ≤ i := by
      have := congrArg List.length hd
      rw [List.length_drop, List.length_nil] at this
      omega
    rw [List.take_of_length_le hz] at hr
    have ht := msgtext_is l 3000 (by omega) (by omega) (fun f hm => by have := hf f hm; omega) (bs b) (by rw [bs_length]; omega)
    rw [str_bs] at ht
    rw [bulletinlaw16_MsgBack.l0, if_neg (by omega), ht, Option.bind_some]
    by_cases hs : ((str (printL l ++ 13 :: 10 :: bs b)).size : Int) > 65536
    · rw [if_pos hs]
    have hpp : parseN (printL l ++ 13 :: 10 :: bs b) = (l, bs b, 0) := by
      unfold parseN
      rw [parse_print l hr (by omega) (bs b), if_pos rfl]
    rw [if_neg hs, msgparse_is _ (by omega) k (by omega), Option.bind_some, bs_str, hpp]
    simp only []
    rw [if_pos trivial, str_bs, same16_is l (by omega) b k (by omega), Option.bind_some]
  | f :: r, i, k, hd, hi, hk, hr => by
    simp only [List.length_cons] at hk
    obtain ⟨k, rfl⟩ : ∃ q, k = q + 1 := ⟨k - 1, by omega⟩
    have hlt : i < l.length := by
      have := congrArg List.length hd
      rw [List.length_drop, List.length_cons] at this
      omega
    have hmem : f ∈ l := List.mem_of_mem_drop (i := i) (by rw [hd]; exact List.mem_cons_self)
    obtain ⟨f1, f2⟩ := hf f hmem
    have hgd : l.getD i ([], []) = f := by
      have h3 : l[i]? = some f := by
        have := congrArg List.head? hd
        rw [List.head?_drop] at this
        exact this
      rw [List.getD_eq_getElem?_getD, h3]
      rfl
    have hst : l.take (i + 1) = l.take i ++ [f] := by
      rw [List.take_succ_eq_append_getElem hlt]
      congr 2
      have := List.getElem?_drop (xs := l) (i := i) (j := 0)
      rw [hd] at this
      simpa [List.getElem?_eq_getElem hlt] using this.symm
    rw [bulletinlaw16_MsgBack.l0, if_pos (by omega), if_pos (by omega), if_pos (by rw [List.length_map]; omega), rd_toP, hgd]
    show (head_Right.f (str f.1) (str f.2)).bind _ = _
    rw [headright_is (by omega) (by omega), Option.bind_some]
    cases hc : rightL f.1 f.2 with
    | false => rw [if_neg (by decide)]
    | true =>
      rw [if_pos rfl, wrap_succ i (by omega)]
      refine mback_l0 l hl hf b hb r (i + 1) k (by rw [← List.drop_drop, hd]; rfl) (by omega) (by omega) (fun g hg => ?_)
      rw [hst] at hg
      rcases List.mem_append.1 hg with hg | hg
      · exact hr g hg
      · rw [List.mem_singleton] at hg; rw [hg]; exact hc
theorem MsgBack (q : List (S67)) (b : ByteArray) : ∃ k, bulletinlaw16_MsgBack.f k q b = some true := by
  obtain ⟨l, rfl⟩ := fields_of q
  refine ⟨2000000, ?_⟩
  generalize hK : (2000000 : Nat) = K
  unfold bulletinlaw16_MsgBack.f
  rw [works16 K (by omega), Option.bind_some, if_pos rfl, light16_is l b K (by omega), Option.bind_some]
  cases hL : (lightL l && decide ((b.size : Int) ≤ 3000)) with
  | false => rw [if_neg (by decide)]
  | true =>
    rw [Bool.and_eq_true, decide_eq_true_eq] at hL
    obtain ⟨hl, hf⟩ := light_some hL.1
    unfold bulletinlaw16_To.f
    rw [if_pos rfl, to_is l (by omega) K (by omega), Option.bind_some, Option.bind_some]
    simp only [List.length_map]
    exact mback_l0 l hl hf b (by have := hL.2; omega) l 0 K rfl (Nat.zero_le _) (by omega) (fun f hf => by cases hf)
end Go.Proofs.YtbjbpgmjijeppaaGreatDoor.Pl
set_option linter.unusedVariables false
namespace Go.Proofs.YtbjbpgmjijeppaaGreatDoor.Fn
open Go.RowKit Go.ChangeShapes Go.WideShapes Go.Proofs.YtbjbpgmjijeppaaGreatDoorW.PrintWords

/-! A slice of fields (two texts each) that came in. -/
def strOf : Value → ByteArray | .string s => s | _ => ByteArray.empty
theorem open_fields {H : Type} {enc : TypeId × Value → H} {w : World} {base : Nat} {spare : Nat → Bool} {held : Bool} {fuel : Nat} {v : Value} {x : DataW H × List MemPlace}
    (h : DataW.trod enc Tryz.prog w base spare held fuel 29 [v] = some x) :
    ∃ (A : Option Addr) (c : Nat) (l : List (S67)), v = .slice A l.length c ∧ l.length ≤ c ∧ c ≤ maxLen ∧ Kd.C k67 w A l.length l := by
  rcases Go.Deep.open_slice_pairs Tryz.underlying29 Tryz.underlying67 (by kernel_rfl) rfl rfl (by kernel_rfl) (by kernel_rfl) h with ⟨h0, _⟩ | ⟨a, len, cap, m, n, V0, V1, D0, D1, P0, P1, hv, hb, hl, hm, hmm, _, hx⟩
  · refine ⟨none, 0, [], ?_, Nat.le_refl _, Nat.zero_le _, ?_⟩
    · simpa using h0
    · exact ⟨rfl, by simp, fun h => absurd h (by simp)⟩
  · have hlm : len ≤ m := by rw [hmm]; split <;> omega
    have s0 : ∀ i, i < len → V0 i = .string (strOf (V0 i)) := fun i hi => by
      obtain ⟨_, _, g, _⟩ := hx i (by omega)
      obtain ⟨s, e, _⟩ := DataW.trod_string Tryz.underlying9 g
      simp only [List.cons.injEq, and_true] at e
      rw [e]; rfl
    have s1 : ∀ i, i < len → V1 i = .string (strOf (V1 i)) := fun i hi => by
      obtain ⟨_, _, _, g⟩ := hx i (by omega)
      obtain ⟨s, e, _⟩ := DataW.trod_string Tryz.underlying9 g
      simp only [List.cons.injEq, and_true] at e
      rw [e]; rfl
    have hlen : ((List.range len).map fun i => (⟨strOf (V0 i), strOf (V1 i)⟩ : S67)).length = len := by simp
    refine ⟨some a, cap, (List.range len).map fun i => ⟨strOf (V0 i), strOf (V1 i)⟩, ?_, by rw [hlen]; exact hl, hm, ?_⟩
    · rw [hlen]; simpa using hv
    · rw [hlen]
      refine ⟨hlen, by unfold maxLen at hm; omega, fun h0 => ⟨a, rfl, fun j p hp => ?_⟩⟩
      have hj : j < len := by
        have := (List.getElem?_eq_some_iff.1 hp).1
        rwa [hlen] at this
      have hp' : p = ⟨strOf (V0 j), strOf (V1 j)⟩ := by
        rw [List.getElem?_map, List.getElem?_range hj] at hp
        exact (Option.some.inj hp).symm
      subst hp'
      obtain ⟨g0, g1, _, _⟩ := hx j (by omega)
      rw [s0 j hj] at g0
      rw [s1 j hj] at g1
      refine ⟨[.string (strOf (V0 j)), .string (strOf (V1 j))], rfl, k67_mk w _, fun i u hu => ?_⟩
      match i, hu with
      | 0, hu => obtain rfl := Option.some.inj hu; exact g0
      | 1, hu => obtain rfl := Option.some.inj hu; exact g1
      | i + 2, hu => simp at hu
end Go.Proofs.YtbjbpgmjijeppaaGreatDoor.Fn
