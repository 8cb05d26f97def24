/- A part of the proof of this sentence: Any message with a field put is as the document has it, and the message itself is as it was; the tables of unicode/utf8 are as the program's text lays them. -/
import Derived.Test.YtbjbpgmjijeppaaGreatDoorCMsgWith4
import Derived.Deep.SlicePairs
import Derived.ProofKit
import Derived.OpenShut
namespace Go.Proofs.YtbjbpgmjijeppaaGreatDoor.Fn
open Go.RowKit Go.Proofs.YtbjbpgmjijeppaaGreatDoorW.PrintWords Go.Proofs.YtbjbpgmjijeppaaGreatDoorW.PrintLast Go.Proofs.YtbjbpgmjijeppaaGreatDoorW.PrintMore
attribute [local go_sem] max2_int min2_int max_two min_two max_three min_three max_four min_four
set_option linter.unusedVariables false
set_option linter.unusedSimpArgs false

mutual
def bulletinlaw16_MsgWith.j0 : Nat → Bool → List (S67) → ByteArray → ByteArray → ByteArray → Option (Bool)
 | 0, _, _, _, _, _ => none
 | k + 1, x23, x638000, x638001, x639000, x639001 => if x23 = true then ((bulletinlaw16_works.f k).bind fun t640 => (some t640)) else ((bulletinlaw16_To.f k x638000 x638001).bind fun bt641 => ((msg_Message_With.f bt641.1 bt641.2 x639000 x639001).bind fun bt646 => ((bulletinref15_Put.f k x638000 x639000 x639001).bind fun t651 => ((bulletinlaw16_Same.f k bt646.1 bt646.2 t651 x638001).bind fun t655 => (if t655 = true then (bulletinlaw16_MsgWith.l0 k (bt646.1.length : Int) 0 x638000 x638001 bt641.1 bt641.2 bt646.1 bt646.2) else (some false))))))
def bulletinlaw16_MsgWith.l0 : Nat → Int → Int → List (S67) → ByteArray → List (S46) → ByteArray → List (S46) → ByteArray → Option (Bool)
 | 0, _, _, _, _, _, _, _, _ => none
 | k + 1, x46, x47, x638000, x638001, x646000, x646001, x651000, x651001 => if x47 < x46 then (if 0 ≤ x47 then (if x47 < (x651000.length : Int) then (bulletinlaw16_MsgWith.l0 k x46 (wrap64 (x47 + 1)) x638000 x638001 x646000 x646001 (x651000.set (x47 : Int).toNat (⟨(⟨#[115, 112, 111, 105, 108, 116]⟩ : ByteArray), (⟨#[]⟩ : ByteArray)⟩ : S46)) x651001) else (none)) else (none)) else ((bulletinlaw16_Same.f k x646000 x646001 x638000 x638001).bind fun t657 => (if t657 = true then ((bulletinlaw16_works.f k).bind fun t658 => (some t658)) else (some false)))
end
def bulletinlaw16_MsgWith.f (k : Nat) (l0_0 : List (S67)) (a0_1 : ByteArray) (a1_0 : ByteArray) (a1_1 : ByteArray) : Option (Bool) := (bulletinlaw16_Light.f k l0_0 a0_1).bind fun t639 => (if t639 = true then (if (a1_0.size : Int) > 200 then (bulletinlaw16_MsgWith.j0 k true l0_0 a0_1 a1_0 a1_1) else (bulletinlaw16_MsgWith.j0 k (decide ((a1_1.size : Int) > 3000)) l0_0 a0_1 a1_0 a1_1)) else (bulletinlaw16_MsgWith.j0 k true l0_0 a0_1 a1_0 a1_1))
def bulletinlaw16_MsgWith.T5 : Bool × List (List Nat × List Nat) := (true, [([], []), ([0], [0]), ([], []), ([1, 2], [1, 2]), ([], []), ([4], [4]), ([3, 5], [3, 5]), ([], []), ([7, 6, 3, 0, 1, 2, 3, 4, 5, 6, 7], [6, 7])])
def bulletinlaw16_MsgWith.B5 : List Nat := [0, 1, 0, 7, 0, 16, 63, 0, 255]
theorem bulletinlaw16_MsgWith.tab5 : rtab .any (opsOf Tryz.f8 5) = bulletinlaw16_MsgWith.T5 := by kernel_rfl
theorem bulletinlaw16_MsgWith.bits5 : waitsOk bulletinlaw16_MsgWith.T5.2 bulletinlaw16_MsgWith.B5 = true := by kernel_rfl
set_option maxHeartbeats 8000000 in
set_option maxRecDepth 100000 in
theorem bulletinlaw16_MsgWith.calls (k : Nat) (A0_0 : Option Addr) (c0_0 : Nat) (l0_0 : List (S67)) (a0_1 : ByteArray) (a1_0 : ByteArray) (a1_1 : ByteArray) (r : Bool) (w : World) (hG : Glob w) (hr0_0 : Kd.C k67 w A0_0 l0_0.length l0_0) (hc0_0 : l0_0.length ≤ c0_0) (h : bulletinlaw16_MsgWith.f k l0_0 a0_1 a1_0 a1_1 = some r) :
  Calls Tryz.prog 8 #[.agg #[.slice A0_0 l0_0.length c0_0, .string a0_1], .agg #[.string a1_0, .string a1_1]] w fun e w' => e = .returned (.bool r) ∧ Below w.heap.size w w' := by
 have hu31 := Tryz.underlying31; have hu67 := Tryz.underlying67; have hu25 := Tryz.underlying25; have hu46 := Tryz.underlying46; have HR0_0 := Aside0.mk hr0_0; have HC0_0 := Aside0.mk hc0_0; clear hr0_0 hc0_0; have HB := Aside0.mk (Below.refl w.heap.size w); have H : ((bulletinlaw16_Light.f k l0_0 a0_1).bind fun t639 => (if t639 = true then (if (a1_0.size : Int) > 200 then (bulletinlaw16_MsgWith.j0 k true l0_0 a0_1 a1_0 a1_1) else (bulletinlaw16_MsgWith.j0 k (decide ((a1_1.size : Int) > 3000)) l0_0 a0_1 a1_0 a1_1)) else (bulletinlaw16_MsgWith.j0 k true l0_0 a0_1 a1_0 a1_1))) = some r := h; clear h; have HC3 := Aside0.mk H; clear H
 go_enter Tryz.func8, Tryz.ntmps8
 go_upto_region 1 with (first | ((with_reducible refine gate_dst (N := 2) rfl ?_); (try (refine gate_guard (by rfl) ?_; dsimp only)); refine box_event ?hg (N := 2) ?hd (cs := #[.slice A0_0 l0_0.length c0_0, .string a0_1]) (t := 31) ?hr ?_; (case hd => rfl); (case hg => rfl); (case hr => first | (go_simp; done) | (go_simp; rfl)); intro gb637 hg w4 hbox hb; have n0_ := Aside0.mk (below_step bw hb); have n1_ := Aside0.mk (hbox); have n2_ := Aside0.mk ((by rw [hg]; exact (below_size bw) : w.heap.size ≤ gb637)); have n3_ := Aside0.mk ((by rw [hg]; exact (below_size bw) : w.heap.size ≤ gb637)); clear HB; have HB := n0_; have BK637 := n1_; have GW637 := n2_; have GE637 := n3_; clear n0_ n1_ n2_ n3_; clear hb hbox hg) | ((with_reducible refine gate_dst (N := 3) rfl ?_); (try (refine gate_guard (by rfl) ?_; dsimp only)); refine box_event ?hg (N := 3) ?hd (cs := #[.string a1_0, .string a1_1]) (t := 67) ?hr ?_; (case hd => rfl); (case hg => rfl); (case hr => first | (go_simp; done) | (go_simp; rfl)); intro gb638 hg w5 hbox hb; have n0_ := Aside0.mk (blk_below (g := gb637) (o := .cells #[.slice A0_0 l0_0.length c0_0, .string a0_1] 31 (0, 0)) bk hb); have n1_ := Aside0.mk (below_step bwS hb); have n2_ := Aside0.mk (hbox); have n3_ := Aside0.mk ((by rw [hg]; exact (below_size bwS) : w.heap.size ≤ gb638)); have n4_ := Aside0.mk ((by rw [hg]; exact (below_size bwS) : w.heap.size ≤ gb638)); have n5_ := Aside0.mk ((by rw [hg]; exact Nat.ne_of_lt (blk_lt (g := gb637) (o := .cells #[.slice A0_0 l0_0.length c0_0, .string a0_1] 31 (0, 0)) bk) : gb637 ≠ gb638)); have n6_ := Aside0.mk ((by rw [hg]; exact Nat.ne_of_gt (blk_lt (g := gb637) (o := .cells #[.slice A0_0 l0_0.length c0_0, .string a0_1] 31 (0, 0)) bk) : gb638 ≠ gb637)); clear BK637; clear HB; have BK637 := n0_; have HB := n1_; have BK638 := n2_; have GW638 := n3_; have GE638 := n4_; have NB637_638 := n5_; have NB638_637 := n6_; clear n0_ n1_ n2_ n3_ n4_ n5_ n6_; clear hb hbox hg))
 (try simp only [Act.put, List.setIfInBounds_toArray, List.set_cons_zero, List.set_cons_succ])
 go_cut [23] (fun v23 wc => ∃ (kq : Nat) (x23_2 : Bool), v23 = .bool x23_2 ∧ Aside0 (bulletinlaw16_MsgWith.j0 kq x23_2 l0_0 a0_1 a1_0 a1_1 = some r) ∧ Aside0 (kq ≤ k) ∧ Aside0 (wc.heap[gb637]? = some (.cells #[(.slice A0_0 l0_0.length c0_0), .string a0_1] 31 (0, 0))) ∧ Aside0 (wc.heap[gb638]? = some (.cells #[.string a1_0, .string a1_1] 67 (0, 0))) ∧ Aside0 (Below w.heap.size w wc))
 case first =>
  have H := HC3.out; clear HC3; replace H := Option.bind_eq_some_iff.mp H; obtain ⟨t639, A60, H⟩ := H; replace H : (if t639 = true then (if (a1_0.size : Int) > 200 then (bulletinlaw16_MsgWith.j0 k true l0_0 a0_1 a1_0 a1_1) else (bulletinlaw16_MsgWith.j0 k (decide ((a1_1.size : Int) > 3000)) l0_0 a0_1 a1_0 a1_1)) else (bulletinlaw16_MsgWith.j0 k true l0_0 a0_1 a1_0 a1_1)) = some r := H; have A6 := Aside0.mk A60; clear A60
  by_cases c7 : t639 = true
  ·subst c7; have H1 : (if (a1_0.size : Int) > 200 then (bulletinlaw16_MsgWith.j0 k true l0_0 a0_1 a1_0 a1_1) else (bulletinlaw16_MsgWith.j0 k (decide ((a1_1.size : Int) > 3000)) l0_0 a0_1 a1_0 a1_1)) = some r := by rw [if_pos rfl] at H; exact H
   clear H; have H := H1; clear H1
   by_cases c8 : (a1_0.size : Int) > 200
   ·rw [if_pos c8] at H; have c8b0 : decide (200 < (a1_0.size : Int)) = true := decide_eq_true c8; have c8b1 : decide (200 < a1_0.size) = true := decide_eq_true (by omega); clear c8
    (first | rw [c8b0] | (simp only [i64_w, i32_w]; rw [c8b0]) | skip)
    have H' := Aside0.mk H; clear H; have hnb9 := NB637_638.out; have hnc9 := NB638_637.out; have hcz10_0 : w5.cell? ⟨gb637, 0, none⟩ = some (.slice A0_0 l0_0.length c0_0) := (blk_cell BK637.out 0).trans rfl; have hcz10_1 : w5.cell? ⟨gb637, 1, none⟩ = some (.string a0_1) := (blk_cell BK637.out 1).trans rfl; have hfz10_0 := blk_frozen BK637.out 0; have hfz10_1 := blk_frozen BK637.out 1
    as_aux_lemma =>
     go_wp2_with (first | ((with_reducible refine gate_callee (f := 18) rfl ?_); refine goesL_ (some 10) rfl rfl Tryz.func18 (by kernel_rfl) rfl #[.agg #[.slice A0_0 l0_0.length c0_0, .string a0_1]] rfl am ?_; (with_reducible refine (bulletinlaw16_Light.calls k _ _ l0_0 a0_1 true _ ?side1 ?side2 A6.out).mono ?_); (case side1 => repeat (first | exact (Kd.C_below HR0_0.out HB.out) | (with_reducible refine Kd.C_alloc ?_ _) | (with_reducible refine Kd.C_drewN ?_ _) | (with_reducible refine Kd.C_drew ?_))); (case side2 => exact HC0_0.out); rintro e w11 ⟨rfl, hb⟩; refine ⟨_, rfl, ?_⟩; have n0_ := Aside0.mk (blk_below (g := gb637) (o := .cells #[.slice A0_0 l0_0.length c0_0, .string a0_1] 31 (0, 0)) bk hb); have n1_ := Aside0.mk (blk_below (g := gb638) (o := .cells #[.string a1_0, .string a1_1] 67 (0, 0)) bk hb); have n2_ := Aside0.mk (below_step bwS hb); clear BK637; clear BK638; clear HB; have BK637 := n0_; have BK638 := n1_; have HB := n2_; clear n0_ n1_ n2_; (try clear hb); (try clear hb2); (try clear hk); (try clear hi); have hcz12_0 : w11.cell? ⟨gb638, 0, none⟩ = some (.string a1_0) := (blk_cell BK638.out 0).trans rfl; have hcz12_1 : w11.cell? ⟨gb638, 1, none⟩ = some (.string a1_1) := (blk_cell BK638.out 1).trans rfl; have hfz12_0 := blk_frozen BK638.out 0; have hfz12_1 := blk_frozen BK638.out 1))
     go_meet
     case rel => exact ⟨_, (true), cl, H', ⟨by first | omega | exact Nat.le_refl _⟩, ⟨bk⟩, ⟨bk⟩, ⟨bwS⟩⟩
   ·rw [if_neg c8] at H; have c8b0 : decide (200 < (a1_0.size : Int)) = false := decide_eq_false c8; have c8b1 : decide (200 < a1_0.size) = false := decide_eq_false (by omega); clear c8
    (first | rw [c8b0] | (simp only [i64_w, i32_w]; rw [c8b0]) | skip)
    have H' := Aside0.mk H; clear H; have hnb13 := NB637_638.out; have hnc13 := NB638_637.out; have hcz14_0 : w5.cell? ⟨gb637, 0, none⟩ = some (.slice A0_0 l0_0.length c0_0) := (blk_cell BK637.out 0).trans rfl; have hcz14_1 : w5.cell? ⟨gb637, 1, none⟩ = some (.string a0_1) := (blk_cell BK637.out 1).trans rfl; have hfz14_0 := blk_frozen BK637.out 0; have hfz14_1 := blk_frozen BK637.out 1
    as_aux_lemma =>
     go_wp2_with (first | ((with_reducible refine gate_callee (f := 18) rfl ?_); refine goesL_ (some 10) rfl rfl Tryz.func18 (by kernel_rfl) rfl #[.agg #[.slice A0_0 l0_0.length c0_0, .string a0_1]] rfl am ?_; (with_reducible refine (bulletinlaw16_Light.calls k _ _ l0_0 a0_1 true _ ?side1 ?side2 A6.out).mono ?_); (case side1 => repeat (first | exact (Kd.C_below HR0_0.out HB.out) | (with_reducible refine Kd.C_alloc ?_ _) | (with_reducible refine Kd.C_drewN ?_ _) | (with_reducible refine Kd.C_drew ?_))); (case side2 => exact HC0_0.out); rintro e w15 ⟨rfl, hb⟩; refine ⟨_, rfl, ?_⟩; have n0_ := Aside0.mk (blk_below (g := gb637) (o := .cells #[.slice A0_0 l0_0.length c0_0, .string a0_1] 31 (0, 0)) bk hb); have n1_ := Aside0.mk (blk_below (g := gb638) (o := .cells #[.string a1_0, .string a1_1] 67 (0, 0)) bk hb); have n2_ := Aside0.mk (below_step bwS hb); clear BK637; clear BK638; clear HB; have BK637 := n0_; have BK638 := n1_; have HB := n2_; clear n0_ n1_ n2_; (try clear hb); (try clear hb2); (try clear hk); (try clear hi); have hcz16_0 : w15.cell? ⟨gb638, 0, none⟩ = some (.string a1_0) := (blk_cell BK638.out 0).trans rfl; have hcz16_1 : w15.cell? ⟨gb638, 1, none⟩ = some (.string a1_1) := (blk_cell BK638.out 1).trans rfl; have hfz16_0 := blk_frozen BK638.out 0; have hfz16_1 := blk_frozen BK638.out 1))
     go_meet
     case rel => exact ⟨_, (decide ((a1_1.size : Int) > 3000)), cl, H', ⟨by first | omega | exact Nat.le_refl _⟩, ⟨bk⟩, ⟨bk⟩, ⟨bwS⟩⟩
  ·replace c7 := Bool.eq_false_iff.mpr c7; subst c7; have H1 : (bulletinlaw16_MsgWith.j0 k true l0_0 a0_1 a1_0 a1_1) = some r := by rw [if_neg (show ¬ (false = true) by decide)] at H; exact H
   clear H; have H := H1; clear H1; have H' := Aside0.mk H; clear H; have hnb17 := NB637_638.out; have hnc17 := NB638_637.out; have hcz18_0 : w5.cell? ⟨gb637, 0, none⟩ = some (.slice A0_0 l0_0.length c0_0) := (blk_cell BK637.out 0).trans rfl; have hcz18_1 : w5.cell? ⟨gb637, 1, none⟩ = some (.string a0_1) := (blk_cell BK637.out 1).trans rfl; have hfz18_0 := blk_frozen BK637.out 0; have hfz18_1 := blk_frozen BK637.out 1
   go_wp2_with (first | ((with_reducible refine gate_callee (f := 18) rfl ?_); refine goesL_ (some 10) rfl rfl Tryz.func18 (by kernel_rfl) rfl #[.agg #[.slice A0_0 l0_0.length c0_0, .string a0_1]] rfl am ?_; (with_reducible refine (bulletinlaw16_Light.calls k _ _ l0_0 a0_1 false _ ?side1 ?side2 A6.out).mono ?_); (case side1 => repeat (first | exact (Kd.C_below HR0_0.out HB.out) | (with_reducible refine Kd.C_alloc ?_ _) | (with_reducible refine Kd.C_drewN ?_ _) | (with_reducible refine Kd.C_drew ?_))); (case side2 => exact HC0_0.out); rintro e w19 ⟨rfl, hb⟩; refine ⟨_, rfl, ?_⟩; have n0_ := Aside0.mk (blk_below (g := gb637) (o := .cells #[.slice A0_0 l0_0.length c0_0, .string a0_1] 31 (0, 0)) bk hb); have n1_ := Aside0.mk (blk_below (g := gb638) (o := .cells #[.string a1_0, .string a1_1] 67 (0, 0)) bk hb); have n2_ := Aside0.mk (below_step bwS hb); clear BK637; clear BK638; clear HB; have BK637 := n0_; have BK638 := n1_; have HB := n2_; clear n0_ n1_ n2_; (try clear hb); (try clear hb2); (try clear hk); (try clear hi)))
   go_meet
   case rel => exact ⟨_, (true), cl, H', ⟨by first | omega | exact Nat.le_refl _⟩, ⟨bk⟩, ⟨bk⟩, ⟨bwS⟩⟩
 case rest =>
  clear HC3
  try clear c1
  try clear p2
  try clear c7
  try clear c8
  try clear c8b0
  try clear c8b1
  try clear c9
  try clear c13
  try clear c17
  try clear c18
  try clear hcz10_0
  try clear hcz10_1
  try clear hcz12_0
  try clear hcz12_1
  try clear hcz14_0
  try clear hcz14_1
  try clear hcz16_0
  try clear hcz16_1
  try clear hcz18_0
  try clear hcz18_1
  try clear hfz10_0
  try clear hfz10_1
  try clear hfz12_0
  try clear hfz12_1
  try clear hfz14_0
  try clear hfz14_1
  try clear hfz16_0
  try clear hfz16_1
  try clear hfz18_0
  try clear hfz18_1
  obtain ⟨kq, x23_2, rfl, HA, HJ2, BK637, BK638, HB⟩ := hcut; cases kq with
  | zero => exact absurd HA.out (by simp [bulletinlaw16_MsgWith.j0])
  | succ kj2 =>
   have H := HA.out; clear HA; simp only [bulletinlaw16_MsgWith.j0] at H
   by_cases c20 : x23_2 = true
   ·subst c20; have H1 : ((bulletinlaw16_works.f kj2).bind fun t640 => (some t640)) = some r := by rw [if_pos rfl] at H; exact H
    clear H; have H := H1; clear H1; replace H := Option.bind_eq_some_iff.mp H; obtain ⟨t640, A210, H⟩ := H; replace H : (some t640) = some r := H; have A21 := Aside0.mk A210; clear A210; obtain rfl := Option.some.inj H
    as_aux_lemma =>
     go_wp2_with (first | ((with_reducible refine gate_callee (f := 9) rfl ?_); refine goesL_ (some 24) rfl rfl Tryz.func9 (by kernel_rfl) rfl #[] rfl am ?_; (with_reducible refine (bulletinlaw16_works.calls (hG := by first | exact hG | exact Glob.below hG (by first | exact HB.out | (repeat (first | (with_reducible first | exact HB.out | apply below_alloc | apply pw_below_drewN | apply below_drew1 | refine below_set ?_ GE637.out | refine below_set ?_ GE638.out | refine below_set ?_ GE645.out | refine below_set ?_ GE650.out | refine below_set ?_ GE654.out) | exact HB.out))) | exact Glob.drawn hG (d0)) kj2  t640 _ A21.out).mono ?_); rintro e w22 ⟨rfl, hb⟩; refine ⟨_, rfl, ?_⟩; have n0_ := Aside0.mk (blk_below (g := gb637) (o := .cells #[.slice A0_0 l0_0.length c0_0, .string a0_1] 31 (0, 0)) bk hb); have n1_ := Aside0.mk (blk_below (g := gb638) (o := .cells #[.string a1_0, .string a1_1] 67 (0, 0)) bk hb); have n2_ := Aside0.mk (below_step bwS hb); clear BK637; clear BK638; clear HB; have BK637 := n0_; have BK638 := n1_; have HB := n2_; clear n0_ n1_ n2_; (try clear hb); (try clear hb2); (try clear hk); (try clear hi)))
     go_ret
     exact ⟨ew, bwS⟩
   ·replace c20 := Bool.eq_false_iff.mpr c20; subst c20; have H1 : ((bulletinlaw16_To.f kj2 l0_0 a0_1).bind fun bt641 => ((msg_Message_With.f bt641.1 bt641.2 a1_0 a1_1).bind fun bt646 => ((bulletinref15_Put.f kj2 l0_0 a1_0 a1_1).bind fun t651 => ((bulletinlaw16_Same.f kj2 bt646.1 bt646.2 t651 a0_1).bind fun t655 => (if t655 = true then (bulletinlaw16_MsgWith.l0 kj2 (bt646.1.length : Int) 0 l0_0 a0_1 bt641.1 bt641.2 bt646.1 bt646.2) else (some false)))))) = some r := by rw [if_neg (show ¬ (false = true) by decide)] at H; exact H
    clear H; have H := H1; clear H1; replace H := Option.bind_eq_some_iff.mp H; obtain ⟨⟨t641, t644⟩, A230, H⟩ := H; replace H : ((msg_Message_With.f t641 t644 a1_0 a1_1).bind fun bt646 => ((bulletinref15_Put.f kj2 l0_0 a1_0 a1_1).bind fun t651 => ((bulletinlaw16_Same.f kj2 bt646.1 bt646.2 t651 a0_1).bind fun t655 => (if t655 = true then (bulletinlaw16_MsgWith.l0 kj2 (bt646.1.length : Int) 0 l0_0 a0_1 t641 t644 bt646.1 bt646.2) else (some false))))) = some r := H; have A23 := Aside0.mk A230; clear A230; replace H := Option.bind_eq_some_iff.mp H; obtain ⟨⟨t646, t649⟩, A240, H⟩ := H; replace H : ((bulletinref15_Put.f kj2 l0_0 a1_0 a1_1).bind fun t651 => ((bulletinlaw16_Same.f kj2 t646 t649 t651 a0_1).bind fun t655 => (if t655 = true then (bulletinlaw16_MsgWith.l0 kj2 (t646.length : Int) 0 l0_0 a0_1 t641 t644 t646 t649) else (some false)))) = some r := H; have A24 := Aside0.mk A240; clear A240; replace H := Option.bind_eq_some_iff.mp H; obtain ⟨t651, A250, H⟩ := H; replace H : ((bulletinlaw16_Same.f kj2 t646 t649 t651 a0_1).bind fun t655 => (if t655 = true then (bulletinlaw16_MsgWith.l0 kj2 (t646.length : Int) 0 l0_0 a0_1 t641 t644 t646 t649) else (some false))) = some r := H; have A25 := Aside0.mk A250; clear A250; replace H := Option.bind_eq_some_iff.mp H; obtain ⟨t655, A260, H⟩ := H; replace H : (if t655 = true then (bulletinlaw16_MsgWith.l0 kj2 (t646.length : Int) 0 l0_0 a0_1 t641 t644 t646 t649) else (some false)) = some r := H; have A26 := Aside0.mk A260; clear A260
    by_cases c27 : t655 = true
    ·subst c27; have H1 : (bulletinlaw16_MsgWith.l0 kj2 (t646.length : Int) 0 l0_0 a0_1 t641 t644 t646 t649) = some r := by rw [if_pos rfl] at H; exact H
     clear H; have H := H1; clear H1; have H' := Aside0.mk H; clear H; have hnb28 := NB637_638.out; have hnc28 := NB638_637.out; have hcz29_0 : wc.cell? ⟨gb637, 0, none⟩ = some (.slice A0_0 l0_0.length c0_0) := (blk_cell BK637.out 0).trans rfl; have hcz29_1 : wc.cell? ⟨gb637, 1, none⟩ = some (.string a0_1) := (blk_cell BK637.out 1).trans rfl; have hfz29_0 := blk_frozen BK637.out 0; have hfz29_1 := blk_frozen BK637.out 1
     as_aux_lemma =>
      try go_wp2_with (first | ((with_reducible refine gate_callee (f := 19) rfl ?_); refine goesL_ (some 26) rfl rfl Tryz.func19 (by kernel_rfl) rfl #[.agg #[.slice A0_0 l0_0.length c0_0, .string a0_1]] rfl am ?_; (with_reducible refine (bulletinlaw16_To.calls kj2 _ _ l0_0 a0_1 t641 t644 _ ?side1 ?side2 A23.out).mono ?_); (case side1 => repeat (first | exact (Kd.C_below HR0_0.out HB.out) | (with_reducible refine Kd.C_alloc ?_ _) | (with_reducible refine Kd.C_drewN ?_ _) | (with_reducible refine Kd.C_drew ?_))); (case side2 => exact HC0_0.out); rintro e w30 ⟨v642, rfl, ho0, hb⟩; refine ⟨_, rfl, ?_⟩; have n0_ := Aside0.mk (Kd.R_lower ho0 (below_size bwS)); have n1_ := Aside0.mk (blk_below (g := gb637) (o := .cells #[.slice A0_0 l0_0.length c0_0, .string a0_1] 31 (0, 0)) bk hb); have n2_ := Aside0.mk (blk_below (g := gb638) (o := .cells #[.string a1_0, .string a1_1] 67 (0, 0)) bk hb); have n3_ := Aside0.mk (below_step bwS hb); clear BK637; clear BK638; clear HB; have HO643 := n0_; have BK637 := n1_; have BK638 := n2_; have HB := n3_; clear n0_ n1_ n2_ n3_; (try clear hb); (try clear hb2); (try clear hk); (try clear hi); (try clear ho0)) | ((with_reducible refine gate_dst (N := 5) rfl ?_); (try (refine gate_guard (by rfl) ?_; dsimp only)); refine box_event ?hg (N := 5) ?hd (cs := #[.slice none 0 0, .string (⟨#[]⟩ : ByteArray)]) (t := 25) ?hr ?_; (case hd => rfl); (case hg => rfl); (case hr => first | (go_simp; done) | (go_simp; rfl)); intro gb645 hg w31 hbox hb; have n0_ := Aside0.mk (Kd.R_below (ra HO643.out) hb); have n1_ := Aside0.mk (blk_below (g := gb637) (o := .cells #[.slice A0_0 l0_0.length c0_0, .string a0_1] 31 (0, 0)) bk hb); have n2_ := Aside0.mk (blk_below (g := gb638) (o := .cells #[.string a1_0, .string a1_1] 67 (0, 0)) bk hb); have n3_ := Aside0.mk (below_step bwS hb); have n4_ := Aside0.mk (hbox); have n5_ := Aside0.mk ((by rw [hg]; exact (below_size bwS) : w.heap.size ≤ gb645)); have n6_ := Aside0.mk ((by rw [hg]; exact (below_size bwS) : w.heap.size ≤ gb645)); have n7_ := Aside0.mk ((by rw [hg]; exact Nat.ne_of_lt (blk_lt (g := gb637) (o := .cells #[.slice A0_0 l0_0.length c0_0, .string a0_1] 31 (0, 0)) bk) : gb637 ≠ gb645)); have n8_ := Aside0.mk ((by rw [hg]; exact Nat.ne_of_gt (blk_lt (g := gb637) (o := .cells #[.slice A0_0 l0_0.length c0_0, .string a0_1] 31 (0, 0)) bk) : gb645 ≠ gb637)); have n9_ := Aside0.mk ((by rw [hg]; exact Nat.ne_of_lt (blk_lt (g := gb638) (o := .cells #[.string a1_0, .string a1_1] 67 (0, 0)) bk) : gb638 ≠ gb645)); have n10_ := Aside0.mk ((by rw [hg]; exact Nat.ne_of_gt (blk_lt (g := gb638) (o := .cells #[.string a1_0, .string a1_1] 67 (0, 0)) bk) : gb645 ≠ gb638)); clear HO643; clear BK637; clear BK638; clear HB; have HO643 := n0_; have BK637 := n1_; have BK638 := n2_; have HB := n3_; have BK645 := n4_; have GW645 := n5_; have GE645 := n6_; have NB637_645 := n7_; have NB645_637 := n8_; have NB638_645 := n9_; have NB645_638 := n10_; clear n0_ n1_ n2_ n3_ n4_ n5_ n6_ n7_ n8_ n9_ n10_; clear hb hbox hg; obtain ⟨Ao32, co32, eo32⟩ := Kd.R_slice HO643.out; subst eo32; have hnb33 := NB645_637.out; have hnc33 := NB637_645.out; have hnb34 := NB645_638.out; have hnc34 := NB638_645.out; have hcz35_0 : w31.cell? ⟨gb645, 0, none⟩ = some (.slice none 0 0) := (blk_cell BK645.out 0).trans rfl; have hcz35_1 : w31.cell? ⟨gb645, 1, none⟩ = some (.string (⟨#[]⟩ : ByteArray)) := (blk_cell BK645.out 1).trans rfl; have hfz35_0 := blk_frozen BK645.out 0; have hfz35_1 := blk_frozen BK645.out 1; have hcz36_0 : w31.cell? ⟨gb638, 0, none⟩ = some (.string a1_0) := (blk_cell BK638.out 0).trans rfl; have hcz36_1 : w31.cell? ⟨gb638, 1, none⟩ = some (.string a1_1) := (blk_cell BK638.out 1).trans rfl; have hfz36_0 := blk_frozen BK638.out 0; have hfz36_1 := blk_frozen BK638.out 1) | ((with_reducible refine gate_callee (f := 34) rfl ?_); refine goesL_ (some 32) rfl rfl Tryz.func34 (by kernel_rfl) rfl #[.agg #[.slice Ao32 t641.length co32, .string t644], .string a1_0, .string a1_1] rfl am ?_; (with_reducible refine (msg_Message_With.calls _ _ t641 t644 a1_0 a1_1 t646 t649 _ ?side1 ?side2 A24.out).mono ?_); (case side1 => refine (Kd.R_reads' (e := 46) (base := w.heap.size) (ok := fun k_ => True) (n := t641.length) (c := co32) ?_).2.2; exact (by (with_reducible repeat (first | apply Kd.R_alloc | apply Kd.R_drewN | apply Kd.R_drew)); exact (Kd.R_mono (Kd.R_far (p := ⟨gb645, 1, none⟩) (Kd.R_far (p := ⟨gb645, 0, none⟩) (Kd.R_types HO643.out BK645.out (by decide)) (fun _ hk => hk.2) (.slice Ao32 t641.length co32)) (fun _ hk => hk.2) (.string t644)) (fun _ h_ => h_.1)))); (case side2 => exact (Kd.R_reads' HO643.out).2.1); rintro e w37 ⟨v647, rfl, ho0, hb⟩; refine ⟨_, rfl, ?_⟩; have n0_ := Aside0.mk (Kd.R_elder' (by (with_reducible repeat (first | apply Kd.R_alloc | apply Kd.R_drewN | apply Kd.R_drew)); exact (Kd.R_mono (Kd.R_far (p := ⟨gb645, 1, none⟩) (Kd.R_far (p := ⟨gb645, 0, none⟩) (Kd.R_types HO643.out BK645.out (by decide)) (fun _ hk => hk.2) (.slice Ao32 t641.length co32)) (fun _ hk => hk.2) (.string t644)) (fun _ h_ => h_.1))) (Kd.R_base ho0) hb); have n1_ := Aside0.mk (Kd.R_lower (Kd.R_new' ho0 (Kd.R_lt (by (with_reducible repeat (first | apply Kd.R_alloc | apply Kd.R_drewN | apply Kd.R_drew)); exact (Kd.R_mono (Kd.R_far (p := ⟨gb645, 1, none⟩) (Kd.R_far (p := ⟨gb645, 0, none⟩) (Kd.R_types HO643.out BK645.out (by decide)) (fun _ hk => hk.2) (.slice Ao32 t641.length co32)) (fun _ hk => hk.2) (.string t644)) (fun _ h_ => h_.1))))) (below_size bwS)); have n2_ := Aside0.mk (blk_below (g := gb637) (o := .cells #[.slice A0_0 l0_0.length c0_0, .string a0_1] 31 (0, 0)) (by (with_reducible repeat (first | refine blk_drewN ?_ _ | refine blk_drew ?_ | refine blk_alloc ?_ _)); refine blk_far ?_ NB637_645.out _; (with_reducible repeat (first | refine blk_drewN ?_ _ | refine blk_drew ?_ | refine blk_alloc ?_ _)); refine blk_far ?_ NB637_645.out _; (with_reducible repeat (first | refine blk_drewN ?_ _ | refine blk_drew ?_ | refine blk_alloc ?_ _)); exact BK637.out) hb); have n3_ := Aside0.mk (blk_below (g := gb638) (o := .cells #[.string a1_0, .string a1_1] 67 (0, 0)) (by (with_reducible repeat (first | refine blk_drewN ?_ _ | refine blk_drew ?_ | refine blk_alloc ?_ _)); refine blk_far ?_ NB638_645.out _; (with_reducible repeat (first | refine blk_drewN ?_ _ | refine blk_drew ?_ | refine blk_alloc ?_ _)); refine blk_far ?_ NB638_645.out _; (with_reducible repeat (first | refine blk_drewN ?_ _ | refine blk_drew ?_ | refine blk_alloc ?_ _)); exact BK638.out) hb); have n4_ := Aside0.mk (blk_below (g := gb645) (o := .cells #[.slice Ao32 t641.length co32, .string t644] 25 (0, 0)) (by (with_reducible repeat (first | refine blk_drewN ?_ _ | refine blk_drew ?_ | refine blk_alloc ?_ _)); refine blk_put (cs := #[.slice Ao32 t641.length co32, .string (⟨#[]⟩ : ByteArray)]) ?_ 1 _ rfl; (with_reducible repeat (first | refine blk_drewN ?_ _ | refine blk_drew ?_ | refine blk_alloc ?_ _)); exact blk_put (cs := #[.slice none 0 0, .string (⟨#[]⟩ : ByteArray)]) bk 0 _ rfl) hb); have n5_ := Aside0.mk (below_step bwS hb); clear HO643; clear BK637; clear BK638; clear BK645; clear HB; have HO643 := n0_; have HO648 := n1_; have BK637 := n2_; have BK638 := n3_; have BK645 := n4_; have HB := n5_; clear n0_ n1_ n2_ n3_ n4_ n5_; (try clear hb); (try clear hb2); (try clear hk); (try clear hi); (try clear ho0)) | ((with_reducible refine gate_dst (N := 6) rfl ?_); (try (refine gate_guard (by rfl) ?_; dsimp only)); refine box_event ?hg (N := 6) ?hd (cs := #[.slice none 0 0, .string (⟨#[]⟩ : ByteArray)]) (t := 25) ?hr ?_; (case hd => rfl); (case hg => rfl); (case hr => first | (go_simp; done) | (go_simp; rfl)); intro gb650 hg w38 hbox hb; have n0_ := Aside0.mk (Kd.R_below (ra HO643.out) hb); have n1_ := Aside0.mk (Kd.R_below (ra HO648.out) hb); have n2_ := Aside0.mk (blk_below (g := gb637) (o := .cells #[.slice A0_0 l0_0.length c0_0, .string a0_1] 31 (0, 0)) bk hb); have n3_ := Aside0.mk (blk_below (g := gb638) (o := .cells #[.string a1_0, .string a1_1] 67 (0, 0)) bk hb); have n4_ := Aside0.mk (blk_below (g := gb645) (o := .cells #[.slice Ao32 t641.length co32, .string t644] 25 (0, 0)) bk hb); have n5_ := Aside0.mk (below_step bwS hb); have n6_ := Aside0.mk (hbox); have n7_ := Aside0.mk ((by rw [hg]; exact (below_size bwS) : w.heap.size ≤ gb650)); have n8_ := Aside0.mk ((by rw [hg]; exact (below_size bwS) : w.heap.size ≤ gb650)); have n9_ := Aside0.mk ((by rw [hg]; exact Nat.ne_of_lt (blk_lt (g := gb637) (o := .cells #[.slice A0_0 l0_0.length c0_0, .string a0_1] 31 (0, 0)) bk) : gb637 ≠ gb650)); have n10_ := Aside0.mk ((by rw [hg]; exact Nat.ne_of_gt (blk_lt (g := gb637) (o := .cells #[.slice A0_0 l0_0.length c0_0, .string a0_1] 31 (0, 0)) bk) : gb650 ≠ gb637)); have n11_ := Aside0.mk ((by rw [hg]; exact Nat.ne_of_lt (blk_lt (g := gb638) (o := .cells #[.string a1_0, .string a1_1] 67 (0, 0)) bk) : gb638 ≠ gb650)); have n12_ := Aside0.mk ((by rw [hg]; exact Nat.ne_of_gt (blk_lt (g := gb638) (o := .cells #[.string a1_0, .string a1_1] 67 (0, 0)) bk) : gb650 ≠ gb638)); have n13_ := Aside0.mk ((by rw [hg]; exact Nat.ne_of_lt (blk_lt (g := gb645) (o := .cells #[.slice Ao32 t641.length co32, .string t644] 25 (0, 0)) bk) : gb645 ≠ gb650)); have n14_ := Aside0.mk ((by rw [hg]; exact Nat.ne_of_gt (blk_lt (g := gb645) (o := .cells #[.slice Ao32 t641.length co32, .string t644] 25 (0, 0)) bk) : gb650 ≠ gb645)); clear HO643; clear HO648; clear BK637; clear BK638; clear BK645; clear HB; have HO643 := n0_; have HO648 := n1_; have BK637 := n2_; have BK638 := n3_; have BK645 := n4_; have HB := n5_; have BK650 := n6_; have GW650 := n7_; have GE650 := n8_; have NB637_650 := n9_; have NB650_637 := n10_; have NB638_650 := n11_; have NB650_638 := n12_; have NB645_650 := n13_; have NB650_645 := n14_; clear n0_ n1_ n2_ n3_ n4_ n5_ n6_ n7_ n8_ n9_ n10_ n11_ n12_ n13_ n14_; clear hb hbox hg; obtain ⟨Ao39, co39, eo39⟩ := Kd.R_slice HO648.out; subst eo39; have hnb40 := NB650_637.out; have hnc40 := NB637_650.out; have hnb41 := NB650_638.out; have hnc41 := NB638_650.out; have hnb42 := NB650_645.out; have hnc42 := NB645_650.out; have hcz43_0 : w38.cell? ⟨gb650, 0, none⟩ = some (.slice none 0 0) := (blk_cell BK650.out 0).trans rfl; have hcz43_1 : w38.cell? ⟨gb650, 1, none⟩ = some (.string (⟨#[]⟩ : ByteArray)) := (blk_cell BK650.out 1).trans rfl; have hfz43_0 := blk_frozen BK650.out 0; have hfz43_1 := blk_frozen BK650.out 1))
      have n0_ : Aside0 (Kd.R k46 46 ((w38.setCell ⟨gb650, 0, none⟩ (.slice Ao39 t646.length co39)).setCell ⟨gb650, 1, none⟩ (.string t649)) w.heap.size (fun k_ => some k_ ≠ (.slice Ao39 t646.length co39 : Value).ownBlock) (.slice Ao32 t641.length co32) t641) := ⟨by (with_reducible repeat (first | apply Kd.R_alloc | apply Kd.R_drewN | apply Kd.R_drew)); exact Kd.R_mono (Kd.R_far (p := ⟨gb650, 1, none⟩) (Kd.R_far (p := ⟨gb650, 0, none⟩) (Kd.R_types HO643.out BK650.out (by decide)) (fun _ hk => hk.2) (.slice Ao39 t646.length co39)) (fun _ hk => hk.2) (.string t649)) (fun _ hk => hk.1.2)⟩
      have n1_ : Aside0 (Kd.R k46 46 ((w38.setCell ⟨gb650, 0, none⟩ (.slice Ao39 t646.length co39)).setCell ⟨gb650, 1, none⟩ (.string t649)) w.heap.size (fun k_ => some k_ ≠ (.slice Ao32 t641.length co32 : Value).ownBlock) (.slice Ao39 t646.length co39) t646) := ⟨by (with_reducible repeat (first | apply Kd.R_alloc | apply Kd.R_drewN | apply Kd.R_drew)); exact Kd.R_mono (Kd.R_far (p := ⟨gb650, 1, none⟩) (Kd.R_far (p := ⟨gb650, 0, none⟩) (Kd.R_types HO648.out BK650.out (by decide)) (fun _ hk => hk.2) (.slice Ao39 t646.length co39)) (fun _ hk => hk.2) (.string t649)) (fun _ hk => hk.1.2)⟩
      have n2_ : Aside0 (((w38.setCell ⟨gb650, 0, none⟩ (.slice Ao39 t646.length co39)).setCell ⟨gb650, 1, none⟩ (.string t649)).heap[gb637]? = some (.cells #[.slice A0_0 l0_0.length c0_0, .string a0_1] 31 (0, 0))) := ⟨by (with_reducible repeat (first | refine blk_drewN ?_ _ | refine blk_drew ?_ | refine blk_alloc ?_ _)); refine blk_far ?_ NB637_650.out _; (with_reducible repeat (first | refine blk_drewN ?_ _ | refine blk_drew ?_ | refine blk_alloc ?_ _)); refine blk_far ?_ NB637_650.out _; (with_reducible repeat (first | refine blk_drewN ?_ _ | refine blk_drew ?_ | refine blk_alloc ?_ _)); exact BK637.out⟩
      have n3_ : Aside0 (((w38.setCell ⟨gb650, 0, none⟩ (.slice Ao39 t646.length co39)).setCell ⟨gb650, 1, none⟩ (.string t649)).heap[gb638]? = some (.cells #[.string a1_0, .string a1_1] 67 (0, 0))) := ⟨by (with_reducible repeat (first | refine blk_drewN ?_ _ | refine blk_drew ?_ | refine blk_alloc ?_ _)); refine blk_far ?_ NB638_650.out _; (with_reducible repeat (first | refine blk_drewN ?_ _ | refine blk_drew ?_ | refine blk_alloc ?_ _)); refine blk_far ?_ NB638_650.out _; (with_reducible repeat (first | refine blk_drewN ?_ _ | refine blk_drew ?_ | refine blk_alloc ?_ _)); exact BK638.out⟩
      have n4_ : Aside0 (((w38.setCell ⟨gb650, 0, none⟩ (.slice Ao39 t646.length co39)).setCell ⟨gb650, 1, none⟩ (.string t649)).heap[gb645]? = some (.cells #[.slice Ao32 t641.length co32, .string t644] 25 (0, 0))) := ⟨by (with_reducible repeat (first | refine blk_drewN ?_ _ | refine blk_drew ?_ | refine blk_alloc ?_ _)); refine blk_far ?_ NB645_650.out _; (with_reducible repeat (first | refine blk_drewN ?_ _ | refine blk_drew ?_ | refine blk_alloc ?_ _)); refine blk_far ?_ NB645_650.out _; (with_reducible repeat (first | refine blk_drewN ?_ _ | refine blk_drew ?_ | refine blk_alloc ?_ _)); exact BK645.out⟩
      have n5_ : Aside0 (((w38.setCell ⟨gb650, 0, none⟩ (.slice Ao39 t646.length co39)).setCell ⟨gb650, 1, none⟩ (.string t649)).heap[gb650]? = some (.cells #[.slice Ao39 t646.length co39, .string t649] 25 (0, 0))) := ⟨by (with_reducible repeat (first | refine blk_drewN ?_ _ | refine blk_drew ?_ | refine blk_alloc ?_ _)); refine blk_put (cs := #[.slice Ao39 t646.length co39, .string (⟨#[]⟩ : ByteArray)]) ?_ 1 _ rfl; (with_reducible repeat (first | refine blk_drewN ?_ _ | refine blk_drew ?_ | refine blk_alloc ?_ _)); exact blk_put (cs := #[.slice none 0 0, .string (⟨#[]⟩ : ByteArray)]) bk 0 _ rfl⟩
      have n6_ : Aside0 (Below w.heap.size w ((w38.setCell ⟨gb650, 0, none⟩ (.slice Ao39 t646.length co39)).setCell ⟨gb650, 1, none⟩ (.string t649))) := ⟨bwS⟩
      (try clear HO643)
      (try clear HO648)
      (try clear BK637)
      (try clear BK638)
      (try clear BK645)
      (try clear BK650)
      (try clear HB)
      generalize ((w38.setCell ⟨gb650, 0, none⟩ (.slice Ao39 t646.length co39)).setCell ⟨gb650, 1, none⟩ (.string t649)) = w44 at n0_ n1_ n2_ n3_ n4_ n5_ n6_ ⊢
      have HO643 := n0_; have HO648 := n1_; have BK637 := n2_; have BK638 := n3_; have BK645 := n4_; have BK650 := n5_; have HB := n6_; clear n0_ n1_ n2_ n3_ n4_ n5_ n6_; have n0_ := Aside0.mk (Kd.R_drew HO643.out); have n1_ := Aside0.mk (Kd.R_drew HO648.out); have n2_ := Aside0.mk (blk_drew BK637.out); have n3_ := Aside0.mk (blk_drew BK638.out); have n4_ := Aside0.mk (blk_drew BK645.out); have n5_ := Aside0.mk (blk_drew BK650.out); have n6_ := Aside0.mk (below_drew1 HB.out); clear HO643 HO648 BK637 BK638 BK645 BK650 HB; have HO643 := n0_; have HO648 := n1_; have BK637 := n2_; have BK638 := n3_; have BK645 := n4_; have BK650 := n5_; have HB := n6_; clear n0_ n1_ n2_ n3_ n4_ n5_ n6_; refine start_ (n := 9) (S := fun w' => w'.cell? ⟨gb637, 0, none⟩ = some (.slice A0_0 l0_0.length c0_0) ∧ w'.cell? ⟨gb637, 1, none⟩ = some (.string a0_1) ∧ w'.cell? ⟨gb638, 0, none⟩ = some (.string a1_0) ∧ w'.cell? ⟨gb638, 1, none⟩ = some (.string a1_1)) (ds := []) #[false, false, false, false, false, false, false, false, false] (by kernel_rfl) rfl rfl ⟨(blk_cell BK637.out 0).trans rfl, (blk_cell BK637.out 1).trans rfl, (blk_cell BK638.out 0).trans rfl, (blk_cell BK638.out 1).trans rfl⟩ (fun hHeld => ?_); refine with_tabW bulletinlaw16_MsgWith.tab5 bulletinlaw16_MsgWith.bits5 (fun HT_ HW_ => ?_)
      generalize w44.drew = w45 at HO643 HO648 BK637 BK638 BK645 BK650 HB hHeld ⊢
      refine pure_ (i := 0) (N := some 33) (v := ?_) (a' := ?_) (bitsL 9 1) rfl rfl (any_of HT_.out (by kernel_rfl)) (fun _ _ _ h => h) (Or.inl ⟨by rfl, ?_⟩) ?_ ?_; rotate_left
      ·intro w'; go_simp; with_reducible rfl
      rotate_left
      ·simp only [Act.put, List.setIfInBounds_toArray, List.set_cons_zero, List.set_cons_succ, i64_w, i32_w]; rfl
      refine pure_ (i := 4) (N := some 37) (v := ?_) (a' := ?_) (bitsL 9 17) rfl rfl (any_of HT_.out (by kernel_rfl)) (fun _ _ _ h => h) (Or.inl ⟨by rfl, ?_⟩) ?_ ?_; rotate_left
      ·intro w'; go_simp; with_reducible rfl
      rotate_left
      ·simp only [Act.put, List.setIfInBounds_toArray, List.set_cons_zero, List.set_cons_succ, i64_w, i32_w]; rfl
      refine take_ (i := 1) (N := some 34) (v := ?_) (a' := ?_) (bitsL 9 19) rfl rfl (take_ofW HT_.out HW_.out (by kernel_rfl)) (fun _ _ _ h => h) (Or.inl ⟨by rfl, ?_⟩) hHeld ?_ ?_; rotate_left
      ·rintro w' ⟨s0, s1, s2, s3⟩; go_simp; with_reducible rfl
      rotate_left
      ·simp only [Act.put, List.setIfInBounds_toArray, List.set_cons_zero, List.set_cons_succ, i64_w, i32_w]; rfl
      refine take_ (i := 2) (N := some 35) (v := ?_) (a' := ?_) (bitsL 9 23) rfl rfl (take_ofW HT_.out HW_.out (by kernel_rfl)) (fun _ _ _ h => h) (Or.inl ⟨by rfl, ?_⟩) hHeld ?_ ?_; rotate_left
      ·rintro w' ⟨s0, s1, s2, s3⟩; go_simp; with_reducible rfl
      rotate_left
      ·simp only [Act.put, List.setIfInBounds_toArray, List.set_cons_zero, List.set_cons_succ, i64_w, i32_w]; rfl
      refine take_ (i := 5) (N := some 38) (v := ?_) (a' := ?_) (bitsL 9 55) rfl rfl (take_ofW HT_.out HW_.out (by kernel_rfl)) (fun _ _ _ h => h) (Or.inl ⟨by rfl, ?_⟩) hHeld ?_ ?_; rotate_left
      ·rintro w' ⟨s0, s1, s2, s3⟩; go_simp; with_reducible rfl
      rotate_left
      ·simp only [Act.put, List.setIfInBounds_toArray, List.set_cons_zero, List.set_cons_succ, i64_w, i32_w]; rfl
      refine join_ (σ := Value × Nat) 1 (bitsL 9 255) (fun s_ => [(36, s_.1), (7, .pointer (some ⟨s_.2, 0, none⟩)), (39, .agg #[s_.1, .string a0_1])]) (fun s_ w' => (w'.cell? ⟨gb637, 0, none⟩ = some (.slice A0_0 l0_0.length c0_0) ∧ w'.cell? ⟨gb637, 1, none⟩ = some (.string a0_1) ∧ w'.cell? ⟨gb638, 0, none⟩ = some (.string a1_0) ∧ w'.cell? ⟨gb638, 1, none⟩ = some (.string a1_1)) ∧ (Kd.R k46 46 w' w.heap.size (fun k_ => some k_ ≠ (.slice Ao39 t646.length co39 : Value).ownBlock) (.slice Ao32 t641.length co32) t641) ∧ (Kd.R k46 46 w' w.heap.size (fun k_ => some k_ ≠ (.slice Ao32 t641.length co32 : Value).ownBlock) (.slice Ao39 t646.length co39) t646) ∧ (Kd.R k67 67 w' w.heap.size (fun k_ => k_ ≠ gb638) s_.1 t651) ∧ (w'.heap[gb637]? = some (.cells #[.slice A0_0 l0_0.length c0_0, .string a0_1] 31 (0, 0))) ∧ (w'.heap[gb638]? = some (.cells #[.string a1_0, .string a1_1] 67 (0, 0))) ∧ (w'.heap[gb645]? = some (.cells #[.slice Ao32 t641.length co32, .string t644] 25 (0, 0))) ∧ (w'.heap[gb650]? = some (.cells #[.slice Ao39 t646.length co39, .string t649] 25 (0, 0))) ∧ (w'.heap[s_.2]? = some (.cells #[.slice none 0 0, .string (⟨#[]⟩ : ByteArray)] 31 (0, 0))) ∧ (w.heap.size ≤ s_.2) ∧ (w.heap.size ≤ s_.2) ∧ (gb637 ≠ s_.2) ∧ (s_.2 ≠ gb637) ∧ (gb638 ≠ s_.2) ∧ (s_.2 ≠ gb638) ∧ (gb645 ≠ s_.2) ∧ (s_.2 ≠ gb645) ∧ (gb650 ≠ s_.2) ∧ (s_.2 ≠ gb650) ∧ (Below w.heap.size w w')) ?_ ?_; rotate_left
      ·intro hCont; refine two_ (i := 3) (j := 7) (Ni := some 36) (Nj := some 7) (bitsL 9 63) (bitsL 9 183) rfl rfl rfl rfl (two_of HT_.out (by kernel_rfl)) (by decide) (by decide) (fun K hK => ?_) (fun K hK => ?_)
       ·skip
        refine goes_ Tryz.func35 (by kernel_rfl) rfl #[.slice A0_0 l0_0.length c0_0, .agg #[.string a1_0, .string a1_1]] (by rfl) rfl rfl am ?_; with_reducible refine (bulletinref15_Put.calls kj2 _ _ l0_0 a1_0 a1_1 t651 _ ?side1 ?side2 A25.out).mono ?_
        (case side1 => repeat (first | exact (Kd.C_below HR0_0.out HB.out) | (with_reducible refine Kd.C_alloc ?_ _) | (with_reducible refine Kd.C_drewN ?_ _) | (with_reducible refine Kd.C_drew ?_)))
        (case side2 => exact HC0_0.out)
        rintro e w46 ⟨v652, rfl, ho0, hb⟩; refine ⟨_, rfl, ?_⟩; have n0_ := Aside0.mk (Kd.R_below (ra HO643.out) hb); have n1_ := Aside0.mk (Kd.R_below (ra HO648.out) hb); have n2_ := Aside0.mk (Kd.R_lower (Kd.R_newB ho0 (g := gb638) (o := .cells #[.string a1_0, .string a1_1] 67 (0, 0)) bk) (below_size bwS)); have n3_ := Aside0.mk (blk_below (g := gb637) (o := .cells #[.slice A0_0 l0_0.length c0_0, .string a0_1] 31 (0, 0)) bk hb); have n4_ := Aside0.mk (blk_below (g := gb638) (o := .cells #[.string a1_0, .string a1_1] 67 (0, 0)) bk hb); have n5_ := Aside0.mk (blk_below (g := gb645) (o := .cells #[.slice Ao32 t641.length co32, .string t644] 25 (0, 0)) bk hb); have n6_ := Aside0.mk (blk_below (g := gb650) (o := .cells #[.slice Ao39 t646.length co39, .string t649] 25 (0, 0)) bk hb); have n7_ := Aside0.mk (below_step bwS hb); clear HO643 HO648 BK637 BK638 BK645 BK650 HB; have HO643 := n0_; have HO648 := n1_; have HO653 := n2_; have BK637 := n3_; have BK638 := n4_; have BK645 := n5_; have BK650 := n6_; have HB := n7_; clear n0_ n1_ n2_ n3_ n4_ n5_ n6_ n7_
        (try clear hb)
        (try clear hb2)
        (try clear hk)
        (try clear hi)
        (try clear ho0)
        obtain ⟨Ao47, co47, eo47⟩ := Kd.R_slice HO653.out
        (first | subst eo47 | (injection eo47 with f1_ f2_ f3_; have f4_ := f1_.symm; have f5_ := f3_.symm; clear f1_ f2_ f3_; subst f4_; subst f5_))
        refine hK.out _ _ ⟨(blk_cell BK637.out 0).trans rfl, (blk_cell BK637.out 1).trans rfl, (blk_cell BK638.out 0).trans rfl, (blk_cell BK638.out 1).trans rfl⟩ (fun hHeld => ?_); clear hK K; refine norm_ (a' := ?_) ?_ ?_; rotate_left
        ·show Act.put _ (some 36) _ = _
         simp only [Act.put, List.setIfInBounds_toArray, List.set_cons_zero, List.set_cons_succ, i64_w, i32_w]; rfl
        refine pure_ (i := 6) (N := some 39) (v := ?_) (a' := ?_) (bitsL 9 127) rfl rfl (any_of HT_.out (by kernel_rfl)) (fun _ _ _ h => h) (Or.inl ⟨by rfl, ?_⟩) ?_ ?_; rotate_left
        ·intro w'; go_simp; with_reducible rfl
        rotate_left
        ·simp only [Act.put, List.setIfInBounds_toArray, List.set_cons_zero, List.set_cons_succ, i64_w, i32_w]; rfl
        refine one_ (i := 7) (N := some 7) (bitsL 9 255) rfl rfl (one_of HT_.out (by kernel_rfl)) (by decide) (fun K hK => ?_); refine box_step ?hg (N := 7) ?hd (cs := #[.slice none 0 0, .string (⟨#[]⟩ : ByteArray)]) (t := 31) ?hr ?_; (case hd => rfl); (case hg => rfl); (case hr => first | (go_simp; done) | (go_simp; rfl))
        intro gb654 hg w48 hbox hb; have n0_ := Aside0.mk (Kd.R_below (ra HO643.out) hb); have n1_ := Aside0.mk (Kd.R_below (ra HO648.out) hb); have n2_ := Aside0.mk (Kd.R_below (ra HO653.out) hb); have n3_ := Aside0.mk (blk_below (g := gb637) (o := .cells #[.slice A0_0 l0_0.length c0_0, .string a0_1] 31 (0, 0)) bk hb); have n4_ := Aside0.mk (blk_below (g := gb638) (o := .cells #[.string a1_0, .string a1_1] 67 (0, 0)) bk hb); have n5_ := Aside0.mk (blk_below (g := gb645) (o := .cells #[.slice Ao32 t641.length co32, .string t644] 25 (0, 0)) bk hb); have n6_ := Aside0.mk (blk_below (g := gb650) (o := .cells #[.slice Ao39 t646.length co39, .string t649] 25 (0, 0)) bk hb); have n7_ := Aside0.mk (below_step bwS hb); have n8_ := Aside0.mk (hbox); have n9_ := Aside0.mk ((by rw [hg]; exact (below_size bwS) : w.heap.size ≤ gb654)); have n10_ := Aside0.mk ((by rw [hg]; exact (below_size bwS) : w.heap.size ≤ gb654)); have n11_ := Aside0.mk ((by rw [hg]; exact Nat.ne_of_lt (blk_lt (g := gb637) (o := .cells #[.slice A0_0 l0_0.length c0_0, .string a0_1] 31 (0, 0)) bk) : gb637 ≠ gb654)); have n12_ := Aside0.mk ((by rw [hg]; exact Nat.ne_of_gt (blk_lt (g := gb637) (o := .cells #[.slice A0_0 l0_0.length c0_0, .string a0_1] 31 (0, 0)) bk) : gb654 ≠ gb637)); have n13_ := Aside0.mk ((by rw [hg]; exact Nat.ne_of_lt (blk_lt (g := gb638) (o := .cells #[.string a1_0, .string a1_1] 67 (0, 0)) bk) : gb638 ≠ gb654)); have n14_ := Aside0.mk ((by rw [hg]; exact Nat.ne_of_gt (blk_lt (g := gb638) (o := .cells #[.string a1_0, .string a1_1] 67 (0, 0)) bk) : gb654 ≠ gb638)); have n15_ := Aside0.mk ((by rw [hg]; exact Nat.ne_of_lt (blk_lt (g := gb645) (o := .cells #[.slice Ao32 t641.length co32, .string t644] 25 (0, 0)) bk) : gb645 ≠ gb654)); have n16_ := Aside0.mk ((by rw [hg]; exact Nat.ne_of_gt (blk_lt (g := gb645) (o := .cells #[.slice Ao32 t641.length co32, .string t644] 25 (0, 0)) bk) : gb654 ≠ gb645)); have n17_ := Aside0.mk ((by rw [hg]; exact Nat.ne_of_lt (blk_lt (g := gb650) (o := .cells #[.slice Ao39 t646.length co39, .string t649] 25 (0, 0)) bk) : gb650 ≠ gb654)); have n18_ := Aside0.mk ((by rw [hg]; exact Nat.ne_of_gt (blk_lt (g := gb650) (o := .cells #[.slice Ao39 t646.length co39, .string t649] 25 (0, 0)) bk) : gb654 ≠ gb650)); clear HO643 HO648 HO653 BK637 BK638 BK645 BK650 HB; have HO643 := n0_; have HO648 := n1_; have HO653 := n2_; have BK637 := n3_; have BK638 := n4_; have BK645 := n5_; have BK650 := n6_; have HB := n7_; have BK654 := n8_; have GW654 := n9_; have GE654 := n10_; have NB637_654 := n11_; have NB654_637 := n12_; have NB638_654 := n13_; have NB654_638 := n14_; have NB645_654 := n15_; have NB654_645 := n16_; have NB650_654 := n17_; have NB654_650 := n18_; clear n0_ n1_ n2_ n3_ n4_ n5_ n6_ n7_ n8_ n9_ n10_ n11_ n12_ n13_ n14_ n15_ n16_ n17_ n18_ hb hbox hg; refine hK.out _ _ ⟨(blk_cell BK637.out 0).trans rfl, (blk_cell BK637.out 1).trans rfl, (blk_cell BK638.out 0).trans rfl, (blk_cell BK638.out 1).trans rfl⟩ (fun hHeld => ?_); clear hK K; refine norm_ (a' := ?_) ?_ ?_; rotate_left
        ·show Act.put _ (some 7) _ = _
         simp only [Act.put, List.setIfInBounds_toArray, List.set_cons_zero, List.set_cons_succ, i64_w, i32_w]; rfl
        exact norm_ (by simp only [putAll, Act.put, List.setIfInBounds_toArray, List.set_cons_zero, List.set_cons_succ]) (hCont (.slice Ao47 t651.length co47, gb654) _ ⟨hHeld, (ra HO643.out), (ra HO648.out), (ra (Kd.R_mono HO653.out (fun _ hk => hk.2))), bk, bk, bk, bk, bk, GW654.out, GE654.out, NB637_654.out, NB654_637.out, NB638_654.out, NB654_638.out, NB645_654.out, NB654_645.out, NB650_654.out, NB654_650.out, bwS⟩)
       ·skip
        refine box_step ?hg (N := 7) ?hd (cs := #[.slice none 0 0, .string (⟨#[]⟩ : ByteArray)]) (t := 31) ?hr ?_; (case hd => rfl); (case hg => rfl); (case hr => first | (go_simp; done) | (go_simp; rfl))
        intro gb654 hg w46 hbox hb; have n0_ := Aside0.mk (Kd.R_below (ra HO643.out) hb); have n1_ := Aside0.mk (Kd.R_below (ra HO648.out) hb); have n2_ := Aside0.mk (blk_below (g := gb637) (o := .cells #[.slice A0_0 l0_0.length c0_0, .string a0_1] 31 (0, 0)) bk hb); have n3_ := Aside0.mk (blk_below (g := gb638) (o := .cells #[.string a1_0, .string a1_1] 67 (0, 0)) bk hb); have n4_ := Aside0.mk (blk_below (g := gb645) (o := .cells #[.slice Ao32 t641.length co32, .string t644] 25 (0, 0)) bk hb); have n5_ := Aside0.mk (blk_below (g := gb650) (o := .cells #[.slice Ao39 t646.length co39, .string t649] 25 (0, 0)) bk hb); have n6_ := Aside0.mk (below_step bwS hb); have n7_ := Aside0.mk (hbox); have n8_ := Aside0.mk ((by rw [hg]; exact (below_size bwS) : w.heap.size ≤ gb654)); have n9_ := Aside0.mk ((by rw [hg]; exact (below_size bwS) : w.heap.size ≤ gb654)); have n10_ := Aside0.mk ((by rw [hg]; exact Nat.ne_of_lt (blk_lt (g := gb637) (o := .cells #[.slice A0_0 l0_0.length c0_0, .string a0_1] 31 (0, 0)) bk) : gb637 ≠ gb654)); have n11_ := Aside0.mk ((by rw [hg]; exact Nat.ne_of_gt (blk_lt (g := gb637) (o := .cells #[.slice A0_0 l0_0.length c0_0, .string a0_1] 31 (0, 0)) bk) : gb654 ≠ gb637)); have n12_ := Aside0.mk ((by rw [hg]; exact Nat.ne_of_lt (blk_lt (g := gb638) (o := .cells #[.string a1_0, .string a1_1] 67 (0, 0)) bk) : gb638 ≠ gb654)); have n13_ := Aside0.mk ((by rw [hg]; exact Nat.ne_of_gt (blk_lt (g := gb638) (o := .cells #[.string a1_0, .string a1_1] 67 (0, 0)) bk) : gb654 ≠ gb638)); have n14_ := Aside0.mk ((by rw [hg]; exact Nat.ne_of_lt (blk_lt (g := gb645) (o := .cells #[.slice Ao32 t641.length co32, .string t644] 25 (0, 0)) bk) : gb645 ≠ gb654)); have n15_ := Aside0.mk ((by rw [hg]; exact Nat.ne_of_gt (blk_lt (g := gb645) (o := .cells #[.slice Ao32 t641.length co32, .string t644] 25 (0, 0)) bk) : gb654 ≠ gb645)); have n16_ := Aside0.mk ((by rw [hg]; exact Nat.ne_of_lt (blk_lt (g := gb650) (o := .cells #[.slice Ao39 t646.length co39, .string t649] 25 (0, 0)) bk) : gb650 ≠ gb654)); have n17_ := Aside0.mk ((by rw [hg]; exact Nat.ne_of_gt (blk_lt (g := gb650) (o := .cells #[.slice Ao39 t646.length co39, .string t649] 25 (0, 0)) bk) : gb654 ≠ gb650)); clear HO643 HO648 BK637 BK638 BK645 BK650 HB; have HO643 := n0_; have HO648 := n1_; have BK637 := n2_; have BK638 := n3_; have BK645 := n4_; have BK650 := n5_; have HB := n6_; have BK654 := n7_; have GW654 := n8_; have GE654 := n9_; have NB637_654 := n10_; have NB654_637 := n11_; have NB638_654 := n12_; have NB654_638 := n13_; have NB645_654 := n14_; have NB654_645 := n15_; have NB650_654 := n16_; have NB654_650 := n17_; clear n0_ n1_ n2_ n3_ n4_ n5_ n6_ n7_ n8_ n9_ n10_ n11_ n12_ n13_ n14_ n15_ n16_ n17_ hb hbox hg; refine hK.out _ _ ⟨(blk_cell BK637.out 0).trans rfl, (blk_cell BK637.out 1).trans rfl, (blk_cell BK638.out 0).trans rfl, (blk_cell BK638.out 1).trans rfl⟩ (fun hHeld => ?_); clear hK K; refine norm_ (a' := ?_) ?_ ?_; rotate_left
        ·show Act.put _ (some 7) _ = _
         simp only [Act.put, List.setIfInBounds_toArray, List.set_cons_zero, List.set_cons_succ, i64_w, i32_w]; rfl
        refine one_ (i := 3) (N := some 36) (bitsL 9 191) rfl rfl (one_of HT_.out (by kernel_rfl)) (by decide) (fun K hK => ?_); refine goes_ Tryz.func35 (by kernel_rfl) rfl #[.slice A0_0 l0_0.length c0_0, .agg #[.string a1_0, .string a1_1]] (by rfl) rfl rfl am ?_; with_reducible refine (bulletinref15_Put.calls kj2 _ _ l0_0 a1_0 a1_1 t651 _ ?side1 ?side2 A25.out).mono ?_
        (case side1 => repeat (first | exact (Kd.C_below HR0_0.out HB.out) | (with_reducible refine Kd.C_alloc ?_ _) | (with_reducible refine Kd.C_drewN ?_ _) | (with_reducible refine Kd.C_drew ?_)))
        (case side2 => exact HC0_0.out)
        rintro e w47 ⟨v652, rfl, ho0, hb⟩; refine ⟨_, rfl, ?_⟩; have n0_ := Aside0.mk (Kd.R_below (ra HO643.out) hb); have n1_ := Aside0.mk (Kd.R_below (ra HO648.out) hb); have n2_ := Aside0.mk (Kd.R_lower (Kd.R_newB ho0 (g := gb638) (o := .cells #[.string a1_0, .string a1_1] 67 (0, 0)) bk) (below_size bwS)); have n3_ := Aside0.mk (blk_below (g := gb637) (o := .cells #[.slice A0_0 l0_0.length c0_0, .string a0_1] 31 (0, 0)) bk hb); have n4_ := Aside0.mk (blk_below (g := gb638) (o := .cells #[.string a1_0, .string a1_1] 67 (0, 0)) bk hb); have n5_ := Aside0.mk (blk_below (g := gb645) (o := .cells #[.slice Ao32 t641.length co32, .string t644] 25 (0, 0)) bk hb); have n6_ := Aside0.mk (blk_below (g := gb650) (o := .cells #[.slice Ao39 t646.length co39, .string t649] 25 (0, 0)) bk hb); have n7_ := Aside0.mk (blk_below (g := gb654) (o := .cells #[.slice none 0 0, .string (⟨#[]⟩ : ByteArray)] 31 (0, 0)) bk hb); have n8_ := Aside0.mk (below_step bwS hb); clear HO643 HO648 BK637 BK638 BK645 BK650 BK654 HB; have HO643 := n0_; have HO648 := n1_; have HO653 := n2_; have BK637 := n3_; have BK638 := n4_; have BK645 := n5_; have BK650 := n6_; have BK654 := n7_; have HB := n8_; clear n0_ n1_ n2_ n3_ n4_ n5_ n6_ n7_ n8_
        (try clear hb)
        (try clear hb2)
        (try clear hk)
        (try clear hi)
        (try clear ho0)
        obtain ⟨Ao48, co48, eo48⟩ := Kd.R_slice HO653.out
        (first | subst eo48 | (injection eo48 with f1_ f2_ f3_; have f4_ := f1_.symm; have f5_ := f3_.symm; clear f1_ f2_ f3_; subst f4_; subst f5_))
        refine hK.out _ _ ⟨(blk_cell BK637.out 0).trans rfl, (blk_cell BK637.out 1).trans rfl, (blk_cell BK638.out 0).trans rfl, (blk_cell BK638.out 1).trans rfl⟩ (fun hHeld => ?_); clear hK K; refine norm_ (a' := ?_) ?_ ?_; rotate_left
        ·show Act.put _ (some 36) _ = _
         simp only [Act.put, List.setIfInBounds_toArray, List.set_cons_zero, List.set_cons_succ, i64_w, i32_w]; rfl
        refine pure_ (i := 6) (N := some 39) (v := ?_) (a' := ?_) (bitsL 9 255) rfl rfl (any_of HT_.out (by kernel_rfl)) (fun _ _ _ h => h) (Or.inl ⟨by rfl, ?_⟩) ?_ ?_; rotate_left
        ·intro w'; go_simp; with_reducible rfl
        rotate_left
        ·simp only [Act.put, List.setIfInBounds_toArray, List.set_cons_zero, List.set_cons_succ, i64_w, i32_w]; rfl
        exact norm_ (by simp only [putAll, Act.put, List.setIfInBounds_toArray, List.set_cons_zero, List.set_cons_succ]) (hCont (.slice Ao48 t651.length co48, gb654) _ ⟨hHeld, (ra HO643.out), (ra HO648.out), (ra (Kd.R_mono HO653.out (fun _ hk => hk.2))), bk, bk, bk, bk, bk, GW654.out, GE654.out, NB637_654.out, NB654_637.out, NB638_654.out, NB654_638.out, NB645_654.out, NB654_645.out, NB650_654.out, NB654_650.out, bwS⟩)
      rintro ⟨v652, gb654⟩ w49 ⟨hS_, h0_, h1_, h2_, h3_, h4_, h5_, h6_, h7_, h8_, h9_, h10_, h11_, h12_, h13_, h14_, h15_, h16_, h17_, h18_⟩; have n0_ : Aside0 (Kd.R k46 46 w49 w.heap.size (fun k_ => some k_ ≠ (.slice Ao39 t646.length co39 : Value).ownBlock) (.slice Ao32 t641.length co32) t641) := ⟨h0_⟩
      have n1_ : Aside0 (Kd.R k46 46 w49 w.heap.size (fun k_ => some k_ ≠ (.slice Ao32 t641.length co32 : Value).ownBlock) (.slice Ao39 t646.length co39) t646) := ⟨h1_⟩
      have n2_ : Aside0 (Kd.R k67 67 w49 w.heap.size (fun k_ => k_ ≠ gb638) v652 t651) := ⟨h2_⟩
      have n3_ : Aside0 (w49.heap[gb637]? = some (.cells #[.slice A0_0 l0_0.length c0_0, .string a0_1] 31 (0, 0))) := ⟨h3_⟩
      have n4_ : Aside0 (w49.heap[gb638]? = some (.cells #[.string a1_0, .string a1_1] 67 (0, 0))) := ⟨h4_⟩
      have n5_ : Aside0 (w49.heap[gb645]? = some (.cells #[.slice Ao32 t641.length co32, .string t644] 25 (0, 0))) := ⟨h5_⟩
      have n6_ : Aside0 (w49.heap[gb650]? = some (.cells #[.slice Ao39 t646.length co39, .string t649] 25 (0, 0))) := ⟨h6_⟩
      have n7_ : Aside0 (w49.heap[gb654]? = some (.cells #[.slice none 0 0, .string (⟨#[]⟩ : ByteArray)] 31 (0, 0))) := ⟨h7_⟩
      have n8_ : Aside0 (w.heap.size ≤ gb654) := ⟨h8_⟩
      have n9_ : Aside0 (w.heap.size ≤ gb654) := ⟨h9_⟩
      have n10_ : Aside0 (gb637 ≠ gb654) := ⟨h10_⟩
      have n11_ : Aside0 (gb654 ≠ gb637) := ⟨h11_⟩
      have n12_ : Aside0 (gb638 ≠ gb654) := ⟨h12_⟩
      have n13_ : Aside0 (gb654 ≠ gb638) := ⟨h13_⟩
      have n14_ : Aside0 (gb645 ≠ gb654) := ⟨h14_⟩
      have n15_ : Aside0 (gb654 ≠ gb645) := ⟨h15_⟩
      have n16_ : Aside0 (gb650 ≠ gb654) := ⟨h16_⟩
      have n17_ : Aside0 (gb654 ≠ gb650) := ⟨h17_⟩
      have n18_ : Aside0 (Below w.heap.size w w49) := ⟨h18_⟩
      clear HO643 HO648 BK637 BK638 BK645 BK650 HB h0_ h1_ h2_ h3_ h4_ h5_ h6_ h7_ h8_ h9_ h10_ h11_ h12_ h13_ h14_ h15_ h16_ h17_ h18_; have HO643 := n0_; have HO648 := n1_; have HO653 := n2_; have BK637 := n3_; have BK638 := n4_; have BK645 := n5_; have BK650 := n6_; have BK654 := n7_; have GW654 := n8_; have GE654 := n9_; have NB637_654 := n10_; have NB654_637 := n11_; have NB638_654 := n12_; have NB654_638 := n13_; have NB645_654 := n14_; have NB654_645 := n15_; have NB650_654 := n16_; have NB654_650 := n17_; have HB := n18_; clear n0_ n1_ n2_ n3_ n4_ n5_ n6_ n7_ n8_ n9_ n10_ n11_ n12_ n13_ n14_ n15_ n16_ n17_ n18_; have hHeld : w49.cell? ⟨gb637, 0, none⟩ = some (.slice A0_0 l0_0.length c0_0) ∧ w49.cell? ⟨gb637, 1, none⟩ = some (.string a0_1) ∧ w49.cell? ⟨gb638, 0, none⟩ = some (.string a1_0) ∧ w49.cell? ⟨gb638, 1, none⟩ = some (.string a1_1) := hS_; obtain ⟨Ao50, co50, eo50⟩ := Kd.R_slice HO653.out
      (first | subst eo50 | (injection eo50 with f1_ f2_ f3_; have f4_ := f1_.symm; have f5_ := f3_.symm; clear f1_ f2_ f3_; subst f4_; subst f5_))
      refine norm_ (a' := ?_) ?_ ?_; rotate_left
      ·simp only [putAll, Act.put, List.setIfInBounds_toArray, List.set_cons_zero, List.set_cons_succ]; rfl
      refine one_ (i := 8) (N := none) (bitsL 9 511) rfl rfl (one_of HT_.out (by kernel_rfl)) (by decide) (fun K hK => ?_); have hs51 : w49.cell? ⟨gb654, 0, none⟩ = some (.slice none 0 0) := (blk_cell BK654.out 0).trans rfl; have hfs51 := blk_frozen BK654.out 0; have hns51_0 := NB637_654.out; have hns51_1 := NB638_654.out; have hns51_2 := NB645_654.out; have hns51_3 := NB650_654.out; have hms51_0 := NB654_637.out; have hms51_1 := NB654_638.out; have hms51_2 := NB654_645.out; have hms51_3 := NB654_650.out; have hs52 : w49.cell? ⟨gb654, 1, none⟩ = some (.string (⟨#[]⟩ : ByteArray)) := (blk_cell BK654.out 1).trans rfl; have hfs52 := blk_frozen BK654.out 1; have hns52_0 := NB637_654.out; have hns52_1 := NB638_654.out; have hns52_2 := NB645_654.out; have hns52_3 := NB650_654.out; have hms52_0 := NB654_637.out; have hms52_1 := NB654_638.out; have hms52_2 := NB654_645.out; have hms52_3 := NB654_650.out; refine skip_ (w1 := ?_) (by rfl) rfl ?_ ?_; rotate_left
      ·go_simp; rfl
      refine hK.out _ _ ⟨((cell_far (p := ⟨gb654, _, none⟩) NB637_654.out _).trans (((cell_far (p := ⟨gb654, _, none⟩) NB637_654.out _).trans (hHeld.1)))), ((cell_far (p := ⟨gb654, _, none⟩) NB637_654.out _).trans (((cell_far (p := ⟨gb654, _, none⟩) NB637_654.out _).trans (hHeld.2.1)))), ((cell_far (p := ⟨gb654, _, none⟩) NB638_654.out _).trans (((cell_far (p := ⟨gb654, _, none⟩) NB638_654.out _).trans (hHeld.2.2.1)))), ((cell_far (p := ⟨gb654, _, none⟩) NB638_654.out _).trans (((cell_far (p := ⟨gb654, _, none⟩) NB638_654.out _).trans (hHeld.2.2.2))))⟩ (fun hHeld => ?_); clear hK K; refine done_ (done_of HT_.out (by kernel_rfl)) ?_; have hnb53 := NB650_654.out; have hnc53 := NB654_650.out; have hcz54_0 : w49.cell? ⟨gb650, 0, none⟩ = some (.slice Ao39 t646.length co39) := (blk_cell BK650.out 0).trans rfl; have hcz54_1 : w49.cell? ⟨gb650, 1, none⟩ = some (.string t649) := (blk_cell BK650.out 1).trans rfl; have hfz54_0 := blk_frozen BK650.out 0; have hfz54_1 := blk_frozen BK650.out 1; have hnb55 := NB654_637.out; have hnc55 := NB637_654.out; have hnb56 := NB654_638.out; have hnc56 := NB638_654.out; have hnb57 := NB654_645.out; have hnc57 := NB645_654.out; have hcz58_0 : w49.cell? ⟨gb654, 0, none⟩ = some (.slice none 0 0) := (blk_cell BK654.out 0).trans rfl; have hcz58_1 : w49.cell? ⟨gb654, 1, none⟩ = some (.string (⟨#[]⟩ : ByteArray)) := (blk_cell BK654.out 1).trans rfl; have hfz58_0 := blk_frozen BK654.out 0; have hfz58_1 := blk_frozen BK654.out 1
      as_aux_lemma =>
       try go_wp2_with (first | ((with_reducible refine gate_callee (f := 12) rfl ?_); refine goesL_ (some 42) rfl rfl Tryz.func12 (by kernel_rfl) rfl #[.agg #[.slice Ao39 t646.length co39, .string t649], .agg #[.slice Ao50 t651.length co50, .string a0_1]] rfl am ?_; (with_reducible refine (bulletinlaw16_Same.calls kj2 _ _ t646 t649 _ _ t651 a0_1 true _ ?side1 ?side2 ?side3 ?side4 A26.out).mono ?_); (case side1 => refine (Kd.R_reads' (e := 46) (base := w.heap.size) (ok := fun k_ => some k_ ≠ (.slice Ao32 t641.length co32 : Value).ownBlock) (n := t646.length) (c := co39) ?_).2.2; exact (by (with_reducible repeat (first | apply Kd.R_alloc | apply Kd.R_drewN | apply Kd.R_drew)); exact (Kd.R_mono (Kd.R_far (p := ⟨gb654, 1, none⟩) (Kd.R_far (p := ⟨gb654, 0, none⟩) (Kd.R_types HO648.out BK654.out (by decide)) (fun _ hk => hk.2) (.slice Ao50 t651.length co50)) (fun _ hk => hk.2) (.string a0_1)) (fun _ h_ => h_.1)))); (case side2 => exact (Kd.R_reads' HO648.out).2.1); (case side3 => refine (Kd.R_reads' (e := 67) (base := w.heap.size) (ok := fun k_ => k_ ≠ gb638) (n := t651.length) (c := co50) ?_).2.2; exact (by (with_reducible repeat (first | apply Kd.R_alloc | apply Kd.R_drewN | apply Kd.R_drew)); exact (Kd.R_mono (Kd.R_far (p := ⟨gb654, 1, none⟩) (Kd.R_far (p := ⟨gb654, 0, none⟩) (Kd.R_types HO653.out BK654.out (by decide)) (fun _ hk => hk.2) (.slice Ao50 t651.length co50)) (fun _ hk => hk.2) (.string a0_1)) (fun _ h_ => h_.1)))); (case side4 => exact (Kd.R_reads' HO653.out).2.1); rintro e w59 ⟨rfl, hb⟩; refine ⟨_, rfl, ?_⟩; have n0_ := Aside0.mk (Kd.R_below (by (with_reducible repeat (first | apply Kd.R_alloc | apply Kd.R_drewN | apply Kd.R_drew)); exact (Kd.R_mono (Kd.R_far (p := ⟨gb654, 1, none⟩) (Kd.R_far (p := ⟨gb654, 0, none⟩) (Kd.R_types HO643.out BK654.out (by decide)) (fun _ hk => hk.2) (.slice Ao50 t651.length co50)) (fun _ hk => hk.2) (.string a0_1)) (fun _ h_ => h_.1))) hb); have n1_ := Aside0.mk (Kd.R_below (by (with_reducible repeat (first | apply Kd.R_alloc | apply Kd.R_drewN | apply Kd.R_drew)); exact (Kd.R_mono (Kd.R_far (p := ⟨gb654, 1, none⟩) (Kd.R_far (p := ⟨gb654, 0, none⟩) (Kd.R_types HO648.out BK654.out (by decide)) (fun _ hk => hk.2) (.slice Ao50 t651.length co50)) (fun _ hk => hk.2) (.string a0_1)) (fun _ h_ => h_.1))) hb); have n2_ := Aside0.mk (Kd.R_below (by (with_reducible repeat (first | apply Kd.R_alloc | apply Kd.R_drewN | apply Kd.R_drew)); exact (Kd.R_mono (Kd.R_far (p := ⟨gb654, 1, none⟩) (Kd.R_far (p := ⟨gb654, 0, none⟩) (Kd.R_types HO653.out BK654.out (by decide)) (fun _ hk => hk.2) (.slice Ao50 t651.length co50)) (fun _ hk => hk.2) (.string a0_1)) (fun _ h_ => h_.1))) hb); have n3_ := Aside0.mk (blk_below (g := gb637) (o := .cells #[.slice A0_0 l0_0.length c0_0, .string a0_1] 31 (0, 0)) (by (with_reducible repeat (first | refine blk_drewN ?_ _ | refine blk_drew ?_ | refine blk_alloc ?_ _)); refine blk_far ?_ NB637_654.out _; (with_reducible repeat (first | refine blk_drewN ?_ _ | refine blk_drew ?_ | refine blk_alloc ?_ _)); refine blk_far ?_ NB637_654.out _; (with_reducible repeat (first | refine blk_drewN ?_ _ | refine blk_drew ?_ | refine blk_alloc ?_ _)); exact BK637.out) hb); have n4_ := Aside0.mk (blk_below (g := gb638) (o := .cells #[.string a1_0, .string a1_1] 67 (0, 0)) (by (with_reducible repeat (first | refine blk_drewN ?_ _ | refine blk_drew ?_ | refine blk_alloc ?_ _)); refine blk_far ?_ NB638_654.out _; (with_reducible repeat (first | refine blk_drewN ?_ _ | refine blk_drew ?_ | refine blk_alloc ?_ _)); refine blk_far ?_ NB638_654.out _; (with_reducible repeat (first | refine blk_drewN ?_ _ | refine blk_drew ?_ | refine blk_alloc ?_ _)); exact BK638.out) hb); have n5_ := Aside0.mk (blk_below (g := gb645) (o := .cells #[.slice Ao32 t641.length co32, .string t644] 25 (0, 0)) (by (with_reducible repeat (first | refine blk_drewN ?_ _ | refine blk_drew ?_ | refine blk_alloc ?_ _)); refine blk_far ?_ NB645_654.out _; (with_reducible repeat (first | refine blk_drewN ?_ _ | refine blk_drew ?_ | refine blk_alloc ?_ _)); refine blk_far ?_ NB645_654.out _; (with_reducible repeat (first | refine blk_drewN ?_ _ | refine blk_drew ?_ | refine blk_alloc ?_ _)); exact BK645.out) hb); have n6_ := Aside0.mk (blk_below (g := gb650) (o := .cells #[.slice Ao39 t646.length co39, .string t649] 25 (0, 0)) (by (with_reducible repeat (first | refine blk_drewN ?_ _ | refine blk_drew ?_ | refine blk_alloc ?_ _)); refine blk_far ?_ NB650_654.out _; (with_reducible repeat (first | refine blk_drewN ?_ _ | refine blk_drew ?_ | refine blk_alloc ?_ _)); refine blk_far ?_ NB650_654.out _; (with_reducible repeat (first | refine blk_drewN ?_ _ | refine blk_drew ?_ | refine blk_alloc ?_ _)); exact BK650.out) hb); have n7_ := Aside0.mk (blk_below (g := gb654) (o := .cells #[.slice Ao50 t651.length co50, .string a0_1] 31 (0, 0)) (by (with_reducible repeat (first | refine blk_drewN ?_ _ | refine blk_drew ?_ | refine blk_alloc ?_ _)); refine blk_put (cs := #[.slice Ao50 t651.length co50, .string (⟨#[]⟩ : ByteArray)]) ?_ 1 _ rfl; (with_reducible repeat (first | refine blk_drewN ?_ _ | refine blk_drew ?_ | refine blk_alloc ?_ _)); exact blk_put (cs := #[.slice none 0 0, .string (⟨#[]⟩ : ByteArray)]) bk 0 _ rfl) hb); have n8_ := Aside0.mk (below_step bwS hb); clear HO643; clear HO648; clear HO653; clear BK637; clear BK638; clear BK645; clear BK650; clear BK654; clear HB; have HO643 := n0_; have HO648 := n1_; have HO653 := n2_; have BK637 := n3_; have BK638 := n4_; have BK645 := n5_; have BK650 := n6_; have BK654 := n7_; have HB := n8_; clear n0_ n1_ n2_ n3_ n4_ n5_ n6_ n7_ n8_; (try clear hb); (try clear hb2); (try clear hk); (try clear hi); have hcz60_0 : w59.cell? ⟨gb650, 0, none⟩ = some (.slice Ao39 t646.length co39) := (blk_cell BK650.out 0).trans rfl; have hcz60_1 : w59.cell? ⟨gb650, 1, none⟩ = some (.string t649) := (blk_cell BK650.out 1).trans rfl; have hfz60_0 := blk_frozen BK650.out 0; have hfz60_1 := blk_frozen BK650.out 1))
       go_loopg [47] kj2 (fun kq v47 w' => ∃ (x47_2 : Int) (x646000_2 : List (S46)) (x651000_2 : List (S46)) (u646000 : Value) (u651000 : Value), v47 = .int .i64 x47_2 ∧ Aside0 (bulletinlaw16_MsgWith.l0 kq (t646.length : Int) x47_2 l0_0 a0_1 x646000_2 t644 x651000_2 t649 = some r) ∧ Aside0 (kq ≤ kj2) ∧ Aside0 (Kd.R k46 46 w' w.heap.size (fun k_ => some k_ ≠ (u651000 : Value).ownBlock) u646000 x646000_2) ∧ Aside0 (Kd.R k46 46 w' w.heap.size (fun k_ => some k_ ≠ (u646000 : Value).ownBlock) u651000 x651000_2) ∧ Aside0 (Kd.R k67 67 w' w.heap.size (fun k_ => k_ ≠ gb638) (.slice Ao50 t651.length co50) t651) ∧ Aside0 (w'.heap[gb637]? = some (.cells #[(.slice A0_0 l0_0.length c0_0), .string a0_1] 31 (0, 0))) ∧ Aside0 (w'.heap[gb638]? = some (.cells #[.string a1_0, .string a1_1] 67 (0, 0))) ∧ Aside0 (w'.heap[gb645]? = some (.cells #[u646000, .string t644] 25 (0, 0))) ∧ Aside0 (w'.heap[gb650]? = some (.cells #[u651000, .string t649] 25 (0, 0))) ∧ Aside0 (w'.heap[gb654]? = some (.cells #[(.slice Ao50 t651.length co50), .string a0_1] 31 (0, 0))) ∧ Aside0 (Below w.heap.size w w'))
       case atStart => exact ⟨(0), (t641), (t646), (.slice Ao32 t641.length co32), (.slice Ao39 t646.length co39), cl, H', ⟨Nat.le_refl _⟩, ⟨by (with_reducible repeat (first | apply Kd.R_alloc | apply Kd.R_drewN | apply Kd.R_drew)); exact HO643.out⟩, ⟨by (with_reducible repeat (first | apply Kd.R_alloc | apply Kd.R_drewN | apply Kd.R_drew)); exact HO648.out⟩, ⟨by (with_reducible repeat (first | apply Kd.R_alloc | apply Kd.R_drewN | apply Kd.R_drew)); exact HO653.out⟩, ⟨bk⟩, ⟨bk⟩, ⟨bk⟩, ⟨bk⟩, ⟨bk⟩, ⟨bwS⟩⟩
       case round =>
        clear H'
        try clear c1
        try clear c2
        try clear p2
        try clear c3
        try clear c4
        try clear c5
        try clear c7
        try clear c8
        try clear c8b0
        try clear c8b1
        try clear c9
        try clear c12
        try clear c13
        try clear c17
        try clear c18
        try clear c19
        try clear c20
        try clear c27
        try clear c28
        try clear c33
        try clear c34
        try clear c35
        try clear c40
        try clear c41
        try clear c42
        try clear c53
        try clear c55
        try clear c56
        try clear c57
        try clear hcz10_0
        try clear hcz10_1
        try clear hcz12_0
        try clear hcz12_1
        try clear hcz14_0
        try clear hcz14_1
        try clear hcz16_0
        try clear hcz16_1
        try clear hcz18_0
        try clear hcz18_1
        try clear hcz29_0
        try clear hcz29_1
        try clear hcz35_0
        try clear hcz35_1
        try clear hcz36_0
        try clear hcz36_1
        try clear hcz43_0
        try clear hcz43_1
        try clear hcz54_0
        try clear hcz54_1
        try clear hcz58_0
        try clear hcz58_1
        try clear hcz60_0
        try clear hcz60_1
        try clear hfz10_0
        try clear hfz10_1
        try clear hfz12_0
        try clear hfz12_1
        try clear hfz14_0
        try clear hfz14_1
        try clear hfz16_0
        try clear hfz16_1
        try clear hfz18_0
        try clear hfz18_1
        try clear hfz29_0
        try clear hfz29_1
        try clear hfz35_0
        try clear hfz35_1
        try clear hfz36_0
        try clear hfz36_1
        try clear hfz43_0
        try clear hfz43_1
        try clear hfz54_0
        try clear hfz54_1
        try clear hfz58_0
        try clear hfz58_1
        try clear hfz60_0
        try clear hfz60_1
        try clear p2
        obtain ⟨x47_2, x646000_2, x651000_2, u646000, u651000, rfl, HA, HK2, HO_646000, HO_651000, HO_655000, BK637, BK638, BK645, BK650, BK654, HB⟩ := hrel; cases gk with
        | zero => exact absurd HA.out (by simp [bulletinlaw16_MsgWith.l0])
        | succ k2 =>
         have H := HA.out; clear HA; simp only [bulletinlaw16_MsgWith.l0] at H
         by_cases c61 : x47_2 < (t646.length : Int)
         ·rw [if_pos c61] at H; have c61b0 : decide (x47_2 < (t646.length : Int)) = true := decide_eq_true c61; clear c61
          by_cases c62 : 0 ≤ x47_2
          ·rw [if_pos c62] at H; have c62b0 : decide (0 ≤ x47_2) = true := decide_eq_true c62; clear c62
           by_cases c63 : x47_2 < (x651000_2.length : Int)
           ·rw [if_pos c63] at H; have c63b0 : decide (x47_2 < (x651000_2.length : Int)) = true := decide_eq_true c63; clear c63; obtain ⟨y656, hy656⟩ : ∃ y_ : List (S46), y_ = (x651000_2.set (x47_2 : Int).toNat (⟨(⟨#[115, 112, 111, 105, 108, 116]⟩ : ByteArray), (⟨#[]⟩ : ByteArray)⟩ : S46)) := ⟨_, rfl⟩
            replace H : (bulletinlaw16_MsgWith.l0 k2 (t646.length : Int) (wrap64 (x47_2 + 1)) l0_0 a0_1 x646000_2 t644 y656 t649) = some r := by first | (rw [hy656]; with_reducible exact H) | (have H2_ := (Option.bind_some _ _).symm.trans H; rw [hy656]; with_reducible exact H2_) | (have H2_ := (Option.bind_some _ _).symm.trans H; with_reducible exact H2_) | with_reducible exact H | (rw [hy656]; exact H) | exact H
            have Ny656 := Aside0.mk hy656; clear hy656; have H' := Aside0.mk H; clear H; have hnb65 := NB650_637.out; have hnc65 := NB637_650.out; have hnb66 := NB650_638.out; have hnc66 := NB638_650.out; have hnb67 := NB650_645.out; have hnc67 := NB645_650.out; have hnb68 := NB650_654.out; have hnc68 := NB654_650.out; have hcz69_0 : wr.cell? ⟨gb650, 0, none⟩ = some (u651000) := (blk_cell BK650.out 0).trans rfl; have hcz69_1 : wr.cell? ⟨gb650, 1, none⟩ = some (.string t649) := (blk_cell BK650.out 1).trans rfl; have hfz69_0 := blk_frozen BK650.out 0; have hfz69_1 := blk_frozen BK650.out 1; have p64 : 0 ≤ (x47_2 : Int) := od; have q64 : (x47_2 : Int) < ((x651000_2.length : Int) : Int) := od; obtain ⟨go64, co64, eo64, gb64, gl64, cl64, HG64⟩ := Kd.R_form HO_651000.out (by omega)
            (first | cases eo64 | (injection eo64 with ea_ en_ ec_; (first | subst ea_ | (injection ea_ with ea_; subst ea_)); subst ec_; clear en_))
            have GB64 := Aside0.mk gb64; have GG64 := Aside0.mk HG64; clear gb64 gl64 HG64; obtain ⟨ce64, hcl64, hM64, hcc64, hfr64⟩ := Kd.R_elem HO_651000.out z46 (x47_2 : Int) p64 q64; obtain rfl := k46_openM hM64; have hx64_0 : wr.cell? ⟨go64, (x47_2 : Int).toNat * 2, none⟩ = some (.string ((rd_T46 x651000_2 x47_2).f0)) := hcc64 0 _ rfl; have hx64_1 : wr.cell? ⟨go64, (x47_2 : Int).toNat * 2 + 1, none⟩ = some (.string ((rd_T46 x651000_2 x47_2).f1)) := hcc64 1 _ rfl; have hf64_0 : wr.frozen? ⟨go64, (x47_2 : Int).toNat * 2, none⟩ = false := hfr64 0; have hf64_1 : wr.frozen? ⟨go64, (x47_2 : Int).toNat * 2 + 1, none⟩ = false := hfr64 1; clear hcl64 hcc64 hfr64 hM64; replace p64 := eq_true p64; replace q64 := eq_true q64; have HX70 := Aside0.mk (show Kd.R k46 46 wr w.heap.size (fun k_ => some k_ ≠ (u646000 : Value).ownBlock) (.slice (some ⟨go64, 0, none⟩) x651000_2.length co64) x651000_2 from (ra HO_651000.out)); obtain ⟨ce70, hcl70, hM70, hcc70, hfr70⟩ := Kd.R_elem HX70.out z46 (x47_2 : Int) (od) (by have h_ : (x47_2 : Int) < ((x651000_2.length : Int) : Int) := od; first | exact h_ | (have e_ := (Kd.R_reads' HO_651000.out).1; omega) | simpa using h_); obtain rfl := k46_openM hM70; have HP70 := Kd.R_seg HX70.out (x47_2 : Int) (od) (by have h_ : (x47_2 : Int) < ((x651000_2.length : Int) : Int) := od; first | exact h_ | (have e_ := (Kd.R_reads' HO_651000.out).1; omega) | simpa using h_) (seg := [.string (⟨#[115, 112, 111, 105, 108, 116]⟩ : ByteArray), .string (⟨#[]⟩ : ByteArray)]) (j := 0) hcl70 hcc70 (show 2 ≤ 2 from by decide) (x' := (⟨(⟨#[115, 112, 111, 105, 108, 116]⟩ : ByteArray), (⟨#[]⟩ : ByteArray)⟩ : S46)) (k46_mkM _ _ _ (⟨(⟨#[115, 112, 111, 105, 108, 116]⟩ : ByteArray), (⟨#[]⟩ : ByteArray)⟩ : S46) ) (fun _ hk => hk); have hx70_0 := hcc70 0 _ rfl
            (try simp only [show (k46).sz = 2 from rfl, Nat.mul_one, Nat.add_zero] at hx70_0)
            have hf70_0 := hfr70 0
            (try simp only [show (k46).sz = 2 from rfl, Nat.mul_one, Nat.add_zero] at hf70_0)
            have hx70_1 := hcc70 1 _ rfl
            (try simp only [show (k46).sz = 2 from rfl, Nat.mul_one, Nat.add_zero] at hx70_1)
            have hf70_1 := hfr70 1
            (try simp only [show (k46).sz = 2 from rfl, Nat.mul_one, Nat.add_zero] at hf70_1)
            clear hcl70 hcc70 hfr70 hM70
            as_aux_lemma =>
             go_wp2_with (first | ((with_reducible refine gate_store (t := 46) (p := 54) rfl ?_); refine store_event (t := 46) (p := 54) (v := ?vo_w71) (w1 := ((wr.setCell ⟨go64, (x47_2 : Int).toNat * 2, none⟩ (.string (⟨#[115, 112, 111, 105, 108, 116]⟩ : ByteArray))).setCell ⟨go64, (x47_2 : Int).toNat * 2 + 1, none⟩ (.string (⟨#[]⟩ : ByteArray)))) ?hg ?ho ?hn ?hr ?_; (case ho => rfl); (case hg => rfl); (case hn => rfl); (case hr => first | (go_simp; done) | (go_simp; rfl)); intro w71 hw; have hg : wr.grownBy w71 (some go64) := (by rw [hw]; exact HP70.2); have hp_ : Kd.R k46 46 w71 w.heap.size (fun k_ => some k_ ≠ (u646000 : Value).ownBlock) (.slice (some ⟨go64, 0, none⟩) x651000_2.length co64) y656 := (by rw [hw, Ny656.out]; exact HP70.1); clear HP70; have n0_ := Aside0.mk (Kd.R_after (v := (.slice (some ⟨go64, 0, none⟩) x651000_2.length co64)) (v1 := (.slice (some ⟨go64, 0, none⟩) x651000_2.length co64)) (ok := (fun _ => True)) (by (with_reducible repeat (first | apply Kd.R_alloc | apply Kd.R_drewN | apply Kd.R_drew)); exact Kd.R_mono HO_646000.out (fun _ hk => ⟨trivial, hk⟩)) hg (.inl rfl)); have n1_ := Aside0.mk (hp_); have n2_ := Aside0.mk (Kd.R_over' (v := (.slice (some ⟨go64, 0, none⟩) x651000_2.length co64)) (ra HO_655000.out) (Kd.R_typed HO_651000.out) (by decide) hg); have n3_ := Aside0.mk (blk_grown (g := gb637) (o := .cells #[.slice A0_0 l0_0.length c0_0, .string a0_1] 31 (0, 0)) bk hg (Kd.R_ne HO_651000.out BK637.out (by decide))); have n4_ := Aside0.mk (blk_grown (g := gb638) (o := .cells #[.string a1_0, .string a1_1] 67 (0, 0)) bk hg (Kd.R_ne HO_651000.out BK638.out (by decide))); have n5_ := Aside0.mk (blk_grown (g := gb645) (o := .cells #[u646000, .string t644] 25 (0, 0)) bk hg (Kd.R_ne HO_651000.out BK645.out (by decide))); have n6_ := Aside0.mk (blk_grown (g := gb650) (o := .cells #[.slice (some ⟨go64, 0, none⟩) x651000_2.length co64, .string t649] 25 (0, 0)) bk hg (Kd.R_ne HO_651000.out BK650.out (by decide))); have n7_ := Aside0.mk (blk_grown (g := gb654) (o := .cells #[.slice Ao50 t651.length co50, .string a0_1] 31 (0, 0)) bk hg (Kd.R_ne HO_651000.out BK654.out (by decide))); have n8_ := Aside0.mk ((by rw [hw]; exact below_set (below_set (HB.out) GB64.out) GB64.out : Below w.heap.size w w71)); clear HO_646000; clear HO_651000; clear HO_655000; clear BK637; clear BK638; clear BK645; clear BK650; clear BK654; clear HB; have HO_646000 := n0_; have HO_651000 := n1_; have HO_655000 := n2_; have BK637 := n3_; have BK638 := n4_; have BK645 := n5_; have BK650 := n6_; have BK654 := n7_; have HB := n8_; clear n0_ n1_ n2_ n3_ n4_ n5_ n6_ n7_ n8_; clear hg hw hp_))
             go_roundg k2
             case measure => have := HJ2.out; have := HK2.out; omega
             case rel => exact ⟨(wrap64 (x47_2 + 1)), (x646000_2), (y656), (u646000), (.slice (some ⟨go64, 0, none⟩) x651000_2.length co64), cl, H', ⟨by have := HJ2.out; have := HK2.out; omega⟩, ⟨by (with_reducible repeat (first | apply Kd.R_alloc | apply Kd.R_drewN | apply Kd.R_drew)); exact Kd.R_mono HO_646000.out (fun _ hk => hk.2)⟩, ⟨by (with_reducible repeat (first | apply Kd.R_alloc | apply Kd.R_drewN | apply Kd.R_drew)); exact HO_651000.out⟩, ⟨by (with_reducible repeat (first | apply Kd.R_alloc | apply Kd.R_drewN | apply Kd.R_drew)); exact HO_655000.out⟩, ⟨bk⟩, ⟨bk⟩, ⟨bk⟩, ⟨bk⟩, ⟨bk⟩, ⟨bwS⟩⟩
           ·rw [if_neg c63] at H; exact absurd H (by simp)
          ·rw [if_neg c62] at H; exact absurd H (by simp)
         ·rw [if_neg c61] at H; have c61b0 : decide (x47_2 < (t646.length : Int)) = false := decide_eq_false c61; clear c61; replace H := Option.bind_eq_some_iff.mp H; obtain ⟨t657, A720, H⟩ := H; replace H : (if t657 = true then ((bulletinlaw16_works.f k2).bind fun t658 => (some t658)) else (some false)) = some r := H; have A72 := Aside0.mk A720; clear A720
          by_cases c73 : t657 = true
          ·subst c73; have H1 : ((bulletinlaw16_works.f k2).bind fun t658 => (some t658)) = some r := by rw [if_pos rfl] at H; exact H
           clear H; have H := H1; clear H1; replace H := Option.bind_eq_some_iff.mp H; obtain ⟨t658, A740, H⟩ := H; replace H : (some t658) = some r := H; have A74 := Aside0.mk A740; clear A740; obtain rfl := Option.some.inj H; have hnb75 := NB645_637.out; have hnc75 := NB637_645.out; have hnb76 := NB645_638.out; have hnc76 := NB638_645.out; have hnb77 := NB645_650.out; have hnc77 := NB650_645.out; have hnb78 := NB645_654.out; have hnc78 := NB654_645.out; have hcz79_0 : wr.cell? ⟨gb645, 0, none⟩ = some (u646000) := (blk_cell BK645.out 0).trans rfl; have hcz79_1 : wr.cell? ⟨gb645, 1, none⟩ = some (.string t644) := (blk_cell BK645.out 1).trans rfl; have hfz79_0 := blk_frozen BK645.out 0; have hfz79_1 := blk_frozen BK645.out 1; have hnb80 := NB637_638.out; have hnc80 := NB638_637.out; have hnb81 := NB637_650.out; have hnc81 := NB650_637.out; have hnb82 := NB637_654.out; have hnc82 := NB654_637.out; have hcz83_0 : wr.cell? ⟨gb637, 0, none⟩ = some (.slice A0_0 l0_0.length c0_0) := (blk_cell BK637.out 0).trans rfl; have hcz83_1 : wr.cell? ⟨gb637, 1, none⟩ = some (.string a0_1) := (blk_cell BK637.out 1).trans rfl; have hfz83_0 := blk_frozen BK637.out 0; have hfz83_1 := blk_frozen BK637.out 1; obtain ⟨Ao84, co84, eo84⟩ := Kd.R_slice HO_646000.out; subst eo84
           as_aux_lemma =>
            go_wp2_with (first | ((with_reducible refine gate_callee (f := 12) rfl ?_); refine goesL_ (some 58) rfl rfl Tryz.func12 (by kernel_rfl) rfl #[.agg #[.slice Ao84 x646000_2.length co84, .string t644], .agg #[.slice A0_0 l0_0.length c0_0, .string a0_1]] rfl am ?_; (with_reducible refine (bulletinlaw16_Same.calls k2 _ _ x646000_2 t644 _ _ l0_0 a0_1 true _ ?side1 ?side2 ?side3 ?side4 A72.out).mono ?_); (case side1 => repeat (first | exact (Kd.R_reads' HO_646000.out).2.2 | (with_reducible refine Kd.C_alloc ?_ _) | (with_reducible refine Kd.C_drewN ?_ _) | (with_reducible refine Kd.C_drew ?_))); (case side2 => exact (Kd.R_reads' HO_646000.out).2.1); (case side3 => repeat (first | exact (Kd.C_below HR0_0.out HB.out) | (with_reducible refine Kd.C_alloc ?_ _) | (with_reducible refine Kd.C_drewN ?_ _) | (with_reducible refine Kd.C_drew ?_))); (case side4 => exact HC0_0.out); rintro e w85 ⟨rfl, hb⟩; refine ⟨_, rfl, ?_⟩; have n0_ := Aside0.mk (Kd.R_below (ra HO_646000.out) hb); have n1_ := Aside0.mk (Kd.R_below (ra HO_651000.out) hb); have n2_ := Aside0.mk (Kd.R_below (ra HO_655000.out) hb); have n3_ := Aside0.mk (blk_below (g := gb637) (o := .cells #[.slice A0_0 l0_0.length c0_0, .string a0_1] 31 (0, 0)) bk hb); have n4_ := Aside0.mk (blk_below (g := gb638) (o := .cells #[.string a1_0, .string a1_1] 67 (0, 0)) bk hb); have n5_ := Aside0.mk (blk_below (g := gb645) (o := .cells #[.slice Ao84 x646000_2.length co84, .string t644] 25 (0, 0)) bk hb); have n6_ := Aside0.mk (blk_below (g := gb650) (o := .cells #[u651000, .string t649] 25 (0, 0)) bk hb); have n7_ := Aside0.mk (blk_below (g := gb654) (o := .cells #[.slice Ao50 t651.length co50, .string a0_1] 31 (0, 0)) bk hb); have n8_ := Aside0.mk (below_step bwS hb); clear HO_646000; clear HO_651000; clear HO_655000; clear BK637; clear BK638; clear BK645; clear BK650; clear BK654; clear HB; have HO_646000 := n0_; have HO_651000 := n1_; have HO_655000 := n2_; have BK637 := n3_; have BK638 := n4_; have BK645 := n5_; have BK650 := n6_; have BK654 := n7_; have HB := n8_; clear n0_ n1_ n2_ n3_ n4_ n5_ n6_ n7_ n8_; (try clear hb); (try clear hb2); (try clear hk); (try clear hi)) | (go_at_call 9; (with_reducible refine (bulletinlaw16_works.calls (hG := by first | exact hG | exact Glob.below hG (by first | exact HB.out | (repeat (first | (with_reducible first | exact HB.out | apply below_alloc | apply pw_below_drewN | apply below_drew1 | refine below_set ?_ GE637.out | refine below_set ?_ GE638.out | refine below_set ?_ GE645.out | refine below_set ?_ GE650.out | refine below_set ?_ GE654.out) | exact HB.out))) | exact Glob.drawn hG (d0)) k2  t658 _ A74.out).mono ?_); rintro e w86 ⟨rfl, hb⟩; have n0_ := Aside0.mk (Kd.R_below (ra HO_646000.out) hb); have n1_ := Aside0.mk (Kd.R_below (ra HO_651000.out) hb); have n2_ := Aside0.mk (Kd.R_below (ra HO_655000.out) hb); have n3_ := Aside0.mk (blk_below (g := gb637) (o := .cells #[.slice A0_0 l0_0.length c0_0, .string a0_1] 31 (0, 0)) bk hb); have n4_ := Aside0.mk (blk_below (g := gb638) (o := .cells #[.string a1_0, .string a1_1] 67 (0, 0)) bk hb); have n5_ := Aside0.mk (blk_below (g := gb645) (o := .cells #[.slice Ao84 x646000_2.length co84, .string t644] 25 (0, 0)) bk hb); have n6_ := Aside0.mk (blk_below (g := gb650) (o := .cells #[u651000, .string t649] 25 (0, 0)) bk hb); have n7_ := Aside0.mk (blk_below (g := gb654) (o := .cells #[.slice Ao50 t651.length co50, .string a0_1] 31 (0, 0)) bk hb); have n8_ := Aside0.mk (below_step bwS hb); clear HO_646000; clear HO_651000; clear HO_655000; clear BK637; clear BK638; clear BK645; clear BK650; clear BK654; clear HB; have HO_646000 := n0_; have HO_651000 := n1_; have HO_655000 := n2_; have BK637 := n3_; have BK638 := n4_; have BK645 := n5_; have BK650 := n6_; have BK654 := n7_; have HB := n8_; clear n0_ n1_ n2_ n3_ n4_ n5_ n6_ n7_ n8_; (try clear hb); (try clear hb2); (try clear hk); (try clear hi)))
            go_ret
            exact ⟨ew, bwS⟩
          ·replace c73 := Bool.eq_false_iff.mpr c73; subst c73; have H1 : (some false) = some r := by rw [if_neg (show ¬ (false = true) by decide)] at H; exact H
           clear H; have H := H1; clear H1; obtain rfl := Option.some.inj H; have hnb87 := NB645_637.out; have hnc87 := NB637_645.out; have hnb88 := NB645_638.out; have hnc88 := NB638_645.out; have hnb89 := NB645_650.out; have hnc89 := NB650_645.out; have hnb90 := NB645_654.out; have hnc90 := NB654_645.out; have hcz91_0 : wr.cell? ⟨gb645, 0, none⟩ = some (u646000) := (blk_cell BK645.out 0).trans rfl; have hcz91_1 : wr.cell? ⟨gb645, 1, none⟩ = some (.string t644) := (blk_cell BK645.out 1).trans rfl; have hfz91_0 := blk_frozen BK645.out 0; have hfz91_1 := blk_frozen BK645.out 1; have hnb92 := NB637_638.out; have hnc92 := NB638_637.out; have hnb93 := NB637_650.out; have hnc93 := NB650_637.out; have hnb94 := NB637_654.out; have hnc94 := NB654_637.out; have hcz95_0 : wr.cell? ⟨gb637, 0, none⟩ = some (.slice A0_0 l0_0.length c0_0) := (blk_cell BK637.out 0).trans rfl; have hcz95_1 : wr.cell? ⟨gb637, 1, none⟩ = some (.string a0_1) := (blk_cell BK637.out 1).trans rfl; have hfz95_0 := blk_frozen BK637.out 0; have hfz95_1 := blk_frozen BK637.out 1; obtain ⟨Ao96, co96, eo96⟩ := Kd.R_slice HO_646000.out; subst eo96
           as_aux_lemma =>
            go_wp2_with (first | ((with_reducible refine gate_callee (f := 12) rfl ?_); refine goesL_ (some 58) rfl rfl Tryz.func12 (by kernel_rfl) rfl #[.agg #[.slice Ao96 x646000_2.length co96, .string t644], .agg #[.slice A0_0 l0_0.length c0_0, .string a0_1]] rfl am ?_; (with_reducible refine (bulletinlaw16_Same.calls k2 _ _ x646000_2 t644 _ _ l0_0 a0_1 false _ ?side1 ?side2 ?side3 ?side4 A72.out).mono ?_); (case side1 => repeat (first | exact (Kd.R_reads' HO_646000.out).2.2 | (with_reducible refine Kd.C_alloc ?_ _) | (with_reducible refine Kd.C_drewN ?_ _) | (with_reducible refine Kd.C_drew ?_))); (case side2 => exact (Kd.R_reads' HO_646000.out).2.1); (case side3 => repeat (first | exact (Kd.C_below HR0_0.out HB.out) | (with_reducible refine Kd.C_alloc ?_ _) | (with_reducible refine Kd.C_drewN ?_ _) | (with_reducible refine Kd.C_drew ?_))); (case side4 => exact HC0_0.out); rintro e w97 ⟨rfl, hb⟩; refine ⟨_, rfl, ?_⟩; have n0_ := Aside0.mk (Kd.R_below (ra HO_646000.out) hb); have n1_ := Aside0.mk (Kd.R_below (ra HO_651000.out) hb); have n2_ := Aside0.mk (Kd.R_below (ra HO_655000.out) hb); have n3_ := Aside0.mk (blk_below (g := gb637) (o := .cells #[.slice A0_0 l0_0.length c0_0, .string a0_1] 31 (0, 0)) bk hb); have n4_ := Aside0.mk (blk_below (g := gb638) (o := .cells #[.string a1_0, .string a1_1] 67 (0, 0)) bk hb); have n5_ := Aside0.mk (blk_below (g := gb645) (o := .cells #[.slice Ao96 x646000_2.length co96, .string t644] 25 (0, 0)) bk hb); have n6_ := Aside0.mk (blk_below (g := gb650) (o := .cells #[u651000, .string t649] 25 (0, 0)) bk hb); have n7_ := Aside0.mk (blk_below (g := gb654) (o := .cells #[.slice Ao50 t651.length co50, .string a0_1] 31 (0, 0)) bk hb); have n8_ := Aside0.mk (below_step bwS hb); clear HO_646000; clear HO_651000; clear HO_655000; clear BK637; clear BK638; clear BK645; clear BK650; clear BK654; clear HB; have HO_646000 := n0_; have HO_651000 := n1_; have HO_655000 := n2_; have BK637 := n3_; have BK638 := n4_; have BK645 := n5_; have BK650 := n6_; have BK654 := n7_; have HB := n8_; clear n0_ n1_ n2_ n3_ n4_ n5_ n6_ n7_ n8_; (try clear hb); (try clear hb2); (try clear hk); (try clear hi)))
            go_ret
            exact ⟨ew, bwS⟩
    ·replace c27 := Bool.eq_false_iff.mpr c27; subst c27; have H1 : (some false) = some r := by rw [if_neg (show ¬ (false = true) by decide)] at H; exact H
     clear H; have H := H1; clear H1; obtain rfl := Option.some.inj H; have hnb98 := NB637_638.out; have hnc98 := NB638_637.out; have hcz99_0 : wc.cell? ⟨gb637, 0, none⟩ = some (.slice A0_0 l0_0.length c0_0) := (blk_cell BK637.out 0).trans rfl; have hcz99_1 : wc.cell? ⟨gb637, 1, none⟩ = some (.string a0_1) := (blk_cell BK637.out 1).trans rfl; have hfz99_0 := blk_frozen BK637.out 0; have hfz99_1 := blk_frozen BK637.out 1
     as_aux_lemma =>
      try go_wp2_with (first | ((with_reducible refine gate_callee (f := 19) rfl ?_); refine goesL_ (some 26) rfl rfl Tryz.func19 (by kernel_rfl) rfl #[.agg #[.slice A0_0 l0_0.length c0_0, .string a0_1]] rfl am ?_; (with_reducible refine (bulletinlaw16_To.calls kj2 _ _ l0_0 a0_1 t641 t644 _ ?side1 ?side2 A23.out).mono ?_); (case side1 => repeat (first | exact (Kd.C_below HR0_0.out HB.out) | (with_reducible refine Kd.C_alloc ?_ _) | (with_reducible refine Kd.C_drewN ?_ _) | (with_reducible refine Kd.C_drew ?_))); (case side2 => exact HC0_0.out); rintro e w100 ⟨v642, rfl, ho0, hb⟩; refine ⟨_, rfl, ?_⟩; have n0_ := Aside0.mk (Kd.R_lower ho0 (below_size bwS)); have n1_ := Aside0.mk (blk_below (g := gb637) (o := .cells #[.slice A0_0 l0_0.length c0_0, .string a0_1] 31 (0, 0)) bk hb); have n2_ := Aside0.mk (blk_below (g := gb638) (o := .cells #[.string a1_0, .string a1_1] 67 (0, 0)) bk hb); have n3_ := Aside0.mk (below_step bwS hb); clear BK637; clear BK638; clear HB; have HO643 := n0_; have BK637 := n1_; have BK638 := n2_; have HB := n3_; clear n0_ n1_ n2_ n3_; (try clear hb); (try clear hb2); (try clear hk); (try clear hi); (try clear ho0)) | ((with_reducible refine gate_dst (N := 5) rfl ?_); (try (refine gate_guard (by rfl) ?_; dsimp only)); refine box_event ?hg (N := 5) ?hd (cs := #[.slice none 0 0, .string (⟨#[]⟩ : ByteArray)]) (t := 25) ?hr ?_; (case hd => rfl); (case hg => rfl); (case hr => first | (go_simp; done) | (go_simp; rfl)); intro gb645 hg w101 hbox hb; have n0_ := Aside0.mk (Kd.R_below (ra HO643.out) hb); have n1_ := Aside0.mk (blk_below (g := gb637) (o := .cells #[.slice A0_0 l0_0.length c0_0, .string a0_1] 31 (0, 0)) bk hb); have n2_ := Aside0.mk (blk_below (g := gb638) (o := .cells #[.string a1_0, .string a1_1] 67 (0, 0)) bk hb); have n3_ := Aside0.mk (below_step bwS hb); have n4_ := Aside0.mk (hbox); have n5_ := Aside0.mk ((by rw [hg]; exact (below_size bwS) : w.heap.size ≤ gb645)); have n6_ := Aside0.mk ((by rw [hg]; exact (below_size bwS) : w.heap.size ≤ gb645)); have n7_ := Aside0.mk ((by rw [hg]; exact Nat.ne_of_lt (blk_lt (g := gb637) (o := .cells #[.slice A0_0 l0_0.length c0_0, .string a0_1] 31 (0, 0)) bk) : gb637 ≠ gb645)); have n8_ := Aside0.mk ((by rw [hg]; exact Nat.ne_of_gt (blk_lt (g := gb637) (o := .cells #[.slice A0_0 l0_0.length c0_0, .string a0_1] 31 (0, 0)) bk) : gb645 ≠ gb637)); have n9_ := Aside0.mk ((by rw [hg]; exact Nat.ne_of_lt (blk_lt (g := gb638) (o := .cells #[.string a1_0, .string a1_1] 67 (0, 0)) bk) : gb638 ≠ gb645)); have n10_ := Aside0.mk ((by rw [hg]; exact Nat.ne_of_gt (blk_lt (g := gb638) (o := .cells #[.string a1_0, .string a1_1] 67 (0, 0)) bk) : gb645 ≠ gb638)); clear HO643; clear BK637; clear BK638; clear HB; have HO643 := n0_; have BK637 := n1_; have BK638 := n2_; have HB := n3_; have BK645 := n4_; have GW645 := n5_; have GE645 := n6_; have NB637_645 := n7_; have NB645_637 := n8_; have NB638_645 := n9_; have NB645_638 := n10_; clear n0_ n1_ n2_ n3_ n4_ n5_ n6_ n7_ n8_ n9_ n10_; clear hb hbox hg; obtain ⟨Ao102, co102, eo102⟩ := Kd.R_slice HO643.out; subst eo102; have hnb103 := NB645_637.out; have hnc103 := NB637_645.out; have hnb104 := NB645_638.out; have hnc104 := NB638_645.out; have hcz105_0 : w101.cell? ⟨gb645, 0, none⟩ = some (.slice none 0 0) := (blk_cell BK645.out 0).trans rfl; have hcz105_1 : w101.cell? ⟨gb645, 1, none⟩ = some (.string (⟨#[]⟩ : ByteArray)) := (blk_cell BK645.out 1).trans rfl; have hfz105_0 := blk_frozen BK645.out 0; have hfz105_1 := blk_frozen BK645.out 1; have hcz106_0 : w101.cell? ⟨gb638, 0, none⟩ = some (.string a1_0) := (blk_cell BK638.out 0).trans rfl; have hcz106_1 : w101.cell? ⟨gb638, 1, none⟩ = some (.string a1_1) := (blk_cell BK638.out 1).trans rfl; have hfz106_0 := blk_frozen BK638.out 0; have hfz106_1 := blk_frozen BK638.out 1) | ((with_reducible refine gate_callee (f := 34) rfl ?_); refine goesL_ (some 32) rfl rfl Tryz.func34 (by kernel_rfl) rfl #[.agg #[.slice Ao102 t641.length co102, .string t644], .string a1_0, .string a1_1] rfl am ?_; (with_reducible refine (msg_Message_With.calls _ _ t641 t644 a1_0 a1_1 t646 t649 _ ?side1 ?side2 A24.out).mono ?_); (case side1 => refine (Kd.R_reads' (e := 46) (base := w.heap.size) (ok := fun k_ => True) (n := t641.length) (c := co102) ?_).2.2; exact (by (with_reducible repeat (first | apply Kd.R_alloc | apply Kd.R_drewN | apply Kd.R_drew)); exact (Kd.R_mono (Kd.R_far (p := ⟨gb645, 1, none⟩) (Kd.R_far (p := ⟨gb645, 0, none⟩) (Kd.R_types HO643.out BK645.out (by decide)) (fun _ hk => hk.2) (.slice Ao102 t641.length co102)) (fun _ hk => hk.2) (.string t644)) (fun _ h_ => h_.1)))); (case side2 => exact (Kd.R_reads' HO643.out).2.1); rintro e w107 ⟨v647, rfl, ho0, hb⟩; refine ⟨_, rfl, ?_⟩; have n0_ := Aside0.mk (Kd.R_elder' (by (with_reducible repeat (first | apply Kd.R_alloc | apply Kd.R_drewN | apply Kd.R_drew)); exact (Kd.R_mono (Kd.R_far (p := ⟨gb645, 1, none⟩) (Kd.R_far (p := ⟨gb645, 0, none⟩) (Kd.R_types HO643.out BK645.out (by decide)) (fun _ hk => hk.2) (.slice Ao102 t641.length co102)) (fun _ hk => hk.2) (.string t644)) (fun _ h_ => h_.1))) (Kd.R_base ho0) hb); have n1_ := Aside0.mk (Kd.R_lower (Kd.R_new' ho0 (Kd.R_lt (by (with_reducible repeat (first | apply Kd.R_alloc | apply Kd.R_drewN | apply Kd.R_drew)); exact (Kd.R_mono (Kd.R_far (p := ⟨gb645, 1, none⟩) (Kd.R_far (p := ⟨gb645, 0, none⟩) (Kd.R_types HO643.out BK645.out (by decide)) (fun _ hk => hk.2) (.slice Ao102 t641.length co102)) (fun _ hk => hk.2) (.string t644)) (fun _ h_ => h_.1))))) (below_size bwS)); have n2_ := Aside0.mk (blk_below (g := gb637) (o := .cells #[.slice A0_0 l0_0.length c0_0, .string a0_1] 31 (0, 0)) (by (with_reducible repeat (first | refine blk_drewN ?_ _ | refine blk_drew ?_ | refine blk_alloc ?_ _)); refine blk_far ?_ NB637_645.out _; (with_reducible repeat (first | refine blk_drewN ?_ _ | refine blk_drew ?_ | refine blk_alloc ?_ _)); refine blk_far ?_ NB637_645.out _; (with_reducible repeat (first | refine blk_drewN ?_ _ | refine blk_drew ?_ | refine blk_alloc ?_ _)); exact BK637.out) hb); have n3_ := Aside0.mk (blk_below (g := gb638) (o := .cells #[.string a1_0, .string a1_1] 67 (0, 0)) (by (with_reducible repeat (first | refine blk_drewN ?_ _ | refine blk_drew ?_ | refine blk_alloc ?_ _)); refine blk_far ?_ NB638_645.out _; (with_reducible repeat (first | refine blk_drewN ?_ _ | refine blk_drew ?_ | refine blk_alloc ?_ _)); refine blk_far ?_ NB638_645.out _; (with_reducible repeat (first | refine blk_drewN ?_ _ | refine blk_drew ?_ | refine blk_alloc ?_ _)); exact BK638.out) hb); have n4_ := Aside0.mk (blk_below (g := gb645) (o := .cells #[.slice Ao102 t641.length co102, .string t644] 25 (0, 0)) (by (with_reducible repeat (first | refine blk_drewN ?_ _ | refine blk_drew ?_ | refine blk_alloc ?_ _)); refine blk_put (cs := #[.slice Ao102 t641.length co102, .string (⟨#[]⟩ : ByteArray)]) ?_ 1 _ rfl; (with_reducible repeat (first | refine blk_drewN ?_ _ | refine blk_drew ?_ | refine blk_alloc ?_ _)); exact blk_put (cs := #[.slice none 0 0, .string (⟨#[]⟩ : ByteArray)]) bk 0 _ rfl) hb); have n5_ := Aside0.mk (below_step bwS hb); clear HO643; clear BK637; clear BK638; clear BK645; clear HB; have HO643 := n0_; have HO648 := n1_; have BK637 := n2_; have BK638 := n3_; have BK645 := n4_; have HB := n5_; clear n0_ n1_ n2_ n3_ n4_ n5_; (try clear hb); (try clear hb2); (try clear hk); (try clear hi); (try clear ho0)) | ((with_reducible refine gate_dst (N := 6) rfl ?_); (try (refine gate_guard (by rfl) ?_; dsimp only)); refine box_event ?hg (N := 6) ?hd (cs := #[.slice none 0 0, .string (⟨#[]⟩ : ByteArray)]) (t := 25) ?hr ?_; (case hd => rfl); (case hg => rfl); (case hr => first | (go_simp; done) | (go_simp; rfl)); intro gb650 hg w108 hbox hb; have n0_ := Aside0.mk (Kd.R_below (ra HO643.out) hb); have n1_ := Aside0.mk (Kd.R_below (ra HO648.out) hb); have n2_ := Aside0.mk (blk_below (g := gb637) (o := .cells #[.slice A0_0 l0_0.length c0_0, .string a0_1] 31 (0, 0)) bk hb); have n3_ := Aside0.mk (blk_below (g := gb638) (o := .cells #[.string a1_0, .string a1_1] 67 (0, 0)) bk hb); have n4_ := Aside0.mk (blk_below (g := gb645) (o := .cells #[.slice Ao102 t641.length co102, .string t644] 25 (0, 0)) bk hb); have n5_ := Aside0.mk (below_step bwS hb); have n6_ := Aside0.mk (hbox); have n7_ := Aside0.mk ((by rw [hg]; exact (below_size bwS) : w.heap.size ≤ gb650)); have n8_ := Aside0.mk ((by rw [hg]; exact (below_size bwS) : w.heap.size ≤ gb650)); have n9_ := Aside0.mk ((by rw [hg]; exact Nat.ne_of_lt (blk_lt (g := gb637) (o := .cells #[.slice A0_0 l0_0.length c0_0, .string a0_1] 31 (0, 0)) bk) : gb637 ≠ gb650)); have n10_ := Aside0.mk ((by rw [hg]; exact Nat.ne_of_gt (blk_lt (g := gb637) (o := .cells #[.slice A0_0 l0_0.length c0_0, .string a0_1] 31 (0, 0)) bk) : gb650 ≠ gb637)); have n11_ := Aside0.mk ((by rw [hg]; exact Nat.ne_of_lt (blk_lt (g := gb638) (o := .cells #[.string a1_0, .string a1_1] 67 (0, 0)) bk) : gb638 ≠ gb650)); have n12_ := Aside0.mk ((by rw [hg]; exact Nat.ne_of_gt (blk_lt (g := gb638) (o := .cells #[.string a1_0, .string a1_1] 67 (0, 0)) bk) : gb650 ≠ gb638)); have n13_ := Aside0.mk ((by rw [hg]; exact Nat.ne_of_lt (blk_lt (g := gb645) (o := .cells #[.slice Ao102 t641.length co102, .string t644] 25 (0, 0)) bk) : gb645 ≠ gb650)); have n14_ := Aside0.mk ((by rw [hg]; exact Nat.ne_of_gt (blk_lt (g := gb645) (o := .cells #[.slice Ao102 t641.length co102, .string t644] 25 (0, 0)) bk) : gb650 ≠ gb645)); clear HO643; clear HO648; clear BK637; clear BK638; clear BK645; clear HB; have HO643 := n0_; have HO648 := n1_; have BK637 := n2_; have BK638 := n3_; have BK645 := n4_; have HB := n5_; have BK650 := n6_; have GW650 := n7_; have GE650 := n8_; have NB637_650 := n9_; have NB650_637 := n10_; have NB638_650 := n11_; have NB650_638 := n12_; have NB645_650 := n13_; have NB650_645 := n14_; clear n0_ n1_ n2_ n3_ n4_ n5_ n6_ n7_ n8_ n9_ n10_ n11_ n12_ n13_ n14_; clear hb hbox hg; obtain ⟨Ao109, co109, eo109⟩ := Kd.R_slice HO648.out; subst eo109; have hnb110 := NB650_637.out; have hnc110 := NB637_650.out; have hnb111 := NB650_638.out; have hnc111 := NB638_650.out; have hnb112 := NB650_645.out; have hnc112 := NB645_650.out; have hcz113_0 : w108.cell? ⟨gb650, 0, none⟩ = some (.slice none 0 0) := (blk_cell BK650.out 0).trans rfl; have hcz113_1 : w108.cell? ⟨gb650, 1, none⟩ = some (.string (⟨#[]⟩ : ByteArray)) := (blk_cell BK650.out 1).trans rfl; have hfz113_0 := blk_frozen BK650.out 0; have hfz113_1 := blk_frozen BK650.out 1))
      have n0_ : Aside0 (Kd.R k46 46 ((w108.setCell ⟨gb650, 0, none⟩ (.slice Ao109 t646.length co109)).setCell ⟨gb650, 1, none⟩ (.string t649)) w.heap.size (fun k_ => some k_ ≠ (.slice Ao109 t646.length co109 : Value).ownBlock) (.slice Ao102 t641.length co102) t641) := ⟨by (with_reducible repeat (first | apply Kd.R_alloc | apply Kd.R_drewN | apply Kd.R_drew)); exact Kd.R_mono (Kd.R_far (p := ⟨gb650, 1, none⟩) (Kd.R_far (p := ⟨gb650, 0, none⟩) (Kd.R_types HO643.out BK650.out (by decide)) (fun _ hk => hk.2) (.slice Ao109 t646.length co109)) (fun _ hk => hk.2) (.string t649)) (fun _ hk => hk.1.2)⟩
      have n1_ : Aside0 (Kd.R k46 46 ((w108.setCell ⟨gb650, 0, none⟩ (.slice Ao109 t646.length co109)).setCell ⟨gb650, 1, none⟩ (.string t649)) w.heap.size (fun k_ => some k_ ≠ (.slice Ao102 t641.length co102 : Value).ownBlock) (.slice Ao109 t646.length co109) t646) := ⟨by (with_reducible repeat (first | apply Kd.R_alloc | apply Kd.R_drewN | apply Kd.R_drew)); exact Kd.R_mono (Kd.R_far (p := ⟨gb650, 1, none⟩) (Kd.R_far (p := ⟨gb650, 0, none⟩) (Kd.R_types HO648.out BK650.out (by decide)) (fun _ hk => hk.2) (.slice Ao109 t646.length co109)) (fun _ hk => hk.2) (.string t649)) (fun _ hk => hk.1.2)⟩
      have n2_ : Aside0 (((w108.setCell ⟨gb650, 0, none⟩ (.slice Ao109 t646.length co109)).setCell ⟨gb650, 1, none⟩ (.string t649)).heap[gb637]? = some (.cells #[.slice A0_0 l0_0.length c0_0, .string a0_1] 31 (0, 0))) := ⟨by (with_reducible repeat (first | refine blk_drewN ?_ _ | refine blk_drew ?_ | refine blk_alloc ?_ _)); refine blk_far ?_ NB637_650.out _; (with_reducible repeat (first | refine blk_drewN ?_ _ | refine blk_drew ?_ | refine blk_alloc ?_ _)); refine blk_far ?_ NB637_650.out _; (with_reducible repeat (first | refine blk_drewN ?_ _ | refine blk_drew ?_ | refine blk_alloc ?_ _)); exact BK637.out⟩
      have n3_ : Aside0 (((w108.setCell ⟨gb650, 0, none⟩ (.slice Ao109 t646.length co109)).setCell ⟨gb650, 1, none⟩ (.string t649)).heap[gb638]? = some (.cells #[.string a1_0, .string a1_1] 67 (0, 0))) := ⟨by (with_reducible repeat (first | refine blk_drewN ?_ _ | refine blk_drew ?_ | refine blk_alloc ?_ _)); refine blk_far ?_ NB638_650.out _; (with_reducible repeat (first | refine blk_drewN ?_ _ | refine blk_drew ?_ | refine blk_alloc ?_ _)); refine blk_far ?_ NB638_650.out _; (with_reducible repeat (first | refine blk_drewN ?_ _ | refine blk_drew ?_ | refine blk_alloc ?_ _)); exact BK638.out⟩
      have n4_ : Aside0 (((w108.setCell ⟨gb650, 0, none⟩ (.slice Ao109 t646.length co109)).setCell ⟨gb650, 1, none⟩ (.string t649)).heap[gb645]? = some (.cells #[.slice Ao102 t641.length co102, .string t644] 25 (0, 0))) := ⟨by (with_reducible repeat (first | refine blk_drewN ?_ _ | refine blk_drew ?_ | refine blk_alloc ?_ _)); refine blk_far ?_ NB645_650.out _; (with_reducible repeat (first | refine blk_drewN ?_ _ | refine blk_drew ?_ | refine blk_alloc ?_ _)); refine blk_far ?_ NB645_650.out _; (with_reducible repeat (first | refine blk_drewN ?_ _ | refine blk_drew ?_ | refine blk_alloc ?_ _)); exact BK645.out⟩
      have n5_ : Aside0 (((w108.setCell ⟨gb650, 0, none⟩ (.slice Ao109 t646.length co109)).setCell ⟨gb650, 1, none⟩ (.string t649)).heap[gb650]? = some (.cells #[.slice Ao109 t646.length co109, .string t649] 25 (0, 0))) := ⟨by (with_reducible repeat (first | refine blk_drewN ?_ _ | refine blk_drew ?_ | refine blk_alloc ?_ _)); refine blk_put (cs := #[.slice Ao109 t646.length co109, .string (⟨#[]⟩ : ByteArray)]) ?_ 1 _ rfl; (with_reducible repeat (first | refine blk_drewN ?_ _ | refine blk_drew ?_ | refine blk_alloc ?_ _)); exact blk_put (cs := #[.slice none 0 0, .string (⟨#[]⟩ : ByteArray)]) bk 0 _ rfl⟩
      have n6_ : Aside0 (Below w.heap.size w ((w108.setCell ⟨gb650, 0, none⟩ (.slice Ao109 t646.length co109)).setCell ⟨gb650, 1, none⟩ (.string t649))) := ⟨bwS⟩
      (try clear HO643)
      (try clear HO648)
      (try clear BK637)
      (try clear BK638)
      (try clear BK645)
      (try clear BK650)
      (try clear HB)
      generalize ((w108.setCell ⟨gb650, 0, none⟩ (.slice Ao109 t646.length co109)).setCell ⟨gb650, 1, none⟩ (.string t649)) = w114 at n0_ n1_ n2_ n3_ n4_ n5_ n6_ ⊢
      have HO643 := n0_; have HO648 := n1_; have BK637 := n2_; have BK638 := n3_; have BK645 := n4_; have BK650 := n5_; have HB := n6_; clear n0_ n1_ n2_ n3_ n4_ n5_ n6_; have n0_ := Aside0.mk (Kd.R_drew HO643.out); have n1_ := Aside0.mk (Kd.R_drew HO648.out); have n2_ := Aside0.mk (blk_drew BK637.out); have n3_ := Aside0.mk (blk_drew BK638.out); have n4_ := Aside0.mk (blk_drew BK645.out); have n5_ := Aside0.mk (blk_drew BK650.out); have n6_ := Aside0.mk (below_drew1 HB.out); clear HO643 HO648 BK637 BK638 BK645 BK650 HB; have HO643 := n0_; have HO648 := n1_; have BK637 := n2_; have BK638 := n3_; have BK645 := n4_; have BK650 := n5_; have HB := n6_; clear n0_ n1_ n2_ n3_ n4_ n5_ n6_; refine start_ (n := 9) (S := fun w' => w'.cell? ⟨gb637, 0, none⟩ = some (.slice A0_0 l0_0.length c0_0) ∧ w'.cell? ⟨gb637, 1, none⟩ = some (.string a0_1) ∧ w'.cell? ⟨gb638, 0, none⟩ = some (.string a1_0) ∧ w'.cell? ⟨gb638, 1, none⟩ = some (.string a1_1)) (ds := []) #[false, false, false, false, false, false, false, false, false] (by kernel_rfl) rfl rfl ⟨(blk_cell BK637.out 0).trans rfl, (blk_cell BK637.out 1).trans rfl, (blk_cell BK638.out 0).trans rfl, (blk_cell BK638.out 1).trans rfl⟩ (fun hHeld => ?_); refine with_tabW bulletinlaw16_MsgWith.tab5 bulletinlaw16_MsgWith.bits5 (fun HT_ HW_ => ?_)
      generalize w114.drew = w115 at HO643 HO648 BK637 BK638 BK645 BK650 HB hHeld ⊢
      refine pure_ (i := 0) (N := some 33) (v := ?_) (a' := ?_) (bitsL 9 1) rfl rfl (any_of HT_.out (by kernel_rfl)) (fun _ _ _ h => h) (Or.inl ⟨by rfl, ?_⟩) ?_ ?_; rotate_left
      ·intro w'; go_simp; with_reducible rfl
      rotate_left
      ·simp only [Act.put, List.setIfInBounds_toArray, List.set_cons_zero, List.set_cons_succ, i64_w, i32_w]; rfl
      refine pure_ (i := 4) (N := some 37) (v := ?_) (a' := ?_) (bitsL 9 17) rfl rfl (any_of HT_.out (by kernel_rfl)) (fun _ _ _ h => h) (Or.inl ⟨by rfl, ?_⟩) ?_ ?_; rotate_left
      ·intro w'; go_simp; with_reducible rfl
      rotate_left
      ·simp only [Act.put, List.setIfInBounds_toArray, List.set_cons_zero, List.set_cons_succ, i64_w, i32_w]; rfl
      refine take_ (i := 1) (N := some 34) (v := ?_) (a' := ?_) (bitsL 9 19) rfl rfl (take_ofW HT_.out HW_.out (by kernel_rfl)) (fun _ _ _ h => h) (Or.inl ⟨by rfl, ?_⟩) hHeld ?_ ?_; rotate_left
      ·rintro w' ⟨s0, s1, s2, s3⟩; go_simp; with_reducible rfl
      rotate_left
      ·simp only [Act.put, List.setIfInBounds_toArray, List.set_cons_zero, List.set_cons_succ, i64_w, i32_w]; rfl
      refine take_ (i := 2) (N := some 35) (v := ?_) (a' := ?_) (bitsL 9 23) rfl rfl (take_ofW HT_.out HW_.out (by kernel_rfl)) (fun _ _ _ h => h) (Or.inl ⟨by rfl, ?_⟩) hHeld ?_ ?_; rotate_left
      ·rintro w' ⟨s0, s1, s2, s3⟩; go_simp; with_reducible rfl
      rotate_left
      ·simp only [Act.put, List.setIfInBounds_toArray, List.set_cons_zero, List.set_cons_succ, i64_w, i32_w]; rfl
      refine take_ (i := 5) (N := some 38) (v := ?_) (a' := ?_) (bitsL 9 55) rfl rfl (take_ofW HT_.out HW_.out (by kernel_rfl)) (fun _ _ _ h => h) (Or.inl ⟨by rfl, ?_⟩) hHeld ?_ ?_; rotate_left
      ·rintro w' ⟨s0, s1, s2, s3⟩; go_simp; with_reducible rfl
      rotate_left
      ·simp only [Act.put, List.setIfInBounds_toArray, List.set_cons_zero, List.set_cons_succ, i64_w, i32_w]; rfl
      refine join_ (σ := Value × Nat) 1 (bitsL 9 255) (fun s_ => [(36, s_.1), (7, .pointer (some ⟨s_.2, 0, none⟩)), (39, .agg #[s_.1, .string a0_1])]) (fun s_ w' => (w'.cell? ⟨gb637, 0, none⟩ = some (.slice A0_0 l0_0.length c0_0) ∧ w'.cell? ⟨gb637, 1, none⟩ = some (.string a0_1) ∧ w'.cell? ⟨gb638, 0, none⟩ = some (.string a1_0) ∧ w'.cell? ⟨gb638, 1, none⟩ = some (.string a1_1)) ∧ (Kd.R k46 46 w' w.heap.size (fun k_ => some k_ ≠ (.slice Ao109 t646.length co109 : Value).ownBlock) (.slice Ao102 t641.length co102) t641) ∧ (Kd.R k46 46 w' w.heap.size (fun k_ => some k_ ≠ (.slice Ao102 t641.length co102 : Value).ownBlock) (.slice Ao109 t646.length co109) t646) ∧ (Kd.R k67 67 w' w.heap.size (fun k_ => k_ ≠ gb638) s_.1 t651) ∧ (w'.heap[gb637]? = some (.cells #[.slice A0_0 l0_0.length c0_0, .string a0_1] 31 (0, 0))) ∧ (w'.heap[gb638]? = some (.cells #[.string a1_0, .string a1_1] 67 (0, 0))) ∧ (w'.heap[gb645]? = some (.cells #[.slice Ao102 t641.length co102, .string t644] 25 (0, 0))) ∧ (w'.heap[gb650]? = some (.cells #[.slice Ao109 t646.length co109, .string t649] 25 (0, 0))) ∧ (w'.heap[s_.2]? = some (.cells #[.slice none 0 0, .string (⟨#[]⟩ : ByteArray)] 31 (0, 0))) ∧ (w.heap.size ≤ s_.2) ∧ (w.heap.size ≤ s_.2) ∧ (gb637 ≠ s_.2) ∧ (s_.2 ≠ gb637) ∧ (gb638 ≠ s_.2) ∧ (s_.2 ≠ gb638) ∧ (gb645 ≠ s_.2) ∧ (s_.2 ≠ gb645) ∧ (gb650 ≠ s_.2) ∧ (s_.2 ≠ gb650) ∧ (Below w.heap.size w w')) ?_ ?_; rotate_left
      ·intro hCont; refine two_ (i := 3) (j := 7) (Ni := some 36) (Nj := some 7) (bitsL 9 63) (bitsL 9 183) rfl rfl rfl rfl (two_of HT_.out (by kernel_rfl)) (by decide) (by decide) (fun K hK => ?_) (fun K hK => ?_)
       ·skip
        refine goes_ Tryz.func35 (by kernel_rfl) rfl #[.slice A0_0 l0_0.length c0_0, .agg #[.string a1_0, .string a1_1]] (by rfl) rfl rfl am ?_; with_reducible refine (bulletinref15_Put.calls kj2 _ _ l0_0 a1_0 a1_1 t651 _ ?side1 ?side2 A25.out).mono ?_
        (case side1 => repeat (first | exact (Kd.C_below HR0_0.out HB.out) | (with_reducible refine Kd.C_alloc ?_ _) | (with_reducible refine Kd.C_drewN ?_ _) | (with_reducible refine Kd.C_drew ?_)))
        (case side2 => exact HC0_0.out)
        rintro e w116 ⟨v652, rfl, ho0, hb⟩; refine ⟨_, rfl, ?_⟩; have n0_ := Aside0.mk (Kd.R_below (ra HO643.out) hb); have n1_ := Aside0.mk (Kd.R_below (ra HO648.out) hb); have n2_ := Aside0.mk (Kd.R_lower (Kd.R_newB ho0 (g := gb638) (o := .cells #[.string a1_0, .string a1_1] 67 (0, 0)) bk) (below_size bwS)); have n3_ := Aside0.mk (blk_below (g := gb637) (o := .cells #[.slice A0_0 l0_0.length c0_0, .string a0_1] 31 (0, 0)) bk hb); have n4_ := Aside0.mk (blk_below (g := gb638) (o := .cells #[.string a1_0, .string a1_1] 67 (0, 0)) bk hb); have n5_ := Aside0.mk (blk_below (g := gb645) (o := .cells #[.slice Ao102 t641.length co102, .string t644] 25 (0, 0)) bk hb); have n6_ := Aside0.mk (blk_below (g := gb650) (o := .cells #[.slice Ao109 t646.length co109, .string t649] 25 (0, 0)) bk hb); have n7_ := Aside0.mk (below_step bwS hb); clear HO643 HO648 BK637 BK638 BK645 BK650 HB; have HO643 := n0_; have HO648 := n1_; have HO653 := n2_; have BK637 := n3_; have BK638 := n4_; have BK645 := n5_; have BK650 := n6_; have HB := n7_; clear n0_ n1_ n2_ n3_ n4_ n5_ n6_ n7_
        (try clear hb)
        (try clear hb2)
        (try clear hk)
        (try clear hi)
        (try clear ho0)
        obtain ⟨Ao117, co117, eo117⟩ := Kd.R_slice HO653.out
        (first | subst eo117 | (injection eo117 with f1_ f2_ f3_; have f4_ := f1_.symm; have f5_ := f3_.symm; clear f1_ f2_ f3_; subst f4_; subst f5_))
        refine hK.out _ _ ⟨(blk_cell BK637.out 0).trans rfl, (blk_cell BK637.out 1).trans rfl, (blk_cell BK638.out 0).trans rfl, (blk_cell BK638.out 1).trans rfl⟩ (fun hHeld => ?_); clear hK K; refine norm_ (a' := ?_) ?_ ?_; rotate_left
        ·show Act.put _ (some 36) _ = _
         simp only [Act.put, List.setIfInBounds_toArray, List.set_cons_zero, List.set_cons_succ, i64_w, i32_w]; rfl
        refine pure_ (i := 6) (N := some 39) (v := ?_) (a' := ?_) (bitsL 9 127) rfl rfl (any_of HT_.out (by kernel_rfl)) (fun _ _ _ h => h) (Or.inl ⟨by rfl, ?_⟩) ?_ ?_; rotate_left
        ·intro w'; go_simp; with_reducible rfl
        rotate_left
        ·simp only [Act.put, List.setIfInBounds_toArray, List.set_cons_zero, List.set_cons_succ, i64_w, i32_w]; rfl
        refine one_ (i := 7) (N := some 7) (bitsL 9 255) rfl rfl (one_of HT_.out (by kernel_rfl)) (by decide) (fun K hK => ?_); refine box_step ?hg (N := 7) ?hd (cs := #[.slice none 0 0, .string (⟨#[]⟩ : ByteArray)]) (t := 31) ?hr ?_; (case hd => rfl); (case hg => rfl); (case hr => first | (go_simp; done) | (go_simp; rfl))
        intro gb654 hg w118 hbox hb; have n0_ := Aside0.mk (Kd.R_below (ra HO643.out) hb); have n1_ := Aside0.mk (Kd.R_below (ra HO648.out) hb); have n2_ := Aside0.mk (Kd.R_below (ra HO653.out) hb); have n3_ := Aside0.mk (blk_below (g := gb637) (o := .cells #[.slice A0_0 l0_0.length c0_0, .string a0_1] 31 (0, 0)) bk hb); have n4_ := Aside0.mk (blk_below (g := gb638) (o := .cells #[.string a1_0, .string a1_1] 67 (0, 0)) bk hb); have n5_ := Aside0.mk (blk_below (g := gb645) (o := .cells #[.slice Ao102 t641.length co102, .string t644] 25 (0, 0)) bk hb); have n6_ := Aside0.mk (blk_below (g := gb650) (o := .cells #[.slice Ao109 t646.length co109, .string t649] 25 (0, 0)) bk hb); have n7_ := Aside0.mk (below_step bwS hb); have n8_ := Aside0.mk (hbox); have n9_ := Aside0.mk ((by rw [hg]; exact (below_size bwS) : w.heap.size ≤ gb654)); have n10_ := Aside0.mk ((by rw [hg]; exact (below_size bwS) : w.heap.size ≤ gb654)); have n11_ := Aside0.mk ((by rw [hg]; exact Nat.ne_of_lt (blk_lt (g := gb637) (o := .cells #[.slice A0_0 l0_0.length c0_0, .string a0_1] 31 (0, 0)) bk) : gb637 ≠ gb654)); have n12_ := Aside0.mk ((by rw [hg]; exact Nat.ne_of_gt (blk_lt (g := gb637) (o := .cells #[.slice A0_0 l0_0.length c0_0, .string a0_1] 31 (0, 0)) bk) : gb654 ≠ gb637)); have n13_ := Aside0.mk ((by rw [hg]; exact Nat.ne_of_lt (blk_lt (g := gb638) (o := .cells #[.string a1_0, .string a1_1] 67 (0, 0)) bk) : gb638 ≠ gb654)); have n14_ := Aside0.mk ((by rw [hg]; exact Nat.ne_of_gt (blk_lt (g := gb638) (o := .cells #[.string a1_0, .string a1_1] 67 (0, 0)) bk) : gb654 ≠ gb638)); have n15_ := Aside0.mk ((by rw [hg]; exact Nat.ne_of_lt (blk_lt (g := gb645) (o := .cells #[.slice Ao102 t641.length co102, .string t644] 25 (0, 0)) bk) : gb645 ≠ gb654)); have n16_ := Aside0.mk ((by rw [hg]; exact Nat.ne_of_gt (blk_lt (g := gb645) (o := .cells #[.slice Ao102 t641.length co102, .string t644] 25 (0, 0)) bk) : gb654 ≠ gb645)); have n17_ := Aside0.mk ((by rw [hg]; exact Nat.ne_of_lt (blk_lt (g := gb650) (o := .cells #[.slice Ao109 t646.length co109, .string t649] 25 (0, 0)) bk) : gb650 ≠ gb654)); have n18_ := Aside0.mk ((by rw [hg]; exact Nat.ne_of_gt (blk_lt (g := gb650) (o := .cells #[.slice Ao109 t646.length co109, .string t649] 25 (0, 0)) bk) : gb654 ≠ gb650)); clear HO643 HO648 HO653 BK637 BK638 BK645 BK650 HB; have HO643 := n0_; have HO648 := n1_; have HO653 := n2_; have BK637 := n3_; have BK638 := n4_; have BK645 := n5_; have BK650 := n6_; have HB := n7_; have BK654 := n8_; have GW654 := n9_; have GE654 := n10_; have NB637_654 := n11_; have NB654_637 := n12_; have NB638_654 := n13_; have NB654_638 := n14_; have NB645_654 := n15_; have NB654_645 := n16_; have NB650_654 := n17_; have NB654_650 := n18_; clear n0_ n1_ n2_ n3_ n4_ n5_ n6_ n7_ n8_ n9_ n10_ n11_ n12_ n13_ n14_ n15_ n16_ n17_ n18_ hb hbox hg; refine hK.out _ _ ⟨(blk_cell BK637.out 0).trans rfl, (blk_cell BK637.out 1).trans rfl, (blk_cell BK638.out 0).trans rfl, (blk_cell BK638.out 1).trans rfl⟩ (fun hHeld => ?_); clear hK K; refine norm_ (a' := ?_) ?_ ?_; rotate_left
        ·show Act.put _ (some 7) _ = _
         simp only [Act.put, List.setIfInBounds_toArray, List.set_cons_zero, List.set_cons_succ, i64_w, i32_w]; rfl
        exact norm_ (by simp only [putAll, Act.put, List.setIfInBounds_toArray, List.set_cons_zero, List.set_cons_succ]) (hCont (.slice Ao117 t651.length co117, gb654) _ ⟨hHeld, (ra HO643.out), (ra HO648.out), (ra (Kd.R_mono HO653.out (fun _ hk => hk.2))), bk, bk, bk, bk, bk, GW654.out, GE654.out, NB637_654.out, NB654_637.out, NB638_654.out, NB654_638.out, NB645_654.out, NB654_645.out, NB650_654.out, NB654_650.out, bwS⟩)
       ·skip
        refine box_step ?hg (N := 7) ?hd (cs := #[.slice none 0 0, .string (⟨#[]⟩ : ByteArray)]) (t := 31) ?hr ?_; (case hd => rfl); (case hg => rfl); (case hr => first | (go_simp; done) | (go_simp; rfl))
        intro gb654 hg w116 hbox hb; have n0_ := Aside0.mk (Kd.R_below (ra HO643.out) hb); have n1_ := Aside0.mk (Kd.R_below (ra HO648.out) hb); have n2_ := Aside0.mk (blk_below (g := gb637) (o := .cells #[.slice A0_0 l0_0.length c0_0, .string a0_1] 31 (0, 0)) bk hb); have n3_ := Aside0.mk (blk_below (g := gb638) (o := .cells #[.string a1_0, .string a1_1] 67 (0, 0)) bk hb); have n4_ := Aside0.mk (blk_below (g := gb645) (o := .cells #[.slice Ao102 t641.length co102, .string t644] 25 (0, 0)) bk hb); have n5_ := Aside0.mk (blk_below (g := gb650) (o := .cells #[.slice Ao109 t646.length co109, .string t649] 25 (0, 0)) bk hb); have n6_ := Aside0.mk (below_step bwS hb); have n7_ := Aside0.mk (hbox); have n8_ := Aside0.mk ((by rw [hg]; exact (below_size bwS) : w.heap.size ≤ gb654)); have n9_ := Aside0.mk ((by rw [hg]; exact (below_size bwS) : w.heap.size ≤ gb654)); have n10_ := Aside0.mk ((by rw [hg]; exact Nat.ne_of_lt (blk_lt (g := gb637) (o := .cells #[.slice A0_0 l0_0.length c0_0, .string a0_1] 31 (0, 0)) bk) : gb637 ≠ gb654)); have n11_ := Aside0.mk ((by rw [hg]; exact Nat.ne_of_gt (blk_lt (g := gb637) (o := .cells #[.slice A0_0 l0_0.length c0_0, .string a0_1] 31 (0, 0)) bk) : gb654 ≠ gb637)); have n12_ := Aside0.mk ((by rw [hg]; exact Nat.ne_of_lt (blk_lt (g := gb638) (o := .cells #[.string a1_0, .string a1_1] 67 (0, 0)) bk) : gb638 ≠ gb654)); have n13_ := Aside0.mk ((by rw [hg]; exact Nat.ne_of_gt (blk_lt (g := gb638) (o := .cells #[.string a1_0, .string a1_1] 67 (0, 0)) bk) : gb654 ≠ gb638)); have n14_ := Aside0.mk ((by rw [hg]; exact Nat.ne_of_lt (blk_lt (g := gb645) (o := .cells #[.slice Ao102 t641.length co102, .string t644] 25 (0, 0)) bk) : gb645 ≠ gb654)); have n15_ := Aside0.mk ((by rw [hg]; exact Nat.ne_of_gt (blk_lt (g := gb645) (o := .cells #[.slice Ao102 t641.length co102, .string t644] 25 (0, 0)) bk) : gb654 ≠ gb645)); have n16_ := Aside0.mk ((by rw [hg]; exact Nat.ne_of_lt (blk_lt (g := gb650) (o := .cells #[.slice Ao109 t646.length co109, .string t649] 25 (0, 0)) bk) : gb650 ≠ gb654)); have n17_ := Aside0.mk ((by rw [hg]; exact Nat.ne_of_gt (blk_lt (g := gb650) (o := .cells #[.slice Ao109 t646.length co109, .string t649] 25 (0, 0)) bk) : gb654 ≠ gb650)); clear HO643 HO648 BK637 BK638 BK645 BK650 HB; have HO643 := n0_; have HO648 := n1_; have BK637 := n2_; have BK638 := n3_; have BK645 := n4_; have BK650 := n5_; have HB := n6_; have BK654 := n7_; have GW654 := n8_; have GE654 := n9_; have NB637_654 := n10_; have NB654_637 := n11_; have NB638_654 := n12_; have NB654_638 := n13_; have NB645_654 := n14_; have NB654_645 := n15_; have NB650_654 := n16_; have NB654_650 := n17_; clear n0_ n1_ n2_ n3_ n4_ n5_ n6_ n7_ n8_ n9_ n10_ n11_ n12_ n13_ n14_ n15_ n16_ n17_ hb hbox hg; refine hK.out _ _ ⟨(blk_cell BK637.out 0).trans rfl, (blk_cell BK637.out 1).trans rfl, (blk_cell BK638.out 0).trans rfl, (blk_cell BK638.out 1).trans rfl⟩ (fun hHeld => ?_); clear hK K; refine norm_ (a' := ?_) ?_ ?_; rotate_left
        ·show Act.put _ (some 7) _ = _
         simp only [Act.put, List.setIfInBounds_toArray, List.set_cons_zero, List.set_cons_succ, i64_w, i32_w]; rfl
        refine one_ (i := 3) (N := some 36) (bitsL 9 191) rfl rfl (one_of HT_.out (by kernel_rfl)) (by decide) (fun K hK => ?_); refine goes_ Tryz.func35 (by kernel_rfl) rfl #[.slice A0_0 l0_0.length c0_0, .agg #[.string a1_0, .string a1_1]] (by rfl) rfl rfl am ?_; with_reducible refine (bulletinref15_Put.calls kj2 _ _ l0_0 a1_0 a1_1 t651 _ ?side1 ?side2 A25.out).mono ?_
        (case side1 => repeat (first | exact (Kd.C_below HR0_0.out HB.out) | (with_reducible refine Kd.C_alloc ?_ _) | (with_reducible refine Kd.C_drewN ?_ _) | (with_reducible refine Kd.C_drew ?_)))
        (case side2 => exact HC0_0.out)
        rintro e w117 ⟨v652, rfl, ho0, hb⟩; refine ⟨_, rfl, ?_⟩; have n0_ := Aside0.mk (Kd.R_below (ra HO643.out) hb); have n1_ := Aside0.mk (Kd.R_below (ra HO648.out) hb); have n2_ := Aside0.mk (Kd.R_lower (Kd.R_newB ho0 (g := gb638) (o := .cells #[.string a1_0, .string a1_1] 67 (0, 0)) bk) (below_size bwS)); have n3_ := Aside0.mk (blk_below (g := gb637) (o := .cells #[.slice A0_0 l0_0.length c0_0, .string a0_1] 31 (0, 0)) bk hb); have n4_ := Aside0.mk (blk_below (g := gb638) (o := .cells #[.string a1_0, .string a1_1] 67 (0, 0)) bk hb); have n5_ := Aside0.mk (blk_below (g := gb645) (o := .cells #[.slice Ao102 t641.length co102, .string t644] 25 (0, 0)) bk hb); have n6_ := Aside0.mk (blk_below (g := gb650) (o := .cells #[.slice Ao109 t646.length co109, .string t649] 25 (0, 0)) bk hb); have n7_ := Aside0.mk (blk_below (g := gb654) (o := .cells #[.slice none 0 0, .string (⟨#[]⟩ : ByteArray)] 31 (0, 0)) bk hb); have n8_ := Aside0.mk (below_step bwS hb); clear HO643 HO648 BK637 BK638 BK645 BK650 BK654 HB; have HO643 := n0_; have HO648 := n1_; have HO653 := n2_; have BK637 := n3_; have BK638 := n4_; have BK645 := n5_; have BK650 := n6_; have BK654 := n7_; have HB := n8_; clear n0_ n1_ n2_ n3_ n4_ n5_ n6_ n7_ n8_
        (try clear hb)
        (try clear hb2)
        (try clear hk)
        (try clear hi)
        (try clear ho0)
        obtain ⟨Ao118, co118, eo118⟩ := Kd.R_slice HO653.out
        (first | subst eo118 | (injection eo118 with f1_ f2_ f3_; have f4_ := f1_.symm; have f5_ := f3_.symm; clear f1_ f2_ f3_; subst f4_; subst f5_))
        refine hK.out _ _ ⟨(blk_cell BK637.out 0).trans rfl, (blk_cell BK637.out 1).trans rfl, (blk_cell BK638.out 0).trans rfl, (blk_cell BK638.out 1).trans rfl⟩ (fun hHeld => ?_); clear hK K; refine norm_ (a' := ?_) ?_ ?_; rotate_left
        ·show Act.put _ (some 36) _ = _
         simp only [Act.put, List.setIfInBounds_toArray, List.set_cons_zero, List.set_cons_succ, i64_w, i32_w]; rfl
        refine pure_ (i := 6) (N := some 39) (v := ?_) (a' := ?_) (bitsL 9 255) rfl rfl (any_of HT_.out (by kernel_rfl)) (fun _ _ _ h => h) (Or.inl ⟨by rfl, ?_⟩) ?_ ?_; rotate_left
        ·intro w'; go_simp; with_reducible rfl
        rotate_left
        ·simp only [Act.put, List.setIfInBounds_toArray, List.set_cons_zero, List.set_cons_succ, i64_w, i32_w]; rfl
        exact norm_ (by simp only [putAll, Act.put, List.setIfInBounds_toArray, List.set_cons_zero, List.set_cons_succ]) (hCont (.slice Ao118 t651.length co118, gb654) _ ⟨hHeld, (ra HO643.out), (ra HO648.out), (ra (Kd.R_mono HO653.out (fun _ hk => hk.2))), bk, bk, bk, bk, bk, GW654.out, GE654.out, NB637_654.out, NB654_637.out, NB638_654.out, NB654_638.out, NB645_654.out, NB654_645.out, NB650_654.out, NB654_650.out, bwS⟩)
      rintro ⟨v652, gb654⟩ w119 ⟨hS_, h0_, h1_, h2_, h3_, h4_, h5_, h6_, h7_, h8_, h9_, h10_, h11_, h12_, h13_, h14_, h15_, h16_, h17_, h18_⟩; have n0_ : Aside0 (Kd.R k46 46 w119 w.heap.size (fun k_ => some k_ ≠ (.slice Ao109 t646.length co109 : Value).ownBlock) (.slice Ao102 t641.length co102) t641) := ⟨h0_⟩
      have n1_ : Aside0 (Kd.R k46 46 w119 w.heap.size (fun k_ => some k_ ≠ (.slice Ao102 t641.length co102 : Value).ownBlock) (.slice Ao109 t646.length co109) t646) := ⟨h1_⟩
      have n2_ : Aside0 (Kd.R k67 67 w119 w.heap.size (fun k_ => k_ ≠ gb638) v652 t651) := ⟨h2_⟩
      have n3_ : Aside0 (w119.heap[gb637]? = some (.cells #[.slice A0_0 l0_0.length c0_0, .string a0_1] 31 (0, 0))) := ⟨h3_⟩
      have n4_ : Aside0 (w119.heap[gb638]? = some (.cells #[.string a1_0, .string a1_1] 67 (0, 0))) := ⟨h4_⟩
      have n5_ : Aside0 (w119.heap[gb645]? = some (.cells #[.slice Ao102 t641.length co102, .string t644] 25 (0, 0))) := ⟨h5_⟩
      have n6_ : Aside0 (w119.heap[gb650]? = some (.cells #[.slice Ao109 t646.length co109, .string t649] 25 (0, 0))) := ⟨h6_⟩
      have n7_ : Aside0 (w119.heap[gb654]? = some (.cells #[.slice none 0 0, .string (⟨#[]⟩ : ByteArray)] 31 (0, 0))) := ⟨h7_⟩
      have n8_ : Aside0 (w.heap.size ≤ gb654) := ⟨h8_⟩
      have n9_ : Aside0 (w.heap.size ≤ gb654) := ⟨h9_⟩
      have n10_ : Aside0 (gb637 ≠ gb654) := ⟨h10_⟩
      have n11_ : Aside0 (gb654 ≠ gb637) := ⟨h11_⟩
      have n12_ : Aside0 (gb638 ≠ gb654) := ⟨h12_⟩
      have n13_ : Aside0 (gb654 ≠ gb638) := ⟨h13_⟩
      have n14_ : Aside0 (gb645 ≠ gb654) := ⟨h14_⟩
      have n15_ : Aside0 (gb654 ≠ gb645) := ⟨h15_⟩
      have n16_ : Aside0 (gb650 ≠ gb654) := ⟨h16_⟩
      have n17_ : Aside0 (gb654 ≠ gb650) := ⟨h17_⟩
      have n18_ : Aside0 (Below w.heap.size w w119) := ⟨h18_⟩
      clear HO643 HO648 BK637 BK638 BK645 BK650 HB h0_ h1_ h2_ h3_ h4_ h5_ h6_ h7_ h8_ h9_ h10_ h11_ h12_ h13_ h14_ h15_ h16_ h17_ h18_; have HO643 := n0_; have HO648 := n1_; have HO653 := n2_; have BK637 := n3_; have BK638 := n4_; have BK645 := n5_; have BK650 := n6_; have BK654 := n7_; have GW654 := n8_; have GE654 := n9_; have NB637_654 := n10_; have NB654_637 := n11_; have NB638_654 := n12_; have NB654_638 := n13_; have NB645_654 := n14_; have NB654_645 := n15_; have NB650_654 := n16_; have NB654_650 := n17_; have HB := n18_; clear n0_ n1_ n2_ n3_ n4_ n5_ n6_ n7_ n8_ n9_ n10_ n11_ n12_ n13_ n14_ n15_ n16_ n17_ n18_; have hHeld : w119.cell? ⟨gb637, 0, none⟩ = some (.slice A0_0 l0_0.length c0_0) ∧ w119.cell? ⟨gb637, 1, none⟩ = some (.string a0_1) ∧ w119.cell? ⟨gb638, 0, none⟩ = some (.string a1_0) ∧ w119.cell? ⟨gb638, 1, none⟩ = some (.string a1_1) := hS_; obtain ⟨Ao120, co120, eo120⟩ := Kd.R_slice HO653.out
      (first | subst eo120 | (injection eo120 with f1_ f2_ f3_; have f4_ := f1_.symm; have f5_ := f3_.symm; clear f1_ f2_ f3_; subst f4_; subst f5_))
      refine norm_ (a' := ?_) ?_ ?_; rotate_left
      ·simp only [putAll, Act.put, List.setIfInBounds_toArray, List.set_cons_zero, List.set_cons_succ]; rfl
      refine one_ (i := 8) (N := none) (bitsL 9 511) rfl rfl (one_of HT_.out (by kernel_rfl)) (by decide) (fun K hK => ?_); have hs121 : w119.cell? ⟨gb654, 0, none⟩ = some (.slice none 0 0) := (blk_cell BK654.out 0).trans rfl; have hfs121 := blk_frozen BK654.out 0; have hns121_0 := NB637_654.out; have hns121_1 := NB638_654.out; have hns121_2 := NB645_654.out; have hns121_3 := NB650_654.out; have hms121_0 := NB654_637.out; have hms121_1 := NB654_638.out; have hms121_2 := NB654_645.out; have hms121_3 := NB654_650.out; have hs122 : w119.cell? ⟨gb654, 1, none⟩ = some (.string (⟨#[]⟩ : ByteArray)) := (blk_cell BK654.out 1).trans rfl; have hfs122 := blk_frozen BK654.out 1; have hns122_0 := NB637_654.out; have hns122_1 := NB638_654.out; have hns122_2 := NB645_654.out; have hns122_3 := NB650_654.out; have hms122_0 := NB654_637.out; have hms122_1 := NB654_638.out; have hms122_2 := NB654_645.out; have hms122_3 := NB654_650.out; refine skip_ (w1 := ?_) (by rfl) rfl ?_ ?_; rotate_left
      ·go_simp; rfl
      refine hK.out _ _ ⟨((cell_far (p := ⟨gb654, _, none⟩) NB637_654.out _).trans (((cell_far (p := ⟨gb654, _, none⟩) NB637_654.out _).trans (hHeld.1)))), ((cell_far (p := ⟨gb654, _, none⟩) NB637_654.out _).trans (((cell_far (p := ⟨gb654, _, none⟩) NB637_654.out _).trans (hHeld.2.1)))), ((cell_far (p := ⟨gb654, _, none⟩) NB638_654.out _).trans (((cell_far (p := ⟨gb654, _, none⟩) NB638_654.out _).trans (hHeld.2.2.1)))), ((cell_far (p := ⟨gb654, _, none⟩) NB638_654.out _).trans (((cell_far (p := ⟨gb654, _, none⟩) NB638_654.out _).trans (hHeld.2.2.2))))⟩ (fun hHeld => ?_); clear hK K; refine done_ (done_of HT_.out (by kernel_rfl)) ?_; have hnb123 := NB650_654.out; have hnc123 := NB654_650.out; have hcz124_0 : w119.cell? ⟨gb650, 0, none⟩ = some (.slice Ao109 t646.length co109) := (blk_cell BK650.out 0).trans rfl; have hcz124_1 : w119.cell? ⟨gb650, 1, none⟩ = some (.string t649) := (blk_cell BK650.out 1).trans rfl; have hfz124_0 := blk_frozen BK650.out 0; have hfz124_1 := blk_frozen BK650.out 1; have hnb125 := NB654_637.out; have hnc125 := NB637_654.out; have hnb126 := NB654_638.out; have hnc126 := NB638_654.out; have hnb127 := NB654_645.out; have hnc127 := NB645_654.out; have hcz128_0 : w119.cell? ⟨gb654, 0, none⟩ = some (.slice none 0 0) := (blk_cell BK654.out 0).trans rfl; have hcz128_1 : w119.cell? ⟨gb654, 1, none⟩ = some (.string (⟨#[]⟩ : ByteArray)) := (blk_cell BK654.out 1).trans rfl; have hfz128_0 := blk_frozen BK654.out 0; have hfz128_1 := blk_frozen BK654.out 1
      as_aux_lemma =>
       try go_wp2_with (first | ((with_reducible refine gate_callee (f := 12) rfl ?_); refine goesL_ (some 42) rfl rfl Tryz.func12 (by kernel_rfl) rfl #[.agg #[.slice Ao109 t646.length co109, .string t649], .agg #[.slice Ao120 t651.length co120, .string a0_1]] rfl am ?_; (with_reducible refine (bulletinlaw16_Same.calls kj2 _ _ t646 t649 _ _ t651 a0_1 false _ ?side1 ?side2 ?side3 ?side4 A26.out).mono ?_); (case side1 => refine (Kd.R_reads' (e := 46) (base := w.heap.size) (ok := fun k_ => some k_ ≠ (.slice Ao102 t641.length co102 : Value).ownBlock) (n := t646.length) (c := co109) ?_).2.2; exact (by (with_reducible repeat (first | apply Kd.R_alloc | apply Kd.R_drewN | apply Kd.R_drew)); exact (Kd.R_mono (Kd.R_far (p := ⟨gb654, 1, none⟩) (Kd.R_far (p := ⟨gb654, 0, none⟩) (Kd.R_types HO648.out BK654.out (by decide)) (fun _ hk => hk.2) (.slice Ao120 t651.length co120)) (fun _ hk => hk.2) (.string a0_1)) (fun _ h_ => h_.1)))); (case side2 => exact (Kd.R_reads' HO648.out).2.1); (case side3 => refine (Kd.R_reads' (e := 67) (base := w.heap.size) (ok := fun k_ => k_ ≠ gb638) (n := t651.length) (c := co120) ?_).2.2; exact (by (with_reducible repeat (first | apply Kd.R_alloc | apply Kd.R_drewN | apply Kd.R_drew)); exact (Kd.R_mono (Kd.R_far (p := ⟨gb654, 1, none⟩) (Kd.R_far (p := ⟨gb654, 0, none⟩) (Kd.R_types HO653.out BK654.out (by decide)) (fun _ hk => hk.2) (.slice Ao120 t651.length co120)) (fun _ hk => hk.2) (.string a0_1)) (fun _ h_ => h_.1)))); (case side4 => exact (Kd.R_reads' HO653.out).2.1); rintro e w129 ⟨rfl, hb⟩; refine ⟨_, rfl, ?_⟩; have n0_ := Aside0.mk (Kd.R_below (by (with_reducible repeat (first | apply Kd.R_alloc | apply Kd.R_drewN | apply Kd.R_drew)); exact (Kd.R_mono (Kd.R_far (p := ⟨gb654, 1, none⟩) (Kd.R_far (p := ⟨gb654, 0, none⟩) (Kd.R_types HO643.out BK654.out (by decide)) (fun _ hk => hk.2) (.slice Ao120 t651.length co120)) (fun _ hk => hk.2) (.string a0_1)) (fun _ h_ => h_.1))) hb); have n1_ := Aside0.mk (Kd.R_below (by (with_reducible repeat (first | apply Kd.R_alloc | apply Kd.R_drewN | apply Kd.R_drew)); exact (Kd.R_mono (Kd.R_far (p := ⟨gb654, 1, none⟩) (Kd.R_far (p := ⟨gb654, 0, none⟩) (Kd.R_types HO648.out BK654.out (by decide)) (fun _ hk => hk.2) (.slice Ao120 t651.length co120)) (fun _ hk => hk.2) (.string a0_1)) (fun _ h_ => h_.1))) hb); have n2_ := Aside0.mk (Kd.R_below (by (with_reducible repeat (first | apply Kd.R_alloc | apply Kd.R_drewN | apply Kd.R_drew)); exact (Kd.R_mono (Kd.R_far (p := ⟨gb654, 1, none⟩) (Kd.R_far (p := ⟨gb654, 0, none⟩) (Kd.R_types HO653.out BK654.out (by decide)) (fun _ hk => hk.2) (.slice Ao120 t651.length co120)) (fun _ hk => hk.2) (.string a0_1)) (fun _ h_ => h_.1))) hb); have n3_ := Aside0.mk (blk_below (g := gb637) (o := .cells #[.slice A0_0 l0_0.length c0_0, .string a0_1] 31 (0, 0)) (by (with_reducible repeat (first | refine blk_drewN ?_ _ | refine blk_drew ?_ | refine blk_alloc ?_ _)); refine blk_far ?_ NB637_654.out _; (with_reducible repeat (first | refine blk_drewN ?_ _ | refine blk_drew ?_ | refine blk_alloc ?_ _)); refine blk_far ?_ NB637_654.out _; (with_reducible repeat (first | refine blk_drewN ?_ _ | refine blk_drew ?_ | refine blk_alloc ?_ _)); exact BK637.out) hb); have n4_ := Aside0.mk (blk_below (g := gb638) (o := .cells #[.string a1_0, .string a1_1] 67 (0, 0)) (by (with_reducible repeat (first | refine blk_drewN ?_ _ | refine blk_drew ?_ | refine blk_alloc ?_ _)); refine blk_far ?_ NB638_654.out _; (with_reducible repeat (first | refine blk_drewN ?_ _ | refine blk_drew ?_ | refine blk_alloc ?_ _)); refine blk_far ?_ NB638_654.out _; (with_reducible repeat (first | refine blk_drewN ?_ _ | refine blk_drew ?_ | refine blk_alloc ?_ _)); exact BK638.out) hb); have n5_ := Aside0.mk (blk_below (g := gb645) (o := .cells #[.slice Ao102 t641.length co102, .string t644] 25 (0, 0)) (by (with_reducible repeat (first | refine blk_drewN ?_ _ | refine blk_drew ?_ | refine blk_alloc ?_ _)); refine blk_far ?_ NB645_654.out _; (with_reducible repeat (first | refine blk_drewN ?_ _ | refine blk_drew ?_ | refine blk_alloc ?_ _)); refine blk_far ?_ NB645_654.out _; (with_reducible repeat (first | refine blk_drewN ?_ _ | refine blk_drew ?_ | refine blk_alloc ?_ _)); exact BK645.out) hb); have n6_ := Aside0.mk (blk_below (g := gb650) (o := .cells #[.slice Ao109 t646.length co109, .string t649] 25 (0, 0)) (by (with_reducible repeat (first | refine blk_drewN ?_ _ | refine blk_drew ?_ | refine blk_alloc ?_ _)); refine blk_far ?_ NB650_654.out _; (with_reducible repeat (first | refine blk_drewN ?_ _ | refine blk_drew ?_ | refine blk_alloc ?_ _)); refine blk_far ?_ NB650_654.out _; (with_reducible repeat (first | refine blk_drewN ?_ _ | refine blk_drew ?_ | refine blk_alloc ?_ _)); exact BK650.out) hb); have n7_ := Aside0.mk (blk_below (g := gb654) (o := .cells #[.slice Ao120 t651.length co120, .string a0_1] 31 (0, 0)) (by (with_reducible repeat (first | refine blk_drewN ?_ _ | refine blk_drew ?_ | refine blk_alloc ?_ _)); refine blk_put (cs := #[.slice Ao120 t651.length co120, .string (⟨#[]⟩ : ByteArray)]) ?_ 1 _ rfl; (with_reducible repeat (first | refine blk_drewN ?_ _ | refine blk_drew ?_ | refine blk_alloc ?_ _)); exact blk_put (cs := #[.slice none 0 0, .string (⟨#[]⟩ : ByteArray)]) bk 0 _ rfl) hb); have n8_ := Aside0.mk (below_step bwS hb); clear HO643; clear HO648; clear HO653; clear BK637; clear BK638; clear BK645; clear BK650; clear BK654; clear HB; have HO643 := n0_; have HO648 := n1_; have HO653 := n2_; have BK637 := n3_; have BK638 := n4_; have BK645 := n5_; have BK650 := n6_; have BK654 := n7_; have HB := n8_; clear n0_ n1_ n2_ n3_ n4_ n5_ n6_ n7_ n8_; (try clear hb); (try clear hb2); (try clear hk); (try clear hi)))
       go_ret
       exact ⟨ew, bwS⟩

end Go.Proofs.YtbjbpgmjijeppaaGreatDoor.Fn
namespace Go.Proofs.YtbjbpgmjijeppaaGreatDoor.Fn
open Go.RowKit Go.Proofs.YtbjbpgmjijeppaaGreatDoorW.PrintWords Go.Proofs.YtbjbpgmjijeppaaGreatDoorW.PrintLast Go.Proofs.YtbjbpgmjijeppaaGreatDoorW.PrintMore
attribute [local go_sem] max2_int min2_int max_two min_two max_three min_three max_four min_four
set_option linter.unusedVariables false
set_option linter.unusedSimpArgs false

end Go.Proofs.YtbjbpgmjijeppaaGreatDoor.Fn
namespace Go.Proofs.YtbjbpgmjijeppaaGreatDoor.Fn
open Go.RowKit Go.Proofs.YtbjbpgmjijeppaaGreatDoorW.PrintWords Go.Proofs.YtbjbpgmjijeppaaGreatDoorW.PrintLast Go.Proofs.YtbjbpgmjijeppaaGreatDoorW.PrintMore
attribute [local go_sem] max2_int min2_int max_two min_two max_three min_three max_four min_four
set_option linter.unusedVariables false
set_option linter.unusedSimpArgs false

end Go.Proofs.YtbjbpgmjijeppaaGreatDoor.Fn
namespace Go.Proofs.YtbjbpgmjijeppaaGreatDoor.Fn
open Go.RowKit Go.Proofs.YtbjbpgmjijeppaaGreatDoorW.PrintWords Go.Proofs.YtbjbpgmjijeppaaGreatDoorW.PrintLast Go.Proofs.YtbjbpgmjijeppaaGreatDoorW.PrintMore
attribute [local go_sem] max2_int min2_int max_two min_two max_three min_three max_four min_four
set_option linter.unusedVariables false
set_option linter.unusedSimpArgs false

end Go.Proofs.YtbjbpgmjijeppaaGreatDoor.Fn
namespace Go.Proofs.YtbjbpgmjijeppaaGreatDoor.Fn
open Go.RowKit Go.Proofs.YtbjbpgmjijeppaaGreatDoorW.PrintWords Go.Proofs.YtbjbpgmjijeppaaGreatDoorW.PrintLast Go.Proofs.YtbjbpgmjijeppaaGreatDoorW.PrintMore
attribute [local go_sem] max2_int min2_int max_two min_two max_three min_three max_four min_four
set_option linter.unusedVariables false
set_option linter.unusedSimpArgs false

end Go.Proofs.YtbjbpgmjijeppaaGreatDoor.Fn
set_option linter.unusedVariables false
set_option linter.unusedSimpArgs false
namespace Go.Proofs.YtbjbpgmjijeppaaGreatDoor.Pl
open Go.RowKit Go.Proofs.YtbjbpgmjijeppaaGreatDoorW.PrintWords Go.Proofs.YtbjbpgmjijeppaaGreatDoor.Fn

/-! Layer 15: fields put and taken: the laws' words over lists -/
abbrev FQ := S67
abbrev FP := S46
def toF (x : FQ) : FP := ⟨x.f0, x.f1⟩
theorem rdQ (l : List FQ) (i : Nat) (h : i < l.length) : rd_T67 l (i : Int) = l[i] := by
 unfold rd_T67
 rw [Int.toNat_natCast, List.getD_eq_getElem?_getD, List.getElem?_eq_getElem h]; rfl
theorem rdP (l : List FP) (i : Nat) (h : i < l.length) : rd_T46 l (i : Int) = l[i] := by
 unfold rd_T46
 rw [Int.toNat_natCast, List.getD_eq_getElem?_getD, List.getElem?_eq_getElem h]; rfl
theorem wrapS (i : Nat) (h : i < 1000000000) : wrap64 ((i : Int) + 1) = ((i + 1 : Nat) : Int) := by
 rw [wrap_id (by omega) (by omega)]; omega
def okQ (f : FQ) : Bool := decide (f.f0.size ≤ 200) && decide (f.f1.size ≤ 3000)
def lightQ (l : List FQ) : Bool := (l.take 30).all okQ && decide (l.length ≤ 30)
theorem lightQ_rounds (l : List FQ) : ∀ (n i k : Nat), i + n = 31 → i ≤ 30 → 2 * n + 3 < k → i ≤ l.length → bulletinlaw15_Light.l0 k l (i : Int) = some (((l.take 30).drop i).all okQ && decide (l.length ≤ 30)) := by
 intro n
 induction n with
 | zero => intro i k h hi; omega
 | succ n ih =>
  intro i k h hi hk hil
  obtain ⟨k, rfl⟩ : ∃ q, k = q + 2 := ⟨k - 2, by omega⟩
  have hd : decide ((l.length : Int) ≤ 30) = decide (l.length ≤ 30) := by congr 1; exact propext ⟨fun h => by omega, fun h => by omega⟩
  rw [bulletinlaw15_Light.l0]
  by_cases h1 : i < l.length
  ·rw [if_pos (by omega)]
   by_cases h2 : i < 30
   ·rw [decide_eq_true (show ((i : Int) < 30) by omega), bulletinlaw15_Light.j1, if_pos rfl, if_pos (by omega), if_pos (by omega), rdQ l i h1]
    have hdr : (l.take 30).drop i = l[i] :: (l.take 30).drop (i + 1) := by
     rw [List.drop_eq_getElem_cons (by rw [List.length_take]; omega), List.getElem_take]
    rw [hdr, List.all_cons]
    have hok : okQ l[i] = (decide ((l[i]).f0.size ≤ 200) && decide ((l[i]).f1.size ≤ 3000)) := rfl
    by_cases a : (l[i]).f0.size > 200
    ·rw [if_pos (by omega), hok, decide_eq_false (by omega)]; rfl
    ·rw [if_neg (by omega)]
     by_cases b : (l[i]).f1.size > 3000
     ·rw [if_pos (by omega), hok, decide_eq_false (show ¬ (l[i]).f1.size ≤ 3000 by omega)]; simp
     ·rw [if_neg (by omega), wrapS i (by omega), ih (i + 1) k (by omega) (by omega) (by omega) (by omega), hok, decide_eq_true (show (l[i]).f0.size ≤ 200 by omega), decide_eq_true (show (l[i]).f1.size ≤ 3000 by omega)]
      rfl
   ·rw [decide_eq_false (show ¬ ((i : Int) < 30) by omega), bulletinlaw15_Light.j1, if_neg (by decide), hd, List.drop_of_length_le (by rw [List.length_take]; omega)]
    rfl
  ·rw [if_neg (by omega), bulletinlaw15_Light.j1, if_neg (by decide), hd, List.drop_of_length_le (by rw [List.length_take]; omega)]
   rfl
theorem lightQ_is (l : List FQ) (k : Nat) (hk : 100 < k) : bulletinlaw15_Light.f k l = some (lightQ l) := by
 unfold bulletinlaw15_Light.f lightQ
 have := lightQ_rounds l 31 0 k (by omega) (by omega) (by omega) (by omega)
 rw [List.drop_zero] at this
 exact this
theorem lightQ_some {l : List FQ} (h : lightQ l = true) : l.length ≤ 30 ∧ ∀ f ∈ l, f.f0.size ≤ 200 ∧ f.f1.size ≤ 3000 := by
 unfold lightQ at h
 rw [Bool.and_eq_true, decide_eq_true_iff] at h
 refine ⟨h.2, fun f hf => ?_⟩
 rw [List.take_of_length_le h.2] at h
 have := List.all_eq_true.1 h.1 f hf
 unfold okQ at this
 rw [Bool.and_eq_true, decide_eq_true_iff, decide_eq_true_iff] at this
 exact this
theorem toQ_rounds (l : List FQ) (hl : l.length ≤ 1000000) : ∀ (n i k : Nat), l.length = i + n → n < k → bulletinlaw15_To.l0 k l ((l.take i).map toF) (i : Int) = some (l.map toF) := by
 intro n
 induction n with
 | zero =>
  intro i k h hk
  obtain ⟨k, rfl⟩ : ∃ q, k = q + 1 := ⟨k - 1, by omega⟩
  rw [bulletinlaw15_To.l0, if_neg (by omega), List.take_of_length_le (by omega)]
 | succ n ih =>
  intro i k h hk
  obtain ⟨k, rfl⟩ : ∃ q, k = q + 1 := ⟨k - 1, by omega⟩
  rw [bulletinlaw15_To.l0, if_pos (by omega), if_pos (by omega), if_pos (by rw [List.length_map, List.length_take]; omega), rdQ l i (by omega), wrapS i (by omega)]
  have := ih (i + 1) k (by omega) (by omega)
  rw [List.take_succ_eq_append_getElem (by omega), List.map_append] at this
  exact this
theorem toQ_is (l : List FQ) (hl : l.length ≤ 1000000) (k : Nat) (hk : l.length < k) : bulletinlaw15_To.f k l = some (l.map toF) := by
 unfold bulletinlaw15_To.f
 exact toQ_rounds l hl l.length 0 k (by omega) (by omega)
theorem put_is (l : List FP) (f0 f1 : ByteArray) (hl : l.length ≤ 1000000) (hn : f0.size ≤ 1000000) (hz : ∀ x ∈ l, x.f0.size ≤ 1000000) : head_Put.f l f0 f1 = some (putL l f0 f1) := by
 unfold head_Put.f
 rw [if_pos (by omega), if_pos (by omega), if_pos (List.all_eq_true.2 fun x hx => decide_eq_true (by have := hz x hx; omega))]
theorem putL_length (l : List FP) (f0 f1 : ByteArray) : (putL l f0 f1).length ≤ l.length + 1 := by
 unfold putL withoutL
 split
 ·have := List.length_filter_le (fun x => !askN f0 x) (l.drop (firstI (askN f0) l))
  rw [List.length_append, List.length_append, List.length_take, List.length_singleton]
  rw [List.length_drop] at this
  omega
 ·rw [List.length_append]; simp
theorem refsame_is (a b : ByteArray) (ha : a.size ≤ 1000000) (hb : b.size ≤ 1000000) (k : Nat) (hk : 1000000 < k) : bulletinref15_Same.f k a b = some (sameN a b) := by
 unfold bulletinref15_Same.f
 rw [ref_fold a (by omega) k (by omega), Option.bind_some, ref_fold b (by omega) k (by omega), Option.bind_some]
 rfl
end Go.Proofs.YtbjbpgmjijeppaaGreatDoor.Pl
set_option linter.unusedVariables false
set_option linter.unusedSimpArgs false
namespace Go.Proofs.YtbjbpgmjijeppaaGreatDoor.Pl
open Go.RowKit Go.Proofs.YtbjbpgmjijeppaaGreatDoorW.PrintWords Go.Proofs.YtbjbpgmjijeppaaGreatDoor.Fn

def askQ (name : ByteArray) (x : FQ) : Bool := sameN x.f0 name
theorem drop_at {α : Type} {l : List α} {i : Nat} (h : i < l.length) : l.drop i = l[i] :: l.drop (i + 1) := List.drop_eq_getElem_cons h
theorem sameQ_rounds (q : List FQ) (hl : q.length ≤ 1000000) : ∀ (n i k : Nat), q.length = i + n → n < k → bulletinlaw15_Same.l0 k (q.map toF) q true (i : Int) = some true := by
 have hlen : (q.map toF).length = q.length := List.length_map ..
 intro n
 induction n with
 | zero =>
  intro i k h hk
  obtain ⟨k, rfl⟩ : ∃ q, k = q + 1 := ⟨k - 1, by omega⟩
  rw [bulletinlaw15_Same.l0, if_pos rfl, if_neg (by omega)]
 | succ n ih =>
  intro i k h hk
  obtain ⟨k, rfl⟩ : ∃ q, k = q + 1 := ⟨k - 1, by omega⟩
  have hi : i < q.length := by omega
  have e : (q.map toF)[i]'(by omega) = toF q[i] := List.getElem_map ..
  rw [bulletinlaw15_Same.l0, if_pos rfl, if_pos (by omega), if_pos (by omega), if_pos (by omega), rdQ q i hi, rdP _ i (by omega), e, if_pos (show (toF q[i]).f0.toList = q[i].f0.toList from rfl), wrapS i (by omega), show (toF q[i]).f1 = q[i].f1 from rfl, beq_self_eq_true]
  exact ih (i + 1) k (by omega) (by omega)
theorem sameQ_is (q : List FQ) (hl : q.length ≤ 1000000) (k : Nat) (hk : q.length < k) : bulletinlaw15_Same.f k (q.map toF) q = some true := by
 unfold bulletinlaw15_Same.f
 rw [List.length_map, beq_self_eq_true]
 exact sameQ_rounds q hl q.length 0 k (by omega) (by omega)
def putR {α : Type} (p : α → Bool) (f : α) : List α → List α
 | [] => [f]
 | x :: l => if p x = true then f :: l.filter (fun x => !p x) else x :: putR p f l
theorem putR_is (f0 f1 : ByteArray) : ∀ l : List FP, putL l f0 f1 = putR (askN f0) ⟨f0, f1⟩ l
 | [] => rfl
 | x :: l => by
  have ih := putR_is f0 f1 l
  rw [putR]
  cases hx : askN f0 x with
  | true =>
   rw [if_pos rfl]
   unfold putL
   rw [show firstI (askN f0) (x :: l) = 0 by rw [firstI, if_pos hx], if_pos (by simp)]
   show ([] ++ [_]) ++ withoutL (x :: l) f0 = _
   unfold withoutL
   rw [List.filter_cons_of_neg (by rw [hx]; decide)]
   rfl
  | false =>
   rw [if_neg (by decide), ← ih]
   unfold putL
   rw [show firstI (askN f0) (x :: l) = firstI (askN f0) l + 1 by rw [firstI, if_neg (by rw [hx]; decide)], List.length_cons]
   by_cases h : firstI (askN f0) l < l.length
   ·rw [if_pos h, if_pos (by omega), List.take_succ_cons, List.drop_succ_cons]; rfl
   ·rw [if_neg h, if_neg (by omega)]; rfl
theorem putR_map (f0 f1 : ByteArray) : ∀ q : List FQ, (putR (askQ f0) ⟨f0, f1⟩ q).map toF = putR (askN f0) ⟨f0, f1⟩ (q.map toF)
 | [] => rfl
 | x :: q => by
  have ih := putR_map f0 f1 q
  rw [putR, List.map_cons, putR]
  have e : askN f0 (toF x) = askQ f0 x := rfl
  rw [e]
  cases askQ f0 x with
  | true =>
   rw [if_pos rfl, if_pos rfl, List.map_cons, List.filter_map]
   rfl
  | false => rw [if_neg (by decide), if_neg (by decide), List.map_cons, ih]
theorem refput_rounds (q : List FQ) (f0 f1 : ByteArray) (hl : q.length ≤ 1000) (hn : f0.size ≤ 1000000) (hz : ∀ x ∈ q, x.f0.size ≤ 1000000) : ∀ (n i k : Nat) (acc : List FQ) (done : Bool), q.length = i + n → 1000000 + 2 * n < k → acc.length ≤ i + 1 →
  bulletinref15_Put.l0 k q acc done (i : Int) f0 f1 = some (acc ++ (if done = true then (q.drop i).filter (fun x => !askQ f0 x) else putR (askQ f0) ⟨f0, f1⟩ (q.drop i))) := by
 intro n
 induction n with
 | zero =>
  intro i k acc done h hk ha
  obtain ⟨k, rfl⟩ : ∃ q, k = q + 1 := ⟨k - 1, by omega⟩
  rw [bulletinref15_Put.l0, if_neg (by omega), List.drop_of_length_le (by omega)]
  cases done with
  | true => rw [if_pos rfl, if_pos rfl, List.filter_nil, List.append_nil]
  | false => rw [if_neg (show ¬ (false = true) by decide), if_neg (show ¬ (false = true) by decide), if_pos (by omega)]; rfl
 | succ n ih =>
  intro i k acc done h hk ha
  obtain ⟨k, rfl⟩ : ∃ q, k = q + 2 := ⟨k - 2, by omega⟩
  have hi : i < q.length := by omega
  have e : ∀ b c, bulletinref15_Put.j1 (k + 1) q acc done (i : Int) b c f0 f1 = bulletinref15_Put.j1 (k + 1) q acc done (i : Int) b c f0 f1 := fun _ _ => rfl
  rw [bulletinref15_Put.l0, if_pos (by omega), if_pos (by omega), rdQ q i hi, refsame_is _ _ (hz _ (List.getElem_mem hi)) hn _ (by omega), Option.bind_some, drop_at hi]
  have ha2 : askQ f0 q[i] = sameN q[i].f0 f0 := rfl
  have hw := wrapS i (by omega)
  cases hs : sameN q[i].f0 f0 with
  | true =>
   rw [if_pos rfl, bulletinref15_Put.j1]
   cases done with
   | true => rw [if_neg (by decide), if_pos rfl, hw, ih (i + 1) k _ true (by omega) (by omega) (by omega), if_pos rfl, if_pos rfl, List.filter_cons_of_neg (by rw [ha2, hs]; decide)]
   | false =>
    rw [if_pos (by decide), if_pos (by omega), Option.bind_some, if_pos rfl, hw, ih (i + 1) k _ true (by omega) (by omega) (by rw [List.length_append]; simp; omega), if_pos rfl, if_neg (by decide), putR, if_pos (by rw [ha2, hs]), List.append_assoc]
    rfl
  | false =>
   rw [if_neg (show ¬ (false = true) by decide), bulletinref15_Put.j1, if_neg (show ¬ (false = true) by decide), if_neg (show ¬ (false = true) by decide), if_pos (by omega), if_pos (by omega), if_pos (by omega), rdQ q i hi, hw, ih (i + 1) k _ done (by omega) (by omega) (by rw [List.length_append]; simp; omega), List.append_assoc]
   cases done with
   | true => rw [if_pos rfl, if_pos rfl, List.filter_cons_of_pos (by rw [ha2, hs]; rfl)]; rfl
   | false => rw [if_neg (show ¬ (false = true) by decide), if_neg (show ¬ (false = true) by decide), putR, if_neg (by rw [ha2, hs]; decide)]; rfl
theorem refput_is (q : List FQ) (f0 f1 : ByteArray) (hl : q.length ≤ 1000) (hn : f0.size ≤ 1000000) (hz : ∀ x ∈ q, x.f0.size ≤ 1000000) (k : Nat) (hk : 1003000 < k) : ∃ r, bulletinref15_Put.f k q f0 f1 = some r ∧ r.map toF = putL (q.map toF) f0 f1 := by
 refine ⟨putR (askQ f0) ⟨f0, f1⟩ q, ?_, ?_⟩
 ·unfold bulletinref15_Put.f
  have := refput_rounds q f0 f1 hl hn hz q.length 0 k [] false (by omega) (by omega) (by simp)
  rw [List.drop_zero, List.nil_append, if_neg (by decide)] at this
  exact this
 ·rw [putR_map, putR_is]
end Go.Proofs.YtbjbpgmjijeppaaGreatDoor.Pl
set_option linter.unusedVariables false
set_option linter.unusedSimpArgs false
namespace Go.Proofs.YtbjbpgmjijeppaaGreatDoor.Pl
open Go.RowKit Go.Proofs.YtbjbpgmjijeppaaGreatDoorW.PrintWords Go.Proofs.YtbjbpgmjijeppaaGreatDoor.Fn

/-! Layer 14: so many addresses. -/
end Go.Proofs.YtbjbpgmjijeppaaGreatDoor.Pl
set_option linter.unusedVariables false
set_option linter.unusedSimpArgs false
namespace Go.Proofs.YtbjbpgmjijeppaaGreatDoor.Pl
open Go.RowKit Go.Proofs.YtbjbpgmjijeppaaGreatDoorW.PrintWords Go.Proofs.YtbjbpgmjijeppaaGreatDoor.Fn

/-! Layer 14: what the program's functions compute -/
end Go.Proofs.YtbjbpgmjijeppaaGreatDoor.Pl
set_option linter.unusedVariables false
namespace Go.Proofs.YtbjbpgmjijeppaaGreatDoor.Pl
open Go.RowKit Go.Proofs.YtbjbpgmjijeppaaGreatDoorW.PrintWords Go.Proofs.YtbjbpgmjijeppaaGreatDoor.Fn
set_option maxRecDepth 100000 in
theorem works16 (k : Nat) (hk : 200 ≤ k) : bulletinlaw16_works.f k = some true := mono_up (fun k => bulletinlaw16_works.mono k) (show bulletinlaw16_works.f 200 = some true by decide +kernel) k hk
end Go.Proofs.YtbjbpgmjijeppaaGreatDoor.Pl
set_option linter.unusedVariables false
set_option linter.unusedSimpArgs false
namespace Go.Proofs.YtbjbpgmjijeppaaGreatDoor.Pl
open Go.RowKit Go.Proofs.YtbjbpgmjijeppaaGreatDoorW.PrintWords Go.Proofs.YtbjbpgmjijeppaaGreatDoor.Fn

theorem light16Q_is (l : List FQ) (b : ByteArray) (k : Nat) (hk : 100 < k) : bulletinlaw16_Light.f k l b = some (lightQ l && decide ((b.size : Int) ≤ 3000)) := by
 unfold bulletinlaw16_Light.f
 rw [lightQ_is l k hk, Option.bind_some]
 cases lightQ l with
 | true => rw [if_pos rfl]; rfl
 | false => rw [if_neg (by decide)]; rfl
theorem same16Q_is (q : List FQ) (hl : q.length ≤ 1000000) (b : ByteArray) (k : Nat) (hk : q.length < k) : bulletinlaw16_Same.f k (q.map toF) b q b = some true := by
 unfold bulletinlaw16_Same.f
 rw [sameQ_is q hl k hk, Option.bind_some, if_pos rfl]
 simp
theorem mwith_l0 (q : List FQ) (hq : q.length ≤ 30) (b wb : ByteArray) : ∀ (n i k : Nat) (x : List FP), x.length = i + n → x.length ≤ 100 → n + 1000 < k →
  bulletinlaw16_MsgWith.l0 k (x.length : Int) (i : Int) q b (q.map toF) b x wb = some true := by
 intro n
 induction n with
 | zero =>
  intro i k x hx hl hk
  obtain ⟨k, rfl⟩ : ∃ q, k = q + 1 := ⟨k - 1, by omega⟩
  rw [bulletinlaw16_MsgWith.l0, if_neg (by omega), same16Q_is q (by omega) b k (by omega), Option.bind_some, if_pos rfl, works16 k (by omega), Option.bind_some]
 | succ n ih =>
  intro i k x hx hl hk
  obtain ⟨k, rfl⟩ : ∃ q, k = q + 1 := ⟨k - 1, by omega⟩
  rw [bulletinlaw16_MsgWith.l0, if_pos (by omega), if_pos (by omega), if_pos (by omega), wrap_succ i (by omega)]
  have := ih (i + 1) k (x.set (i : Int).toNat (⟨(⟨#[115, 112, 111, 105, 108, 116]⟩ : ByteArray), (⟨#[]⟩ : ByteArray)⟩ : FP)) (by rw [List.length_set]; omega) (by rw [List.length_set]; exact hl) (by omega)
  rw [List.length_set] at this
  exact this
theorem MsgWith (q : List FQ) (b f0 f1 : ByteArray) : ∃ k, bulletinlaw16_MsgWith.f k q b f0 f1 = some true := by
 refine ⟨1100000, ?_⟩
 generalize hK : (1100000 : Nat) = K
 obtain ⟨K, rfl⟩ : ∃ j, K = j + 1 := ⟨K - 1, by omega⟩
 have hbad : bulletinlaw16_MsgWith.j0 (K + 1) true q b f0 f1 = some true := by rw [bulletinlaw16_MsgWith.j0, if_pos rfl, works16 K (by omega), Option.bind_some]
 unfold bulletinlaw16_MsgWith.f
 rw [light16Q_is q b (K + 1) (by omega), Option.bind_some]
 cases hL : (lightQ q && decide ((b.size : Int) ≤ 3000)) with
 | false => rw [if_neg (by decide)]; exact hbad
 | true =>
  rw [Bool.and_eq_true, decide_eq_true_eq] at hL
  obtain ⟨hl, hf⟩ := lightQ_some hL.1
  rw [if_pos rfl]
  by_cases h1 : (f0.size : Int) > 200
  ·rw [if_pos h1]; exact hbad
  rw [if_neg h1]
  by_cases h2 : (f1.size : Int) > 3000
  ·rw [show decide ((f1.size : Int) > 3000) = true from decide_eq_true h2]; exact hbad
  obtain ⟨r, hr1, hr2⟩ := refput_is q f0 f1 (by omega) (by omega) (fun x hx => by have := hf x hx; omega) K (by omega)
  have hp := put_is (q.map toF) f0 f1 (by rw [List.length_map]; omega) (by omega) (fun x hx => by
   obtain ⟨y, hy, rfl⟩ := List.mem_map.1 hx
   have := hf y hy
   show y.f0.size ≤ 1000000
   omega)
  have hpl := putL_length (q.map toF) f0 f1
  rw [← hr2, List.length_map, List.length_map] at hpl
  rw [show decide ((f1.size : Int) > 3000) = false from decide_eq_false h2, bulletinlaw16_MsgWith.j0, if_neg (by decide)]
  unfold bulletinlaw16_To.f msg_Message_With.f
  rw [toQ_is q (by omega) K (by omega), Option.bind_some, Option.bind_some]
  simp only []
  rw [hp, Option.bind_some, Option.bind_some, hr1, Option.bind_some, ← hr2]
  simp only []
  rw [same16Q_is r (by omega) b K (by omega), Option.bind_some, if_pos rfl]
  exact mwith_l0 q hl b b (r.map toF).length 0 K (r.map toF) (by simp) (by rw [List.length_map]; omega) (by rw [List.length_map]; omega)
end Go.Proofs.YtbjbpgmjijeppaaGreatDoor.Pl
set_option linter.unusedVariables false
namespace Go.Proofs.YtbjbpgmjijeppaaGreatDoor.Fn
open Go.RowKit Go.ChangeShapes Go.WideShapes Go.Proofs.YtbjbpgmjijeppaaGreatDoorW.PrintWords

/-! A slice of fields (two texts each) that came in. -/
def strOf : Value → ByteArray | .string s => s | _ => ByteArray.empty
theorem open_fields {H : Type} {enc : TypeId × Value → H} {w : World} {base : Nat} {spare : Nat → Bool} {held : Bool} {fuel : Nat} {v : Value} {x : DataW H × List MemPlace}
  (h : DataW.trod enc Tryz.prog w base spare held fuel 29 [v] = some x) :
  ∃ (A : Option Addr) (c : Nat) (l : List (S67)), v = .slice A l.length c ∧ l.length ≤ c ∧ c ≤ maxLen ∧ Kd.C k67 w A l.length l := by
 rcases Go.Deep.open_slice_pairs Tryz.underlying29 Tryz.underlying67 (by kernel_rfl) rfl rfl (by kernel_rfl) (by kernel_rfl) h with ⟨h0, _⟩ | ⟨a, len, cap, m, n, V0, V1, D0, D1, P0, P1, hv, hb, hl, hm, hmm, _, hx⟩
 ·refine ⟨none, 0, [], ?_, Nat.le_refl _, Nat.zero_le _, ?_⟩
  ·simpa using h0
  ·exact ⟨rfl, by simp, fun h => absurd h (by simp)⟩
 ·have hlm : len ≤ m := by rw [hmm]; split <;> omega
  have s0 : ∀ i, i < len → V0 i = .string (strOf (V0 i)) := fun i hi => by
   obtain ⟨_, _, g, _⟩ := hx i (by omega)
   obtain ⟨s, e, _⟩ := DataW.trod_string Tryz.underlying9 g
   simp only [List.cons.injEq, and_true] at e
   rw [e]; rfl
  have s1 : ∀ i, i < len → V1 i = .string (strOf (V1 i)) := fun i hi => by
   obtain ⟨_, _, _, g⟩ := hx i (by omega)
   obtain ⟨s, e, _⟩ := DataW.trod_string Tryz.underlying9 g
   simp only [List.cons.injEq, and_true] at e
   rw [e]; rfl
  have hlen : ((List.range len).map fun i => (⟨strOf (V0 i), strOf (V1 i)⟩ : S67)).length = len := by simp
  refine ⟨some a, cap, (List.range len).map fun i => ⟨strOf (V0 i), strOf (V1 i)⟩, ?_, by rw [hlen]; exact hl, hm, ?_⟩
  ·rw [hlen]; simpa using hv
  ·rw [hlen]
   refine ⟨hlen, by unfold maxLen at hm; omega, fun h0 => ⟨a, rfl, fun j p hp => ?_⟩⟩
   have hj : j < len := by
    have := (List.getElem?_eq_some_iff.1 hp).1
    rwa [hlen] at this
   have hp' : p = ⟨strOf (V0 j), strOf (V1 j)⟩ := by
    rw [List.getElem?_map, List.getElem?_range hj] at hp
    exact (Option.some.inj hp).symm
   subst hp'
   obtain ⟨g0, g1, _, _⟩ := hx j (by omega)
   rw [s0 j hj] at g0
   rw [s1 j hj] at g1
   refine ⟨[.string (strOf (V0 j)), .string (strOf (V1 j))], rfl, k67_mk w _, fun i u hu => ?_⟩
   match i, hu with
   | 0, hu => obtain rfl := Option.some.inj hu; exact g0
   | 1, hu => obtain rfl := Option.some.inj hu; exact g1
   | i + 2, hu => simp at hu
end Go.Proofs.YtbjbpgmjijeppaaGreatDoor.Fn
