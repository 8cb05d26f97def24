/- A part of the proof of this sentence: the tables of unicode/utf8 are as the program's text lays them. -/
import Derived.Test.YtoikneogdbdplaaDoorCMimeTypes4
namespace Go.Proofs.YtoikneogdbdplaaDoor.Fn
open Go.RowKit Go.Proofs.YtoikneogdbdplaaDoorW.PrintWords Go.Proofs.YtoikneogdbdplaaDoorW.PrintLast Go.Proofs.YtoikneogdbdplaaDoorW.PrintMore
attribute [local go_sem] max2_int min2_int max_two min_two max_three min_three max_four min_four
set_option linter.unusedVariables false
set_option linter.unusedSimpArgs false

mutual
def bulletinlaw20_MimeTypes.j0 : Nat → ByteArray → ByteArray → Bool → ByteArray → List (S97) → Option (Bool)
 | 0, _, _, _, _, _ => none
 | k + 1, x0, x2, x28, x502000, x502001 => if x28 = true then ((bulletinlaw20_works.f k).bind fun t503 => (some t503)) else ((mime_ReadType.f k x0).bind fun bt504 => ((bulletinref20_ReadType.f k x0).bind fun bt510 => ((bulletinlaw20_Same.f k bt504.1 bt504.2.1 bt510.1 bt510.2.1).bind fun t516 => (if t516 = true then (if ((bt504.2.2 == 0) != bt510.2.2) = true then (bulletinlaw20_MimeTypes.j1 k x2 true x502000 x502001) else (if bt510.2.2 = true then (bulletinlaw20_MimeTypes.j1 k x2 false x502000 x502001) else (bulletinlaw20_MimeTypes.j1 k x2 (bt504.2.2 != 200) x502000 x502001))) else (bulletinlaw20_MimeTypes.j1 k x2 true x502000 x502001)))))
def bulletinlaw20_MimeTypes.j1 : Nat → ByteArray → Bool → ByteArray → List (S97) → Option (Bool)
 | 0, _, _, _, _ => none
 | k + 1, x2, x57, x502000, x502001 => if x57 = true then (some false) else ((bulletinlaw20_To.f k x502000 x502001).bind fun bt517 => ((mime_Type_Value.f k bt517.1 bt517.2 x2).bind fun bt522 => ((bulletinref20_Value.f k x502000 x502001 x2).bind fun bt524 => ((mime_Type_Text.f k bt517.1 bt517.2).bind fun t526 => ((bulletinref20_Text.f k x502000 x502001).bind fun t527 => (if t526.toList = t527.toList then (if bt522.1.toList = bt524.1.toList then (if (bt522.2 == bt524.2) = true then ((bulletinlaw20_works.f k).bind fun t528 => (some t528)) else (some false)) else (some false)) else (some false)))))))
end
def bulletinlaw20_MimeTypes.f (k : Nat) (a0 : ByteArray) (a1_0 : ByteArray) (l1_1 : List (S97)) (a2 : ByteArray) : Option (Bool) := if (a0.size : Int) > 1000 then (bulletinlaw20_MimeTypes.j0 k a0 a2 true a1_0 l1_1) else (if (a2.size : Int) > 100 then (bulletinlaw20_MimeTypes.j0 k a0 a2 true a1_0 l1_1) else ((bulletinlaw20_light.f k a1_0 l1_1).bind fun t502 => (bulletinlaw20_MimeTypes.j0 k a0 a2 (!t502) a1_0 l1_1)))
def bulletinlaw20_MimeTypes.T10 : Bool × List (List Nat × List Nat) := (true, [([], []), ([0], [0]), ([], []), ([2, 1], [2]), ([1, 3], [1, 3]), ([4, 3], [4]), ([5], [5]), ([5], [5]), ([6, 7, 5], [5, 6, 7]), ([5, 8], [5, 8]), ([9, 5], [9]), ([10], [10]), ([10], [10]), ([11, 12, 10], [10, 11, 12]), ([10, 13], [10, 13]), ([14, 10], [14]), ([15, 15], [15]), ([15, 16], [15, 16]), ([17, 16, 0, 1, 2, 3, 4, 5, 6, 7, 8, 9, 10, 11, 12, 13, 14, 15, 16, 17], [17])])
def bulletinlaw20_MimeTypes.B10 : List Nat := [0, 1, 0, 7, 15, 31, 63, 63, 255, 511, 1023, 2047, 2047, 8191, 16383, 32767, 65535, 131071, 262143]
theorem bulletinlaw20_MimeTypes.tab10 : rtab .any (opsOf Tryd.f5 10) = bulletinlaw20_MimeTypes.T10 := by kernel_rfl
theorem bulletinlaw20_MimeTypes.bits10 : waitsOk bulletinlaw20_MimeTypes.T10.2 bulletinlaw20_MimeTypes.B10 = true := by kernel_rfl
set_option maxHeartbeats 8000000 in
set_option maxRecDepth 100000 in
theorem bulletinlaw20_MimeTypes.calls (k : Nat) (a0 : ByteArray) (a1_0 : ByteArray) (A1_1 : Option Addr) (c1_1 : Nat) (l1_1 : List (S97)) (a2 : ByteArray) (r : Bool) (w : World) (hG : Glob w) (hr1_1 : Kd.C k97 w A1_1 l1_1.length l1_1) (hc1_1 : l1_1.length ≤ c1_1) (h : bulletinlaw20_MimeTypes.f k a0 a1_0 l1_1 a2 = some r) :
  Calls Tryd.prog 5 #[.string a0, .agg #[.string a1_0, .slice A1_1 l1_1.length c1_1], .string a2] w fun e w' => e = .returned (.bool r) ∧ Below w.heap.size w w' := by
 have hu47 := Tryd.underlying47; have hu51 := Tryd.underlying51; have HR1_1 := Aside0.mk hr1_1; have HC1_1 := Aside0.mk hc1_1; clear hr1_1 hc1_1; have HB := Aside0.mk (Below.refl w.heap.size w); have H : (if (a0.size : Int) > 1000 then (bulletinlaw20_MimeTypes.j0 k a0 a2 true a1_0 l1_1) else (if (a2.size : Int) > 100 then (bulletinlaw20_MimeTypes.j0 k a0 a2 true a1_0 l1_1) else ((bulletinlaw20_light.f k a1_0 l1_1).bind fun t502 => (bulletinlaw20_MimeTypes.j0 k a0 a2 (!t502) a1_0 l1_1)))) = some r := h; clear h; have HC4 := Aside0.mk H; clear H
 go_enter Tryd.func5, Tryd.ntmps5
 go_upto_region 1 with (first | ((with_reducible refine gate_dst (N := 4) rfl ?_); (try (refine gate_guard (by rfl) ?_; dsimp only)); refine box_event ?hg (N := 4) ?hd (cs := #[.string a1_0, .slice A1_1 l1_1.length c1_1]) (t := 47) ?hr ?_; (case hd => rfl); (case hg => rfl); (case hr => first | (go_simp; done) | (go_simp; rfl)); intro gb501 hg w5 hbox hb; have n0_ := Aside0.mk (below_step bw hb); have n1_ := Aside0.mk (hbox); have n2_ := Aside0.mk ((by rw [hg]; exact (below_size bw) : w.heap.size ≤ gb501)); have n3_ := Aside0.mk ((by rw [hg]; exact (below_size bw) : w.heap.size ≤ gb501)); clear HB; have HB := n0_; have BK501 := n1_; have GW501 := n2_; have GE501 := n3_; clear n0_ n1_ n2_ n3_; clear hb hbox hg))
 (try simp only [Act.put, List.setIfInBounds_toArray, List.set_cons_zero, List.set_cons_succ])
 go_cut [28] (fun v28 wc => ∃ (kq : Nat) (x28_3 : Bool), v28 = .bool x28_3 ∧ Aside0 (bulletinlaw20_MimeTypes.j0 kq a0 a2 x28_3 a1_0 l1_1 = some r) ∧ Aside0 (kq ≤ k) ∧ Aside0 (wc.heap[gb501]? = some (.cells #[.string a1_0, (.slice A1_1 l1_1.length c1_1)] 47 (0, 0))) ∧ Aside0 (Below w.heap.size w wc))
 case first =>
  have H := HC4.out; clear HC4
  by_cases c6 : (a0.size : Int) > 1000
  ·rw [if_pos c6] at H; have c6b0 : decide (1000 < (a0.size : Int)) = true := decide_eq_true c6; have c6b1 : decide (1000 < a0.size) = true := decide_eq_true (by omega); clear c6
   (first | rw [c6b0] | (simp only [i64_w, i32_w]; rw [c6b0]) | skip)
   have H' := Aside0.mk H; clear H
   go_wp2
   go_meet
   case rel => exact ⟨_, (true), cl, H', ⟨by first | omega | exact Nat.le_refl _⟩, ⟨bk⟩, ⟨bwS⟩⟩
  ·rw [if_neg c6] at H; have c6b0 : decide (1000 < (a0.size : Int)) = false := decide_eq_false c6; have c6b1 : decide (1000 < a0.size) = false := decide_eq_false (by omega); clear c6
   (first | rw [c6b0] | (simp only [i64_w, i32_w]; rw [c6b0]) | skip)
   by_cases c7 : (a2.size : Int) > 100
   ·rw [if_pos c7] at H; have c7b0 : decide (100 < (a2.size : Int)) = true := decide_eq_true c7; have c7b1 : decide (100 < a2.size) = true := decide_eq_true (by omega); clear c7; have H' := Aside0.mk H; clear H
    as_aux_lemma =>
     go_wp2
     go_meet
     case rel => exact ⟨_, (true), cl, H', ⟨by first | omega | exact Nat.le_refl _⟩, ⟨bk⟩, ⟨bwS⟩⟩
   ·rw [if_neg c7] at H; have c7b0 : decide (100 < (a2.size : Int)) = false := decide_eq_false c7; have c7b1 : decide (100 < a2.size) = false := decide_eq_false (by omega); clear c7; replace H := Option.bind_eq_some_iff.mp H; obtain ⟨t502, A80, H⟩ := H; replace H : (bulletinlaw20_MimeTypes.j0 k a0 a2 (!t502) a1_0 l1_1) = some r := H; have A8 := Aside0.mk A80; clear A80; have H' := Aside0.mk H; clear H; have hcz9_0 : w5.cell? ⟨gb501, 0, none⟩ = some (.string a1_0) := (blk_cell BK501.out 0).trans rfl; have hcz9_1 : w5.cell? ⟨gb501, 1, none⟩ = some (.slice A1_1 l1_1.length c1_1) := (blk_cell BK501.out 1).trans rfl; have hfz9_0 := blk_frozen BK501.out 0; have hfz9_1 := blk_frozen BK501.out 1
    as_aux_lemma =>
     go_wp2_with (first | (go_at_call 25; (with_reducible refine (bulletinlaw20_light.calls k a1_0 _ _ l1_1 t502 _ ?side1 ?side2 A8.out).mono ?_); (case side1 => repeat (first | exact (Kd.C_below HR1_1.out HB.out) | (with_reducible refine Kd.C_alloc ?_ _) | (with_reducible refine Kd.C_drewN ?_ _) | (with_reducible refine Kd.C_drew ?_))); (case side2 => exact HC1_1.out); rintro e w10 ⟨rfl, hb⟩; have n0_ := Aside0.mk (blk_below (g := gb501) (o := .cells #[.string a1_0, .slice A1_1 l1_1.length c1_1] 47 (0, 0)) bk hb); have n1_ := Aside0.mk (below_step bwS hb); clear BK501; clear HB; have BK501 := n0_; have HB := n1_; clear n0_ n1_; (try clear hb); (try clear hb2); (try clear hk); (try clear hi)))
     go_meet
     case rel => exact ⟨_, (!t502), cl, H', ⟨by first | omega | exact Nat.le_refl _⟩, ⟨bk⟩, ⟨bwS⟩⟩
 case rest =>
  clear HC4
  try clear c1
  try clear p2
  try clear c5
  try clear c6
  try clear c6b0
  try clear c6b1
  try clear c7
  try clear c7b0
  try clear c7b1
  try clear hcz9_0
  try clear hcz9_1
  try clear hfz9_0
  try clear hfz9_1
  obtain ⟨kq, x28_3, rfl, HA, HJ3, BK501, HB⟩ := hcut; cases kq with
  | zero => exact absurd HA.out (by simp [bulletinlaw20_MimeTypes.j0])
  | succ kj3 =>
   have H := HA.out; clear HA; simp only [bulletinlaw20_MimeTypes.j0] at H
   by_cases c11 : x28_3 = true
   ·subst c11; have H1 : ((bulletinlaw20_works.f kj3).bind fun t503 => (some t503)) = some r := by rw [if_pos rfl] at H; exact H
    clear H; have H := H1; clear H1; replace H := Option.bind_eq_some_iff.mp H; obtain ⟨t503, A120, H⟩ := H; replace H : (some t503) = some r := H; have A12 := Aside0.mk A120; clear A120; obtain rfl := Option.some.inj H
    as_aux_lemma =>
     go_wp2_with (first | ((with_reducible refine gate_callee (f := 26) rfl ?_); refine goesL_ (some 29) rfl rfl Tryd.func26 (by kernel_rfl) rfl #[] rfl am ?_; (with_reducible refine (bulletinlaw20_works.calls (hG := by first | exact hG | exact Glob.below hG (by first | exact HB.out | (repeat (first | (with_reducible first | exact HB.out | apply below_alloc | apply pw_below_drewN | apply below_drew1 | refine below_set ?_ GE501.out | refine below_set ?_ GE509.out | refine below_set ?_ GE515.out | refine below_set ?_ GE521.out) | exact HB.out))) | exact Glob.drawn hG (d0)) kj3  t503 _ A12.out).mono ?_); rintro e w13 ⟨rfl, hb⟩; refine ⟨_, rfl, ?_⟩; have n0_ := Aside0.mk (blk_below (g := gb501) (o := .cells #[.string a1_0, .slice A1_1 l1_1.length c1_1] 47 (0, 0)) bk hb); have n1_ := Aside0.mk (below_step bwS hb); clear BK501; clear HB; have BK501 := n0_; have HB := n1_; clear n0_ n1_; (try clear hb); (try clear hb2); (try clear hk); (try clear hi)))
     go_ret
     exact ⟨ew, bwS⟩
   ·replace c11 := Bool.eq_false_iff.mpr c11; subst c11; have H1 : ((mime_ReadType.f kj3 a0).bind fun bt504 => ((bulletinref20_ReadType.f kj3 a0).bind fun bt510 => ((bulletinlaw20_Same.f kj3 bt504.1 bt504.2.1 bt510.1 bt510.2.1).bind fun t516 => (if t516 = true then (if ((bt504.2.2 == 0) != bt510.2.2) = true then (bulletinlaw20_MimeTypes.j1 kj3 a2 true a1_0 l1_1) else (if bt510.2.2 = true then (bulletinlaw20_MimeTypes.j1 kj3 a2 false a1_0 l1_1) else (bulletinlaw20_MimeTypes.j1 kj3 a2 (bt504.2.2 != 200) a1_0 l1_1))) else (bulletinlaw20_MimeTypes.j1 kj3 a2 true a1_0 l1_1))))) = some r := by rw [if_neg (show ¬ (false = true) by decide)] at H; exact H
    clear H; have H := H1; clear H1; replace H := Option.bind_eq_some_iff.mp H; obtain ⟨⟨t504, t505, t508⟩, A140, H⟩ := H; replace H : ((bulletinref20_ReadType.f kj3 a0).bind fun bt510 => ((bulletinlaw20_Same.f kj3 t504 t505 bt510.1 bt510.2.1).bind fun t516 => (if t516 = true then (if ((t508 == 0) != bt510.2.2) = true then (bulletinlaw20_MimeTypes.j1 kj3 a2 true a1_0 l1_1) else (if bt510.2.2 = true then (bulletinlaw20_MimeTypes.j1 kj3 a2 false a1_0 l1_1) else (bulletinlaw20_MimeTypes.j1 kj3 a2 (t508 != 200) a1_0 l1_1))) else (bulletinlaw20_MimeTypes.j1 kj3 a2 true a1_0 l1_1)))) = some r := H; have A14 := Aside0.mk A140; clear A140; replace H := Option.bind_eq_some_iff.mp H; obtain ⟨⟨t510, t511, t514⟩, A150, H⟩ := H; replace H : ((bulletinlaw20_Same.f kj3 t504 t505 t510 t511).bind fun t516 => (if t516 = true then (if ((t508 == 0) != t514) = true then (bulletinlaw20_MimeTypes.j1 kj3 a2 true a1_0 l1_1) else (if t514 = true then (bulletinlaw20_MimeTypes.j1 kj3 a2 false a1_0 l1_1) else (bulletinlaw20_MimeTypes.j1 kj3 a2 (t508 != 200) a1_0 l1_1))) else (bulletinlaw20_MimeTypes.j1 kj3 a2 true a1_0 l1_1))) = some r := H; have A15 := Aside0.mk A150; clear A150; have HC16 := Aside0.mk H; clear H
    go_upto_region 5 with (first | ((with_reducible refine gate_callee (f := 27) rfl ?_); refine goesL_ (some 32) rfl rfl Tryd.func27 (by kernel_rfl) rfl #[.string a0] rfl am ?_; (with_reducible refine (mime_ReadType.calls (hG := by first | exact hG | exact Glob.below hG (by first | exact HB.out | (repeat (first | (with_reducible first | exact HB.out | apply below_alloc | apply pw_below_drewN | apply below_drew1 | refine below_set ?_ GE501.out | refine below_set ?_ GE509.out | refine below_set ?_ GE515.out | refine below_set ?_ GE521.out) | exact HB.out))) | exact Glob.drawn hG (d0)) kj3 a0 t504 t505 t508 _ A14.out).mono ?_); rintro e w17 ⟨v506, rfl, ho0, hb⟩; refine ⟨_, rfl, ?_⟩; have n0_ := Aside0.mk (Kd.R_lower ho0 (below_size bwS)); have n1_ := Aside0.mk (blk_below (g := gb501) (o := .cells #[.string a1_0, .slice A1_1 l1_1.length c1_1] 47 (0, 0)) bk hb); have n2_ := Aside0.mk (below_step bwS hb); clear BK501; clear HB; have HO507 := n0_; have BK501 := n1_; have HB := n2_; clear n0_ n1_ n2_; (try clear hb); (try clear hb2); (try clear hk); (try clear hi); (try clear ho0)) | ((with_reducible refine gate_dst (N := 7) rfl ?_); (try (refine gate_guard (by rfl) ?_; dsimp only)); refine box_event ?hg (N := 7) ?hd (cs := #[.string (⟨#[]⟩ : ByteArray), .slice none 0 0]) (t := 51) ?hr ?_; (case hd => rfl); (case hg => rfl); (case hr => first | (go_simp; done) | (go_simp; rfl)); intro gb509 hg w18 hbox hb; have n0_ := Aside0.mk (Kd.R_below (ra HO507.out) hb); have n1_ := Aside0.mk (blk_below (g := gb501) (o := .cells #[.string a1_0, .slice A1_1 l1_1.length c1_1] 47 (0, 0)) bk hb); have n2_ := Aside0.mk (below_step bwS hb); have n3_ := Aside0.mk (hbox); have n4_ := Aside0.mk ((by rw [hg]; exact (below_size bwS) : w.heap.size ≤ gb509)); have n5_ := Aside0.mk ((by rw [hg]; exact (below_size bwS) : w.heap.size ≤ gb509)); have n6_ := Aside0.mk ((by rw [hg]; exact Nat.ne_of_lt (blk_lt (g := gb501) (o := .cells #[.string a1_0, .slice A1_1 l1_1.length c1_1] 47 (0, 0)) bk) : gb501 ≠ gb509)); have n7_ := Aside0.mk ((by rw [hg]; exact Nat.ne_of_gt (blk_lt (g := gb501) (o := .cells #[.string a1_0, .slice A1_1 l1_1.length c1_1] 47 (0, 0)) bk) : gb509 ≠ gb501)); clear HO507; clear BK501; clear HB; have HO507 := n0_; have BK501 := n1_; have HB := n2_; have BK509 := n3_; have GW509 := n4_; have GE509 := n5_; have NB501_509 := n6_; have NB509_501 := n7_; clear n0_ n1_ n2_ n3_ n4_ n5_ n6_ n7_; clear hb hbox hg; have hnb19 := NB509_501.out; have hnc19 := NB501_509.out; have hcz20_0 : w18.cell? ⟨gb509, 0, none⟩ = some (.string (⟨#[]⟩ : ByteArray)) := (blk_cell BK509.out 0).trans rfl; have hcz20_1 : w18.cell? ⟨gb509, 1, none⟩ = some (.slice none 0 0) := (blk_cell BK509.out 1).trans rfl; have hfz20_0 := blk_frozen BK509.out 0; have hfz20_1 := blk_frozen BK509.out 1; obtain ⟨Ao21, co21, eo21⟩ := Kd.R_slice HO507.out; subst eo21) | ((with_reducible refine gate_callee (f := 28) rfl ?_); refine goesL_ (some 37) rfl rfl Tryd.func28 (by kernel_rfl) rfl #[.string a0] rfl am ?_; (with_reducible refine (bulletinref20_ReadType.calls kj3 a0 t510 t511 t514 _ A15.out).mono ?_); rintro e w22 ⟨v512, rfl, ho0, hb⟩; refine ⟨_, rfl, ?_⟩; have n0_ := Aside0.mk (Kd.R_below (by (with_reducible repeat (first | apply Kd.R_alloc | apply Kd.R_drewN | apply Kd.R_drew)); exact (Kd.R_mono (Kd.R_far (p := ⟨gb509, 1, none⟩) (Kd.R_far (p := ⟨gb509, 0, none⟩) (Kd.R_types HO507.out BK509.out (by decide)) (fun _ hk => hk.2) (.string t504)) (fun _ hk => hk.2) (.slice Ao21 t505.length co21)) (fun _ h_ => h_.1))) hb); have n1_ := Aside0.mk (Kd.R_lower ho0 (below_size bwS)); have n2_ := Aside0.mk (blk_below (g := gb501) (o := .cells #[.string a1_0, .slice A1_1 l1_1.length c1_1] 47 (0, 0)) (by (with_reducible repeat (first | refine blk_drewN ?_ _ | refine blk_drew ?_ | refine blk_alloc ?_ _)); refine blk_far ?_ NB501_509.out _; (with_reducible repeat (first | refine blk_drewN ?_ _ | refine blk_drew ?_ | refine blk_alloc ?_ _)); refine blk_far ?_ NB501_509.out _; (with_reducible repeat (first | refine blk_drewN ?_ _ | refine blk_drew ?_ | refine blk_alloc ?_ _)); exact BK501.out) hb); have n3_ := Aside0.mk (blk_below (g := gb509) (o := .cells #[.string t504, .slice Ao21 t505.length co21] 51 (0, 0)) (by (with_reducible repeat (first | refine blk_drewN ?_ _ | refine blk_drew ?_ | refine blk_alloc ?_ _)); refine blk_put (cs := #[.string t504, .slice none 0 0]) ?_ 1 _ rfl; (with_reducible repeat (first | refine blk_drewN ?_ _ | refine blk_drew ?_ | refine blk_alloc ?_ _)); exact blk_put (cs := #[.string (⟨#[]⟩ : ByteArray), .slice none 0 0]) bk 0 _ rfl) hb); have n4_ := Aside0.mk (below_step bwS hb); clear HO507; clear BK501; clear BK509; clear HB; have HO507 := n0_; have HO513 := n1_; have BK501 := n2_; have BK509 := n3_; have HB := n4_; clear n0_ n1_ n2_ n3_ n4_; (try clear hb); (try clear hb2); (try clear hk); (try clear hi); (try clear ho0)) | ((with_reducible refine gate_dst (N := 9) rfl ?_); (try (refine gate_guard (by rfl) ?_; dsimp only)); refine box_event ?hg (N := 9) ?hd (cs := #[.string (⟨#[]⟩ : ByteArray), .slice none 0 0]) (t := 47) ?hr ?_; (case hd => rfl); (case hg => rfl); (case hr => first | (go_simp; done) | (go_simp; rfl)); intro gb515 hg w23 hbox hb; have n0_ := Aside0.mk (Kd.R_below (ra HO507.out) hb); have n1_ := Aside0.mk (Kd.R_below (ra HO513.out) hb); have n2_ := Aside0.mk (blk_below (g := gb501) (o := .cells #[.string a1_0, .slice A1_1 l1_1.length c1_1] 47 (0, 0)) bk hb); have n3_ := Aside0.mk (blk_below (g := gb509) (o := .cells #[.string t504, .slice Ao21 t505.length co21] 51 (0, 0)) bk hb); have n4_ := Aside0.mk (below_step bwS hb); have n5_ := Aside0.mk (hbox); have n6_ := Aside0.mk ((by rw [hg]; exact (below_size bwS) : w.heap.size ≤ gb515)); have n7_ := Aside0.mk ((by rw [hg]; exact (below_size bwS) : w.heap.size ≤ gb515)); have n8_ := Aside0.mk ((by rw [hg]; exact Nat.ne_of_lt (blk_lt (g := gb501) (o := .cells #[.string a1_0, .slice A1_1 l1_1.length c1_1] 47 (0, 0)) bk) : gb501 ≠ gb515)); have n9_ := Aside0.mk ((by rw [hg]; exact Nat.ne_of_gt (blk_lt (g := gb501) (o := .cells #[.string a1_0, .slice A1_1 l1_1.length c1_1] 47 (0, 0)) bk) : gb515 ≠ gb501)); have n10_ := Aside0.mk ((by rw [hg]; exact Nat.ne_of_lt (blk_lt (g := gb509) (o := .cells #[.string t504, .slice Ao21 t505.length co21] 51 (0, 0)) bk) : gb509 ≠ gb515)); have n11_ := Aside0.mk ((by rw [hg]; exact Nat.ne_of_gt (blk_lt (g := gb509) (o := .cells #[.string t504, .slice Ao21 t505.length co21] 51 (0, 0)) bk) : gb515 ≠ gb509)); clear HO507; clear HO513; clear BK501; clear BK509; clear HB; have HO507 := n0_; have HO513 := n1_; have BK501 := n2_; have BK509 := n3_; have HB := n4_; have BK515 := n5_; have GW515 := n6_; have GE515 := n7_; have NB501_515 := n8_; have NB515_501 := n9_; have NB509_515 := n10_; have NB515_509 := n11_; clear n0_ n1_ n2_ n3_ n4_ n5_ n6_ n7_ n8_ n9_ n10_ n11_; clear hb hbox hg; have hnb24 := NB515_501.out; have hnc24 := NB501_515.out; have hnb25 := NB515_509.out; have hnc25 := NB509_515.out; have hcz26_0 : w23.cell? ⟨gb515, 0, none⟩ = some (.string (⟨#[]⟩ : ByteArray)) := (blk_cell BK515.out 0).trans rfl; have hcz26_1 : w23.cell? ⟨gb515, 1, none⟩ = some (.slice none 0 0) := (blk_cell BK515.out 1).trans rfl; have hfz26_0 := blk_frozen BK515.out 0; have hfz26_1 := blk_frozen BK515.out 1; obtain ⟨Ao27, co27, eo27⟩ := Kd.R_slice HO513.out; subst eo27))
    (try simp only [Act.put, List.setIfInBounds_toArray, List.set_cons_zero, List.set_cons_succ])
    go_cut [57] (fun v57 wc => ∃ (kq : Nat) (x57_15 : Bool), v57 = .bool x57_15 ∧ Aside0 (bulletinlaw20_MimeTypes.j1 kq a2 x57_15 a1_0 l1_1 = some r) ∧ Aside0 (kq ≤ kj3) ∧ Aside0 (Kd.R k104 104 wc w.heap.size (fun _ => True) (.slice Ao21 t505.length co21) t505) ∧ Aside0 (Kd.R k97 97 wc w.heap.size (fun _ => True) (.slice Ao27 t511.length co27) t511) ∧ Aside0 (wc.heap[gb501]? = some (.cells #[.string a1_0, (.slice A1_1 l1_1.length c1_1)] 47 (0, 0))) ∧ Aside0 (wc.heap[gb509]? = some (.cells #[.string t504, (.slice Ao21 t505.length co21)] 51 (0, 0))) ∧ Aside0 (wc.heap[gb515]? = some (.cells #[.string t510, (.slice Ao27 t511.length co27)] 47 (0, 0))) ∧ Aside0 (Below w.heap.size w wc))
    case first =>
     have H := HC16.out; clear HC16; replace H := Option.bind_eq_some_iff.mp H; obtain ⟨t516, A280, H⟩ := H; replace H : (if t516 = true then (if ((t508 == 0) != t514) = true then (bulletinlaw20_MimeTypes.j1 kj3 a2 true a1_0 l1_1) else (if t514 = true then (bulletinlaw20_MimeTypes.j1 kj3 a2 false a1_0 l1_1) else (bulletinlaw20_MimeTypes.j1 kj3 a2 (t508 != 200) a1_0 l1_1))) else (bulletinlaw20_MimeTypes.j1 kj3 a2 true a1_0 l1_1)) = some r := H; have A28 := Aside0.mk A280; clear A280
     by_cases c29 : t516 = true
     ·subst c29; have H1 : (if ((t508 == 0) != t514) = true then (bulletinlaw20_MimeTypes.j1 kj3 a2 true a1_0 l1_1) else (if t514 = true then (bulletinlaw20_MimeTypes.j1 kj3 a2 false a1_0 l1_1) else (bulletinlaw20_MimeTypes.j1 kj3 a2 (t508 != 200) a1_0 l1_1))) = some r := by rw [if_pos rfl] at H; exact H
      clear H; have H := H1; clear H1
      by_cases c30 : ((t508 == 0) != t514) = true
      ·rw [if_pos c30] at H; have c30b0 : ((t508 == 0) != t514) = true := c30
       (try (have c30b1 : decide ((t508 == 0) = t514) = false := by simpa using c30))
       (try (have c30b2 : ((t508 == 0) == t514) = false := by simpa using c30))
       (try (have c30b3 : ¬ ((t508 == 0) = t514) := by simpa using c30))
       clear c30
       (first | rw [c30b0] | (simp only [i64_w, i32_w]; rw [c30b0]) | skip)
       have H' := Aside0.mk H; clear H; have hnb31 := NB509_501.out; have hnc31 := NB501_509.out; have hnb32 := NB509_515.out; have hnc32 := NB515_509.out; have hcz33_0 : w23.cell? ⟨gb509, 0, none⟩ = some (.string t504) := (blk_cell BK509.out 0).trans rfl; have hcz33_1 : w23.cell? ⟨gb509, 1, none⟩ = some (.slice Ao21 t505.length co21) := (blk_cell BK509.out 1).trans rfl; have hfz33_0 := blk_frozen BK509.out 0; have hfz33_1 := blk_frozen BK509.out 1; have hnb34 := NB515_501.out; have hnc34 := NB501_515.out; have hcz35_0 : w23.cell? ⟨gb515, 0, none⟩ = some (.string (⟨#[]⟩ : ByteArray)) := (blk_cell BK515.out 0).trans rfl; have hcz35_1 : w23.cell? ⟨gb515, 1, none⟩ = some (.slice none 0 0) := (blk_cell BK515.out 1).trans rfl; have hfz35_0 := blk_frozen BK515.out 0; have hfz35_1 := blk_frozen BK515.out 1
       as_aux_lemma =>
        go_wp2_with (first | ((with_reducible refine gate_callee (f := 29) rfl ?_); refine goesL_ (some 42) rfl rfl Tryd.func29 (by kernel_rfl) rfl #[.agg #[.string t504, .slice Ao21 t505.length co21], .agg #[.string t510, .slice Ao27 t511.length co27]] rfl am ?_; (with_reducible refine (bulletinlaw20_Same.calls kj3 t504 _ _ t505 t510 _ _ t511 true _ ?side1 ?side2 ?side3 ?side4 A28.out).mono ?_); (case side1 => refine (Kd.R_reads' (e := 104) (base := w.heap.size) (ok := fun k_ => True) (n := t505.length) (c := co21) ?_).2.2; exact (by (with_reducible repeat (first | apply Kd.R_alloc | apply Kd.R_drewN | apply Kd.R_drew)); exact (Kd.R_mono (Kd.R_far (p := ⟨gb515, 1, none⟩) (Kd.R_far (p := ⟨gb515, 0, none⟩) (Kd.R_types HO507.out BK515.out (by decide)) (fun _ hk => hk.2) (.string t510)) (fun _ hk => hk.2) (.slice Ao27 t511.length co27)) (fun _ h_ => h_.1)))); (case side2 => exact (Kd.R_reads' HO507.out).2.1); (case side3 => refine (Kd.R_reads' (e := 97) (base := w.heap.size) (ok := fun k_ => True) (n := t511.length) (c := co27) ?_).2.2; exact (by (with_reducible repeat (first | apply Kd.R_alloc | apply Kd.R_drewN | apply Kd.R_drew)); exact (Kd.R_mono (Kd.R_far (p := ⟨gb515, 1, none⟩) (Kd.R_far (p := ⟨gb515, 0, none⟩) (Kd.R_types HO513.out BK515.out (by decide)) (fun _ hk => hk.2) (.string t510)) (fun _ hk => hk.2) (.slice Ao27 t511.length co27)) (fun _ h_ => h_.1)))); (case side4 => exact (Kd.R_reads' HO513.out).2.1); rintro e w36 ⟨rfl, hb⟩; refine ⟨_, rfl, ?_⟩; have n0_ := Aside0.mk (Kd.R_below (by (with_reducible repeat (first | apply Kd.R_alloc | apply Kd.R_drewN | apply Kd.R_drew)); exact (Kd.R_mono (Kd.R_far (p := ⟨gb515, 1, none⟩) (Kd.R_far (p := ⟨gb515, 0, none⟩) (Kd.R_types HO507.out BK515.out (by decide)) (fun _ hk => hk.2) (.string t510)) (fun _ hk => hk.2) (.slice Ao27 t511.length co27)) (fun _ h_ => h_.1))) hb); have n1_ := Aside0.mk (Kd.R_below (by (with_reducible repeat (first | apply Kd.R_alloc | apply Kd.R_drewN | apply Kd.R_drew)); exact (Kd.R_mono (Kd.R_far (p := ⟨gb515, 1, none⟩) (Kd.R_far (p := ⟨gb515, 0, none⟩) (Kd.R_types HO513.out BK515.out (by decide)) (fun _ hk => hk.2) (.string t510)) (fun _ hk => hk.2) (.slice Ao27 t511.length co27)) (fun _ h_ => h_.1))) hb); have n2_ := Aside0.mk (blk_below (g := gb501) (o := .cells #[.string a1_0, .slice A1_1 l1_1.length c1_1] 47 (0, 0)) (by (with_reducible repeat (first | refine blk_drewN ?_ _ | refine blk_drew ?_ | refine blk_alloc ?_ _)); refine blk_far ?_ NB501_515.out _; (with_reducible repeat (first | refine blk_drewN ?_ _ | refine blk_drew ?_ | refine blk_alloc ?_ _)); refine blk_far ?_ NB501_515.out _; (with_reducible repeat (first | refine blk_drewN ?_ _ | refine blk_drew ?_ | refine blk_alloc ?_ _)); exact BK501.out) hb); have n3_ := Aside0.mk (blk_below (g := gb509) (o := .cells #[.string t504, .slice Ao21 t505.length co21] 51 (0, 0)) (by (with_reducible repeat (first | refine blk_drewN ?_ _ | refine blk_drew ?_ | refine blk_alloc ?_ _)); refine blk_far ?_ NB509_515.out _; (with_reducible repeat (first | refine blk_drewN ?_ _ | refine blk_drew ?_ | refine blk_alloc ?_ _)); refine blk_far ?_ NB509_515.out _; (with_reducible repeat (first | refine blk_drewN ?_ _ | refine blk_drew ?_ | refine blk_alloc ?_ _)); exact BK509.out) hb); have n4_ := Aside0.mk (blk_below (g := gb515) (o := .cells #[.string t510, .slice Ao27 t511.length co27] 47 (0, 0)) (by (with_reducible repeat (first | refine blk_drewN ?_ _ | refine blk_drew ?_ | refine blk_alloc ?_ _)); refine blk_put (cs := #[.string t510, .slice none 0 0]) ?_ 1 _ rfl; (with_reducible repeat (first | refine blk_drewN ?_ _ | refine blk_drew ?_ | refine blk_alloc ?_ _)); exact blk_put (cs := #[.string (⟨#[]⟩ : ByteArray), .slice none 0 0]) bk 0 _ rfl) hb); have n5_ := Aside0.mk (below_step bwS hb); clear HO507; clear HO513; clear BK501; clear BK509; clear BK515; clear HB; have HO507 := n0_; have HO513 := n1_; have BK501 := n2_; have BK509 := n3_; have BK515 := n4_; have HB := n5_; clear n0_ n1_ n2_ n3_ n4_ n5_; (try clear hb); (try clear hb2); (try clear hk); (try clear hi)))
        go_meet
        case rel => exact ⟨_, (true), cl, H', ⟨by have := HJ3.out; first | omega | exact Nat.le_refl _⟩, ⟨by (with_reducible repeat (first | apply Kd.R_alloc | apply Kd.R_drewN | apply Kd.R_drew)); exact HO507.out⟩, ⟨by (with_reducible repeat (first | apply Kd.R_alloc | apply Kd.R_drewN | apply Kd.R_drew)); exact HO513.out⟩, ⟨bk⟩, ⟨bk⟩, ⟨bk⟩, ⟨bwS⟩⟩
      ·rw [if_neg c30] at H; have c30b0 : ((t508 == 0) != t514) = false := by simpa using c30
       (try (have c30b1 : decide ((t508 == 0) = t514) = true := by simpa using c30))
       (try (have c30b2 : ((t508 == 0) == t514) = true := by simpa using c30))
       clear c30
       (first | rw [c30b0] | (simp only [i64_w, i32_w]; rw [c30b0]) | skip)
       by_cases c37 : t514 = true
       ·subst c37; have H1 : (bulletinlaw20_MimeTypes.j1 kj3 a2 false a1_0 l1_1) = some r := by rw [if_pos rfl] at H; exact H
        clear H; have H := H1; clear H1; have H' := Aside0.mk H; clear H; have hnb38 := NB509_501.out; have hnc38 := NB501_509.out; have hnb39 := NB509_515.out; have hnc39 := NB515_509.out; have hcz40_0 : w23.cell? ⟨gb509, 0, none⟩ = some (.string t504) := (blk_cell BK509.out 0).trans rfl; have hcz40_1 : w23.cell? ⟨gb509, 1, none⟩ = some (.slice Ao21 t505.length co21) := (blk_cell BK509.out 1).trans rfl; have hfz40_0 := blk_frozen BK509.out 0; have hfz40_1 := blk_frozen BK509.out 1; have hnb41 := NB515_501.out; have hnc41 := NB501_515.out; have hcz42_0 : w23.cell? ⟨gb515, 0, none⟩ = some (.string (⟨#[]⟩ : ByteArray)) := (blk_cell BK515.out 0).trans rfl; have hcz42_1 : w23.cell? ⟨gb515, 1, none⟩ = some (.slice none 0 0) := (blk_cell BK515.out 1).trans rfl; have hfz42_0 := blk_frozen BK515.out 0; have hfz42_1 := blk_frozen BK515.out 1
        as_aux_lemma =>
         go_wp2_with (first | ((with_reducible refine gate_callee (f := 29) rfl ?_); refine goesL_ (some 42) rfl rfl Tryd.func29 (by kernel_rfl) rfl #[.agg #[.string t504, .slice Ao21 t505.length co21], .agg #[.string t510, .slice Ao27 t511.length co27]] rfl am ?_; (with_reducible refine (bulletinlaw20_Same.calls kj3 t504 _ _ t505 t510 _ _ t511 true _ ?side1 ?side2 ?side3 ?side4 A28.out).mono ?_); (case side1 => refine (Kd.R_reads' (e := 104) (base := w.heap.size) (ok := fun k_ => True) (n := t505.length) (c := co21) ?_).2.2; exact (by (with_reducible repeat (first | apply Kd.R_alloc | apply Kd.R_drewN | apply Kd.R_drew)); exact (Kd.R_mono (Kd.R_far (p := ⟨gb515, 1, none⟩) (Kd.R_far (p := ⟨gb515, 0, none⟩) (Kd.R_types HO507.out BK515.out (by decide)) (fun _ hk => hk.2) (.string t510)) (fun _ hk => hk.2) (.slice Ao27 t511.length co27)) (fun _ h_ => h_.1)))); (case side2 => exact (Kd.R_reads' HO507.out).2.1); (case side3 => refine (Kd.R_reads' (e := 97) (base := w.heap.size) (ok := fun k_ => True) (n := t511.length) (c := co27) ?_).2.2; exact (by (with_reducible repeat (first | apply Kd.R_alloc | apply Kd.R_drewN | apply Kd.R_drew)); exact (Kd.R_mono (Kd.R_far (p := ⟨gb515, 1, none⟩) (Kd.R_far (p := ⟨gb515, 0, none⟩) (Kd.R_types HO513.out BK515.out (by decide)) (fun _ hk => hk.2) (.string t510)) (fun _ hk => hk.2) (.slice Ao27 t511.length co27)) (fun _ h_ => h_.1)))); (case side4 => exact (Kd.R_reads' HO513.out).2.1); rintro e w43 ⟨rfl, hb⟩; refine ⟨_, rfl, ?_⟩; have n0_ := Aside0.mk (Kd.R_below (by (with_reducible repeat (first | apply Kd.R_alloc | apply Kd.R_drewN | apply Kd.R_drew)); exact (Kd.R_mono (Kd.R_far (p := ⟨gb515, 1, none⟩) (Kd.R_far (p := ⟨gb515, 0, none⟩) (Kd.R_types HO507.out BK515.out (by decide)) (fun _ hk => hk.2) (.string t510)) (fun _ hk => hk.2) (.slice Ao27 t511.length co27)) (fun _ h_ => h_.1))) hb); have n1_ := Aside0.mk (Kd.R_below (by (with_reducible repeat (first | apply Kd.R_alloc | apply Kd.R_drewN | apply Kd.R_drew)); exact (Kd.R_mono (Kd.R_far (p := ⟨gb515, 1, none⟩) (Kd.R_far (p := ⟨gb515, 0, none⟩) (Kd.R_types HO513.out BK515.out (by decide)) (fun _ hk => hk.2) (.string t510)) (fun _ hk => hk.2) (.slice Ao27 t511.length co27)) (fun _ h_ => h_.1))) hb); have n2_ := Aside0.mk (blk_below (g := gb501) (o := .cells #[.string a1_0, .slice A1_1 l1_1.length c1_1] 47 (0, 0)) (by (with_reducible repeat (first | refine blk_drewN ?_ _ | refine blk_drew ?_ | refine blk_alloc ?_ _)); refine blk_far ?_ NB501_515.out _; (with_reducible repeat (first | refine blk_drewN ?_ _ | refine blk_drew ?_ | refine blk_alloc ?_ _)); refine blk_far ?_ NB501_515.out _; (with_reducible repeat (first | refine blk_drewN ?_ _ | refine blk_drew ?_ | refine blk_alloc ?_ _)); exact BK501.out) hb); have n3_ := Aside0.mk (blk_below (g := gb509) (o := .cells #[.string t504, .slice Ao21 t505.length co21] 51 (0, 0)) (by (with_reducible repeat (first | refine blk_drewN ?_ _ | refine blk_drew ?_ | refine blk_alloc ?_ _)); refine blk_far ?_ NB509_515.out _; (with_reducible repeat (first | refine blk_drewN ?_ _ | refine blk_drew ?_ | refine blk_alloc ?_ _)); refine blk_far ?_ NB509_515.out _; (with_reducible repeat (first | refine blk_drewN ?_ _ | refine blk_drew ?_ | refine blk_alloc ?_ _)); exact BK509.out) hb); have n4_ := Aside0.mk (blk_below (g := gb515) (o := .cells #[.string t510, .slice Ao27 t511.length co27] 47 (0, 0)) (by (with_reducible repeat (first | refine blk_drewN ?_ _ | refine blk_drew ?_ | refine blk_alloc ?_ _)); refine blk_put (cs := #[.string t510, .slice none 0 0]) ?_ 1 _ rfl; (with_reducible repeat (first | refine blk_drewN ?_ _ | refine blk_drew ?_ | refine blk_alloc ?_ _)); exact blk_put (cs := #[.string (⟨#[]⟩ : ByteArray), .slice none 0 0]) bk 0 _ rfl) hb); have n5_ := Aside0.mk (below_step bwS hb); clear HO507; clear HO513; clear BK501; clear BK509; clear BK515; clear HB; have HO507 := n0_; have HO513 := n1_; have BK501 := n2_; have BK509 := n3_; have BK515 := n4_; have HB := n5_; clear n0_ n1_ n2_ n3_ n4_ n5_; (try clear hb); (try clear hb2); (try clear hk); (try clear hi)))
         go_meet
         case rel => exact ⟨_, (false), cl, H', ⟨by have := HJ3.out; first | omega | exact Nat.le_refl _⟩, ⟨by (with_reducible repeat (first | apply Kd.R_alloc | apply Kd.R_drewN | apply Kd.R_drew)); exact HO507.out⟩, ⟨by (with_reducible repeat (first | apply Kd.R_alloc | apply Kd.R_drewN | apply Kd.R_drew)); exact HO513.out⟩, ⟨bk⟩, ⟨bk⟩, ⟨bk⟩, ⟨bwS⟩⟩
       ·replace c37 := Bool.eq_false_iff.mpr c37; subst c37; have H1 : (bulletinlaw20_MimeTypes.j1 kj3 a2 (t508 != 200) a1_0 l1_1) = some r := by rw [if_neg (show ¬ (false = true) by decide)] at H; exact H
        clear H; have H := H1; clear H1; have H' := Aside0.mk H; clear H; have hnb44 := NB509_501.out; have hnc44 := NB501_509.out; have hnb45 := NB509_515.out; have hnc45 := NB515_509.out; have hcz46_0 : w23.cell? ⟨gb509, 0, none⟩ = some (.string t504) := (blk_cell BK509.out 0).trans rfl; have hcz46_1 : w23.cell? ⟨gb509, 1, none⟩ = some (.slice Ao21 t505.length co21) := (blk_cell BK509.out 1).trans rfl; have hfz46_0 := blk_frozen BK509.out 0; have hfz46_1 := blk_frozen BK509.out 1; have hnb47 := NB515_501.out; have hnc47 := NB501_515.out; have hcz48_0 : w23.cell? ⟨gb515, 0, none⟩ = some (.string (⟨#[]⟩ : ByteArray)) := (blk_cell BK515.out 0).trans rfl; have hcz48_1 : w23.cell? ⟨gb515, 1, none⟩ = some (.slice none 0 0) := (blk_cell BK515.out 1).trans rfl; have hfz48_0 := blk_frozen BK515.out 0; have hfz48_1 := blk_frozen BK515.out 1
        as_aux_lemma =>
         go_wp2_with (first | ((with_reducible refine gate_callee (f := 29) rfl ?_); refine goesL_ (some 42) rfl rfl Tryd.func29 (by kernel_rfl) rfl #[.agg #[.string t504, .slice Ao21 t505.length co21], .agg #[.string t510, .slice Ao27 t511.length co27]] rfl am ?_; (with_reducible refine (bulletinlaw20_Same.calls kj3 t504 _ _ t505 t510 _ _ t511 true _ ?side1 ?side2 ?side3 ?side4 A28.out).mono ?_); (case side1 => refine (Kd.R_reads' (e := 104) (base := w.heap.size) (ok := fun k_ => True) (n := t505.length) (c := co21) ?_).2.2; exact (by (with_reducible repeat (first | apply Kd.R_alloc | apply Kd.R_drewN | apply Kd.R_drew)); exact (Kd.R_mono (Kd.R_far (p := ⟨gb515, 1, none⟩) (Kd.R_far (p := ⟨gb515, 0, none⟩) (Kd.R_types HO507.out BK515.out (by decide)) (fun _ hk => hk.2) (.string t510)) (fun _ hk => hk.2) (.slice Ao27 t511.length co27)) (fun _ h_ => h_.1)))); (case side2 => exact (Kd.R_reads' HO507.out).2.1); (case side3 => refine (Kd.R_reads' (e := 97) (base := w.heap.size) (ok := fun k_ => True) (n := t511.length) (c := co27) ?_).2.2; exact (by (with_reducible repeat (first | apply Kd.R_alloc | apply Kd.R_drewN | apply Kd.R_drew)); exact (Kd.R_mono (Kd.R_far (p := ⟨gb515, 1, none⟩) (Kd.R_far (p := ⟨gb515, 0, none⟩) (Kd.R_types HO513.out BK515.out (by decide)) (fun _ hk => hk.2) (.string t510)) (fun _ hk => hk.2) (.slice Ao27 t511.length co27)) (fun _ h_ => h_.1)))); (case side4 => exact (Kd.R_reads' HO513.out).2.1); rintro e w49 ⟨rfl, hb⟩; refine ⟨_, rfl, ?_⟩; have n0_ := Aside0.mk (Kd.R_below (by (with_reducible repeat (first | apply Kd.R_alloc | apply Kd.R_drewN | apply Kd.R_drew)); exact (Kd.R_mono (Kd.R_far (p := ⟨gb515, 1, none⟩) (Kd.R_far (p := ⟨gb515, 0, none⟩) (Kd.R_types HO507.out BK515.out (by decide)) (fun _ hk => hk.2) (.string t510)) (fun _ hk => hk.2) (.slice Ao27 t511.length co27)) (fun _ h_ => h_.1))) hb); have n1_ := Aside0.mk (Kd.R_below (by (with_reducible repeat (first | apply Kd.R_alloc | apply Kd.R_drewN | apply Kd.R_drew)); exact (Kd.R_mono (Kd.R_far (p := ⟨gb515, 1, none⟩) (Kd.R_far (p := ⟨gb515, 0, none⟩) (Kd.R_types HO513.out BK515.out (by decide)) (fun _ hk => hk.2) (.string t510)) (fun _ hk => hk.2) (.slice Ao27 t511.length co27)) (fun _ h_ => h_.1))) hb); have n2_ := Aside0.mk (blk_below (g := gb501) (o := .cells #[.string a1_0, .slice A1_1 l1_1.length c1_1] 47 (0, 0)) (by (with_reducible repeat (first | refine blk_drewN ?_ _ | refine blk_drew ?_ | refine blk_alloc ?_ _)); refine blk_far ?_ NB501_515.out _; (with_reducible repeat (first | refine blk_drewN ?_ _ | refine blk_drew ?_ | refine blk_alloc ?_ _)); refine blk_far ?_ NB501_515.out _; (with_reducible repeat (first | refine blk_drewN ?_ _ | refine blk_drew ?_ | refine blk_alloc ?_ _)); exact BK501.out) hb); have n3_ := Aside0.mk (blk_below (g := gb509) (o := .cells #[.string t504, .slice Ao21 t505.length co21] 51 (0, 0)) (by (with_reducible repeat (first | refine blk_drewN ?_ _ | refine blk_drew ?_ | refine blk_alloc ?_ _)); refine blk_far ?_ NB509_515.out _; (with_reducible repeat (first | refine blk_drewN ?_ _ | refine blk_drew ?_ | refine blk_alloc ?_ _)); refine blk_far ?_ NB509_515.out _; (with_reducible repeat (first | refine blk_drewN ?_ _ | refine blk_drew ?_ | refine blk_alloc ?_ _)); exact BK509.out) hb); have n4_ := Aside0.mk (blk_below (g := gb515) (o := .cells #[.string t510, .slice Ao27 t511.length co27] 47 (0, 0)) (by (with_reducible repeat (first | refine blk_drewN ?_ _ | refine blk_drew ?_ | refine blk_alloc ?_ _)); refine blk_put (cs := #[.string t510, .slice none 0 0]) ?_ 1 _ rfl; (with_reducible repeat (first | refine blk_drewN ?_ _ | refine blk_drew ?_ | refine blk_alloc ?_ _)); exact blk_put (cs := #[.string (⟨#[]⟩ : ByteArray), .slice none 0 0]) bk 0 _ rfl) hb); have n5_ := Aside0.mk (below_step bwS hb); clear HO507; clear HO513; clear BK501; clear BK509; clear BK515; clear HB; have HO507 := n0_; have HO513 := n1_; have BK501 := n2_; have BK509 := n3_; have BK515 := n4_; have HB := n5_; clear n0_ n1_ n2_ n3_ n4_ n5_; (try clear hb); (try clear hb2); (try clear hk); (try clear hi)))
         go_meet
         case rel => exact ⟨_, ((t508 != 200)), cl, H', ⟨by have := HJ3.out; first | omega | exact Nat.le_refl _⟩, ⟨by (with_reducible repeat (first | apply Kd.R_alloc | apply Kd.R_drewN | apply Kd.R_drew)); exact HO507.out⟩, ⟨by (with_reducible repeat (first | apply Kd.R_alloc | apply Kd.R_drewN | apply Kd.R_drew)); exact HO513.out⟩, ⟨bk⟩, ⟨bk⟩, ⟨bk⟩, ⟨bwS⟩⟩
     ·replace c29 := Bool.eq_false_iff.mpr c29; subst c29; have H1 : (bulletinlaw20_MimeTypes.j1 kj3 a2 true a1_0 l1_1) = some r := by rw [if_neg (show ¬ (false = true) by decide)] at H; exact H
      clear H; have H := H1; clear H1; have H' := Aside0.mk H; clear H; have hnb50 := NB509_501.out; have hnc50 := NB501_509.out; have hnb51 := NB509_515.out; have hnc51 := NB515_509.out; have hcz52_0 : w23.cell? ⟨gb509, 0, none⟩ = some (.string t504) := (blk_cell BK509.out 0).trans rfl; have hcz52_1 : w23.cell? ⟨gb509, 1, none⟩ = some (.slice Ao21 t505.length co21) := (blk_cell BK509.out 1).trans rfl; have hfz52_0 := blk_frozen BK509.out 0; have hfz52_1 := blk_frozen BK509.out 1; have hnb53 := NB515_501.out; have hnc53 := NB501_515.out; have hcz54_0 : w23.cell? ⟨gb515, 0, none⟩ = some (.string (⟨#[]⟩ : ByteArray)) := (blk_cell BK515.out 0).trans rfl; have hcz54_1 : w23.cell? ⟨gb515, 1, none⟩ = some (.slice none 0 0) := (blk_cell BK515.out 1).trans rfl; have hfz54_0 := blk_frozen BK515.out 0; have hfz54_1 := blk_frozen BK515.out 1
      as_aux_lemma =>
       go_wp2_with (first | ((with_reducible refine gate_callee (f := 29) rfl ?_); refine goesL_ (some 42) rfl rfl Tryd.func29 (by kernel_rfl) rfl #[.agg #[.string t504, .slice Ao21 t505.length co21], .agg #[.string t510, .slice Ao27 t511.length co27]] rfl am ?_; (with_reducible refine (bulletinlaw20_Same.calls kj3 t504 _ _ t505 t510 _ _ t511 false _ ?side1 ?side2 ?side3 ?side4 A28.out).mono ?_); (case side1 => refine (Kd.R_reads' (e := 104) (base := w.heap.size) (ok := fun k_ => True) (n := t505.length) (c := co21) ?_).2.2; exact (by (with_reducible repeat (first | apply Kd.R_alloc | apply Kd.R_drewN | apply Kd.R_drew)); exact (Kd.R_mono (Kd.R_far (p := ⟨gb515, 1, none⟩) (Kd.R_far (p := ⟨gb515, 0, none⟩) (Kd.R_types HO507.out BK515.out (by decide)) (fun _ hk => hk.2) (.string t510)) (fun _ hk => hk.2) (.slice Ao27 t511.length co27)) (fun _ h_ => h_.1)))); (case side2 => exact (Kd.R_reads' HO507.out).2.1); (case side3 => refine (Kd.R_reads' (e := 97) (base := w.heap.size) (ok := fun k_ => True) (n := t511.length) (c := co27) ?_).2.2; exact (by (with_reducible repeat (first | apply Kd.R_alloc | apply Kd.R_drewN | apply Kd.R_drew)); exact (Kd.R_mono (Kd.R_far (p := ⟨gb515, 1, none⟩) (Kd.R_far (p := ⟨gb515, 0, none⟩) (Kd.R_types HO513.out BK515.out (by decide)) (fun _ hk => hk.2) (.string t510)) (fun _ hk => hk.2) (.slice Ao27 t511.length co27)) (fun _ h_ => h_.1)))); (case side4 => exact (Kd.R_reads' HO513.out).2.1); rintro e w55 ⟨rfl, hb⟩; refine ⟨_, rfl, ?_⟩; have n0_ := Aside0.mk (Kd.R_below (by (with_reducible repeat (first | apply Kd.R_alloc | apply Kd.R_drewN | apply Kd.R_drew)); exact (Kd.R_mono (Kd.R_far (p := ⟨gb515, 1, none⟩) (Kd.R_far (p := ⟨gb515, 0, none⟩) (Kd.R_types HO507.out BK515.out (by decide)) (fun _ hk => hk.2) (.string t510)) (fun _ hk => hk.2) (.slice Ao27 t511.length co27)) (fun _ h_ => h_.1))) hb); have n1_ := Aside0.mk (Kd.R_below (by (with_reducible repeat (first | apply Kd.R_alloc | apply Kd.R_drewN | apply Kd.R_drew)); exact (Kd.R_mono (Kd.R_far (p := ⟨gb515, 1, none⟩) (Kd.R_far (p := ⟨gb515, 0, none⟩) (Kd.R_types HO513.out BK515.out (by decide)) (fun _ hk => hk.2) (.string t510)) (fun _ hk => hk.2) (.slice Ao27 t511.length co27)) (fun _ h_ => h_.1))) hb); have n2_ := Aside0.mk (blk_below (g := gb501) (o := .cells #[.string a1_0, .slice A1_1 l1_1.length c1_1] 47 (0, 0)) (by (with_reducible repeat (first | refine blk_drewN ?_ _ | refine blk_drew ?_ | refine blk_alloc ?_ _)); refine blk_far ?_ NB501_515.out _; (with_reducible repeat (first | refine blk_drewN ?_ _ | refine blk_drew ?_ | refine blk_alloc ?_ _)); refine blk_far ?_ NB501_515.out _; (with_reducible repeat (first | refine blk_drewN ?_ _ | refine blk_drew ?_ | refine blk_alloc ?_ _)); exact BK501.out) hb); have n3_ := Aside0.mk (blk_below (g := gb509) (o := .cells #[.string t504, .slice Ao21 t505.length co21] 51 (0, 0)) (by (with_reducible repeat (first | refine blk_drewN ?_ _ | refine blk_drew ?_ | refine blk_alloc ?_ _)); refine blk_far ?_ NB509_515.out _; (with_reducible repeat (first | refine blk_drewN ?_ _ | refine blk_drew ?_ | refine blk_alloc ?_ _)); refine blk_far ?_ NB509_515.out _; (with_reducible repeat (first | refine blk_drewN ?_ _ | refine blk_drew ?_ | refine blk_alloc ?_ _)); exact BK509.out) hb); have n4_ := Aside0.mk (blk_below (g := gb515) (o := .cells #[.string t510, .slice Ao27 t511.length co27] 47 (0, 0)) (by (with_reducible repeat (first | refine blk_drewN ?_ _ | refine blk_drew ?_ | refine blk_alloc ?_ _)); refine blk_put (cs := #[.string t510, .slice none 0 0]) ?_ 1 _ rfl; (with_reducible repeat (first | refine blk_drewN ?_ _ | refine blk_drew ?_ | refine blk_alloc ?_ _)); exact blk_put (cs := #[.string (⟨#[]⟩ : ByteArray), .slice none 0 0]) bk 0 _ rfl) hb); have n5_ := Aside0.mk (below_step bwS hb); clear HO507; clear HO513; clear BK501; clear BK509; clear BK515; clear HB; have HO507 := n0_; have HO513 := n1_; have BK501 := n2_; have BK509 := n3_; have BK515 := n4_; have HB := n5_; clear n0_ n1_ n2_ n3_ n4_ n5_; (try clear hb); (try clear hb2); (try clear hk); (try clear hi)))
       go_meet
       case rel => exact ⟨_, (true), cl, H', ⟨by have := HJ3.out; first | omega | exact Nat.le_refl _⟩, ⟨by (with_reducible repeat (first | apply Kd.R_alloc | apply Kd.R_drewN | apply Kd.R_drew)); exact HO507.out⟩, ⟨by (with_reducible repeat (first | apply Kd.R_alloc | apply Kd.R_drewN | apply Kd.R_drew)); exact HO513.out⟩, ⟨bk⟩, ⟨bk⟩, ⟨bk⟩, ⟨bwS⟩⟩
    case rest =>
     clear HC16
     try clear c1
     try clear c2
     try clear p2
     try clear c3
     try clear c4
     try clear c5
     try clear c6
     try clear c6b0
     try clear c6b1
     try clear c7
     try clear c7b0
     try clear c7b1
     try clear c11
     try clear c19
     try clear c24
     try clear c25
     try clear c26
     try clear c27
     try clear c28
     try clear c29
     try clear c30
     try clear c30b0
     try clear c30b1
     try clear c30b2
     try clear c31
     try clear c32
     try clear c34
     try clear c37
     try clear c38
     try clear c39
     try clear c41
     try clear c44
     try clear c45
     try clear c47
     try clear c50
     try clear c51
     try clear c53
     try clear hcz20_0
     try clear hcz20_1
     try clear hcz26_0
     try clear hcz26_1
     try clear hcz33_0
     try clear hcz33_1
     try clear hcz35_0
     try clear hcz35_1
     try clear hcz40_0
     try clear hcz40_1
     try clear hcz42_0
     try clear hcz42_1
     try clear hcz46_0
     try clear hcz46_1
     try clear hcz48_0
     try clear hcz48_1
     try clear hcz52_0
     try clear hcz52_1
     try clear hcz54_0
     try clear hcz54_1
     try clear hcz9_0
     try clear hcz9_1
     try clear hfz20_0
     try clear hfz20_1
     try clear hfz26_0
     try clear hfz26_1
     try clear hfz33_0
     try clear hfz33_1
     try clear hfz35_0
     try clear hfz35_1
     try clear hfz40_0
     try clear hfz40_1
     try clear hfz42_0
     try clear hfz42_1
     try clear hfz46_0
     try clear hfz46_1
     try clear hfz48_0
     try clear hfz48_1
     try clear hfz52_0
     try clear hfz52_1
     try clear hfz54_0
     try clear hfz54_1
     try clear hfz9_0
     try clear hfz9_1
     try clear p2
     obtain ⟨kq, x57_15, rfl, HA, HJ15, HO_510001, HO_516001, BK501, BK509, BK515, HB⟩ := hcut; cases kq with
     | zero => exact absurd HA.out (by simp [bulletinlaw20_MimeTypes.j1])
     | succ kj15 =>
      have H := HA.out; clear HA; simp only [bulletinlaw20_MimeTypes.j1] at H
      by_cases c56 : x57_15 = true
      ·subst c56; have H1 : (some false) = some r := by rw [if_pos rfl] at H; exact H
       clear H; have H := H1; clear H1; obtain rfl := Option.some.inj H
       as_aux_lemma =>
        go_wp2
        go_ret
        exact ⟨ew, bwS⟩
      ·replace c56 := Bool.eq_false_iff.mpr c56; subst c56; have H1 : ((bulletinlaw20_To.f kj15 a1_0 l1_1).bind fun bt517 => ((mime_Type_Value.f kj15 bt517.1 bt517.2 a2).bind fun bt522 => ((bulletinref20_Value.f kj15 a1_0 l1_1 a2).bind fun bt524 => ((mime_Type_Text.f kj15 bt517.1 bt517.2).bind fun t526 => ((bulletinref20_Text.f kj15 a1_0 l1_1).bind fun t527 => (if t526.toList = t527.toList then (if bt522.1.toList = bt524.1.toList then (if (bt522.2 == bt524.2) = true then ((bulletinlaw20_works.f kj15).bind fun t528 => (some t528)) else (some false)) else (some false)) else (some false))))))) = some r := by rw [if_neg (show ¬ (false = true) by decide)] at H; exact H
       clear H; have H := H1; clear H1; replace H := Option.bind_eq_some_iff.mp H; obtain ⟨⟨t517, t518⟩, A570, H⟩ := H; replace H : ((mime_Type_Value.f kj15 t517 t518 a2).bind fun bt522 => ((bulletinref20_Value.f kj15 a1_0 l1_1 a2).bind fun bt524 => ((mime_Type_Text.f kj15 t517 t518).bind fun t526 => ((bulletinref20_Text.f kj15 a1_0 l1_1).bind fun t527 => (if t526.toList = t527.toList then (if bt522.1.toList = bt524.1.toList then (if (bt522.2 == bt524.2) = true then ((bulletinlaw20_works.f kj15).bind fun t528 => (some t528)) else (some false)) else (some false)) else (some false)))))) = some r := H; have A57 := Aside0.mk A570; clear A570; replace H := Option.bind_eq_some_iff.mp H; obtain ⟨⟨t522, t523⟩, A580, H⟩ := H; replace H : ((bulletinref20_Value.f kj15 a1_0 l1_1 a2).bind fun bt524 => ((mime_Type_Text.f kj15 t517 t518).bind fun t526 => ((bulletinref20_Text.f kj15 a1_0 l1_1).bind fun t527 => (if t526.toList = t527.toList then (if t522.toList = bt524.1.toList then (if (t523 == bt524.2) = true then ((bulletinlaw20_works.f kj15).bind fun t528 => (some t528)) else (some false)) else (some false)) else (some false))))) = some r := H; have A58 := Aside0.mk A580; clear A580; replace H := Option.bind_eq_some_iff.mp H; obtain ⟨⟨t524, t525⟩, A590, H⟩ := H; replace H : ((mime_Type_Text.f kj15 t517 t518).bind fun t526 => ((bulletinref20_Text.f kj15 a1_0 l1_1).bind fun t527 => (if t526.toList = t527.toList then (if t522.toList = t524.toList then (if (t523 == t525) = true then ((bulletinlaw20_works.f kj15).bind fun t528 => (some t528)) else (some false)) else (some false)) else (some false)))) = some r := H; have A59 := Aside0.mk A590; clear A590; replace H := Option.bind_eq_some_iff.mp H; obtain ⟨t526, A600, H⟩ := H; replace H : ((bulletinref20_Text.f kj15 a1_0 l1_1).bind fun t527 => (if t526.toList = t527.toList then (if t522.toList = t524.toList then (if (t523 == t525) = true then ((bulletinlaw20_works.f kj15).bind fun t528 => (some t528)) else (some false)) else (some false)) else (some false))) = some r := H; have A60 := Aside0.mk A600; clear A600; replace H := Option.bind_eq_some_iff.mp H; obtain ⟨t527, A610, H⟩ := H; replace H : (if t526.toList = t527.toList then (if t522.toList = t524.toList then (if (t523 == t525) = true then ((bulletinlaw20_works.f kj15).bind fun t528 => (some t528)) else (some false)) else (some false)) else (some false)) = some r := H; have A61 := Aside0.mk A610; clear A610
       by_cases c62 : t526.toList = t527.toList
       ·rw [if_pos c62] at H; have c62b0 : (t526.toList == t527.toList) = true := beq_iff_eq.mpr c62; have c62b1 : (t526.toList != t527.toList) = false := bne_eq_false_iff_eq.mpr c62; clear c62
        by_cases c63 : t522.toList = t524.toList
        ·rw [if_pos c63] at H; have c63b0 : (t522.toList == t524.toList) = true := beq_iff_eq.mpr c63; have c63b1 : (t522.toList != t524.toList) = false := bne_eq_false_iff_eq.mpr c63; clear c63
         by_cases c64 : (t523 == t525) = true
         ·rw [if_pos c64] at H; have c64b0 : (t523 == t525) = true := c64
          (try (have c64b1 : decide (t523 = t525) = true := by simpa using c64))
          (try (have c64b2 : (t523 == t525) = true := by simpa using c64))
          clear c64; replace H := Option.bind_eq_some_iff.mp H; obtain ⟨t528, A650, H⟩ := H; replace H : (some t528) = some r := H; have A65 := Aside0.mk A650; clear A650; obtain rfl := Option.some.inj H; have hnb66 := NB501_509.out; have hnc66 := NB509_501.out; have hnb67 := NB501_515.out; have hnc67 := NB515_501.out; have hcz68_0 : wc.cell? ⟨gb501, 0, none⟩ = some (.string a1_0) := (blk_cell BK501.out 0).trans rfl; have hcz68_1 : wc.cell? ⟨gb501, 1, none⟩ = some (.slice A1_1 l1_1.length c1_1) := (blk_cell BK501.out 1).trans rfl; have hfz68_0 := blk_frozen BK501.out 0; have hfz68_1 := blk_frozen BK501.out 1
          as_aux_lemma =>
           try go_wp2_with (first | ((with_reducible refine gate_callee (f := 30) rfl ?_); refine goesL_ (some 59) rfl rfl Tryd.func30 (by kernel_rfl) rfl #[.agg #[.string a1_0, .slice A1_1 l1_1.length c1_1]] rfl am ?_; (with_reducible refine (bulletinlaw20_To.calls kj15 a1_0 _ _ l1_1 t517 t518 _ ?side1 ?side2 A57.out).mono ?_); (case side1 => repeat (first | exact (Kd.C_below HR1_1.out HB.out) | (with_reducible refine Kd.C_alloc ?_ _) | (with_reducible refine Kd.C_drewN ?_ _) | (with_reducible refine Kd.C_drew ?_))); (case side2 => exact HC1_1.out); rintro e w69 ⟨v519, rfl, ho0, hb⟩; refine ⟨_, rfl, ?_⟩; have n0_ := Aside0.mk (Kd.R_elder' (ra HO_510001.out) (Kd.R_base ho0) hb); have n1_ := Aside0.mk (Kd.R_below (ra HO_516001.out) hb); have n2_ := Aside0.mk (Kd.R_lower (Kd.R_new' ho0 (Kd.R_lt (ra HO_510001.out))) (below_size bwS)); have n3_ := Aside0.mk (blk_below (g := gb501) (o := .cells #[.string a1_0, .slice A1_1 l1_1.length c1_1] 47 (0, 0)) bk hb); have n4_ := Aside0.mk (blk_below (g := gb509) (o := .cells #[.string t504, .slice Ao21 t505.length co21] 51 (0, 0)) bk hb); have n5_ := Aside0.mk (blk_below (g := gb515) (o := .cells #[.string t510, .slice Ao27 t511.length co27] 47 (0, 0)) bk hb); have n6_ := Aside0.mk (below_step bwS hb); clear HO_510001; clear HO_516001; clear BK501; clear BK509; clear BK515; clear HB; have HO_510001 := n0_; have HO_516001 := n1_; have HO520 := n2_; have BK501 := n3_; have BK509 := n4_; have BK515 := n5_; have HB := n6_; clear n0_ n1_ n2_ n3_ n4_ n5_ n6_; (try clear hb); (try clear hb2); (try clear hk); (try clear hi); (try clear ho0)) | ((with_reducible refine gate_dst (N := 11) rfl ?_); (try (refine gate_guard (by rfl) ?_; dsimp only)); refine box_event ?hg (N := 11) ?hd (cs := #[.string (⟨#[]⟩ : ByteArray), .slice none 0 0]) (t := 51) ?hr ?_; (case hd => rfl); (case hg => rfl); (case hr => first | (go_simp; done) | (go_simp; rfl)); intro gb521 hg w70 hbox hb; have n0_ := Aside0.mk (Kd.R_below (ra HO_510001.out) hb); have n1_ := Aside0.mk (Kd.R_below (ra HO_516001.out) hb); have n2_ := Aside0.mk (Kd.R_below (ra HO520.out) hb); have n3_ := Aside0.mk (blk_below (g := gb501) (o := .cells #[.string a1_0, .slice A1_1 l1_1.length c1_1] 47 (0, 0)) bk hb); have n4_ := Aside0.mk (blk_below (g := gb509) (o := .cells #[.string t504, .slice Ao21 t505.length co21] 51 (0, 0)) bk hb); have n5_ := Aside0.mk (blk_below (g := gb515) (o := .cells #[.string t510, .slice Ao27 t511.length co27] 47 (0, 0)) bk hb); have n6_ := Aside0.mk (below_step bwS hb); have n7_ := Aside0.mk (hbox); have n8_ := Aside0.mk ((by rw [hg]; exact (below_size bwS) : w.heap.size ≤ gb521)); have n9_ := Aside0.mk ((by rw [hg]; exact (below_size bwS) : w.heap.size ≤ gb521)); have n10_ := Aside0.mk ((by rw [hg]; exact Nat.ne_of_lt (blk_lt (g := gb501) (o := .cells #[.string a1_0, .slice A1_1 l1_1.length c1_1] 47 (0, 0)) bk) : gb501 ≠ gb521)); have n11_ := Aside0.mk ((by rw [hg]; exact Nat.ne_of_gt (blk_lt (g := gb501) (o := .cells #[.string a1_0, .slice A1_1 l1_1.length c1_1] 47 (0, 0)) bk) : gb521 ≠ gb501)); have n12_ := Aside0.mk ((by rw [hg]; exact Nat.ne_of_lt (blk_lt (g := gb509) (o := .cells #[.string t504, .slice Ao21 t505.length co21] 51 (0, 0)) bk) : gb509 ≠ gb521)); have n13_ := Aside0.mk ((by rw [hg]; exact Nat.ne_of_gt (blk_lt (g := gb509) (o := .cells #[.string t504, .slice Ao21 t505.length co21] 51 (0, 0)) bk) : gb521 ≠ gb509)); have n14_ := Aside0.mk ((by rw [hg]; exact Nat.ne_of_lt (blk_lt (g := gb515) (o := .cells #[.string t510, .slice Ao27 t511.length co27] 47 (0, 0)) bk) : gb515 ≠ gb521)); have n15_ := Aside0.mk ((by rw [hg]; exact Nat.ne_of_gt (blk_lt (g := gb515) (o := .cells #[.string t510, .slice Ao27 t511.length co27] 47 (0, 0)) bk) : gb521 ≠ gb515)); clear HO_510001; clear HO_516001; clear HO520; clear BK501; clear BK509; clear BK515; clear HB; have HO_510001 := n0_; have HO_516001 := n1_; have HO520 := n2_; have BK501 := n3_; have BK509 := n4_; have BK515 := n5_; have HB := n6_; have BK521 := n7_; have GW521 := n8_; have GE521 := n9_; have NB501_521 := n10_; have NB521_501 := n11_; have NB509_521 := n12_; have NB521_509 := n13_; have NB515_521 := n14_; have NB521_515 := n15_; clear n0_ n1_ n2_ n3_ n4_ n5_ n6_ n7_ n8_ n9_ n10_ n11_ n12_ n13_ n14_ n15_; clear hb hbox hg; have hnb71 := NB521_501.out; have hnc71 := NB501_521.out; have hnb72 := NB521_509.out; have hnc72 := NB509_521.out; have hnb73 := NB521_515.out; have hnc73 := NB515_521.out; have hcz74_0 : w70.cell? ⟨gb521, 0, none⟩ = some (.string (⟨#[]⟩ : ByteArray)) := (blk_cell BK521.out 0).trans rfl; have hcz74_1 : w70.cell? ⟨gb521, 1, none⟩ = some (.slice none 0 0) := (blk_cell BK521.out 1).trans rfl; have hfz74_0 := blk_frozen BK521.out 0; have hfz74_1 := blk_frozen BK521.out 1; obtain ⟨Ao75, co75, eo75⟩ := Kd.R_slice HO520.out; subst eo75) | ((with_reducible refine gate_callee (f := 31) rfl ?_); refine goesL_ (some 63) rfl rfl Tryd.func31 (by kernel_rfl) rfl #[.agg #[.string t517, .slice Ao75 t518.length co75], .string a2] rfl am ?_; (with_reducible refine (mime_Type_Value.calls kj15 t517 _ _ t518 a2 t522 t523 _ ?side1 ?side2 A58.out).mono ?_); (case side1 => refine (Kd.R_reads' (e := 104) (base := w.heap.size) (ok := fun k_ => (True ∧ some k_ ≠ (.slice Ao21 t505.length co21 : Value).ownBlock)) (n := t518.length) (c := co75) ?_).2.2; exact (by (with_reducible repeat (first | apply Kd.R_alloc | apply Kd.R_drewN | apply Kd.R_drew)); exact (Kd.R_mono (Kd.R_far (p := ⟨gb521, 1, none⟩) (Kd.R_far (p := ⟨gb521, 0, none⟩) (Kd.R_types HO520.out BK521.out (by decide)) (fun _ hk => hk.2) (.string t517)) (fun _ hk => hk.2) (.slice Ao75 t518.length co75)) (fun _ h_ => h_.1)))); (case side2 => exact (Kd.R_reads' HO520.out).2.1); rintro e w76 ⟨rfl, hb⟩; refine ⟨_, rfl, ?_⟩; have n0_ := Aside0.mk (Kd.R_below (by (with_reducible repeat (first | apply Kd.R_alloc | apply Kd.R_drewN | apply Kd.R_drew)); exact (Kd.R_mono (Kd.R_far (p := ⟨gb521, 1, none⟩) (Kd.R_far (p := ⟨gb521, 0, none⟩) (Kd.R_types HO_510001.out BK521.out (by decide)) (fun _ hk => hk.2) (.string t517)) (fun _ hk => hk.2) (.slice Ao75 t518.length co75)) (fun _ h_ => h_.1))) hb); have n1_ := Aside0.mk (Kd.R_below (by (with_reducible repeat (first | apply Kd.R_alloc | apply Kd.R_drewN | apply Kd.R_drew)); exact (Kd.R_mono (Kd.R_far (p := ⟨gb521, 1, none⟩) (Kd.R_far (p := ⟨gb521, 0, none⟩) (Kd.R_types HO_516001.out BK521.out (by decide)) (fun _ hk => hk.2) (.string t517)) (fun _ hk => hk.2) (.slice Ao75 t518.length co75)) (fun _ h_ => h_.1))) hb); have n2_ := Aside0.mk (Kd.R_below (by (with_reducible repeat (first | apply Kd.R_alloc | apply Kd.R_drewN | apply Kd.R_drew)); exact (Kd.R_mono (Kd.R_far (p := ⟨gb521, 1, none⟩) (Kd.R_far (p := ⟨gb521, 0, none⟩) (Kd.R_types HO520.out BK521.out (by decide)) (fun _ hk => hk.2) (.string t517)) (fun _ hk => hk.2) (.slice Ao75 t518.length co75)) (fun _ h_ => h_.1))) hb); have n3_ := Aside0.mk (blk_below (g := gb501) (o := .cells #[.string a1_0, .slice A1_1 l1_1.length c1_1] 47 (0, 0)) (by (with_reducible repeat (first | refine blk_drewN ?_ _ | refine blk_drew ?_ | refine blk_alloc ?_ _)); refine blk_far ?_ NB501_521.out _; (with_reducible repeat (first | refine blk_drewN ?_ _ | refine blk_drew ?_ | refine blk_alloc ?_ _)); refine blk_far ?_ NB501_521.out _; (with_reducible repeat (first | refine blk_drewN ?_ _ | refine blk_drew ?_ | refine blk_alloc ?_ _)); exact BK501.out) hb); have n4_ := Aside0.mk (blk_below (g := gb509) (o := .cells #[.string t504, .slice Ao21 t505.length co21] 51 (0, 0)) (by (with_reducible repeat (first | refine blk_drewN ?_ _ | refine blk_drew ?_ | refine blk_alloc ?_ _)); refine blk_far ?_ NB509_521.out _; (with_reducible repeat (first | refine blk_drewN ?_ _ | refine blk_drew ?_ | refine blk_alloc ?_ _)); refine blk_far ?_ NB509_521.out _; (with_reducible repeat (first | refine blk_drewN ?_ _ | refine blk_drew ?_ | refine blk_alloc ?_ _)); exact BK509.out) hb); have n5_ := Aside0.mk (blk_below (g := gb515) (o := .cells #[.string t510, .slice Ao27 t511.length co27] 47 (0, 0)) (by (with_reducible repeat (first | refine blk_drewN ?_ _ | refine blk_drew ?_ | refine blk_alloc ?_ _)); refine blk_far ?_ NB515_521.out _; (with_reducible repeat (first | refine blk_drewN ?_ _ | refine blk_drew ?_ | refine blk_alloc ?_ _)); refine blk_far ?_ NB515_521.out _; (with_reducible repeat (first | refine blk_drewN ?_ _ | refine blk_drew ?_ | refine blk_alloc ?_ _)); exact BK515.out) hb); have n6_ := Aside0.mk (blk_below (g := gb521) (o := .cells #[.string t517, .slice Ao75 t518.length co75] 51 (0, 0)) (by (with_reducible repeat (first | refine blk_drewN ?_ _ | refine blk_drew ?_ | refine blk_alloc ?_ _)); refine blk_put (cs := #[.string t517, .slice none 0 0]) ?_ 1 _ rfl; (with_reducible repeat (first | refine blk_drewN ?_ _ | refine blk_drew ?_ | refine blk_alloc ?_ _)); exact blk_put (cs := #[.string (⟨#[]⟩ : ByteArray), .slice none 0 0]) bk 0 _ rfl) hb); have n7_ := Aside0.mk (below_step bwS hb); clear HO_510001; clear HO_516001; clear HO520; clear BK501; clear BK509; clear BK515; clear BK521; clear HB; have HO_510001 := n0_; have HO_516001 := n1_; have HO520 := n2_; have BK501 := n3_; have BK509 := n4_; have BK515 := n5_; have BK521 := n6_; have HB := n7_; clear n0_ n1_ n2_ n3_ n4_ n5_ n6_ n7_; (try clear hb); (try clear hb2); (try clear hk); (try clear hi); have hcz77_0 : w76.cell? ⟨gb501, 0, none⟩ = some (.string a1_0) := (blk_cell BK501.out 0).trans rfl; have hcz77_1 : w76.cell? ⟨gb501, 1, none⟩ = some (.slice A1_1 l1_1.length c1_1) := (blk_cell BK501.out 1).trans rfl; have hfz77_0 := blk_frozen BK501.out 0; have hfz77_1 := blk_frozen BK501.out 1) | ((with_reducible refine gate_callee (f := 32) rfl ?_); refine goesL_ (some 69) rfl rfl Tryd.func32 (by kernel_rfl) rfl #[.agg #[.string a1_0, .slice A1_1 l1_1.length c1_1], .string a2] rfl am ?_; (with_reducible refine (bulletinref20_Value.calls kj15 a1_0 _ _ l1_1 a2 t524 t525 _ ?side1 ?side2 A59.out).mono ?_); (case side1 => repeat (first | exact (Kd.C_below HR1_1.out HB.out) | (with_reducible refine Kd.C_alloc ?_ _) | (with_reducible refine Kd.C_drewN ?_ _) | (with_reducible refine Kd.C_drew ?_))); (case side2 => exact HC1_1.out); rintro e w78 ⟨rfl, hb⟩; refine ⟨_, rfl, ?_⟩; have n0_ := Aside0.mk (Kd.R_below (ra HO_510001.out) hb); have n1_ := Aside0.mk (Kd.R_below (ra HO_516001.out) hb); have n2_ := Aside0.mk (Kd.R_below (ra HO520.out) hb); have n3_ := Aside0.mk (blk_below (g := gb501) (o := .cells #[.string a1_0, .slice A1_1 l1_1.length c1_1] 47 (0, 0)) bk hb); have n4_ := Aside0.mk (blk_below (g := gb509) (o := .cells #[.string t504, .slice Ao21 t505.length co21] 51 (0, 0)) bk hb); have n5_ := Aside0.mk (blk_below (g := gb515) (o := .cells #[.string t510, .slice Ao27 t511.length co27] 47 (0, 0)) bk hb); have n6_ := Aside0.mk (blk_below (g := gb521) (o := .cells #[.string t517, .slice Ao75 t518.length co75] 51 (0, 0)) bk hb); have n7_ := Aside0.mk (below_step bwS hb); clear HO_510001; clear HO_516001; clear HO520; clear BK501; clear BK509; clear BK515; clear BK521; clear HB; have HO_510001 := n0_; have HO_516001 := n1_; have HO520 := n2_; have BK501 := n3_; have BK509 := n4_; have BK515 := n5_; have BK521 := n6_; have HB := n7_; clear n0_ n1_ n2_ n3_ n4_ n5_ n6_ n7_; (try clear hb); (try clear hb2); (try clear hk); (try clear hi)))
           have n0_ := Aside0.mk (Kd.R_drew HO_510001.out); have n1_ := Aside0.mk (Kd.R_drew HO_516001.out); have n2_ := Aside0.mk (Kd.R_drew HO520.out); have n3_ := Aside0.mk (blk_drew BK501.out); have n4_ := Aside0.mk (blk_drew BK509.out); have n5_ := Aside0.mk (blk_drew BK515.out); have n6_ := Aside0.mk (blk_drew BK521.out); have n7_ := Aside0.mk (below_drew1 HB.out); clear HO_510001 HO_516001 HO520 BK501 BK509 BK515 BK521 HB; have HO_510001 := n0_; have HO_516001 := n1_; have HO520 := n2_; have BK501 := n3_; have BK509 := n4_; have BK515 := n5_; have BK521 := n6_; have HB := n7_; clear n0_ n1_ n2_ n3_ n4_ n5_ n6_ n7_; refine start_ (n := 19) (S := fun w' => w'.cell? ⟨gb521, 0, none⟩ = some (.string t517) ∧ w'.cell? ⟨gb521, 1, none⟩ = some (.slice Ao75 t518.length co75) ∧ w'.cell? ⟨gb501, 0, none⟩ = some (.string a1_0) ∧ w'.cell? ⟨gb501, 1, none⟩ = some (.slice A1_1 l1_1.length c1_1)) (ds := []) #[false, false, false, false, false, false, false, false, false, false, false, false, false, false, false, false, false, false, false] (by kernel_rfl) rfl rfl ⟨(blk_cell BK521.out 0).trans rfl, (blk_cell BK521.out 1).trans rfl, (blk_cell BK501.out 0).trans rfl, (blk_cell BK501.out 1).trans rfl⟩ (fun hHeld => ?_); refine with_tabW bulletinlaw20_MimeTypes.tab10 bulletinlaw20_MimeTypes.bits10 (fun HT_ HW_ => ?_)
           generalize w78.drew = w79 at HO_510001 HO_516001 HO520 BK501 BK509 BK515 BK521 HB hHeld ⊢
           refine take_ (i := 0) (N := some 72) (v := ?_) (a' := ?_) (bitsL 19 1) rfl rfl (take_ofW HT_.out HW_.out (by kernel_rfl)) (fun _ _ _ h => h) (Or.inl ⟨by rfl, ?_⟩) hHeld ?_ ?_; rotate_left
           ·rintro w' ⟨s0, s1, s2, s3⟩; go_simp; with_reducible rfl
           rotate_left
           ·simp only [Act.put, List.setIfInBounds_toArray, List.set_cons_zero, List.set_cons_succ, i64_w, i32_w]; rfl
           refine take_ (i := 2) (N := some 74) (v := ?_) (a' := ?_) (bitsL 19 5) rfl rfl (take_ofW HT_.out HW_.out (by kernel_rfl)) (fun _ _ _ h => h) (Or.inl ⟨by rfl, ?_⟩) hHeld ?_ ?_; rotate_left
           ·rintro w' ⟨s0, s1, s2, s3⟩; go_simp; with_reducible rfl
           rotate_left
           ·simp only [Act.put, List.setIfInBounds_toArray, List.set_cons_zero, List.set_cons_succ, i64_w, i32_w]; rfl
           refine one_ (i := 1) (N := some 73) (bitsL 19 7) rfl rfl (one_of HT_.out (by kernel_rfl)) (by decide) (fun K hK => ?_); refine goes_ Tryd.func33 (by kernel_rfl) rfl #[.agg #[.string t517, .slice Ao75 t518.length co75]] (by rfl) rfl rfl am ?_; with_reducible refine (mime_Type_Text.calls (hG := by first | exact hG | exact Glob.below hG (by first | exact HB.out | (repeat (first | (with_reducible first | exact HB.out | apply below_alloc | apply pw_below_drewN | apply below_drew1 | refine below_set ?_ GE501.out | refine below_set ?_ GE509.out | refine below_set ?_ GE515.out | refine below_set ?_ GE521.out) | exact HB.out))) | exact Glob.drawn hG (d0)) kj15 t517 _ _ t518 t526 _ ?side1 ?side2 A60.out).mono ?_
           (case side1 => repeat (first | exact (Kd.R_reads' HO520.out).2.2 | (with_reducible refine Kd.C_alloc ?_ _) | (with_reducible refine Kd.C_drewN ?_ _) | (with_reducible refine Kd.C_drew ?_)))
           (case side2 => exact (Kd.R_reads' HO520.out).2.1)
           rintro e w80 ⟨rfl, hb⟩; refine ⟨_, rfl, ?_⟩; have n0_ := Aside0.mk (Kd.R_below (ra HO_510001.out) hb); have n1_ := Aside0.mk (Kd.R_below (ra HO_516001.out) hb); have n2_ := Aside0.mk (Kd.R_below (ra HO520.out) hb); have n3_ := Aside0.mk (blk_below (g := gb501) (o := .cells #[.string a1_0, .slice A1_1 l1_1.length c1_1] 47 (0, 0)) bk hb); have n4_ := Aside0.mk (blk_below (g := gb509) (o := .cells #[.string t504, .slice Ao21 t505.length co21] 51 (0, 0)) bk hb); have n5_ := Aside0.mk (blk_below (g := gb515) (o := .cells #[.string t510, .slice Ao27 t511.length co27] 47 (0, 0)) bk hb); have n6_ := Aside0.mk (blk_below (g := gb521) (o := .cells #[.string t517, .slice Ao75 t518.length co75] 51 (0, 0)) bk hb); have n7_ := Aside0.mk (below_step bwS hb); clear HO_510001 HO_516001 HO520 BK501 BK509 BK515 BK521 HB; have HO_510001 := n0_; have HO_516001 := n1_; have HO520 := n2_; have BK501 := n3_; have BK509 := n4_; have BK515 := n5_; have BK521 := n6_; have HB := n7_; clear n0_ n1_ n2_ n3_ n4_ n5_ n6_ n7_
           (try clear hb)
           (try clear hb2)
           (try clear hk)
           (try clear hi)
           refine hK.out _ _ ⟨(blk_cell BK521.out 0).trans rfl, (blk_cell BK521.out 1).trans rfl, (blk_cell BK501.out 0).trans rfl, (blk_cell BK501.out 1).trans rfl⟩ (fun hHeld => ?_); clear hK K; refine norm_ (a' := ?_) ?_ ?_; rotate_left
           ·show Act.put _ (some 73) _ = _
            simp only [Act.put, List.setIfInBounds_toArray, List.set_cons_zero, List.set_cons_succ, i64_w, i32_w]; rfl
           refine one_ (i := 3) (N := some 75) (bitsL 19 15) rfl rfl (one_of HT_.out (by kernel_rfl)) (by decide) (fun K hK => ?_); refine goes_ Tryd.func34 (by kernel_rfl) rfl #[.agg #[.string a1_0, .slice A1_1 l1_1.length c1_1]] (by rfl) rfl rfl am ?_; with_reducible refine (bulletinref20_Text.calls kj15 a1_0 _ _ l1_1 t527 _ ?side1 ?side2 A61.out).mono ?_
           (case side1 => repeat (first | exact (Kd.C_below HR1_1.out HB.out) | (with_reducible refine Kd.C_alloc ?_ _) | (with_reducible refine Kd.C_drewN ?_ _) | (with_reducible refine Kd.C_drew ?_)))
           (case side2 => exact HC1_1.out)
           rintro e w81 ⟨rfl, hb⟩; refine ⟨_, rfl, ?_⟩; have n0_ := Aside0.mk (Kd.R_below (ra HO_510001.out) hb); have n1_ := Aside0.mk (Kd.R_below (ra HO_516001.out) hb); have n2_ := Aside0.mk (Kd.R_below (ra HO520.out) hb); have n3_ := Aside0.mk (blk_below (g := gb501) (o := .cells #[.string a1_0, .slice A1_1 l1_1.length c1_1] 47 (0, 0)) bk hb); have n4_ := Aside0.mk (blk_below (g := gb509) (o := .cells #[.string t504, .slice Ao21 t505.length co21] 51 (0, 0)) bk hb); have n5_ := Aside0.mk (blk_below (g := gb515) (o := .cells #[.string t510, .slice Ao27 t511.length co27] 47 (0, 0)) bk hb); have n6_ := Aside0.mk (blk_below (g := gb521) (o := .cells #[.string t517, .slice Ao75 t518.length co75] 51 (0, 0)) bk hb); have n7_ := Aside0.mk (below_step bwS hb); clear HO_510001 HO_516001 HO520 BK501 BK509 BK515 BK521 HB; have HO_510001 := n0_; have HO_516001 := n1_; have HO520 := n2_; have BK501 := n3_; have BK509 := n4_; have BK515 := n5_; have BK521 := n6_; have HB := n7_; clear n0_ n1_ n2_ n3_ n4_ n5_ n6_ n7_
           (try clear hb)
           (try clear hb2)
           (try clear hk)
           (try clear hi)
           refine hK.out _ _ ⟨(blk_cell BK521.out 0).trans rfl, (blk_cell BK521.out 1).trans rfl, (blk_cell BK501.out 0).trans rfl, (blk_cell BK501.out 1).trans rfl⟩ (fun hHeld => ?_); clear hK K; refine norm_ (a' := ?_) ?_ ?_; rotate_left
           ·show Act.put _ (some 75) _ = _
            simp only [Act.put, List.setIfInBounds_toArray, List.set_cons_zero, List.set_cons_succ, i64_w, i32_w]; rfl
           refine pure_ (i := 4) (N := some 76) (v := ?_) (a' := ?_) (bitsL 19 31) rfl rfl (any_of HT_.out (by kernel_rfl)) (fun _ _ _ h => h) (Or.inl ⟨by rfl, ?_⟩) ?_ ?_; rotate_left
           ·intro w'; go_simp; with_reducible rfl
           rotate_left
           ·simp only [Act.put, List.setIfInBounds_toArray, List.set_cons_zero, List.set_cons_succ, i64_w, i32_w]; rfl
           refine pure_ (i := 5) (N := some 77) (v := ?_) (a' := ?_) (bitsL 19 63) rfl rfl (any_of HT_.out (by kernel_rfl)) (fun _ _ _ h => h) (Or.inl ⟨by rfl, ?_⟩) ?_ ?_; rotate_left
           ·intro w'; go_simp; with_reducible rfl
           rotate_left
           ·simp only [Act.put, List.setIfInBounds_toArray, List.set_cons_zero, List.set_cons_succ, i64_w, i32_w]; rfl
           refine pure_ (i := 6) (N := some 78) (v := ?_) (a' := ?_) (bitsL 19 127) rfl rfl (any_of HT_.out (by kernel_rfl)) (fun _ _ _ h => h) (Or.inl ⟨by rfl, ?_⟩) ?_ ?_; rotate_left
           ·intro w'; go_simp; with_reducible rfl
           rotate_left
           ·simp only [Act.put, List.setIfInBounds_toArray, List.set_cons_zero, List.set_cons_succ, i64_w, i32_w]; rfl
           refine pure_ (i := 7) (N := some 79) (v := ?_) (a' := ?_) (bitsL 19 255) rfl rfl (any_of HT_.out (by kernel_rfl)) (fun _ _ _ h => h) (Or.inl ⟨by rfl, ?_⟩) ?_ ?_; rotate_left
           ·intro w'; go_simp; with_reducible rfl
           rotate_left
           ·simp only [Act.put, List.setIfInBounds_toArray, List.set_cons_zero, List.set_cons_succ, i64_w, i32_w]; rfl
           refine pure_ (i := 8) (N := some 80) (v := ?_) (a' := ?_) (bitsL 19 511) rfl rfl (any_of HT_.out (by kernel_rfl)) (fun _ _ _ h => h) (Or.inl ⟨by rfl, ?_⟩) ?_ ?_; rotate_left
           ·intro w'; go_simp; with_reducible rfl
           rotate_left
           ·simp only [Act.put, List.setIfInBounds_toArray, List.set_cons_zero, List.set_cons_succ, i64_w, i32_w]; rfl
           refine pure_ (i := 9) (N := some 81) (v := ?_) (a' := ?_) (bitsL 19 1023) rfl rfl (any_of HT_.out (by kernel_rfl)) (fun _ _ _ h => h) (Or.inl ⟨by rfl, ?_⟩) ?_ ?_; rotate_left
           ·intro w'; go_simp; with_reducible rfl
           rotate_left
           ·simp only [Act.put, List.setIfInBounds_toArray, List.set_cons_zero, List.set_cons_succ, i64_w, i32_w]; rfl
           refine pure_ (i := 10) (N := some 82) (v := ?_) (a' := ?_) (bitsL 19 2047) rfl rfl (any_of HT_.out (by kernel_rfl)) (fun _ _ _ h => h) (Or.inl ⟨by rfl, ?_⟩) ?_ ?_; rotate_left
           ·intro w'; go_simp; with_reducible rfl
           rotate_left
           ·simp only [Act.put, List.setIfInBounds_toArray, List.set_cons_zero, List.set_cons_succ, i64_w, i32_w]; rfl
           refine pure_ (i := 11) (N := some 83) (v := ?_) (a' := ?_) (bitsL 19 4095) rfl rfl (any_of HT_.out (by kernel_rfl)) (fun _ _ _ h => h) (Or.inl ⟨by rfl, ?_⟩) ?_ ?_; rotate_left
           ·intro w'; go_simp; with_reducible rfl
           rotate_left
           ·simp only [Act.put, List.setIfInBounds_toArray, List.set_cons_zero, List.set_cons_succ, i64_w, i32_w]; rfl
           refine pure_ (i := 12) (N := some 84) (v := ?_) (a' := ?_) (bitsL 19 8191) rfl rfl (any_of HT_.out (by kernel_rfl)) (fun _ _ _ h => h) (Or.inl ⟨by rfl, ?_⟩) ?_ ?_; rotate_left
           ·intro w'; go_simp; with_reducible rfl
           rotate_left
           ·simp only [Act.put, List.setIfInBounds_toArray, List.set_cons_zero, List.set_cons_succ, i64_w, i32_w]; rfl
           refine pure_ (i := 13) (N := some 85) (v := ?_) (a' := ?_) (bitsL 19 16383) rfl rfl (any_of HT_.out (by kernel_rfl)) (fun _ _ _ h => h) (Or.inl ⟨by rfl, ?_⟩) ?_ ?_; rotate_left
           ·intro w'; go_simp; with_reducible rfl
           rotate_left
           ·simp only [Act.put, List.setIfInBounds_toArray, List.set_cons_zero, List.set_cons_succ, i64_w, i32_w]; rfl
           refine pure_ (i := 14) (N := some 86) (v := ?_) (a' := ?_) (bitsL 19 32767) rfl rfl (any_of HT_.out (by kernel_rfl)) (fun _ _ _ h => h) (Or.inl ⟨by rfl, ?_⟩) ?_ ?_; rotate_left
           ·intro w'; go_simp; with_reducible rfl
           rotate_left
           ·simp only [Act.put, List.setIfInBounds_toArray, List.set_cons_zero, List.set_cons_succ, i64_w, i32_w]; rfl
           refine pure_ (i := 15) (N := some 87) (v := ?_) (a' := ?_) (bitsL 19 65535) rfl rfl (any_of HT_.out (by kernel_rfl)) (fun _ _ _ h => h) (Or.inl ⟨by rfl, ?_⟩) ?_ ?_; rotate_left
           ·intro w'; go_simp; with_reducible rfl
           rotate_left
           ·simp only [Act.put, List.setIfInBounds_toArray, List.set_cons_zero, List.set_cons_succ, i64_w, i32_w]; rfl
           refine one_ (i := 16) (N := some 88) (bitsL 19 131071) rfl rfl (one_of HT_.out (by kernel_rfl)) (by decide) (fun K hK => ?_); refine goes_ Tryd.func26 (by kernel_rfl) rfl #[] (by rfl) rfl rfl am ?_; with_reducible refine (bulletinlaw20_works.calls (hG := by first | exact hG | exact Glob.below hG (by first | exact HB.out | (repeat (first | (with_reducible first | exact HB.out | apply below_alloc | apply pw_below_drewN | apply below_drew1 | refine below_set ?_ GE501.out | refine below_set ?_ GE509.out | refine below_set ?_ GE515.out | refine below_set ?_ GE521.out) | exact HB.out))) | exact Glob.drawn hG (d0)) kj15  t528 _ A65.out).mono ?_; rintro e w82 ⟨rfl, hb⟩; refine ⟨_, rfl, ?_⟩; have n0_ := Aside0.mk (Kd.R_below (ra HO_510001.out) hb); have n1_ := Aside0.mk (Kd.R_below (ra HO_516001.out) hb); have n2_ := Aside0.mk (Kd.R_below (ra HO520.out) hb); have n3_ := Aside0.mk (blk_below (g := gb501) (o := .cells #[.string a1_0, .slice A1_1 l1_1.length c1_1] 47 (0, 0)) bk hb); have n4_ := Aside0.mk (blk_below (g := gb509) (o := .cells #[.string t504, .slice Ao21 t505.length co21] 51 (0, 0)) bk hb); have n5_ := Aside0.mk (blk_below (g := gb515) (o := .cells #[.string t510, .slice Ao27 t511.length co27] 47 (0, 0)) bk hb); have n6_ := Aside0.mk (blk_below (g := gb521) (o := .cells #[.string t517, .slice Ao75 t518.length co75] 51 (0, 0)) bk hb); have n7_ := Aside0.mk (below_step bwS hb); clear HO_510001 HO_516001 HO520 BK501 BK509 BK515 BK521 HB; have HO_510001 := n0_; have HO_516001 := n1_; have HO520 := n2_; have BK501 := n3_; have BK509 := n4_; have BK515 := n5_; have BK521 := n6_; have HB := n7_; clear n0_ n1_ n2_ n3_ n4_ n5_ n6_ n7_
           (try clear hb)
           (try clear hb2)
           (try clear hk)
           (try clear hi)
           refine hK.out _ _ ⟨(blk_cell BK521.out 0).trans rfl, (blk_cell BK521.out 1).trans rfl, (blk_cell BK501.out 0).trans rfl, (blk_cell BK501.out 1).trans rfl⟩ (fun hHeld => ?_); clear hK K; refine norm_ (a' := ?_) ?_ ?_; rotate_left
           ·show Act.put _ (some 88) _ = _
            simp only [Act.put, List.setIfInBounds_toArray, List.set_cons_zero, List.set_cons_succ, i64_w, i32_w]; rfl
           refine pure_ (i := 17) (N := some 89) (v := ?_) (a' := ?_) (bitsL 19 262143) rfl rfl (any_of HT_.out (by kernel_rfl)) (fun _ _ _ h => h) (Or.inl ⟨by rfl, ?_⟩) ?_ ?_; rotate_left
           ·intro w'; go_simp; with_reducible rfl
           rotate_left
           ·simp only [Act.put, List.setIfInBounds_toArray, List.set_cons_zero, List.set_cons_succ, i64_w, i32_w]; rfl
           refine pure_ (i := 18) (N := some 6) (v := ?_) (a' := ?_) (bitsL 19 524287) rfl rfl (any_of HT_.out (by kernel_rfl)) (fun _ _ _ h => h) (Or.inl ⟨by rfl, ?_⟩) ?_ ?_; rotate_left
           ·intro w'; go_simp; with_reducible rfl
           rotate_left
           ·simp only [Act.put, List.setIfInBounds_toArray, List.set_cons_zero, List.set_cons_succ, i64_w, i32_w]; rfl
           refine done_ (done_of HT_.out (by kernel_rfl)) ?_
           as_aux_lemma =>
            try go_wp2
            go_ret
            exact ⟨ew, bwS⟩
         ·rw [if_neg c64] at H; have c64b0 : (t523 == t525) = false := by simpa using c64
          (try (have c64b1 : decide (t523 = t525) = false := by simpa using c64))
          (try (have c64b2 : (t523 == t525) = false := by simpa using c64))
          (try (have c64b3 : ¬ (t523 = t525) := by simpa using c64))
          clear c64; obtain rfl := Option.some.inj H; have hnb83 := NB501_509.out; have hnc83 := NB509_501.out; have hnb84 := NB501_515.out; have hnc84 := NB515_501.out; have hcz85_0 : wc.cell? ⟨gb501, 0, none⟩ = some (.string a1_0) := (blk_cell BK501.out 0).trans rfl; have hcz85_1 : wc.cell? ⟨gb501, 1, none⟩ = some (.slice A1_1 l1_1.length c1_1) := (blk_cell BK501.out 1).trans rfl; have hfz85_0 := blk_frozen BK501.out 0; have hfz85_1 := blk_frozen BK501.out 1
          as_aux_lemma =>
           try go_wp2_with (first | ((with_reducible refine gate_callee (f := 30) rfl ?_); refine goesL_ (some 59) rfl rfl Tryd.func30 (by kernel_rfl) rfl #[.agg #[.string a1_0, .slice A1_1 l1_1.length c1_1]] rfl am ?_; (with_reducible refine (bulletinlaw20_To.calls kj15 a1_0 _ _ l1_1 t517 t518 _ ?side1 ?side2 A57.out).mono ?_); (case side1 => repeat (first | exact (Kd.C_below HR1_1.out HB.out) | (with_reducible refine Kd.C_alloc ?_ _) | (with_reducible refine Kd.C_drewN ?_ _) | (with_reducible refine Kd.C_drew ?_))); (case side2 => exact HC1_1.out); rintro e w86 ⟨v519, rfl, ho0, hb⟩; refine ⟨_, rfl, ?_⟩; have n0_ := Aside0.mk (Kd.R_elder' (ra HO_510001.out) (Kd.R_base ho0) hb); have n1_ := Aside0.mk (Kd.R_below (ra HO_516001.out) hb); have n2_ := Aside0.mk (Kd.R_lower (Kd.R_new' ho0 (Kd.R_lt (ra HO_510001.out))) (below_size bwS)); have n3_ := Aside0.mk (blk_below (g := gb501) (o := .cells #[.string a1_0, .slice A1_1 l1_1.length c1_1] 47 (0, 0)) bk hb); have n4_ := Aside0.mk (blk_below (g := gb509) (o := .cells #[.string t504, .slice Ao21 t505.length co21] 51 (0, 0)) bk hb); have n5_ := Aside0.mk (blk_below (g := gb515) (o := .cells #[.string t510, .slice Ao27 t511.length co27] 47 (0, 0)) bk hb); have n6_ := Aside0.mk (below_step bwS hb); clear HO_510001; clear HO_516001; clear BK501; clear BK509; clear BK515; clear HB; have HO_510001 := n0_; have HO_516001 := n1_; have HO520 := n2_; have BK501 := n3_; have BK509 := n4_; have BK515 := n5_; have HB := n6_; clear n0_ n1_ n2_ n3_ n4_ n5_ n6_; (try clear hb); (try clear hb2); (try clear hk); (try clear hi); (try clear ho0)) | ((with_reducible refine gate_dst (N := 11) rfl ?_); (try (refine gate_guard (by rfl) ?_; dsimp only)); refine box_event ?hg (N := 11) ?hd (cs := #[.string (⟨#[]⟩ : ByteArray), .slice none 0 0]) (t := 51) ?hr ?_; (case hd => rfl); (case hg => rfl); (case hr => first | (go_simp; done) | (go_simp; rfl)); intro gb521 hg w87 hbox hb; have n0_ := Aside0.mk (Kd.R_below (ra HO_510001.out) hb); have n1_ := Aside0.mk (Kd.R_below (ra HO_516001.out) hb); have n2_ := Aside0.mk (Kd.R_below (ra HO520.out) hb); have n3_ := Aside0.mk (blk_below (g := gb501) (o := .cells #[.string a1_0, .slice A1_1 l1_1.length c1_1] 47 (0, 0)) bk hb); have n4_ := Aside0.mk (blk_below (g := gb509) (o := .cells #[.string t504, .slice Ao21 t505.length co21] 51 (0, 0)) bk hb); have n5_ := Aside0.mk (blk_below (g := gb515) (o := .cells #[.string t510, .slice Ao27 t511.length co27] 47 (0, 0)) bk hb); have n6_ := Aside0.mk (below_step bwS hb); have n7_ := Aside0.mk (hbox); have n8_ := Aside0.mk ((by rw [hg]; exact (below_size bwS) : w.heap.size ≤ gb521)); have n9_ := Aside0.mk ((by rw [hg]; exact (below_size bwS) : w.heap.size ≤ gb521)); have n10_ := Aside0.mk ((by rw [hg]; exact Nat.ne_of_lt (blk_lt (g := gb501) (o := .cells #[.string a1_0, .slice A1_1 l1_1.length c1_1] 47 (0, 0)) bk) : gb501 ≠ gb521)); have n11_ := Aside0.mk ((by rw [hg]; exact Nat.ne_of_gt (blk_lt (g := gb501) (o := .cells #[.string a1_0, .slice A1_1 l1_1.length c1_1] 47 (0, 0)) bk) : gb521 ≠ gb501)); have n12_ := Aside0.mk ((by rw [hg]; exact Nat.ne_of_lt (blk_lt (g := gb509) (o := .cells #[.string t504, .slice Ao21 t505.length co21] 51 (0, 0)) bk) : gb509 ≠ gb521)); have n13_ := Aside0.mk ((by rw [hg]; exact Nat.ne_of_gt (blk_lt (g := gb509) (o := .cells #[.string t504, .slice Ao21 t505.length co21] 51 (0, 0)) bk) : gb521 ≠ gb509)); have n14_ := Aside0.mk ((by rw [hg]; exact Nat.ne_of_lt (blk_lt (g := gb515) (o := .cells #[.string t510, .slice Ao27 t511.length co27] 47 (0, 0)) bk) : gb515 ≠ gb521)); have n15_ := Aside0.mk ((by rw [hg]; exact Nat.ne_of_gt (blk_lt (g := gb515) (o := .cells #[.string t510, .slice Ao27 t511.length co27] 47 (0, 0)) bk) : gb521 ≠ gb515)); clear HO_510001; clear HO_516001; clear HO520; clear BK501; clear BK509; clear BK515; clear HB; have HO_510001 := n0_; have HO_516001 := n1_; have HO520 := n2_; have BK501 := n3_; have BK509 := n4_; have BK515 := n5_; have HB := n6_; have BK521 := n7_; have GW521 := n8_; have GE521 := n9_; have NB501_521 := n10_; have NB521_501 := n11_; have NB509_521 := n12_; have NB521_509 := n13_; have NB515_521 := n14_; have NB521_515 := n15_; clear n0_ n1_ n2_ n3_ n4_ n5_ n6_ n7_ n8_ n9_ n10_ n11_ n12_ n13_ n14_ n15_; clear hb hbox hg; have hnb88 := NB521_501.out; have hnc88 := NB501_521.out; have hnb89 := NB521_509.out; have hnc89 := NB509_521.out; have hnb90 := NB521_515.out; have hnc90 := NB515_521.out; have hcz91_0 : w87.cell? ⟨gb521, 0, none⟩ = some (.string (⟨#[]⟩ : ByteArray)) := (blk_cell BK521.out 0).trans rfl; have hcz91_1 : w87.cell? ⟨gb521, 1, none⟩ = some (.slice none 0 0) := (blk_cell BK521.out 1).trans rfl; have hfz91_0 := blk_frozen BK521.out 0; have hfz91_1 := blk_frozen BK521.out 1; obtain ⟨Ao92, co92, eo92⟩ := Kd.R_slice HO520.out; subst eo92) | ((with_reducible refine gate_callee (f := 31) rfl ?_); refine goesL_ (some 63) rfl rfl Tryd.func31 (by kernel_rfl) rfl #[.agg #[.string t517, .slice Ao92 t518.length co92], .string a2] rfl am ?_; (with_reducible refine (mime_Type_Value.calls kj15 t517 _ _ t518 a2 t522 t523 _ ?side1 ?side2 A58.out).mono ?_); (case side1 => refine (Kd.R_reads' (e := 104) (base := w.heap.size) (ok := fun k_ => (True ∧ some k_ ≠ (.slice Ao21 t505.length co21 : Value).ownBlock)) (n := t518.length) (c := co92) ?_).2.2; exact (by (with_reducible repeat (first | apply Kd.R_alloc | apply Kd.R_drewN | apply Kd.R_drew)); exact (Kd.R_mono (Kd.R_far (p := ⟨gb521, 1, none⟩) (Kd.R_far (p := ⟨gb521, 0, none⟩) (Kd.R_types HO520.out BK521.out (by decide)) (fun _ hk => hk.2) (.string t517)) (fun _ hk => hk.2) (.slice Ao92 t518.length co92)) (fun _ h_ => h_.1)))); (case side2 => exact (Kd.R_reads' HO520.out).2.1); rintro e w93 ⟨rfl, hb⟩; refine ⟨_, rfl, ?_⟩; have n0_ := Aside0.mk (Kd.R_below (by (with_reducible repeat (first | apply Kd.R_alloc | apply Kd.R_drewN | apply Kd.R_drew)); exact (Kd.R_mono (Kd.R_far (p := ⟨gb521, 1, none⟩) (Kd.R_far (p := ⟨gb521, 0, none⟩) (Kd.R_types HO_510001.out BK521.out (by decide)) (fun _ hk => hk.2) (.string t517)) (fun _ hk => hk.2) (.slice Ao92 t518.length co92)) (fun _ h_ => h_.1))) hb); have n1_ := Aside0.mk (Kd.R_below (by (with_reducible repeat (first | apply Kd.R_alloc | apply Kd.R_drewN | apply Kd.R_drew)); exact (Kd.R_mono (Kd.R_far (p := ⟨gb521, 1, none⟩) (Kd.R_far (p := ⟨gb521, 0, none⟩) (Kd.R_types HO_516001.out BK521.out (by decide)) (fun _ hk => hk.2) (.string t517)) (fun _ hk => hk.2) (.slice Ao92 t518.length co92)) (fun _ h_ => h_.1))) hb); have n2_ := Aside0.mk (Kd.R_below (by (with_reducible repeat (first | apply Kd.R_alloc | apply Kd.R_drewN | apply Kd.R_drew)); exact (Kd.R_mono (Kd.R_far (p := ⟨gb521, 1, none⟩) (Kd.R_far (p := ⟨gb521, 0, none⟩) (Kd.R_types HO520.out BK521.out (by decide)) (fun _ hk => hk.2) (.string t517)) (fun _ hk => hk.2) (.slice Ao92 t518.length co92)) (fun _ h_ => h_.1))) hb); have n3_ := Aside0.mk (blk_below (g := gb501) (o := .cells #[.string a1_0, .slice A1_1 l1_1.length c1_1] 47 (0, 0)) (by (with_reducible repeat (first | refine blk_drewN ?_ _ | refine blk_drew ?_ | refine blk_alloc ?_ _)); refine blk_far ?_ NB501_521.out _; (with_reducible repeat (first | refine blk_drewN ?_ _ | refine blk_drew ?_ | refine blk_alloc ?_ _)); refine blk_far ?_ NB501_521.out _; (with_reducible repeat (first | refine blk_drewN ?_ _ | refine blk_drew ?_ | refine blk_alloc ?_ _)); exact BK501.out) hb); have n4_ := Aside0.mk (blk_below (g := gb509) (o := .cells #[.string t504, .slice Ao21 t505.length co21] 51 (0, 0)) (by (with_reducible repeat (first | refine blk_drewN ?_ _ | refine blk_drew ?_ | refine blk_alloc ?_ _)); refine blk_far ?_ NB509_521.out _; (with_reducible repeat (first | refine blk_drewN ?_ _ | refine blk_drew ?_ | refine blk_alloc ?_ _)); refine blk_far ?_ NB509_521.out _; (with_reducible repeat (first | refine blk_drewN ?_ _ | refine blk_drew ?_ | refine blk_alloc ?_ _)); exact BK509.out) hb); have n5_ := Aside0.mk (blk_below (g := gb515) (o := .cells #[.string t510, .slice Ao27 t511.length co27] 47 (0, 0)) (by (with_reducible repeat (first | refine blk_drewN ?_ _ | refine blk_drew ?_ | refine blk_alloc ?_ _)); refine blk_far ?_ NB515_521.out _; (with_reducible repeat (first | refine blk_drewN ?_ _ | refine blk_drew ?_ | refine blk_alloc ?_ _)); refine blk_far ?_ NB515_521.out _; (with_reducible repeat (first | refine blk_drewN ?_ _ | refine blk_drew ?_ | refine blk_alloc ?_ _)); exact BK515.out) hb); have n6_ := Aside0.mk (blk_below (g := gb521) (o := .cells #[.string t517, .slice Ao92 t518.length co92] 51 (0, 0)) (by (with_reducible repeat (first | refine blk_drewN ?_ _ | refine blk_drew ?_ | refine blk_alloc ?_ _)); refine blk_put (cs := #[.string t517, .slice none 0 0]) ?_ 1 _ rfl; (with_reducible repeat (first | refine blk_drewN ?_ _ | refine blk_drew ?_ | refine blk_alloc ?_ _)); exact blk_put (cs := #[.string (⟨#[]⟩ : ByteArray), .slice none 0 0]) bk 0 _ rfl) hb); have n7_ := Aside0.mk (below_step bwS hb); clear HO_510001; clear HO_516001; clear HO520; clear BK501; clear BK509; clear BK515; clear BK521; clear HB; have HO_510001 := n0_; have HO_516001 := n1_; have HO520 := n2_; have BK501 := n3_; have BK509 := n4_; have BK515 := n5_; have BK521 := n6_; have HB := n7_; clear n0_ n1_ n2_ n3_ n4_ n5_ n6_ n7_; (try clear hb); (try clear hb2); (try clear hk); (try clear hi); have hcz94_0 : w93.cell? ⟨gb501, 0, none⟩ = some (.string a1_0) := (blk_cell BK501.out 0).trans rfl; have hcz94_1 : w93.cell? ⟨gb501, 1, none⟩ = some (.slice A1_1 l1_1.length c1_1) := (blk_cell BK501.out 1).trans rfl; have hfz94_0 := blk_frozen BK501.out 0; have hfz94_1 := blk_frozen BK501.out 1) | ((with_reducible refine gate_callee (f := 32) rfl ?_); refine goesL_ (some 69) rfl rfl Tryd.func32 (by kernel_rfl) rfl #[.agg #[.string a1_0, .slice A1_1 l1_1.length c1_1], .string a2] rfl am ?_; (with_reducible refine (bulletinref20_Value.calls kj15 a1_0 _ _ l1_1 a2 t524 t525 _ ?side1 ?side2 A59.out).mono ?_); (case side1 => repeat (first | exact (Kd.C_below HR1_1.out HB.out) | (with_reducible refine Kd.C_alloc ?_ _) | (with_reducible refine Kd.C_drewN ?_ _) | (with_reducible refine Kd.C_drew ?_))); (case side2 => exact HC1_1.out); rintro e w95 ⟨rfl, hb⟩; refine ⟨_, rfl, ?_⟩; have n0_ := Aside0.mk (Kd.R_below (ra HO_510001.out) hb); have n1_ := Aside0.mk (Kd.R_below (ra HO_516001.out) hb); have n2_ := Aside0.mk (Kd.R_below (ra HO520.out) hb); have n3_ := Aside0.mk (blk_below (g := gb501) (o := .cells #[.string a1_0, .slice A1_1 l1_1.length c1_1] 47 (0, 0)) bk hb); have n4_ := Aside0.mk (blk_below (g := gb509) (o := .cells #[.string t504, .slice Ao21 t505.length co21] 51 (0, 0)) bk hb); have n5_ := Aside0.mk (blk_below (g := gb515) (o := .cells #[.string t510, .slice Ao27 t511.length co27] 47 (0, 0)) bk hb); have n6_ := Aside0.mk (blk_below (g := gb521) (o := .cells #[.string t517, .slice Ao92 t518.length co92] 51 (0, 0)) bk hb); have n7_ := Aside0.mk (below_step bwS hb); clear HO_510001; clear HO_516001; clear HO520; clear BK501; clear BK509; clear BK515; clear BK521; clear HB; have HO_510001 := n0_; have HO_516001 := n1_; have HO520 := n2_; have BK501 := n3_; have BK509 := n4_; have BK515 := n5_; have BK521 := n6_; have HB := n7_; clear n0_ n1_ n2_ n3_ n4_ n5_ n6_ n7_; (try clear hb); (try clear hb2); (try clear hk); (try clear hi)))
           have n0_ := Aside0.mk (Kd.R_drew HO_510001.out); have n1_ := Aside0.mk (Kd.R_drew HO_516001.out); have n2_ := Aside0.mk (Kd.R_drew HO520.out); have n3_ := Aside0.mk (blk_drew BK501.out); have n4_ := Aside0.mk (blk_drew BK509.out); have n5_ := Aside0.mk (blk_drew BK515.out); have n6_ := Aside0.mk (blk_drew BK521.out); have n7_ := Aside0.mk (below_drew1 HB.out); clear HO_510001 HO_516001 HO520 BK501 BK509 BK515 BK521 HB; have HO_510001 := n0_; have HO_516001 := n1_; have HO520 := n2_; have BK501 := n3_; have BK509 := n4_; have BK515 := n5_; have BK521 := n6_; have HB := n7_; clear n0_ n1_ n2_ n3_ n4_ n5_ n6_ n7_; refine start_ (n := 19) (S := fun w' => w'.cell? ⟨gb521, 0, none⟩ = some (.string t517) ∧ w'.cell? ⟨gb521, 1, none⟩ = some (.slice Ao92 t518.length co92) ∧ w'.cell? ⟨gb501, 0, none⟩ = some (.string a1_0) ∧ w'.cell? ⟨gb501, 1, none⟩ = some (.slice A1_1 l1_1.length c1_1)) (ds := []) #[false, false, false, false, false, false, false, false, false, false, false, false, false, false, false, false, false, false, false] (by kernel_rfl) rfl rfl ⟨(blk_cell BK521.out 0).trans rfl, (blk_cell BK521.out 1).trans rfl, (blk_cell BK501.out 0).trans rfl, (blk_cell BK501.out 1).trans rfl⟩ (fun hHeld => ?_); refine with_tabW bulletinlaw20_MimeTypes.tab10 bulletinlaw20_MimeTypes.bits10 (fun HT_ HW_ => ?_)
           generalize w95.drew = w96 at HO_510001 HO_516001 HO520 BK501 BK509 BK515 BK521 HB hHeld ⊢
           refine take_ (i := 0) (N := some 72) (v := ?_) (a' := ?_) (bitsL 19 1) rfl rfl (take_ofW HT_.out HW_.out (by kernel_rfl)) (fun _ _ _ h => h) (Or.inl ⟨by rfl, ?_⟩) hHeld ?_ ?_; rotate_left
           ·rintro w' ⟨s0, s1, s2, s3⟩; go_simp; with_reducible rfl
           rotate_left
           ·simp only [Act.put, List.setIfInBounds_toArray, List.set_cons_zero, List.set_cons_succ, i64_w, i32_w]; rfl
           refine take_ (i := 2) (N := some 74) (v := ?_) (a' := ?_) (bitsL 19 5) rfl rfl (take_ofW HT_.out HW_.out (by kernel_rfl)) (fun _ _ _ h => h) (Or.inl ⟨by rfl, ?_⟩) hHeld ?_ ?_; rotate_left
           ·rintro w' ⟨s0, s1, s2, s3⟩; go_simp; with_reducible rfl
           rotate_left
           ·simp only [Act.put, List.setIfInBounds_toArray, List.set_cons_zero, List.set_cons_succ, i64_w, i32_w]; rfl
           refine one_ (i := 1) (N := some 73) (bitsL 19 7) rfl rfl (one_of HT_.out (by kernel_rfl)) (by decide) (fun K hK => ?_); refine goes_ Tryd.func33 (by kernel_rfl) rfl #[.agg #[.string t517, .slice Ao92 t518.length co92]] (by rfl) rfl rfl am ?_; with_reducible refine (mime_Type_Text.calls (hG := by first | exact hG | exact Glob.below hG (by first | exact HB.out | (repeat (first | (with_reducible first | exact HB.out | apply below_alloc | apply pw_below_drewN | apply below_drew1 | refine below_set ?_ GE501.out | refine below_set ?_ GE509.out | refine below_set ?_ GE515.out | refine below_set ?_ GE521.out) | exact HB.out))) | exact Glob.drawn hG (d0)) kj15 t517 _ _ t518 t526 _ ?side1 ?side2 A60.out).mono ?_
           (case side1 => repeat (first | exact (Kd.R_reads' HO520.out).2.2 | (with_reducible refine Kd.C_alloc ?_ _) | (with_reducible refine Kd.C_drewN ?_ _) | (with_reducible refine Kd.C_drew ?_)))
           (case side2 => exact (Kd.R_reads' HO520.out).2.1)
           rintro e w97 ⟨rfl, hb⟩; refine ⟨_, rfl, ?_⟩; have n0_ := Aside0.mk (Kd.R_below (ra HO_510001.out) hb); have n1_ := Aside0.mk (Kd.R_below (ra HO_516001.out) hb); have n2_ := Aside0.mk (Kd.R_below (ra HO520.out) hb); have n3_ := Aside0.mk (blk_below (g := gb501) (o := .cells #[.string a1_0, .slice A1_1 l1_1.length c1_1] 47 (0, 0)) bk hb); have n4_ := Aside0.mk (blk_below (g := gb509) (o := .cells #[.string t504, .slice Ao21 t505.length co21] 51 (0, 0)) bk hb); have n5_ := Aside0.mk (blk_below (g := gb515) (o := .cells #[.string t510, .slice Ao27 t511.length co27] 47 (0, 0)) bk hb); have n6_ := Aside0.mk (blk_below (g := gb521) (o := .cells #[.string t517, .slice Ao92 t518.length co92] 51 (0, 0)) bk hb); have n7_ := Aside0.mk (below_step bwS hb); clear HO_510001 HO_516001 HO520 BK501 BK509 BK515 BK521 HB; have HO_510001 := n0_; have HO_516001 := n1_; have HO520 := n2_; have BK501 := n3_; have BK509 := n4_; have BK515 := n5_; have BK521 := n6_; have HB := n7_; clear n0_ n1_ n2_ n3_ n4_ n5_ n6_ n7_
           (try clear hb)
           (try clear hb2)
           (try clear hk)
           (try clear hi)
           refine hK.out _ _ ⟨(blk_cell BK521.out 0).trans rfl, (blk_cell BK521.out 1).trans rfl, (blk_cell BK501.out 0).trans rfl, (blk_cell BK501.out 1).trans rfl⟩ (fun hHeld => ?_); clear hK K; refine norm_ (a' := ?_) ?_ ?_; rotate_left
           ·show Act.put _ (some 73) _ = _
            simp only [Act.put, List.setIfInBounds_toArray, List.set_cons_zero, List.set_cons_succ, i64_w, i32_w]; rfl
           refine one_ (i := 3) (N := some 75) (bitsL 19 15) rfl rfl (one_of HT_.out (by kernel_rfl)) (by decide) (fun K hK => ?_); refine goes_ Tryd.func34 (by kernel_rfl) rfl #[.agg #[.string a1_0, .slice A1_1 l1_1.length c1_1]] (by rfl) rfl rfl am ?_; with_reducible refine (bulletinref20_Text.calls kj15 a1_0 _ _ l1_1 t527 _ ?side1 ?side2 A61.out).mono ?_
           (case side1 => repeat (first | exact (Kd.C_below HR1_1.out HB.out) | (with_reducible refine Kd.C_alloc ?_ _) | (with_reducible refine Kd.C_drewN ?_ _) | (with_reducible refine Kd.C_drew ?_)))
           (case side2 => exact HC1_1.out)
           rintro e w98 ⟨rfl, hb⟩; refine ⟨_, rfl, ?_⟩; have n0_ := Aside0.mk (Kd.R_below (ra HO_510001.out) hb); have n1_ := Aside0.mk (Kd.R_below (ra HO_516001.out) hb); have n2_ := Aside0.mk (Kd.R_below (ra HO520.out) hb); have n3_ := Aside0.mk (blk_below (g := gb501) (o := .cells #[.string a1_0, .slice A1_1 l1_1.length c1_1] 47 (0, 0)) bk hb); have n4_ := Aside0.mk (blk_below (g := gb509) (o := .cells #[.string t504, .slice Ao21 t505.length co21] 51 (0, 0)) bk hb); have n5_ := Aside0.mk (blk_below (g := gb515) (o := .cells #[.string t510, .slice Ao27 t511.length co27] 47 (0, 0)) bk hb); have n6_ := Aside0.mk (blk_below (g := gb521) (o := .cells #[.string t517, .slice Ao92 t518.length co92] 51 (0, 0)) bk hb); have n7_ := Aside0.mk (below_step bwS hb); clear HO_510001 HO_516001 HO520 BK501 BK509 BK515 BK521 HB; have HO_510001 := n0_; have HO_516001 := n1_; have HO520 := n2_; have BK501 := n3_; have BK509 := n4_; have BK515 := n5_; have BK521 := n6_; have HB := n7_; clear n0_ n1_ n2_ n3_ n4_ n5_ n6_ n7_
           (try clear hb)
           (try clear hb2)
           (try clear hk)
           (try clear hi)
           refine hK.out _ _ ⟨(blk_cell BK521.out 0).trans rfl, (blk_cell BK521.out 1).trans rfl, (blk_cell BK501.out 0).trans rfl, (blk_cell BK501.out 1).trans rfl⟩ (fun hHeld => ?_); clear hK K; refine norm_ (a' := ?_) ?_ ?_; rotate_left
           ·show Act.put _ (some 75) _ = _
            simp only [Act.put, List.setIfInBounds_toArray, List.set_cons_zero, List.set_cons_succ, i64_w, i32_w]; rfl
           refine pure_ (i := 4) (N := some 76) (v := ?_) (a' := ?_) (bitsL 19 31) rfl rfl (any_of HT_.out (by kernel_rfl)) (fun _ _ _ h => h) (Or.inl ⟨by rfl, ?_⟩) ?_ ?_; rotate_left
           ·intro w'; go_simp; with_reducible rfl
           rotate_left
           ·simp only [Act.put, List.setIfInBounds_toArray, List.set_cons_zero, List.set_cons_succ, i64_w, i32_w]; rfl
           refine pure_ (i := 5) (N := some 77) (v := ?_) (a' := ?_) (bitsL 19 63) rfl rfl (any_of HT_.out (by kernel_rfl)) (fun _ _ _ h => h) (Or.inl ⟨by rfl, ?_⟩) ?_ ?_; rotate_left
           ·intro w'; go_simp; with_reducible rfl
           rotate_left
           ·simp only [Act.put, List.setIfInBounds_toArray, List.set_cons_zero, List.set_cons_succ, i64_w, i32_w]; rfl
           refine pure_ (i := 6) (N := some 78) (v := ?_) (a' := ?_) (bitsL 19 127) rfl rfl (any_of HT_.out (by kernel_rfl)) (fun _ _ _ h => h) (Or.inl ⟨by rfl, ?_⟩) ?_ ?_; rotate_left
           ·intro w'; go_simp; with_reducible rfl
           rotate_left
           ·simp only [Act.put, List.setIfInBounds_toArray, List.set_cons_zero, List.set_cons_succ, i64_w, i32_w]; rfl
           refine pure_ (i := 7) (N := some 79) (v := ?_) (a' := ?_) (bitsL 19 255) rfl rfl (any_of HT_.out (by kernel_rfl)) (fun _ _ _ h => h) (Or.inl ⟨by rfl, ?_⟩) ?_ ?_; rotate_left
           ·intro w'; go_simp; with_reducible rfl
           rotate_left
           ·simp only [Act.put, List.setIfInBounds_toArray, List.set_cons_zero, List.set_cons_succ, i64_w, i32_w]; rfl
           refine pure_ (i := 8) (N := some 80) (v := ?_) (a' := ?_) (bitsL 19 511) rfl rfl (any_of HT_.out (by kernel_rfl)) (fun _ _ _ h => h) (Or.inl ⟨by rfl, ?_⟩) ?_ ?_; rotate_left
           ·intro w'; go_simp; with_reducible rfl
           rotate_left
           ·simp only [Act.put, List.setIfInBounds_toArray, List.set_cons_zero, List.set_cons_succ, i64_w, i32_w]; rfl
           refine pure_ (i := 9) (N := some 81) (v := ?_) (a' := ?_) (bitsL 19 1023) rfl rfl (any_of HT_.out (by kernel_rfl)) (fun _ _ _ h => h) (Or.inl ⟨by rfl, ?_⟩) ?_ ?_; rotate_left
           ·intro w'; go_simp; with_reducible rfl
           rotate_left
           ·simp only [Act.put, List.setIfInBounds_toArray, List.set_cons_zero, List.set_cons_succ, i64_w, i32_w]; rfl
           refine pure_ (i := 10) (N := some 82) (v := ?_) (a' := ?_) (bitsL 19 2047) rfl rfl (any_of HT_.out (by kernel_rfl)) (fun _ _ _ h => h) (Or.inl ⟨by rfl, ?_⟩) ?_ ?_; rotate_left
           ·intro w'; go_simp; with_reducible rfl
           rotate_left
           ·simp only [Act.put, List.setIfInBounds_toArray, List.set_cons_zero, List.set_cons_succ, i64_w, i32_w]; rfl
           refine pure_ (i := 11) (N := some 83) (v := ?_) (a' := ?_) (bitsL 19 4095) rfl rfl (any_of HT_.out (by kernel_rfl)) (fun _ _ _ h => h) (Or.inl ⟨by rfl, ?_⟩) ?_ ?_; rotate_left
           ·intro w'; go_simp; with_reducible rfl
           rotate_left
           ·simp only [Act.put, List.setIfInBounds_toArray, List.set_cons_zero, List.set_cons_succ, i64_w, i32_w]; rfl
           refine pure_ (i := 12) (N := some 84) (v := ?_) (a' := ?_) (bitsL 19 8191) rfl rfl (any_of HT_.out (by kernel_rfl)) (fun _ _ _ h => h) (Or.inl ⟨by rfl, ?_⟩) ?_ ?_; rotate_left
           ·intro w'; go_simp; with_reducible rfl
           rotate_left
           ·simp only [Act.put, List.setIfInBounds_toArray, List.set_cons_zero, List.set_cons_succ, i64_w, i32_w]; rfl
           refine pure_ (i := 13) (N := some 85) (v := ?_) (a' := ?_) (bitsL 19 16383) rfl rfl (any_of HT_.out (by kernel_rfl)) (fun _ _ _ h => h) (Or.inl ⟨by rfl, ?_⟩) ?_ ?_; rotate_left
           ·intro w'; go_simp; with_reducible rfl
           rotate_left
           ·simp only [Act.put, List.setIfInBounds_toArray, List.set_cons_zero, List.set_cons_succ, i64_w, i32_w]; rfl
           refine pure_ (i := 14) (N := some 86) (v := ?_) (a' := ?_) (bitsL 19 32767) rfl rfl (any_of HT_.out (by kernel_rfl)) (fun _ _ _ h => h) (Or.inl ⟨by rfl, ?_⟩) ?_ ?_; rotate_left
           ·intro w'; go_simp; with_reducible rfl
           rotate_left
           ·simp only [Act.put, List.setIfInBounds_toArray, List.set_cons_zero, List.set_cons_succ, i64_w, i32_w]; rfl
           refine pure_ (i := 15) (N := some 87) (v := ?_) (a' := ?_) (bitsL 19 65535) rfl rfl (any_of HT_.out (by kernel_rfl)) (fun _ _ _ h => h) (Or.inl ⟨by rfl, ?_⟩) ?_ ?_; rotate_left
           ·intro w'; go_simp; with_reducible rfl
           rotate_left
           ·simp only [Act.put, List.setIfInBounds_toArray, List.set_cons_zero, List.set_cons_succ, i64_w, i32_w]; rfl
           refine pure_ (i := 16) (N := some 88) (v := undef) (a' := ?_) (bitsL 19 131071) rfl rfl (any_of HT_.out (by kernel_rfl)) (fun _ _ _ h => h) (Or.inr ⟨by rfl, rfl⟩) ?_ ?_; rotate_left
           ·simp only [Act.put, List.setIfInBounds_toArray, List.set_cons_zero, List.set_cons_succ, i64_w, i32_w]; rfl
           refine pure_ (i := 17) (N := some 89) (v := ?_) (a' := ?_) (bitsL 19 262143) rfl rfl (any_of HT_.out (by kernel_rfl)) (fun _ _ _ h => h) (Or.inl ⟨by rfl, ?_⟩) ?_ ?_; rotate_left
           ·intro w'; go_simp; with_reducible rfl
           rotate_left
           ·simp only [Act.put, List.setIfInBounds_toArray, List.set_cons_zero, List.set_cons_succ, i64_w, i32_w]; rfl
           refine pure_ (i := 18) (N := some 6) (v := ?_) (a' := ?_) (bitsL 19 524287) rfl rfl (any_of HT_.out (by kernel_rfl)) (fun _ _ _ h => h) (Or.inl ⟨by rfl, ?_⟩) ?_ ?_; rotate_left
           ·intro w'; go_simp; with_reducible rfl
           rotate_left
           ·simp only [Act.put, List.setIfInBounds_toArray, List.set_cons_zero, List.set_cons_succ, i64_w, i32_w]; rfl
           refine done_ (done_of HT_.out (by kernel_rfl)) ?_
           as_aux_lemma =>
            try go_wp2
            go_ret
            exact ⟨ew, bwS⟩
        ·rw [if_neg c63] at H; have c63b0 : (t522.toList == t524.toList) = false := beq_eq_false_iff_ne.mpr c63; have c63b1 : (t522.toList != t524.toList) = true := bne_iff_ne.mpr c63; obtain rfl := Option.some.inj H; have hnb99 := NB501_509.out; have hnc99 := NB509_501.out; have hnb100 := NB501_515.out; have hnc100 := NB515_501.out; have hcz101_0 : wc.cell? ⟨gb501, 0, none⟩ = some (.string a1_0) := (blk_cell BK501.out 0).trans rfl; have hcz101_1 : wc.cell? ⟨gb501, 1, none⟩ = some (.slice A1_1 l1_1.length c1_1) := (blk_cell BK501.out 1).trans rfl; have hfz101_0 := blk_frozen BK501.out 0; have hfz101_1 := blk_frozen BK501.out 1
         as_aux_lemma =>
          try go_wp2_with (first | ((with_reducible refine gate_callee (f := 30) rfl ?_); refine goesL_ (some 59) rfl rfl Tryd.func30 (by kernel_rfl) rfl #[.agg #[.string a1_0, .slice A1_1 l1_1.length c1_1]] rfl am ?_; (with_reducible refine (bulletinlaw20_To.calls kj15 a1_0 _ _ l1_1 t517 t518 _ ?side1 ?side2 A57.out).mono ?_); (case side1 => repeat (first | exact (Kd.C_below HR1_1.out HB.out) | (with_reducible refine Kd.C_alloc ?_ _) | (with_reducible refine Kd.C_drewN ?_ _) | (with_reducible refine Kd.C_drew ?_))); (case side2 => exact HC1_1.out); rintro e w102 ⟨v519, rfl, ho0, hb⟩; refine ⟨_, rfl, ?_⟩; have n0_ := Aside0.mk (Kd.R_elder' (ra HO_510001.out) (Kd.R_base ho0) hb); have n1_ := Aside0.mk (Kd.R_below (ra HO_516001.out) hb); have n2_ := Aside0.mk (Kd.R_lower (Kd.R_new' ho0 (Kd.R_lt (ra HO_510001.out))) (below_size bwS)); have n3_ := Aside0.mk (blk_below (g := gb501) (o := .cells #[.string a1_0, .slice A1_1 l1_1.length c1_1] 47 (0, 0)) bk hb); have n4_ := Aside0.mk (blk_below (g := gb509) (o := .cells #[.string t504, .slice Ao21 t505.length co21] 51 (0, 0)) bk hb); have n5_ := Aside0.mk (blk_below (g := gb515) (o := .cells #[.string t510, .slice Ao27 t511.length co27] 47 (0, 0)) bk hb); have n6_ := Aside0.mk (below_step bwS hb); clear HO_510001; clear HO_516001; clear BK501; clear BK509; clear BK515; clear HB; have HO_510001 := n0_; have HO_516001 := n1_; have HO520 := n2_; have BK501 := n3_; have BK509 := n4_; have BK515 := n5_; have HB := n6_; clear n0_ n1_ n2_ n3_ n4_ n5_ n6_; (try clear hb); (try clear hb2); (try clear hk); (try clear hi); (try clear ho0)) | ((with_reducible refine gate_dst (N := 11) rfl ?_); (try (refine gate_guard (by rfl) ?_; dsimp only)); refine box_event ?hg (N := 11) ?hd (cs := #[.string (⟨#[]⟩ : ByteArray), .slice none 0 0]) (t := 51) ?hr ?_; (case hd => rfl); (case hg => rfl); (case hr => first | (go_simp; done) | (go_simp; rfl)); intro gb521 hg w103 hbox hb; have n0_ := Aside0.mk (Kd.R_below (ra HO_510001.out) hb); have n1_ := Aside0.mk (Kd.R_below (ra HO_516001.out) hb); have n2_ := Aside0.mk (Kd.R_below (ra HO520.out) hb); have n3_ := Aside0.mk (blk_below (g := gb501) (o := .cells #[.string a1_0, .slice A1_1 l1_1.length c1_1] 47 (0, 0)) bk hb); have n4_ := Aside0.mk (blk_below (g := gb509) (o := .cells #[.string t504, .slice Ao21 t505.length co21] 51 (0, 0)) bk hb); have n5_ := Aside0.mk (blk_below (g := gb515) (o := .cells #[.string t510, .slice Ao27 t511.length co27] 47 (0, 0)) bk hb); have n6_ := Aside0.mk (below_step bwS hb); have n7_ := Aside0.mk (hbox); have n8_ := Aside0.mk ((by rw [hg]; exact (below_size bwS) : w.heap.size ≤ gb521)); have n9_ := Aside0.mk ((by rw [hg]; exact (below_size bwS) : w.heap.size ≤ gb521)); have n10_ := Aside0.mk ((by rw [hg]; exact Nat.ne_of_lt (blk_lt (g := gb501) (o := .cells #[.string a1_0, .slice A1_1 l1_1.length c1_1] 47 (0, 0)) bk) : gb501 ≠ gb521)); have n11_ := Aside0.mk ((by rw [hg]; exact Nat.ne_of_gt (blk_lt (g := gb501) (o := .cells #[.string a1_0, .slice A1_1 l1_1.length c1_1] 47 (0, 0)) bk) : gb521 ≠ gb501)); have n12_ := Aside0.mk ((by rw [hg]; exact Nat.ne_of_lt (blk_lt (g := gb509) (o := .cells #[.string t504, .slice Ao21 t505.length co21] 51 (0, 0)) bk) : gb509 ≠ gb521)); have n13_ := Aside0.mk ((by rw [hg]; exact Nat.ne_of_gt (blk_lt (g := gb509) (o := .cells #[.string t504, .slice Ao21 t505.length co21] 51 (0, 0)) bk) : gb521 ≠ gb509)); have n14_ := Aside0.mk ((by rw [hg]; exact Nat.ne_of_lt (blk_lt (g := gb515) (o := .cells #[.string t510, .slice Ao27 t511.length co27] 47 (0, 0)) bk) : gb515 ≠ gb521)); have n15_ := Aside0.mk ((by rw [hg]; exact Nat.ne_of_gt (blk_lt (g := gb515) (o := .cells #[.string t510, .slice Ao27 t511.length co27] 47 (0, 0)) bk) : gb521 ≠ gb515)); clear HO_510001; clear HO_516001; clear HO520; clear BK501; clear BK509; clear BK515; clear HB; have HO_510001 := n0_; have HO_516001 := n1_; have HO520 := n2_; have BK501 := n3_; have BK509 := n4_; have BK515 := n5_; have HB := n6_; have BK521 := n7_; have GW521 := n8_; have GE521 := n9_; have NB501_521 := n10_; have NB521_501 := n11_; have NB509_521 := n12_; have NB521_509 := n13_; have NB515_521 := n14_; have NB521_515 := n15_; clear n0_ n1_ n2_ n3_ n4_ n5_ n6_ n7_ n8_ n9_ n10_ n11_ n12_ n13_ n14_ n15_; clear hb hbox hg; have hnb104 := NB521_501.out; have hnc104 := NB501_521.out; have hnb105 := NB521_509.out; have hnc105 := NB509_521.out; have hnb106 := NB521_515.out; have hnc106 := NB515_521.out; have hcz107_0 : w103.cell? ⟨gb521, 0, none⟩ = some (.string (⟨#[]⟩ : ByteArray)) := (blk_cell BK521.out 0).trans rfl; have hcz107_1 : w103.cell? ⟨gb521, 1, none⟩ = some (.slice none 0 0) := (blk_cell BK521.out 1).trans rfl; have hfz107_0 := blk_frozen BK521.out 0; have hfz107_1 := blk_frozen BK521.out 1; obtain ⟨Ao108, co108, eo108⟩ := Kd.R_slice HO520.out; subst eo108) | ((with_reducible refine gate_callee (f := 31) rfl ?_); refine goesL_ (some 63) rfl rfl Tryd.func31 (by kernel_rfl) rfl #[.agg #[.string t517, .slice Ao108 t518.length co108], .string a2] rfl am ?_; (with_reducible refine (mime_Type_Value.calls kj15 t517 _ _ t518 a2 t522 t523 _ ?side1 ?side2 A58.out).mono ?_); (case side1 => refine (Kd.R_reads' (e := 104) (base := w.heap.size) (ok := fun k_ => (True ∧ some k_ ≠ (.slice Ao21 t505.length co21 : Value).ownBlock)) (n := t518.length) (c := co108) ?_).2.2; exact (by (with_reducible repeat (first | apply Kd.R_alloc | apply Kd.R_drewN | apply Kd.R_drew)); exact (Kd.R_mono (Kd.R_far (p := ⟨gb521, 1, none⟩) (Kd.R_far (p := ⟨gb521, 0, none⟩) (Kd.R_types HO520.out BK521.out (by decide)) (fun _ hk => hk.2) (.string t517)) (fun _ hk => hk.2) (.slice Ao108 t518.length co108)) (fun _ h_ => h_.1)))); (case side2 => exact (Kd.R_reads' HO520.out).2.1); rintro e w109 ⟨rfl, hb⟩; refine ⟨_, rfl, ?_⟩; have n0_ := Aside0.mk (Kd.R_below (by (with_reducible repeat (first | apply Kd.R_alloc | apply Kd.R_drewN | apply Kd.R_drew)); exact (Kd.R_mono (Kd.R_far (p := ⟨gb521, 1, none⟩) (Kd.R_far (p := ⟨gb521, 0, none⟩) (Kd.R_types HO_510001.out BK521.out (by decide)) (fun _ hk => hk.2) (.string t517)) (fun _ hk => hk.2) (.slice Ao108 t518.length co108)) (fun _ h_ => h_.1))) hb); have n1_ := Aside0.mk (Kd.R_below (by (with_reducible repeat (first | apply Kd.R_alloc | apply Kd.R_drewN | apply Kd.R_drew)); exact (Kd.R_mono (Kd.R_far (p := ⟨gb521, 1, none⟩) (Kd.R_far (p := ⟨gb521, 0, none⟩) (Kd.R_types HO_516001.out BK521.out (by decide)) (fun _ hk => hk.2) (.string t517)) (fun _ hk => hk.2) (.slice Ao108 t518.length co108)) (fun _ h_ => h_.1))) hb); have n2_ := Aside0.mk (Kd.R_below (by (with_reducible repeat (first | apply Kd.R_alloc | apply Kd.R_drewN | apply Kd.R_drew)); exact (Kd.R_mono (Kd.R_far (p := ⟨gb521, 1, none⟩) (Kd.R_far (p := ⟨gb521, 0, none⟩) (Kd.R_types HO520.out BK521.out (by decide)) (fun _ hk => hk.2) (.string t517)) (fun _ hk => hk.2) (.slice Ao108 t518.length co108)) (fun _ h_ => h_.1))) hb); have n3_ := Aside0.mk (blk_below (g := gb501) (o := .cells #[.string a1_0, .slice A1_1 l1_1.length c1_1] 47 (0, 0)) (by (with_reducible repeat (first | refine blk_drewN ?_ _ | refine blk_drew ?_ | refine blk_alloc ?_ _)); refine blk_far ?_ NB501_521.out _; (with_reducible repeat (first | refine blk_drewN ?_ _ | refine blk_drew ?_ | refine blk_alloc ?_ _)); refine blk_far ?_ NB501_521.out _; (with_reducible repeat (first | refine blk_drewN ?_ _ | refine blk_drew ?_ | refine blk_alloc ?_ _)); exact BK501.out) hb); have n4_ := Aside0.mk (blk_below (g := gb509) (o := .cells #[.string t504, .slice Ao21 t505.length co21] 51 (0, 0)) (by (with_reducible repeat (first | refine blk_drewN ?_ _ | refine blk_drew ?_ | refine blk_alloc ?_ _)); refine blk_far ?_ NB509_521.out _; (with_reducible repeat (first | refine blk_drewN ?_ _ | refine blk_drew ?_ | refine blk_alloc ?_ _)); refine blk_far ?_ NB509_521.out _; (with_reducible repeat (first | refine blk_drewN ?_ _ | refine blk_drew ?_ | refine blk_alloc ?_ _)); exact BK509.out) hb); have n5_ := Aside0.mk (blk_below (g := gb515) (o := .cells #[.string t510, .slice Ao27 t511.length co27] 47 (0, 0)) (by (with_reducible repeat (first | refine blk_drewN ?_ _ | refine blk_drew ?_ | refine blk_alloc ?_ _)); refine blk_far ?_ NB515_521.out _; (with_reducible repeat (first | refine blk_drewN ?_ _ | refine blk_drew ?_ | refine blk_alloc ?_ _)); refine blk_far ?_ NB515_521.out _; (with_reducible repeat (first | refine blk_drewN ?_ _ | refine blk_drew ?_ | refine blk_alloc ?_ _)); exact BK515.out) hb); have n6_ := Aside0.mk (blk_below (g := gb521) (o := .cells #[.string t517, .slice Ao108 t518.length co108] 51 (0, 0)) (by (with_reducible repeat (first | refine blk_drewN ?_ _ | refine blk_drew ?_ | refine blk_alloc ?_ _)); refine blk_put (cs := #[.string t517, .slice none 0 0]) ?_ 1 _ rfl; (with_reducible repeat (first | refine blk_drewN ?_ _ | refine blk_drew ?_ | refine blk_alloc ?_ _)); exact blk_put (cs := #[.string (⟨#[]⟩ : ByteArray), .slice none 0 0]) bk 0 _ rfl) hb); have n7_ := Aside0.mk (below_step bwS hb); clear HO_510001; clear HO_516001; clear HO520; clear BK501; clear BK509; clear BK515; clear BK521; clear HB; have HO_510001 := n0_; have HO_516001 := n1_; have HO520 := n2_; have BK501 := n3_; have BK509 := n4_; have BK515 := n5_; have BK521 := n6_; have HB := n7_; clear n0_ n1_ n2_ n3_ n4_ n5_ n6_ n7_; (try clear hb); (try clear hb2); (try clear hk); (try clear hi); have hcz110_0 : w109.cell? ⟨gb501, 0, none⟩ = some (.string a1_0) := (blk_cell BK501.out 0).trans rfl; have hcz110_1 : w109.cell? ⟨gb501, 1, none⟩ = some (.slice A1_1 l1_1.length c1_1) := (blk_cell BK501.out 1).trans rfl; have hfz110_0 := blk_frozen BK501.out 0; have hfz110_1 := blk_frozen BK501.out 1) | ((with_reducible refine gate_callee (f := 32) rfl ?_); refine goesL_ (some 69) rfl rfl Tryd.func32 (by kernel_rfl) rfl #[.agg #[.string a1_0, .slice A1_1 l1_1.length c1_1], .string a2] rfl am ?_; (with_reducible refine (bulletinref20_Value.calls kj15 a1_0 _ _ l1_1 a2 t524 t525 _ ?side1 ?side2 A59.out).mono ?_); (case side1 => repeat (first | exact (Kd.C_below HR1_1.out HB.out) | (with_reducible refine Kd.C_alloc ?_ _) | (with_reducible refine Kd.C_drewN ?_ _) | (with_reducible refine Kd.C_drew ?_))); (case side2 => exact HC1_1.out); rintro e w111 ⟨rfl, hb⟩; refine ⟨_, rfl, ?_⟩; have n0_ := Aside0.mk (Kd.R_below (ra HO_510001.out) hb); have n1_ := Aside0.mk (Kd.R_below (ra HO_516001.out) hb); have n2_ := Aside0.mk (Kd.R_below (ra HO520.out) hb); have n3_ := Aside0.mk (blk_below (g := gb501) (o := .cells #[.string a1_0, .slice A1_1 l1_1.length c1_1] 47 (0, 0)) bk hb); have n4_ := Aside0.mk (blk_below (g := gb509) (o := .cells #[.string t504, .slice Ao21 t505.length co21] 51 (0, 0)) bk hb); have n5_ := Aside0.mk (blk_below (g := gb515) (o := .cells #[.string t510, .slice Ao27 t511.length co27] 47 (0, 0)) bk hb); have n6_ := Aside0.mk (blk_below (g := gb521) (o := .cells #[.string t517, .slice Ao108 t518.length co108] 51 (0, 0)) bk hb); have n7_ := Aside0.mk (below_step bwS hb); clear HO_510001; clear HO_516001; clear HO520; clear BK501; clear BK509; clear BK515; clear BK521; clear HB; have HO_510001 := n0_; have HO_516001 := n1_; have HO520 := n2_; have BK501 := n3_; have BK509 := n4_; have BK515 := n5_; have BK521 := n6_; have HB := n7_; clear n0_ n1_ n2_ n3_ n4_ n5_ n6_ n7_; (try clear hb); (try clear hb2); (try clear hk); (try clear hi)))
          have n0_ := Aside0.mk (Kd.R_drew HO_510001.out); have n1_ := Aside0.mk (Kd.R_drew HO_516001.out); have n2_ := Aside0.mk (Kd.R_drew HO520.out); have n3_ := Aside0.mk (blk_drew BK501.out); have n4_ := Aside0.mk (blk_drew BK509.out); have n5_ := Aside0.mk (blk_drew BK515.out); have n6_ := Aside0.mk (blk_drew BK521.out); have n7_ := Aside0.mk (below_drew1 HB.out); clear HO_510001 HO_516001 HO520 BK501 BK509 BK515 BK521 HB; have HO_510001 := n0_; have HO_516001 := n1_; have HO520 := n2_; have BK501 := n3_; have BK509 := n4_; have BK515 := n5_; have BK521 := n6_; have HB := n7_; clear n0_ n1_ n2_ n3_ n4_ n5_ n6_ n7_; refine start_ (n := 19) (S := fun w' => w'.cell? ⟨gb521, 0, none⟩ = some (.string t517) ∧ w'.cell? ⟨gb521, 1, none⟩ = some (.slice Ao108 t518.length co108) ∧ w'.cell? ⟨gb501, 0, none⟩ = some (.string a1_0) ∧ w'.cell? ⟨gb501, 1, none⟩ = some (.slice A1_1 l1_1.length c1_1)) (ds := []) #[false, false, false, false, false, false, false, false, false, false, false, false, false, false, false, false, false, false, false] (by kernel_rfl) rfl rfl ⟨(blk_cell BK521.out 0).trans rfl, (blk_cell BK521.out 1).trans rfl, (blk_cell BK501.out 0).trans rfl, (blk_cell BK501.out 1).trans rfl⟩ (fun hHeld => ?_); refine with_tabW bulletinlaw20_MimeTypes.tab10 bulletinlaw20_MimeTypes.bits10 (fun HT_ HW_ => ?_)
          generalize w111.drew = w112 at HO_510001 HO_516001 HO520 BK501 BK509 BK515 BK521 HB hHeld ⊢
          refine take_ (i := 0) (N := some 72) (v := ?_) (a' := ?_) (bitsL 19 1) rfl rfl (take_ofW HT_.out HW_.out (by kernel_rfl)) (fun _ _ _ h => h) (Or.inl ⟨by rfl, ?_⟩) hHeld ?_ ?_; rotate_left
          ·rintro w' ⟨s0, s1, s2, s3⟩; go_simp; with_reducible rfl
          rotate_left
          ·simp only [Act.put, List.setIfInBounds_toArray, List.set_cons_zero, List.set_cons_succ, i64_w, i32_w]; rfl
          refine take_ (i := 2) (N := some 74) (v := ?_) (a' := ?_) (bitsL 19 5) rfl rfl (take_ofW HT_.out HW_.out (by kernel_rfl)) (fun _ _ _ h => h) (Or.inl ⟨by rfl, ?_⟩) hHeld ?_ ?_; rotate_left
          ·rintro w' ⟨s0, s1, s2, s3⟩; go_simp; with_reducible rfl
          rotate_left
          ·simp only [Act.put, List.setIfInBounds_toArray, List.set_cons_zero, List.set_cons_succ, i64_w, i32_w]; rfl
          refine one_ (i := 1) (N := some 73) (bitsL 19 7) rfl rfl (one_of HT_.out (by kernel_rfl)) (by decide) (fun K hK => ?_); refine goes_ Tryd.func33 (by kernel_rfl) rfl #[.agg #[.string t517, .slice Ao108 t518.length co108]] (by rfl) rfl rfl am ?_; with_reducible refine (mime_Type_Text.calls (hG := by first | exact hG | exact Glob.below hG (by first | exact HB.out | (repeat (first | (with_reducible first | exact HB.out | apply below_alloc | apply pw_below_drewN | apply below_drew1 | refine below_set ?_ GE501.out | refine below_set ?_ GE509.out | refine below_set ?_ GE515.out | refine below_set ?_ GE521.out) | exact HB.out))) | exact Glob.drawn hG (d0)) kj15 t517 _ _ t518 t526 _ ?side1 ?side2 A60.out).mono ?_
          (case side1 => repeat (first | exact (Kd.R_reads' HO520.out).2.2 | (with_reducible refine Kd.C_alloc ?_ _) | (with_reducible refine Kd.C_drewN ?_ _) | (with_reducible refine Kd.C_drew ?_)))
          (case side2 => exact (Kd.R_reads' HO520.out).2.1)
          rintro e w113 ⟨rfl, hb⟩; refine ⟨_, rfl, ?_⟩; have n0_ := Aside0.mk (Kd.R_below (ra HO_510001.out) hb); have n1_ := Aside0.mk (Kd.R_below (ra HO_516001.out) hb); have n2_ := Aside0.mk (Kd.R_below (ra HO520.out) hb); have n3_ := Aside0.mk (blk_below (g := gb501) (o := .cells #[.string a1_0, .slice A1_1 l1_1.length c1_1] 47 (0, 0)) bk hb); have n4_ := Aside0.mk (blk_below (g := gb509) (o := .cells #[.string t504, .slice Ao21 t505.length co21] 51 (0, 0)) bk hb); have n5_ := Aside0.mk (blk_below (g := gb515) (o := .cells #[.string t510, .slice Ao27 t511.length co27] 47 (0, 0)) bk hb); have n6_ := Aside0.mk (blk_below (g := gb521) (o := .cells #[.string t517, .slice Ao108 t518.length co108] 51 (0, 0)) bk hb); have n7_ := Aside0.mk (below_step bwS hb); clear HO_510001 HO_516001 HO520 BK501 BK509 BK515 BK521 HB; have HO_510001 := n0_; have HO_516001 := n1_; have HO520 := n2_; have BK501 := n3_; have BK509 := n4_; have BK515 := n5_; have BK521 := n6_; have HB := n7_; clear n0_ n1_ n2_ n3_ n4_ n5_ n6_ n7_
          (try clear hb)
          (try clear hb2)
          (try clear hk)
          (try clear hi)
          refine hK.out _ _ ⟨(blk_cell BK521.out 0).trans rfl, (blk_cell BK521.out 1).trans rfl, (blk_cell BK501.out 0).trans rfl, (blk_cell BK501.out 1).trans rfl⟩ (fun hHeld => ?_); clear hK K; refine norm_ (a' := ?_) ?_ ?_; rotate_left
          ·show Act.put _ (some 73) _ = _
           simp only [Act.put, List.setIfInBounds_toArray, List.set_cons_zero, List.set_cons_succ, i64_w, i32_w]; rfl
          refine one_ (i := 3) (N := some 75) (bitsL 19 15) rfl rfl (one_of HT_.out (by kernel_rfl)) (by decide) (fun K hK => ?_); refine goes_ Tryd.func34 (by kernel_rfl) rfl #[.agg #[.string a1_0, .slice A1_1 l1_1.length c1_1]] (by rfl) rfl rfl am ?_; with_reducible refine (bulletinref20_Text.calls kj15 a1_0 _ _ l1_1 t527 _ ?side1 ?side2 A61.out).mono ?_
          (case side1 => repeat (first | exact (Kd.C_below HR1_1.out HB.out) | (with_reducible refine Kd.C_alloc ?_ _) | (with_reducible refine Kd.C_drewN ?_ _) | (with_reducible refine Kd.C_drew ?_)))
          (case side2 => exact HC1_1.out)
          rintro e w114 ⟨rfl, hb⟩; refine ⟨_, rfl, ?_⟩; have n0_ := Aside0.mk (Kd.R_below (ra HO_510001.out) hb); have n1_ := Aside0.mk (Kd.R_below (ra HO_516001.out) hb); have n2_ := Aside0.mk (Kd.R_below (ra HO520.out) hb); have n3_ := Aside0.mk (blk_below (g := gb501) (o := .cells #[.string a1_0, .slice A1_1 l1_1.length c1_1] 47 (0, 0)) bk hb); have n4_ := Aside0.mk (blk_below (g := gb509) (o := .cells #[.string t504, .slice Ao21 t505.length co21] 51 (0, 0)) bk hb); have n5_ := Aside0.mk (blk_below (g := gb515) (o := .cells #[.string t510, .slice Ao27 t511.length co27] 47 (0, 0)) bk hb); have n6_ := Aside0.mk (blk_below (g := gb521) (o := .cells #[.string t517, .slice Ao108 t518.length co108] 51 (0, 0)) bk hb); have n7_ := Aside0.mk (below_step bwS hb); clear HO_510001 HO_516001 HO520 BK501 BK509 BK515 BK521 HB; have HO_510001 := n0_; have HO_516001 := n1_; have HO520 := n2_; have BK501 := n3_; have BK509 := n4_; have BK515 := n5_; have BK521 := n6_; have HB := n7_; clear n0_ n1_ n2_ n3_ n4_ n5_ n6_ n7_
          (try clear hb)
          (try clear hb2)
          (try clear hk)
          (try clear hi)
          refine hK.out _ _ ⟨(blk_cell BK521.out 0).trans rfl, (blk_cell BK521.out 1).trans rfl, (blk_cell BK501.out 0).trans rfl, (blk_cell BK501.out 1).trans rfl⟩ (fun hHeld => ?_); clear hK K; refine norm_ (a' := ?_) ?_ ?_; rotate_left
          ·show Act.put _ (some 75) _ = _
           simp only [Act.put, List.setIfInBounds_toArray, List.set_cons_zero, List.set_cons_succ, i64_w, i32_w]; rfl
          refine pure_ (i := 4) (N := some 76) (v := ?_) (a' := ?_) (bitsL 19 31) rfl rfl (any_of HT_.out (by kernel_rfl)) (fun _ _ _ h => h) (Or.inl ⟨by rfl, ?_⟩) ?_ ?_; rotate_left
          ·intro w'; go_simp; with_reducible rfl
          rotate_left
          ·simp only [Act.put, List.setIfInBounds_toArray, List.set_cons_zero, List.set_cons_succ, i64_w, i32_w]; rfl
          refine pure_ (i := 5) (N := some 77) (v := ?_) (a' := ?_) (bitsL 19 63) rfl rfl (any_of HT_.out (by kernel_rfl)) (fun _ _ _ h => h) (Or.inl ⟨by rfl, ?_⟩) ?_ ?_; rotate_left
          ·intro w'; go_simp; with_reducible rfl
          rotate_left
          ·simp only [Act.put, List.setIfInBounds_toArray, List.set_cons_zero, List.set_cons_succ, i64_w, i32_w]; rfl
          refine pure_ (i := 6) (N := some 78) (v := ?_) (a' := ?_) (bitsL 19 127) rfl rfl (any_of HT_.out (by kernel_rfl)) (fun _ _ _ h => h) (Or.inl ⟨by rfl, ?_⟩) ?_ ?_; rotate_left
          ·intro w'; go_simp; with_reducible rfl
          rotate_left
          ·simp only [Act.put, List.setIfInBounds_toArray, List.set_cons_zero, List.set_cons_succ, i64_w, i32_w]; rfl
          refine pure_ (i := 7) (N := some 79) (v := ?_) (a' := ?_) (bitsL 19 255) rfl rfl (any_of HT_.out (by kernel_rfl)) (fun _ _ _ h => h) (Or.inl ⟨by rfl, ?_⟩) ?_ ?_; rotate_left
          ·intro w'; go_simp; with_reducible rfl
          rotate_left
          ·simp only [Act.put, List.setIfInBounds_toArray, List.set_cons_zero, List.set_cons_succ, i64_w, i32_w]; rfl
          refine pure_ (i := 8) (N := some 80) (v := ?_) (a' := ?_) (bitsL 19 511) rfl rfl (any_of HT_.out (by kernel_rfl)) (fun _ _ _ h => h) (Or.inl ⟨by rfl, ?_⟩) ?_ ?_; rotate_left
          ·intro w'; go_simp; with_reducible rfl
          rotate_left
          ·simp only [Act.put, List.setIfInBounds_toArray, List.set_cons_zero, List.set_cons_succ, i64_w, i32_w]; rfl
          refine pure_ (i := 9) (N := some 81) (v := ?_) (a' := ?_) (bitsL 19 1023) rfl rfl (any_of HT_.out (by kernel_rfl)) (fun _ _ _ h => h) (Or.inl ⟨by rfl, ?_⟩) ?_ ?_; rotate_left
          ·intro w'; go_simp; with_reducible rfl
          rotate_left
          ·simp only [Act.put, List.setIfInBounds_toArray, List.set_cons_zero, List.set_cons_succ, i64_w, i32_w]; rfl
          refine pure_ (i := 10) (N := some 82) (v := ?_) (a' := ?_) (bitsL 19 2047) rfl rfl (any_of HT_.out (by kernel_rfl)) (fun _ _ _ h => h) (Or.inl ⟨by rfl, ?_⟩) ?_ ?_; rotate_left
          ·intro w'; go_simp; with_reducible rfl
          rotate_left
          ·simp only [Act.put, List.setIfInBounds_toArray, List.set_cons_zero, List.set_cons_succ, i64_w, i32_w]; rfl
          refine pure_ (i := 11) (N := some 83) (v := undef) (a' := ?_) (bitsL 19 4095) rfl rfl (any_of HT_.out (by kernel_rfl)) (fun _ _ _ h => h) (Or.inr ⟨by rfl, rfl⟩) ?_ ?_; rotate_left
          ·simp only [Act.put, List.setIfInBounds_toArray, List.set_cons_zero, List.set_cons_succ, i64_w, i32_w]; rfl
          refine pure_ (i := 12) (N := some 84) (v := undef) (a' := ?_) (bitsL 19 8191) rfl rfl (any_of HT_.out (by kernel_rfl)) (fun _ _ _ h => h) (Or.inr ⟨by rfl, rfl⟩) ?_ ?_; rotate_left
          ·simp only [Act.put, List.setIfInBounds_toArray, List.set_cons_zero, List.set_cons_succ, i64_w, i32_w]; rfl
          refine pure_ (i := 13) (N := some 85) (v := undef) (a' := ?_) (bitsL 19 16383) rfl rfl (any_of HT_.out (by kernel_rfl)) (fun _ _ _ h => h) (Or.inr ⟨by rfl, rfl⟩) ?_ ?_; rotate_left
          ·simp only [Act.put, List.setIfInBounds_toArray, List.set_cons_zero, List.set_cons_succ, i64_w, i32_w]; rfl
          refine pure_ (i := 14) (N := some 86) (v := ?_) (a' := ?_) (bitsL 19 32767) rfl rfl (any_of HT_.out (by kernel_rfl)) (fun _ _ _ h => h) (Or.inl ⟨by rfl, ?_⟩) ?_ ?_; rotate_left
          ·intro w'; go_simp; with_reducible rfl
          rotate_left
          ·simp only [Act.put, List.setIfInBounds_toArray, List.set_cons_zero, List.set_cons_succ, i64_w, i32_w]; rfl
          refine pure_ (i := 15) (N := some 87) (v := ?_) (a' := ?_) (bitsL 19 65535) rfl rfl (any_of HT_.out (by kernel_rfl)) (fun _ _ _ h => h) (Or.inl ⟨by rfl, ?_⟩) ?_ ?_; rotate_left
          ·intro w'; go_simp; with_reducible rfl
          rotate_left
          ·simp only [Act.put, List.setIfInBounds_toArray, List.set_cons_zero, List.set_cons_succ, i64_w, i32_w]; rfl
          refine pure_ (i := 16) (N := some 88) (v := undef) (a' := ?_) (bitsL 19 131071) rfl rfl (any_of HT_.out (by kernel_rfl)) (fun _ _ _ h => h) (Or.inr ⟨by rfl, rfl⟩) ?_ ?_; rotate_left
          ·simp only [Act.put, List.setIfInBounds_toArray, List.set_cons_zero, List.set_cons_succ, i64_w, i32_w]; rfl
          refine pure_ (i := 17) (N := some 89) (v := ?_) (a' := ?_) (bitsL 19 262143) rfl rfl (any_of HT_.out (by kernel_rfl)) (fun _ _ _ h => h) (Or.inl ⟨by rfl, ?_⟩) ?_ ?_; rotate_left
          ·intro w'; go_simp; with_reducible rfl
          rotate_left
          ·simp only [Act.put, List.setIfInBounds_toArray, List.set_cons_zero, List.set_cons_succ, i64_w, i32_w]; rfl
          refine pure_ (i := 18) (N := some 6) (v := ?_) (a' := ?_) (bitsL 19 524287) rfl rfl (any_of HT_.out (by kernel_rfl)) (fun _ _ _ h => h) (Or.inl ⟨by rfl, ?_⟩) ?_ ?_; rotate_left
          ·intro w'; go_simp; with_reducible rfl
          rotate_left
          ·simp only [Act.put, List.setIfInBounds_toArray, List.set_cons_zero, List.set_cons_succ, i64_w, i32_w]; rfl
          refine done_ (done_of HT_.out (by kernel_rfl)) ?_
          as_aux_lemma =>
           try go_wp2
           go_ret
           exact ⟨ew, bwS⟩
       ·rw [if_neg c62] at H; have c62b0 : (t526.toList == t527.toList) = false := beq_eq_false_iff_ne.mpr c62; have c62b1 : (t526.toList != t527.toList) = true := bne_iff_ne.mpr c62; obtain rfl := Option.some.inj H; have hnb115 := NB501_509.out; have hnc115 := NB509_501.out; have hnb116 := NB501_515.out; have hnc116 := NB515_501.out; have hcz117_0 : wc.cell? ⟨gb501, 0, none⟩ = some (.string a1_0) := (blk_cell BK501.out 0).trans rfl; have hcz117_1 : wc.cell? ⟨gb501, 1, none⟩ = some (.slice A1_1 l1_1.length c1_1) := (blk_cell BK501.out 1).trans rfl; have hfz117_0 := blk_frozen BK501.out 0; have hfz117_1 := blk_frozen BK501.out 1
        as_aux_lemma =>
         try go_wp2_with (first | ((with_reducible refine gate_callee (f := 30) rfl ?_); refine goesL_ (some 59) rfl rfl Tryd.func30 (by kernel_rfl) rfl #[.agg #[.string a1_0, .slice A1_1 l1_1.length c1_1]] rfl am ?_; (with_reducible refine (bulletinlaw20_To.calls kj15 a1_0 _ _ l1_1 t517 t518 _ ?side1 ?side2 A57.out).mono ?_); (case side1 => repeat (first | exact (Kd.C_below HR1_1.out HB.out) | (with_reducible refine Kd.C_alloc ?_ _) | (with_reducible refine Kd.C_drewN ?_ _) | (with_reducible refine Kd.C_drew ?_))); (case side2 => exact HC1_1.out); rintro e w118 ⟨v519, rfl, ho0, hb⟩; refine ⟨_, rfl, ?_⟩; have n0_ := Aside0.mk (Kd.R_elder' (ra HO_510001.out) (Kd.R_base ho0) hb); have n1_ := Aside0.mk (Kd.R_below (ra HO_516001.out) hb); have n2_ := Aside0.mk (Kd.R_lower (Kd.R_new' ho0 (Kd.R_lt (ra HO_510001.out))) (below_size bwS)); have n3_ := Aside0.mk (blk_below (g := gb501) (o := .cells #[.string a1_0, .slice A1_1 l1_1.length c1_1] 47 (0, 0)) bk hb); have n4_ := Aside0.mk (blk_below (g := gb509) (o := .cells #[.string t504, .slice Ao21 t505.length co21] 51 (0, 0)) bk hb); have n5_ := Aside0.mk (blk_below (g := gb515) (o := .cells #[.string t510, .slice Ao27 t511.length co27] 47 (0, 0)) bk hb); have n6_ := Aside0.mk (below_step bwS hb); clear HO_510001; clear HO_516001; clear BK501; clear BK509; clear BK515; clear HB; have HO_510001 := n0_; have HO_516001 := n1_; have HO520 := n2_; have BK501 := n3_; have BK509 := n4_; have BK515 := n5_; have HB := n6_; clear n0_ n1_ n2_ n3_ n4_ n5_ n6_; (try clear hb); (try clear hb2); (try clear hk); (try clear hi); (try clear ho0)) | ((with_reducible refine gate_dst (N := 11) rfl ?_); (try (refine gate_guard (by rfl) ?_; dsimp only)); refine box_event ?hg (N := 11) ?hd (cs := #[.string (⟨#[]⟩ : ByteArray), .slice none 0 0]) (t := 51) ?hr ?_; (case hd => rfl); (case hg => rfl); (case hr => first | (go_simp; done) | (go_simp; rfl)); intro gb521 hg w119 hbox hb; have n0_ := Aside0.mk (Kd.R_below (ra HO_510001.out) hb); have n1_ := Aside0.mk (Kd.R_below (ra HO_516001.out) hb); have n2_ := Aside0.mk (Kd.R_below (ra HO520.out) hb); have n3_ := Aside0.mk (blk_below (g := gb501) (o := .cells #[.string a1_0, .slice A1_1 l1_1.length c1_1] 47 (0, 0)) bk hb); have n4_ := Aside0.mk (blk_below (g := gb509) (o := .cells #[.string t504, .slice Ao21 t505.length co21] 51 (0, 0)) bk hb); have n5_ := Aside0.mk (blk_below (g := gb515) (o := .cells #[.string t510, .slice Ao27 t511.length co27] 47 (0, 0)) bk hb); have n6_ := Aside0.mk (below_step bwS hb); have n7_ := Aside0.mk (hbox); have n8_ := Aside0.mk ((by rw [hg]; exact (below_size bwS) : w.heap.size ≤ gb521)); have n9_ := Aside0.mk ((by rw [hg]; exact (below_size bwS) : w.heap.size ≤ gb521)); have n10_ := Aside0.mk ((by rw [hg]; exact Nat.ne_of_lt (blk_lt (g := gb501) (o := .cells #[.string a1_0, .slice A1_1 l1_1.length c1_1] 47 (0, 0)) bk) : gb501 ≠ gb521)); have n11_ := Aside0.mk ((by rw [hg]; exact Nat.ne_of_gt (blk_lt (g := gb501) (o := .cells #[.string a1_0, .slice A1_1 l1_1.length c1_1] 47 (0, 0)) bk) : gb521 ≠ gb501)); have n12_ := Aside0.mk ((by rw [hg]; exact Nat.ne_of_lt (blk_lt (g := gb509) (o := .cells #[.string t504, .slice Ao21 t505.length co21] 51 (0, 0)) bk) : gb509 ≠ gb521)); have n13_ := Aside0.mk ((by rw [hg]; exact Nat.ne_of_gt (blk_lt (g := gb509) (o := .cells #[.string t504, .slice Ao21 t505.length co21] 51 (0, 0)) bk) : gb521 ≠ gb509)); have n14_ := Aside0.mk ((by rw [hg]; exact Nat.ne_of_lt (blk_lt (g := gb515) (o := .cells #[.string t510, .slice Ao27 t511.length co27] 47 (0, 0)) bk) : gb515 ≠ gb521)); have n15_ := Aside0.mk ((by rw [hg]; exact Nat.ne_of_gt (blk_lt (g := gb515) (o := .cells #[.string t510, .slice Ao27 t511.length co27] 47 (0, 0)) bk) : gb521 ≠ gb515)); clear HO_510001; clear HO_516001; clear HO520; clear BK501; clear BK509; clear BK515; clear HB; have HO_510001 := n0_; have HO_516001 := n1_; have HO520 := n2_; have BK501 := n3_; have BK509 := n4_; have BK515 := n5_; have HB := n6_; have BK521 := n7_; have GW521 := n8_; have GE521 := n9_; have NB501_521 := n10_; have NB521_501 := n11_; have NB509_521 := n12_; have NB521_509 := n13_; have NB515_521 := n14_; have NB521_515 := n15_; clear n0_ n1_ n2_ n3_ n4_ n5_ n6_ n7_ n8_ n9_ n10_ n11_ n12_ n13_ n14_ n15_; clear hb hbox hg; have hnb120 := NB521_501.out; have hnc120 := NB501_521.out; have hnb121 := NB521_509.out; have hnc121 := NB509_521.out; have hnb122 := NB521_515.out; have hnc122 := NB515_521.out; have hcz123_0 : w119.cell? ⟨gb521, 0, none⟩ = some (.string (⟨#[]⟩ : ByteArray)) := (blk_cell BK521.out 0).trans rfl; have hcz123_1 : w119.cell? ⟨gb521, 1, none⟩ = some (.slice none 0 0) := (blk_cell BK521.out 1).trans rfl; have hfz123_0 := blk_frozen BK521.out 0; have hfz123_1 := blk_frozen BK521.out 1; obtain ⟨Ao124, co124, eo124⟩ := Kd.R_slice HO520.out; subst eo124) | ((with_reducible refine gate_callee (f := 31) rfl ?_); refine goesL_ (some 63) rfl rfl Tryd.func31 (by kernel_rfl) rfl #[.agg #[.string t517, .slice Ao124 t518.length co124], .string a2] rfl am ?_; (with_reducible refine (mime_Type_Value.calls kj15 t517 _ _ t518 a2 t522 t523 _ ?side1 ?side2 A58.out).mono ?_); (case side1 => refine (Kd.R_reads' (e := 104) (base := w.heap.size) (ok := fun k_ => (True ∧ some k_ ≠ (.slice Ao21 t505.length co21 : Value).ownBlock)) (n := t518.length) (c := co124) ?_).2.2; exact (by (with_reducible repeat (first | apply Kd.R_alloc | apply Kd.R_drewN | apply Kd.R_drew)); exact (Kd.R_mono (Kd.R_far (p := ⟨gb521, 1, none⟩) (Kd.R_far (p := ⟨gb521, 0, none⟩) (Kd.R_types HO520.out BK521.out (by decide)) (fun _ hk => hk.2) (.string t517)) (fun _ hk => hk.2) (.slice Ao124 t518.length co124)) (fun _ h_ => h_.1)))); (case side2 => exact (Kd.R_reads' HO520.out).2.1); rintro e w125 ⟨rfl, hb⟩; refine ⟨_, rfl, ?_⟩; have n0_ := Aside0.mk (Kd.R_below (by (with_reducible repeat (first | apply Kd.R_alloc | apply Kd.R_drewN | apply Kd.R_drew)); exact (Kd.R_mono (Kd.R_far (p := ⟨gb521, 1, none⟩) (Kd.R_far (p := ⟨gb521, 0, none⟩) (Kd.R_types HO_510001.out BK521.out (by decide)) (fun _ hk => hk.2) (.string t517)) (fun _ hk => hk.2) (.slice Ao124 t518.length co124)) (fun _ h_ => h_.1))) hb); have n1_ := Aside0.mk (Kd.R_below (by (with_reducible repeat (first | apply Kd.R_alloc | apply Kd.R_drewN | apply Kd.R_drew)); exact (Kd.R_mono (Kd.R_far (p := ⟨gb521, 1, none⟩) (Kd.R_far (p := ⟨gb521, 0, none⟩) (Kd.R_types HO_516001.out BK521.out (by decide)) (fun _ hk => hk.2) (.string t517)) (fun _ hk => hk.2) (.slice Ao124 t518.length co124)) (fun _ h_ => h_.1))) hb); have n2_ := Aside0.mk (Kd.R_below (by (with_reducible repeat (first | apply Kd.R_alloc | apply Kd.R_drewN | apply Kd.R_drew)); exact (Kd.R_mono (Kd.R_far (p := ⟨gb521, 1, none⟩) (Kd.R_far (p := ⟨gb521, 0, none⟩) (Kd.R_types HO520.out BK521.out (by decide)) (fun _ hk => hk.2) (.string t517)) (fun _ hk => hk.2) (.slice Ao124 t518.length co124)) (fun _ h_ => h_.1))) hb); have n3_ := Aside0.mk (blk_below (g := gb501) (o := .cells #[.string a1_0, .slice A1_1 l1_1.length c1_1] 47 (0, 0)) (by (with_reducible repeat (first | refine blk_drewN ?_ _ | refine blk_drew ?_ | refine blk_alloc ?_ _)); refine blk_far ?_ NB501_521.out _; (with_reducible repeat (first | refine blk_drewN ?_ _ | refine blk_drew ?_ | refine blk_alloc ?_ _)); refine blk_far ?_ NB501_521.out _; (with_reducible repeat (first | refine blk_drewN ?_ _ | refine blk_drew ?_ | refine blk_alloc ?_ _)); exact BK501.out) hb); have n4_ := Aside0.mk (blk_below (g := gb509) (o := .cells #[.string t504, .slice Ao21 t505.length co21] 51 (0, 0)) (by (with_reducible repeat (first | refine blk_drewN ?_ _ | refine blk_drew ?_ | refine blk_alloc ?_ _)); refine blk_far ?_ NB509_521.out _; (with_reducible repeat (first | refine blk_drewN ?_ _ | refine blk_drew ?_ | refine blk_alloc ?_ _)); refine blk_far ?_ NB509_521.out _; (with_reducible repeat (first | refine blk_drewN ?_ _ | refine blk_drew ?_ | refine blk_alloc ?_ _)); exact BK509.out) hb); have n5_ := Aside0.mk (blk_below (g := gb515) (o := .cells #[.string t510, .slice Ao27 t511.length co27] 47 (0, 0)) (by (with_reducible repeat (first | refine blk_drewN ?_ _ | refine blk_drew ?_ | refine blk_alloc ?_ _)); refine blk_far ?_ NB515_521.out _; (with_reducible repeat (first | refine blk_drewN ?_ _ | refine blk_drew ?_ | refine blk_alloc ?_ _)); refine blk_far ?_ NB515_521.out _; (with_reducible repeat (first | refine blk_drewN ?_ _ | refine blk_drew ?_ | refine blk_alloc ?_ _)); exact BK515.out) hb); have n6_ := Aside0.mk (blk_below (g := gb521) (o := .cells #[.string t517, .slice Ao124 t518.length co124] 51 (0, 0)) (by (with_reducible repeat (first | refine blk_drewN ?_ _ | refine blk_drew ?_ | refine blk_alloc ?_ _)); refine blk_put (cs := #[.string t517, .slice none 0 0]) ?_ 1 _ rfl; (with_reducible repeat (first | refine blk_drewN ?_ _ | refine blk_drew ?_ | refine blk_alloc ?_ _)); exact blk_put (cs := #[.string (⟨#[]⟩ : ByteArray), .slice none 0 0]) bk 0 _ rfl) hb); have n7_ := Aside0.mk (below_step bwS hb); clear HO_510001; clear HO_516001; clear HO520; clear BK501; clear BK509; clear BK515; clear BK521; clear HB; have HO_510001 := n0_; have HO_516001 := n1_; have HO520 := n2_; have BK501 := n3_; have BK509 := n4_; have BK515 := n5_; have BK521 := n6_; have HB := n7_; clear n0_ n1_ n2_ n3_ n4_ n5_ n6_ n7_; (try clear hb); (try clear hb2); (try clear hk); (try clear hi); have hcz126_0 : w125.cell? ⟨gb501, 0, none⟩ = some (.string a1_0) := (blk_cell BK501.out 0).trans rfl; have hcz126_1 : w125.cell? ⟨gb501, 1, none⟩ = some (.slice A1_1 l1_1.length c1_1) := (blk_cell BK501.out 1).trans rfl; have hfz126_0 := blk_frozen BK501.out 0; have hfz126_1 := blk_frozen BK501.out 1) | ((with_reducible refine gate_callee (f := 32) rfl ?_); refine goesL_ (some 69) rfl rfl Tryd.func32 (by kernel_rfl) rfl #[.agg #[.string a1_0, .slice A1_1 l1_1.length c1_1], .string a2] rfl am ?_; (with_reducible refine (bulletinref20_Value.calls kj15 a1_0 _ _ l1_1 a2 t524 t525 _ ?side1 ?side2 A59.out).mono ?_); (case side1 => repeat (first | exact (Kd.C_below HR1_1.out HB.out) | (with_reducible refine Kd.C_alloc ?_ _) | (with_reducible refine Kd.C_drewN ?_ _) | (with_reducible refine Kd.C_drew ?_))); (case side2 => exact HC1_1.out); rintro e w127 ⟨rfl, hb⟩; refine ⟨_, rfl, ?_⟩; have n0_ := Aside0.mk (Kd.R_below (ra HO_510001.out) hb); have n1_ := Aside0.mk (Kd.R_below (ra HO_516001.out) hb); have n2_ := Aside0.mk (Kd.R_below (ra HO520.out) hb); have n3_ := Aside0.mk (blk_below (g := gb501) (o := .cells #[.string a1_0, .slice A1_1 l1_1.length c1_1] 47 (0, 0)) bk hb); have n4_ := Aside0.mk (blk_below (g := gb509) (o := .cells #[.string t504, .slice Ao21 t505.length co21] 51 (0, 0)) bk hb); have n5_ := Aside0.mk (blk_below (g := gb515) (o := .cells #[.string t510, .slice Ao27 t511.length co27] 47 (0, 0)) bk hb); have n6_ := Aside0.mk (blk_below (g := gb521) (o := .cells #[.string t517, .slice Ao124 t518.length co124] 51 (0, 0)) bk hb); have n7_ := Aside0.mk (below_step bwS hb); clear HO_510001; clear HO_516001; clear HO520; clear BK501; clear BK509; clear BK515; clear BK521; clear HB; have HO_510001 := n0_; have HO_516001 := n1_; have HO520 := n2_; have BK501 := n3_; have BK509 := n4_; have BK515 := n5_; have BK521 := n6_; have HB := n7_; clear n0_ n1_ n2_ n3_ n4_ n5_ n6_ n7_; (try clear hb); (try clear hb2); (try clear hk); (try clear hi)))
         have n0_ := Aside0.mk (Kd.R_drew HO_510001.out); have n1_ := Aside0.mk (Kd.R_drew HO_516001.out); have n2_ := Aside0.mk (Kd.R_drew HO520.out); have n3_ := Aside0.mk (blk_drew BK501.out); have n4_ := Aside0.mk (blk_drew BK509.out); have n5_ := Aside0.mk (blk_drew BK515.out); have n6_ := Aside0.mk (blk_drew BK521.out); have n7_ := Aside0.mk (below_drew1 HB.out); clear HO_510001 HO_516001 HO520 BK501 BK509 BK515 BK521 HB; have HO_510001 := n0_; have HO_516001 := n1_; have HO520 := n2_; have BK501 := n3_; have BK509 := n4_; have BK515 := n5_; have BK521 := n6_; have HB := n7_; clear n0_ n1_ n2_ n3_ n4_ n5_ n6_ n7_; refine start_ (n := 19) (S := fun w' => w'.cell? ⟨gb521, 0, none⟩ = some (.string t517) ∧ w'.cell? ⟨gb521, 1, none⟩ = some (.slice Ao124 t518.length co124) ∧ w'.cell? ⟨gb501, 0, none⟩ = some (.string a1_0) ∧ w'.cell? ⟨gb501, 1, none⟩ = some (.slice A1_1 l1_1.length c1_1)) (ds := []) #[false, false, false, false, false, false, false, false, false, false, false, false, false, false, false, false, false, false, false] (by kernel_rfl) rfl rfl ⟨(blk_cell BK521.out 0).trans rfl, (blk_cell BK521.out 1).trans rfl, (blk_cell BK501.out 0).trans rfl, (blk_cell BK501.out 1).trans rfl⟩ (fun hHeld => ?_); refine with_tabW bulletinlaw20_MimeTypes.tab10 bulletinlaw20_MimeTypes.bits10 (fun HT_ HW_ => ?_)
         generalize w127.drew = w128 at HO_510001 HO_516001 HO520 BK501 BK509 BK515 BK521 HB hHeld ⊢
         refine take_ (i := 0) (N := some 72) (v := ?_) (a' := ?_) (bitsL 19 1) rfl rfl (take_ofW HT_.out HW_.out (by kernel_rfl)) (fun _ _ _ h => h) (Or.inl ⟨by rfl, ?_⟩) hHeld ?_ ?_; rotate_left
         ·rintro w' ⟨s0, s1, s2, s3⟩; go_simp; with_reducible rfl
         rotate_left
         ·simp only [Act.put, List.setIfInBounds_toArray, List.set_cons_zero, List.set_cons_succ, i64_w, i32_w]; rfl
         refine take_ (i := 2) (N := some 74) (v := ?_) (a' := ?_) (bitsL 19 5) rfl rfl (take_ofW HT_.out HW_.out (by kernel_rfl)) (fun _ _ _ h => h) (Or.inl ⟨by rfl, ?_⟩) hHeld ?_ ?_; rotate_left
         ·rintro w' ⟨s0, s1, s2, s3⟩; go_simp; with_reducible rfl
         rotate_left
         ·simp only [Act.put, List.setIfInBounds_toArray, List.set_cons_zero, List.set_cons_succ, i64_w, i32_w]; rfl
         refine one_ (i := 1) (N := some 73) (bitsL 19 7) rfl rfl (one_of HT_.out (by kernel_rfl)) (by decide) (fun K hK => ?_); refine goes_ Tryd.func33 (by kernel_rfl) rfl #[.agg #[.string t517, .slice Ao124 t518.length co124]] (by rfl) rfl rfl am ?_; with_reducible refine (mime_Type_Text.calls (hG := by first | exact hG | exact Glob.below hG (by first | exact HB.out | (repeat (first | (with_reducible first | exact HB.out | apply below_alloc | apply pw_below_drewN | apply below_drew1 | refine below_set ?_ GE501.out | refine below_set ?_ GE509.out | refine below_set ?_ GE515.out | refine below_set ?_ GE521.out) | exact HB.out))) | exact Glob.drawn hG (d0)) kj15 t517 _ _ t518 t526 _ ?side1 ?side2 A60.out).mono ?_
         (case side1 => repeat (first | exact (Kd.R_reads' HO520.out).2.2 | (with_reducible refine Kd.C_alloc ?_ _) | (with_reducible refine Kd.C_drewN ?_ _) | (with_reducible refine Kd.C_drew ?_)))
         (case side2 => exact (Kd.R_reads' HO520.out).2.1)
         rintro e w129 ⟨rfl, hb⟩; refine ⟨_, rfl, ?_⟩; have n0_ := Aside0.mk (Kd.R_below (ra HO_510001.out) hb); have n1_ := Aside0.mk (Kd.R_below (ra HO_516001.out) hb); have n2_ := Aside0.mk (Kd.R_below (ra HO520.out) hb); have n3_ := Aside0.mk (blk_below (g := gb501) (o := .cells #[.string a1_0, .slice A1_1 l1_1.length c1_1] 47 (0, 0)) bk hb); have n4_ := Aside0.mk (blk_below (g := gb509) (o := .cells #[.string t504, .slice Ao21 t505.length co21] 51 (0, 0)) bk hb); have n5_ := Aside0.mk (blk_below (g := gb515) (o := .cells #[.string t510, .slice Ao27 t511.length co27] 47 (0, 0)) bk hb); have n6_ := Aside0.mk (blk_below (g := gb521) (o := .cells #[.string t517, .slice Ao124 t518.length co124] 51 (0, 0)) bk hb); have n7_ := Aside0.mk (below_step bwS hb); clear HO_510001 HO_516001 HO520 BK501 BK509 BK515 BK521 HB; have HO_510001 := n0_; have HO_516001 := n1_; have HO520 := n2_; have BK501 := n3_; have BK509 := n4_; have BK515 := n5_; have BK521 := n6_; have HB := n7_; clear n0_ n1_ n2_ n3_ n4_ n5_ n6_ n7_
         (try clear hb)
         (try clear hb2)
         (try clear hk)
         (try clear hi)
         refine hK.out _ _ ⟨(blk_cell BK521.out 0).trans rfl, (blk_cell BK521.out 1).trans rfl, (blk_cell BK501.out 0).trans rfl, (blk_cell BK501.out 1).trans rfl⟩ (fun hHeld => ?_); clear hK K; refine norm_ (a' := ?_) ?_ ?_; rotate_left
         ·show Act.put _ (some 73) _ = _
          simp only [Act.put, List.setIfInBounds_toArray, List.set_cons_zero, List.set_cons_succ, i64_w, i32_w]; rfl
         refine one_ (i := 3) (N := some 75) (bitsL 19 15) rfl rfl (one_of HT_.out (by kernel_rfl)) (by decide) (fun K hK => ?_); refine goes_ Tryd.func34 (by kernel_rfl) rfl #[.agg #[.string a1_0, .slice A1_1 l1_1.length c1_1]] (by rfl) rfl rfl am ?_; with_reducible refine (bulletinref20_Text.calls kj15 a1_0 _ _ l1_1 t527 _ ?side1 ?side2 A61.out).mono ?_
         (case side1 => repeat (first | exact (Kd.C_below HR1_1.out HB.out) | (with_reducible refine Kd.C_alloc ?_ _) | (with_reducible refine Kd.C_drewN ?_ _) | (with_reducible refine Kd.C_drew ?_)))
         (case side2 => exact HC1_1.out)
         rintro e w130 ⟨rfl, hb⟩; refine ⟨_, rfl, ?_⟩; have n0_ := Aside0.mk (Kd.R_below (ra HO_510001.out) hb); have n1_ := Aside0.mk (Kd.R_below (ra HO_516001.out) hb); have n2_ := Aside0.mk (Kd.R_below (ra HO520.out) hb); have n3_ := Aside0.mk (blk_below (g := gb501) (o := .cells #[.string a1_0, .slice A1_1 l1_1.length c1_1] 47 (0, 0)) bk hb); have n4_ := Aside0.mk (blk_below (g := gb509) (o := .cells #[.string t504, .slice Ao21 t505.length co21] 51 (0, 0)) bk hb); have n5_ := Aside0.mk (blk_below (g := gb515) (o := .cells #[.string t510, .slice Ao27 t511.length co27] 47 (0, 0)) bk hb); have n6_ := Aside0.mk (blk_below (g := gb521) (o := .cells #[.string t517, .slice Ao124 t518.length co124] 51 (0, 0)) bk hb); have n7_ := Aside0.mk (below_step bwS hb); clear HO_510001 HO_516001 HO520 BK501 BK509 BK515 BK521 HB; have HO_510001 := n0_; have HO_516001 := n1_; have HO520 := n2_; have BK501 := n3_; have BK509 := n4_; have BK515 := n5_; have BK521 := n6_; have HB := n7_; clear n0_ n1_ n2_ n3_ n4_ n5_ n6_ n7_
         (try clear hb)
         (try clear hb2)
         (try clear hk)
         (try clear hi)
         refine hK.out _ _ ⟨(blk_cell BK521.out 0).trans rfl, (blk_cell BK521.out 1).trans rfl, (blk_cell BK501.out 0).trans rfl, (blk_cell BK501.out 1).trans rfl⟩ (fun hHeld => ?_); clear hK K; refine norm_ (a' := ?_) ?_ ?_; rotate_left
         ·show Act.put _ (some 75) _ = _
          simp only [Act.put, List.setIfInBounds_toArray, List.set_cons_zero, List.set_cons_succ, i64_w, i32_w]; rfl
         refine pure_ (i := 4) (N := some 76) (v := ?_) (a' := ?_) (bitsL 19 31) rfl rfl (any_of HT_.out (by kernel_rfl)) (fun _ _ _ h => h) (Or.inl ⟨by rfl, ?_⟩) ?_ ?_; rotate_left
         ·intro w'; go_simp; with_reducible rfl
         rotate_left
         ·simp only [Act.put, List.setIfInBounds_toArray, List.set_cons_zero, List.set_cons_succ, i64_w, i32_w]; rfl
         refine pure_ (i := 5) (N := some 77) (v := ?_) (a' := ?_) (bitsL 19 63) rfl rfl (any_of HT_.out (by kernel_rfl)) (fun _ _ _ h => h) (Or.inl ⟨by rfl, ?_⟩) ?_ ?_; rotate_left
         ·intro w'; go_simp; with_reducible rfl
         rotate_left
         ·simp only [Act.put, List.setIfInBounds_toArray, List.set_cons_zero, List.set_cons_succ, i64_w, i32_w]; rfl
         refine pure_ (i := 6) (N := some 78) (v := undef) (a' := ?_) (bitsL 19 127) rfl rfl (any_of HT_.out (by kernel_rfl)) (fun _ _ _ h => h) (Or.inr ⟨by rfl, rfl⟩) ?_ ?_; rotate_left
         ·simp only [Act.put, List.setIfInBounds_toArray, List.set_cons_zero, List.set_cons_succ, i64_w, i32_w]; rfl
         refine pure_ (i := 7) (N := some 79) (v := undef) (a' := ?_) (bitsL 19 255) rfl rfl (any_of HT_.out (by kernel_rfl)) (fun _ _ _ h => h) (Or.inr ⟨by rfl, rfl⟩) ?_ ?_; rotate_left
         ·simp only [Act.put, List.setIfInBounds_toArray, List.set_cons_zero, List.set_cons_succ, i64_w, i32_w]; rfl
         refine pure_ (i := 8) (N := some 80) (v := undef) (a' := ?_) (bitsL 19 511) rfl rfl (any_of HT_.out (by kernel_rfl)) (fun _ _ _ h => h) (Or.inr ⟨by rfl, rfl⟩) ?_ ?_; rotate_left
         ·simp only [Act.put, List.setIfInBounds_toArray, List.set_cons_zero, List.set_cons_succ, i64_w, i32_w]; rfl
         refine pure_ (i := 9) (N := some 81) (v := ?_) (a' := ?_) (bitsL 19 1023) rfl rfl (any_of HT_.out (by kernel_rfl)) (fun _ _ _ h => h) (Or.inl ⟨by rfl, ?_⟩) ?_ ?_; rotate_left
         ·intro w'; go_simp; with_reducible rfl
         rotate_left
         ·simp only [Act.put, List.setIfInBounds_toArray, List.set_cons_zero, List.set_cons_succ, i64_w, i32_w]; rfl
         refine pure_ (i := 10) (N := some 82) (v := ?_) (a' := ?_) (bitsL 19 2047) rfl rfl (any_of HT_.out (by kernel_rfl)) (fun _ _ _ h => h) (Or.inl ⟨by rfl, ?_⟩) ?_ ?_; rotate_left
         ·intro w'; go_simp; with_reducible rfl
         rotate_left
         ·simp only [Act.put, List.setIfInBounds_toArray, List.set_cons_zero, List.set_cons_succ, i64_w, i32_w]; rfl
         refine pure_ (i := 11) (N := some 83) (v := undef) (a' := ?_) (bitsL 19 4095) rfl rfl (any_of HT_.out (by kernel_rfl)) (fun _ _ _ h => h) (Or.inr ⟨by rfl, rfl⟩) ?_ ?_; rotate_left
         ·simp only [Act.put, List.setIfInBounds_toArray, List.set_cons_zero, List.set_cons_succ, i64_w, i32_w]; rfl
         refine pure_ (i := 12) (N := some 84) (v := undef) (a' := ?_) (bitsL 19 8191) rfl rfl (any_of HT_.out (by kernel_rfl)) (fun _ _ _ h => h) (Or.inr ⟨by rfl, rfl⟩) ?_ ?_; rotate_left
         ·simp only [Act.put, List.setIfInBounds_toArray, List.set_cons_zero, List.set_cons_succ, i64_w, i32_w]; rfl
         refine pure_ (i := 13) (N := some 85) (v := undef) (a' := ?_) (bitsL 19 16383) rfl rfl (any_of HT_.out (by kernel_rfl)) (fun _ _ _ h => h) (Or.inr ⟨by rfl, rfl⟩) ?_ ?_; rotate_left
         ·simp only [Act.put, List.setIfInBounds_toArray, List.set_cons_zero, List.set_cons_succ, i64_w, i32_w]; rfl
         refine pure_ (i := 14) (N := some 86) (v := ?_) (a' := ?_) (bitsL 19 32767) rfl rfl (any_of HT_.out (by kernel_rfl)) (fun _ _ _ h => h) (Or.inl ⟨by rfl, ?_⟩) ?_ ?_; rotate_left
         ·intro w'; go_simp; with_reducible rfl
         rotate_left
         ·simp only [Act.put, List.setIfInBounds_toArray, List.set_cons_zero, List.set_cons_succ, i64_w, i32_w]; rfl
         refine pure_ (i := 15) (N := some 87) (v := ?_) (a' := ?_) (bitsL 19 65535) rfl rfl (any_of HT_.out (by kernel_rfl)) (fun _ _ _ h => h) (Or.inl ⟨by rfl, ?_⟩) ?_ ?_; rotate_left
         ·intro w'; go_simp; with_reducible rfl
         rotate_left
         ·simp only [Act.put, List.setIfInBounds_toArray, List.set_cons_zero, List.set_cons_succ, i64_w, i32_w]; rfl
         refine pure_ (i := 16) (N := some 88) (v := undef) (a' := ?_) (bitsL 19 131071) rfl rfl (any_of HT_.out (by kernel_rfl)) (fun _ _ _ h => h) (Or.inr ⟨by rfl, rfl⟩) ?_ ?_; rotate_left
         ·simp only [Act.put, List.setIfInBounds_toArray, List.set_cons_zero, List.set_cons_succ, i64_w, i32_w]; rfl
         refine pure_ (i := 17) (N := some 89) (v := ?_) (a' := ?_) (bitsL 19 262143) rfl rfl (any_of HT_.out (by kernel_rfl)) (fun _ _ _ h => h) (Or.inl ⟨by rfl, ?_⟩) ?_ ?_; rotate_left
         ·intro w'; go_simp; with_reducible rfl
         rotate_left
         ·simp only [Act.put, List.setIfInBounds_toArray, List.set_cons_zero, List.set_cons_succ, i64_w, i32_w]; rfl
         refine pure_ (i := 18) (N := some 6) (v := ?_) (a' := ?_) (bitsL 19 524287) rfl rfl (any_of HT_.out (by kernel_rfl)) (fun _ _ _ h => h) (Or.inl ⟨by rfl, ?_⟩) ?_ ?_; rotate_left
         ·intro w'; go_simp; with_reducible rfl
         rotate_left
         ·simp only [Act.put, List.setIfInBounds_toArray, List.set_cons_zero, List.set_cons_succ, i64_w, i32_w]; rfl
         refine done_ (done_of HT_.out (by kernel_rfl)) ?_
         as_aux_lemma =>
          try go_wp2
          go_ret
          exact ⟨ew, bwS⟩

end Go.Proofs.YtoikneogdbdplaaDoor.Fn
namespace Go.Proofs.YtoikneogdbdplaaDoor.Fn
open Go.RowKit Go.Proofs.YtoikneogdbdplaaDoorW.PrintWords Go.Proofs.YtoikneogdbdplaaDoorW.PrintLast Go.Proofs.YtoikneogdbdplaaDoorW.PrintMore
attribute [local go_sem] max2_int min2_int max_two min_two max_three min_three max_four min_four
set_option linter.unusedVariables false
set_option linter.unusedSimpArgs false

attribute [local go_sem high] eqA136
def addr_is.f (l0 : List (S136)) (a1 : ByteArray) : Option (Bool) := if (l0.length : Int) > 0 then (if 0 < (l0.length : Int) then (some (((rd_T136 l0 0).f0) == 3 && ((((rd_T136 l0 0).f1).toList) == a1.toList))) else (none)) else (some false)
end Go.Proofs.YtoikneogdbdplaaDoor.Fn
namespace Go.Proofs.YtoikneogdbdplaaDoor.Fn
open Go.RowKit Go.Proofs.YtoikneogdbdplaaDoorW.PrintWords Go.Proofs.YtoikneogdbdplaaDoorW.PrintLast Go.Proofs.YtoikneogdbdplaaDoorW.PrintMore
attribute [local go_sem] max2_int min2_int max_two min_two max_three min_three max_four min_four
set_option linter.unusedVariables false
set_option linter.unusedSimpArgs false

mutual
def addr_joined.l0 : Nat → List (S136) → Bool → ByteArray → Option (ByteArray × (List (S136)) × Bool)
 | 0, _, _, _ => none
 | k + 1, x0, x1, x7 => if (x0.length : Int) = 0 then (addr_joined.j1 k x0 x1 x7 true) else (if 0 < (x0.length : Int) then (if ((rd_T136 x0 0).f0) = 3 then (addr_joined.j1 k x0 x1 x7 true) else (if x1 = true then (addr_joined.j1 k x0 x1 x7 (((rd_T136 x0 0).f0) != 1)) else (addr_joined.j1 k x0 x1 x7 false))) else (none))
def addr_joined.j1 : Nat → List (S136) → Bool → ByteArray → Bool → Option (ByteArray × (List (S136)) × Bool)
 | 0, _, _, _, _ => none
 | k + 1, x0, x1, x7, x27 => if x27 = true then (some ((⟨#[]⟩ : ByteArray), ([] : List (S136)), false)) else (if 0 < (x0.length : Int) then (if x7.size + ((rd_T136 x0 0).f1).size ≤ 9223372036854775807 then (if 1 ≤ (x0.length : Int) then ((some (x0.drop 1 : List (S136))).bind fun y610 => ((addr_is.f y610 (⟨#[46]⟩ : ByteArray)).bind fun t615 => (if t615 = true then (if (x7 ++ ((rd_T136 x0 0).f1)).size + 1 ≤ 9223372036854775807 then (if 1 ≤ (y610.length : Int) then (addr_joined.l0 k (y610.drop 1) x1 ((x7 ++ ((rd_T136 x0 0).f1)) ++ (⟨#[46]⟩ : ByteArray))) else (none)) else (none)) else (some (x7 ++ ((rd_T136 x0 0).f1), y610, true))))) else (none)) else (none)) else (none))
end
def addr_joined.f (k : Nat) (l0 : List (S136)) (a1 : Bool) : Option (ByteArray × (List (S136)) × Bool) := addr_joined.l0 k l0 a1 (⟨#[]⟩ : ByteArray)
end Go.Proofs.YtoikneogdbdplaaDoor.Fn
set_option linter.unusedVariables false
namespace Go.Proofs.YtoikneogdbdplaaDoor.Pl
open Go.RowKit Go.Proofs.YtoikneogdbdplaaDoorW.PrintWords Go.Proofs.YtoikneogdbdplaaDoor.Fn

/-! Layer 12, the program's and the document's: which bytes are atomic; atoms. -/
def atomic (c : UInt8) : Bool := (lex_atomic.f (c.toNat : Int)).getD false
theorem atomic_is (c : UInt8) : lex_atomic.f (c.toNat : Int) = some (atomic c) := by
  have : ∀ x : Int, (lex_atomic.f x).isSome := by
    intro x
    unfold lex_atomic.f strings_IndexByte.f
    simp only [Option.bind_some]
    repeat' split
    all_goals rfl
  unfold atomic
  have h := this (c.toNat : Int)
  cases hx : lex_atomic.f (c.toNat : Int) with
  | none => rw [hx] at h; cases h
  | some b => rfl
def isAtom (s : ByteArray) : Bool := (bs s).all atomic && !(bs s).isEmpty
theorem lexIsAtom_l0 (s : ByteArray) (hs : s.size ≤ 140737488355328) : ∀ (rest : Bytes) (i k : Nat), (bs s).drop i = rest → i ≤ (bs s).length → rest.length + 1 ≤ k →
    lex_IsAtom.l0 k s (s.size : Int) (i : Int) = some (rest.all atomic && !(bs s).isEmpty)
  | [], i, k, hd, hi, hk => by
    obtain ⟨k, rfl⟩ : ∃ j, k = j + 1 := ⟨k - 1, by omega⟩
    have := drop_nil hd
    rw [lex_IsAtom.l0, if_neg (by rw [bs_length] at this; omega), toList_bs]
    cases bs s <;> simp
  | c :: rest, i, k, hd, hi, hk => by
    obtain ⟨k, rfl⟩ : ∃ j, k = j + 1 := ⟨k - 1, by omega⟩
    obtain ⟨h1, h2, h3, h4⟩ := drop_cons hd
    have h5 : i < s.size := by rw [bs_length] at h1; exact h1
    rw [lex_IsAtom.l0, if_pos (by omega), if_pos (by omega), if_pos (by omega), bt_drop hd, atomic_is, Option.bind_some]
    cases ha : atomic c with
    | true =>
      rw [if_pos rfl, wrap_succ i (by omega), lexIsAtom_l0 s hs rest (i + 1) k h3 (by omega) (by simp at hk; omega)]
      simp [ha]
    | false =>
      rw [if_neg (by simp)]
      simp [ha]
theorem lexIsAtom_is (s : ByteArray) (hs : s.size ≤ 140737488355328) (k : Nat) (hk : s.size + 1 ≤ k) : lex_IsAtom.f k s = some (isAtom s) := by
  have := lexIsAtom_l0 s hs (bs s) 0 k (by simp) (by omega) (by rw [bs_length]; omega)
  unfold lex_IsAtom.f isAtom
  exact this
end Go.Proofs.YtoikneogdbdplaaDoor.Pl
namespace Go.Proofs.YtoikneogdbdplaaDoor.Fn
open Go.RowKit Go.Proofs.YtoikneogdbdplaaDoorW.PrintWords Go.Proofs.YtoikneogdbdplaaDoorW.PrintLast Go.Proofs.YtoikneogdbdplaaDoorW.PrintMore
attribute [local go_sem] max2_int min2_int max_two min_two max_three min_three max_four min_four
set_option linter.unusedVariables false
set_option linter.unusedSimpArgs false

def addr_labelled.f (a0 : Int) : Option (Bool) := if a0 ≥ 97 then (if a0 ≤ 122 then (some true) else (if a0 ≥ 65 then (if a0 ≤ 90 then (some true) else (if a0 ≥ 48 then (if a0 ≤ 57 then (some true) else (some (a0 == 45))) else (some (a0 == 45)))) else (if a0 ≥ 48 then (if a0 ≤ 57 then (some true) else (some (a0 == 45))) else (some (a0 == 45))))) else (if a0 ≥ 65 then (if a0 ≤ 90 then (some true) else (if a0 ≥ 48 then (if a0 ≤ 57 then (some true) else (some (a0 == 45))) else (some (a0 == 45)))) else (if a0 ≥ 48 then (if a0 ≤ 57 then (some true) else (some (a0 == 45))) else (some (a0 == 45))))
end Go.Proofs.YtoikneogdbdplaaDoor.Fn
namespace Go.Proofs.YtoikneogdbdplaaDoor.Fn
open Go.RowKit Go.Proofs.YtoikneogdbdplaaDoorW.PrintWords Go.Proofs.YtoikneogdbdplaaDoorW.PrintLast Go.Proofs.YtoikneogdbdplaaDoorW.PrintMore
attribute [local go_sem] max2_int min2_int max_two min_two max_three min_three max_four min_four
set_option linter.unusedVariables false
set_option linter.unusedSimpArgs false

end Go.Proofs.YtoikneogdbdplaaDoor.Fn
set_option linter.unusedVariables false
namespace Go.Proofs.YtoikneogdbdplaaDoor.Pl
open Go.RowKit Go.Proofs.YtoikneogdbdplaaDoorW.PrintWords Go.Proofs.YtoikneogdbdplaaDoor.Fn

/-! Layer 13, the program's: labels. -/
def labelled (c : UInt8) : Bool := (addr_labelled.f (c.toNat : Int)).getD false
def labelL (l : Bytes) : Bool := l.all labelled && (match l.head?, l.getLast? with | some a, some b => a != 45 && b != 45 | _, _ => false)
def label (s : ByteArray) : Bool := labelL (bs s)
end Go.Proofs.YtoikneogdbdplaaDoor.Pl
set_option linter.unusedVariables false
namespace Go.Proofs.YtoikneogdbdplaaDoor.Pl
def dots (s : ByteArray) : List ByteArray := Fn.cuts (Fn.findOne 46) 1 s
def dotted (s : ByteArray) : Bool := (dots s).all isAtom
end Go.Proofs.YtoikneogdbdplaaDoor.Pl
namespace Go.Proofs.YtoikneogdbdplaaDoor.Fn
open Go.RowKit Go.Shelf Go.Proofs.YtoikneogdbdplaaDoorW.PrintWords

def addr_Dotted.f (a0 : ByteArray) : Option Bool := if a0.size ≤ 140737488355328 then some (Pl.dotted a0) else none

attribute [local go_sem] Oper.semAt_some

end Go.Proofs.YtoikneogdbdplaaDoor.Fn
set_option linter.unusedVariables false
namespace Go.Proofs.YtoikneogdbdplaaDoor.Pl
def domLong (s : ByteArray) (l : List ByteArray) : Bool := decide (253 < (s.size : Int)) || l.any (fun x => decide (63 < (x.size : Int)))
def domain (s : ByteArray) : Int := if (dots s).all label = true then (if domLong s (dots s) = true then 2 else 0) else 130
end Go.Proofs.YtoikneogdbdplaaDoor.Pl
namespace Go.Proofs.YtoikneogdbdplaaDoor.Fn
open Go.RowKit Go.Shelf Go.Proofs.YtoikneogdbdplaaDoorW.PrintWords

def addr_domain.f (a0 : ByteArray) : Option Int := if a0.size ≤ 140737488355328 then some (Pl.domain a0) else none

attribute [local go_sem] Oper.semAt_some

end Go.Proofs.YtoikneogdbdplaaDoor.Fn
namespace Go.Proofs.YtoikneogdbdplaaDoor.Fn
open Go.RowKit Go.Proofs.YtoikneogdbdplaaDoorW.PrintWords Go.Proofs.YtoikneogdbdplaaDoorW.PrintLast Go.Proofs.YtoikneogdbdplaaDoorW.PrintMore
attribute [local go_sem] max2_int min2_int max_two min_two max_three min_three max_four min_four
set_option linter.unusedVariables false
set_option linter.unusedSimpArgs false

end Go.Proofs.YtoikneogdbdplaaDoor.Fn
set_option linter.unusedVariables false
namespace Go.Proofs.YtoikneogdbdplaaDoor.Pl
def plainR (r : Nat) : Bool := decide (32 ≤ r) && decide (r ≤ 126)
def plainFrom (s : ByteArray) : Nat → Nat → Bool
  | 0, _ => true
  | f + 1, pos => if pos < s.size then (if plainR (Utf8.decode s pos).1 = true then plainFrom s f (pos + (Utf8.decode s pos).2) else false) else true
def plain (s : ByteArray) : Bool := plainFrom s s.size 0
end Go.Proofs.YtoikneogdbdplaaDoor.Pl
namespace Go.Proofs.YtoikneogdbdplaaDoor.Fn
open Go.RowKit Go.Proofs.YtoikneogdbdplaaDoorW.PrintWords

def glyph_Plain.f (a0 : ByteArray) : Option Bool := if a0.size ≤ 35184372088832 then some (Pl.plain a0) else none
end Go.Proofs.YtoikneogdbdplaaDoor.Fn
namespace Go.Proofs.YtoikneogdbdplaaDoor.Fn
open Go.RowKit Go.Proofs.YtoikneogdbdplaaDoorW.PrintWords Go.Proofs.YtoikneogdbdplaaDoorW.PrintLast Go.Proofs.YtoikneogdbdplaaDoorW.PrintMore
attribute [local go_sem] max2_int min2_int max_two min_two max_three min_three max_four min_four
set_option linter.unusedVariables false
set_option linter.unusedSimpArgs false

def addr_Addr_Text.f (k : Nat) (a0_0 : ByteArray) (a0_1 : ByteArray) : Option (ByteArray) := (addr_Dotted.f a0_0).bind fun t130 => (if t130 = true then (if a0_0.size + 1 ≤ 9223372036854775807 then (if (a0_0 ++ (⟨#[64]⟩ : ByteArray)).size + a0_1.size ≤ 9223372036854775807 then (some ((a0_0 ++ (⟨#[64]⟩ : ByteArray)) ++ a0_1)) else (none)) else (none)) else ((lex_Quote.f k a0_0).bind fun t131 => (if t131.size + 1 ≤ 9223372036854775807 then (if (t131 ++ (⟨#[64]⟩ : ByteArray)).size + a0_1.size ≤ 9223372036854775807 then (some ((t131 ++ (⟨#[64]⟩ : ByteArray)) ++ a0_1)) else (none)) else (none))))
end Go.Proofs.YtoikneogdbdplaaDoor.Fn
-- written by xprint.py of this session over the kit's printer; not trusted: Lean checks it
namespace Go.Proofs.YtoikneogdbdplaaDoor.Fn
open Go.RowKit Go.Proofs.YtoikneogdbdplaaDoorW.PrintWords Go.Proofs.YtoikneogdbdplaaDoorW.PrintLast Go.Proofs.YtoikneogdbdplaaDoorW.PrintMore
attribute [local go_sem] max2_int min2_int max_two min_two max_three min_three max_four min_four   -- for this text's walks alone
set_option linter.unusedVariables false
set_option linter.unusedSimpArgs false

theorem eqA75 (d : Nat) (w : World) (x0 y0 : ByteArray) (x1 y1 : ByteArray) :
    (Op.equalIn (d + 2) 75 (.agg #[.string x0, .string x1]) (.agg #[.string y0, .string y1])).run Tryd.prog w = .ok (x0.toList == y0.toList && (x1.toList == y1.toList)) w := by
  refine eqA_of Tryd.underlying75 (by kernel_rfl) ?_
  refine eqf_cons (by rfl) (by go_simp; rfl) (by go_simp; rfl) (by go_simp) ?_
  exact eqf_last (by rfl) (by go_simp; rfl) (by go_simp; rfl) (by go_simp)
end Go.Proofs.YtoikneogdbdplaaDoor.Fn
namespace Go.Proofs.YtoikneogdbdplaaDoor.Fn
open Go.RowKit Go.Proofs.YtoikneogdbdplaaDoorW.PrintWords Go.Proofs.YtoikneogdbdplaaDoorW.PrintLast Go.Proofs.YtoikneogdbdplaaDoorW.PrintMore
attribute [local go_sem] max2_int min2_int max_two min_two max_three min_three max_four min_four
set_option linter.unusedVariables false
set_option linter.unusedSimpArgs false

def addr_why.j0 : Nat → Int → Bool → ByteArray → ByteArray → Option (Int)
 | 0, _, _, _, _ => none
 | k + 1, x3, x19, x134000, x134001 => if x19 = true then (some 130) else (if x3 = 0 then (if (x134000.size : Int) > 64 then (some 2) else ((addr_Addr_Text.f k x134000 x134001).bind fun t136 => (if (t136.size : Int) > 254 then (some 2) else (some 0)))) else (some 2))
def addr_why.f (k : Nat) (a0_0 : ByteArray) (a0_1 : ByteArray) : Option (Int) := (addr_domain.f a0_1).bind fun t134 => (if t134 = 130 then (addr_why.j0 k t134 true a0_0 a0_1) else (if a0_0.toList = ([] : List UInt8) then (addr_why.j0 k t134 true a0_0 a0_1) else ((glyph_Plain.f a0_0).bind fun t135 => (addr_why.j0 k t134 (!t135) a0_0 a0_1))))
end Go.Proofs.YtoikneogdbdplaaDoor.Fn
namespace Go.Proofs.YtoikneogdbdplaaDoor.Fn
open Go.RowKit Go.Proofs.YtoikneogdbdplaaDoorW.PrintWords Go.Proofs.YtoikneogdbdplaaDoorW.PrintLast Go.Proofs.YtoikneogdbdplaaDoorW.PrintMore
attribute [local go_sem] max2_int min2_int max_two min_two max_three min_three max_four min_four
set_option linter.unusedVariables false
set_option linter.unusedSimpArgs false

attribute [local go_sem high] eqA75
end Go.Proofs.YtoikneogdbdplaaDoor.Fn
set_option linter.unusedVariables false
namespace Go.Proofs.YtoikneogdbdplaaDoor.Pl
open Go.RowKit Go.Proofs.YtoikneogdbdplaaDoorW.PrintWords Go.Proofs.YtoikneogdbdplaaDoor.Fn

/-! Layer 13, the program's, over lists of bytes. -/
theorem mono_up {α : Type} {f : Nat → Option α} (h : ∀ k, LeO (f k) (f (k + 1))) {r : α} {k : Nat} (hr : f k = some r) : ∀ (k' : Nat), k ≤ k' → f k' = some r := by
  intro k' hk
  obtain ⟨d, rfl⟩ : ∃ d, k' = k + d := ⟨k' - k, by omega⟩
  clear hk
  induction d with
  | zero => exact hr
  | succ d ih => exact h (k + d) r ih

def splitL (c : UInt8) : Bytes → List Bytes
  | [] => [[]]
  | x :: l => if x = c then [] :: splitL c l else match splitL c l with
    | [] => [[x]]
    | w :: r => (x :: w) :: r
theorem splitL_ne (c : UInt8) (l : Bytes) : splitL c l ≠ [] := by
  cases l with
  | nil => simp [splitL]
  | cons x l =>
    rw [splitL]
    split
    · simp
    · split <;> simp
theorem indexByte_neg (c : UInt8) : ∀ l : Bytes, Lib.indexByte l c < 0 → splitL c l = [l]
  | [], _ => rfl
  | b :: l, h => by
    rw [Lib.indexByte] at h
    have hb : ¬ (b == c) = true := fun q => by rw [if_pos q] at h; omega
    rw [if_neg hb] at h
    by_cases h2 : (Lib.indexByte l c == -1) = true
    · have h3 : Lib.indexByte l c = -1 := by simpa using h2
      rw [splitL, if_neg (by simpa using hb), indexByte_neg c l (by omega)]
    · rw [if_neg h2] at h
      have := Lib.indexByte_ge l c
      have h4 : Lib.indexByte l c ≠ -1 := by simpa using h2
      omega
theorem indexByte_nat (c : UInt8) : ∀ (l : Bytes) (n : Nat), Lib.indexByte l c = n → splitL c l = l.take n :: splitL c (l.drop (n + 1))
  | [], n, h => by simp [Lib.indexByte] at h
  | b :: l, n, h => by
    rw [Lib.indexByte] at h
    by_cases hb : (b == c) = true
    · rw [if_pos hb] at h
      obtain rfl : n = 0 := by omega
      rw [splitL, if_pos (by simpa using hb)]
      simp
    · rw [if_neg hb] at h
      by_cases h2 : (Lib.indexByte l c == -1) = true
      · rw [if_pos h2] at h; omega
      · rw [if_neg h2] at h
        have h3 := Lib.indexByte_ge l c
        have h4 : Lib.indexByte l c ≠ -1 := by simpa using h2
        obtain ⟨m, rfl⟩ : ∃ m, n = m + 1 := ⟨n - 1, by omega⟩
        have ih := indexByte_nat c l m (by omega)
        rw [splitL, if_neg (by simpa using hb), ih]
        simp
def atomL (w : Bytes) : Bool := w.all atomic && !w.isEmpty
def dottedL (l : Bytes) : Bool := (splitL 46 l).all atomL
/-! Quote -/
def text (c : UInt8) : Bool := (lex_text.f (c.toNat : Int)).getD false
theorem text_is (c : UInt8) : lex_text.f (c.toNat : Int) = some (text c) := by
  have : ∀ x : Int, (lex_text.f x).isSome := by
    intro x
    unfold lex_text.f
    repeat' split
    all_goals rfl
  unfold text
  have h := this (c.toNat : Int)
  cases hx : lex_text.f (c.toNat : Int) with
  | none => rw [hx] at h; cases h
  | some b => rfl
def qB (c : UInt8) : Bytes := if c = 34 ∨ c = 92 then [92, c] else if text c = true then [c] else [32]
def quote (l : Bytes) : Bytes := 34 :: (l.flatMap qB ++ [34])
def numsOf (l : Bytes) : List Int := l.map fun c => (c.toNat : Int)
theorem strOfNums_of (l : Bytes) : strOfNums (numsOf l) = str l := by
  unfold strOfNums numsOf str
  congr 2
  rw [List.map_map]
  conv => rhs; rw [← List.map_id l]
  apply List.map_congr_left
  intro c _
  simp
theorem numsOf_app (a b : Bytes) : numsOf (a ++ b) = numsOf a ++ numsOf b := by simp [numsOf]
theorem numsOf_length (a : Bytes) : (numsOf a).length = a.length := by simp [numsOf]
theorem byte_eq (c : UInt8) (n : Nat) (h : n < 256) : ((c.toNat : Int) = (n : Int)) = (c = UInt8.ofNat n) := by
  apply propext
  constructor
  · intro q
    apply UInt8.toNat_inj.1
    simp
    omega
  · intro q
    rw [q]
    simp
    omega
theorem lexQuote_l0 (s : ByteArray) (hs : s.size ≤ 1000000000) : ∀ (rest : Bytes) (i k : Nat) (acc : Bytes), (bs s).drop i = rest → i ≤ (bs s).length → 2 * rest.length + 1 ≤ k → acc.length ≤ 2 * i + 1 →
    lex_Quote.l0 k s (numsOf acc) (s.size : Int) (i : Int) = some (str (acc ++ rest.flatMap qB ++ [34]))
  | [], i, k, acc, hd, hi, hk, ha => by
    obtain ⟨k, rfl⟩ : ∃ j, k = j + 1 := ⟨k - 1, by omega⟩
    have := drop_nil hd
    rw [bs_length] at this hi
    rw [lex_Quote.l0, if_neg (by omega), if_pos (by rw [numsOf_length]; omega)]
    rw [show numsOf acc ++ [34] = numsOf (acc ++ [34]) by rw [numsOf_app]; rfl, strOfNums_of]
    simp
  | c :: rest, i, k, acc, hd, hi, hk, ha => by
    obtain ⟨k, rfl⟩ : ∃ j, k = j + 1 + 1 := ⟨k - 2, by simp at hk; omega⟩
    obtain ⟨h1, h2, h3, h4⟩ := drop_cons hd
    have h5 : i < s.size := by rw [bs_length] at h1; exact h1
    simp only [List.length_cons] at hk
    have e34 : ((c.toNat : Int) = 34) = (c = 34) := byte_eq c 34 (by decide)
    have e92 : ((c.toNat : Int) = 92) = (c = 92) := byte_eq c 92 (by decide)
    have goon : ∀ acc' : Bytes, acc'.length ≤ acc.length + 2 → lex_Quote.l0 k s (numsOf acc') (s.size : Int) (wrap64 ((i : Int) + 1)) = some (str (acc' ++ rest.flatMap qB ++ [34])) := by
      intro acc' hl
      rw [wrap_succ i (by omega)]
      exact lexQuote_l0 s hs rest (i + 1) k acc' h3 (by omega) (by omega) (by omega)
    have hl1 : (numsOf acc).length < 140737488355328 := by rw [numsOf_length]; omega
    have esc : c = 34 ∨ c = 92 → lex_Quote.j1 (k + 1) s (numsOf acc) (c.toNat : Int) (s.size : Int) (i : Int) true = some (str (acc ++ (c :: rest).flatMap qB ++ [34])) := by
      intro hc
      rw [lex_Quote.j1, if_pos rfl, if_pos hl1]
      simp only [Option.bind_some]
      rw [if_pos (by rw [List.length_append, numsOf_length]; simp; omega)]
      rw [show numsOf acc ++ [92] ++ [(c.toNat : Int)] = numsOf (acc ++ [92, c]) by simp [numsOf], goon _ (by simp)]
      simp [qB, hc]
    rw [lex_Quote.l0, if_pos (by omega), if_pos (by omega), if_pos (by omega), bt_drop hd]
    by_cases c34 : c = 34
    · rw [if_pos (by rw [e34]; exact c34), esc (.inl c34)]
    · rw [if_neg (by rw [e34]; exact c34)]
      by_cases c92 : c = 92
      · rw [show ((c.toNat : Int) == 92) = true by rw [beq_iff_eq, e92]; exact c92, esc (.inr c92)]
      · rw [show ((c.toNat : Int) == 92) = false by rw [beq_eq_false_iff_ne, ne_eq, e92]; exact c92, lex_Quote.j1, if_neg (by decide), text_is]
        simp only [Option.bind_some]
        have hn : ¬ (c = 34 ∨ c = 92) := fun h => h.elim c34 c92
        cases ht : text c with
        | true =>
          rw [if_pos rfl, if_pos hl1, show numsOf acc ++ [(c.toNat : Int)] = numsOf (acc ++ [c]) by simp [numsOf], goon _ (by simp)]
          simp [qB, hn, ht]
        | false =>
          rw [if_neg (by decide), if_pos hl1, show numsOf acc ++ [32] = numsOf (acc ++ [32]) by simp [numsOf], goon _ (by simp)]
          simp [qB, hn, ht]
theorem lexQuote_is (s : ByteArray) (hs : s.size ≤ 1000000000) (k : Nat) (hk : 2 * s.size + 1 ≤ k) : lex_Quote.f k s = some (str (quote (bs s))) := by
  have := lexQuote_l0 s hs (bs s) 0 k [34] (by simp) (by omega) (by rw [bs_length]; omega) (by simp)
  unfold lex_Quote.f quote
  exact this
theorem quote_length (l : Bytes) : (quote l).length ≤ 2 * l.length + 2 := by
  have h : (l.flatMap qB).length ≤ 2 * l.length := by
    induction l with
    | nil => simp
    | cons c l ih =>
      have : (qB c).length ≤ 2 := by unfold qB; repeat' split
                                     all_goals simp
      simp only [List.flatMap_cons, List.length_append, List.length_cons]
      omega
  unfold quote
  simp only [List.length_cons, List.length_append, List.length_nil]
  omega

/-! Text, Key, why, Right -/
def localL (a : Bytes) : Bytes := if dottedL a = true then a else quote a
def textL (a b : Bytes) : Bytes := localL a ++ 64 :: b
def why (a b : ByteArray) : Int :=
  if domain b = 130 ∨ bs a = [] ∨ plain a = false then 130
  else if domain b ≠ 0 ∨ 64 < a.size ∨ 254 < (textL (bs a) (bs b)).length then 2 else 0
def right (a b : ByteArray) : Bool := decide (why a b = 0) && (bs b == fold (bs b))
end Go.Proofs.YtoikneogdbdplaaDoor.Pl
set_option linter.unusedVariables false
namespace Go.Proofs.YtoikneogdbdplaaDoor.Pl
open Go.RowKit Go.Proofs.YtoikneogdbdplaaDoorW.PrintWords Go.Proofs.YtoikneogdbdplaaDoor.Fn

/-! Capital letters, dots, quotes and the sign @. -/
theorem forall_byte {p : UInt8 → Prop} [DecidablePred p] (h : ∀ i : Fin 256, p (UInt8.ofNat i.val)) (c : UInt8) : p c := by
  have := h ⟨c.toNat, c.toNat_lt⟩
  simpa using this
theorem glyphFold_is (s : ByteArray) (h : s.size ≤ 1000000000) : glyph_Fold.f s = some (str (fold (bs s))) := by
  unfold glyph_Fold.f
  rw [if_pos (by omega)]
  rfl

/-! plain: of all bytes -/
end Go.Proofs.YtoikneogdbdplaaDoor.Pl
set_option linter.unusedVariables false
namespace Go.Proofs.YtoikneogdbdplaaDoor.Pl
open Go.RowKit Go.Proofs.YtoikneogdbdplaaDoorW.PrintWords Go.Proofs.YtoikneogdbdplaaDoor.Fn

/-! Layer 13, the document's, over lists of bytes: it answers as the program does. -/
theorem rdS_drop {l : List Bytes} {i : Nat} {x : Bytes} {r : List Bytes} (h : l.drop i = x :: r) : rdOf ByteArray.empty (l.map str) (i : Int) = str x := by
  have h1 : l[i]? = some x := by
    have := congrArg List.head? h
    rw [List.head?_drop] at this
    exact this
  unfold rdOf
  rw [List.getD_eq_getElem?_getD, List.getElem?_map]
  simp [h1]
theorem dropS_lt {α : Type} {l : List α} {i : Nat} {x : α} {r : List α} (h : l.drop i = x :: r) : i < l.length ∧ l.drop (i + 1) = r := by
  have h1 : i < l.length := by
    rcases Nat.lt_or_ge i l.length with h' | h'
    · exact h'
    · rw [List.drop_of_length_le h'] at h; cases h
  refine ⟨h1, ?_⟩
  rw [← List.drop_drop, h]
  rfl
def headJoin (w : Bytes) : List Bytes → List Bytes
  | [] => [w]
  | p :: ps => (w ++ p) :: ps
theorem headJoin_nil (l : List Bytes) (h : l ≠ []) : headJoin [] l = l := by
  cases l with
  | nil => exact absurd rfl h
  | cons p ps => rfl
theorem headJoin_step (c x : UInt8) (w rest : Bytes) (hx : ¬ x = c) : headJoin w (splitL c (x :: rest)) = headJoin (w ++ [x]) (splitL c rest) := by
  have h := splitL_ne c rest
  rw [splitL, if_neg hx]
  cases hs : splitL c rest with
  | nil => exact absurd hs h
  | cons p ps => simp [headJoin]
theorem refSplit_l0 (s : ByteArray) (hs : s.size ≤ 1000000000) (c : UInt8) : ∀ (rest : Bytes) (i k : Nat) (acc : List Bytes) (w : Bytes), (bs s).drop i = rest → i ≤ (bs s).length → rest.length + 1 ≤ k → acc.length ≤ i → w.length ≤ i →
    bulletinref13_Split.l0 k s (c.toNat : Int) (acc.map str) (str w) (i : Int) = some ((acc ++ headJoin w (splitL c rest)).map str)
  | [], i, k, acc, w, hd, hi, hk, ha, hw => by
    obtain ⟨k, rfl⟩ : ∃ j, k = j + 1 := ⟨k - 1, by omega⟩
    have := drop_nil hd
    rw [bs_length] at this hi
    rw [bulletinref13_Split.l0, if_neg (by omega), if_pos (by rw [List.length_map]; omega)]
    simp [splitL, headJoin]
  | x :: rest, i, k, acc, w, hd, hi, hk, ha, hw => by
    obtain ⟨k, rfl⟩ : ∃ j, k = j + 1 := ⟨k - 1, by omega⟩
    obtain ⟨h1, h2, h3, h4⟩ := drop_cons hd
    have h5 : i < s.size := by rw [bs_length] at h1; exact h1
    simp only [List.length_cons] at hk
    have e : ((x.toNat : Int) = (c.toNat : Int)) = (x = c) := propext ⟨fun q => UInt8.toNat_inj.1 (by omega), fun q => by rw [q]⟩
    rw [bulletinref13_Split.l0, if_pos (by omega), if_pos (by omega), bt_drop hd]
    by_cases hx : x = c
    · rw [if_pos (by rw [e]; exact hx), if_pos (by rw [List.length_map]; omega), wrap_succ i (by omega)]
      rw [show acc.map str ++ [str w] = (acc ++ [w]).map str by simp, show (⟨#[]⟩ : ByteArray) = str [] from rfl]
      rw [refSplit_l0 s hs c rest (i + 1) k (acc ++ [w]) [] h3 (by omega) (by omega) (by simp; omega) (by simp)]
      rw [headJoin_nil _ (splitL_ne c rest), splitL, if_pos hx]
      simp [headJoin]
    · rw [if_neg (by rw [e]; exact hx), wrap_succ i (by omega), if_pos (by omega), if_pos (by omega)]
      simp only [Int.toNat_natCast]
      rw [extract_one hd, str_app, if_pos (by rw [str_size, str_size]; simp; omega)]
      rw [refSplit_l0 s hs c rest (i + 1) k acc (w ++ [x]) h3 (by omega) (by omega) (by omega) (by simp; omega)]
      rw [headJoin_step c x w rest hx]
theorem splitL_length (c : UInt8) : ∀ l : Bytes, (splitL c l).length ≤ l.length + 1
  | [] => by simp [splitL]
  | x :: l => by
    have ih := splitL_length c l
    have hne := splitL_ne c l
    rw [splitL]
    split
    · simp; omega
    · cases h : splitL c l with
      | nil => exact absurd h hne
      | cons w r => rw [h] at ih; simp at ih ⊢; omega
/-! IsAtom -/
set_option maxRecDepth 100000 in
theorem refatomic_at (c : UInt8) : bulletinref12_atomic.f 20 (c.toNat : Int) = some (atomic c) := forall_byte (p := fun c => bulletinref12_atomic.f 20 (c.toNat : Int) = some (atomic c)) (by decide +kernel) c
theorem refatomic_is (c : UInt8) (k : Nat) (hk : 20 ≤ k) : bulletinref12_atomic.f k (c.toNat : Int) = some (atomic c) := mono_up (fun k => bulletinref12_atomic.mono _ k) (refatomic_at c) k hk
theorem refIsAtom_l0 (s : ByteArray) (hs : s.size ≤ 1000000000) : ∀ (rest : Bytes) (i k : Nat), (bs s).drop i = rest → i ≤ (bs s).length → rest.length + 1 + 20 ≤ k →
    bulletinref12_IsAtom.l0 k s (i : Int) = some (rest.all atomic)
  | [], i, k, hd, hi, hk => by
    obtain ⟨k, rfl⟩ : ∃ j, k = j + 1 := ⟨k - 1, by omega⟩
    have := drop_nil hd
    rw [bs_length] at this hi
    rw [bulletinref12_IsAtom.l0, if_neg (by omega)]
    rfl
  | c :: rest, i, k, hd, hi, hk => by
    obtain ⟨k, rfl⟩ : ∃ j, k = j + 1 := ⟨k - 1, by omega⟩
    obtain ⟨h1, h2, h3, h4⟩ := drop_cons hd
    have h5 : i < s.size := by rw [bs_length] at h1; exact h1
    simp only [List.length_cons] at hk
    rw [bulletinref12_IsAtom.l0, if_pos (by omega), if_pos (by omega), bt_drop hd, refatomic_is c k (by omega), Option.bind_some]
    cases ha : atomic c with
    | true => rw [if_pos rfl, wrap_succ i (by omega), refIsAtom_l0 s hs rest (i + 1) k h3 (by omega) (by omega)]; simp [ha]
    | false => rw [if_neg (by simp)]; simp [ha]
theorem refIsAtom_is (s : ByteArray) (hs : s.size ≤ 1000000000) (k : Nat) (hk : s.size + 1 + 20 ≤ k) : bulletinref12_IsAtom.f k s = some (atomL (bs s)) := by
  unfold bulletinref12_IsAtom.f atomL
  rw [toList_bs]
  cases h : bs s with
  | nil => rw [if_pos rfl]; rfl
  | cons c r =>
    rw [if_neg (by simp)]
    have := refIsAtom_l0 s hs (bs s) 0 k (by simp) (by omega) (by rw [bs_length]; omega)
    rw [h] at this
    rw [show (0 : Int) = ((0 : Nat) : Int) from rfl, this]
    simp
/-! Quote -/
set_option maxRecDepth 100000 in
theorem reftext_is (c : UInt8) : bulletinref12_Text.f (c.toNat : Int) = some (text c) := forall_byte (p := fun c => bulletinref12_Text.f (c.toNat : Int) = some (text c)) (by decide +kernel) c
theorem text_34 : text 34 = true := by decide +kernel
theorem text_92 : text 92 = true := by decide +kernel
theorem refQuote_l0 (s : ByteArray) (hs : s.size ≤ 1000000000) : ∀ (rest : Bytes) (i k : Nat) (acc : Bytes), (bs s).drop i = rest → i ≤ (bs s).length → 2 * rest.length + 1 ≤ k → acc.length ≤ 2 * i →
    bulletinref12_Quote.l0 k s (str acc) (i : Int) = some (str (34 :: (acc ++ rest.flatMap qB ++ [34])))
  | [], i, k, acc, hd, hi, hk, ha => by
    obtain ⟨k, rfl⟩ : ∃ j, k = j + 1 := ⟨k - 1, by omega⟩
    have := drop_nil hd
    rw [bs_length] at this hi
    rw [bulletinref12_Quote.l0, if_neg (by omega), if_pos (by rw [str_size]; omega), show (⟨#[34]⟩ : ByteArray) = str [34] from rfl, str_app, if_pos (by rw [str_size]; simp; omega), str_app]
    simp
  | c :: rest, i, k, acc, hd, hi, hk, ha => by
    obtain ⟨k, rfl⟩ : ∃ j, k = j + 1 + 1 := ⟨k - 2, by simp at hk; omega⟩
    obtain ⟨h1, h2, h3, h4⟩ := drop_cons hd
    have h5 : i < s.size := by rw [bs_length] at h1; exact h1
    simp only [List.length_cons] at hk
    have e34 : ((c.toNat : Int) = 34) = (c = 34) := byte_eq c 34 (by decide)
    have e92 : ((c.toNat : Int) = 92) = (c = 92) := byte_eq c 92 (by decide)
    have goon : ∀ acc' : Bytes, acc'.length ≤ acc.length + 2 → bulletinref12_Quote.l0 k s (str acc') (wrap64 ((i : Int) + 1)) = some (str (34 :: (acc' ++ rest.flatMap qB ++ [34]))) := by
      intro acc' hl
      rw [wrap_succ i (by omega)]
      exact refQuote_l0 s hs rest (i + 1) k acc' h3 (by omega) (by omega) (by omega)
    have esc : c = 34 ∨ c = 92 → bulletinref12_Quote.j1 (k + 1) s (str acc) (i : Int) (str [c]) true = some (str (34 :: (acc ++ (c :: rest).flatMap qB ++ [34]))) := by
      intro hc
      have ht : text c = true := by rcases hc with h | h <;> rw [h]; exact text_34; exact text_92
      rw [bulletinref12_Quote.j1, if_pos rfl, if_pos (by rw [str_size]; simp), if_pos (by omega), if_pos (by omega), bt_drop hd, reftext_is, Option.bind_some, ht, if_pos rfl, show (⟨#[92]⟩ : ByteArray) = str [92] from rfl, str_app, str_app, if_pos (by rw [str_size, str_size]; simp; omega), goon _ (by simp)]
      simp [qB, hc]
    rw [bulletinref12_Quote.l0, if_pos (by omega), if_pos (by omega), wrap_succ i (by omega), if_pos (by omega), if_pos (by omega), bt_drop hd]
    simp only [Int.toNat_natCast]
    rw [extract_one hd]
    by_cases c34 : c = 34
    · rw [if_pos (by rw [e34]; exact c34), esc (.inl c34)]
    · rw [if_neg (by rw [e34]; exact c34)]
      by_cases c92 : c = 92
      · rw [show ((c.toNat : Int) == 92) = true by rw [beq_iff_eq, e92]; exact c92, esc (.inr c92)]
      · rw [show ((c.toNat : Int) == 92) = false by rw [beq_eq_false_iff_ne, ne_eq, e92]; exact c92, bulletinref12_Quote.j1, if_neg (by decide), if_pos (by omega), if_pos (by omega), bt_drop hd, reftext_is, Option.bind_some]
        have hn : ¬ (c = 34 ∨ c = 92) := fun h => h.elim c34 c92
        cases ht : text c with
        | true =>
          rw [if_pos rfl, str_app, if_pos (by rw [str_size, str_size]; simp; omega), goon _ (by simp)]
          simp [qB, hn, ht]
        | false =>
          rw [if_neg (by decide), show (⟨#[32]⟩ : ByteArray) = str [32] from rfl, str_app, if_pos (by rw [str_size]; omega), goon _ (by simp)]
          simp [qB, hn, ht]
theorem refQuote_is (s : ByteArray) (hs : s.size ≤ 1000000000) (k : Nat) (hk : 2 * s.size + 1 ≤ k) : bulletinref12_Quote.f k s = some (str (quote (bs s))) := by
  have := refQuote_l0 s hs (bs s) 0 k [] (by simp) (by omega) (by rw [bs_length]; omega) (by simp)
  unfold bulletinref12_Quote.f quote
  exact this
end Go.Proofs.YtoikneogdbdplaaDoor.Pl
set_option linter.unusedVariables false
namespace Go.Proofs.YtoikneogdbdplaaDoor.Pl
open Go.RowKit Go.Proofs.YtoikneogdbdplaaDoorW.PrintWords Go.Proofs.YtoikneogdbdplaaDoor.Fn

/-! Layer 12: tokens, by one machine over lists of bytes; the document's Scan is this machine. -/
inductive Sc where
  | out
  | atom (w : Bytes)
  | quot (w : Bytes) (b : Bool)
  | comm (d : Nat) (b : Bool)
abbrev Tok := Int × Bytes
def whiteB (c : UInt8) : Bool := c == 32 || c == 9
def foldAt : Bytes → Bool
  | a :: b :: c :: _ => a == 13 && b == 10 && whiteB c
  | _ => false
def signB (c : UInt8) : Bool := (⟨#[60, 62, 58, 59, 64, 44, 46]⟩ : ByteArray).data.toList.contains c
def stepOut (acc : List Tok) (c : UInt8) (l : Bytes) : (List Tok × Sc × Bytes) ⊕ Int :=
  if foldAt (c :: l) = true then .inl (acc, .out, l.tail)
  else if atomic c = true then .inl (acc, .atom [c], l)
  else if c = 34 then .inl (acc, .quot [] false, l)
  else if c = 40 then .inl (acc, .comm 1 false, l)
  else if signB c = true then .inl (acc ++ [(3, [c])], .out, l)
  else if whiteB c = true then .inl (acc, .out, l)
  else .inr 3
def commAfter (acc : List Tok) (d : Nat) (l : Bytes) : (List Tok × Sc × Bytes) ⊕ Int :=
  if 16 < d then .inr 1 else if d = 0 then .inl (acc, .out, l) else .inl (acc, .comm d false, l)
def step (acc : List Tok) (st : Sc) (c : UInt8) (l : Bytes) : (List Tok × Sc × Bytes) ⊕ Int :=
  match st with
  | .out => stepOut acc c l
  | .atom w => if atomic c = true then .inl (acc, .atom (w ++ [c]), l) else stepOut (acc ++ [(1, w)]) c l
  | .quot w true => if text c = true then .inl (acc, .quot (w ++ [c]) false, l) else .inr 3
  | .comm d true => if text c = true then .inl (acc, .comm d false, l) else .inr 3
  | .quot w false =>
    if foldAt (c :: l) = true then .inl (acc, .quot w false, l.tail)
    else if c = 92 then .inl (acc, .quot w true, l)
    else if text c = true then (if c = 34 then .inl (acc ++ [(2, w)], .out, l) else .inl (acc, .quot (w ++ [c]) false, l))
    else .inr 3
  | .comm d false =>
    if foldAt (c :: l) = true then .inl (acc, .comm d false, l.tail)
    else if c = 92 then .inl (acc, .comm d true, l)
    else if text c = true then commAfter acc (if c = 40 then d + 1 else if c = 41 then d - 1 else d) l
    else .inr 3
def endOf (acc : List Tok) : Sc → List Tok × Int
  | .out => (acc, 0)
  | .atom w => (acc ++ [(1, w)], 0)
  | _ => ([], 9)
def scan : Nat → List Tok → Sc → Bytes → List Tok × Int
  | _, acc, st, [] => endOf acc st
  | 0, _, _, _ :: _ => ([], 7)
  | k + 1, acc, st, c :: l => match step acc st c l with
    | .inl (acc', st', l') => scan k acc' st' l'
    | .inr e => ([], e)
theorem stepOut_le {acc : List Tok} {c : UInt8} {l : Bytes} {a : List Tok} {s : Sc} {r : Bytes} (h : stepOut acc c l = .inl (a, s, r)) : r.length ≤ l.length := by
  unfold stepOut at h
  repeat' split at h
  all_goals (first | (cases h; done) | (simp only [Sum.inl.injEq, Prod.mk.injEq] at h; obtain ⟨_, _, rfl⟩ := h; simp))
theorem step_le {acc : List Tok} {st : Sc} {c : UInt8} {l : Bytes} {a : List Tok} {s : Sc} {r : Bytes} (h : step acc st c l = .inl (a, s, r)) : r.length ≤ l.length := by
  unfold step commAfter at h
  repeat' split at h
  all_goals (first | exact stepOut_le h | (cases h; done) | (simp only [Sum.inl.injEq, Prod.mk.injEq] at h; obtain ⟨_, _, rfl⟩ := h; simp))
theorem scan_more : ∀ (k : Nat) (acc : List Tok) (st : Sc) (l : Bytes), l.length ≤ k → scan k acc st l = scan (k + 1) acc st l
  | k, acc, st, [], _ => by cases k <;> rfl
  | 0, acc, st, c :: l, h => by simp at h
  | k + 1, acc, st, c :: l, h => by
    rw [scan, scan]
    cases hs : step acc st c l with
    | inr e => rfl
    | inl x =>
      obtain ⟨a, s, r⟩ := x
      have := step_le hs
      simp only [List.length_cons] at h
      exact scan_more k a s r (by omega)
def scanL (acc : List Tok) (st : Sc) (l : Bytes) : List Tok × Int := scan l.length acc st l
theorem scan_enough (k : Nat) (acc : List Tok) (st : Sc) (l : Bytes) (h : l.length ≤ k) : scan k acc st l = scanL acc st l := by
  unfold scanL
  obtain ⟨d, rfl⟩ : ∃ d, k = l.length + d := ⟨k - l.length, by omega⟩
  clear h
  induction d with
  | zero => rfl
  | succ d ih => rw [← Nat.add_assoc, ← scan_more _ _ _ _ (by omega)]; exact ih
theorem scanL_nil (acc : List Tok) (st : Sc) : scanL acc st [] = endOf acc st := rfl
theorem scanL_cons (acc : List Tok) (st : Sc) (c : UInt8) (l : Bytes) : scanL acc st (c :: l) = match step acc st c l with
    | .inl (acc', st', l') => scanL acc' st' l'
    | .inr e => ([], e) := by
  rw [scanL, List.length_cons, scan]
  cases hs : step acc st c l with
  | inr e => rfl
  | inl x =>
    obtain ⟨a, s, r⟩ := x
    exact scan_enough _ _ _ _ (step_le hs)

/-! The document's Scan -/
def tok148 (t : Tok) : S109 := ⟨t.1, str t.2⟩
def wOf : Sc → Bytes
  | .atom w => w
  | .quot w _ => w
  | _ => []
def whereOf : Sc → Int
  | .out => 0
  | .atom _ => 1
  | .quot _ _ => 2
  | .comm _ _ => 3
def behindOf : Sc → Bool
  | .quot _ b => b
  | .comm _ b => b
  | _ => false
def deepOk (d : Int) : Sc → Prop
  | .comm n _ => d = n ∧ 1 ≤ n ∧ n ≤ 16
  | _ => 0 ≤ d ∧ d ≤ 16
set_option maxRecDepth 100000 in
theorem refsign_at (c : UInt8) : bulletinref12_among.f 20 (c.toNat : Int) (⟨#[60, 62, 58, 59, 64, 44, 46]⟩ : ByteArray) = some (signB c) := forall_byte (p := fun c => bulletinref12_among.f 20 (c.toNat : Int) (⟨#[60, 62, 58, 59, 64, 44, 46]⟩ : ByteArray) = some (signB c)) (by decide +kernel) c
theorem refsign_is (c : UInt8) (k : Nat) (hk : 20 ≤ k) : bulletinref12_among.f k (c.toNat : Int) (⟨#[60, 62, 58, 59, 64, 44, 46]⟩ : ByteArray) = some (signB c) := mono_up (fun k => bulletinref12_among.mono _ _ k) (refsign_at c) k hk
theorem byte_ofNat (c : UInt8) (n : Nat) (h : n < 256) : ((c.toNat : Int) = ((n : Nat) : Int)) ↔ c = UInt8.ofNat n := by rw [byte_eq c n h]
theorem beq_byte (c : UInt8) (n : Nat) (h : n < 256) : ((c.toNat : Int) == ((n : Nat) : Int)) = (c == UInt8.ofNat n) := by
  rw [Bool.eq_iff_iff, beq_iff_eq, beq_iff_eq, byte_ofNat c n h]
theorem refScan_fold (s : ByteArray) (hs : s.size ≤ 1000000) (i : Nat) (c : UInt8) (l : Bytes) (hd : (bs s).drop i = c :: l) (k : Nat) (X4 : List S109) (X5 : ByteArray) (X6 X7 : Int) (X8 : Bool) :
    bulletinref12_Scan.j2 (k + 1) s X4 X5 X6 X7 X8 (i : Int) (c.toNat : Int) = bulletinref12_Scan.j3 k s X4 X5 X6 X7 X8 (i : Int) (c.toNat : Int) (foldAt (c :: l)) := by
  obtain ⟨h1, h2, h3, h4⟩ := drop_cons hd
  have h5 : i < s.size := by rw [bs_length] at h1; exact h1
  have e1 : wrap64 ((i : Int) + 1) = ((i + 1 : Nat) : Int) := wrap_succ i (by omega)
  have e2 : wrap64 ((i : Int) + 2) = ((i + 2 : Nat) : Int) := by rw [wrap_id (by omega) (by omega)]; omega
  have hlen : l.length = s.size - (i + 1) := by rw [← h3, List.length_drop, bs_length]
  rw [bulletinref12_Scan.j2, e1, e2]
  by_cases c13 : c = 13
  · rw [if_pos (by rw [c13]; rfl)]
    cases l with
    | nil => 
      simp only [List.length_nil] at hlen
      rw [if_neg (by omega)]; rfl
    | cons b l =>
      cases l with
      | nil =>
        simp only [List.length_cons, List.length_nil] at hlen
        rw [if_neg (by omega)]; rfl
      | cons e l =>
        simp only [List.length_cons] at hlen
        obtain ⟨g1, g2, g3, g4⟩ := drop_cons h3
        rw [if_pos (by omega), if_pos (by omega), if_pos (by omega), bt_drop h3, bt_drop g3]
        by_cases b10 : b = 10
        · rw [if_pos (by rw [b10]; rfl), if_pos (by omega)]
          by_cases e32 : e = 32
          · rw [if_pos (by rw [e32]; rfl), c13, b10, e32]; rfl
          · rw [if_neg (c := (e.toNat : Int) = 32) (fun h => e32 ((byte_ofNat e 32 (by decide)).1 h)), show ((e.toNat : Int) == 9) = (e == 9) from beq_byte e 9 (by decide), c13, b10]
            have : foldAt (13 :: 10 :: e :: l) = (e == 9) := by
              simp only [foldAt, whiteB]
              simp [e32]
            rw [this]
        · rw [if_neg (c := (b.toNat : Int) = 10) (fun h => b10 ((byte_ofNat b 10 (by decide)).1 h))]
          have : foldAt (c :: b :: e :: l) = false := by
            simp only [foldAt]
            simp [b10]
          rw [this]
  · rw [if_neg (c := (c.toNat : Int) = 13) (fun h => c13 ((byte_ofNat c 13 (by decide)).1 h))]
    have : foldAt (c :: l) = false := by
      cases l with
      | nil => rfl
      | cons b l =>
        cases l with
        | nil => rfl
        | cons e l =>
          simp only [foldAt]
          simp [c13]
    rw [this]
def res148 (acc : List Tok) (st : Sc) (r : Bytes) : List S109 × Int := ((scanL acc st r).1.map tok148, (scanL acc st r).2)
theorem res_inl {acc : List Tok} {st : Sc} {c : UInt8} {l : Bytes} {a : List Tok} {t : Sc} {r : Bytes} (h : step acc st c l = .inl (a, t, r)) : res148 acc st (c :: l) = res148 a t r := by
  unfold res148
  rw [scanL_cons, h]
theorem res_inr {acc : List Tok} {st : Sc} {c : UInt8} {l : Bytes} {e : Int} (h : step acc st c l = .inr e) : res148 acc st (c :: l) = ([], e) := by
  unfold res148
  rw [scanL_cons, h]
  rfl
def Behind (s : ByteArray) (k m : Nat) : Prop := ∀ (acc : List Tok) (st : Sc) (d : Int) (r : Bytes) (j : Nat), r.length ≤ m → (bs s).drop j = r → j ≤ (bs s).length → deepOk d st → acc.length ≤ 2 * j → (wOf st).length ≤ j →
  bulletinref12_Scan.l0 k s (acc.map tok148) (str (wOf st)) (whereOf st) d (behindOf st) (j : Int) = some (res148 acc st r)
theorem tail_drop {s : ByteArray} {i : Nat} {c : UInt8} {l : Bytes} (hd : (bs s).drop i = c :: l) (hf : foldAt (c :: l) = true) : (bs s).drop (i + 2) = l.tail ∧ i + 2 ≤ (bs s).length ∧ l.tail.length ≤ l.length := by
  obtain ⟨h1, h2, h3, h4⟩ := drop_cons hd
  cases l with
  | nil => cases hf
  | cons b l =>
    obtain ⟨g1, g2, g3, g4⟩ := drop_cons h3
    exact ⟨g3, by omega, by simp⟩
theorem refScan_out (s : ByteArray) (hs : s.size ≤ 1000000) (i : Nat) (c : UInt8) (l : Bytes) (hd : (bs s).drop i = c :: l) (k : Nat) (hk : 20 ≤ k) (acc : List Tok) (d : Int) (hdp : 0 ≤ d ∧ d ≤ 16) (hacc : acc.length ≤ 2 * i + 1)
    (B0 : Behind s (k + 2) l.length) (B : Behind s k l.length) :
    bulletinref12_Scan.j2 (k + 4) s (acc.map tok148) (str []) 0 d false (i : Int) (c.toNat : Int) = some (match stepOut acc c l with | .inl (a, t, r) => res148 a t r | .inr e => ([], e)) := by
  obtain ⟨h1, h2, h3, h4⟩ := drop_cons hd
  have h5 : i < s.size := by rw [bs_length] at h1; exact h1
  have e1 : wrap64 ((i : Int) + 1) = ((i + 1 : Nat) : Int) := wrap_succ i (by omega)
  have e2 : wrap64 (wrap64 ((i : Int) + 1) + 1) = ((i + 2 : Nat) : Int) := by rw [e1, wrap_succ (i + 1) (by omega)]
  rw [refScan_fold s hs i c l hd]
  cases hf : foldAt (c :: l) with
  | true =>
    obtain ⟨t1, t2, t3⟩ := tail_drop hd hf
    have hr : stepOut acc c l = .inl (acc, .out, l.tail) := by simp [stepOut, hf]
    rw [hr, bulletinref12_Scan.j3, if_pos rfl, e2]
    exact B0 acc .out d l.tail (i + 2) t3 t1 t2 hdp (by omega) (by simp [wOf])
  | false =>
    rw [bulletinref12_Scan.j3, if_neg (by decide), if_neg (by decide), show ((0 : Int) == 3) = false from rfl, bulletinref12_Scan.j4, if_neg (by decide), bulletinref12_Scan.j5, if_neg (by decide), if_neg (by decide), refatomic_is c k hk, Option.bind_some]
    cases ha : atomic c with
    | true =>
      have hr : stepOut acc c l = .inl (acc, .atom [c], l) := by simp [stepOut, hf, ha]
      rw [hr, if_pos rfl, if_pos (by omega), e1, if_pos (by omega), if_pos (by omega)]
      simp only [Int.toNat_natCast]
      rw [extract_one hd, str_app, if_pos (by rw [str_size, str_size]; simp)]
      exact B acc (.atom [c]) d l (i + 1) (Nat.le_refl _) h3 (by omega) hdp (by omega) (by simp [wOf])
    | false =>
      rw [if_neg (c := false = true) (by decide)]
      by_cases c34 : c = 34
      · have hr : stepOut acc c l = .inl (acc, .quot [] false, l) := by
          unfold stepOut
          rw [hf, ha, if_neg (by decide), if_neg (by decide), if_pos c34]
        rw [hr, if_pos (by rw [c34]; rfl), e1]
        exact B acc (.quot [] false) d l (i + 1) (Nat.le_refl _) h3 (by omega) hdp (by omega) (by simp [wOf])
      · rw [if_neg (c := (c.toNat : Int) = 34) (fun h => c34 ((byte_ofNat c 34 (by decide)).1 h))]
        by_cases c40 : c = 40
        · have hr : stepOut acc c l = .inl (acc, .comm 1 false, l) := by
            unfold stepOut
            rw [hf, ha, if_neg (by decide), if_neg (by decide), if_neg c34, if_pos c40]
          rw [hr, if_pos (by rw [c40]; rfl), e1]
          exact B acc (.comm 1 false) 1 l (i + 1) (Nat.le_refl _) h3 (by omega) ⟨rfl, by decide, by decide⟩ (by omega) (by simp [wOf])
        · rw [if_neg (c := (c.toNat : Int) = 40) (fun h => c40 ((byte_ofNat c 40 (by decide)).1 h)), refsign_is c k hk, Option.bind_some]
          cases hsg : signB c with
          | true =>
            have hr : stepOut acc c l = .inl (acc ++ [(3, [c])], .out, l) := by
              unfold stepOut
              rw [hf, ha, hsg, if_neg (by decide), if_neg (by decide), if_neg c34, if_neg c40, if_pos rfl]
            rw [hr, if_pos rfl, if_pos (by omega), e1, if_pos (by omega), if_pos (by omega), if_pos (by rw [List.length_map]; omega)]
            simp only [Int.toNat_natCast]
            rw [extract_one hd, show acc.map tok148 ++ [(⟨3, str [c]⟩ : S109)] = (acc ++ [(3, [c])]).map tok148 by simp [tok148]]
            exact B (acc ++ [(3, [c])]) .out d l (i + 1) (Nat.le_refl _) h3 (by omega) hdp (by simp; omega) (by simp [wOf])
          | false =>
            rw [if_neg (c := false = true) (by decide)]
            have hrw : whiteB c = true → stepOut acc c l = .inl (acc, .out, l) := by
              intro hw
              unfold stepOut
              rw [hf, ha, hsg, hw, if_neg (by decide), if_neg (by decide), if_neg c34, if_neg c40, if_neg (by decide), if_pos rfl]
            by_cases c32 : c = 32
            · rw [hrw (by rw [c32]; rfl), if_pos (by rw [c32]; rfl), e1]
              exact B acc .out d l (i + 1) (Nat.le_refl _) h3 (by omega) hdp (by omega) (by simp [wOf])
            · rw [if_neg (c := (c.toNat : Int) = 32) (fun h => c32 ((byte_ofNat c 32 (by decide)).1 h))]
              by_cases c9 : c = 9
              · rw [hrw (by rw [c9]; rfl), if_pos (by rw [c9]; rfl), e1]
                exact B acc .out d l (i + 1) (Nat.le_refl _) h3 (by omega) hdp (by omega) (by simp [wOf])
              · have hw : whiteB c = false := by unfold whiteB; simp [c32, c9]
                have hr : stepOut acc c l = .inr 3 := by
                  unfold stepOut
                  rw [hf, ha, hsg, hw, if_neg (by decide), if_neg (by decide), if_neg c34, if_neg c40, if_neg (by decide), if_neg (by decide)]
                rw [hr, if_neg (c := (c.toNat : Int) = 9) (fun h => c9 ((byte_ofNat c 9 (by decide)).1 h))]
theorem refScan_l0 (s : ByteArray) (hs : s.size ≤ 1000000) : ∀ (n k : Nat), 9 * n + 40 ≤ k → Behind s k n
  | n, k, hk, acc, st, d, [], i, hn, hd, hi, hdp, ha, hw => by
    obtain ⟨k, rfl⟩ : ∃ j, k = j + 1 := ⟨k - 1, by omega⟩
    have := drop_nil hd
    rw [bs_length] at this hi
    rw [bulletinref12_Scan.l0, if_neg (by omega)]
    unfold res148
    rw [scanL_nil]
    cases st with
    | out => rw [if_neg (by simp [whereOf]), if_neg (by simp [whereOf])]; rfl
    | atom w =>
      rw [show whereOf (.atom w) = 1 from rfl, show wOf (.atom w) = w from rfl, if_neg (by decide), if_pos rfl, if_pos (by rw [List.length_map]; omega)]
      simp [endOf, tok148]
    | quot w b => rw [if_pos (by simp [whereOf])]; rfl
    | comm m b => rw [if_pos (by simp [whereOf])]; rfl
  | 0, k, hk, acc, st, d, c :: l, i, hn, hd, hi, hdp, ha, hw => by simp at hn
  | n + 1, k, hk, acc, st, d, c :: l, i, hn, hd, hi, hdp, ha, hw => by
    obtain ⟨k, rfl⟩ : ∃ j, k = j + 9 := ⟨k - 9, by omega⟩
    obtain ⟨h1, h2, h3, h4⟩ := drop_cons hd
    have h5 : i < s.size := by rw [bs_length] at h1; exact h1
    simp only [List.length_cons] at hn
    have H : ∀ k', k ≤ k' → Behind s k' l.length := fun k' hk' acc st d r j hr => refScan_l0 s hs n k' (by omega) acc st d r j (by omega)
    have e1 : wrap64 ((i : Int) + 1) = ((i + 1 : Nat) : Int) := wrap_succ i (by omega)
    have e2 : wrap64 (wrap64 ((i : Int) + 1) + 1) = ((i + 2 : Nat) : Int) := by rw [e1, wrap_succ (i + 1) (by omega)]
    have hx : (wOf st ++ [c]).length ≤ i + 1 := by simp; omega
    have res : ∀ {X : (List Tok × Sc × Bytes) ⊕ Int}, step acc st c l = X → res148 acc st (c :: l) = match X with | .inl (a, t, r) => res148 a t r | .inr e => ([], e) := by
      intro X hX
      subst hX
      cases hq : step acc st c l with
      | inl y => obtain ⟨a, t, r⟩ := y; exact res_inl hq
      | inr e => exact res_inr hq
    rw [bulletinref12_Scan.l0, if_pos (by omega), if_pos (by omega)]
    cases st with
    | out =>
      rw [show whereOf .out = 0 from rfl, show behindOf .out = false from rfl, show wOf .out = [] from rfl, if_neg (by decide), if_neg (by decide), bt_drop hd, bulletinref12_Scan.j1, if_neg (by decide)]
      rw [res (X := stepOut acc c l) rfl]
      exact refScan_out s hs i c l hd (k + 3) (by omega) acc d hdp (by omega) (H _ (by omega)) (H _ (by omega))
    | atom w =>
      rw [show whereOf (.atom w) = 1 from rfl, show behindOf (.atom w) = false from rfl, show wOf (.atom w) = w from rfl, if_neg (by decide), if_pos rfl, bt_drop hd, refatomic_is c _ (by omega), Option.bind_some]
      cases hat : atomic c with
      | true =>
        have hf : foldAt (c :: l) = false := by
          have : c ≠ 13 := fun h => by rw [h] at hat; exact absurd hat (by decide +kernel)
          cases l with
          | nil => rfl
          | cons b l =>
            cases l with
            | nil => rfl
            | cons e l => simp only [foldAt]; simp [this]
        rw [bulletinref12_Scan.j1, if_neg (by decide), refScan_fold s hs i c l hd, hf, bulletinref12_Scan.j3, if_neg (by decide), if_neg (by decide), show ((1 : Int) == 3) = false from rfl, bulletinref12_Scan.j4, if_neg (by decide), bulletinref12_Scan.j5, if_neg (by decide), if_neg (by decide), refatomic_is c _ (by omega), Option.bind_some, hat, if_pos rfl, if_pos (by omega), e1, if_pos (by omega), if_pos (by omega)]
        simp only [Int.toNat_natCast]
        rw [extract_one hd, str_app, if_pos (by rw [str_size, str_size]; simp [wOf] at hw ⊢; omega)]
        rw [res (X := .inl (acc, .atom (w ++ [c]), l)) (by simp [step, hat])]
        exact H (k + 3) (by omega) acc (.atom (w ++ [c])) d l (i + 1) (Nat.le_refl _) h3 (by omega) hdp (by omega) (by simpa [wOf] using hx)
      | false =>
        rw [bulletinref12_Scan.j1, show (!false) = true from rfl, if_pos rfl, if_pos (by rw [List.length_map]; omega), show acc.map tok148 ++ [(⟨1, str w⟩ : S109)] = (acc ++ [(1, w)]).map tok148 by simp [tok148], show (⟨#[]⟩ : ByteArray) = str [] from rfl]
        rw [res (X := stepOut (acc ++ [(1, w)]) c l) (by simp [step, hat])]
        exact refScan_out s hs i c l hd (k + 3) (by omega) (acc ++ [(1, w)]) d hdp (by simp; omega) (H _ (by omega)) (H _ (by omega))
    | quot w b =>
      cases b with
      | true =>
        rw [show whereOf (.quot w true) = 2 from rfl, show behindOf (.quot w true) = true from rfl, show wOf (.quot w true) = w from rfl, if_pos rfl, bt_drop hd, reftext_is, Option.bind_some]
        cases ht : text c with
        | true =>
          rw [if_pos rfl, if_pos rfl, e1, if_pos (by omega), if_pos (by omega)]
          simp only [Int.toNat_natCast]
          rw [extract_one hd, str_app, if_pos (by rw [str_size, str_size]; simp [wOf] at hw ⊢; omega)]
          rw [res (X := .inl (acc, .quot (w ++ [c]) false, l)) (by simp [step, ht])]
          exact H (k + 8) (by omega) acc (.quot (w ++ [c]) false) d l (i + 1) (Nat.le_refl _) h3 (by omega) hdp (by omega) (by simpa [wOf] using hx)
        | false =>
          rw [if_neg (by decide), res (X := .inr 3) (by simp [step, ht])]
      | false =>
        rw [show whereOf (.quot w false) = 2 from rfl, show behindOf (.quot w false) = false from rfl, show wOf (.quot w false) = w from rfl, if_neg (by decide), if_neg (by decide), bt_drop hd, bulletinref12_Scan.j1, if_neg (by decide), refScan_fold s hs i c l hd]
        cases hf : foldAt (c :: l) with
        | true =>
          obtain ⟨t1, t2, t3⟩ := tail_drop hd hf
          rw [bulletinref12_Scan.j3, if_pos rfl, e2, res (X := .inl (acc, .quot w false, l.tail)) (by simp [step, hf])]
          exact H (k + 5) (by omega) acc (.quot w false) d l.tail (i + 2) t3 t1 t2 hdp (by omega) (by simp [wOf] at hw ⊢; omega)
        | false =>
          rw [bulletinref12_Scan.j3, if_neg (by decide), if_pos rfl, bulletinref12_Scan.j4, if_pos rfl]
          by_cases c92 : c = 92
          · rw [if_pos (by rw [c92]; rfl), e1, res (X := .inl (acc, .quot w true, l)) (by unfold step; simp only []; rw [hf, if_neg (by decide), if_pos c92])]
            exact H (k + 4) (by omega) acc (.quot w true) d l (i + 1) (Nat.le_refl _) h3 (by omega) hdp (by omega) (by simp [wOf] at hw ⊢; omega)
          · rw [if_neg (c := (c.toNat : Int) = 92) (fun h => c92 ((byte_ofNat c 92 (by decide)).1 h)), reftext_is, Option.bind_some]
            cases ht : text c with
            | false =>
              rw [if_neg (by decide), res (X := .inr 3) (by unfold step; simp only []; rw [hf, ht, if_neg (by decide), if_neg c92, if_neg (by decide)])]
            | true =>
              rw [if_pos rfl, bulletinref12_Scan.j5, if_pos rfl]
              by_cases c34 : c = 34
              · rw [if_pos (by rw [c34]; rfl), if_pos (by rw [List.length_map]; omega), e1, show acc.map tok148 ++ [(⟨2, str w⟩ : S109)] = (acc ++ [(2, w)]).map tok148 by simp [tok148], show (⟨#[]⟩ : ByteArray) = str [] from rfl]
                rw [res (X := .inl (acc ++ [(2, w)], .out, l)) (by unfold step; simp only []; rw [hf, ht, if_neg (by decide), if_neg c92, if_pos rfl, if_pos c34])]
                exact H (k + 3) (by omega) (acc ++ [(2, w)]) .out d l (i + 1) (Nat.le_refl _) h3 (by omega) hdp (by simp; omega) (by simp [wOf])
              · rw [if_neg (c := (c.toNat : Int) = 34) (fun h => c34 ((byte_ofNat c 34 (by decide)).1 h)), if_pos (by omega), e1, if_pos (by omega), if_pos (by omega)]
                simp only [Int.toNat_natCast]
                rw [extract_one hd, str_app, if_pos (by rw [str_size, str_size]; simp [wOf] at hw ⊢; omega)]
                rw [res (X := .inl (acc, .quot (w ++ [c]) false, l)) (by unfold step; simp only []; rw [hf, ht, if_neg (by decide), if_neg c92, if_pos rfl, if_neg c34])]
                exact H (k + 3) (by omega) acc (.quot (w ++ [c]) false) d l (i + 1) (Nat.le_refl _) h3 (by omega) hdp (by omega) (by simpa [wOf] using hx)
    | comm m b =>
      obtain ⟨hm, hm1, hm2⟩ := hdp
      subst hm
      cases b with
      | true =>
        rw [show whereOf (.comm m true) = 3 from rfl, show behindOf (.comm m true) = true from rfl, show wOf (.comm m true) = [] from rfl, if_pos rfl, bt_drop hd, reftext_is, Option.bind_some]
        cases ht : text c with
        | true =>
          rw [if_pos rfl, if_neg (by decide), e1, res (X := .inl (acc, .comm m false, l)) (by simp [step, ht])]
          exact H (k + 8) (by omega) acc (.comm m false) m l (i + 1) (Nat.le_refl _) h3 (by omega) ⟨rfl, hm1, hm2⟩ (by omega) (by simp [wOf])
        | false => rw [if_neg (by decide), res (X := .inr 3) (by simp [step, ht])]
      | false =>
        rw [show whereOf (.comm m false) = 3 from rfl, show behindOf (.comm m false) = false from rfl, show wOf (.comm m false) = [] from rfl, if_neg (by decide), if_neg (by decide), bt_drop hd, bulletinref12_Scan.j1, if_neg (by decide), refScan_fold s hs i c l hd]
        cases hf : foldAt (c :: l) with
        | true =>
          obtain ⟨t1, t2, t3⟩ := tail_drop hd hf
          rw [bulletinref12_Scan.j3, if_pos rfl, e2, res (X := .inl (acc, .comm m false, l.tail)) (by simp [step, hf])]
          exact H (k + 5) (by omega) acc (.comm m false) m l.tail (i + 2) t3 t1 t2 ⟨rfl, hm1, hm2⟩ (by omega) (by simp [wOf])
        | false =>
          rw [bulletinref12_Scan.j3, if_neg (by decide), if_neg (by decide), show ((3 : Int) == 3) = true from rfl, bulletinref12_Scan.j4, if_pos rfl]
          by_cases c92 : c = 92
          · rw [if_pos (by rw [c92]; rfl), e1, res (X := .inl (acc, .comm m true, l)) (by unfold step; simp only []; rw [hf, if_neg (by decide), if_pos c92])]
            exact H (k + 4) (by omega) acc (.comm m true) m l (i + 1) (Nat.le_refl _) h3 (by omega) ⟨rfl, hm1, hm2⟩ (by omega) (by simp [wOf])
          · rw [if_neg (c := (c.toNat : Int) = 92) (fun h => c92 ((byte_ofNat c 92 (by decide)).1 h)), reftext_is, Option.bind_some]
            cases ht : text c with
            | false =>
              rw [if_neg (by decide), res (X := .inr 3) (by unfold step; simp only []; rw [hf, ht, if_neg (by decide), if_neg c92, if_neg (by decide)])]
            | true =>
              rw [if_pos rfl, bulletinref12_Scan.j5, if_neg (by decide), if_pos rfl]
              -- the depth behind this sign
              have fin : ∀ (m' : Nat), m' ≤ 17 → bulletinref12_Scan.j7 (k + 2) s (acc.map tok148) (str []) 3 (m' : Int) false (i : Int) = some (match commAfter acc m' l with | .inl (a, t, r) => res148 a t r | .inr e => ([], e)) := by
                intro m' hm'
                unfold commAfter
                rw [bulletinref12_Scan.j7]
                by_cases g : 16 < m'
                · rw [if_pos (by omega), if_pos g]
                · rw [if_neg (by omega), if_neg g]
                  by_cases g0 : m' = 0
                  · rw [if_pos (by omega), if_pos g0, e1, g0]
                    exact H (k + 1) (by omega) acc .out 0 l (i + 1) (Nat.le_refl _) h3 (by omega) ⟨by decide, by decide⟩ (by omega) (by simp [wOf])
                  · rw [if_neg (by omega), if_neg g0, e1]
                    exact H (k + 1) (by omega) acc (.comm m' false) m' l (i + 1) (Nat.le_refl _) h3 (by omega) ⟨rfl, by omega, by omega⟩ (by omega) (by simp [wOf])
              by_cases c40 : c = 40
              · rw [if_pos (by rw [c40]; rfl), bulletinref12_Scan.j6, if_neg (c := (c.toNat : Int) = 41) (fun h => by rw [c40] at h; exact absurd h (by decide)), wrap_id (by omega) (by omega), show ((m : Int) + 1) = ((m + 1 : Nat) : Int) by omega, fin (m + 1) (by omega)]
                rw [res (X := commAfter acc (m + 1) l) (by unfold step; simp only []; rw [hf, ht, if_neg (by decide), if_neg c92, if_pos rfl, if_pos c40])]
              · rw [if_neg (c := (c.toNat : Int) = 40) (fun h => c40 ((byte_ofNat c 40 (by decide)).1 h)), bulletinref12_Scan.j6]
                by_cases c41 : c = 41
                · rw [if_pos (by rw [c41]; rfl), wrap_id (by omega) (by omega), show ((m : Int) - 1) = ((m - 1 : Nat) : Int) by omega, fin (m - 1) (by omega)]
                  rw [res (X := commAfter acc (m - 1) l) (by unfold step; simp only []; rw [hf, ht, if_neg (by decide), if_neg c92, if_pos rfl, if_neg c40, if_pos c41])]
                · rw [if_neg (c := (c.toNat : Int) = 41) (fun h => c41 ((byte_ofNat c 41 (by decide)).1 h)), fin m (by omega)]
                  rw [res (X := commAfter acc m l) (by unfold step; simp only []; rw [hf, ht, if_neg (by decide), if_neg c92, if_pos rfl, if_neg c40, if_neg c41])]
theorem refScan_is (s : ByteArray) (hs : s.size ≤ 1000000) (k : Nat) (hk : 9 * s.size + 40 ≤ k) : bulletinref12_Scan.f k s = some (res148 [] .out (bs s)) := by
  have := refScan_l0 s hs (bs s).length k (by rw [bs_length]; exact hk) [] .out 0 (bs s) 0 (Nat.le_refl _) (by simp) (by omega) ⟨by decide, by decide⟩ (by simp) (by simp [wOf])
  unfold bulletinref12_Scan.f
  exact this
end Go.Proofs.YtoikneogdbdplaaDoor.Pl
set_option linter.unusedVariables false
namespace Go.Proofs.YtoikneogdbdplaaDoor.Pl
open Go.RowKit Go.Proofs.YtoikneogdbdplaaDoorW.PrintWords Go.Proofs.YtoikneogdbdplaaDoor.Fn

/-! Layer 12, the program's: its Scan is the same machine. -/
set_option maxRecDepth 100000 in
theorem lexsign_is (c : UInt8) : lex_sign.f (c.toNat : Int) = some (signB c) := forall_byte (p := fun c => lex_sign.f (c.toNat : Int) = some (signB c)) (by decide +kernel) c
set_option maxRecDepth 100000 in
theorem lexwhite_is (c : UInt8) : lex_white.f (c.toNat : Int) = some (whiteB c) := forall_byte (p := fun c => lex_white.f (c.toNat : Int) = some (whiteB c)) (by decide +kernel) c
set_option maxRecDepth 100000 in
theorem atomic_apart (c : UInt8) : atomic c = true → c ≠ 13 ∧ c ≠ 40 ∧ c ≠ 34 ∧ c ≠ 32 ∧ c ≠ 9 ∧ signB c = false := forall_byte (p := fun c => atomic c = true → c ≠ 13 ∧ c ≠ 40 ∧ c ≠ 34 ∧ c ≠ 32 ∧ c ≠ 9 ∧ signB c = false) (by decide +kernel) c
set_option maxRecDepth 100000 in
theorem white_apart (c : UInt8) : whiteB c = true → c ≠ 13 ∧ c ≠ 40 ∧ c ≠ 34 ∧ atomic c = false ∧ signB c = false := forall_byte (p := fun c => whiteB c = true → c ≠ 13 ∧ c ≠ 40 ∧ c ≠ 34 ∧ atomic c = false ∧ signB c = false) (by decide +kernel) c
theorem fold_not {c : UInt8} (h : c ≠ 13) (l : Bytes) : foldAt (c :: l) = false := by
  cases l with
  | nil => rfl
  | cons b l =>
    cases l with
    | nil => rfl
    | cons e l => simp only [foldAt]; simp [h]
theorem lexfold_is (s : ByteArray) (hs : s.size ≤ 1000000) : lex_fold.f s = some (foldAt (bs s)) := by
  have hlen := bs_length s
  unfold lex_fold.f
  cases hb : bs s with
  | nil =>
    rw [hb] at hlen
    simp only [List.length_nil] at hlen
    rw [if_neg (by omega)]; rfl
  | cons a l =>
    have h0 : (bs s).drop 0 = a :: l := by simpa using hb
    cases l with
    | nil =>
      rw [hb] at hlen
      simp only [List.length_cons, List.length_nil] at hlen
      rw [if_neg (by omega)]; rfl
    | cons b l =>
      have h1 : (bs s).drop 1 = b :: l := (drop_cons h0).2.2.1
      cases l with
      | nil =>
        rw [hb] at hlen
        simp only [List.length_cons, List.length_nil] at hlen
        rw [if_neg (by omega)]; rfl
      | cons c l =>
        have h2 : (bs s).drop 2 = c :: l := (drop_cons h1).2.2.1
        rw [hb] at hlen
        simp only [List.length_cons] at hlen
        have e0 : bt s 0 = (a.toNat : Int) := bt_drop h0
        have e1 : bt s 1 = (b.toNat : Int) := bt_drop h1
        have e2 : bt s 2 = (c.toNat : Int) := bt_drop h2
        rw [if_pos (by omega), if_pos (by omega), e0]
        by_cases a13 : a = 13
        · rw [if_pos (by rw [a13]; rfl), if_pos (by omega), e1]
          by_cases b10 : b = 10
          · rw [if_pos (by rw [b10]; rfl), if_pos (by omega), e2, lexwhite_is, a13, b10]
            simp [foldAt]
          · rw [if_neg (c := (b.toNat : Int) = 10) (fun h => b10 ((byte_ofNat b 10 (by decide)).1 h))]
            simp [foldAt, b10]
        · rw [if_neg (c := (a.toNat : Int) = 13) (fun h => a13 ((byte_ofNat a 13 (by decide)).1 h))]
          simp [foldAt, a13]
def escL : Bytes → Int
  | [] => 9
  | c :: _ => if text c = true then 0 else 3
theorem lexescaped_is (s : ByteArray) : lex_escaped.f s = some (escL (bs s)) := by
  unfold lex_escaped.f
  rw [toList_bs]
  cases hb : bs s with
  | nil => rw [if_pos rfl]; rfl
  | cons c l =>
    have hlen := bs_length s
    rw [hb] at hlen
    simp only [List.length_cons] at hlen
    have e0 : bt s 0 = (c.toNat : Int) := bt_drop (s := s) (i := 0) (by simpa using hb)
    rw [if_neg (by simp), if_pos (by omega), e0, text_is, Option.bind_some]
    show (if text c = true then some (0 : Int) else some 3) = some (if text c = true then 0 else 3)
    cases text c <;> rfl
theorem bs_rest (s : ByteArray) (i : Nat) : bs (s.extract i s.size) = (bs s).drop i := by
  rw [bs_extract, List.take_of_length_le (by rw [bs_length]; exact Nat.le_refl _)]
theorem str_rest (s : ByteArray) (i : Nat) : s.extract i s.size = str ((bs s).drop i) := by
  apply bs_inj
  rw [bs_rest, bs_str]
def QuotSays (s : ByteArray) (k i : Nat) (w l : Bytes) : Prop :=
  (∃ w' r, lex_quoted.l0 k s (numsOf w) (i : Int) = some (2, str w', str r, 0) ∧ r.length ≤ l.length ∧ ∀ acc, scanL acc (.quot w false) l = scanL (acc ++ [(2, w')]) .out r) ∨
  (∃ e, e ≠ 0 ∧ lex_quoted.l0 k s (numsOf w) (i : Int) = some (0, str [], str [], e) ∧ ∀ acc, scanL acc (.quot w false) l = ([], e))
theorem QuotSays.le {s : ByteArray} {k k' i i' : Nat} {w w' l l' : Bytes} (h : QuotSays s k i w l) (hk : lex_quoted.l0 k' s (numsOf w') (i' : Int) = lex_quoted.l0 k s (numsOf w) (i : Int)) (hl : l.length ≤ l'.length) (hs : ∀ acc, scanL acc (.quot w' false) l' = scanL acc (.quot w false) l) : QuotSays s k' i' w' l' := by
  rcases h with ⟨a, r, h1, h2, h3⟩ | ⟨e, h1, h2, h3⟩
  · exact .inl ⟨a, r, hk.trans h1, by omega, fun acc => (hs acc).trans (h3 acc)⟩
  · exact .inr ⟨e, h1, hk.trans h2, fun acc => (hs acc).trans (h3 acc)⟩
theorem lexquoted_l0 (s : ByteArray) (hs : s.size ≤ 1000000) : ∀ (n k i : Nat) (w l : Bytes), l.length ≤ n → n + 1 ≤ k → (bs s).drop i = l → i ≤ (bs s).length → w.length ≤ i → QuotSays s k i w l
  | n, k, i, w, [], hn, hk, hd, hi, hw => by
    obtain ⟨k, rfl⟩ : ∃ j, k = j + 1 := ⟨k - 1, by omega⟩
    have := drop_nil hd
    rw [bs_length] at this hi
    refine .inr ⟨9, by decide, ?_, fun acc => rfl⟩
    rw [lex_quoted.l0, if_neg (by omega)]
    rfl
  | 0, k, i, w, c :: l, hn, hk, hd, hi, hw => by simp at hn
  | n + 1, k, i, w, c :: l, hn, hk, hd, hi, hw => by
    obtain ⟨k, rfl⟩ : ∃ j, k = j + 1 := ⟨k - 1, by omega⟩
    obtain ⟨h1, h2, h3, h4⟩ := drop_cons hd
    have h5 : i < s.size := by rw [bs_length] at h1; exact h1
    simp only [List.length_cons] at hn
    have e1 : wrap64 ((i : Int) + 1) = ((i + 1 : Nat) : Int) := wrap_succ i (by omega)
    have e2 : wrap64 (wrap64 ((i : Int) + 1) + 1) = ((i + 2 : Nat) : Int) := by rw [e1, wrap_succ (i + 1) (by omega)]
    have hl0 : ∀ X : Option (Int × ByteArray × ByteArray × Int), X = lex_quoted.l0 (k + 1) s (numsOf w) (i : Int) → lex_quoted.l0 (k + 1) s (numsOf w) (i : Int) = X := fun X h => h.symm
    have hstart : lex_quoted.l0 (k + 1) s (numsOf w) (i : Int) = (if foldAt (c :: l) = true then (lex_quoted.l0 k s (numsOf w) ((i + 2 : Nat) : Int)) else (if (c.toNat : Int) = 92 then (if escL l = 0 then (lex_quoted.l0 k s (numsOf w ++ [bt s ((i + 1 : Nat) : Int)]) ((i + 2 : Nat) : Int)) else some (0, (⟨#[]⟩ : ByteArray), (⟨#[]⟩ : ByteArray), escL l)) else (if (c.toNat : Int) = 34 then some (2, strOfNums (numsOf w), str l, 0) else (if text c = true then lex_quoted.l0 k s (numsOf w ++ [(c.toNat : Int)]) ((i + 1 : Nat) : Int) else some (0, (⟨#[]⟩ : ByteArray), (⟨#[]⟩ : ByteArray), 3))))) := by
      rw [lex_quoted.l0, if_pos (by omega), if_pos (by omega), if_pos (by omega)]
      simp only [Int.toNat_natCast]
      rw [lexfold_is _ (by simp only [ByteArray.size_extract]; omega), bs_rest, hd, Option.bind_some]
      cases hf : foldAt (c :: l) with
      | true => rw [if_pos rfl, if_pos rfl, e2]
      | false =>
        rw [if_neg (c := false = true) (by decide), if_neg (c := false = true) (by decide), bt_drop hd]
        by_cases c92 : (c.toNat : Int) = 92
        · rw [if_pos c92, if_pos c92, e1, if_pos (by omega), if_pos (by omega)]
          simp only [Int.toNat_natCast]
          rw [lexescaped_is, bs_rest, h3, Option.bind_some]
          by_cases he : escL l = 0
          · rw [if_pos he, if_pos he]
            have hne : i + 1 < s.size := by
              rcases Nat.lt_or_ge (i + 1) s.size with q | q
              · exact q
              · have : l = [] := by rw [← h3]; exact List.drop_of_length_le (by rw [bs_length]; exact q)
                rw [this] at he; cases he
            rw [if_pos (by omega), if_pos (by rw [numsOf_length]; omega), wrap_succ (i + 1) (by omega)]
          · rw [if_neg he, if_neg he]
        · rw [if_neg c92, if_neg c92]
          by_cases c34 : (c.toNat : Int) = 34
          · rw [if_pos c34, if_pos c34, e1, if_pos (by omega), if_pos (by omega)]
            simp only [Int.toNat_natCast]
            rw [str_rest, h3]
          · rw [if_neg c34, if_neg c34, text_is, Option.bind_some]
            cases ht : text c with
            | true => rw [if_pos rfl, if_pos rfl, if_pos (by rw [numsOf_length]; omega), e1]
            | false => rw [if_neg (c := false = true) (by decide), if_neg (c := false = true) (by decide)]
    cases hf : foldAt (c :: l) with
    | true =>
      obtain ⟨t1, t2, t3⟩ := tail_drop hd hf
      rw [hf, if_pos rfl] at hstart
      refine (lexquoted_l0 s hs n k (i + 2) w l.tail (by omega) (by omega) t1 t2 (by omega)).le hstart (by simp; omega) (fun acc => ?_)
      rw [scanL_cons]
      unfold step
      simp only []
      rw [hf, if_pos rfl]
    | false =>
      rw [hf, if_neg (by decide)] at hstart
      by_cases c92 : c = 92
      · rw [if_pos (by rw [c92]; rfl)] at hstart
        have hst : ∀ acc, scanL acc (.quot w false) (c :: l) = scanL acc (.quot w true) l := by
          intro acc
          rw [scanL_cons]
          unfold step
          simp only []
          rw [hf, if_neg (by decide), if_pos c92]
        cases hl : l with
        | nil =>
          rw [hl] at hstart
          refine .inr ⟨9, by decide, hstart.trans rfl, fun acc => ?_⟩
          rw [← hl, hst, hl]
          rfl
        | cons x l2 =>
          have hdx : (bs s).drop (i + 1) = x :: l2 := by rw [h3, hl]
          obtain ⟨g1, g2, g3, g4⟩ := drop_cons hdx
          have hsx : ∀ acc, scanL acc (.quot w false) (c :: x :: l2) = if text x = true then scanL acc (.quot (w ++ [x]) false) l2 else ([], 3) := by
            intro acc
            rw [← hl, hst, hl, scanL_cons]
            unfold step
            cases text x <;> rfl
          rw [hl] at hstart hn
          simp only [List.length_cons] at hn
          cases ht : text x with
          | true =>
            rw [show escL (x :: l2) = 0 by show (if text x = true then (0 : Int) else 3) = 0; rw [ht]; rfl, if_pos rfl, bt_drop hdx, show numsOf w ++ [(x.toNat : Int)] = numsOf (w ++ [x]) by simp [numsOf]] at hstart
            refine (lexquoted_l0 s hs n k (i + 2) (w ++ [x]) l2 (by omega) (by omega) g3 (by omega) (by simp; omega)).le hstart (by simp; omega) (fun acc => ?_)
            rw [hsx, ht, if_pos rfl]
          | false =>
            rw [show escL (x :: l2) = 3 by show (if text x = true then (0 : Int) else 3) = 3; rw [ht]; rfl, if_neg (by decide)] at hstart
            exact .inr ⟨3, by decide, hstart, fun acc => by rw [hsx, ht]; rfl⟩
      · rw [if_neg (c := (c.toNat : Int) = 92) (fun h => c92 ((byte_ofNat c 92 (by decide)).1 h))] at hstart
        by_cases c34 : c = 34
        · rw [if_pos (by rw [c34]; rfl), strOfNums_of] at hstart
          refine .inl ⟨w, l, hstart, by simp, fun acc => ?_⟩
          rw [scanL_cons]
          unfold step
          simp only []
          rw [hf, if_neg (by decide), if_neg c92, if_pos (by rw [c34]; exact text_34), if_pos c34]
        · rw [if_neg (c := (c.toNat : Int) = 34) (fun h => c34 ((byte_ofNat c 34 (by decide)).1 h))] at hstart
          cases ht : text c with
          | true =>
            rw [ht, if_pos rfl, show numsOf w ++ [(c.toNat : Int)] = numsOf (w ++ [c]) by simp [numsOf]] at hstart
            refine (lexquoted_l0 s hs n k (i + 1) (w ++ [c]) l (by omega) (by omega) h3 (by omega) (by simp; omega)).le hstart (by simp) (fun acc => ?_)
            rw [scanL_cons]
            unfold step
            simp only []
            rw [hf, ht, if_neg (by decide), if_neg c92, if_pos rfl, if_neg c34]
          | false =>
            rw [ht, if_neg (by decide)] at hstart
            refine .inr ⟨3, by decide, hstart, fun acc => ?_⟩
            rw [scanL_cons]
            unfold step
            simp only []
            rw [hf, ht, if_neg (by decide), if_neg c92, if_neg (by decide)]

def CommSays (s : ByteArray) (k i m : Nat) (l : Bytes) : Prop :=
  (∃ r, lex_comment.l0 k s (m : Int) (i : Int) = some (str r, 0) ∧ r.length ≤ l.length ∧ ∀ acc, scanL acc (.comm m false) l = scanL acc .out r) ∨
  (∃ e, e ≠ 0 ∧ lex_comment.l0 k s (m : Int) (i : Int) = some (str [], e) ∧ ∀ acc, scanL acc (.comm m false) l = ([], e))
theorem CommSays.le {s : ByteArray} {k k' i i' m m' : Nat} {l l' : Bytes} (h : CommSays s k i m l) (hk : lex_comment.l0 k' s (m' : Int) (i' : Int) = lex_comment.l0 k s (m : Int) (i : Int)) (hl : l.length ≤ l'.length) (hs : ∀ acc, scanL acc (.comm m' false) l' = scanL acc (.comm m false) l) : CommSays s k' i' m' l' := by
  rcases h with ⟨r, h1, h2, h3⟩ | ⟨e, h1, h2, h3⟩
  · exact .inl ⟨r, hk.trans h1, by omega, fun acc => (hs acc).trans (h3 acc)⟩
  · exact .inr ⟨e, h1, hk.trans h2, fun acc => (hs acc).trans (h3 acc)⟩
theorem text_40 : text 40 = true := by decide +kernel
theorem text_41 : text 41 = true := by decide +kernel
theorem lexcomment_l0 (s : ByteArray) (hs : s.size ≤ 1000000) : ∀ (n k i m : Nat) (l : Bytes), l.length ≤ n → 3 * n + 3 ≤ k → (bs s).drop i = l → i ≤ (bs s).length → 1 ≤ m → m ≤ 16 → CommSays s k i m l
  | n, k, i, m, [], hn, hk, hd, hi, hm1, hm2 => by
    obtain ⟨k, rfl⟩ : ∃ j, k = j + 1 := ⟨k - 1, by omega⟩
    have := drop_nil hd
    rw [bs_length] at this hi
    refine .inr ⟨9, by decide, ?_, fun acc => rfl⟩
    rw [lex_comment.l0, if_neg (by omega), if_pos (by omega)]
    rfl
  | 0, k, i, m, c :: l, hn, hk, hd, hi, hm1, hm2 => by simp at hn
  | n + 1, k, i, m, c :: l, hn, hk, hd, hi, hm1, hm2 => by
    obtain ⟨k, rfl⟩ : ∃ j, k = j + 3 := ⟨k - 3, by omega⟩
    obtain ⟨h1, h2, h3, h4⟩ := drop_cons hd
    have h5 : i < s.size := by rw [bs_length] at h1; exact h1
    simp only [List.length_cons] at hn
    have e1 : wrap64 ((i : Int) + 1) = ((i + 1 : Nat) : Int) := wrap_succ i (by omega)
    have e2 : wrap64 (wrap64 ((i : Int) + 1) + 1) = ((i + 2 : Nat) : Int) := by rw [e1, wrap_succ (i + 1) (by omega)]
    have hstart : lex_comment.l0 (k + 3) s (m : Int) (i : Int) = (if foldAt (c :: l) = true then (lex_comment.l0 (k + 2) s (m : Int) ((i + 2 : Nat) : Int)) else (if (c.toNat : Int) = 92 then (if escL l = 0 then (lex_comment.l0 (k + 2) s (m : Int) ((i + 2 : Nat) : Int)) else some ((⟨#[]⟩ : ByteArray), escL l)) else (if (c.toNat : Int) = 40 then lex_comment.j1 (k + 2) s (m : Int) (i : Int) (c.toNat : Int) ((m : Int) == 16) else lex_comment.j1 (k + 2) s (m : Int) (i : Int) (c.toNat : Int) false))) := by
      rw [lex_comment.l0, if_pos (by omega), if_pos (by omega), if_pos (by omega)]
      simp only [Int.toNat_natCast]
      rw [lexfold_is _ (by simp only [ByteArray.size_extract]; omega), bs_rest, hd, Option.bind_some]
      cases hf : foldAt (c :: l) with
      | true => rw [if_pos rfl, if_pos rfl, e2]
      | false =>
        rw [if_neg (c := false = true) (by decide), if_neg (c := false = true) (by decide), bt_drop hd]
        by_cases c92 : (c.toNat : Int) = 92
        · rw [if_pos c92, if_pos c92, e1, if_pos (by omega), if_pos (by omega)]
          simp only [Int.toNat_natCast]
          rw [lexescaped_is, bs_rest, h3, Option.bind_some, wrap_succ (i + 1) (by omega)]
        · rw [if_neg c92, if_neg c92]
    cases hf : foldAt (c :: l) with
    | true =>
      obtain ⟨t1, t2, t3⟩ := tail_drop hd hf
      rw [hf, if_pos rfl] at hstart
      refine (lexcomment_l0 s hs n (k + 2) (i + 2) m l.tail (by omega) (by omega) t1 t2 hm1 hm2).le hstart (by simp; omega) (fun acc => ?_)
      rw [scanL_cons]
      unfold step
      simp only []
      rw [hf, if_pos rfl]
    | false =>
      rw [hf, if_neg (by decide)] at hstart
      by_cases c92 : c = 92
      · rw [if_pos (by rw [c92]; rfl)] at hstart
        have hst : ∀ acc, scanL acc (.comm m false) (c :: l) = scanL acc (.comm m true) l := by
          intro acc
          rw [scanL_cons]
          unfold step
          simp only []
          rw [hf, if_neg (by decide), if_pos c92]
        cases hl : l with
        | nil =>
          rw [hl] at hstart
          refine .inr ⟨9, by decide, hstart.trans rfl, fun acc => ?_⟩
          rw [← hl, hst, hl]
          rfl
        | cons x l2 =>
          have hdx : (bs s).drop (i + 1) = x :: l2 := by rw [h3, hl]
          obtain ⟨g1, g2, g3, g4⟩ := drop_cons hdx
          have hsx : ∀ acc, scanL acc (.comm m false) (c :: x :: l2) = if text x = true then scanL acc (.comm m false) l2 else ([], 3) := by
            intro acc
            rw [← hl, hst, hl, scanL_cons]
            unfold step
            cases text x <;> rfl
          rw [hl] at hstart hn
          simp only [List.length_cons] at hn
          cases ht : text x with
          | true =>
            rw [show escL (x :: l2) = 0 by show (if text x = true then (0 : Int) else 3) = 0; rw [ht]; rfl, if_pos rfl] at hstart
            refine (lexcomment_l0 s hs n (k + 2) (i + 2) m l2 (by omega) (by omega) g3 (by omega) hm1 hm2).le hstart (by simp; omega) (fun acc => ?_)
            rw [hsx, ht, if_pos rfl]
          | false =>
            rw [show escL (x :: l2) = 3 by show (if text x = true then (0 : Int) else 3) = 3; rw [ht]; rfl, if_neg (by decide)] at hstart
            exact .inr ⟨3, by decide, hstart, fun acc => by rw [hsx, ht]; rfl⟩
      · rw [if_neg (c := (c.toNat : Int) = 92) (fun h => c92 ((byte_ofNat c 92 (by decide)).1 h))] at hstart
        have hst : text c = true → ∀ acc, scanL acc (.comm m false) (c :: l) = (match commAfter acc (if c = 40 then m + 1 else if c = 41 then m - 1 else m) l with | .inl (a, t, r) => scanL a t r | .inr e => ([], e)) := by
          intro ht acc
          rw [scanL_cons]
          unfold step
          simp only []
          rw [hf, ht, if_neg (by decide), if_neg c92, if_pos rfl]
          all_goals rfl
        by_cases c40 : c = 40
        · have ht : text c = true := by rw [c40]; exact text_40
          rw [if_pos (by rw [c40]; rfl), lex_comment.j1] at hstart
          by_cases h16 : m = 16
          · rw [show ((m : Int) == 16) = true by rw [h16]; rfl, if_pos rfl] at hstart
            refine .inr ⟨1, by decide, hstart, fun acc => ?_⟩
            rw [hst ht, if_pos c40]
            unfold commAfter
            rw [if_pos (by omega)]
          · rw [show ((m : Int) == 16) = false by rw [beq_eq_false_iff_ne]; omega, if_neg (by decide), if_pos (by rw [c40]; rfl), e1, wrap_id (by omega) (by omega), show ((m : Int) + 1) = ((m + 1 : Nat) : Int) by omega] at hstart
            refine (lexcomment_l0 s hs n (k + 1) (i + 1) (m + 1) l (by omega) (by omega) h3 (by omega) (by omega) (by omega)).le hstart (by simp) (fun acc => ?_)
            rw [hst ht, if_pos c40]
            unfold commAfter
            rw [if_neg (by omega), if_neg (by omega)]
        · rw [if_neg (c := (c.toNat : Int) = 40) (fun h => c40 ((byte_ofNat c 40 (by decide)).1 h)), lex_comment.j1, if_neg (by decide), if_neg (c := (c.toNat : Int) = 40) (fun h => c40 ((byte_ofNat c 40 (by decide)).1 h))] at hstart
          by_cases c41 : c = 41
          · have ht : text c = true := by rw [c41]; exact text_41
            rw [if_pos (by rw [c41]; rfl), lex_comment.j2] at hstart
            by_cases h1' : m = 1
            · rw [show ((m : Int) == 1) = true by rw [h1']; rfl, if_pos rfl, e1, if_pos (by omega), if_pos (by omega), if_neg (by decide)] at hstart
              simp only [Int.toNat_natCast] at hstart
              rw [str_rest, h3] at hstart
              refine .inl ⟨l, hstart, by simp, fun acc => ?_⟩
              rw [hst ht, if_neg c40, if_pos c41, h1']
              rfl
            · rw [show ((m : Int) == 1) = false by rw [beq_eq_false_iff_ne]; omega, if_neg (by decide), if_pos (by rw [c41]; rfl), e1, wrap_id (by omega) (by omega), show ((m : Int) - 1) = ((m - 1 : Nat) : Int) by omega] at hstart
              refine (lexcomment_l0 s hs n k (i + 1) (m - 1) l (by omega) (by omega) h3 (by omega) (by omega) (by omega)).le hstart (by simp) (fun acc => ?_)
              rw [hst ht, if_neg c40, if_pos c41]
              unfold commAfter
              rw [if_neg (by omega), if_neg (by omega)]
          · rw [if_neg (c := (c.toNat : Int) = 41) (fun h => c41 ((byte_ofNat c 41 (by decide)).1 h)), lex_comment.j2, if_neg (by decide), if_neg (c := (c.toNat : Int) = 41) (fun h => c41 ((byte_ofNat c 41 (by decide)).1 h)), text_is, Option.bind_some] at hstart
            cases ht : text c with
            | true =>
              rw [ht, if_pos rfl, e1] at hstart
              refine (lexcomment_l0 s hs n k (i + 1) m l (by omega) (by omega) h3 (by omega) hm1 hm2).le hstart (by simp) (fun acc => ?_)
              rw [hst ht, if_neg c40, if_neg c41]
              unfold commAfter
              rw [if_neg (by omega), if_neg (by omega)]
            | false =>
              rw [ht, if_neg (by decide)] at hstart
              refine .inr ⟨3, by decide, hstart, fun acc => ?_⟩
              rw [scanL_cons]
              unfold step
              simp only []
              rw [hf, ht, if_neg (by decide), if_neg c92, if_neg (by decide)]

theorem lexatom_l0 (s : ByteArray) (hs : s.size ≤ 1000000) : ∀ (n k i : Nat) (l : Bytes), l.length ≤ n → n + 1 ≤ k → (bs s).drop i = l → i ≤ (bs s).length → 1 ≤ i →
    ∃ j, i ≤ j ∧ j ≤ (bs s).length ∧ lex_next.l0 k s (i : Int) = some (1, str ((bs s).take j), str ((bs s).drop j), 0) ∧ ∀ acc, scanL acc (.atom ((bs s).take i)) l = scanL (acc ++ [(1, (bs s).take j)]) .out ((bs s).drop j)
  | n, k, i, [], hn, hk, hd, hi, h1 => by
    obtain ⟨k, rfl⟩ : ∃ j, k = j + 1 := ⟨k - 1, by omega⟩
    have := drop_nil hd
    have hl := bs_length s
    refine ⟨i, Nat.le_refl _, hi, ?_, fun acc => by rw [hd]; rfl⟩
    rw [lex_next.l0, if_neg (by omega), if_neg (by omega), if_pos (by omega), if_pos (by omega)]
    simp only [Int.toNat_natCast]
    rw [str_rest, show s.extract 0 i = str ((bs s).take i) by apply bs_inj; rw [bs_extract, bs_str, List.drop_zero]]
  | 0, k, i, c :: l, hn, hk, hd, hi, h1 => by simp at hn
  | n + 1, k, i, c :: l, hn, hk, hd, hi, h0 => by
    obtain ⟨k, rfl⟩ : ∃ j, k = j + 1 := ⟨k - 1, by omega⟩
    obtain ⟨h1, h2, h3, h4⟩ := drop_cons hd
    have h5 : i < s.size := by rw [bs_length] at h1; exact h1
    simp only [List.length_cons] at hn
    cases ha : atomic c with
    | true =>
      obtain ⟨j, q1, q2, q3, q4⟩ := lexatom_l0 s hs n k (i + 1) l (by omega) (by omega) h3 (by omega) (by omega)
      refine ⟨j, by omega, q2, ?_, fun acc => ?_⟩
      · rw [lex_next.l0, if_pos (by omega), if_pos (by omega), bt_drop hd, atomic_is, Option.bind_some, ha, if_pos rfl, wrap_succ i (by omega)]
        exact q3
      · rw [scanL_cons]
        unfold step
        simp only []
        rw [ha, if_pos rfl, ← h4]
        exact q4 acc
    | false =>
      refine ⟨i, Nat.le_refl _, by omega, ?_, fun acc => ?_⟩
      · rw [lex_next.l0, if_pos (by omega), if_pos (by omega), bt_drop hd, atomic_is, Option.bind_some, ha, if_neg (by decide), if_neg (by omega), if_pos (by omega)]
        simp only [Int.toNat_natCast]
        rw [str_rest, show s.extract 0 i = str ((bs s).take i) by apply bs_inj; rw [bs_extract, bs_str, List.drop_zero]]
      · rw [hd, scanL_cons, scanL_cons]
        unfold step
        simp only []
        rw [ha, if_neg (by decide)]
theorem wrap_01 : wrap64 ((0 : Int) + 1) = ((1 : Nat) : Int) := wrap_succ 0 (by decide)
theorem lexnext_is (s : ByteArray) (hs : s.size ≤ 1000000) (c : UInt8) (l : Bytes) (hb : bs s = c :: l) (k : Nat) (hk : 3 * s.size + 10 ≤ k) :
    (∃ (kd : Int) (t r : Bytes), lex_next.f k s = some (kd, str t, str r, 0) ∧ r.length ≤ l.length ∧ ∀ acc, scanL acc .out (c :: l) = scanL (if kd = 0 then acc else acc ++ [(kd, t)]) .out r) ∨
    (∃ (kd : Int) (t : Bytes) (r : ByteArray) (e : Int), e ≠ 0 ∧ lex_next.f k s = some (kd, str t, r, e) ∧ ∀ acc, scanL acc .out (c :: l) = ([], e)) := by
  have hlen := bs_length s
  rw [hb] at hlen
  simp only [List.length_cons] at hlen
  have hd : (bs s).drop 0 = c :: l := by rw [hb]; rfl
  have hd1 : (bs s).drop 1 = l := (drop_cons hd).2.2.1
  have hbt : bt s 0 = (c.toNat : Int) := bt_drop hd
  have eE : s.extract 1 s.size = str l := by rw [str_rest, hd1]
  have hsc : ∀ acc, scanL acc .out (c :: l) = (match stepOut acc c l with | .inl (a, t, r) => scanL a t r | .inr e => ([], e)) := by
    intro acc
    rw [scanL_cons]
    rfl
  have hout : ∀ (a b d e f g : Bool), foldAt (c :: l) = a → atomic c = b → signB c = f → whiteB c = g → ∀ acc, stepOut acc c l = if a = true then .inl (acc, .out, l.tail) else if b = true then .inl (acc, .atom [c], l) else if c = 34 then .inl (acc, .quot [] false, l) else if c = 40 then .inl (acc, .comm 1 false, l) else if f = true then .inl (acc ++ [(3, [c])], .out, l) else if g = true then .inl (acc, .out, l) else .inr 3 := by
    intro a b d e f g h1 h2 h3 h4 acc
    unfold stepOut
    rw [h1, h2, h3, h4]
  unfold lex_next.f
  rw [if_pos (by omega), hbt, lexwhite_is, Option.bind_some]
  cases hw : whiteB c with
  | true =>
    obtain ⟨n13, n40, n34, na, ns⟩ := white_apart c hw
    have hf := fold_not n13 l
    rw [if_pos rfl, if_pos (by omega), eE]
    refine .inl ⟨0, [], l, rfl, Nat.le_refl _, fun acc => ?_⟩
    rw [hsc, hout false false false false false true hf na ns hw, if_neg (by decide), if_neg (by decide), if_neg n34, if_neg n40, if_neg (by decide), if_pos rfl, if_pos rfl]
  | false =>
    rw [if_neg (by decide), lexfold_is s hs, Option.bind_some, hb]
    cases hf : foldAt (c :: l) with
    | true =>
      obtain ⟨t1, t2, t3⟩ := tail_drop hd hf
      rw [bs_length] at t2
      rw [if_pos rfl, if_pos (by omega), show s.extract 2 s.size = str l.tail by rw [str_rest]; congr 1]
      refine .inl ⟨0, [], l.tail, rfl, by simp, fun acc => ?_⟩
      rw [hsc, hout true _ false false _ _ hf rfl rfl rfl, if_pos rfl, if_pos rfl]
    | false =>
      rw [if_neg (c := false = true) (by decide)]
      by_cases c40 : c = 40
      · have na : atomic c = false := by rw [c40]; decide +kernel
        rw [if_pos (by rw [c40]; rfl)]
        obtain ⟨k, rfl⟩ : ∃ j, k = j + 2 := ⟨k - 2, by omega⟩
        have hcm : lex_comment.f (k + 2) s = lex_comment.l0 k s ((1 : Nat) : Int) ((1 : Nat) : Int) := by
          unfold lex_comment.f
          rw [lex_comment.l0, if_pos (by omega), if_pos (by decide), if_pos (by omega), show s.extract (0 : Int).toNat s.size = s from extract_all s, lexfold_is s hs, hb, hf, Option.bind_some, if_neg (by decide), hbt, if_neg (c := (c.toNat : Int) = 92) (by rw [c40]; decide), if_pos (by rw [c40]; rfl), show ((0 : Int) == 16) = false from rfl, lex_comment.j1, if_neg (by decide), if_pos (by rw [c40]; rfl), wrap_01]
        rw [hcm]
        have hso : ∀ acc, scanL acc .out (c :: l) = scanL acc (.comm 1 false) l := by
          intro acc
          rw [hsc, hout false false false false _ _ hf na rfl rfl, if_neg (by decide), if_neg (by decide), if_neg (by rw [c40]; decide), if_pos c40]
        rcases lexcomment_l0 s hs l.length k 1 1 l (Nat.le_refl _) (by omega) hd1 (by rw [hb]; simp) (by decide) (by decide) with ⟨r, h1, h2, h3⟩ | ⟨e, h1, h2, h3⟩
        · rw [h1]
          exact .inl ⟨0, [], r, rfl, h2, fun acc => by rw [hso, h3, if_pos rfl]⟩
        · rw [h2]
          exact .inr ⟨0, [], str [], e, h1, rfl, fun acc => by rw [hso, h3]⟩
      · rw [if_neg (c := (c.toNat : Int) = 40) (fun h => c40 ((byte_ofNat c 40 (by decide)).1 h))]
        by_cases c34 : c = 34
        · have na : atomic c = false := by rw [c34]; decide +kernel
          rw [if_pos (by rw [c34]; rfl)]
          have hso : ∀ acc, scanL acc .out (c :: l) = scanL acc (.quot [] false) l := by
            intro acc
            rw [hsc, hout false false false false _ _ hf na rfl rfl, if_neg (by decide), if_neg (by decide), if_pos c34]
          rcases lexquoted_l0 s hs l.length k 1 [] l (Nat.le_refl _) (by omega) hd1 (by rw [hb]; simp) (by simp) with ⟨w', r, h1, h2, h3⟩ | ⟨e, h1, h2, h3⟩
          · rw [show lex_quoted.f k s = lex_quoted.l0 k s (numsOf []) ((1 : Nat) : Int) from rfl, h1]
            exact .inl ⟨2, w', r, rfl, h2, fun acc => by rw [hso, h3, if_neg (by decide)]⟩
          · rw [show lex_quoted.f k s = lex_quoted.l0 k s (numsOf []) ((1 : Nat) : Int) from rfl, h2]
            exact .inr ⟨0, [], str [], e, h1, rfl, fun acc => by rw [hso, h3]⟩
        · rw [if_neg (c := (c.toNat : Int) = 34) (fun h => c34 ((byte_ofNat c 34 (by decide)).1 h)), lexsign_is, Option.bind_some]
          cases hsg : signB c with
          | true =>
            have na : atomic c = false := by
              cases ha : atomic c with
              | false => rfl
              | true => have := (atomic_apart c ha).2.2.2.2.2; rw [hsg] at this; cases this
            rw [if_pos rfl, if_pos (by decide), if_pos (by omega), eE, show s.extract 0 1 = str [c] from extract_one (i := 0) hd]
            refine .inl ⟨3, [c], l, rfl, Nat.le_refl _, fun acc => ?_⟩
            rw [hsc, hout false false false false true false hf na hsg hw, if_neg (by decide), if_neg (by decide), if_neg c34, if_neg c40, if_pos rfl, if_neg (by decide)]
          | false =>
            rw [if_neg (c := false = true) (by decide)]
            obtain ⟨k, rfl⟩ : ∃ j, k = j + 1 := ⟨k - 1, by omega⟩
            cases ha : atomic c with
            | false =>
              rw [lex_next.l0, if_pos (by omega), if_pos (by decide), hbt, atomic_is, ha, Option.bind_some, if_neg (by decide), if_pos rfl]
              refine .inr ⟨0, [], _, 3, by decide, rfl, fun acc => ?_⟩
              rw [hsc, hout false false false false false false hf ha hsg hw, if_neg (by decide), if_neg (by decide), if_neg c34, if_neg c40, if_neg (by decide), if_neg (by decide)]
            | true =>
              rw [lex_next.l0, if_pos (by omega), if_pos (by decide), hbt, atomic_is, ha, Option.bind_some, if_pos rfl, wrap_01]
              obtain ⟨j, q1, q2, q3, q4⟩ := lexatom_l0 s hs l.length k 1 l (Nat.le_refl _) (by omega) hd1 (by rw [hb]; simp) (by decide)
              rw [q3]
              refine .inl ⟨1, _, _, rfl, ?_, fun acc => ?_⟩
              · rw [hb]
                simp only [List.length_drop, List.length_cons]
                omega
              · rw [hsc, hout false true false false _ _ hf ha rfl rfl, if_neg (by decide), if_pos rfl, if_neg (by decide), ← q4 acc, hb]
                rfl
def tok142 (t : Tok) : S136 := ⟨t.1, str t.2⟩
theorem lexScan_l0 : ∀ (n k : Nat) (s : ByteArray) (acc : List Tok), s.size ≤ n → s.size ≤ 1000000 → 4 * n + 20 ≤ k → acc.length + s.size ≤ 1000000 →
    lex_Scan.l0 k s (acc.map tok142) = some ((scanL acc .out (bs s)).1.map tok142, (scanL acc .out (bs s)).2)
  | n, k, s, acc, hn, hs, hk, ha => by
    obtain ⟨k, rfl⟩ : ∃ j, k = j + 1 := ⟨k - 1, by omega⟩
    have hlen := bs_length s
    rw [lex_Scan.l0, toList_bs]
    cases hb : bs s with
    | nil => rw [if_pos rfl]; rfl
    | cons c l =>
      rw [hb] at hlen
      simp only [List.length_cons] at hlen
      obtain ⟨n, rfl⟩ : ∃ j, n = j + 1 := ⟨n - 1, by omega⟩
      rw [if_neg (by simp)]
      rcases lexnext_is s hs c l hb k (by omega) with ⟨kd, t, r, h1, h2, h3⟩ | ⟨kd, t, r, e, h0, h1, h3⟩
      · rw [h1, Option.bind_some, if_pos rfl, h3]
        by_cases hkd : kd = 0
        · rw [if_pos hkd, if_pos hkd, lexScan_l0 n k (str r) acc (by rw [str_size]; omega) (by rw [str_size]; omega) (by omega) (by rw [str_size]; omega), bs_str]
        · rw [if_neg hkd, if_neg hkd, if_pos (by rw [List.length_map]; omega), show acc.map tok142 ++ [(⟨kd, str t⟩ : S136)] = (acc ++ [(kd, t)]).map tok142 by simp [tok142],
            lexScan_l0 n k (str r) (acc ++ [(kd, t)]) (by rw [str_size]; omega) (by rw [str_size]; omega) (by omega) (by rw [str_size]; simp; omega), bs_str]
      · rw [h1, Option.bind_some, if_neg h0, h3]
        rfl
theorem lexScan_is (s : ByteArray) (hs : s.size ≤ 1000000) (k : Nat) (hk : 4 * s.size + 20 ≤ k) : lex_Scan.f k s = some ((scanL [] .out (bs s)).1.map tok142, (scanL [] .out (bs s)).2) := by
  have := lexScan_l0 s.size k s [] (Nat.le_refl _) hs hk (by simpa using hs)
  unfold lex_Scan.f
  exact this
end Go.Proofs.YtoikneogdbdplaaDoor.Pl
set_option linter.unusedVariables false
set_option linter.unusedSimpArgs false
namespace Go.Proofs.YtoikneogdbdplaaDoor.Pl
open Go.RowKit Go.Proofs.YtoikneogdbdplaaDoorW.PrintWords Go.Proofs.YtoikneogdbdplaaDoor.Fn

/-! The reference's glyph functions, as the plain ones. -/
theorem fold_rounds (s : ByteArray) (hs : s.size ≤ 1000000000) : ∀ (l : Bytes) (k i : Nat) (acc : Bytes), (bs s).drop i = l → l.length < k → acc.length ≤ i →
    bulletinref06_Fold.l0 k s (str acc) (i : Int) = some (str (acc ++ fold l)) := by
  intro l
  induction l with
  | nil =>
    intro k i acc h hk ha
    obtain ⟨k, rfl⟩ : ∃ m, k = m + 1 := ⟨k - 1, by omega⟩
    have := drop_nil h
    rw [bs_length] at this
    simp only [bulletinref06_Fold.l0]
    rw [if_neg (by omega)]
    simp [fold]
  | cons c r ih =>
    intro k i acc h hk ha
    obtain ⟨k, rfl⟩ : ∃ m, k = m + 1 := ⟨k - 1, by omega⟩
    obtain ⟨h1, h2, h3, h4⟩ := drop_cons h
    rw [bs_length] at h1
    have hc := byte_lt c
    have hx := extract_one h
    have hw := wrap_succ i (by omega)
    simp only [bulletinref06_Fold.l0]
    rw [if_pos (by omega), if_pos (by omega), bt_drop h, hw]
    have hn := ih k (i + 1) (acc ++ [foldB c]) h3 (by simpa using hk) (by simp; omega)
    have hz : (str acc).size = acc.length := str_size acc
    have hfin : some (str (acc ++ [foldB c] ++ fold r)) = some (str (acc ++ fold (c :: r))) := by simp [fold]
    by_cases a : (c.toNat : Int) ≥ 65
    · rw [if_pos a]
      by_cases b : (c.toNat : Int) ≤ 90
      · rw [if_pos b]
        have e : strOfNums [((c.toNat : Int) + 32) % 256] = str [foldB c] := by
          rw [nums_one]
          congr 1
          have hf := foldB_up c ⟨by omega, b⟩
          have : (((c.toNat : Int) + 32) % 256).toNat = (foldB c).toNat := by omega
          rw [this, ofNat_toNat]
        simp only [Option.bind_some]
        rw [e, str_app, if_pos (by rw [hz, str_size]; simp; omega), hn, hfin]
      · rw [if_neg b]
        have hf : foldB c = c := by unfold foldB; rw [if_neg (by omega)]
        rw [if_pos (by omega), if_pos (by omega), Int.toNat_natCast, Int.toNat_natCast, hx, str_app, if_pos (by rw [hz, str_size]; simp; omega)]
        rw [hf] at hn hfin
        rw [hn, hfin]
    · rw [if_neg a]
      have hf : foldB c = c := by unfold foldB; rw [if_neg (by omega)]
      rw [if_pos (by omega), if_pos (by omega), Int.toNat_natCast, Int.toNat_natCast, hx, str_app, if_pos (by rw [hz, str_size]; simp; omega)]
      rw [hf] at hn hfin
      rw [hn, hfin]
theorem ref_fold (s : ByteArray) (hs : s.size ≤ 1000000000) (k : Nat) (hk : s.size < k) : bulletinref06_Fold.f k s = some (str (fold (bs s))) := by
  unfold bulletinref06_Fold.f
  have := fold_rounds s hs (bs s) k 0 [] (by simp) (by rw [bs_length]; exact hk) (by simp)
  simpa [str] using this

end Go.Proofs.YtoikneogdbdplaaDoor.Pl
set_option linter.unusedVariables false
namespace Go.Proofs.YtoikneogdbdplaaDoor.Pl
open Go.RowKit Go.Proofs.YtoikneogdbdplaaDoorW.PrintWords Go.Proofs.YtoikneogdbdplaaDoor.Fn

/-! The document's labels, domains, right addresses. -/
def labN (n : Int) : Prop := (97 ≤ n ∧ n ≤ 122) ∨ (65 ≤ n ∧ n ≤ 90) ∨ (48 ≤ n ∧ n ≤ 57) ∨ n = 45
instance (n : Int) : Decidable (labN n) := by unfold labN; infer_instance
end Go.Proofs.YtoikneogdbdplaaDoor.Pl
namespace Go.Proofs.YtoikneogdbdplaaDoor.Fn
open Go.RowKit Go.Proofs.YtoikneogdbdplaaDoorW.PrintWords Go.Proofs.YtoikneogdbdplaaDoorW.PrintLast Go.Proofs.YtoikneogdbdplaaDoorW.PrintMore
attribute [local go_sem] max2_int min2_int max_two min_two max_three min_three max_four min_four
set_option linter.unusedVariables false
set_option linter.unusedSimpArgs false

mutual
def addr_Of.j0 : Nat → List (S136) → ByteArray → Bool → Option (ByteArray × ByteArray × Int)
 | 0, _, _, _ => none
 | k + 1, x0, x4, x21 => if x21 = true then (some ((⟨#[]⟩ : ByteArray), (⟨#[]⟩ : ByteArray), 130)) else (if 1 ≤ (x0.length : Int) then ((addr_joined.f k (x0.drop 1) true).bind fun bt633 => (if bt633.2.2 = true then (addr_Of.j1 k x4 bt633.1 (decide ((bt633.2.1.length : Int) > 0))) else (addr_Of.j1 k x4 bt633.1 true))) else (none))
def addr_Of.j1 : Nat → ByteArray → ByteArray → Bool → Option (ByteArray × ByteArray × Int)
 | 0, _, _, _ => none
 | k + 1, x4, x6, x36 => if x36 = true then (some ((⟨#[]⟩ : ByteArray), (⟨#[]⟩ : ByteArray), 130)) else ((glyph_Fold.f x6).bind fun t638 => ((addr_why.f k x4 t638).bind fun t640 => (if t640 = 0 then (some (x4, t638, 0)) else (some ((⟨#[]⟩ : ByteArray), (⟨#[]⟩ : ByteArray), t640)))))
end
end Go.Proofs.YtoikneogdbdplaaDoor.Fn
set_option linter.unusedVariables false
namespace Go.Proofs.YtoikneogdbdplaaDoor.Pl
open Go.RowKit Go.Proofs.YtoikneogdbdplaaDoorW.PrintWords Go.Proofs.YtoikneogdbdplaaDoor.Fn

/-! Layer 13: the address that tokens are. -/
def isT (t : Tok) (s : Bytes) : Bool := t.1 == 3 && t.2 == s
def cat (l : List Tok) : Bytes := l.flatMap (·.2)
/-! the program's: words joined by dots, as long as they go on -/
end Go.Proofs.YtoikneogdbdplaaDoor.Pl
namespace Go.Proofs.YtoikneogdbdplaaDoor.Fn
open Go.RowKit Go.Proofs.YtoikneogdbdplaaDoorW.PrintWords Go.Proofs.YtoikneogdbdplaaDoorW.PrintLast Go.Proofs.YtoikneogdbdplaaDoorW.PrintMore
attribute [local go_sem] max2_int min2_int max_two min_two max_three min_three max_four min_four
set_option linter.unusedVariables false
set_option linter.unusedSimpArgs false

end Go.Proofs.YtoikneogdbdplaaDoor.Fn
set_option linter.unusedVariables false
namespace Go.Proofs.YtoikneogdbdplaaDoor.Pl
open Go.RowKit Go.Proofs.YtoikneogdbdplaaDoorW.PrintWords Go.Proofs.YtoikneogdbdplaaDoor.Fn
end Go.Proofs.YtoikneogdbdplaaDoor.Pl
set_option linter.unusedVariables false
set_option linter.unusedSimpArgs false
namespace Go.Proofs.YtoikneogdbdplaaDoor.Pl
open Go.RowKit Go.Proofs.YtoikneogdbdplaaDoorW.PrintWords Go.Proofs.YtoikneogdbdplaaDoor.Fn

/-! how many tokens there are, and how long they are -/
def pend : Sc → Nat
  | .atom _ => 1
  | _ => 0
theorem cat_app (a b : List Tok) : cat (a ++ b) = cat a ++ cat b := by simp [cat]
theorem tail_len {c : UInt8} {l : Bytes} (h : foldAt (c :: l) = true) : l.tail.length + 1 = l.length := by
  cases l with
  | nil => cases h
  | cons b l => simp
theorem stepOut_bound {acc : List Tok} {c : UInt8} {l : Bytes} {a : List Tok} {t : Sc} {r : Bytes} (h : stepOut acc c l = .inl (a, t, r)) :
    a.length + pend t + r.length ≤ acc.length + (l.length + 1) ∧ (cat a).length + (wOf t).length + r.length ≤ (cat acc).length + (l.length + 1) := by
  unfold stepOut at h
  by_cases c1 : foldAt (c :: l) = true
  · rw [if_pos c1] at h
    have := tail_len c1
    simp only [Sum.inl.injEq, Prod.mk.injEq] at h
    obtain ⟨rfl, rfl, rfl⟩ := h
    simp only [pend, wOf, List.length_nil]
    omega
  · rw [if_neg c1] at h
    repeat' split at h
    all_goals (first | (cases h; done) | (simp only [Sum.inl.injEq, Prod.mk.injEq] at h; obtain ⟨rfl, rfl, rfl⟩ := h; simp only [pend, wOf, cat_app, List.length_append, List.length_nil, List.length_cons]; simp [cat]; try omega))
theorem step_bound {acc : List Tok} {st : Sc} {c : UInt8} {l : Bytes} {a : List Tok} {t : Sc} {r : Bytes} (h : step acc st c l = .inl (a, t, r)) :
    a.length + pend t + r.length ≤ acc.length + pend st + (l.length + 1) ∧ (cat a).length + (wOf t).length + r.length ≤ (cat acc).length + (wOf st).length + (l.length + 1) := by
  cases st with
  | out =>
    have := stepOut_bound h
    rw [show pend .out = 0 from rfl, show wOf .out = [] from rfl, List.length_nil]
    omega
  | atom w =>
    unfold step at h
    simp only [] at h
    by_cases ha : atomic c = true
    · rw [if_pos ha] at h
      simp only [Sum.inl.injEq, Prod.mk.injEq] at h
      obtain ⟨rfl, rfl, rfl⟩ := h
      simp only [pend, wOf, List.length_append, List.length_cons, List.length_nil]
      omega
    · rw [if_neg ha] at h
      have := stepOut_bound h
      rw [cat_app] at this
      rw [show pend (.atom w) = 1 from rfl, show wOf (.atom w) = w from rfl]
      simp only [List.length_append, List.length_cons, List.length_nil] at this ⊢
      have e : (cat [((1 : Int), w)]).length = w.length := by simp [cat]
      omega
  | quot w b =>
    cases b with
    | true =>
      unfold step at h
      simp only [] at h
      repeat' split at h
      all_goals (first | (cases h; done) | (simp only [Sum.inl.injEq, Prod.mk.injEq] at h; obtain ⟨rfl, rfl, rfl⟩ := h; simp only [pend, wOf, List.length_append, List.length_cons, List.length_nil]; omega))
    | false =>
      unfold step at h
      simp only [] at h
      by_cases c1 : foldAt (c :: l) = true
      · rw [if_pos c1] at h
        have := tail_len c1
        simp only [Sum.inl.injEq, Prod.mk.injEq] at h
        obtain ⟨rfl, rfl, rfl⟩ := h
        simp only [pend, wOf]
        omega
      · rw [if_neg c1] at h
        have e : (cat [((2 : Int), w)]).length = w.length := by simp [cat]
        repeat' split at h
        all_goals (first | (cases h; done) | (simp only [Sum.inl.injEq, Prod.mk.injEq] at h; obtain ⟨rfl, rfl, rfl⟩ := h; simp only [pend, wOf, cat_app, List.length_append, List.length_cons, List.length_nil]; omega))
  | comm d b =>
    cases b with
    | true =>
      unfold step at h
      simp only [] at h
      repeat' split at h
      all_goals (first | (cases h; done) | (simp only [Sum.inl.injEq, Prod.mk.injEq] at h; obtain ⟨rfl, rfl, rfl⟩ := h; simp only [pend, wOf, List.length_append, List.length_cons, List.length_nil]; omega))
    | false =>
      unfold step commAfter at h
      simp only [] at h
      by_cases c1 : foldAt (c :: l) = true
      · rw [if_pos c1] at h
        have := tail_len c1
        simp only [Sum.inl.injEq, Prod.mk.injEq] at h
        obtain ⟨rfl, rfl, rfl⟩ := h
        simp only [pend, wOf]
        omega
      · rw [if_neg c1] at h
        generalize (if c = 40 then d + 1 else if c = 41 then d - 1 else d) = d' at h
        repeat' split at h
        all_goals (first | (cases h; done) | (simp only [Sum.inl.injEq, Prod.mk.injEq] at h; obtain ⟨rfl, rfl, rfl⟩ := h; simp only [pend, wOf, List.length_nil]; omega))
theorem scan_bound : ∀ (k : Nat) (acc : List Tok) (st : Sc) (l : Bytes), l.length ≤ k →
    (scan k acc st l).1.length ≤ acc.length + pend st + l.length ∧ (cat (scan k acc st l).1).length ≤ (cat acc).length + (wOf st).length + l.length
  | k, acc, st, [], _ => by
    have e : scan k acc st [] = endOf acc st := by cases k <;> rfl
    rw [e]
    cases st <;> simp [endOf, pend, wOf, cat]
  | 0, acc, st, c :: l, h => by simp at h
  | k + 1, acc, st, c :: l, h => by
    rw [scan]
    simp only [List.length_cons] at h
    cases hs : step acc st c l with
    | inr e => simp [cat]
    | inl x =>
      obtain ⟨a, t, r⟩ := x
      have h1 := step_bound hs
      have h2 := step_le hs
      have ih := scan_bound k a t r (by omega)
      simp only [List.length_cons]
      omega
theorem scanL_bound (l : Bytes) : (scanL [] .out l).1.length ≤ l.length ∧ (cat (scanL [] .out l).1).length ≤ l.length := by
  have := scan_bound l.length [] .out l (Nat.le_refl _)
  unfold scanL
  simp only [List.length_nil, pend, wOf, cat, List.flatMap_nil] at this ⊢
  omega
end Go.Proofs.YtoikneogdbdplaaDoor.Pl
namespace Go.Proofs.YtoikneogdbdplaaDoor.Fn
open Go.RowKit Go.Proofs.YtoikneogdbdplaaDoorW.PrintWords Go.Proofs.YtoikneogdbdplaaDoorW.PrintLast Go.Proofs.YtoikneogdbdplaaDoorW.PrintMore
attribute [local go_sem] max2_int min2_int max_two min_two max_three min_three max_four min_four
set_option linter.unusedVariables false
set_option linter.unusedSimpArgs false

end Go.Proofs.YtoikneogdbdplaaDoor.Fn
set_option linter.unusedVariables false
namespace Go.Proofs.YtoikneogdbdplaaDoor.Pl
open Go.RowKit Go.Proofs.YtoikneogdbdplaaDoorW.PrintWords Go.Proofs.YtoikneogdbdplaaDoor.Fn
set_option maxRecDepth 100000 in
theorem works20_at : bulletinlaw20_works.f 300 = some true := by decide +kernel
theorem works20 (k : Nat) (hk : 300 ≤ k) : bulletinlaw20_works.f k = some true := mono_up bulletinlaw20_works.mono works20_at k hk
end Go.Proofs.YtoikneogdbdplaaDoor.Pl
set_option linter.unusedVariables false
set_option linter.unusedSimpArgs false
namespace Go.Proofs.YtoikneogdbdplaaDoor.Pl
open Go.RowKit Go.Proofs.YtoikneogdbdplaaDoorW.PrintWords Go.Proofs.YtoikneogdbdplaaDoor.Fn

/-! Layer 20: a body's type, over lists of bytes; the program's computes it. -/
def pcs (acc : List Bytes) (w : Bytes) : List Tok → List Bytes
  | [] => acc ++ [w]
  | t :: l => if isT t [59] = true then pcs (acc ++ [w]) [] l else pcs acc (w ++ t.2) l
def cutL (c : UInt8) (l : Bytes) : Bytes × Bytes × Bool := if Lib.indexByte l c < 0 then (l, [], false) else (l.take (Lib.indexByte l c).toNat, l.drop ((Lib.indexByte l c).toNat + 1), true)
theorem cut1_is (c : UInt8) (s : ByteArray) (hs : s.size ≤ 1000000000) : strings_Cut.f s ⟨#[c]⟩ = some (str (cutL c (bs s)).1, str (cutL c (bs s)).2.1, (cutL c (bs s)).2.2) := by
  unfold strings_Cut.f
  rw [if_pos (by omega)]
  have e : Lib.cut s.data.toList [c] = cutL c (bs s) := by
    unfold Lib.cut cutL
    rw [Lib.index_one]
    show (if 0 ≤ Lib.indexByte (bs s) c then _ else _) = _
    by_cases h : Lib.indexByte (bs s) c < 0
    · rw [if_neg (by omega), if_pos h]; rfl
    · rw [if_pos (by omega), if_neg h]; rfl
  show some (str (Lib.cut s.data.toList [c]).1, str (Lib.cut s.data.toList [c]).2.1, (Lib.cut s.data.toList [c]).2.2) = _
  rw [e]
def hasB (c : UInt8) (l : Bytes) : Bool := decide (0 ≤ Lib.indexByte l c)
theorem contains1_is (c : UInt8) (s : ByteArray) (hs : s.size ≤ 1000000000) : strings_Contains.f s ⟨#[c]⟩ = some (hasB c (bs s)) := by
  unfold strings_Contains.f
  rw [if_pos (by omega)]
  show some (decide (0 ≤ Lib.index s.data.toList [c])) = _
  rw [Lib.index_one]
  rfl
def kindL (p : Bytes) : Bool := (cutL 47 p).2.2 && (!(cutL 47 p).1.isEmpty && (!(cutL 47 p).2.1.isEmpty && (!hasB 47 (cutL 47 p).2.1 && atomL p)))
def paramL (p : Bytes) : Option (Bytes × Bytes) := if (cutL 61 p).2.2 = true then (if atomL (cutL 61 p).1 = true then some (fold (cutL 61 p).1, (cutL 61 p).2.1) else none) else none
def paramsL : List Bytes → Option (List (Bytes × Bytes))
  | [] => some []
  | p :: l => (paramL p).bind fun x => (paramsL l).bind fun r => some (x :: r)
def typeL : List Bytes → Option (Bytes × List (Bytes × Bytes))
  | [] => some ([], [])
  | p :: l => if kindL p = true then (paramsL l).bind fun r => some (fold p, r) else none
def readTypeL (s : Bytes) : Option (Bytes × List (Bytes × Bytes)) := if (scanL [] .out s).2 = 0 then typeL (pcs [] [] (scanL [] .out s).1) else none
def par158 (x : Bytes × Bytes) : S104 := ⟨str x.1, str x.2⟩
def resP : Option (Bytes × List (Bytes × Bytes)) → ByteArray × List S104 × Int
  | none => (str [], [], 200)
  | some r => (str r.1, r.2.map par158, 0)
theorem cutL_len (c : UInt8) (l : Bytes) : (cutL c l).1.length ≤ l.length ∧ (cutL c l).2.1.length ≤ l.length := by
  unfold cutL
  split
  · simp
  · simp only [List.length_take, List.length_drop]; omega
theorem isAtom_L (s : ByteArray) : isAtom s = atomL (bs s) := rfl
theorem mimekind_is (s : ByteArray) (hs : s.size ≤ 1000000) (k : Nat) (hk : s.size + 1 ≤ k) : mime_kind.f k s = some (kindL (bs s)) := by
  have hl := cutL_len 47 (bs s)
  rw [bs_length] at hl
  unfold mime_kind.f
  rw [cut1_is 47 s (by omega), Option.bind_some]
  unfold kindL
  simp only []
  rw [toList_str, toList_str]
  cases h1 : (cutL 47 (bs s)).2.2 with
  | false => rfl
  | true =>
    rw [if_pos rfl]
    cases h2 : (cutL 47 (bs s)).1 with
    | nil => rfl
    | cons a l =>
      rw [if_neg (by simp)]
      cases h3 : (cutL 47 (bs s)).2.1 with
      | nil => rfl
      | cons b m =>
        rw [if_neg (by simp), ← h3, contains1_is 47 _ (by rw [str_size]; omega), Option.bind_some, bs_str]
        cases h4 : hasB 47 (cutL 47 (bs s)).2.1 with
        | true => rw [if_pos rfl, h3]; rfl
        | false => rw [if_neg (by decide), lexIsAtom_is s (by omega) k hk, isAtom_L, h3]; rfl
theorem rd181_drop {l : List Tok} {i : Nat} {t : Tok} {r : List Tok} (h : l.drop i = t :: r) : rd_T136 (l.map tok142) (i : Int) = tok142 t := by
  have h1 : l[i]? = some t := by
    have := congrArg List.head? h
    rw [List.head?_drop] at this
    exact this
  unfold rd_T136
  rw [List.getD_eq_getElem?_getD, List.getElem?_map]
  simp [h1]
theorem pieces_l0 (T : List Tok) (hT : T.length ≤ 1000000) : ∀ (r : List Tok) (i k : Nat) (acc : List Bytes) (w : Bytes), T.drop i = r → r.length < k → acc.length ≤ i → w.length + (cat r).length ≤ 1000000 →
    mime_pieces.l0 k ((acc ++ [w]).map str) (T.map tok142) (T.length : Int) (i : Int) = some ((pcs acc w r).map str)
  | [], i, k, acc, w, hd, hk, ha, hw => by
    obtain ⟨k, rfl⟩ : ∃ j, k = j + 1 := ⟨k - 1, by omega⟩
    have : T.length ≤ i := by
      have := congrArg List.length hd
      rw [List.length_drop, List.length_nil] at this; omega
    rw [mime_pieces.l0, if_neg (by omega)]
    rfl
  | t :: r, i, k, acc, w, hd, hk, ha, hw => by
    obtain ⟨k, rfl⟩ : ∃ j, k = j + 1 := ⟨k - 1, by omega⟩
    obtain ⟨h1, h2⟩ := dropS_lt hd
    simp only [List.length_cons] at hk
    have hc : (cat (t :: r)).length = t.2.length + (cat r).length := by simp [cat]
    rw [mime_pieces.l0, if_pos (by omega), if_pos (by omega), if_pos (by rw [List.length_map]; omega), rd181_drop hd]
    have hcond : ((tok142 t).f0 == 3 && (tok142 t).f1.toList == ([59] : List UInt8)) = isT t [59] := by
      show (t.1 == 3 && (str t.2).toList == ([59] : List UInt8)) = _
      rw [toList_str]; rfl
    rw [hcond, pcs]
    cases hq : isT t [59] with
    | true =>
      rw [if_pos rfl, if_pos rfl, if_pos (by simp; omega), wrap_succ i (by omega)]
      rw [show (acc ++ [w]).map str ++ [(⟨#[]⟩ : ByteArray)] = ((acc ++ [w]) ++ [[]]).map str by simp; rfl]
      exact pieces_l0 T hT r (i + 1) k (acc ++ [w]) [] h2 (by omega) (by simp; omega) (by simp only [List.length_nil]; omega)
    | false =>
      rw [if_neg (show ¬ (false = true) by decide), if_neg (show ¬ (false = true) by decide)]
      have hlen : (((acc ++ [w]).map str).length : Int) - 1 = (acc.length : Int) := by simp
      have hw1 : wrap64 ((((acc ++ [w]).map str).length : Int) - 1) = (acc.length : Int) := by rw [hlen, wrap_id (by omega) (by omega)]
      have hrd : rdOf ByteArray.empty ((acc ++ [w]).map str) (acc.length : Int) = str w := rdS_drop (r := []) (by simp)
      rw [hw1, hrd, if_pos (by omega), if_pos (by simp only [List.length_map, List.length_append, List.length_cons, List.length_nil]; omega), if_pos (by rw [str_size]; show w.length + (str t.2).size ≤ _; rw [str_size]; omega), wrap_succ i (by omega)]
      rw [show (tok142 t).f1 = str t.2 from rfl, str_app, Int.toNat_natCast]
      rw [show ((acc ++ [w]).map str).set acc.length (str (w ++ t.2)) = (acc ++ [w ++ t.2]).map str by simp [List.set_append]]
      exact pieces_l0 T hT r (i + 1) k acc (w ++ t.2) h2 (by omega) (by omega) (by rw [List.length_append]; omega)
theorem pieces_is (T : List Tok) (hT : T.length ≤ 1000000) (hc : (cat T).length ≤ 1000000) (k : Nat) (hk : T.length < k) : mime_pieces.f k (T.map tok142) = some ((pcs [] [] T).map str) := by
  have := pieces_l0 T hT T 0 k [] [] (by simp) hk (by simp) (by simp only [List.length_nil]; omega)
  unfold mime_pieces.f
  rw [List.length_map]
  exact this
theorem pcs_bound : ∀ (T : List Tok) (acc : List Bytes) (w : Bytes) (m : Nat), w.length + (cat T).length ≤ m → (∀ x ∈ acc, x.length ≤ m) → (∀ x ∈ pcs acc w T, x.length ≤ m) ∧ (pcs acc w T).length ≤ acc.length + T.length + 1
  | [], acc, w, m, h, ha => by
    rw [pcs]
    refine ⟨fun x hx => ?_, by simp⟩
    rcases List.mem_append.1 hx with h1 | h1
    · exact ha x h1
    · rw [List.mem_singleton.1 h1]; omega
  | t :: T, acc, w, m, h, ha => by
    have hc : (cat (t :: T)).length = t.2.length + (cat T).length := by simp [cat]
    rw [pcs]
    split
    · have := pcs_bound T (acc ++ [w]) [] m (by simp only [List.length_nil]; omega) (fun x hx => by
        rcases List.mem_append.1 hx with h1 | h1
        · exact ha x h1
        · rw [List.mem_singleton.1 h1]; omega)
      refine ⟨this.1, Nat.le_trans this.2 ?_⟩
      simp only [List.length_append, List.length_cons, List.length_nil]; omega
    · have := pcs_bound T acc (w ++ t.2) m (by rw [List.length_append]; omega) ha
      refine ⟨this.1, Nat.le_trans this.2 ?_⟩
      simp only [List.length_cons]; omega
theorem readT_l0 (P : List Bytes) (hP : P.length ≤ 1000000) (hx : ∀ x ∈ P, x.length ≤ 1000000) (d : Bytes) : ∀ (r : List Bytes) (i k : Nat) (out : List (Bytes × Bytes)), P.drop (i + 1) = r → r.length + 1000100 ≤ k → out.length ≤ i →
    mime_ReadType.l0 k (P.map str) (P.length : Int) ((i + 1 : Nat) : Int) (str d) (out.map par158) = some (resP ((paramsL r).bind fun q => some (d, out ++ q)))
  | [], i, k, out, hd, hk, ho => by
    obtain ⟨k, rfl⟩ : ∃ j, k = j + 1 := ⟨k - 1, by omega⟩
    have : P.length ≤ i + 1 := by
      have := congrArg List.length hd
      rw [List.length_drop, List.length_nil] at this; omega
    rw [mime_ReadType.l0, if_neg (by omega)]
    simp [paramsL, resP]
  | p :: r, i, k, out, hd, hk, ho => by
    obtain ⟨k, rfl⟩ : ∃ j, k = j + 1 := ⟨k - 1, by omega⟩
    obtain ⟨h1, h2⟩ := dropS_lt hd
    simp only [List.length_cons] at hk
    have hp : p.length ≤ 1000000 := hx p (List.mem_of_mem_drop (by rw [hd]; simp))
    have hl := cutL_len 61 p
    rw [mime_ReadType.l0, if_pos (by omega), if_pos (by omega), if_pos (by rw [List.length_map]; omega), if_neg (by omega), rdS_drop hd, cut1_is 61 _ (by rw [str_size]; omega), Option.bind_some, bs_str, paramsL, paramL]
    cases h3 : (cutL 61 p).2.2 with
    | false => rw [if_neg (by decide), if_neg (by decide)]; rfl
    | true =>
      rw [if_pos rfl, if_pos rfl]
      rw [lexIsAtom_is _ (by rw [str_size]; omega) k (by rw [str_size]; omega), Option.bind_some, isAtom_L, bs_str]
      cases h4 : atomL (cutL 61 p).1 with
      | false => rw [if_neg (by decide), if_neg (by decide)]; rfl
      | true =>
        rw [if_pos rfl, if_pos rfl, glyphFold_is _ (by rw [str_size]; omega), Option.bind_some, bs_str, if_pos (by rw [List.length_map]; omega), wrap_succ (i + 1) (by omega)]
        have := readT_l0 P hP hx d r (i + 1) k (out ++ [(fold (cutL 61 p).1, (cutL 61 p).2.1)]) h2 (by omega) (by simp; omega)
        rw [List.map_append, List.map_cons, List.map_nil] at this
        refine Eq.trans this ?_
        cases paramsL r <;> simp
theorem readType_is (s : ByteArray) (hs : s.size ≤ 50000) (k : Nat) (hk : 3000000 ≤ k) : mime_ReadType.f k s = some (resP (readTypeL (bs s))) := by
  have hb := scanL_bound (bs s)
  rw [bs_length] at hb
  unfold mime_ReadType.f readTypeL
  rw [lexScan_is s (by omega) k (by omega), Option.bind_some]
  by_cases hz : (scanL [] .out (bs s)).2 = 0
  · rw [if_pos hz, if_pos hz, pieces_is _ (by omega) (by omega) k (by omega), Option.bind_some]
    have hq := pcs_bound (scanL [] .out (bs s)).1 [] [] 50000 (by simp only [List.length_nil]; omega) (by simp)
    generalize pcs [] [] (scanL [] .out (bs s)).1 = P at hq
    obtain ⟨k, rfl⟩ : ∃ j, k = j + 1 := ⟨k - 1, by omega⟩
    cases P with
    | nil => rfl
    | cons p r =>
      have hp := hq.1 p (by simp)
      simp only [List.length_cons, List.length_nil] at hq
      have hrd : rdOf ByteArray.empty ((p :: r).map str) 0 = str p := rfl
      rw [mime_ReadType.l0, if_pos (by simp only [List.length_map, List.length_cons]; omega), if_pos (by omega), if_pos (by simp only [List.length_map, List.length_cons]; omega), if_pos rfl, hrd, mimekind_is _ (by rw [str_size]; omega) k (by rw [str_size]; omega), Option.bind_some, bs_str, typeL]
      cases hK : kindL p with
      | false => rw [if_neg (by decide), if_neg (by decide)]; rfl
      | true =>
        rw [if_pos rfl, if_pos rfl, glyphFold_is _ (by rw [str_size]; omega), Option.bind_some, bs_str]
        have := readT_l0 (p :: r) (by simp only [List.length_cons]; omega) (fun x hx => by have := hq.1 x hx; omega) (fold p) r 0 k [] rfl (by omega) (by simp)
        rw [List.length_map, show wrap64 ((0 : Int) + 1) = ((0 + 1 : Nat) : Int) from wrap_succ 0 (by decide)]
        simp only [List.nil_append] at this
        exact this
  · rw [if_neg hz, if_neg hz]; rfl
/-! Words and values. -/
def wordV (v : Bytes) : Bytes := if (atomL v && (!hasB 61 v && (!hasB 47 v && !hasB 63 v))) = true then v else quote v
theorem wordV_len (v : Bytes) : (wordV v).length ≤ 2 * v.length + 2 := by
  unfold wordV
  split
  · omega
  · exact quote_length v
theorem mimeword_is (s : ByteArray) (hs : s.size ≤ 1000000) (k : Nat) (hk : 2 * s.size + 1 ≤ k) : mime_word.f k s = some (str (wordV (bs s))) := by
  unfold mime_word.f wordV
  rw [lexIsAtom_is s (by omega) k (by omega), Option.bind_some, isAtom_L, contains1_is 61 s (by omega), contains1_is 47 s (by omega), contains1_is 63 s (by omega), lexQuote_is s (by omega) k (by omega)]
  simp only [Option.bind_some]
  cases atomL (bs s) <;> cases hasB 61 (bs s) <;> cases hasB 47 (bs s) <;> cases hasB 63 (bs s) <;> simp [str_bs]
def par1 (x : Bytes × Bytes) : Bytes := 59 :: 32 :: (x.1 ++ (61 :: wordV x.2))
def typeText (d : Bytes) (l : List (Bytes × Bytes)) : Bytes := d ++ l.flatMap par1
def valueL (l : List (Bytes × Bytes)) (name : Bytes) : Option Bytes := (l.find? fun x => x.1 == fold name).map (·.2)
def resV : Option Bytes → ByteArray × Bool
  | none => (str [], false)
  | some v => (str v, true)
theorem rd158_drop {l : List (Bytes × Bytes)} {i : Nat} {t : Bytes × Bytes} {r : List (Bytes × Bytes)} (h : l.drop i = t :: r) : rd_T104 (l.map par158) (i : Int) = par158 t := by
  have h1 : l[i]? = some t := by
    have := congrArg List.head? h
    rw [List.head?_drop] at this
    exact this
  unfold rd_T104
  rw [List.getD_eq_getElem?_getD, List.getElem?_map]
  simp [h1]
theorem value_l0 (T : List (Bytes × Bytes)) (hT : T.length ≤ 1000000) (n : ByteArray) (hn : n.size ≤ 1000000) : ∀ (r : List (Bytes × Bytes)) (i k : Nat), T.drop i = r → r.length < k →
    mime_Type_Value.l0 k n (T.map par158) (T.length : Int) (i : Int) = some (resV (valueL r (bs n)))
  | [], i, k, hd, hk => by
    obtain ⟨k, rfl⟩ : ∃ j, k = j + 1 := ⟨k - 1, by omega⟩
    have : T.length ≤ i := by
      have := congrArg List.length hd
      rw [List.length_drop, List.length_nil] at this; omega
    rw [mime_Type_Value.l0, if_neg (by omega)]
    rfl
  | t :: r, i, k, hd, hk => by
    obtain ⟨k, rfl⟩ : ∃ j, k = j + 1 := ⟨k - 1, by omega⟩
    obtain ⟨h1, h2⟩ := dropS_lt hd
    simp only [List.length_cons] at hk
    rw [mime_Type_Value.l0, if_pos (by omega), if_pos (by omega), if_pos (by rw [List.length_map]; omega), glyphFold_is n (by omega), Option.bind_some, rd158_drop hd]
    show (if (str t.1).toList = (str (fold (bs n))).toList then _ else _) = _
    rw [toList_str, toList_str]
    unfold valueL
    by_cases he : t.1 = fold (bs n)
    · rw [if_pos he, List.find?_cons_of_pos (by simpa using he)]; rfl
    · rw [if_neg he, List.find?_cons_of_neg (by simpa using he), wrap_succ i (by omega)]
      exact value_l0 T hT n hn r (i + 1) k h2 (by omega)
theorem value_is (d : ByteArray) (T : List (Bytes × Bytes)) (hT : T.length ≤ 1000000) (n : ByteArray) (hn : n.size ≤ 1000000) (k : Nat) (hk : T.length < k) : mime_Type_Value.f k d (T.map par158) n = some (resV (valueL T (bs n))) := by
  unfold mime_Type_Value.f
  rw [List.length_map]
  exact value_l0 T hT n hn T 0 k rfl hk
theorem par1_len (x : Bytes × Bytes) : (par1 x).length = x.1.length + (wordV x.2).length + 3 := by
  unfold par1
  simp only [List.length_cons, List.length_append]; omega
theorem text_l0 (T : List (Bytes × Bytes)) (hT : T.length ≤ 1000000) (hx : ∀ x ∈ T, x.1.length ≤ 1000000 ∧ x.2.length ≤ 1000000) : ∀ (r : List (Bytes × Bytes)) (i k : Nat) (s : Bytes), T.drop i = r → r.length + 2000010 ≤ k → s.length ≤ 1000000 + i * 4000000 →
    mime_Type_Text.l0 k (str s) (T.map par158) (T.length : Int) (i : Int) = some (str (s ++ r.flatMap par1))
  | [], i, k, s, hd, hk, hz => by
    obtain ⟨k, rfl⟩ : ∃ j, k = j + 1 := ⟨k - 1, by omega⟩
    have : T.length ≤ i := by
      have := congrArg List.length hd
      rw [List.length_drop, List.length_nil] at this; omega
    rw [mime_Type_Text.l0, if_neg (by omega)]
    simp
  | t :: r, i, k, s, hd, hk, hz => by
    obtain ⟨k, rfl⟩ : ∃ j, k = j + 1 := ⟨k - 1, by omega⟩
    obtain ⟨h1, h2⟩ := dropS_lt hd
    simp only [List.length_cons] at hk
    obtain ⟨hp1, hp2⟩ := hx t (List.mem_of_mem_drop (by rw [hd]; simp))
    have hwl := wordV_len t.2
    have hpl := par1_len t
    rw [mime_Type_Text.l0, if_pos (by omega), if_pos (by omega), if_pos (by rw [List.length_map]; omega), rd158_drop hd]
    have f0 : (par158 t).f0 = str t.1 := rfl
    have f1 : (par158 t).f1 = str t.2 := rfl
    have e1 : (⟨#[59, 32]⟩ : ByteArray) = str [59, 32] := rfl
    have e2 : (⟨#[61]⟩ : ByteArray) = str [61] := rfl
    rw [f0, f1, e1, e2, str_app, str_app, mimeword_is _ (by rw [str_size]; omega) k (by rw [str_size]; omega), bs_str, Option.bind_some, str_app]
    have ep : [59, 32] ++ t.1 ++ [61] ++ wordV t.2 = par1 t := by unfold par1; simp
    rw [ep, str_app, if_pos (by rw [str_size]; omega), if_pos (by rw [str_size]; simp only [List.length_append, List.length_cons, List.length_nil]; omega),
      if_pos (by rw [str_size, str_size]; simp only [List.length_append, List.length_cons, List.length_nil]; omega), if_pos (by rw [str_size, str_size]; omega), wrap_succ i (by omega)]
    have := text_l0 T hT hx r (i + 1) k (s ++ par1 t) h2 (by omega) (by rw [List.length_append]; omega)
    rw [this, List.flatMap_cons, List.append_assoc]
theorem text_is20 (d : Bytes) (hd : d.length ≤ 1000000) (T : List (Bytes × Bytes)) (hT : T.length ≤ 1000000) (hx : ∀ x ∈ T, x.1.length ≤ 1000000 ∧ x.2.length ≤ 1000000) (k : Nat) (hk : T.length + 2000010 ≤ k) : mime_Type_Text.f k (str d) (T.map par158) = some (str (typeText d T)) := by
  unfold mime_Type_Text.f
  rw [List.length_map]
  exact text_l0 T hT hx T 0 k d rfl hk (by omega)
end Go.Proofs.YtoikneogdbdplaaDoor.Pl
set_option linter.unusedVariables false
namespace Go.Proofs.YtoikneogdbdplaaDoor.Pl
open Go.RowKit Go.Proofs.YtoikneogdbdplaaDoorW.PrintWords Go.Proofs.YtoikneogdbdplaaDoor.Fn

/-! Layer 13, the document's: the address that tokens are. -/
theorem rd148 {l : List Tok} {i : Nat} {t : Tok} {r : List Tok} (h : l.drop i = t :: r) : rd_T109 (l.map tok148) (i : Int) = tok148 t := by
  have h1 : l[i]? = some t := by
    have := congrArg List.head? h
    rw [List.head?_drop] at this
    exact this
  unfold rd_T109
  rw [List.getD_eq_getElem?_getD, List.getElem?_map]
  simp [h1]
end Go.Proofs.YtoikneogdbdplaaDoor.Pl
