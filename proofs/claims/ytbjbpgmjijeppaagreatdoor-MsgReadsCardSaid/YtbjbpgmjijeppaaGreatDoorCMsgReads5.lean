/- A part of the proof of this sentence: The message that any bytes are, or why there is none, and how it is written, are as the document has them; the tables of unicode/utf8 are as the program's text lays them. -/
import Derived.Test.YtbjbpgmjijeppaaGreatDoorCMsgReads4
namespace Go.Proofs.YtbjbpgmjijeppaaGreatDoor.Fn
open Go.RowKit Go.Proofs.YtbjbpgmjijeppaaGreatDoorW.PrintWords Go.Proofs.YtbjbpgmjijeppaaGreatDoorW.PrintLast Go.Proofs.YtbjbpgmjijeppaaGreatDoorW.PrintMore
attribute [local go_sem] max2_int min2_int max_two min_two max_three min_three max_four min_four
set_option linter.unusedVariables false
set_option linter.unusedSimpArgs false

def bulletinlaw16_MsgReads.f (k : Nat) (a0 : ByteArray) : Option (Bool) := if (a0.size : Int) > 5000 then ((bulletinlaw16_works.f k).bind fun t353 => (some t353)) else ((msg_Parse.f k a0).bind fun bt354 => ((bulletinref16_Parse.f k a0).bind fun bt360 => ((bulletinlaw16_Same.f k bt354.1 bt354.2.1 bt360.1 bt360.2.1).bind fun t366 => (if t366 = true then (if bt354.2.2 = bt360.2.2 then ((msg_Message_Text.f bt354.1 bt354.2.1).bind fun t367 => ((bulletinref16_Text.f k bt360.1 bt360.2.1).bind fun t368 => (if t367.toList = t368.toList then ((bulletinlaw16_works.f k).bind fun t369 => (some t369)) else (some false)))) else (some false)) else (some false)))))
def bulletinlaw16_MsgReads.T5 : Bool × List (List Nat × List Nat) := (true, [([], []), ([], []), ([0, 1], [0, 1]), ([2, 2], [2]), ([3], [3]), ([3], [3]), ([4, 5, 3], [3, 4, 5]), ([3, 6], [3, 6]), ([7, 3], [7]), ([8], [8]), ([9, 8, 8], [8, 9]), ([8], [8]), ([11, 10, 8], [8, 11]), ([10, 12, 8], [8, 10, 12]), ([8, 13], [8, 13]), ([14, 12], [14]), ([15, 15], [15]), ([15, 16], [15, 16]), ([17, 16, 0, 1, 2, 3, 4, 5, 6, 7, 8, 9, 10, 11, 12, 13, 14, 15, 16, 17], [17])])
def bulletinlaw16_MsgReads.B5 : List Nat := [0, 0, 3, 7, 15, 15, 63, 127, 255, 511, 1023, 511, 4095, 8191, 16383, 32767, 65535, 131071, 262143]
theorem bulletinlaw16_MsgReads.tab5 : rtab .any (opsOf Tryz.f3 5) = bulletinlaw16_MsgReads.T5 := by kernel_rfl
theorem bulletinlaw16_MsgReads.bits5 : waitsOk bulletinlaw16_MsgReads.T5.2 bulletinlaw16_MsgReads.B5 = true := by kernel_rfl
set_option maxHeartbeats 8000000 in
set_option maxRecDepth 100000 in
theorem bulletinlaw16_MsgReads.calls (k : Nat) (a0 : ByteArray) (r : Bool) (w : World) (hG : Glob w) (h : bulletinlaw16_MsgReads.f k a0 = some r) :
  Calls Tryz.prog 3 #[.string a0] w fun e w' => e = .returned (.bool r) ∧ Below w.heap.size w w' := by
 have hu25 := Tryz.underlying25; have hu31 := Tryz.underlying31; have HB := Aside0.mk (Below.refl w.heap.size w); have H : (if (a0.size : Int) > 5000 then ((bulletinlaw16_works.f k).bind fun t353 => (some t353)) else ((msg_Parse.f k a0).bind fun bt354 => ((bulletinref16_Parse.f k a0).bind fun bt360 => ((bulletinlaw16_Same.f k bt354.1 bt354.2.1 bt360.1 bt360.2.1).bind fun t366 => (if t366 = true then (if bt354.2.2 = bt360.2.2 then ((msg_Message_Text.f bt354.1 bt354.2.1).bind fun t367 => ((bulletinref16_Text.f k bt360.1 bt360.2.1).bind fun t368 => (if t367.toList = t368.toList then ((bulletinlaw16_works.f k).bind fun t369 => (some t369)) else (some false)))) else (some false)) else (some false)))))) = some r := h; clear h
 by_cases c2 : (a0.size : Int) > 5000
 ·rw [if_pos c2] at H; have c2b0 : decide (5000 < (a0.size : Int)) = true := decide_eq_true c2; have c2b1 : decide (5000 < a0.size) = true := decide_eq_true (by omega); clear c2; replace H := Option.bind_eq_some_iff.mp H; obtain ⟨t353, A30, H⟩ := H; replace H : (some t353) = some r := H; have A3 := Aside0.mk A30; clear A30; obtain rfl := Option.some.inj H
  go_enter Tryz.func3, Tryz.ntmps3
  go_wp2_with (first | ((with_reducible refine gate_callee (f := 9) rfl ?_); refine goesL_ (some 10) rfl rfl Tryz.func9 (by kernel_rfl) rfl #[] rfl am ?_; (with_reducible refine (bulletinlaw16_works.calls (hG := by first | exact hG | exact Glob.below hG (by first | exact HB.out | (repeat (first | (with_reducible first | exact HB.out | apply below_alloc | apply pw_below_drewN | apply below_drew1 | refine below_set ?_ GE359.out | refine below_set ?_ GE365.out) | exact HB.out))) | exact Glob.drawn hG (d0)) k  t353 _ A3.out).mono ?_); rintro e w4 ⟨rfl, hb⟩; refine ⟨_, rfl, ?_⟩; have n0_ := Aside0.mk (below_step bw hb); clear HB; have HB := n0_; clear n0_; (try clear hb); (try clear hb2); (try clear hk); (try clear hi)))
  go_ret
  exact ⟨ew, bw⟩
 ·rw [if_neg c2] at H; have c2b0 : decide (5000 < (a0.size : Int)) = false := decide_eq_false c2; have c2b1 : decide (5000 < a0.size) = false := decide_eq_false (by omega); clear c2; replace H := Option.bind_eq_some_iff.mp H; obtain ⟨⟨t354, t357, t358⟩, A50, H⟩ := H; replace H : ((bulletinref16_Parse.f k a0).bind fun bt360 => ((bulletinlaw16_Same.f k t354 t357 bt360.1 bt360.2.1).bind fun t366 => (if t366 = true then (if t358 = bt360.2.2 then ((msg_Message_Text.f t354 t357).bind fun t367 => ((bulletinref16_Text.f k bt360.1 bt360.2.1).bind fun t368 => (if t367.toList = t368.toList then ((bulletinlaw16_works.f k).bind fun t369 => (some t369)) else (some false)))) else (some false)) else (some false)))) = some r := H; have A5 := Aside0.mk A50; clear A50; replace H := Option.bind_eq_some_iff.mp H; obtain ⟨⟨t360, t363, t364⟩, A60, H⟩ := H; replace H : ((bulletinlaw16_Same.f k t354 t357 t360 t363).bind fun t366 => (if t366 = true then (if t358 = t364 then ((msg_Message_Text.f t354 t357).bind fun t367 => ((bulletinref16_Text.f k t360 t363).bind fun t368 => (if t367.toList = t368.toList then ((bulletinlaw16_works.f k).bind fun t369 => (some t369)) else (some false)))) else (some false)) else (some false))) = some r := H; have A6 := Aside0.mk A60; clear A60; replace H := Option.bind_eq_some_iff.mp H; obtain ⟨t366, A70, H⟩ := H; replace H : (if t366 = true then (if t358 = t364 then ((msg_Message_Text.f t354 t357).bind fun t367 => ((bulletinref16_Text.f k t360 t363).bind fun t368 => (if t367.toList = t368.toList then ((bulletinlaw16_works.f k).bind fun t369 => (some t369)) else (some false)))) else (some false)) else (some false)) = some r := H; have A7 := Aside0.mk A70; clear A70
  by_cases c8 : t366 = true
  ·subst c8; have H1 : (if t358 = t364 then ((msg_Message_Text.f t354 t357).bind fun t367 => ((bulletinref16_Text.f k t360 t363).bind fun t368 => (if t367.toList = t368.toList then ((bulletinlaw16_works.f k).bind fun t369 => (some t369)) else (some false)))) else (some false)) = some r := by rw [if_pos rfl] at H; exact H
   clear H; have H := H1; clear H1
   by_cases c9 : t358 = t364
   ·rw [if_pos c9] at H; have c9b0 : (t358 == t364) = true := beq_iff_eq.mpr c9; have c9b1 : (t358 != t364) = false := bne_eq_false_iff_eq.mpr c9; clear c9; replace H := Option.bind_eq_some_iff.mp H; obtain ⟨t367, A100, H⟩ := H; replace H : ((bulletinref16_Text.f k t360 t363).bind fun t368 => (if t367.toList = t368.toList then ((bulletinlaw16_works.f k).bind fun t369 => (some t369)) else (some false))) = some r := H; have A10 := Aside0.mk A100; clear A100; replace H := Option.bind_eq_some_iff.mp H; obtain ⟨t368, A110, H⟩ := H; replace H : (if t367.toList = t368.toList then ((bulletinlaw16_works.f k).bind fun t369 => (some t369)) else (some false)) = some r := H; have A11 := Aside0.mk A110; clear A110
    by_cases c12 : t367.toList = t368.toList
    ·rw [if_pos c12] at H; have c12b0 : (t367.toList == t368.toList) = true := beq_iff_eq.mpr c12; have c12b1 : (t367.toList != t368.toList) = false := bne_eq_false_iff_eq.mpr c12; clear c12; replace H := Option.bind_eq_some_iff.mp H; obtain ⟨t369, A130, H⟩ := H; replace H : (some t369) = some r := H; have A13 := Aside0.mk A130; clear A130; obtain rfl := Option.some.inj H
     go_enter Tryz.func3, Tryz.ntmps3
     try go_wp2_with (first | ((with_reducible refine gate_callee (f := 10) rfl ?_); refine goesL_ (some 13) rfl rfl Tryz.func10 (by kernel_rfl) rfl #[.string a0] rfl am ?_; (with_reducible refine (msg_Parse.calls (hG := by first | exact hG | exact Glob.below hG (by first | exact HB.out | (repeat (first | (with_reducible first | exact HB.out | apply below_alloc | apply pw_below_drewN | apply below_drew1 | refine below_set ?_ GE359.out | refine below_set ?_ GE365.out) | exact HB.out))) | exact Glob.drawn hG (d0)) k a0 t354 t357 t358 _ A5.out).mono ?_); rintro e w14 ⟨v355, rfl, ho0, hb⟩; refine ⟨_, rfl, ?_⟩; have n0_ := Aside0.mk (Kd.R_lower ho0 (below_size bw)); have n1_ := Aside0.mk (below_step bw hb); clear HB; have HO356 := n0_; have HB := n1_; clear n0_ n1_; (try clear hb); (try clear hb2); (try clear hk); (try clear hi); (try clear ho0)) | ((with_reducible refine gate_dst (N := 3) rfl ?_); refine box_event ?hg (N := 3) ?hd (cs := #[.slice none 0 0, .string (⟨#[]⟩ : ByteArray)]) (t := 25) ?hr ?_; (case hd => rfl); (case hg => rfl); (case hr => first | (go_simp; done) | (go_simp; rfl)); intro gb359 hg w15 hbox hb; have n0_ := Aside0.mk (Kd.R_below (ra HO356.out) hb); have n1_ := Aside0.mk (below_step bw hb); have n2_ := Aside0.mk (hbox); have n3_ := Aside0.mk ((by rw [hg]; exact (below_size bw) : w.heap.size ≤ gb359)); have n4_ := Aside0.mk ((by rw [hg]; exact (below_size bw) : w.heap.size ≤ gb359)); clear HO356; clear HB; have HO356 := n0_; have HB := n1_; have BK359 := n2_; have GW359 := n3_; have GE359 := n4_; clear n0_ n1_ n2_ n3_ n4_; clear hb hbox hg; obtain ⟨Ao16, co16, eo16⟩ := Kd.R_slice HO356.out; subst eo16; have hcz17_0 : w15.cell? ⟨gb359, 0, none⟩ = some (.slice none 0 0) := (blk_cell BK359.out 0).trans rfl; have hcz17_1 : w15.cell? ⟨gb359, 1, none⟩ = some (.string (⟨#[]⟩ : ByteArray)) := (blk_cell BK359.out 1).trans rfl; have hfz17_0 := blk_frozen BK359.out 0; have hfz17_1 := blk_frozen BK359.out 1) | ((with_reducible refine gate_callee (f := 11) rfl ?_); refine goesL_ (some 18) rfl rfl Tryz.func11 (by kernel_rfl) rfl #[.string a0] rfl am ?_; (with_reducible refine (bulletinref16_Parse.calls k a0 t360 t363 t364 _ A6.out).mono ?_); rintro e w18 ⟨v361, rfl, ho0, hb⟩; refine ⟨_, rfl, ?_⟩; have n0_ := Aside0.mk (Kd.R_below (by (with_reducible repeat (first | apply Kd.R_alloc | apply Kd.R_drewN | apply Kd.R_drew)); exact (Kd.R_mono (Kd.R_far (p := ⟨gb359, 1, none⟩) (Kd.R_far (p := ⟨gb359, 0, none⟩) (Kd.R_types HO356.out BK359.out (by decide)) (fun _ hk => hk.2) (.slice Ao16 t354.length co16)) (fun _ hk => hk.2) (.string t357)) (fun _ h_ => h_.1))) hb); have n1_ := Aside0.mk (Kd.R_lower ho0 (below_size bwS)); have n2_ := Aside0.mk (blk_below (g := gb359) (o := .cells #[.slice Ao16 t354.length co16, .string t357] 25 (0, 0)) (by (with_reducible repeat (first | refine blk_drewN ?_ _ | refine blk_drew ?_ | refine blk_alloc ?_ _)); refine blk_put (cs := #[.slice Ao16 t354.length co16, .string (⟨#[]⟩ : ByteArray)]) ?_ 1 _ rfl; (with_reducible repeat (first | refine blk_drewN ?_ _ | refine blk_drew ?_ | refine blk_alloc ?_ _)); exact blk_put (cs := #[.slice none 0 0, .string (⟨#[]⟩ : ByteArray)]) bk 0 _ rfl) hb); have n3_ := Aside0.mk (below_step bwS hb); clear HO356; clear BK359; clear HB; have HO356 := n0_; have HO362 := n1_; have BK359 := n2_; have HB := n3_; clear n0_ n1_ n2_ n3_; (try clear hb); (try clear hb2); (try clear hk); (try clear hi); (try clear ho0)) | ((with_reducible refine gate_dst (N := 5) rfl ?_); refine box_event ?hg (N := 5) ?hd (cs := #[.slice none 0 0, .string (⟨#[]⟩ : ByteArray)]) (t := 31) ?hr ?_; (case hd => rfl); (case hg => rfl); (case hr => first | (go_simp; done) | (go_simp; rfl)); intro gb365 hg w19 hbox hb; have n0_ := Aside0.mk (Kd.R_below (ra HO356.out) hb); have n1_ := Aside0.mk (Kd.R_below (ra HO362.out) hb); have n2_ := Aside0.mk (blk_below (g := gb359) (o := .cells #[.slice Ao16 t354.length co16, .string t357] 25 (0, 0)) bk hb); have n3_ := Aside0.mk (below_step bwS hb); have n4_ := Aside0.mk (hbox); have n5_ := Aside0.mk ((by rw [hg]; exact (below_size bwS) : w.heap.size ≤ gb365)); have n6_ := Aside0.mk ((by rw [hg]; exact (below_size bwS) : w.heap.size ≤ gb365)); have n7_ := Aside0.mk ((by rw [hg]; exact Nat.ne_of_lt (blk_lt (g := gb359) (o := .cells #[.slice Ao16 t354.length co16, .string t357] 25 (0, 0)) bk) : gb359 ≠ gb365)); have n8_ := Aside0.mk ((by rw [hg]; exact Nat.ne_of_gt (blk_lt (g := gb359) (o := .cells #[.slice Ao16 t354.length co16, .string t357] 25 (0, 0)) bk) : gb365 ≠ gb359)); clear HO356; clear HO362; clear BK359; clear HB; have HO356 := n0_; have HO362 := n1_; have BK359 := n2_; have HB := n3_; have BK365 := n4_; have GW365 := n5_; have GE365 := n6_; have NB359_365 := n7_; have NB365_359 := n8_; clear n0_ n1_ n2_ n3_ n4_ n5_ n6_ n7_ n8_; clear hb hbox hg; obtain ⟨Ao20, co20, eo20⟩ := Kd.R_slice HO362.out; subst eo20; have hnb21 := NB365_359.out; have hnc21 := NB359_365.out; have hcz22_0 : w19.cell? ⟨gb365, 0, none⟩ = some (.slice none 0 0) := (blk_cell BK365.out 0).trans rfl; have hcz22_1 : w19.cell? ⟨gb365, 1, none⟩ = some (.string (⟨#[]⟩ : ByteArray)) := (blk_cell BK365.out 1).trans rfl; have hfz22_0 := blk_frozen BK365.out 0; have hfz22_1 := blk_frozen BK365.out 1))
     have n0_ : Aside0 (Kd.R k46 46 ((w19.setCell ⟨gb365, 0, none⟩ (.slice Ao20 t360.length co20)).setCell ⟨gb365, 1, none⟩ (.string t363)) w.heap.size (fun _ => True) (.slice Ao16 t354.length co16) t354) := ⟨by (with_reducible repeat (first | apply Kd.R_alloc | apply Kd.R_drewN | apply Kd.R_drew)); exact Kd.R_mono (Kd.R_far (p := ⟨gb365, 1, none⟩) (Kd.R_far (p := ⟨gb365, 0, none⟩) (Kd.R_types HO356.out BK365.out (by decide)) (fun _ hk => hk.2) (.slice Ao20 t360.length co20)) (fun _ hk => hk.2) (.string t363)) (fun _ hk => trivial)⟩
     have n1_ : Aside0 (Kd.R k67 67 ((w19.setCell ⟨gb365, 0, none⟩ (.slice Ao20 t360.length co20)).setCell ⟨gb365, 1, none⟩ (.string t363)) w.heap.size (fun _ => True) (.slice Ao20 t360.length co20) t360) := ⟨by (with_reducible repeat (first | apply Kd.R_alloc | apply Kd.R_drewN | apply Kd.R_drew)); exact Kd.R_mono (Kd.R_far (p := ⟨gb365, 1, none⟩) (Kd.R_far (p := ⟨gb365, 0, none⟩) (Kd.R_types HO362.out BK365.out (by decide)) (fun _ hk => hk.2) (.slice Ao20 t360.length co20)) (fun _ hk => hk.2) (.string t363)) (fun _ hk => trivial)⟩
     have n2_ : Aside0 (((w19.setCell ⟨gb365, 0, none⟩ (.slice Ao20 t360.length co20)).setCell ⟨gb365, 1, none⟩ (.string t363)).heap[gb359]? = some (.cells #[.slice Ao16 t354.length co16, .string t357] 25 (0, 0))) := ⟨by (with_reducible repeat (first | refine blk_drewN ?_ _ | refine blk_drew ?_ | refine blk_alloc ?_ _)); refine blk_far ?_ NB359_365.out _; (with_reducible repeat (first | refine blk_drewN ?_ _ | refine blk_drew ?_ | refine blk_alloc ?_ _)); refine blk_far ?_ NB359_365.out _; (with_reducible repeat (first | refine blk_drewN ?_ _ | refine blk_drew ?_ | refine blk_alloc ?_ _)); exact BK359.out⟩
     have n3_ : Aside0 (((w19.setCell ⟨gb365, 0, none⟩ (.slice Ao20 t360.length co20)).setCell ⟨gb365, 1, none⟩ (.string t363)).heap[gb365]? = some (.cells #[.slice Ao20 t360.length co20, .string t363] 31 (0, 0))) := ⟨by (with_reducible repeat (first | refine blk_drewN ?_ _ | refine blk_drew ?_ | refine blk_alloc ?_ _)); refine blk_put (cs := #[.slice Ao20 t360.length co20, .string (⟨#[]⟩ : ByteArray)]) ?_ 1 _ rfl; (with_reducible repeat (first | refine blk_drewN ?_ _ | refine blk_drew ?_ | refine blk_alloc ?_ _)); exact blk_put (cs := #[.slice none 0 0, .string (⟨#[]⟩ : ByteArray)]) bk 0 _ rfl⟩
     have n4_ : Aside0 (Below w.heap.size w ((w19.setCell ⟨gb365, 0, none⟩ (.slice Ao20 t360.length co20)).setCell ⟨gb365, 1, none⟩ (.string t363))) := ⟨bwS⟩
     (try clear HO356)
     (try clear HO362)
     (try clear BK359)
     (try clear BK365)
     (try clear HB)
     generalize ((w19.setCell ⟨gb365, 0, none⟩ (.slice Ao20 t360.length co20)).setCell ⟨gb365, 1, none⟩ (.string t363)) = w23 at n0_ n1_ n2_ n3_ n4_ ⊢
     have HO356 := n0_; have HO362 := n1_; have BK359 := n2_; have BK365 := n3_; have HB := n4_; clear n0_ n1_ n2_ n3_ n4_; have n0_ := Aside0.mk (Kd.R_drew HO356.out); have n1_ := Aside0.mk (Kd.R_drew HO362.out); have n2_ := Aside0.mk (blk_drew BK359.out); have n3_ := Aside0.mk (blk_drew BK365.out); have n4_ := Aside0.mk (below_drew1 HB.out); clear HO356 HO362 BK359 BK365 HB; have HO356 := n0_; have HO362 := n1_; have BK359 := n2_; have BK365 := n3_; have HB := n4_; clear n0_ n1_ n2_ n3_ n4_; refine start_ (n := 19) (S := fun w' => w'.cell? ⟨gb359, 0, none⟩ = some (.slice Ao16 t354.length co16) ∧ w'.cell? ⟨gb359, 1, none⟩ = some (.string t357) ∧ w'.cell? ⟨gb365, 0, none⟩ = some (.slice Ao20 t360.length co20) ∧ w'.cell? ⟨gb365, 1, none⟩ = some (.string t363)) (ds := []) #[false, false, false, false, false, false, false, false, false, false, false, false, false, false, false, false, false, false, false] (by kernel_rfl) rfl rfl ⟨(blk_cell BK359.out 0).trans rfl, (blk_cell BK359.out 1).trans rfl, (blk_cell BK365.out 0).trans rfl, (blk_cell BK365.out 1).trans rfl⟩ (fun hHeld => ?_); refine with_tabW bulletinlaw16_MsgReads.tab5 bulletinlaw16_MsgReads.bits5 (fun HT_ HW_ => ?_)
     generalize w23.drew = w24 at HO356 HO362 BK359 BK365 HB hHeld ⊢
     refine take_ (i := 0) (N := some 21) (v := ?_) (a' := ?_) (bitsL 19 1) rfl rfl (take_ofW HT_.out HW_.out (by kernel_rfl)) (fun _ _ _ h => h) (Or.inl ⟨by rfl, ?_⟩) hHeld ?_ ?_; rotate_left
     ·rintro w' ⟨s0, s1, s2, s3⟩; go_simp; with_reducible rfl
     rotate_left
     ·simp only [Act.put, List.setIfInBounds_toArray, List.set_cons_zero, List.set_cons_succ, i64_w, i32_w]; rfl
     refine take_ (i := 1) (N := some 22) (v := ?_) (a' := ?_) (bitsL 19 3) rfl rfl (take_ofW HT_.out HW_.out (by kernel_rfl)) (fun _ _ _ h => h) (Or.inl ⟨by rfl, ?_⟩) hHeld ?_ ?_; rotate_left
     ·rintro w' ⟨s0, s1, s2, s3⟩; go_simp; with_reducible rfl
     rotate_left
     ·simp only [Act.put, List.setIfInBounds_toArray, List.set_cons_zero, List.set_cons_succ, i64_w, i32_w]; rfl
     refine one_ (i := 2) (N := some 23) (bitsL 19 7) rfl rfl (one_of HT_.out (by kernel_rfl)) (by decide) (fun K hK => ?_); refine goes_ Tryz.func12 (by kernel_rfl) rfl #[.agg #[.slice Ao16 t354.length co16, .string t357], .agg #[.slice Ao20 t360.length co20, .string t363]] (by rfl) rfl rfl am ?_; with_reducible refine (bulletinlaw16_Same.calls k _ _ t354 t357 _ _ t360 t363 true _ ?side1 ?side2 ?side3 ?side4 A7.out).mono ?_
     (case side1 => repeat (first | exact (Kd.R_reads' HO356.out).2.2 | (with_reducible refine Kd.C_alloc ?_ _) | (with_reducible refine Kd.C_drewN ?_ _) | (with_reducible refine Kd.C_drew ?_)))
     (case side2 => exact (Kd.R_reads' HO356.out).2.1)
     (case side3 => repeat (first | exact (Kd.R_reads' HO362.out).2.2 | (with_reducible refine Kd.C_alloc ?_ _) | (with_reducible refine Kd.C_drewN ?_ _) | (with_reducible refine Kd.C_drew ?_)))
     (case side4 => exact (Kd.R_reads' HO362.out).2.1)
     rintro e w25 ⟨rfl, hb⟩; refine ⟨_, rfl, ?_⟩; have n0_ := Aside0.mk (Kd.R_below (ra HO356.out) hb); have n1_ := Aside0.mk (Kd.R_below (ra HO362.out) hb); have n2_ := Aside0.mk (blk_below (g := gb359) (o := .cells #[.slice Ao16 t354.length co16, .string t357] 25 (0, 0)) bk hb); have n3_ := Aside0.mk (blk_below (g := gb365) (o := .cells #[.slice Ao20 t360.length co20, .string t363] 31 (0, 0)) bk hb); have n4_ := Aside0.mk (below_step bwS hb); clear HO356 HO362 BK359 BK365 HB; have HO356 := n0_; have HO362 := n1_; have BK359 := n2_; have BK365 := n3_; have HB := n4_; clear n0_ n1_ n2_ n3_ n4_
     (try clear hb)
     (try clear hb2)
     (try clear hk)
     (try clear hi)
     refine hK.out _ _ ⟨(blk_cell BK359.out 0).trans rfl, (blk_cell BK359.out 1).trans rfl, (blk_cell BK365.out 0).trans rfl, (blk_cell BK365.out 1).trans rfl⟩ (fun hHeld => ?_); clear hK K; refine norm_ (a' := ?_) ?_ ?_; rotate_left
     ·show Act.put _ (some 23) _ = _
      simp only [Act.put, List.setIfInBounds_toArray, List.set_cons_zero, List.set_cons_succ, i64_w, i32_w]; rfl
     refine pure_ (i := 3) (N := some 24) (v := ?_) (a' := ?_) (bitsL 19 15) rfl rfl (any_of HT_.out (by kernel_rfl)) (fun _ _ _ h => h) (Or.inl ⟨by rfl, ?_⟩) ?_ ?_; rotate_left
     ·intro w'; go_simp; with_reducible rfl
     rotate_left
     ·simp only [Act.put, List.setIfInBounds_toArray, List.set_cons_zero, List.set_cons_succ, i64_w, i32_w]; rfl
     refine pure_ (i := 4) (N := some 25) (v := ?_) (a' := ?_) (bitsL 19 31) rfl rfl (any_of HT_.out (by kernel_rfl)) (fun _ _ _ h => h) (Or.inl ⟨by rfl, ?_⟩) ?_ ?_; rotate_left
     ·intro w'; go_simp; with_reducible rfl
     rotate_left
     ·simp only [Act.put, List.setIfInBounds_toArray, List.set_cons_zero, List.set_cons_succ, i64_w, i32_w]; rfl
     refine pure_ (i := 5) (N := some 26) (v := ?_) (a' := ?_) (bitsL 19 63) rfl rfl (any_of HT_.out (by kernel_rfl)) (fun _ _ _ h => h) (Or.inl ⟨by rfl, ?_⟩) ?_ ?_; rotate_left
     ·intro w'; go_simp; with_reducible rfl
     rotate_left
     ·simp only [Act.put, List.setIfInBounds_toArray, List.set_cons_zero, List.set_cons_succ, i64_w, i32_w]; rfl
     refine pure_ (i := 6) (N := some 27) (v := ?_) (a' := ?_) (bitsL 19 127) rfl rfl (any_of HT_.out (by kernel_rfl)) (fun _ _ _ h => h) (Or.inl ⟨by rfl, ?_⟩) ?_ ?_; rotate_left
     ·intro w'; go_simp; with_reducible rfl
     rotate_left
     ·simp only [Act.put, List.setIfInBounds_toArray, List.set_cons_zero, List.set_cons_succ, i64_w, i32_w]; rfl
     refine pure_ (i := 7) (N := some 28) (v := ?_) (a' := ?_) (bitsL 19 255) rfl rfl (any_of HT_.out (by kernel_rfl)) (fun _ _ _ h => h) (Or.inl ⟨by rfl, ?_⟩) ?_ ?_; rotate_left
     ·intro w'; go_simp; with_reducible rfl
     rotate_left
     ·simp only [Act.put, List.setIfInBounds_toArray, List.set_cons_zero, List.set_cons_succ, i64_w, i32_w]; rfl
     refine pure_ (i := 8) (N := some 29) (v := ?_) (a' := ?_) (bitsL 19 511) rfl rfl (any_of HT_.out (by kernel_rfl)) (fun _ _ _ h => h) (Or.inl ⟨by rfl, ?_⟩) ?_ ?_; rotate_left
     ·intro w'; go_simp; with_reducible rfl
     rotate_left
     ·simp only [Act.put, List.setIfInBounds_toArray, List.set_cons_zero, List.set_cons_succ, i64_w, i32_w]; rfl
     refine take_ (i := 9) (N := some 30) (v := ?_) (a' := ?_) (bitsL 19 1023) rfl rfl (take_ofW HT_.out HW_.out (by kernel_rfl)) (fun _ _ _ h => h) (Or.inl ⟨by rfl, ?_⟩) hHeld ?_ ?_; rotate_left
     ·rintro w' ⟨s0, s1, s2, s3⟩; go_simp; with_reducible rfl
     rotate_left
     ·simp only [Act.put, List.setIfInBounds_toArray, List.set_cons_zero, List.set_cons_succ, i64_w, i32_w]; rfl
     refine take_ (i := 11) (N := some 32) (v := ?_) (a' := ?_) (bitsL 19 3071) rfl rfl (take_ofW HT_.out HW_.out (by kernel_rfl)) (fun _ _ _ h => h) (Or.inl ⟨by rfl, ?_⟩) hHeld ?_ ?_; rotate_left
     ·rintro w' ⟨s0, s1, s2, s3⟩; go_simp; with_reducible rfl
     rotate_left
     ·simp only [Act.put, List.setIfInBounds_toArray, List.set_cons_zero, List.set_cons_succ, i64_w, i32_w]; rfl
     refine one_ (i := 10) (N := some 31) (bitsL 19 4095) rfl rfl (one_of HT_.out (by kernel_rfl)) (by decide) (fun K hK => ?_); refine goes_ Tryz.func13 (by kernel_rfl) rfl #[.agg #[.slice Ao16 t354.length co16, .string t357]] (by rfl) rfl rfl am ?_; with_reducible refine (msg_Message_Text.calls _ _ t354 t357 t367 _ ?side1 ?side2 A10.out).mono ?_
     (case side1 => repeat (first | exact (Kd.R_reads' HO356.out).2.2 | (with_reducible refine Kd.C_alloc ?_ _) | (with_reducible refine Kd.C_drewN ?_ _) | (with_reducible refine Kd.C_drew ?_)))
     (case side2 => exact (Kd.R_reads' HO356.out).2.1)
     rintro e w26 ⟨rfl, hb⟩; refine ⟨_, rfl, ?_⟩; have n0_ := Aside0.mk (Kd.R_below (ra HO356.out) hb); have n1_ := Aside0.mk (Kd.R_below (ra HO362.out) hb); have n2_ := Aside0.mk (blk_below (g := gb359) (o := .cells #[.slice Ao16 t354.length co16, .string t357] 25 (0, 0)) bk hb); have n3_ := Aside0.mk (blk_below (g := gb365) (o := .cells #[.slice Ao20 t360.length co20, .string t363] 31 (0, 0)) bk hb); have n4_ := Aside0.mk (below_step bwS hb); clear HO356 HO362 BK359 BK365 HB; have HO356 := n0_; have HO362 := n1_; have BK359 := n2_; have BK365 := n3_; have HB := n4_; clear n0_ n1_ n2_ n3_ n4_
     (try clear hb)
     (try clear hb2)
     (try clear hk)
     (try clear hi)
     refine hK.out _ _ ⟨(blk_cell BK359.out 0).trans rfl, (blk_cell BK359.out 1).trans rfl, (blk_cell BK365.out 0).trans rfl, (blk_cell BK365.out 1).trans rfl⟩ (fun hHeld => ?_); clear hK K; refine norm_ (a' := ?_) ?_ ?_; rotate_left
     ·show Act.put _ (some 31) _ = _
      simp only [Act.put, List.setIfInBounds_toArray, List.set_cons_zero, List.set_cons_succ, i64_w, i32_w]; rfl
     refine one_ (i := 12) (N := some 33) (bitsL 19 8191) rfl rfl (one_of HT_.out (by kernel_rfl)) (by decide) (fun K hK => ?_); refine goes_ Tryz.func14 (by kernel_rfl) rfl #[.agg #[.slice Ao20 t360.length co20, .string t363]] (by rfl) rfl rfl am ?_; with_reducible refine (bulletinref16_Text.calls k _ _ t360 t363 t368 _ ?side1 ?side2 A11.out).mono ?_
     (case side1 => repeat (first | exact (Kd.R_reads' HO362.out).2.2 | (with_reducible refine Kd.C_alloc ?_ _) | (with_reducible refine Kd.C_drewN ?_ _) | (with_reducible refine Kd.C_drew ?_)))
     (case side2 => exact (Kd.R_reads' HO362.out).2.1)
     rintro e w27 ⟨rfl, hb⟩; refine ⟨_, rfl, ?_⟩; have n0_ := Aside0.mk (Kd.R_below (ra HO356.out) hb); have n1_ := Aside0.mk (Kd.R_below (ra HO362.out) hb); have n2_ := Aside0.mk (blk_below (g := gb359) (o := .cells #[.slice Ao16 t354.length co16, .string t357] 25 (0, 0)) bk hb); have n3_ := Aside0.mk (blk_below (g := gb365) (o := .cells #[.slice Ao20 t360.length co20, .string t363] 31 (0, 0)) bk hb); have n4_ := Aside0.mk (below_step bwS hb); clear HO356 HO362 BK359 BK365 HB; have HO356 := n0_; have HO362 := n1_; have BK359 := n2_; have BK365 := n3_; have HB := n4_; clear n0_ n1_ n2_ n3_ n4_
     (try clear hb)
     (try clear hb2)
     (try clear hk)
     (try clear hi)
     refine hK.out _ _ ⟨(blk_cell BK359.out 0).trans rfl, (blk_cell BK359.out 1).trans rfl, (blk_cell BK365.out 0).trans rfl, (blk_cell BK365.out 1).trans rfl⟩ (fun hHeld => ?_); clear hK K; refine norm_ (a' := ?_) ?_ ?_; rotate_left
     ·show Act.put _ (some 33) _ = _
      simp only [Act.put, List.setIfInBounds_toArray, List.set_cons_zero, List.set_cons_succ, i64_w, i32_w]; rfl
     refine pure_ (i := 13) (N := some 34) (v := ?_) (a' := ?_) (bitsL 19 16383) rfl rfl (any_of HT_.out (by kernel_rfl)) (fun _ _ _ h => h) (Or.inl ⟨by rfl, ?_⟩) ?_ ?_; rotate_left
     ·intro w'; go_simp; with_reducible rfl
     rotate_left
     ·simp only [Act.put, List.setIfInBounds_toArray, List.set_cons_zero, List.set_cons_succ, i64_w, i32_w]; rfl
     refine pure_ (i := 14) (N := some 35) (v := ?_) (a' := ?_) (bitsL 19 32767) rfl rfl (any_of HT_.out (by kernel_rfl)) (fun _ _ _ h => h) (Or.inl ⟨by rfl, ?_⟩) ?_ ?_; rotate_left
     ·intro w'; go_simp; with_reducible rfl
     rotate_left
     ·simp only [Act.put, List.setIfInBounds_toArray, List.set_cons_zero, List.set_cons_succ, i64_w, i32_w]; rfl
     refine pure_ (i := 15) (N := some 36) (v := ?_) (a' := ?_) (bitsL 19 65535) rfl rfl (any_of HT_.out (by kernel_rfl)) (fun _ _ _ h => h) (Or.inl ⟨by rfl, ?_⟩) ?_ ?_; rotate_left
     ·intro w'; go_simp; with_reducible rfl
     rotate_left
     ·simp only [Act.put, List.setIfInBounds_toArray, List.set_cons_zero, List.set_cons_succ, i64_w, i32_w]; rfl
     refine one_ (i := 16) (N := some 37) (bitsL 19 131071) rfl rfl (one_of HT_.out (by kernel_rfl)) (by decide) (fun K hK => ?_); refine goes_ Tryz.func9 (by kernel_rfl) rfl #[] (by rfl) rfl rfl am ?_; with_reducible refine (bulletinlaw16_works.calls (hG := by first | exact hG | exact Glob.below hG (by first | exact HB.out | (repeat (first | (with_reducible first | exact HB.out | apply below_alloc | apply pw_below_drewN | apply below_drew1 | refine below_set ?_ GE359.out | refine below_set ?_ GE365.out) | exact HB.out))) | exact Glob.drawn hG (d0)) k  t369 _ A13.out).mono ?_; rintro e w28 ⟨rfl, hb⟩; refine ⟨_, rfl, ?_⟩; have n0_ := Aside0.mk (Kd.R_below (ra HO356.out) hb); have n1_ := Aside0.mk (Kd.R_below (ra HO362.out) hb); have n2_ := Aside0.mk (blk_below (g := gb359) (o := .cells #[.slice Ao16 t354.length co16, .string t357] 25 (0, 0)) bk hb); have n3_ := Aside0.mk (blk_below (g := gb365) (o := .cells #[.slice Ao20 t360.length co20, .string t363] 31 (0, 0)) bk hb); have n4_ := Aside0.mk (below_step bwS hb); clear HO356 HO362 BK359 BK365 HB; have HO356 := n0_; have HO362 := n1_; have BK359 := n2_; have BK365 := n3_; have HB := n4_; clear n0_ n1_ n2_ n3_ n4_
     (try clear hb)
     (try clear hb2)
     (try clear hk)
     (try clear hi)
     refine hK.out _ _ ⟨(blk_cell BK359.out 0).trans rfl, (blk_cell BK359.out 1).trans rfl, (blk_cell BK365.out 0).trans rfl, (blk_cell BK365.out 1).trans rfl⟩ (fun hHeld => ?_); clear hK K; refine norm_ (a' := ?_) ?_ ?_; rotate_left
     ·show Act.put _ (some 37) _ = _
      simp only [Act.put, List.setIfInBounds_toArray, List.set_cons_zero, List.set_cons_succ, i64_w, i32_w]; rfl
     refine pure_ (i := 17) (N := some 38) (v := ?_) (a' := ?_) (bitsL 19 262143) rfl rfl (any_of HT_.out (by kernel_rfl)) (fun _ _ _ h => h) (Or.inl ⟨by rfl, ?_⟩) ?_ ?_; rotate_left
     ·intro w'; go_simp; with_reducible rfl
     rotate_left
     ·simp only [Act.put, List.setIfInBounds_toArray, List.set_cons_zero, List.set_cons_succ, i64_w, i32_w]; rfl
     refine pure_ (i := 18) (N := some 2) (v := ?_) (a' := ?_) (bitsL 19 524287) rfl rfl (any_of HT_.out (by kernel_rfl)) (fun _ _ _ h => h) (Or.inl ⟨by rfl, ?_⟩) ?_ ?_; rotate_left
     ·intro w'; go_simp; with_reducible rfl
     rotate_left
     ·simp only [Act.put, List.setIfInBounds_toArray, List.set_cons_zero, List.set_cons_succ, i64_w, i32_w]; rfl
     refine done_ (done_of HT_.out (by kernel_rfl)) ?_
     try go_wp2
     go_ret
     exact ⟨ew, bwS⟩
    ·rw [if_neg c12] at H; have c12b0 : (t367.toList == t368.toList) = false := beq_eq_false_iff_ne.mpr c12; have c12b1 : (t367.toList != t368.toList) = true := bne_iff_ne.mpr c12; obtain rfl := Option.some.inj H
     go_enter Tryz.func3, Tryz.ntmps3
     try go_wp2_with (first | ((with_reducible refine gate_callee (f := 10) rfl ?_); refine goesL_ (some 13) rfl rfl Tryz.func10 (by kernel_rfl) rfl #[.string a0] rfl am ?_; (with_reducible refine (msg_Parse.calls (hG := by first | exact hG | exact Glob.below hG (by first | exact HB.out | (repeat (first | (with_reducible first | exact HB.out | apply below_alloc | apply pw_below_drewN | apply below_drew1 | refine below_set ?_ GE359.out | refine below_set ?_ GE365.out) | exact HB.out))) | exact Glob.drawn hG (d0)) k a0 t354 t357 t358 _ A5.out).mono ?_); rintro e w29 ⟨v355, rfl, ho0, hb⟩; refine ⟨_, rfl, ?_⟩; have n0_ := Aside0.mk (Kd.R_lower ho0 (below_size bw)); have n1_ := Aside0.mk (below_step bw hb); clear HB; have HO356 := n0_; have HB := n1_; clear n0_ n1_; (try clear hb); (try clear hb2); (try clear hk); (try clear hi); (try clear ho0)) | ((with_reducible refine gate_dst (N := 3) rfl ?_); refine box_event ?hg (N := 3) ?hd (cs := #[.slice none 0 0, .string (⟨#[]⟩ : ByteArray)]) (t := 25) ?hr ?_; (case hd => rfl); (case hg => rfl); (case hr => first | (go_simp; done) | (go_simp; rfl)); intro gb359 hg w30 hbox hb; have n0_ := Aside0.mk (Kd.R_below (ra HO356.out) hb); have n1_ := Aside0.mk (below_step bw hb); have n2_ := Aside0.mk (hbox); have n3_ := Aside0.mk ((by rw [hg]; exact (below_size bw) : w.heap.size ≤ gb359)); have n4_ := Aside0.mk ((by rw [hg]; exact (below_size bw) : w.heap.size ≤ gb359)); clear HO356; clear HB; have HO356 := n0_; have HB := n1_; have BK359 := n2_; have GW359 := n3_; have GE359 := n4_; clear n0_ n1_ n2_ n3_ n4_; clear hb hbox hg; obtain ⟨Ao31, co31, eo31⟩ := Kd.R_slice HO356.out; subst eo31; have hcz32_0 : w30.cell? ⟨gb359, 0, none⟩ = some (.slice none 0 0) := (blk_cell BK359.out 0).trans rfl; have hcz32_1 : w30.cell? ⟨gb359, 1, none⟩ = some (.string (⟨#[]⟩ : ByteArray)) := (blk_cell BK359.out 1).trans rfl; have hfz32_0 := blk_frozen BK359.out 0; have hfz32_1 := blk_frozen BK359.out 1) | ((with_reducible refine gate_callee (f := 11) rfl ?_); refine goesL_ (some 18) rfl rfl Tryz.func11 (by kernel_rfl) rfl #[.string a0] rfl am ?_; (with_reducible refine (bulletinref16_Parse.calls k a0 t360 t363 t364 _ A6.out).mono ?_); rintro e w33 ⟨v361, rfl, ho0, hb⟩; refine ⟨_, rfl, ?_⟩; have n0_ := Aside0.mk (Kd.R_below (by (with_reducible repeat (first | apply Kd.R_alloc | apply Kd.R_drewN | apply Kd.R_drew)); exact (Kd.R_mono (Kd.R_far (p := ⟨gb359, 1, none⟩) (Kd.R_far (p := ⟨gb359, 0, none⟩) (Kd.R_types HO356.out BK359.out (by decide)) (fun _ hk => hk.2) (.slice Ao31 t354.length co31)) (fun _ hk => hk.2) (.string t357)) (fun _ h_ => h_.1))) hb); have n1_ := Aside0.mk (Kd.R_lower ho0 (below_size bwS)); have n2_ := Aside0.mk (blk_below (g := gb359) (o := .cells #[.slice Ao31 t354.length co31, .string t357] 25 (0, 0)) (by (with_reducible repeat (first | refine blk_drewN ?_ _ | refine blk_drew ?_ | refine blk_alloc ?_ _)); refine blk_put (cs := #[.slice Ao31 t354.length co31, .string (⟨#[]⟩ : ByteArray)]) ?_ 1 _ rfl; (with_reducible repeat (first | refine blk_drewN ?_ _ | refine blk_drew ?_ | refine blk_alloc ?_ _)); exact blk_put (cs := #[.slice none 0 0, .string (⟨#[]⟩ : ByteArray)]) bk 0 _ rfl) hb); have n3_ := Aside0.mk (below_step bwS hb); clear HO356; clear BK359; clear HB; have HO356 := n0_; have HO362 := n1_; have BK359 := n2_; have HB := n3_; clear n0_ n1_ n2_ n3_; (try clear hb); (try clear hb2); (try clear hk); (try clear hi); (try clear ho0)) | ((with_reducible refine gate_dst (N := 5) rfl ?_); refine box_event ?hg (N := 5) ?hd (cs := #[.slice none 0 0, .string (⟨#[]⟩ : ByteArray)]) (t := 31) ?hr ?_; (case hd => rfl); (case hg => rfl); (case hr => first | (go_simp; done) | (go_simp; rfl)); intro gb365 hg w34 hbox hb; have n0_ := Aside0.mk (Kd.R_below (ra HO356.out) hb); have n1_ := Aside0.mk (Kd.R_below (ra HO362.out) hb); have n2_ := Aside0.mk (blk_below (g := gb359) (o := .cells #[.slice Ao31 t354.length co31, .string t357] 25 (0, 0)) bk hb); have n3_ := Aside0.mk (below_step bwS hb); have n4_ := Aside0.mk (hbox); have n5_ := Aside0.mk ((by rw [hg]; exact (below_size bwS) : w.heap.size ≤ gb365)); have n6_ := Aside0.mk ((by rw [hg]; exact (below_size bwS) : w.heap.size ≤ gb365)); have n7_ := Aside0.mk ((by rw [hg]; exact Nat.ne_of_lt (blk_lt (g := gb359) (o := .cells #[.slice Ao31 t354.length co31, .string t357] 25 (0, 0)) bk) : gb359 ≠ gb365)); have n8_ := Aside0.mk ((by rw [hg]; exact Nat.ne_of_gt (blk_lt (g := gb359) (o := .cells #[.slice Ao31 t354.length co31, .string t357] 25 (0, 0)) bk) : gb365 ≠ gb359)); clear HO356; clear HO362; clear BK359; clear HB; have HO356 := n0_; have HO362 := n1_; have BK359 := n2_; have HB := n3_; have BK365 := n4_; have GW365 := n5_; have GE365 := n6_; have NB359_365 := n7_; have NB365_359 := n8_; clear n0_ n1_ n2_ n3_ n4_ n5_ n6_ n7_ n8_; clear hb hbox hg; obtain ⟨Ao35, co35, eo35⟩ := Kd.R_slice HO362.out; subst eo35; have hnb36 := NB365_359.out; have hnc36 := NB359_365.out; have hcz37_0 : w34.cell? ⟨gb365, 0, none⟩ = some (.slice none 0 0) := (blk_cell BK365.out 0).trans rfl; have hcz37_1 : w34.cell? ⟨gb365, 1, none⟩ = some (.string (⟨#[]⟩ : ByteArray)) := (blk_cell BK365.out 1).trans rfl; have hfz37_0 := blk_frozen BK365.out 0; have hfz37_1 := blk_frozen BK365.out 1))
     have n0_ : Aside0 (Kd.R k46 46 ((w34.setCell ⟨gb365, 0, none⟩ (.slice Ao35 t360.length co35)).setCell ⟨gb365, 1, none⟩ (.string t363)) w.heap.size (fun _ => True) (.slice Ao31 t354.length co31) t354) := ⟨by (with_reducible repeat (first | apply Kd.R_alloc | apply Kd.R_drewN | apply Kd.R_drew)); exact Kd.R_mono (Kd.R_far (p := ⟨gb365, 1, none⟩) (Kd.R_far (p := ⟨gb365, 0, none⟩) (Kd.R_types HO356.out BK365.out (by decide)) (fun _ hk => hk.2) (.slice Ao35 t360.length co35)) (fun _ hk => hk.2) (.string t363)) (fun _ hk => trivial)⟩
     have n1_ : Aside0 (Kd.R k67 67 ((w34.setCell ⟨gb365, 0, none⟩ (.slice Ao35 t360.length co35)).setCell ⟨gb365, 1, none⟩ (.string t363)) w.heap.size (fun _ => True) (.slice Ao35 t360.length co35) t360) := ⟨by (with_reducible repeat (first | apply Kd.R_alloc | apply Kd.R_drewN | apply Kd.R_drew)); exact Kd.R_mono (Kd.R_far (p := ⟨gb365, 1, none⟩) (Kd.R_far (p := ⟨gb365, 0, none⟩) (Kd.R_types HO362.out BK365.out (by decide)) (fun _ hk => hk.2) (.slice Ao35 t360.length co35)) (fun _ hk => hk.2) (.string t363)) (fun _ hk => trivial)⟩
     have n2_ : Aside0 (((w34.setCell ⟨gb365, 0, none⟩ (.slice Ao35 t360.length co35)).setCell ⟨gb365, 1, none⟩ (.string t363)).heap[gb359]? = some (.cells #[.slice Ao31 t354.length co31, .string t357] 25 (0, 0))) := ⟨by (with_reducible repeat (first | refine blk_drewN ?_ _ | refine blk_drew ?_ | refine blk_alloc ?_ _)); refine blk_far ?_ NB359_365.out _; (with_reducible repeat (first | refine blk_drewN ?_ _ | refine blk_drew ?_ | refine blk_alloc ?_ _)); refine blk_far ?_ NB359_365.out _; (with_reducible repeat (first | refine blk_drewN ?_ _ | refine blk_drew ?_ | refine blk_alloc ?_ _)); exact BK359.out⟩
     have n3_ : Aside0 (((w34.setCell ⟨gb365, 0, none⟩ (.slice Ao35 t360.length co35)).setCell ⟨gb365, 1, none⟩ (.string t363)).heap[gb365]? = some (.cells #[.slice Ao35 t360.length co35, .string t363] 31 (0, 0))) := ⟨by (with_reducible repeat (first | refine blk_drewN ?_ _ | refine blk_drew ?_ | refine blk_alloc ?_ _)); refine blk_put (cs := #[.slice Ao35 t360.length co35, .string (⟨#[]⟩ : ByteArray)]) ?_ 1 _ rfl; (with_reducible repeat (first | refine blk_drewN ?_ _ | refine blk_drew ?_ | refine blk_alloc ?_ _)); exact blk_put (cs := #[.slice none 0 0, .string (⟨#[]⟩ : ByteArray)]) bk 0 _ rfl⟩
     have n4_ : Aside0 (Below w.heap.size w ((w34.setCell ⟨gb365, 0, none⟩ (.slice Ao35 t360.length co35)).setCell ⟨gb365, 1, none⟩ (.string t363))) := ⟨bwS⟩
     (try clear HO356)
     (try clear HO362)
     (try clear BK359)
     (try clear BK365)
     (try clear HB)
     generalize ((w34.setCell ⟨gb365, 0, none⟩ (.slice Ao35 t360.length co35)).setCell ⟨gb365, 1, none⟩ (.string t363)) = w38 at n0_ n1_ n2_ n3_ n4_ ⊢
     have HO356 := n0_; have HO362 := n1_; have BK359 := n2_; have BK365 := n3_; have HB := n4_; clear n0_ n1_ n2_ n3_ n4_; have n0_ := Aside0.mk (Kd.R_drew HO356.out); have n1_ := Aside0.mk (Kd.R_drew HO362.out); have n2_ := Aside0.mk (blk_drew BK359.out); have n3_ := Aside0.mk (blk_drew BK365.out); have n4_ := Aside0.mk (below_drew1 HB.out); clear HO356 HO362 BK359 BK365 HB; have HO356 := n0_; have HO362 := n1_; have BK359 := n2_; have BK365 := n3_; have HB := n4_; clear n0_ n1_ n2_ n3_ n4_; refine start_ (n := 19) (S := fun w' => w'.cell? ⟨gb359, 0, none⟩ = some (.slice Ao31 t354.length co31) ∧ w'.cell? ⟨gb359, 1, none⟩ = some (.string t357) ∧ w'.cell? ⟨gb365, 0, none⟩ = some (.slice Ao35 t360.length co35) ∧ w'.cell? ⟨gb365, 1, none⟩ = some (.string t363)) (ds := []) #[false, false, false, false, false, false, false, false, false, false, false, false, false, false, false, false, false, false, false] (by kernel_rfl) rfl rfl ⟨(blk_cell BK359.out 0).trans rfl, (blk_cell BK359.out 1).trans rfl, (blk_cell BK365.out 0).trans rfl, (blk_cell BK365.out 1).trans rfl⟩ (fun hHeld => ?_); refine with_tabW bulletinlaw16_MsgReads.tab5 bulletinlaw16_MsgReads.bits5 (fun HT_ HW_ => ?_)
     generalize w38.drew = w39 at HO356 HO362 BK359 BK365 HB hHeld ⊢
     refine take_ (i := 0) (N := some 21) (v := ?_) (a' := ?_) (bitsL 19 1) rfl rfl (take_ofW HT_.out HW_.out (by kernel_rfl)) (fun _ _ _ h => h) (Or.inl ⟨by rfl, ?_⟩) hHeld ?_ ?_; rotate_left
     ·rintro w' ⟨s0, s1, s2, s3⟩; go_simp; with_reducible rfl
     rotate_left
     ·simp only [Act.put, List.setIfInBounds_toArray, List.set_cons_zero, List.set_cons_succ, i64_w, i32_w]; rfl
     refine take_ (i := 1) (N := some 22) (v := ?_) (a' := ?_) (bitsL 19 3) rfl rfl (take_ofW HT_.out HW_.out (by kernel_rfl)) (fun _ _ _ h => h) (Or.inl ⟨by rfl, ?_⟩) hHeld ?_ ?_; rotate_left
     ·rintro w' ⟨s0, s1, s2, s3⟩; go_simp; with_reducible rfl
     rotate_left
     ·simp only [Act.put, List.setIfInBounds_toArray, List.set_cons_zero, List.set_cons_succ, i64_w, i32_w]; rfl
     refine one_ (i := 2) (N := some 23) (bitsL 19 7) rfl rfl (one_of HT_.out (by kernel_rfl)) (by decide) (fun K hK => ?_); refine goes_ Tryz.func12 (by kernel_rfl) rfl #[.agg #[.slice Ao31 t354.length co31, .string t357], .agg #[.slice Ao35 t360.length co35, .string t363]] (by rfl) rfl rfl am ?_; with_reducible refine (bulletinlaw16_Same.calls k _ _ t354 t357 _ _ t360 t363 true _ ?side1 ?side2 ?side3 ?side4 A7.out).mono ?_
     (case side1 => repeat (first | exact (Kd.R_reads' HO356.out).2.2 | (with_reducible refine Kd.C_alloc ?_ _) | (with_reducible refine Kd.C_drewN ?_ _) | (with_reducible refine Kd.C_drew ?_)))
     (case side2 => exact (Kd.R_reads' HO356.out).2.1)
     (case side3 => repeat (first | exact (Kd.R_reads' HO362.out).2.2 | (with_reducible refine Kd.C_alloc ?_ _) | (with_reducible refine Kd.C_drewN ?_ _) | (with_reducible refine Kd.C_drew ?_)))
     (case side4 => exact (Kd.R_reads' HO362.out).2.1)
     rintro e w40 ⟨rfl, hb⟩; refine ⟨_, rfl, ?_⟩; have n0_ := Aside0.mk (Kd.R_below (ra HO356.out) hb); have n1_ := Aside0.mk (Kd.R_below (ra HO362.out) hb); have n2_ := Aside0.mk (blk_below (g := gb359) (o := .cells #[.slice Ao31 t354.length co31, .string t357] 25 (0, 0)) bk hb); have n3_ := Aside0.mk (blk_below (g := gb365) (o := .cells #[.slice Ao35 t360.length co35, .string t363] 31 (0, 0)) bk hb); have n4_ := Aside0.mk (below_step bwS hb); clear HO356 HO362 BK359 BK365 HB; have HO356 := n0_; have HO362 := n1_; have BK359 := n2_; have BK365 := n3_; have HB := n4_; clear n0_ n1_ n2_ n3_ n4_
     (try clear hb)
     (try clear hb2)
     (try clear hk)
     (try clear hi)
     refine hK.out _ _ ⟨(blk_cell BK359.out 0).trans rfl, (blk_cell BK359.out 1).trans rfl, (blk_cell BK365.out 0).trans rfl, (blk_cell BK365.out 1).trans rfl⟩ (fun hHeld => ?_); clear hK K; refine norm_ (a' := ?_) ?_ ?_; rotate_left
     ·show Act.put _ (some 23) _ = _
      simp only [Act.put, List.setIfInBounds_toArray, List.set_cons_zero, List.set_cons_succ, i64_w, i32_w]; rfl
     refine pure_ (i := 3) (N := some 24) (v := ?_) (a' := ?_) (bitsL 19 15) rfl rfl (any_of HT_.out (by kernel_rfl)) (fun _ _ _ h => h) (Or.inl ⟨by rfl, ?_⟩) ?_ ?_; rotate_left
     ·intro w'; go_simp; with_reducible rfl
     rotate_left
     ·simp only [Act.put, List.setIfInBounds_toArray, List.set_cons_zero, List.set_cons_succ, i64_w, i32_w]; rfl
     refine pure_ (i := 4) (N := some 25) (v := ?_) (a' := ?_) (bitsL 19 31) rfl rfl (any_of HT_.out (by kernel_rfl)) (fun _ _ _ h => h) (Or.inl ⟨by rfl, ?_⟩) ?_ ?_; rotate_left
     ·intro w'; go_simp; with_reducible rfl
     rotate_left
     ·simp only [Act.put, List.setIfInBounds_toArray, List.set_cons_zero, List.set_cons_succ, i64_w, i32_w]; rfl
     refine pure_ (i := 5) (N := some 26) (v := ?_) (a' := ?_) (bitsL 19 63) rfl rfl (any_of HT_.out (by kernel_rfl)) (fun _ _ _ h => h) (Or.inl ⟨by rfl, ?_⟩) ?_ ?_; rotate_left
     ·intro w'; go_simp; with_reducible rfl
     rotate_left
     ·simp only [Act.put, List.setIfInBounds_toArray, List.set_cons_zero, List.set_cons_succ, i64_w, i32_w]; rfl
     refine pure_ (i := 6) (N := some 27) (v := ?_) (a' := ?_) (bitsL 19 127) rfl rfl (any_of HT_.out (by kernel_rfl)) (fun _ _ _ h => h) (Or.inl ⟨by rfl, ?_⟩) ?_ ?_; rotate_left
     ·intro w'; go_simp; with_reducible rfl
     rotate_left
     ·simp only [Act.put, List.setIfInBounds_toArray, List.set_cons_zero, List.set_cons_succ, i64_w, i32_w]; rfl
     refine pure_ (i := 7) (N := some 28) (v := ?_) (a' := ?_) (bitsL 19 255) rfl rfl (any_of HT_.out (by kernel_rfl)) (fun _ _ _ h => h) (Or.inl ⟨by rfl, ?_⟩) ?_ ?_; rotate_left
     ·intro w'; go_simp; with_reducible rfl
     rotate_left
     ·simp only [Act.put, List.setIfInBounds_toArray, List.set_cons_zero, List.set_cons_succ, i64_w, i32_w]; rfl
     refine pure_ (i := 8) (N := some 29) (v := ?_) (a' := ?_) (bitsL 19 511) rfl rfl (any_of HT_.out (by kernel_rfl)) (fun _ _ _ h => h) (Or.inl ⟨by rfl, ?_⟩) ?_ ?_; rotate_left
     ·intro w'; go_simp; with_reducible rfl
     rotate_left
     ·simp only [Act.put, List.setIfInBounds_toArray, List.set_cons_zero, List.set_cons_succ, i64_w, i32_w]; rfl
     refine take_ (i := 9) (N := some 30) (v := ?_) (a' := ?_) (bitsL 19 1023) rfl rfl (take_ofW HT_.out HW_.out (by kernel_rfl)) (fun _ _ _ h => h) (Or.inl ⟨by rfl, ?_⟩) hHeld ?_ ?_; rotate_left
     ·rintro w' ⟨s0, s1, s2, s3⟩; go_simp; with_reducible rfl
     rotate_left
     ·simp only [Act.put, List.setIfInBounds_toArray, List.set_cons_zero, List.set_cons_succ, i64_w, i32_w]; rfl
     refine take_ (i := 11) (N := some 32) (v := ?_) (a' := ?_) (bitsL 19 3071) rfl rfl (take_ofW HT_.out HW_.out (by kernel_rfl)) (fun _ _ _ h => h) (Or.inl ⟨by rfl, ?_⟩) hHeld ?_ ?_; rotate_left
     ·rintro w' ⟨s0, s1, s2, s3⟩; go_simp; with_reducible rfl
     rotate_left
     ·simp only [Act.put, List.setIfInBounds_toArray, List.set_cons_zero, List.set_cons_succ, i64_w, i32_w]; rfl
     refine one_ (i := 10) (N := some 31) (bitsL 19 4095) rfl rfl (one_of HT_.out (by kernel_rfl)) (by decide) (fun K hK => ?_); refine goes_ Tryz.func13 (by kernel_rfl) rfl #[.agg #[.slice Ao31 t354.length co31, .string t357]] (by rfl) rfl rfl am ?_; with_reducible refine (msg_Message_Text.calls _ _ t354 t357 t367 _ ?side1 ?side2 A10.out).mono ?_
     (case side1 => repeat (first | exact (Kd.R_reads' HO356.out).2.2 | (with_reducible refine Kd.C_alloc ?_ _) | (with_reducible refine Kd.C_drewN ?_ _) | (with_reducible refine Kd.C_drew ?_)))
     (case side2 => exact (Kd.R_reads' HO356.out).2.1)
     rintro e w41 ⟨rfl, hb⟩; refine ⟨_, rfl, ?_⟩; have n0_ := Aside0.mk (Kd.R_below (ra HO356.out) hb); have n1_ := Aside0.mk (Kd.R_below (ra HO362.out) hb); have n2_ := Aside0.mk (blk_below (g := gb359) (o := .cells #[.slice Ao31 t354.length co31, .string t357] 25 (0, 0)) bk hb); have n3_ := Aside0.mk (blk_below (g := gb365) (o := .cells #[.slice Ao35 t360.length co35, .string t363] 31 (0, 0)) bk hb); have n4_ := Aside0.mk (below_step bwS hb); clear HO356 HO362 BK359 BK365 HB; have HO356 := n0_; have HO362 := n1_; have BK359 := n2_; have BK365 := n3_; have HB := n4_; clear n0_ n1_ n2_ n3_ n4_
     (try clear hb)
     (try clear hb2)
     (try clear hk)
     (try clear hi)
     refine hK.out _ _ ⟨(blk_cell BK359.out 0).trans rfl, (blk_cell BK359.out 1).trans rfl, (blk_cell BK365.out 0).trans rfl, (blk_cell BK365.out 1).trans rfl⟩ (fun hHeld => ?_); clear hK K; refine norm_ (a' := ?_) ?_ ?_; rotate_left
     ·show Act.put _ (some 31) _ = _
      simp only [Act.put, List.setIfInBounds_toArray, List.set_cons_zero, List.set_cons_succ, i64_w, i32_w]; rfl
     refine one_ (i := 12) (N := some 33) (bitsL 19 8191) rfl rfl (one_of HT_.out (by kernel_rfl)) (by decide) (fun K hK => ?_); refine goes_ Tryz.func14 (by kernel_rfl) rfl #[.agg #[.slice Ao35 t360.length co35, .string t363]] (by rfl) rfl rfl am ?_; with_reducible refine (bulletinref16_Text.calls k _ _ t360 t363 t368 _ ?side1 ?side2 A11.out).mono ?_
     (case side1 => repeat (first | exact (Kd.R_reads' HO362.out).2.2 | (with_reducible refine Kd.C_alloc ?_ _) | (with_reducible refine Kd.C_drewN ?_ _) | (with_reducible refine Kd.C_drew ?_)))
     (case side2 => exact (Kd.R_reads' HO362.out).2.1)
     rintro e w42 ⟨rfl, hb⟩; refine ⟨_, rfl, ?_⟩; have n0_ := Aside0.mk (Kd.R_below (ra HO356.out) hb); have n1_ := Aside0.mk (Kd.R_below (ra HO362.out) hb); have n2_ := Aside0.mk (blk_below (g := gb359) (o := .cells #[.slice Ao31 t354.length co31, .string t357] 25 (0, 0)) bk hb); have n3_ := Aside0.mk (blk_below (g := gb365) (o := .cells #[.slice Ao35 t360.length co35, .string t363] 31 (0, 0)) bk hb); have n4_ := Aside0.mk (below_step bwS hb); clear HO356 HO362 BK359 BK365 HB; have HO356 := n0_; have HO362 := n1_; have BK359 := n2_; have BK365 := n3_; have HB := n4_; clear n0_ n1_ n2_ n3_ n4_
     (try clear hb)
     (try clear hb2)
     (try clear hk)
     (try clear hi)
     refine hK.out _ _ ⟨(blk_cell BK359.out 0).trans rfl, (blk_cell BK359.out 1).trans rfl, (blk_cell BK365.out 0).trans rfl, (blk_cell BK365.out 1).trans rfl⟩ (fun hHeld => ?_); clear hK K; refine norm_ (a' := ?_) ?_ ?_; rotate_left
     ·show Act.put _ (some 33) _ = _
      simp only [Act.put, List.setIfInBounds_toArray, List.set_cons_zero, List.set_cons_succ, i64_w, i32_w]; rfl
     refine pure_ (i := 13) (N := some 34) (v := ?_) (a' := ?_) (bitsL 19 16383) rfl rfl (any_of HT_.out (by kernel_rfl)) (fun _ _ _ h => h) (Or.inl ⟨by rfl, ?_⟩) ?_ ?_; rotate_left
     ·intro w'; go_simp; with_reducible rfl
     rotate_left
     ·simp only [Act.put, List.setIfInBounds_toArray, List.set_cons_zero, List.set_cons_succ, i64_w, i32_w]; rfl
     refine pure_ (i := 14) (N := some 35) (v := ?_) (a' := ?_) (bitsL 19 32767) rfl rfl (any_of HT_.out (by kernel_rfl)) (fun _ _ _ h => h) (Or.inl ⟨by rfl, ?_⟩) ?_ ?_; rotate_left
     ·intro w'; go_simp; with_reducible rfl
     rotate_left
     ·simp only [Act.put, List.setIfInBounds_toArray, List.set_cons_zero, List.set_cons_succ, i64_w, i32_w]; rfl
     refine pure_ (i := 15) (N := some 36) (v := ?_) (a' := ?_) (bitsL 19 65535) rfl rfl (any_of HT_.out (by kernel_rfl)) (fun _ _ _ h => h) (Or.inl ⟨by rfl, ?_⟩) ?_ ?_; rotate_left
     ·intro w'; go_simp; with_reducible rfl
     rotate_left
     ·simp only [Act.put, List.setIfInBounds_toArray, List.set_cons_zero, List.set_cons_succ, i64_w, i32_w]; rfl
     refine pure_ (i := 16) (N := some 37) (v := undef) (a' := ?_) (bitsL 19 131071) rfl rfl (any_of HT_.out (by kernel_rfl)) (fun _ _ _ h => h) (Or.inr ⟨by rfl, rfl⟩) ?_ ?_; rotate_left
     ·simp only [Act.put, List.setIfInBounds_toArray, List.set_cons_zero, List.set_cons_succ, i64_w, i32_w]; rfl
     refine pure_ (i := 17) (N := some 38) (v := ?_) (a' := ?_) (bitsL 19 262143) rfl rfl (any_of HT_.out (by kernel_rfl)) (fun _ _ _ h => h) (Or.inl ⟨by rfl, ?_⟩) ?_ ?_; rotate_left
     ·intro w'; go_simp; with_reducible rfl
     rotate_left
     ·simp only [Act.put, List.setIfInBounds_toArray, List.set_cons_zero, List.set_cons_succ, i64_w, i32_w]; rfl
     refine pure_ (i := 18) (N := some 2) (v := ?_) (a' := ?_) (bitsL 19 524287) rfl rfl (any_of HT_.out (by kernel_rfl)) (fun _ _ _ h => h) (Or.inl ⟨by rfl, ?_⟩) ?_ ?_; rotate_left
     ·intro w'; go_simp; with_reducible rfl
     rotate_left
     ·simp only [Act.put, List.setIfInBounds_toArray, List.set_cons_zero, List.set_cons_succ, i64_w, i32_w]; rfl
     refine done_ (done_of HT_.out (by kernel_rfl)) ?_
     try go_wp2
     go_ret
     exact ⟨ew, bwS⟩
   ·rw [if_neg c9] at H; have c9b0 : (t358 == t364) = false := beq_eq_false_iff_ne.mpr c9; have c9b1 : (t358 != t364) = true := bne_iff_ne.mpr c9; obtain rfl := Option.some.inj H
    go_enter Tryz.func3, Tryz.ntmps3
    try go_wp2_with (first | ((with_reducible refine gate_callee (f := 10) rfl ?_); refine goesL_ (some 13) rfl rfl Tryz.func10 (by kernel_rfl) rfl #[.string a0] rfl am ?_; (with_reducible refine (msg_Parse.calls (hG := by first | exact hG | exact Glob.below hG (by first | exact HB.out | (repeat (first | (with_reducible first | exact HB.out | apply below_alloc | apply pw_below_drewN | apply below_drew1 | refine below_set ?_ GE359.out | refine below_set ?_ GE365.out) | exact HB.out))) | exact Glob.drawn hG (d0)) k a0 t354 t357 t358 _ A5.out).mono ?_); rintro e w43 ⟨v355, rfl, ho0, hb⟩; refine ⟨_, rfl, ?_⟩; have n0_ := Aside0.mk (Kd.R_lower ho0 (below_size bw)); have n1_ := Aside0.mk (below_step bw hb); clear HB; have HO356 := n0_; have HB := n1_; clear n0_ n1_; (try clear hb); (try clear hb2); (try clear hk); (try clear hi); (try clear ho0)) | ((with_reducible refine gate_dst (N := 3) rfl ?_); refine box_event ?hg (N := 3) ?hd (cs := #[.slice none 0 0, .string (⟨#[]⟩ : ByteArray)]) (t := 25) ?hr ?_; (case hd => rfl); (case hg => rfl); (case hr => first | (go_simp; done) | (go_simp; rfl)); intro gb359 hg w44 hbox hb; have n0_ := Aside0.mk (Kd.R_below (ra HO356.out) hb); have n1_ := Aside0.mk (below_step bw hb); have n2_ := Aside0.mk (hbox); have n3_ := Aside0.mk ((by rw [hg]; exact (below_size bw) : w.heap.size ≤ gb359)); have n4_ := Aside0.mk ((by rw [hg]; exact (below_size bw) : w.heap.size ≤ gb359)); clear HO356; clear HB; have HO356 := n0_; have HB := n1_; have BK359 := n2_; have GW359 := n3_; have GE359 := n4_; clear n0_ n1_ n2_ n3_ n4_; clear hb hbox hg; obtain ⟨Ao45, co45, eo45⟩ := Kd.R_slice HO356.out; subst eo45; have hcz46_0 : w44.cell? ⟨gb359, 0, none⟩ = some (.slice none 0 0) := (blk_cell BK359.out 0).trans rfl; have hcz46_1 : w44.cell? ⟨gb359, 1, none⟩ = some (.string (⟨#[]⟩ : ByteArray)) := (blk_cell BK359.out 1).trans rfl; have hfz46_0 := blk_frozen BK359.out 0; have hfz46_1 := blk_frozen BK359.out 1) | ((with_reducible refine gate_callee (f := 11) rfl ?_); refine goesL_ (some 18) rfl rfl Tryz.func11 (by kernel_rfl) rfl #[.string a0] rfl am ?_; (with_reducible refine (bulletinref16_Parse.calls k a0 t360 t363 t364 _ A6.out).mono ?_); rintro e w47 ⟨v361, rfl, ho0, hb⟩; refine ⟨_, rfl, ?_⟩; have n0_ := Aside0.mk (Kd.R_below (by (with_reducible repeat (first | apply Kd.R_alloc | apply Kd.R_drewN | apply Kd.R_drew)); exact (Kd.R_mono (Kd.R_far (p := ⟨gb359, 1, none⟩) (Kd.R_far (p := ⟨gb359, 0, none⟩) (Kd.R_types HO356.out BK359.out (by decide)) (fun _ hk => hk.2) (.slice Ao45 t354.length co45)) (fun _ hk => hk.2) (.string t357)) (fun _ h_ => h_.1))) hb); have n1_ := Aside0.mk (Kd.R_lower ho0 (below_size bwS)); have n2_ := Aside0.mk (blk_below (g := gb359) (o := .cells #[.slice Ao45 t354.length co45, .string t357] 25 (0, 0)) (by (with_reducible repeat (first | refine blk_drewN ?_ _ | refine blk_drew ?_ | refine blk_alloc ?_ _)); refine blk_put (cs := #[.slice Ao45 t354.length co45, .string (⟨#[]⟩ : ByteArray)]) ?_ 1 _ rfl; (with_reducible repeat (first | refine blk_drewN ?_ _ | refine blk_drew ?_ | refine blk_alloc ?_ _)); exact blk_put (cs := #[.slice none 0 0, .string (⟨#[]⟩ : ByteArray)]) bk 0 _ rfl) hb); have n3_ := Aside0.mk (below_step bwS hb); clear HO356; clear BK359; clear HB; have HO356 := n0_; have HO362 := n1_; have BK359 := n2_; have HB := n3_; clear n0_ n1_ n2_ n3_; (try clear hb); (try clear hb2); (try clear hk); (try clear hi); (try clear ho0)) | ((with_reducible refine gate_dst (N := 5) rfl ?_); refine box_event ?hg (N := 5) ?hd (cs := #[.slice none 0 0, .string (⟨#[]⟩ : ByteArray)]) (t := 31) ?hr ?_; (case hd => rfl); (case hg => rfl); (case hr => first | (go_simp; done) | (go_simp; rfl)); intro gb365 hg w48 hbox hb; have n0_ := Aside0.mk (Kd.R_below (ra HO356.out) hb); have n1_ := Aside0.mk (Kd.R_below (ra HO362.out) hb); have n2_ := Aside0.mk (blk_below (g := gb359) (o := .cells #[.slice Ao45 t354.length co45, .string t357] 25 (0, 0)) bk hb); have n3_ := Aside0.mk (below_step bwS hb); have n4_ := Aside0.mk (hbox); have n5_ := Aside0.mk ((by rw [hg]; exact (below_size bwS) : w.heap.size ≤ gb365)); have n6_ := Aside0.mk ((by rw [hg]; exact (below_size bwS) : w.heap.size ≤ gb365)); have n7_ := Aside0.mk ((by rw [hg]; exact Nat.ne_of_lt (blk_lt (g := gb359) (o := .cells #[.slice Ao45 t354.length co45, .string t357] 25 (0, 0)) bk) : gb359 ≠ gb365)); have n8_ := Aside0.mk ((by rw [hg]; exact Nat.ne_of_gt (blk_lt (g := gb359) (o := .cells #[.slice Ao45 t354.length co45, .string t357] 25 (0, 0)) bk) : gb365 ≠ gb359)); clear HO356; clear HO362; clear BK359; clear HB; have HO356 := n0_; have HO362 := n1_; have BK359 := n2_; have HB := n3_; have BK365 := n4_; have GW365 := n5_; have GE365 := n6_; have NB359_365 := n7_; have NB365_359 := n8_; clear n0_ n1_ n2_ n3_ n4_ n5_ n6_ n7_ n8_; clear hb hbox hg; obtain ⟨Ao49, co49, eo49⟩ := Kd.R_slice HO362.out; subst eo49; have hnb50 := NB365_359.out; have hnc50 := NB359_365.out; have hcz51_0 : w48.cell? ⟨gb365, 0, none⟩ = some (.slice none 0 0) := (blk_cell BK365.out 0).trans rfl; have hcz51_1 : w48.cell? ⟨gb365, 1, none⟩ = some (.string (⟨#[]⟩ : ByteArray)) := (blk_cell BK365.out 1).trans rfl; have hfz51_0 := blk_frozen BK365.out 0; have hfz51_1 := blk_frozen BK365.out 1))
    have n0_ : Aside0 (Kd.R k46 46 ((w48.setCell ⟨gb365, 0, none⟩ (.slice Ao49 t360.length co49)).setCell ⟨gb365, 1, none⟩ (.string t363)) w.heap.size (fun _ => True) (.slice Ao45 t354.length co45) t354) := ⟨by (with_reducible repeat (first | apply Kd.R_alloc | apply Kd.R_drewN | apply Kd.R_drew)); exact Kd.R_mono (Kd.R_far (p := ⟨gb365, 1, none⟩) (Kd.R_far (p := ⟨gb365, 0, none⟩) (Kd.R_types HO356.out BK365.out (by decide)) (fun _ hk => hk.2) (.slice Ao49 t360.length co49)) (fun _ hk => hk.2) (.string t363)) (fun _ hk => trivial)⟩
    have n1_ : Aside0 (Kd.R k67 67 ((w48.setCell ⟨gb365, 0, none⟩ (.slice Ao49 t360.length co49)).setCell ⟨gb365, 1, none⟩ (.string t363)) w.heap.size (fun _ => True) (.slice Ao49 t360.length co49) t360) := ⟨by (with_reducible repeat (first | apply Kd.R_alloc | apply Kd.R_drewN | apply Kd.R_drew)); exact Kd.R_mono (Kd.R_far (p := ⟨gb365, 1, none⟩) (Kd.R_far (p := ⟨gb365, 0, none⟩) (Kd.R_types HO362.out BK365.out (by decide)) (fun _ hk => hk.2) (.slice Ao49 t360.length co49)) (fun _ hk => hk.2) (.string t363)) (fun _ hk => trivial)⟩
    have n2_ : Aside0 (((w48.setCell ⟨gb365, 0, none⟩ (.slice Ao49 t360.length co49)).setCell ⟨gb365, 1, none⟩ (.string t363)).heap[gb359]? = some (.cells #[.slice Ao45 t354.length co45, .string t357] 25 (0, 0))) := ⟨by (with_reducible repeat (first | refine blk_drewN ?_ _ | refine blk_drew ?_ | refine blk_alloc ?_ _)); refine blk_far ?_ NB359_365.out _; (with_reducible repeat (first | refine blk_drewN ?_ _ | refine blk_drew ?_ | refine blk_alloc ?_ _)); refine blk_far ?_ NB359_365.out _; (with_reducible repeat (first | refine blk_drewN ?_ _ | refine blk_drew ?_ | refine blk_alloc ?_ _)); exact BK359.out⟩
    have n3_ : Aside0 (((w48.setCell ⟨gb365, 0, none⟩ (.slice Ao49 t360.length co49)).setCell ⟨gb365, 1, none⟩ (.string t363)).heap[gb365]? = some (.cells #[.slice Ao49 t360.length co49, .string t363] 31 (0, 0))) := ⟨by (with_reducible repeat (first | refine blk_drewN ?_ _ | refine blk_drew ?_ | refine blk_alloc ?_ _)); refine blk_put (cs := #[.slice Ao49 t360.length co49, .string (⟨#[]⟩ : ByteArray)]) ?_ 1 _ rfl; (with_reducible repeat (first | refine blk_drewN ?_ _ | refine blk_drew ?_ | refine blk_alloc ?_ _)); exact blk_put (cs := #[.slice none 0 0, .string (⟨#[]⟩ : ByteArray)]) bk 0 _ rfl⟩
    have n4_ : Aside0 (Below w.heap.size w ((w48.setCell ⟨gb365, 0, none⟩ (.slice Ao49 t360.length co49)).setCell ⟨gb365, 1, none⟩ (.string t363))) := ⟨bwS⟩
    (try clear HO356)
    (try clear HO362)
    (try clear BK359)
    (try clear BK365)
    (try clear HB)
    generalize ((w48.setCell ⟨gb365, 0, none⟩ (.slice Ao49 t360.length co49)).setCell ⟨gb365, 1, none⟩ (.string t363)) = w52 at n0_ n1_ n2_ n3_ n4_ ⊢
    have HO356 := n0_; have HO362 := n1_; have BK359 := n2_; have BK365 := n3_; have HB := n4_; clear n0_ n1_ n2_ n3_ n4_; have n0_ := Aside0.mk (Kd.R_drew HO356.out); have n1_ := Aside0.mk (Kd.R_drew HO362.out); have n2_ := Aside0.mk (blk_drew BK359.out); have n3_ := Aside0.mk (blk_drew BK365.out); have n4_ := Aside0.mk (below_drew1 HB.out); clear HO356 HO362 BK359 BK365 HB; have HO356 := n0_; have HO362 := n1_; have BK359 := n2_; have BK365 := n3_; have HB := n4_; clear n0_ n1_ n2_ n3_ n4_; refine start_ (n := 19) (S := fun w' => w'.cell? ⟨gb359, 0, none⟩ = some (.slice Ao45 t354.length co45) ∧ w'.cell? ⟨gb359, 1, none⟩ = some (.string t357) ∧ w'.cell? ⟨gb365, 0, none⟩ = some (.slice Ao49 t360.length co49) ∧ w'.cell? ⟨gb365, 1, none⟩ = some (.string t363)) (ds := []) #[false, false, false, false, false, false, false, false, false, false, false, false, false, false, false, false, false, false, false] (by kernel_rfl) rfl rfl ⟨(blk_cell BK359.out 0).trans rfl, (blk_cell BK359.out 1).trans rfl, (blk_cell BK365.out 0).trans rfl, (blk_cell BK365.out 1).trans rfl⟩ (fun hHeld => ?_); refine with_tabW bulletinlaw16_MsgReads.tab5 bulletinlaw16_MsgReads.bits5 (fun HT_ HW_ => ?_)
    generalize w52.drew = w53 at HO356 HO362 BK359 BK365 HB hHeld ⊢
    refine take_ (i := 0) (N := some 21) (v := ?_) (a' := ?_) (bitsL 19 1) rfl rfl (take_ofW HT_.out HW_.out (by kernel_rfl)) (fun _ _ _ h => h) (Or.inl ⟨by rfl, ?_⟩) hHeld ?_ ?_; rotate_left
    ·rintro w' ⟨s0, s1, s2, s3⟩; go_simp; with_reducible rfl
    rotate_left
    ·simp only [Act.put, List.setIfInBounds_toArray, List.set_cons_zero, List.set_cons_succ, i64_w, i32_w]; rfl
    refine take_ (i := 1) (N := some 22) (v := ?_) (a' := ?_) (bitsL 19 3) rfl rfl (take_ofW HT_.out HW_.out (by kernel_rfl)) (fun _ _ _ h => h) (Or.inl ⟨by rfl, ?_⟩) hHeld ?_ ?_; rotate_left
    ·rintro w' ⟨s0, s1, s2, s3⟩; go_simp; with_reducible rfl
    rotate_left
    ·simp only [Act.put, List.setIfInBounds_toArray, List.set_cons_zero, List.set_cons_succ, i64_w, i32_w]; rfl
    refine one_ (i := 2) (N := some 23) (bitsL 19 7) rfl rfl (one_of HT_.out (by kernel_rfl)) (by decide) (fun K hK => ?_); refine goes_ Tryz.func12 (by kernel_rfl) rfl #[.agg #[.slice Ao45 t354.length co45, .string t357], .agg #[.slice Ao49 t360.length co49, .string t363]] (by rfl) rfl rfl am ?_; with_reducible refine (bulletinlaw16_Same.calls k _ _ t354 t357 _ _ t360 t363 true _ ?side1 ?side2 ?side3 ?side4 A7.out).mono ?_
    (case side1 => repeat (first | exact (Kd.R_reads' HO356.out).2.2 | (with_reducible refine Kd.C_alloc ?_ _) | (with_reducible refine Kd.C_drewN ?_ _) | (with_reducible refine Kd.C_drew ?_)))
    (case side2 => exact (Kd.R_reads' HO356.out).2.1)
    (case side3 => repeat (first | exact (Kd.R_reads' HO362.out).2.2 | (with_reducible refine Kd.C_alloc ?_ _) | (with_reducible refine Kd.C_drewN ?_ _) | (with_reducible refine Kd.C_drew ?_)))
    (case side4 => exact (Kd.R_reads' HO362.out).2.1)
    rintro e w54 ⟨rfl, hb⟩; refine ⟨_, rfl, ?_⟩; have n0_ := Aside0.mk (Kd.R_below (ra HO356.out) hb); have n1_ := Aside0.mk (Kd.R_below (ra HO362.out) hb); have n2_ := Aside0.mk (blk_below (g := gb359) (o := .cells #[.slice Ao45 t354.length co45, .string t357] 25 (0, 0)) bk hb); have n3_ := Aside0.mk (blk_below (g := gb365) (o := .cells #[.slice Ao49 t360.length co49, .string t363] 31 (0, 0)) bk hb); have n4_ := Aside0.mk (below_step bwS hb); clear HO356 HO362 BK359 BK365 HB; have HO356 := n0_; have HO362 := n1_; have BK359 := n2_; have BK365 := n3_; have HB := n4_; clear n0_ n1_ n2_ n3_ n4_
    (try clear hb)
    (try clear hb2)
    (try clear hk)
    (try clear hi)
    refine hK.out _ _ ⟨(blk_cell BK359.out 0).trans rfl, (blk_cell BK359.out 1).trans rfl, (blk_cell BK365.out 0).trans rfl, (blk_cell BK365.out 1).trans rfl⟩ (fun hHeld => ?_); clear hK K; refine norm_ (a' := ?_) ?_ ?_; rotate_left
    ·show Act.put _ (some 23) _ = _
     simp only [Act.put, List.setIfInBounds_toArray, List.set_cons_zero, List.set_cons_succ, i64_w, i32_w]; rfl
    refine pure_ (i := 3) (N := some 24) (v := ?_) (a' := ?_) (bitsL 19 15) rfl rfl (any_of HT_.out (by kernel_rfl)) (fun _ _ _ h => h) (Or.inl ⟨by rfl, ?_⟩) ?_ ?_; rotate_left
    ·intro w'; go_simp; with_reducible rfl
    rotate_left
    ·simp only [Act.put, List.setIfInBounds_toArray, List.set_cons_zero, List.set_cons_succ, i64_w, i32_w]; rfl
    refine pure_ (i := 4) (N := some 25) (v := ?_) (a' := ?_) (bitsL 19 31) rfl rfl (any_of HT_.out (by kernel_rfl)) (fun _ _ _ h => h) (Or.inl ⟨by rfl, ?_⟩) ?_ ?_; rotate_left
    ·intro w'; go_simp; with_reducible rfl
    rotate_left
    ·simp only [Act.put, List.setIfInBounds_toArray, List.set_cons_zero, List.set_cons_succ, i64_w, i32_w]; rfl
    refine pure_ (i := 5) (N := some 26) (v := ?_) (a' := ?_) (bitsL 19 63) rfl rfl (any_of HT_.out (by kernel_rfl)) (fun _ _ _ h => h) (Or.inl ⟨by rfl, ?_⟩) ?_ ?_; rotate_left
    ·intro w'; go_simp; with_reducible rfl
    rotate_left
    ·simp only [Act.put, List.setIfInBounds_toArray, List.set_cons_zero, List.set_cons_succ, i64_w, i32_w]; rfl
    refine pure_ (i := 6) (N := some 27) (v := ?_) (a' := ?_) (bitsL 19 127) rfl rfl (any_of HT_.out (by kernel_rfl)) (fun _ _ _ h => h) (Or.inl ⟨by rfl, ?_⟩) ?_ ?_; rotate_left
    ·intro w'; go_simp; with_reducible rfl
    rotate_left
    ·simp only [Act.put, List.setIfInBounds_toArray, List.set_cons_zero, List.set_cons_succ, i64_w, i32_w]; rfl
    refine pure_ (i := 7) (N := some 28) (v := ?_) (a' := ?_) (bitsL 19 255) rfl rfl (any_of HT_.out (by kernel_rfl)) (fun _ _ _ h => h) (Or.inl ⟨by rfl, ?_⟩) ?_ ?_; rotate_left
    ·intro w'; go_simp; with_reducible rfl
    rotate_left
    ·simp only [Act.put, List.setIfInBounds_toArray, List.set_cons_zero, List.set_cons_succ, i64_w, i32_w]; rfl
    refine pure_ (i := 8) (N := some 29) (v := ?_) (a' := ?_) (bitsL 19 511) rfl rfl (any_of HT_.out (by kernel_rfl)) (fun _ _ _ h => h) (Or.inl ⟨by rfl, ?_⟩) ?_ ?_; rotate_left
    ·intro w'; go_simp; with_reducible rfl
    rotate_left
    ·simp only [Act.put, List.setIfInBounds_toArray, List.set_cons_zero, List.set_cons_succ, i64_w, i32_w]; rfl
    refine pure_ (i := 9) (N := some 30) (v := undef) (a' := ?_) (bitsL 19 1023) rfl rfl (any_of HT_.out (by kernel_rfl)) (fun _ _ _ h => h) (Or.inr ⟨by rfl, rfl⟩) ?_ ?_; rotate_left
    ·simp only [Act.put, List.setIfInBounds_toArray, List.set_cons_zero, List.set_cons_succ, i64_w, i32_w]; rfl
    refine pure_ (i := 10) (N := some 31) (v := undef) (a' := ?_) (bitsL 19 2047) rfl rfl (any_of HT_.out (by kernel_rfl)) (fun _ _ _ h => h) (Or.inr ⟨by rfl, rfl⟩) ?_ ?_; rotate_left
    ·simp only [Act.put, List.setIfInBounds_toArray, List.set_cons_zero, List.set_cons_succ, i64_w, i32_w]; rfl
    refine pure_ (i := 11) (N := some 32) (v := undef) (a' := ?_) (bitsL 19 4095) rfl rfl (any_of HT_.out (by kernel_rfl)) (fun _ _ _ h => h) (Or.inr ⟨by rfl, rfl⟩) ?_ ?_; rotate_left
    ·simp only [Act.put, List.setIfInBounds_toArray, List.set_cons_zero, List.set_cons_succ, i64_w, i32_w]; rfl
    refine pure_ (i := 12) (N := some 33) (v := undef) (a' := ?_) (bitsL 19 8191) rfl rfl (any_of HT_.out (by kernel_rfl)) (fun _ _ _ h => h) (Or.inr ⟨by rfl, rfl⟩) ?_ ?_; rotate_left
    ·simp only [Act.put, List.setIfInBounds_toArray, List.set_cons_zero, List.set_cons_succ, i64_w, i32_w]; rfl
    refine pure_ (i := 13) (N := some 34) (v := undef) (a' := ?_) (bitsL 19 16383) rfl rfl (any_of HT_.out (by kernel_rfl)) (fun _ _ _ h => h) (Or.inr ⟨by rfl, rfl⟩) ?_ ?_; rotate_left
    ·simp only [Act.put, List.setIfInBounds_toArray, List.set_cons_zero, List.set_cons_succ, i64_w, i32_w]; rfl
    refine pure_ (i := 14) (N := some 35) (v := ?_) (a' := ?_) (bitsL 19 32767) rfl rfl (any_of HT_.out (by kernel_rfl)) (fun _ _ _ h => h) (Or.inl ⟨by rfl, ?_⟩) ?_ ?_; rotate_left
    ·intro w'; go_simp; with_reducible rfl
    rotate_left
    ·simp only [Act.put, List.setIfInBounds_toArray, List.set_cons_zero, List.set_cons_succ, i64_w, i32_w]; rfl
    refine pure_ (i := 15) (N := some 36) (v := ?_) (a' := ?_) (bitsL 19 65535) rfl rfl (any_of HT_.out (by kernel_rfl)) (fun _ _ _ h => h) (Or.inl ⟨by rfl, ?_⟩) ?_ ?_; rotate_left
    ·intro w'; go_simp; with_reducible rfl
    rotate_left
    ·simp only [Act.put, List.setIfInBounds_toArray, List.set_cons_zero, List.set_cons_succ, i64_w, i32_w]; rfl
    refine pure_ (i := 16) (N := some 37) (v := undef) (a' := ?_) (bitsL 19 131071) rfl rfl (any_of HT_.out (by kernel_rfl)) (fun _ _ _ h => h) (Or.inr ⟨by rfl, rfl⟩) ?_ ?_; rotate_left
    ·simp only [Act.put, List.setIfInBounds_toArray, List.set_cons_zero, List.set_cons_succ, i64_w, i32_w]; rfl
    refine pure_ (i := 17) (N := some 38) (v := ?_) (a' := ?_) (bitsL 19 262143) rfl rfl (any_of HT_.out (by kernel_rfl)) (fun _ _ _ h => h) (Or.inl ⟨by rfl, ?_⟩) ?_ ?_; rotate_left
    ·intro w'; go_simp; with_reducible rfl
    rotate_left
    ·simp only [Act.put, List.setIfInBounds_toArray, List.set_cons_zero, List.set_cons_succ, i64_w, i32_w]; rfl
    refine pure_ (i := 18) (N := some 2) (v := ?_) (a' := ?_) (bitsL 19 524287) rfl rfl (any_of HT_.out (by kernel_rfl)) (fun _ _ _ h => h) (Or.inl ⟨by rfl, ?_⟩) ?_ ?_; rotate_left
    ·intro w'; go_simp; with_reducible rfl
    rotate_left
    ·simp only [Act.put, List.setIfInBounds_toArray, List.set_cons_zero, List.set_cons_succ, i64_w, i32_w]; rfl
    refine done_ (done_of HT_.out (by kernel_rfl)) ?_
    try go_wp2
    go_ret
    exact ⟨ew, bwS⟩
  ·replace c8 := Bool.eq_false_iff.mpr c8; subst c8; have H1 : (some false) = some r := by rw [if_neg (show ¬ (false = true) by decide)] at H; exact H
   clear H; have H := H1; clear H1; obtain rfl := Option.some.inj H
   go_enter Tryz.func3, Tryz.ntmps3
   try go_wp2_with (first | ((with_reducible refine gate_callee (f := 10) rfl ?_); refine goesL_ (some 13) rfl rfl Tryz.func10 (by kernel_rfl) rfl #[.string a0] rfl am ?_; (with_reducible refine (msg_Parse.calls (hG := by first | exact hG | exact Glob.below hG (by first | exact HB.out | (repeat (first | (with_reducible first | exact HB.out | apply below_alloc | apply pw_below_drewN | apply below_drew1 | refine below_set ?_ GE359.out | refine below_set ?_ GE365.out) | exact HB.out))) | exact Glob.drawn hG (d0)) k a0 t354 t357 t358 _ A5.out).mono ?_); rintro e w55 ⟨v355, rfl, ho0, hb⟩; refine ⟨_, rfl, ?_⟩; have n0_ := Aside0.mk (Kd.R_lower ho0 (below_size bw)); have n1_ := Aside0.mk (below_step bw hb); clear HB; have HO356 := n0_; have HB := n1_; clear n0_ n1_; (try clear hb); (try clear hb2); (try clear hk); (try clear hi); (try clear ho0)) | ((with_reducible refine gate_dst (N := 3) rfl ?_); refine box_event ?hg (N := 3) ?hd (cs := #[.slice none 0 0, .string (⟨#[]⟩ : ByteArray)]) (t := 25) ?hr ?_; (case hd => rfl); (case hg => rfl); (case hr => first | (go_simp; done) | (go_simp; rfl)); intro gb359 hg w56 hbox hb; have n0_ := Aside0.mk (Kd.R_below (ra HO356.out) hb); have n1_ := Aside0.mk (below_step bw hb); have n2_ := Aside0.mk (hbox); have n3_ := Aside0.mk ((by rw [hg]; exact (below_size bw) : w.heap.size ≤ gb359)); have n4_ := Aside0.mk ((by rw [hg]; exact (below_size bw) : w.heap.size ≤ gb359)); clear HO356; clear HB; have HO356 := n0_; have HB := n1_; have BK359 := n2_; have GW359 := n3_; have GE359 := n4_; clear n0_ n1_ n2_ n3_ n4_; clear hb hbox hg; obtain ⟨Ao57, co57, eo57⟩ := Kd.R_slice HO356.out; subst eo57; have hcz58_0 : w56.cell? ⟨gb359, 0, none⟩ = some (.slice none 0 0) := (blk_cell BK359.out 0).trans rfl; have hcz58_1 : w56.cell? ⟨gb359, 1, none⟩ = some (.string (⟨#[]⟩ : ByteArray)) := (blk_cell BK359.out 1).trans rfl; have hfz58_0 := blk_frozen BK359.out 0; have hfz58_1 := blk_frozen BK359.out 1) | ((with_reducible refine gate_callee (f := 11) rfl ?_); refine goesL_ (some 18) rfl rfl Tryz.func11 (by kernel_rfl) rfl #[.string a0] rfl am ?_; (with_reducible refine (bulletinref16_Parse.calls k a0 t360 t363 t364 _ A6.out).mono ?_); rintro e w59 ⟨v361, rfl, ho0, hb⟩; refine ⟨_, rfl, ?_⟩; have n0_ := Aside0.mk (Kd.R_below (by (with_reducible repeat (first | apply Kd.R_alloc | apply Kd.R_drewN | apply Kd.R_drew)); exact (Kd.R_mono (Kd.R_far (p := ⟨gb359, 1, none⟩) (Kd.R_far (p := ⟨gb359, 0, none⟩) (Kd.R_types HO356.out BK359.out (by decide)) (fun _ hk => hk.2) (.slice Ao57 t354.length co57)) (fun _ hk => hk.2) (.string t357)) (fun _ h_ => h_.1))) hb); have n1_ := Aside0.mk (Kd.R_lower ho0 (below_size bwS)); have n2_ := Aside0.mk (blk_below (g := gb359) (o := .cells #[.slice Ao57 t354.length co57, .string t357] 25 (0, 0)) (by (with_reducible repeat (first | refine blk_drewN ?_ _ | refine blk_drew ?_ | refine blk_alloc ?_ _)); refine blk_put (cs := #[.slice Ao57 t354.length co57, .string (⟨#[]⟩ : ByteArray)]) ?_ 1 _ rfl; (with_reducible repeat (first | refine blk_drewN ?_ _ | refine blk_drew ?_ | refine blk_alloc ?_ _)); exact blk_put (cs := #[.slice none 0 0, .string (⟨#[]⟩ : ByteArray)]) bk 0 _ rfl) hb); have n3_ := Aside0.mk (below_step bwS hb); clear HO356; clear BK359; clear HB; have HO356 := n0_; have HO362 := n1_; have BK359 := n2_; have HB := n3_; clear n0_ n1_ n2_ n3_; (try clear hb); (try clear hb2); (try clear hk); (try clear hi); (try clear ho0)) | ((with_reducible refine gate_dst (N := 5) rfl ?_); refine box_event ?hg (N := 5) ?hd (cs := #[.slice none 0 0, .string (⟨#[]⟩ : ByteArray)]) (t := 31) ?hr ?_; (case hd => rfl); (case hg => rfl); (case hr => first | (go_simp; done) | (go_simp; rfl)); intro gb365 hg w60 hbox hb; have n0_ := Aside0.mk (Kd.R_below (ra HO356.out) hb); have n1_ := Aside0.mk (Kd.R_below (ra HO362.out) hb); have n2_ := Aside0.mk (blk_below (g := gb359) (o := .cells #[.slice Ao57 t354.length co57, .string t357] 25 (0, 0)) bk hb); have n3_ := Aside0.mk (below_step bwS hb); have n4_ := Aside0.mk (hbox); have n5_ := Aside0.mk ((by rw [hg]; exact (below_size bwS) : w.heap.size ≤ gb365)); have n6_ := Aside0.mk ((by rw [hg]; exact (below_size bwS) : w.heap.size ≤ gb365)); have n7_ := Aside0.mk ((by rw [hg]; exact Nat.ne_of_lt (blk_lt (g := gb359) (o := .cells #[.slice Ao57 t354.length co57, .string t357] 25 (0, 0)) bk) : gb359 ≠ gb365)); have n8_ := Aside0.mk ((by rw [hg]; exact Nat.ne_of_gt (blk_lt (g := gb359) (o := .cells #[.slice Ao57 t354.length co57, .string t357] 25 (0, 0)) bk) : gb365 ≠ gb359)); clear HO356; clear HO362; clear BK359; clear HB; have HO356 := n0_; have HO362 := n1_; have BK359 := n2_; have HB := n3_; have BK365 := n4_; have GW365 := n5_; have GE365 := n6_; have NB359_365 := n7_; have NB365_359 := n8_; clear n0_ n1_ n2_ n3_ n4_ n5_ n6_ n7_ n8_; clear hb hbox hg; obtain ⟨Ao61, co61, eo61⟩ := Kd.R_slice HO362.out; subst eo61; have hnb62 := NB365_359.out; have hnc62 := NB359_365.out; have hcz63_0 : w60.cell? ⟨gb365, 0, none⟩ = some (.slice none 0 0) := (blk_cell BK365.out 0).trans rfl; have hcz63_1 : w60.cell? ⟨gb365, 1, none⟩ = some (.string (⟨#[]⟩ : ByteArray)) := (blk_cell BK365.out 1).trans rfl; have hfz63_0 := blk_frozen BK365.out 0; have hfz63_1 := blk_frozen BK365.out 1))
   have n0_ : Aside0 (Kd.R k46 46 ((w60.setCell ⟨gb365, 0, none⟩ (.slice Ao61 t360.length co61)).setCell ⟨gb365, 1, none⟩ (.string t363)) w.heap.size (fun _ => True) (.slice Ao57 t354.length co57) t354) := ⟨by (with_reducible repeat (first | apply Kd.R_alloc | apply Kd.R_drewN | apply Kd.R_drew)); exact Kd.R_mono (Kd.R_far (p := ⟨gb365, 1, none⟩) (Kd.R_far (p := ⟨gb365, 0, none⟩) (Kd.R_types HO356.out BK365.out (by decide)) (fun _ hk => hk.2) (.slice Ao61 t360.length co61)) (fun _ hk => hk.2) (.string t363)) (fun _ hk => trivial)⟩
   have n1_ : Aside0 (Kd.R k67 67 ((w60.setCell ⟨gb365, 0, none⟩ (.slice Ao61 t360.length co61)).setCell ⟨gb365, 1, none⟩ (.string t363)) w.heap.size (fun _ => True) (.slice Ao61 t360.length co61) t360) := ⟨by (with_reducible repeat (first | apply Kd.R_alloc | apply Kd.R_drewN | apply Kd.R_drew)); exact Kd.R_mono (Kd.R_far (p := ⟨gb365, 1, none⟩) (Kd.R_far (p := ⟨gb365, 0, none⟩) (Kd.R_types HO362.out BK365.out (by decide)) (fun _ hk => hk.2) (.slice Ao61 t360.length co61)) (fun _ hk => hk.2) (.string t363)) (fun _ hk => trivial)⟩
   have n2_ : Aside0 (((w60.setCell ⟨gb365, 0, none⟩ (.slice Ao61 t360.length co61)).setCell ⟨gb365, 1, none⟩ (.string t363)).heap[gb359]? = some (.cells #[.slice Ao57 t354.length co57, .string t357] 25 (0, 0))) := ⟨by (with_reducible repeat (first | refine blk_drewN ?_ _ | refine blk_drew ?_ | refine blk_alloc ?_ _)); refine blk_far ?_ NB359_365.out _; (with_reducible repeat (first | refine blk_drewN ?_ _ | refine blk_drew ?_ | refine blk_alloc ?_ _)); refine blk_far ?_ NB359_365.out _; (with_reducible repeat (first | refine blk_drewN ?_ _ | refine blk_drew ?_ | refine blk_alloc ?_ _)); exact BK359.out⟩
   have n3_ : Aside0 (((w60.setCell ⟨gb365, 0, none⟩ (.slice Ao61 t360.length co61)).setCell ⟨gb365, 1, none⟩ (.string t363)).heap[gb365]? = some (.cells #[.slice Ao61 t360.length co61, .string t363] 31 (0, 0))) := ⟨by (with_reducible repeat (first | refine blk_drewN ?_ _ | refine blk_drew ?_ | refine blk_alloc ?_ _)); refine blk_put (cs := #[.slice Ao61 t360.length co61, .string (⟨#[]⟩ : ByteArray)]) ?_ 1 _ rfl; (with_reducible repeat (first | refine blk_drewN ?_ _ | refine blk_drew ?_ | refine blk_alloc ?_ _)); exact blk_put (cs := #[.slice none 0 0, .string (⟨#[]⟩ : ByteArray)]) bk 0 _ rfl⟩
   have n4_ : Aside0 (Below w.heap.size w ((w60.setCell ⟨gb365, 0, none⟩ (.slice Ao61 t360.length co61)).setCell ⟨gb365, 1, none⟩ (.string t363))) := ⟨bwS⟩
   (try clear HO356)
   (try clear HO362)
   (try clear BK359)
   (try clear BK365)
   (try clear HB)
   generalize ((w60.setCell ⟨gb365, 0, none⟩ (.slice Ao61 t360.length co61)).setCell ⟨gb365, 1, none⟩ (.string t363)) = w64 at n0_ n1_ n2_ n3_ n4_ ⊢
   have HO356 := n0_; have HO362 := n1_; have BK359 := n2_; have BK365 := n3_; have HB := n4_; clear n0_ n1_ n2_ n3_ n4_; have n0_ := Aside0.mk (Kd.R_drew HO356.out); have n1_ := Aside0.mk (Kd.R_drew HO362.out); have n2_ := Aside0.mk (blk_drew BK359.out); have n3_ := Aside0.mk (blk_drew BK365.out); have n4_ := Aside0.mk (below_drew1 HB.out); clear HO356 HO362 BK359 BK365 HB; have HO356 := n0_; have HO362 := n1_; have BK359 := n2_; have BK365 := n3_; have HB := n4_; clear n0_ n1_ n2_ n3_ n4_; refine start_ (n := 19) (S := fun w' => w'.cell? ⟨gb359, 0, none⟩ = some (.slice Ao57 t354.length co57) ∧ w'.cell? ⟨gb359, 1, none⟩ = some (.string t357) ∧ w'.cell? ⟨gb365, 0, none⟩ = some (.slice Ao61 t360.length co61) ∧ w'.cell? ⟨gb365, 1, none⟩ = some (.string t363)) (ds := []) #[false, false, false, false, false, false, false, false, false, false, false, false, false, false, false, false, false, false, false] (by kernel_rfl) rfl rfl ⟨(blk_cell BK359.out 0).trans rfl, (blk_cell BK359.out 1).trans rfl, (blk_cell BK365.out 0).trans rfl, (blk_cell BK365.out 1).trans rfl⟩ (fun hHeld => ?_); refine with_tabW bulletinlaw16_MsgReads.tab5 bulletinlaw16_MsgReads.bits5 (fun HT_ HW_ => ?_)
   generalize w64.drew = w65 at HO356 HO362 BK359 BK365 HB hHeld ⊢
   refine take_ (i := 0) (N := some 21) (v := ?_) (a' := ?_) (bitsL 19 1) rfl rfl (take_ofW HT_.out HW_.out (by kernel_rfl)) (fun _ _ _ h => h) (Or.inl ⟨by rfl, ?_⟩) hHeld ?_ ?_; rotate_left
   ·rintro w' ⟨s0, s1, s2, s3⟩; go_simp; with_reducible rfl
   rotate_left
   ·simp only [Act.put, List.setIfInBounds_toArray, List.set_cons_zero, List.set_cons_succ, i64_w, i32_w]; rfl
   refine take_ (i := 1) (N := some 22) (v := ?_) (a' := ?_) (bitsL 19 3) rfl rfl (take_ofW HT_.out HW_.out (by kernel_rfl)) (fun _ _ _ h => h) (Or.inl ⟨by rfl, ?_⟩) hHeld ?_ ?_; rotate_left
   ·rintro w' ⟨s0, s1, s2, s3⟩; go_simp; with_reducible rfl
   rotate_left
   ·simp only [Act.put, List.setIfInBounds_toArray, List.set_cons_zero, List.set_cons_succ, i64_w, i32_w]; rfl
   refine one_ (i := 2) (N := some 23) (bitsL 19 7) rfl rfl (one_of HT_.out (by kernel_rfl)) (by decide) (fun K hK => ?_); refine goes_ Tryz.func12 (by kernel_rfl) rfl #[.agg #[.slice Ao57 t354.length co57, .string t357], .agg #[.slice Ao61 t360.length co61, .string t363]] (by rfl) rfl rfl am ?_; with_reducible refine (bulletinlaw16_Same.calls k _ _ t354 t357 _ _ t360 t363 false _ ?side1 ?side2 ?side3 ?side4 A7.out).mono ?_
   (case side1 => repeat (first | exact (Kd.R_reads' HO356.out).2.2 | (with_reducible refine Kd.C_alloc ?_ _) | (with_reducible refine Kd.C_drewN ?_ _) | (with_reducible refine Kd.C_drew ?_)))
   (case side2 => exact (Kd.R_reads' HO356.out).2.1)
   (case side3 => repeat (first | exact (Kd.R_reads' HO362.out).2.2 | (with_reducible refine Kd.C_alloc ?_ _) | (with_reducible refine Kd.C_drewN ?_ _) | (with_reducible refine Kd.C_drew ?_)))
   (case side4 => exact (Kd.R_reads' HO362.out).2.1)
   rintro e w66 ⟨rfl, hb⟩; refine ⟨_, rfl, ?_⟩; have n0_ := Aside0.mk (Kd.R_below (ra HO356.out) hb); have n1_ := Aside0.mk (Kd.R_below (ra HO362.out) hb); have n2_ := Aside0.mk (blk_below (g := gb359) (o := .cells #[.slice Ao57 t354.length co57, .string t357] 25 (0, 0)) bk hb); have n3_ := Aside0.mk (blk_below (g := gb365) (o := .cells #[.slice Ao61 t360.length co61, .string t363] 31 (0, 0)) bk hb); have n4_ := Aside0.mk (below_step bwS hb); clear HO356 HO362 BK359 BK365 HB; have HO356 := n0_; have HO362 := n1_; have BK359 := n2_; have BK365 := n3_; have HB := n4_; clear n0_ n1_ n2_ n3_ n4_
   (try clear hb)
   (try clear hb2)
   (try clear hk)
   (try clear hi)
   refine hK.out _ _ ⟨(blk_cell BK359.out 0).trans rfl, (blk_cell BK359.out 1).trans rfl, (blk_cell BK365.out 0).trans rfl, (blk_cell BK365.out 1).trans rfl⟩ (fun hHeld => ?_); clear hK K; refine norm_ (a' := ?_) ?_ ?_; rotate_left
   ·show Act.put _ (some 23) _ = _
    simp only [Act.put, List.setIfInBounds_toArray, List.set_cons_zero, List.set_cons_succ, i64_w, i32_w]; rfl
   refine pure_ (i := 3) (N := some 24) (v := ?_) (a' := ?_) (bitsL 19 15) rfl rfl (any_of HT_.out (by kernel_rfl)) (fun _ _ _ h => h) (Or.inl ⟨by rfl, ?_⟩) ?_ ?_; rotate_left
   ·intro w'; go_simp; with_reducible rfl
   rotate_left
   ·simp only [Act.put, List.setIfInBounds_toArray, List.set_cons_zero, List.set_cons_succ, i64_w, i32_w]; rfl
   refine pure_ (i := 4) (N := some 25) (v := undef) (a' := ?_) (bitsL 19 31) rfl rfl (any_of HT_.out (by kernel_rfl)) (fun _ _ _ h => h) (Or.inr ⟨by rfl, rfl⟩) ?_ ?_; rotate_left
   ·simp only [Act.put, List.setIfInBounds_toArray, List.set_cons_zero, List.set_cons_succ, i64_w, i32_w]; rfl
   refine pure_ (i := 5) (N := some 26) (v := undef) (a' := ?_) (bitsL 19 63) rfl rfl (any_of HT_.out (by kernel_rfl)) (fun _ _ _ h => h) (Or.inr ⟨by rfl, rfl⟩) ?_ ?_; rotate_left
   ·simp only [Act.put, List.setIfInBounds_toArray, List.set_cons_zero, List.set_cons_succ, i64_w, i32_w]; rfl
   refine pure_ (i := 6) (N := some 27) (v := undef) (a' := ?_) (bitsL 19 127) rfl rfl (any_of HT_.out (by kernel_rfl)) (fun _ _ _ h => h) (Or.inr ⟨by rfl, rfl⟩) ?_ ?_; rotate_left
   ·simp only [Act.put, List.setIfInBounds_toArray, List.set_cons_zero, List.set_cons_succ, i64_w, i32_w]; rfl
   refine pure_ (i := 7) (N := some 28) (v := ?_) (a' := ?_) (bitsL 19 255) rfl rfl (any_of HT_.out (by kernel_rfl)) (fun _ _ _ h => h) (Or.inl ⟨by rfl, ?_⟩) ?_ ?_; rotate_left
   ·intro w'; go_simp; with_reducible rfl
   rotate_left
   ·simp only [Act.put, List.setIfInBounds_toArray, List.set_cons_zero, List.set_cons_succ, i64_w, i32_w]; rfl
   refine pure_ (i := 8) (N := some 29) (v := ?_) (a' := ?_) (bitsL 19 511) rfl rfl (any_of HT_.out (by kernel_rfl)) (fun _ _ _ h => h) (Or.inl ⟨by rfl, ?_⟩) ?_ ?_; rotate_left
   ·intro w'; go_simp; with_reducible rfl
   rotate_left
   ·simp only [Act.put, List.setIfInBounds_toArray, List.set_cons_zero, List.set_cons_succ, i64_w, i32_w]; rfl
   refine pure_ (i := 9) (N := some 30) (v := undef) (a' := ?_) (bitsL 19 1023) rfl rfl (any_of HT_.out (by kernel_rfl)) (fun _ _ _ h => h) (Or.inr ⟨by rfl, rfl⟩) ?_ ?_; rotate_left
   ·simp only [Act.put, List.setIfInBounds_toArray, List.set_cons_zero, List.set_cons_succ, i64_w, i32_w]; rfl
   refine pure_ (i := 10) (N := some 31) (v := undef) (a' := ?_) (bitsL 19 2047) rfl rfl (any_of HT_.out (by kernel_rfl)) (fun _ _ _ h => h) (Or.inr ⟨by rfl, rfl⟩) ?_ ?_; rotate_left
   ·simp only [Act.put, List.setIfInBounds_toArray, List.set_cons_zero, List.set_cons_succ, i64_w, i32_w]; rfl
   refine pure_ (i := 11) (N := some 32) (v := undef) (a' := ?_) (bitsL 19 4095) rfl rfl (any_of HT_.out (by kernel_rfl)) (fun _ _ _ h => h) (Or.inr ⟨by rfl, rfl⟩) ?_ ?_; rotate_left
   ·simp only [Act.put, List.setIfInBounds_toArray, List.set_cons_zero, List.set_cons_succ, i64_w, i32_w]; rfl
   refine pure_ (i := 12) (N := some 33) (v := undef) (a' := ?_) (bitsL 19 8191) rfl rfl (any_of HT_.out (by kernel_rfl)) (fun _ _ _ h => h) (Or.inr ⟨by rfl, rfl⟩) ?_ ?_; rotate_left
   ·simp only [Act.put, List.setIfInBounds_toArray, List.set_cons_zero, List.set_cons_succ, i64_w, i32_w]; rfl
   refine pure_ (i := 13) (N := some 34) (v := undef) (a' := ?_) (bitsL 19 16383) rfl rfl (any_of HT_.out (by kernel_rfl)) (fun _ _ _ h => h) (Or.inr ⟨by rfl, rfl⟩) ?_ ?_; rotate_left
   ·simp only [Act.put, List.setIfInBounds_toArray, List.set_cons_zero, List.set_cons_succ, i64_w, i32_w]; rfl
   refine pure_ (i := 14) (N := some 35) (v := ?_) (a' := ?_) (bitsL 19 32767) rfl rfl (any_of HT_.out (by kernel_rfl)) (fun _ _ _ h => h) (Or.inl ⟨by rfl, ?_⟩) ?_ ?_; rotate_left
   ·intro w'; go_simp; with_reducible rfl
   rotate_left
   ·simp only [Act.put, List.setIfInBounds_toArray, List.set_cons_zero, List.set_cons_succ, i64_w, i32_w]; rfl
   refine pure_ (i := 15) (N := some 36) (v := ?_) (a' := ?_) (bitsL 19 65535) rfl rfl (any_of HT_.out (by kernel_rfl)) (fun _ _ _ h => h) (Or.inl ⟨by rfl, ?_⟩) ?_ ?_; rotate_left
   ·intro w'; go_simp; with_reducible rfl
   rotate_left
   ·simp only [Act.put, List.setIfInBounds_toArray, List.set_cons_zero, List.set_cons_succ, i64_w, i32_w]; rfl
   refine pure_ (i := 16) (N := some 37) (v := undef) (a' := ?_) (bitsL 19 131071) rfl rfl (any_of HT_.out (by kernel_rfl)) (fun _ _ _ h => h) (Or.inr ⟨by rfl, rfl⟩) ?_ ?_; rotate_left
   ·simp only [Act.put, List.setIfInBounds_toArray, List.set_cons_zero, List.set_cons_succ, i64_w, i32_w]; rfl
   refine pure_ (i := 17) (N := some 38) (v := ?_) (a' := ?_) (bitsL 19 262143) rfl rfl (any_of HT_.out (by kernel_rfl)) (fun _ _ _ h => h) (Or.inl ⟨by rfl, ?_⟩) ?_ ?_; rotate_left
   ·intro w'; go_simp; with_reducible rfl
   rotate_left
   ·simp only [Act.put, List.setIfInBounds_toArray, List.set_cons_zero, List.set_cons_succ, i64_w, i32_w]; rfl
   refine pure_ (i := 18) (N := some 2) (v := ?_) (a' := ?_) (bitsL 19 524287) rfl rfl (any_of HT_.out (by kernel_rfl)) (fun _ _ _ h => h) (Or.inl ⟨by rfl, ?_⟩) ?_ ?_; rotate_left
   ·intro w'; go_simp; with_reducible rfl
   rotate_left
   ·simp only [Act.put, List.setIfInBounds_toArray, List.set_cons_zero, List.set_cons_succ, i64_w, i32_w]; rfl
   refine done_ (done_of HT_.out (by kernel_rfl)) ?_
   try go_wp2
   go_ret
   exact ⟨ew, bwS⟩


end Go.Proofs.YtbjbpgmjijeppaaGreatDoor.Fn
set_option linter.unusedVariables false
set_option linter.unusedSimpArgs false
namespace Go.Proofs.YtbjbpgmjijeppaaGreatDoor.Pl
open Go.RowKit Go.Proofs.YtbjbpgmjijeppaaGreatDoorW.PrintWords Go.Proofs.YtbjbpgmjijeppaaGreatDoor.Fn

/-! head.Parse as a machine over lists of bytes. -/
abbrev Fld := Bytes × Bytes
def toP (f : Fld) : S46 := ⟨str f.1, str f.2⟩
def textB (c : UInt8) : Bool := decide (c.toNat = 9) || (!decide (c.toNat < 32) && !decide (c.toNat = 127))
def textual (s : Bytes) : Bool := s.all textB
def nameB (c : UInt8) : Bool := !decide (c.toNat < 33) && (!decide (126 < c.toNat) && !decide (c.toNat = 58))
def named (s : Bytes) : Bool := s.all nameB && (!decide (s = []) && decide (s.length ≤ 76))
def crlf : Bytes → Option Nat
 | [] => none
 | c :: r => if c = 13 ∧ r.head? = some 10 then some 0 else (crlf r).map (· + 1)
def upto (c : UInt8) : Bytes → Nat
 | [] => 0
 | d :: r => if d = c then 0 else upto c r + 1
def trim (s : Bytes) : Bytes := Lib.trimS s [32, 9]
def trimF (f : Fld) : Fld := (f.1, trim f.2)
def bad (e : Int) : List Fld × Bytes × Int := ([], [], e)
def addLast (l : List Fld) (t : Bytes) : List Fld := l.set (l.length - 1) ((l.getD (l.length - 1) ([], [])).1, (l.getD (l.length - 1) ([], [])).2 ++ t)
def growL (l : List Fld) (t : Bytes) : List Fld × Int :=
 if 998 < t.length then ([], 2) else if textual t = false then ([], 150)
 else if wb (t.headD 0) = true then (if l = [] then ([], 150) else (addLast l t, 0))
 else if upto 58 t = t.length then ([], 150) else if named (t.take (upto 58 t)) = false then ([], 150)
 else if l.length = 100 then ([], 8) else (l ++ [(t.take (upto 58 t), t.drop (upto 58 t + 1))], 0)
def parseM : Nat → Bytes → List Fld → List Fld × Bytes × Int
 | 0, _, _ => bad 9
 | n + 1, s, l => if s = [] then (l.map trimF, [], 0) else match crlf s with
  | none => bad 9
  | some i => if i = 0 then (l.map trimF, s.drop 2, 0)
   else if (growL l (s.take i)).2 = 0 then parseM n (s.drop (i + 2)) (growL l (s.take i)).1 else bad (growL l (s.take i)).2
def parseH (s : Bytes) : List Fld × Bytes × Int := parseM (s.length + 1) s []
theorem crlf_room : ∀ {s : Bytes} {i : Nat}, crlf s = some i → i + 2 ≤ s.length
 | [], i, h => by simp [crlf] at h
 | c :: r, i, h => by
  unfold crlf at h
  split at h
  ·rename_i hc
   injection h with h
   subst h
   cases r with
   | nil => simp at hc
   | cons d r => simp
  ·rw [Option.map_eq_some_iff] at h
   obtain ⟨j, hj, rfl⟩ := h
   have := crlf_room hj
   simp only [List.length_cons]; omega
theorem index_crlf : ∀ (s : Bytes), Lib.index s [13, 10] = (match crlf s with | some i => (i : Int) | none => -1)
 | [] => rfl
 | c :: r => by
  have ih := index_crlf r
  rw [Lib.index, crlf]
  by_cases h : c = 13 ∧ r.head? = some 10
  ·rw [if_pos h]
   obtain ⟨rfl, h2⟩ := h
   cases r with
   | nil => simp at h2
   | cons d r =>
    simp at h2
    subst h2
    rw [if_pos (by simp [List.isPrefixOf])]
    rfl
  ·rw [if_neg h]
   have hp : ([13, 10] : Bytes).isPrefixOf (c :: r) = false := by
    cases r with
    | nil => simp [List.isPrefixOf]
    | cons d r =>
     simp only [List.head?_cons, Option.some.injEq] at h
     simp [List.isPrefixOf]
     intro h1 h2
     exact h ⟨h1.symm, h2.symm⟩
   rw [hp, if_neg (by decide), ih]
   cases crlf r with
   | none => rfl
   | some i =>
    simp only [Option.map_some]
    rw [if_neg (by first | (simp; done) | (simp; omega))]
    show (i : Int) + 1 = ((i + 1 : Nat) : Int)
    omega
theorem cut_crlf (s : ByteArray) (h : s.size ≤ 1000000000) : strings_Cut.f s (⟨#[13, 10]⟩ : ByteArray) = some (match crlf (bs s) with
  | some i => (str ((bs s).take i), str ((bs s).drop (i + 2)), true)
  | none => (s, str [], false)) := by
 unfold strings_Cut.f
 rw [if_pos (by omega)]
 congr 1
 have e : Lib.cut s.data.toList (⟨#[13, 10]⟩ : ByteArray).data.toList = Lib.cut (bs s) [13, 10] := rfl
 rw [e]
 unfold Lib.cut
 rw [index_crlf]
 cases crlf (bs s) with
 | none => simp [str_bs]
 | some i => simp
theorem index_one (c : UInt8) : ∀ (s : Bytes), Lib.index s [c] = (if upto c s = s.length then -1 else (upto c s : Int))
 | [] => rfl
 | d :: r => by
  have ih := index_one c r
  rw [Lib.index, upto]
  by_cases h : d = c
  ·subst h
   rw [if_pos (by simp [List.isPrefixOf]), if_pos rfl, if_neg (by simp)]
   rfl
  ·rw [if_neg (by simp [List.isPrefixOf]; exact fun e => h e.symm), if_neg h, ih]
   simp only [List.length_cons]
   by_cases h2 : upto c r = r.length
   ·rw [if_pos h2, if_pos (by decide), if_pos (by omega)]
   ·rw [if_neg h2, if_neg (by first | (simp; done) | (simp; omega)), if_neg (by omega)]; omega
theorem upto_le (c : UInt8) : ∀ s : Bytes, upto c s ≤ s.length
 | [] => by simp [upto]
 | d :: r => by
  have := upto_le c r
  unfold upto
  split <;> simp only [List.length_cons] <;> omega
theorem cut_one (s : ByteArray) (h : s.size ≤ 1000000000) : strings_Cut.f s (⟨#[58]⟩ : ByteArray) = some (if upto 58 (bs s) = (bs s).length then (s, str [], false) else (str ((bs s).take (upto 58 (bs s))), str ((bs s).drop (upto 58 (bs s) + 1)), true)) := by
 unfold strings_Cut.f
 rw [if_pos (by omega)]
 congr 1
 have e : Lib.cut s.data.toList (⟨#[58]⟩ : ByteArray).data.toList = Lib.cut (bs s) [58] := rfl
 rw [e]
 unfold Lib.cut
 rw [index_one]
 by_cases h2 : upto 58 (bs s) = (bs s).length
 ·rw [if_pos h2, if_neg (by decide), if_pos h2]; simp [str_bs]
 ·rw [if_neg h2, if_pos (by omega), if_neg h2]; simp
theorem textual_rounds (s : ByteArray) (hs : s.size ≤ 1000000000) : ∀ (l : Bytes) (k i : Nat), (bs s).drop i = l → i ≤ s.size → l.length < k → head_text.l0 k s (s.size : Int) (i : Int) = some (l.all textB) := by
 intro l
 induction l with
 | nil =>
  intro k i h hi hk
  obtain ⟨k, rfl⟩ : ∃ m, k = m + 1 := ⟨k - 1, by omega⟩
  have := drop_nil h
  rw [bs_length] at this
  rw [head_text.l0, if_neg (by omega)]
  rfl
 | cons c r ih =>
  intro k i h hi hk
  obtain ⟨k, rfl⟩ : ∃ m, k = m + 1 := ⟨k - 1, by omega⟩
  obtain ⟨h1, h2, h3, h4⟩ := drop_cons h
  rw [bs_length] at h1
  have hn := ih k (i + 1) h3 (by omega) (by simp only [List.length_cons] at hk; omega)
  rw [head_text.l0, if_pos (by omega), if_pos (by omega), if_pos (by omega), bt_drop h, wrap_succ i (by omega), hn]
  rw [List.all_cons]
  unfold textB
  by_cases a : c.toNat < 32
  ·rw [if_pos (by omega)]
   by_cases b : c.toNat = 9
   ·rw [if_pos (by omega), if_neg (by omega)]; simp [b]
   ·rw [if_neg (by omega)]; simp [a, b]
  ·rw [if_neg (by omega)]
   by_cases b : c.toNat = 127
   ·rw [if_pos (by omega)]; simp [b]
   ·rw [if_neg (by omega)]; simp [a, b]
theorem headtext_is (s : ByteArray) (hs : s.size ≤ 1000000000) (k : Nat) (hk : s.size < k) : head_text.f k s = some (textual (bs s)) := by
 unfold head_text.f
 exact textual_rounds s hs (bs s) k 0 (by simp) (by omega) (by rw [bs_length]; exact hk)
theorem named_rounds (s : ByteArray) (hs : s.size ≤ 1000000000) : ∀ (l : Bytes) (k i : Nat), (bs s).drop i = l → i ≤ s.size → l.length < k → head_named.l0 k s (s.size : Int) (i : Int) = some (l.all nameB && (!decide (bs s = []) && decide ((bs s).length ≤ 76))) := by
 intro l
 induction l with
 | nil =>
  intro k i h hi hk
  obtain ⟨k, rfl⟩ : ∃ m, k = m + 1 := ⟨k - 1, by omega⟩
  have := drop_nil h
  rw [bs_length] at this
  rw [head_named.l0, if_neg (by omega), toList_bs]
  by_cases e : bs s = []
  ·rw [if_pos e]; simp [e]
  ·rw [if_neg e, bs_length]
   simp [e]
   omega
 | cons c r ih =>
  intro k i h hi hk
  obtain ⟨k, rfl⟩ : ∃ m, k = m + 1 := ⟨k - 1, by omega⟩
  obtain ⟨h1, h2, h3, h4⟩ := drop_cons h
  rw [bs_length] at h1
  have hn := ih k (i + 1) h3 (by omega) (by simp only [List.length_cons] at hk; omega)
  rw [head_named.l0, if_pos (by omega), if_pos (by omega), if_pos (by omega), bt_drop h, wrap_succ i (by omega), hn]
  rw [List.all_cons]
  have hnb : nameB c = (!decide (c.toNat < 33) && (!decide (126 < c.toNat) && !decide (c.toNat = 58))) := rfl
  by_cases a : c.toNat < 33
  ·rw [if_pos (by omega), hnb]; simp [a]
  ·rw [if_neg (by omega)]
   by_cases b : 126 < c.toNat
   ·rw [if_pos (by omega), hnb]; simp [b]
   ·rw [if_neg (by omega)]
    by_cases d : c.toNat = 58
    ·rw [if_pos (by omega), hnb]; simp [d]
    ·rw [if_neg (by omega), hnb]; simp [a, b, d]
theorem headnamed_is (s : ByteArray) (hs : s.size ≤ 1000000000) (k : Nat) (hk : s.size < k) : head_named.f k s = some (named (bs s)) := by
 unfold head_named.f
 exact named_rounds s hs (bs s) k 0 (by simp) (by omega) (by rw [bs_length]; exact hk)
theorem wb_nat (c : UInt8) : wb c = (decide (c.toNat = 32) || decide (c.toNat = 9)) := by
 unfold wb
 simp only [List.contains_cons, List.contains_nil, Bool.or_false]
 have e : ∀ n : UInt8, (c == n) = decide (c.toNat = n.toNat) := fun n => by
  rw [Bool.eq_iff_iff, beq_iff_eq, decide_eq_true_iff]
  exact ⟨fun h => by rw [h], fun h => UInt8.toNat_inj.1 h⟩
 rw [e, e]
 rfl
theorem headwhite_is (s : ByteArray) : head_white.f s = some (wb ((bs s).headD 0)) := by
 unfold head_white.f
 rw [toList_bs]
 cases h : bs s with
 | nil => rw [if_pos rfl]; rfl
 | cons c r =>
  have hb : bt s 0 = (c.toNat : Int) := bt_drop (i := 0) (by rw [List.drop_zero]; exact h)
  have hz : 0 < (s.size : Int) := by
   have := bs_length s
   rw [h, List.length_cons] at this
   omega
  rw [if_neg (by simp), if_pos hz, hb, List.headD_cons, wb_nat]
  by_cases a : c.toNat = 32
  ·rw [if_pos (by omega)]; simp [a]
  ·rw [if_neg (by omega)]
   simp only [a, decide_false, Bool.false_or]
   congr 1
   rw [Bool.eq_iff_iff, beq_iff_eq, decide_eq_true_iff]
   omega
end Go.Proofs.YtbjbpgmjijeppaaGreatDoor.Pl
set_option linter.unusedVariables false
set_option linter.unusedSimpArgs false
namespace Go.Proofs.YtbjbpgmjijeppaaGreatDoor.Pl
open Go.RowKit Go.Proofs.YtbjbpgmjijeppaaGreatDoorW.PrintWords Go.Proofs.YtbjbpgmjijeppaaGreatDoor.Fn

/-! head.Parse computes the machine. -/
theorem rd_toP (l : List Fld) (i : Nat) : rd_T46 (l.map toP) (i : Int) = toP (l.getD i ([], [])) := by
 unfold rd_T46
 rw [Int.toNat_natCast, List.getD_eq_getElem?_getD, List.getD_eq_getElem?_getD, List.getElem?_map]
 cases l[i]? with
 | none => rfl
 | some x => rfl
theorem last_idx (n : Nat) (h : n ≤ 1000000000) (h0 : 0 < n) : wrap64 ((n : Int) - 1) = ((n - 1 : Nat) : Int) := by
 rw [wrap_id (by omega) (by omega)]
 omega
theorem headgrow_is (l : List Fld) (t : ByteArray) (ht : t.size ≤ 1000000000) (hl : l.length ≤ 1000000000) (hv : (l.getD (l.length - 1) ([], [])).2.length ≤ 1000000000) (k : Nat) (hk : t.size + 10 < k) :
  head_grow.f k (l.map toP) t = some ((growL l (bs t)).1.map toP, (growL l (bs t)).2) := by
 obtain ⟨k, rfl⟩ : ∃ m, k = m + 2 := ⟨k - 2, by omega⟩
 have hb := bs_length t
 unfold head_grow.f growL
 by_cases h1 : (t.size : Int) > 998
 ·rw [if_pos h1, if_pos (by omega)]; rfl
 rw [if_neg h1, if_neg (by omega), headtext_is t ht _ (by omega), Option.bind_some]
 cases hx : textual (bs t) with
 | false => rw [if_neg (by decide), if_pos rfl, head_grow.j0, if_pos rfl]; rfl
 | true =>
  rw [if_pos rfl, if_neg (by decide), headwhite_is, Option.bind_some]
  cases hw : wb ((bs t).headD 0) with
  | true =>
   rw [if_pos rfl, if_pos rfl, head_grow.j0]
   by_cases h0 : l = []
   ·subst h0
    rw [if_pos (by rfl), if_pos rfl]; rfl
   ·have hlen : 0 < l.length := by
     cases l with
     | nil => exact absurd rfl h0
     | cons a l => simp
    rw [if_neg (by simp [h0]), if_neg h0, headwhite_is, hw, Option.bind_some, if_pos rfl, List.length_map, last_idx _ hl hlen, if_pos (by omega), if_pos (by omega), rd_toP]
    have hz : (toP (l.getD (l.length - 1) ([], []))).f1.size = (l.getD (l.length - 1) ([], [])).2.length := str_size _
    rw [if_pos (by rw [hz]; omega), Int.toNat_natCast]
    have e : (⟨(toP (l.getD (l.length - 1) ([], []))).f0, (toP (l.getD (l.length - 1) ([], []))).f1 ++ t⟩ : S46) = toP ((l.getD (l.length - 1) ([], [])).1, (l.getD (l.length - 1) ([], [])).2 ++ bs t) := by
     show (⟨_, str _ ++ t⟩ : S46) = ⟨_, str (_ ++ bs t)⟩
     rw [← str_app, str_bs]
     rfl
    rw [e, ← List.map_set]
    rfl
  | false =>
   rw [if_neg (by decide), if_neg (by decide), head_grow.j0, if_neg (by decide), headwhite_is, hw, Option.bind_some, if_neg (by decide), cut_one t ht, Option.bind_some]
   have hu := upto_le 58 (bs t)
   by_cases hc : upto 58 (bs t) = (bs t).length
   ·rw [if_pos hc, if_pos hc]
    simp only []
    rw [if_neg (by decide), head_grow.j1, if_pos rfl]; rfl
   ·rw [if_neg hc, if_neg hc]
    simp only []
    have hn := headnamed_is (str ((bs t).take (upto 58 (bs t)))) (by rw [str_size, List.length_take]; omega) (k + 1) (by rw [str_size, List.length_take]; omega)
    rw [if_pos trivial, hn, bs_str, Option.bind_some, head_grow.j1]
    cases hm : named ((bs t).take (upto 58 (bs t))) with
    | false => rw [if_pos (by decide), if_pos rfl]; rfl
    | true =>
     rw [if_neg (by decide), List.length_map]
     by_cases h100 : l.length = 100
     ·rw [if_pos (by omega), if_neg (by decide), if_pos h100]; rfl
     ·rw [if_neg (by omega), if_pos (by omega), if_neg (by decide), if_neg h100, List.map_append]
      rfl
theorem headtrim_is (s : ByteArray) (hs : s.size ≤ 1000000000) : head_trim.f s = some (str (trim (bs s))) := by
 unfold head_trim.f strings_Trim.f
 rw [if_pos (by omega), if_pos (by decide), if_pos (by decide)]
 rfl
theorem trim_step (m : List Fld) (i : Nat) (h : i < m.length) : (m.set i (trimF (m.getD i ([], [])))).take (i + 1) ++ ((m.set i (trimF (m.getD i ([], [])))).drop (i + 1)).map trimF = m.take i ++ (m.drop i).map trimF := by
 have h1 : (m.set i (trimF (m.getD i ([], [])))).take (i + 1) = m.take i ++ [trimF (m.getD i ([], []))] := by
  rw [List.take_set, List.take_add_one, List.getElem?_eq_getElem h, List.set_append, if_neg (by rw [List.length_take]; omega), List.length_take, Nat.min_eq_left (by omega)]
  simp
 have h2 : (m.set i (trimF (m.getD i ([], [])))).drop (i + 1) = m.drop (i + 1) := by
  rw [List.drop_set, if_pos (by omega)]
 rw [h1, h2, List.drop_eq_getElem_cons h, List.map_cons, List.append_assoc, List.getD_eq_getElem?_getD, List.getElem?_eq_getElem h]
 rfl
theorem trim_rounds (b : ByteArray) : ∀ (n : Nat) (m : List Fld) (i k : Nat), m.length = i + n → n < k → m.length ≤ 1000000000 → (∀ f ∈ m, f.2.length ≤ 1000000000) →
  head_Parse.l1 k (m.map toP) b (m.length : Int) (i : Int) = some ((m.take i ++ (m.drop i).map trimF).map toP, b, 0) := by
 intro n
 induction n with
 | zero =>
  intro m i k h hk hm hf
  obtain ⟨k, rfl⟩ : ∃ q, k = q + 1 := ⟨k - 1, by omega⟩
  rw [head_Parse.l1, if_neg (by omega), List.take_of_length_le (by omega), List.drop_of_length_le (by omega)]
  simp
 | succ n ih =>
  intro m i k h hk hm hf
  obtain ⟨k, rfl⟩ : ∃ q, k = q + 1 := ⟨k - 1, by omega⟩
  have hi : i < m.length := by omega
  have hg : m.getD i ([], []) ∈ m := by rw [List.getD_eq_getElem?_getD, List.getElem?_eq_getElem hi]; exact List.getElem_mem hi
  have ht := headtrim_is (str (m.getD i ([], [])).2) (by rw [str_size]; exact hf _ hg)
  have hn := ih (m.set i (trimF (m.getD i ([], [])))) (i + 1) k (by rw [List.length_set]; omega) (by omega) (by rw [List.length_set]; exact hm) (by
   intro f hfm
   rcases List.mem_or_eq_of_mem_set hfm with h1 | h1
   ·exact hf f h1
   ·subst h1
    have h2 : (trim (m.getD i ([], [])).2).length ≤ (m.getD i ([], [])).2.length := by
     unfold trim Lib.trimS Lib.trimLeftS Lib.trimRightS
     have e1 := (List.dropWhile_sublist (fun b => ([32, 9] : Bytes).contains b) (l := (List.dropWhile (fun b => ([32, 9] : Bytes).contains b) (m.getD i ([], [])).2.reverse).reverse)).length_le
     have e2 := (List.dropWhile_sublist (fun b => ([32, 9] : Bytes).contains b) (l := (m.getD i ([], [])).2.reverse)).length_le
     rw [List.length_reverse] at e1 e2
     exact Nat.le_trans e1 e2
    exact Nat.le_trans h2 (hf _ hg))
  rw [List.length_set] at hn
  rw [head_Parse.l1, if_pos (by omega), if_pos (by omega), if_pos (by rw [List.length_map]; omega), rd_toP]
  show (head_trim.f (str (m.getD i ([], [])).2)).bind _ = _
  rw [ht, Option.bind_some, bs_str, Int.toNat_natCast, wrap_succ i (by omega)]
  have e : (m.map toP).set i (⟨(toP (m.getD i ([], []))).f0, str (trim (m.getD i ([], [])).2)⟩ : S46) = (m.set i (trimF (m.getD i ([], [])))).map toP := by
   rw [List.map_set]; rfl
  rw [e, hn, trim_step m i hi]
theorem parse_end (b : ByteArray) (l : List Fld) (k : Nat) (hk : l.length + 2 < k) (hl : l.length ≤ 1000000000) (hf : ∀ f ∈ l, f.2.length ≤ 1000000000) : head_Parse.j1 k (l.map toP) b = some ((l.map trimF).map toP, b, 0) := by
 obtain ⟨k, rfl⟩ : ∃ q, k = q + 1 := ⟨k - 1, by omega⟩
 rw [head_Parse.j1, List.length_map]
 have := trim_rounds b l.length l 0 k (by omega) (by omega) hl hf
 simpa using this
def fits (T : Nat) (l : List Fld) (n : Nat) : Prop := l.length + n ≤ T ∧ ∀ f ∈ l, f.1.length + f.2.length + n ≤ T
theorem getD_last_mem {l : List Fld} (h : l ≠ []) : l.getD (l.length - 1) ([], []) ∈ l := by
 have h0 : l.length - 1 < l.length := by
  cases l with
  | nil => exact absurd rfl h
  | cons a l => simp
 rw [List.getD_eq_getElem?_getD, List.getElem?_eq_getElem h0]
 exact List.getElem_mem h0
theorem grow_fits {T n : Nat} {l : List Fld} {t : Bytes} (h : fits T l (t.length + 2 + n)) (h0 : (growL l t).2 = 0) : fits T (growL l t).1 n := by
 unfold growL at h0 ⊢
 by_cases h1 : 998 < t.length
 ·rw [if_pos h1] at h0; exact absurd h0 (by simp)
 rw [if_neg h1] at h0 ⊢
 by_cases h2 : textual t = false
 ·rw [if_pos h2] at h0; exact absurd h0 (by simp)
 rw [if_neg h2] at h0 ⊢
 by_cases h3 : wb (t.headD 0) = true
 ·rw [if_pos h3] at h0 ⊢
  by_cases h4 : l = []
  ·rw [if_pos h4] at h0; exact absurd h0 (by simp)
  ·rw [if_neg h4] at h0 ⊢
   refine ⟨by have := h.1; unfold addLast; rw [List.length_set]; omega, fun f hf => ?_⟩
   unfold addLast at hf
   rcases List.mem_or_eq_of_mem_set hf with hf | hf
   ·have := h.2 f hf; omega
   ·subst hf
    have := h.2 _ (getD_last_mem h4)
    show (l.getD (l.length - 1) ([], [])).1.length + ((l.getD (l.length - 1) ([], [])).2 ++ t).length + n ≤ T
    rw [List.length_append]
    omega
 ·rw [if_neg h3] at h0 ⊢
  by_cases h4 : upto 58 t = t.length
  ·rw [if_pos h4] at h0; exact absurd h0 (by simp)
  rw [if_neg h4] at h0 ⊢
  by_cases h5 : named (t.take (upto 58 t)) = false
  ·rw [if_pos h5] at h0; exact absurd h0 (by simp)
  rw [if_neg h5] at h0 ⊢
  by_cases h6 : l.length = 100
  ·rw [if_pos h6] at h0; exact absurd h0 (by simp)
  rw [if_neg h6] at h0 ⊢
  refine ⟨by have := h.1; rw [List.length_append]; simp only [List.length_cons, List.length_nil]; omega, fun f hf => ?_⟩
  rcases List.mem_append.1 hf with hf | hf
  ·have := h.2 f hf; omega
  ·rw [List.mem_singleton] at hf
   subst hf
   have := h.1
   simp only [List.length_take, List.length_drop]
   omega
theorem parse_rounds (T : Nat) (hT : T ≤ 100000000) : ∀ (n : Nat) (s : Bytes) (l : List Fld) (k : Nat), s.length < n → fits T l s.length → T + n + 20 < k →
  head_Parse.l0 k (str s) (l.map toP) (str []) = some ((parseM n s l).1.map toP, str (parseM n s l).2.1, (parseM n s l).2.2) := by
 intro n
 induction n with
 | zero => intro s l k h; omega
 | succ n ih =>
  intro s l k hn hf hk
  obtain ⟨k, rfl⟩ : ∃ q, k = q + 1 := ⟨k - 1, by omega⟩
  have hlen := hf.1
  have hfm : ∀ f ∈ l, f.2.length ≤ 1000000000 := fun f h => by have := hf.2 f h; omega
  rw [head_Parse.l0, parseM, toList_str]
  by_cases h0 : s = []
  ·rw [if_pos h0, if_pos h0, parse_end _ l k (by omega) (by omega) hfm]
  rw [if_neg h0, if_neg h0, cut_crlf (str s) (by rw [str_size]; omega), Option.bind_some, bs_str]
  cases hc : crlf s with
  | none => simp only []; rw [if_neg (by decide)]; rfl
  | some i =>
   have hr := crlf_room hc
   simp only []
   rw [if_pos trivial, toList_str]
   by_cases hi : i = 0
   ·subst hi
    rw [if_pos (by rw [List.take_zero]), if_pos rfl, parse_end _ l k (by omega) (by omega) hfm]
   ·have hne : s.take i ≠ [] := by
     intro e
     have := congrArg List.length e
     rw [List.length_take, List.length_nil] at this
     omega
    have hlast : (l.getD (l.length - 1) ([], [])).2.length ≤ 1000000000 := by
     by_cases e : l = []
     ·subst e; simp
     ·exact hfm _ (getD_last_mem e)
    rw [if_neg hne, if_neg hi, headgrow_is l (str (s.take i)) (by rw [str_size, List.length_take]; omega) (by omega) hlast k (by rw [str_size, List.length_take]; omega), Option.bind_some, bs_str]
    simp only []
    by_cases hg : (growL l (s.take i)).2 = 0
    ·rw [if_pos hg, if_pos hg]
     have hd : (s.drop (i + 2)).length = s.length - (i + 2) := List.length_drop
     refine ih _ _ k (by omega) (grow_fits ?_ hg) (by omega)
     rw [hd, List.length_take, Nat.min_eq_left (by omega)]
     have e : i + 2 + (s.length - (i + 2)) = s.length := by omega
     rw [e]
     exact hf
    ·rw [if_neg hg, if_neg hg]
     rfl
theorem headparse_is (s : ByteArray) (hs : s.size ≤ 100000000) (k : Nat) (hk : 2 * s.size + 40 < k) :
  head_Parse.f k s = some ((parseH (bs s)).1.map toP, str (parseH (bs s)).2.1, (parseH (bs s)).2.2) := by
 have hb := bs_length s
 unfold head_Parse.f parseH
 have := parse_rounds s.size hs ((bs s).length + 1) (bs s) [] k (by omega) ⟨by simp; omega, by simp⟩ (by omega)
 rw [str_bs] at this
 exact this
end Go.Proofs.YtbjbpgmjijeppaaGreatDoor.Pl
set_option linter.unusedVariables false
set_option linter.unusedSimpArgs false
namespace Go.Proofs.YtbjbpgmjijeppaaGreatDoor.Pl
end Go.Proofs.YtbjbpgmjijeppaaGreatDoor.Pl
namespace Go.Proofs.YtbjbpgmjijeppaaGreatDoor.Fn
open Go.RowKit Go.Shelf Go.Proofs.YtbjbpgmjijeppaaGreatDoorW.PrintWords

end Go.Proofs.YtbjbpgmjijeppaaGreatDoor.Fn
set_option linter.unusedVariables false
set_option linter.unusedSimpArgs false
namespace Go.Proofs.YtbjbpgmjijeppaaGreatDoor.Pl
end Go.Proofs.YtbjbpgmjijeppaaGreatDoor.Pl
namespace Go.Proofs.YtbjbpgmjijeppaaGreatDoor.Fn
open Go.RowKit Go.Shelf Go.Proofs.YtbjbpgmjijeppaaGreatDoorW.PrintWords Go.Proofs.YtbjbpgmjijeppaaGreatDoorW.PrintLast Go.Proofs.YtbjbpgmjijeppaaGreatDoorW.PrintMore

attribute [local go_sem] max2_int min2_int max_two min_two max_three min_three max_four min_four
attribute [local go_sem] Oper.semAt_some
end Go.Proofs.YtbjbpgmjijeppaaGreatDoor.Fn
set_option linter.unusedVariables false
set_option linter.unusedSimpArgs false
namespace Go.Proofs.YtbjbpgmjijeppaaGreatDoor.Pl
open Go.RowKit Go.Proofs.YtbjbpgmjijeppaaGreatDoorW.PrintWords Go.Proofs.YtbjbpgmjijeppaaGreatDoor.Fn

/-! The document's Parse computes the machine. -/
def toR (f : Fld) : S67 := ⟨str f.1, str f.2⟩
theorem rd_toR (l : List Fld) (i : Nat) : rd_T67 (l.map toR) (i : Int) = toR (l.getD i ([], [])) := by
 unfold rd_T67
 rw [Int.toNat_natCast, List.getD_eq_getElem?_getD, List.getD_eq_getElem?_getD, List.getElem?_map]
 cases l[i]? with
 | none => rfl
 | some x => rfl
theorem crlf_two (c d : UInt8) (r : Bytes) : crlf (c :: d :: r) = if c = 13 ∧ d = 10 then some 0 else (crlf (d :: r)).map (· + 1) := by
 show (if c = 13 ∧ (d :: r).head? = some 10 then some 0 else (crlf (d :: r)).map (· + 1)) = _
 simp only [List.head?_cons, Option.some.injEq]
theorem line_rounds (s : ByteArray) (hs : s.size ≤ 1000000000) : ∀ (l : Bytes) (k i : Nat), (bs s).drop i = l → i ≤ s.size → l.length < k →
  bulletinref15_line.l0 k s (i : Int) = some (match crlf l with | some j => ((i + j : Nat) : Int) | none => -1) := by
 intro l
 induction l with
 | nil =>
  intro k i h hi hk
  obtain ⟨k, rfl⟩ : ∃ m, k = m + 1 := ⟨k - 1, by omega⟩
  have := drop_nil h
  rw [bs_length] at this
  rw [bulletinref15_line.l0, wrap_succ i (by omega), if_neg (by omega)]
  rfl
 | cons c r ih =>
  intro k i h hi hk
  obtain ⟨k, rfl⟩ : ∃ m, k = m + 1 := ⟨k - 1, by omega⟩
  obtain ⟨h1, h2, h3, h4⟩ := drop_cons h
  rw [bs_length] at h1
  cases r with
  | nil =>
   have h5 := drop_nil h3
   rw [bs_length] at h5
   rw [bulletinref15_line.l0, wrap_succ i (by omega), if_neg (by omega)]
   simp [crlf]
  | cons d r =>
   obtain ⟨g1, g2, g3, g4⟩ := drop_cons h3
   rw [bs_length] at g1
   have hn := ih k (i + 1) h3 (by omega) (by simp only [List.length_cons] at hk ⊢; omega)
   have hrec : (match crlf (d :: r) with | some j => ((i + 1 + j : Nat) : Int) | none => -1) = (match (crlf (d :: r)).map (· + 1) with | some j => ((i + j : Nat) : Int) | none => -1) := by
    cases crlf (d :: r) with
    | none => rfl
    | some j => show ((i + 1 + j : Nat) : Int) = ((i + (j + 1) : Nat) : Int); omega
   rw [bulletinref15_line.l0, wrap_succ i (by omega), if_pos (by omega), if_pos (by omega), if_pos (by omega), bt_drop h, bt_drop h3, hn, hrec]
   have e : ∀ (x n : UInt8), ((x.toNat : Int) = (n.toNat : Int)) = (x = n) := fun x n => propext ⟨fun h => UInt8.toNat_inj.1 (by omega), fun h => by rw [h]⟩
   have e13 : ((c.toNat : Int) = 13) = (c = 13) := e c 13
   have e10 : ((d.toNat : Int) = 10) = (d = 10) := e d 10
   rw [crlf_two]
   simp only [e13, e10]
   by_cases a : c = 13
   ·rw [if_pos a, if_pos (by omega)]
    by_cases b : d = 10
    ·rw [if_pos b, if_pos ⟨a, b⟩]; rfl
    ·rw [if_neg b, if_neg (fun h => b h.2)]
   ·rw [if_neg a, if_neg (fun h => a h.1)]
theorem refline_is (s : ByteArray) (hs : s.size ≤ 1000000000) (k : Nat) (hk : s.size < k) : bulletinref15_line.f k s = some (match crlf (bs s) with | some j => (j : Int) | none => -1) := by
 unfold bulletinref15_line.f
 have := line_rounds s hs (bs s) k 0 (by simp) (by omega) (by rw [bs_length]; exact hk)
 simpa using this
theorem rtextual_rounds (s : ByteArray) (hs : s.size ≤ 1000000000) : ∀ (l : Bytes) (k i : Nat), (bs s).drop i = l → i ≤ s.size → l.length < k → bulletinref15_textual.l0 k s (i : Int) = some (l.all textB) := by
 intro l
 induction l with
 | nil =>
  intro k i h hi hk
  obtain ⟨k, rfl⟩ : ∃ m, k = m + 1 := ⟨k - 1, by omega⟩
  have := drop_nil h
  rw [bs_length] at this
  rw [bulletinref15_textual.l0, if_neg (by omega)]
  rfl
 | cons c r ih =>
  intro k i h hi hk
  obtain ⟨k, rfl⟩ : ∃ m, k = m + 1 := ⟨k - 1, by omega⟩
  obtain ⟨h1, h2, h3, h4⟩ := drop_cons h
  rw [bs_length] at h1
  have hn := ih k (i + 1) h3 (by omega) (by simp only [List.length_cons] at hk; omega)
  rw [bulletinref15_textual.l0, if_pos (by omega), if_pos (by omega), bt_drop h, wrap_succ i (by omega), hn, List.all_cons]
  unfold textB
  by_cases b : c.toNat = 9
  ·rw [if_pos (by omega)]; simp [b]
  ·rw [if_neg (by omega)]
   by_cases a : c.toNat < 32
   ·rw [if_pos (by omega)]; simp [a, b]
   ·rw [if_neg (by omega)]
    by_cases d : c.toNat = 127
    ·rw [if_pos (by omega)]; simp [d]
    ·rw [if_neg (by omega)]; simp [a, b, d]
theorem reftextual_is (s : ByteArray) (hs : s.size ≤ 1000000000) (k : Nat) (hk : s.size < k) : bulletinref15_textual.f k s = some (textual (bs s)) := by
 unfold bulletinref15_textual.f
 exact rtextual_rounds s hs (bs s) k 0 (by simp) (by omega) (by rw [bs_length]; exact hk)
theorem rnamed_rounds (s : ByteArray) (hs : s.size ≤ 1000000000) : ∀ (l : Bytes) (k i : Nat), (bs s).drop i = l → i ≤ s.size → l.length < k → bulletinref15_named.l0 k s (i : Int) = some (l.all nameB && (!decide (bs s = []) && decide ((bs s).length ≤ 76))) := by
 intro l
 induction l with
 | nil =>
  intro k i h hi hk
  obtain ⟨k, rfl⟩ : ∃ m, k = m + 1 := ⟨k - 1, by omega⟩
  have := drop_nil h
  rw [bs_length] at this
  have hb := bs_length s
  rw [bulletinref15_named.l0, if_neg (by omega)]
  by_cases e : bs s = []
  ·rw [e, List.length_nil] at hb
   rw [if_neg (by omega)]; simp [e]
  ·have : 0 < (bs s).length := by
    cases h : bs s with
    | nil => exact absurd h e
    | cons a b => simp
   rw [if_pos (by omega), bs_length]
   simp [e]
   omega
 | cons c r ih =>
  intro k i h hi hk
  obtain ⟨k, rfl⟩ : ∃ m, k = m + 1 := ⟨k - 1, by omega⟩
  obtain ⟨h1, h2, h3, h4⟩ := drop_cons h
  rw [bs_length] at h1
  have hn := ih k (i + 1) h3 (by omega) (by simp only [List.length_cons] at hk; omega)
  rw [bulletinref15_named.l0, if_pos (by omega), if_pos (by omega), bt_drop h, wrap_succ i (by omega), hn, List.all_cons]
  have hnb : nameB c = (!decide (c.toNat < 33) && (!decide (126 < c.toNat) && !decide (c.toNat = 58))) := rfl
  by_cases a : c.toNat < 33
  ·rw [if_pos (by omega), hnb]; simp [a]
  ·rw [if_neg (by omega)]
   by_cases b : 126 < c.toNat
   ·rw [if_pos (by omega), hnb]; simp [b]
   ·rw [if_neg (by omega)]
    by_cases d : c.toNat = 58
    ·rw [if_pos (by omega), hnb]; simp [d]
    ·rw [if_neg (by omega), hnb]; simp [a, b, d]
theorem refnamed_is (s : ByteArray) (hs : s.size ≤ 1000000000) (k : Nat) (hk : s.size < k) : bulletinref15_named.f k s = some (named (bs s)) := by
 unfold bulletinref15_named.f
 exact rnamed_rounds s hs (bs s) k 0 (by simp) (by omega) (by rw [bs_length]; exact hk)
theorem refblank_is (c : UInt8) : bulletinref15_blank.f (c.toNat : Int) = some (wb c) := by
 unfold bulletinref15_blank.f
 rw [wb_nat]
 by_cases a : c.toNat = 32
 ·rw [if_pos (by omega)]; simp [a]
 ·rw [if_neg (by omega)]
  simp only [a, decide_false, Bool.false_or]
  congr 1
  rw [Bool.eq_iff_iff, beq_iff_eq, decide_eq_true_iff]
  omega
/-! Trim -/
def ltrim (s : Bytes) : Bytes := s.dropWhile wb
def rtrim (s : Bytes) : Bytes := (s.reverse.dropWhile wb).reverse
theorem rtrim_cons (c : UInt8) (r : Bytes) : rtrim (c :: r) = if rtrim r = [] then (if wb c = true then [] else [c]) else c :: rtrim r := by
 unfold rtrim
 rw [List.reverse_cons, List.dropWhile_append]
 by_cases h : (r.reverse.dropWhile wb) = []
 ·rw [h, if_pos (by simp), if_pos (by simp)]
  by_cases hc : wb c = true
  ·rw [if_pos hc, List.dropWhile_cons_of_pos hc]; rfl
  ·rw [if_neg hc, List.dropWhile_cons_of_neg hc]; rfl
 ·rw [if_neg (by simpa using h), if_neg (by simpa using h)]
  simp
theorem trim_comm : ∀ s : Bytes, ltrim (rtrim s) = rtrim (ltrim s)
 | [] => rfl
 | c :: r => by
  have ih := trim_comm r
  by_cases hc : wb c = true
  ·have e : ltrim (c :: r) = ltrim r := List.dropWhile_cons_of_pos hc
   rw [e, ← ih, rtrim_cons]
   by_cases h : rtrim r = []
   ·rw [if_pos h, if_pos hc, h]
   ·rw [if_neg h]; exact List.dropWhile_cons_of_pos hc
  ·have e : ltrim (c :: r) = c :: r := List.dropWhile_cons_of_neg hc
   rw [e, rtrim_cons]
   by_cases h : rtrim r = []
   ·rw [if_pos h, if_neg hc]; exact List.dropWhile_cons_of_neg hc
   ·rw [if_neg h]; exact List.dropWhile_cons_of_neg hc
theorem trim_eq (s : Bytes) : trim s = rtrim (ltrim s) := by rw [← trim_comm]; rfl
theorem rtrim_snoc (l : Bytes) (c : UInt8) : rtrim (l ++ [c]) = if wb c = true then rtrim l else l ++ [c] := by
 unfold rtrim
 rw [List.reverse_append, List.reverse_singleton, List.singleton_append]
 by_cases hc : wb c = true
 ·rw [if_pos hc, List.dropWhile_cons_of_pos hc]
 ·rw [if_neg hc, List.dropWhile_cons_of_neg hc]; simp
theorem rtrim_rounds : ∀ (n : Nat) (l : Bytes) (k : Nat), l.length = n → n < k → n ≤ 1000000000 → bulletinref15_Trim.l1 k (str l) = some (str (rtrim l)) := by
 intro n
 induction n with
 | zero =>
  intro l k h hk hn
  obtain ⟨k, rfl⟩ : ∃ m, k = m + 1 := ⟨k - 1, by omega⟩
  obtain rfl := List.eq_nil_of_length_eq_zero h
  rw [bulletinref15_Trim.l1, if_neg (by rw [str_size]; simp)]
  rfl
 | succ n ih =>
  intro l k h hk hn
  obtain ⟨k, rfl⟩ : ∃ m, k = m + 1 := ⟨k - 1, by omega⟩
  obtain ⟨r, c, rfl⟩ : ∃ r c, l = r ++ [c] := by
   rcases List.eq_nil_or_concat l with e | ⟨r, c, e⟩
   ·subst e; simp at h
   ·exact ⟨r, c, by rw [e]; simp⟩
  rw [List.length_append] at h
  simp only [List.length_cons, List.length_nil] at h
  have hz : (str (r ++ [c])).size = r.length + 1 := by rw [str_size, List.length_append]; rfl
  have hw : wrap64 (((r.length + 1 : Nat) : Int) - 1) = (r.length : Int) := by rw [wrap_id (by omega) (by omega)]; omega
  have hbt : bt (str (r ++ [c])) (r.length : Int) = (c.toNat : Int) := bt_drop (r := []) (by rw [bs_str, List.drop_left])
  have hx : (str (r ++ [c])).extract 0 r.length = str r := by rw [str_extract, List.take_left, List.drop_zero]
  rw [bulletinref15_Trim.l1, hz, hw, if_pos (by omega), if_pos (by omega), if_pos (by omega), hbt, refblank_is, Option.bind_some, rtrim_snoc]
  by_cases hc : wb c = true
  ·rw [if_pos hc, if_pos hc, if_pos (by omega), Int.toNat_natCast, hx]
   exact ih r k (by omega) (by omega) (by omega)
  ·rw [if_neg hc, if_neg hc]
theorem ltrim_rounds : ∀ (l : Bytes) (k : Nat), 2 * l.length + 2 < k → l.length ≤ 1000000000 → bulletinref15_Trim.l0 k (str l) = some (str (rtrim (ltrim l))) := by
 intro l
 induction l with
 | nil =>
  intro k hk hn
  obtain ⟨k, rfl⟩ : ∃ m, k = m + 2 := ⟨k - 2, by omega⟩
  rw [bulletinref15_Trim.l0, if_neg (by rw [str_size]; simp), bulletinref15_Trim.j1]
  exact rtrim_rounds 0 [] k rfl (by simp at hk; omega) (by omega)
 | cons c r ih =>
  intro k hk hn
  obtain ⟨k, rfl⟩ : ∃ m, k = m + 2 := ⟨k - 2, by omega⟩
  have hz : (str (c :: r)).size = r.length + 1 := str_size _
  have hbt : bt (str (c :: r)) 0 = (c.toNat : Int) := bt_drop (i := 0) (by rw [bs_str, List.drop_zero])
  simp only [List.length_cons] at hk hn
  rw [bulletinref15_Trim.l0, hz, if_pos (by omega), if_pos (by omega), hbt, refblank_is, Option.bind_some]
  by_cases hc : wb c = true
  ·have hx : (str (c :: r)).extract 1 (r.length + 1) = str r := by
    rw [str_extract, List.take_of_length_le (by simp)]; rfl
   rw [if_pos hc, if_pos (by omega), hx, ih (k + 1) (by omega) (by omega), show ltrim (c :: r) = ltrim r from List.dropWhile_cons_of_pos hc]
  ·rw [if_neg hc, bulletinref15_Trim.j1, show ltrim (c :: r) = c :: r from List.dropWhile_cons_of_neg hc]
   exact rtrim_rounds _ (c :: r) k rfl (by simp only [List.length_cons]; omega) (by simp only [List.length_cons]; omega)
theorem reftrim_is (l : Bytes) (h : l.length ≤ 1000000000) (k : Nat) (hk : 2 * l.length + 2 < k) : bulletinref15_Trim.f k (str l) = some (str (trim l)) := by
 unfold bulletinref15_Trim.f
 rw [ltrim_rounds l k hk h, trim_eq]
theorem trim_len (s : Bytes) : (trim s).length ≤ s.length := by
 unfold trim Lib.trimS Lib.trimLeftS Lib.trimRightS
 have e1 := (List.dropWhile_sublist (fun b => ([32, 9] : Bytes).contains b) (l := (List.dropWhile (fun b => ([32, 9] : Bytes).contains b) s.reverse).reverse)).length_le
 have e2 := (List.dropWhile_sublist (fun b => ([32, 9] : Bytes).contains b) (l := s.reverse)).length_le
 rw [List.length_reverse] at e1 e2
 exact Nat.le_trans e1 e2
theorem rtrims_rounds (T : Nat) (hT : T ≤ 1000000000) (b : ByteArray) : ∀ (n : Nat) (m : List Fld) (i k : Nat), m.length = i + n → n + 2 * T + 4 < k → m.length ≤ 1000000000 → (∀ f ∈ m, f.2.length ≤ T) →
  bulletinref15_Parse.l2 k (m.map toR) b (i : Int) = some ((m.take i ++ (m.drop i).map trimF).map toR, b, 0) := by
 intro n
 induction n with
 | zero =>
  intro m i k h hk hm hf
  obtain ⟨k, rfl⟩ : ∃ q, k = q + 1 := ⟨k - 1, by omega⟩
  rw [bulletinref15_Parse.l2, if_neg (by rw [List.length_map]; omega), List.take_of_length_le (by omega), List.drop_of_length_le (by omega)]
  simp
 | succ n ih =>
  intro m i k h hk hm hf
  obtain ⟨k, rfl⟩ : ∃ q, k = q + 1 := ⟨k - 1, by omega⟩
  have hi : i < m.length := by omega
  have hg : m.getD i ([], []) ∈ m := by rw [List.getD_eq_getElem?_getD, List.getElem?_eq_getElem hi]; exact List.getElem_mem hi
  have hfg := hf _ hg
  have ht := reftrim_is (m.getD i ([], [])).2 (by omega) k (by omega)
  have hn := ih (m.set i (trimF (m.getD i ([], [])))) (i + 1) k (by rw [List.length_set]; omega) (by omega) (by rw [List.length_set]; exact hm) (by
   intro f hfm
   rcases List.mem_or_eq_of_mem_set hfm with h1 | h1
   ·exact hf f h1
   ·subst h1
    exact Nat.le_trans (trim_len _) hfg)
  rw [bulletinref15_Parse.l2, if_pos (by rw [List.length_map]; omega), if_pos (by omega), rd_toR]
  show (bulletinref15_Trim.f k (str (m.getD i ([], [])).2)).bind _ = _
  rw [ht, Option.bind_some, Int.toNat_natCast, wrap_succ i (by omega)]
  have e : (m.map toR).set i (⟨(toR (m.getD i ([], []))).f0, str (trim (m.getD i ([], [])).2)⟩ : S67) = (m.set i (trimF (m.getD i ([], [])))).map toR := by
   rw [List.map_set]; rfl
  rw [e, hn, trim_step m i hi]
theorem rparse_end (T : Nat) (hT : T ≤ 100000000) (b : ByteArray) (l : List Fld) (k : Nat) (hk : 3 * T + 4 < k) (hl : l.length ≤ T) (hf : ∀ f ∈ l, f.2.length ≤ T) : bulletinref15_Parse.l2 k (l.map toR) b 0 = some ((l.map trimF).map toR, b, 0) := by
 have := rtrims_rounds T (by omega) b l.length l 0 k (by omega) (by omega) (by omega) hf
 simpa using this
theorem colon_rounds (s : ByteArray) (x5 : List (S67)) (x6 : ByteArray) (x7 : Int) (t : ByteArray) (ht : t.size ≤ 1000000000) (B : Nat) (V : Option ((List (S67)) × ByteArray × Int)) :
  ∀ (l : Bytes) (i k : Nat), (bs t).drop i = l → i ≤ t.size → (∀ k', B ≤ k' → bulletinref15_Parse.j2 k' s x5 x6 x7 t ((i + upto 58 l : Nat) : Int) = V) → B + l.length < k → bulletinref15_Parse.l1 k s x5 x6 x7 t (i : Int) = V := by
 intro l
 induction l with
 | nil =>
  intro i k h hi hV hk
  obtain ⟨k, rfl⟩ : ∃ m, k = m + 1 := ⟨k - 1, by omega⟩
  have := drop_nil h
  rw [bs_length] at this
  rw [bulletinref15_Parse.l1, if_neg (by omega)]
  exact hV k (by simp at hk; omega)
 | cons c r ih =>
  intro i k h hi hV hk
  obtain ⟨k, rfl⟩ : ∃ m, k = m + 1 := ⟨k - 1, by omega⟩
  obtain ⟨h1, h2, h3, h4⟩ := drop_cons h
  rw [bs_length] at h1
  simp only [List.length_cons] at hk
  rw [bulletinref15_Parse.l1, if_pos (by omega), if_pos (by omega), bt_drop h]
  rw [upto] at hV
  by_cases a : c = 58
  ·subst a
   rw [if_pos (by decide)]
   rw [if_pos rfl] at hV
   exact hV k (by omega)
  ·rw [if_neg (fun e => a (UInt8.toNat_inj.1 (show c.toNat = 58 by omega))), wrap_succ i (by omega)]
   rw [if_neg a] at hV
   exact ih (i + 1) k h3 (by omega) (fun k' hk' => by rw [show i + 1 + upto 58 r = i + (upto 58 r + 1) by omega]; exact hV k' hk') (by omega)
theorem rgrow (s t : ByteArray) (l : List Fld) (x6 : ByteArray) (x7 : Int) (i B k : Nat) (V : Option ((List (S67)) × ByteArray × Int)) (ht : (bs t).length = i) (hi : 0 < i) (hib : i ≤ 100000000) (hl : l.length ≤ 1000000000)
  (hf : ∀ f ∈ l, f.2.length ≤ 100000000) (hk : B + 2 * i + 10 < k) (hV : (growL l (bs t)).2 = 0 → ∀ k', B ≤ k' → bulletinref15_Parse.l0 k' s ((growL l (bs t)).1.map toR) x6 x7 = V) :
  (if (i : Int) > 998 then (some (([] : List (S67)), (⟨#[]⟩ : ByteArray), (2 : Int))) else ((bulletinref15_textual.f k t).bind fun t559 => (if t559 = true then (if 0 < (t.size : Int) then ((bulletinref15_blank.f (bt t 0)).bind fun t560 => (if t560 = true then (if ((l.map toR).length : Int) = 0 then (some (([] : List (S67)), (⟨#[]⟩ : ByteArray), (150 : Int))) else (if 0 ≤ (wrap64 (((l.map toR).length : Int) - 1)) then (if (wrap64 (((l.map toR).length : Int) - 1)) < ((l.map toR).length : Int) then (if ((rd_T67 (l.map toR) (wrap64 (((l.map toR).length : Int) - 1))).f1).size + t.size ≤ 9223372036854775807 then (bulletinref15_Parse.l0 k s ((l.map toR).set ((wrap64 (((l.map toR).length : Int) - 1)) : Int).toNat (⟨(rd_T67 (l.map toR) (wrap64 (((l.map toR).length : Int) - 1))).f0, ((rd_T67 (l.map toR) (wrap64 (((l.map toR).length : Int) - 1))).f1) ++ t⟩ : S67)) x6 x7) else (none)) else (none)) else (none))) else (bulletinref15_Parse.l1 k s (l.map toR) x6 x7 t 0))) else (none)) else (some (([] : List (S67)), (⟨#[]⟩ : ByteArray), (150 : Int))))))
  = if (growL l (bs t)).2 = 0 then V else some ([], ⟨#[]⟩, (growL l (bs t)).2) := by
 have hz := bs_length t
 by_cases h1 : 998 < (bs t).length
 ·have hg : growL l (bs t) = ([], 2) := by unfold growL; rw [if_pos h1]
  rw [if_pos (by omega), hg, if_neg (by decide)]
 rw [if_neg (by omega), reftextual_is t (by omega) k (by omega), Option.bind_some]
 cases hx : textual (bs t) with
 | false =>
  have hg : growL l (bs t) = ([], 150) := by unfold growL; rw [if_neg h1, if_pos hx]
  rw [if_neg (by decide), hg, if_neg (by decide)]
 | true =>
  have hx' : ¬ textual (bs t) = false := by rw [hx]; decide
  have hbt : bt t 0 = (((bs t).headD 0).toNat : Int) := by
   cases e : bs t with
   | nil => rw [e, List.length_nil] at ht; omega
   | cons c r => rw [List.headD_cons]; exact bt_drop (i := 0) (by rw [List.drop_zero]; exact e)
  rw [if_pos rfl, if_pos (by omega), hbt, refblank_is, Option.bind_some]
  cases hw : wb ((bs t).headD 0) with
  | true =>
   rw [if_pos rfl, List.length_map]
   by_cases h3 : l = []
   ·have hg : growL l (bs t) = ([], 150) := by unfold growL; rw [if_neg h1, if_neg hx', if_pos hw, if_pos h3]
    rw [if_pos (by rw [h3]; rfl), hg, if_neg (by decide)]
   ·have hg : growL l (bs t) = (addLast l (bs t), 0) := by unfold growL; rw [if_neg h1, if_neg hx', if_pos hw, if_neg h3]
    rw [hg] at hV ⊢
    have hl0 : 0 < l.length := by
     cases l with
     | nil => exact absurd rfl h3
     | cons a l => simp
    have hlast : (toR (l.getD (l.length - 1) ([], []))).f1.size ≤ 100000000 := by
     show (str _).size ≤ _
     rw [str_size]; exact hf _ (getD_last_mem h3)
    rw [if_neg (show ¬ (l.length : Int) = 0 by omega), last_idx _ hl hl0, if_pos (by omega), if_pos (by omega), rd_toR, if_pos (by omega), Int.toNat_natCast]
    have e : (⟨(toR (l.getD (l.length - 1) ([], []))).f0, (toR (l.getD (l.length - 1) ([], []))).f1 ++ t⟩ : S67) = toR ((l.getD (l.length - 1) ([], [])).1, (l.getD (l.length - 1) ([], [])).2 ++ bs t) := by
     show (⟨_, str _ ++ t⟩ : S67) = ⟨_, str (_ ++ bs t)⟩
     rw [← str_app, str_bs]
     rfl
    rw [e, ← List.map_set, if_pos rfl]
    exact hV rfl k (by omega)
  | false =>
   have hw' : ¬ wb ((bs t).headD 0) = true := by rw [hw]; decide
   rw [if_neg (by decide)]
   have hu := upto_le 58 (bs t)
   refine colon_rounds s _ _ _ t (by omega) (B + i + 5) _ (bs t) 0 k (by simp) (by omega) (fun k' hk' => ?_) (by omega)
   rw [Nat.zero_add]
   obtain ⟨k', rfl⟩ : ∃ q, k' = q + 2 := ⟨k' - 2, by omega⟩
   by_cases hcl : upto 58 (bs t) = (bs t).length
   ·have hg : growL l (bs t) = ([], 150) := by unfold growL; rw [if_neg h1, if_neg hx', if_neg hw', if_pos hcl]
    rw [bulletinref15_Parse.j2, if_pos (by omega), bulletinref15_Parse.j3, if_pos rfl, hg, if_neg (by decide)]
   ·have hx3 : t.extract 0 (upto 58 (bs t)) = str ((bs t).take (upto 58 (bs t))) := by rw [← str_bs (t.extract _ _), bs_extract, List.drop_zero]
    have hx4 : t.extract (upto 58 (bs t) + 1) t.size = str ((bs t).drop (upto 58 (bs t) + 1)) := by rw [← str_bs (t.extract _ _), bs_extract, List.take_of_length_le (by omega)]
    rw [bulletinref15_Parse.j2, if_neg (by omega), if_pos (by omega), if_pos (by omega), Int.toNat_natCast, hx3, refnamed_is _ (by rw [str_size, List.length_take]; omega) (k' + 1) (by rw [str_size, List.length_take]; omega), bs_str, Option.bind_some, bulletinref15_Parse.j3]
    cases hm : named ((bs t).take (upto 58 (bs t))) with
    | false =>
     have hg : growL l (bs t) = ([], 150) := by unfold growL; rw [if_neg h1, if_neg hx', if_neg hw', if_neg hcl, if_pos hm]
     rw [if_pos (by decide), hg, if_neg (by decide)]
    | true =>
     have hm' : ¬ named ((bs t).take (upto 58 (bs t))) = false := by rw [hm]; decide
     rw [if_neg (by decide), List.length_map]
     by_cases h100 : l.length = 100
     ·have hg : growL l (bs t) = ([], 8) := by unfold growL; rw [if_neg h1, if_neg hx', if_neg hw', if_neg hcl, if_neg hm', if_pos h100]
      rw [if_pos (by omega), hg, if_neg (by decide)]
     ·have hg : growL l (bs t) = (l ++ [((bs t).take (upto 58 (bs t)), (bs t).drop (upto 58 (bs t) + 1))], 0) := by unfold growL; rw [if_neg h1, if_neg hx', if_neg hw', if_neg hcl, if_neg hm', if_neg h100]
      rw [hg] at hV ⊢
      rw [if_neg (by omega), if_pos (by omega), if_pos (by omega), wrap_succ _ (by omega), if_pos (by omega), if_pos (by omega), if_pos (by omega), Int.toNat_natCast, Int.toNat_natCast, hx3, hx4, if_pos rfl]
      have e : l.map toR ++ [(⟨str ((bs t).take (upto 58 (bs t))), str ((bs t).drop (upto 58 (bs t) + 1))⟩ : S67)] = (l ++ [((bs t).take (upto 58 (bs t)), (bs t).drop (upto 58 (bs t) + 1))]).map toR := by rw [List.map_append]; rfl
      rw [e]
      exact hV rfl k' (by omega)
end Go.Proofs.YtbjbpgmjijeppaaGreatDoor.Pl
set_option linter.unusedVariables false
set_option linter.unusedSimpArgs false
namespace Go.Proofs.YtbjbpgmjijeppaaGreatDoor.Pl
open Go.RowKit Go.Proofs.YtbjbpgmjijeppaaGreatDoorW.PrintWords Go.Proofs.YtbjbpgmjijeppaaGreatDoor.Fn

/-! The document's Parse: line by line. -/
theorem wrap_nat (a b : Nat) (h : a + b ≤ 1000000000) : wrap64 ((a : Int) + (b : Int)) = ((a + b : Nat) : Int) := by
 rw [wrap_id (by omega) (by omega)]
 omega
theorem wrap_two (a : Nat) (h : a ≤ 1000000000) : wrap64 ((a : Int) + 2) = ((a + 2 : Nat) : Int) := by
 rw [wrap_id (by omega) (by omega)]
 omega
theorem rparse_rounds (s : ByteArray) (T : Nat) (hT : T ≤ 100000000) (hs : s.size ≤ T) : ∀ (n : Nat) (pos : Nat) (l : List Fld) (k : Nat), s.size - pos < n → pos ≤ s.size → fits T l (s.size - pos) → 10 * (s.size - pos) + 3 * T + 50 < k →
  bulletinref15_Parse.l0 k s (l.map toR) (str []) (pos : Int) = some ((parseM n ((bs s).drop pos) l).1.map toR, str (parseM n ((bs s).drop pos) l).2.1, (parseM n ((bs s).drop pos) l).2.2) := by
 have hb := bs_length s
 intro n
 induction n using Nat.strongRecOn with
 | ind n ih =>
  intro pos l k hn hp hf hk
  obtain ⟨k, rfl⟩ : ∃ q, k = q + 1 := ⟨k - 1, by omega⟩
  obtain ⟨n, rfl⟩ : ∃ q, n = q + 1 := ⟨n - 1, by omega⟩
  have hlen := hf.1
  have hfm : ∀ f ∈ l, f.2.length ≤ T := fun f h => by have := hf.2 f h; omega
  have hdl : ((bs s).drop pos).length = s.size - pos := by rw [List.length_drop, hb]
  rw [parseM]
  by_cases h0 : pos < s.size
  ·have hne : (bs s).drop pos ≠ [] := by
    intro e
    rw [e, List.length_nil] at hdl
    omega
   have hx1 : bs (s.extract pos s.size) = (bs s).drop pos := by rw [bs_extract, List.take_of_length_le (by omega)]
   have hx2 : (s.extract pos s.size).size = s.size - pos := by rw [← bs_length, hx1, hdl]
   have hline := refline_is (s.extract pos s.size) (by omega) k (by omega)
   rw [hx1] at hline
   rw [if_neg hne]
   cases hc : crlf ((bs s).drop pos) with
   | none =>
    rw [hc] at hline
    rw [bulletinref15_Parse.l0, if_pos (by omega), if_pos (by omega), if_pos (by omega), Int.toNat_natCast, hline, Option.bind_some, if_pos (by decide)]
    rfl
   | some i =>
    have hr := crlf_room hc
    rw [hdl] at hr
    rw [hc] at hline
    simp only [] at hline ⊢
    have hpi : pos + i + 2 ≤ 1000000000 := by omega
    by_cases hi : i = 0
    ·subst hi
     have hb2 : s.extract (pos + 0 + 2) s.size = str (((bs s).drop pos).drop 2) := by
      rw [← str_bs (s.extract _ _), bs_extract, List.take_of_length_le (by omega), List.drop_drop]
     obtain ⟨k, rfl⟩ : ∃ q, k = q + 1 := ⟨k - 1, by omega⟩
     have hE : bulletinref15_Parse.l0 (k + 1) s (l.map toR) (s.extract (pos + 0 + 2) s.size) (s.size : Int) = some ((l.map trimF).map toR, str (((bs s).drop pos).drop 2), 0) := by
      rw [bulletinref15_Parse.l0, if_neg (by omega), hb2, rparse_end T hT _ l k (by omega) (by omega) hfm]
     rw [bulletinref15_Parse.l0, if_pos (by omega), if_pos (by omega), if_pos (by omega), Int.toNat_natCast, hline, Option.bind_some, wrap_nat pos 0 (by omega), wrap_two (pos + 0) (by omega), if_neg (by omega), if_pos (by omega), if_pos (by omega), if_pos (by rfl), if_pos (by omega), if_pos (by omega), Int.toNat_natCast, hE, if_pos rfl]
    ·have ht1 : bs (s.extract pos (pos + i)) = ((bs s).drop pos).take i := by
      rw [bs_extract, List.drop_take, Nat.add_sub_cancel_left]
     have ht2 : (bs (s.extract pos (pos + i))).length = i := by rw [ht1, List.length_take, hdl]; omega
     have hd2 : ((bs s).drop pos).drop (i + 2) = (bs s).drop (pos + i + 2) := by rw [List.drop_drop]; congr 1
     have hgf : fits T l ((bs (s.extract pos (pos + i))).length + 2 + (s.size - (pos + i + 2))) := by
      rw [ht2, show i + 2 + (s.size - (pos + i + 2)) = s.size - pos by omega]; exact hf
     have hG := rgrow s (s.extract pos (pos + i)) l (str []) ((pos + i + 2 : Nat) : Int) i (10 * (s.size - (pos + i + 2)) + 3 * T + 51) k (some ((parseM n ((bs s).drop (pos + i + 2)) (growL l (bs (s.extract pos (pos + i)))).1).1.map toR, str (parseM n ((bs s).drop (pos + i + 2)) (growL l (bs (s.extract pos (pos + i)))).1).2.1, (parseM n ((bs s).drop (pos + i + 2)) (growL l (bs (s.extract pos (pos + i)))).1).2.2)) ht2 (by omega) (by omega) (by omega) (fun f h => Nat.le_trans (hfm f h) hT) ?hk
      (fun h0 k' hk' => ih n (by omega) (pos + i + 2) _ k' (by omega) (by omega) (grow_fits hgf h0) (by omega))
     case hk => omega
     rw [bulletinref15_Parse.l0, if_pos (by omega), if_pos (by omega), if_pos (by omega), Int.toNat_natCast, hline, Option.bind_some, wrap_nat pos i (by omega), wrap_two (pos + i) (by omega), if_neg (by omega), if_pos (by omega), if_pos (by omega), if_neg (by omega), if_neg hi, Int.toNat_natCast]
     refine hG.trans ?_
     rw [ht1, hd2]
     by_cases hg : (growL l (((bs s).drop pos).take i)).2 = 0
     ·rw [if_pos hg, if_pos hg]
     ·rw [if_neg hg, if_neg hg]
      rfl
  ·have he : (bs s).drop pos = [] := List.drop_of_length_le (by omega)
   rw [bulletinref15_Parse.l0, if_neg (by omega), he, if_pos rfl, rparse_end T hT _ l k (by omega) (by omega) hfm]
theorem refparse_is (s : ByteArray) (hs : s.size ≤ 100000000) (k : Nat) (hk : 13 * s.size + 100 < k) :
  bulletinref15_Parse.f k s = some ((parseH (bs s)).1.map toR, str (parseH (bs s)).2.1, (parseH (bs s)).2.2) := by
 have hb := bs_length s
 unfold bulletinref15_Parse.f parseH
 have := rparse_rounds s s.size hs (Nat.le_refl _) ((bs s).length + 1) 0 [] k (by omega) (by omega) ⟨by simp, by simp⟩ (by omega)
 rw [List.drop_zero] at this
 exact this
end Go.Proofs.YtbjbpgmjijeppaaGreatDoor.Pl
set_option linter.unusedVariables false
set_option linter.unusedSimpArgs false
namespace Go.Proofs.YtbjbpgmjijeppaaGreatDoor.Pl
open Go.RowKit Go.Proofs.YtbjbpgmjijeppaaGreatDoorW.PrintWords Go.Proofs.YtbjbpgmjijeppaaGreatDoor.Fn

/-! A field as it is written: its lines. -/
def linesFrom : Nat → Bool → Nat → Bytes → Bytes → List Bytes
 | 0, _, _, _, cur => [cur]
 | f + 1, first, pos, s, cur => if s = [] then [cur] else if brk first pos s = true then cur :: linesFrom f false (0 + pieceL s) (s.drop (pieceL s)) (s.take (pieceL s))
  else linesFrom f false (pos + pieceL s) (s.drop (pieceL s)) (cur ++ s.take (pieceL s))
def flat (l : List Bytes) : Bytes := l.flatMap fun x => x ++ [13, 10]
theorem flat_cons (x : Bytes) (l : List Bytes) : flat (x :: l) = x ++ (13 :: 10 :: flat l) := by simp [flat]
theorem lines_flat : ∀ (f : Nat) (first : Bool) (pos : Nat) (s cur : Bytes), s.length ≤ f → cur ++ (showFrom f first pos s ++ [13, 10]) = flat (linesFrom f first pos s cur)
 | 0, first, pos, s, cur, h => by
  obtain rfl := List.eq_nil_of_length_eq_zero (by omega : s.length = 0)
  simp [showFrom, linesFrom, flat]
 | f + 1, first, pos, s, cur, h => by
  unfold showFrom linesFrom
  by_cases h0 : s = []
  ·rw [if_pos h0, if_pos h0]; simp [flat]
  ·have hp := pieceL_pos s h0
   have hl : (s.drop (pieceL s)).length ≤ f := by rw [List.length_drop]; omega
   rw [if_neg h0, if_neg h0]
   by_cases hb : brk first pos s = true
   ·rw [if_pos hb, if_pos hb, if_pos hb, flat_cons, ← lines_flat f false (0 + pieceL s) _ (s.take (pieceL s)) hl]
    simp
   ·rw [if_neg hb, if_neg hb, if_neg hb, ← lines_flat f false (pos + pieceL s) _ (cur ++ s.take (pieceL s)) hl]
    simp
def lead1 (v : Bytes) : Bytes := if v = [] then [] else 32 :: v
theorem show_lines (n v : Bytes) : showL n v = flat (linesFrom (v.length + 1) true (n.length + 1) (lead1 v) (n ++ [58])) := by
 unfold showL
 have : (lead1 v).length ≤ v.length + 1 := by unfold lead1; split <;> simp
 rw [← lines_flat _ _ _ _ _ this]
 rfl
end Go.Proofs.YtbjbpgmjijeppaaGreatDoor.Pl
set_option linter.unusedVariables false
set_option linter.unusedSimpArgs false
namespace Go.Proofs.YtbjbpgmjijeppaaGreatDoor.Pl
open Go.RowKit Go.Proofs.YtbjbpgmjijeppaaGreatDoorW.PrintWords Go.Proofs.YtbjbpgmjijeppaaGreatDoor.Fn

/-! Layer 15: the document writes the same -/
theorem rl1_skip (s : ByteArray) (hs : s.size ≤ 1000000) (x3 : List ByteArray) (x4 : ByteArray) (x6 : Bool) (i : Int) : ∀ (r : Bytes) (j K : Nat), (bs s).drop j = r → j ≤ (bs s).length →
  bulletinref15_Lines.l1 (K + (r.takeWhile wb).length + 1) x3 x4 s x6 i (j : Int) = bulletinref15_Lines.j3 K x3 x4 s x6 i ((j + (r.takeWhile wb).length : Nat) : Int)
 | [], j, K, hd, hj => by
  have := drop_nil hd
  rw [bs_length] at this
  rw [List.takeWhile_nil, List.length_nil, bulletinref15_Lines.l1, if_neg (by omega)]
  rfl
 | c :: r, j, K, hd, hj => by
  obtain ⟨h1, h2, h3, h4⟩ := drop_cons hd
  have h5 : j < s.size := by rw [bs_length] at h1; exact h1
  rw [List.takeWhile_cons]
  cases hw : wb c with
  | true =>
   simp only [if_true, List.length_cons]
   rw [show K + ((r.takeWhile wb).length + 1) + 1 = (K + (r.takeWhile wb).length + 1) + 1 by omega, bulletinref15_Lines.l1, if_pos (by omega), if_pos (by omega), bt_drop hd, refblank_is, Option.bind_some, hw, if_pos rfl, wrap_succ j (by omega), rl1_skip s hs x3 x4 x6 i r (j + 1) K h3 (by omega)]
   congr 2
   omega
  | false =>
   simp only [Bool.false_eq_true, if_false, List.length_nil]
   rw [bulletinref15_Lines.l1, if_pos (by omega), if_pos (by omega), bt_drop hd, refblank_is, Option.bind_some, hw, if_neg (by decide)]
   rfl
theorem empty_app (a : ByteArray) : (⟨#[]⟩ : ByteArray) ++ a = a := by
 rw [show (⟨#[]⟩ : ByteArray) = str [] from rfl, ← str_bs a, str_app, List.nil_append]
def putP (K : Nat) (x3 : List ByteArray) (x4 s : ByteArray) (first : Bool) (i e : Nat) : Option (List ByteArray) :=
 if first = true ∨ ¬ 78 < x4.size + (e - i) then bulletinref15_Lines.l0 K x3 (x4 ++ s.extract i e) s false (e : Int) else bulletinref15_Lines.l0 K (x3 ++ [x4]) (s.extract i e) s false (e : Int)
theorem rl2_skip (s : ByteArray) (hs : s.size ≤ 1000000) (x3 : List ByteArray) (h3 : x3.length ≤ 1000000) (x4 : ByteArray) (h4 : x4.size ≤ 1000000000) (x6 : Bool) (i : Nat) : ∀ (r : Bytes) (j K : Nat), (bs s).drop j = r → j ≤ (bs s).length → i ≤ j →
  bulletinref15_Lines.l2 (K + (r.takeWhile (fun c => !wb c)).length + 1) x3 x4 s x6 (i : Int) (j : Int) = putP K x3 x4 s x6 i (j + (r.takeWhile (fun c => !wb c)).length)
 | r, j, K, hd, hj, hij => by
  have hb := bs_length s
  have hsz : (s.extract i j).size ≤ s.size := by rw [ByteArray.size_extract]; omega
  have w1 : wrap64 ((x4.size : Int) + (j : Int)) = ((x4.size + j : Nat) : Int) := by rw [wrap_id (by omega) (by omega)]; omega
  have w2 : wrap64 (((x4.size + j : Nat) : Int) - (i : Int)) = ((x4.size + (j - i) : Nat) : Int) := by rw [wrap_id (by omega) (by omega)]; omega
  have fin : (if x6 = true then (if 0 ≤ (i : Int) then (if (i : Int) ≤ (j : Int) then (if (j : Int) ≤ (s.size : Int) then (if x4.size + (s.extract (i : Int).toNat (j : Int).toNat).size ≤ 9223372036854775807 then (bulletinref15_Lines.l0 K x3 (x4 ++ (s.extract (i : Int).toNat (j : Int).toNat)) s false (j : Int)) else (none)) else (none)) else (none)) else (none)) else (if (wrap64 ((wrap64 ((x4.size : Int) + (j : Int))) - (i : Int))) > 78 then (if x3.length < 8796093022208 then (if 0 ≤ (i : Int) then (if (i : Int) ≤ (j : Int) then (if (j : Int) ≤ (s.size : Int) then (if 0 + (s.extract (i : Int).toNat (j : Int).toNat).size ≤ 9223372036854775807 then (bulletinref15_Lines.l0 K (x3 ++ [x4]) ((⟨#[]⟩ : ByteArray) ++ (s.extract (i : Int).toNat (j : Int).toNat)) s false (j : Int)) else (none)) else (none)) else (none)) else (none)) else (none)) else (if 0 ≤ (i : Int) then (if (i : Int) ≤ (j : Int) then (if (j : Int) ≤ (s.size : Int) then (if x4.size + (s.extract (i : Int).toNat (j : Int).toNat).size ≤ 9223372036854775807 then (bulletinref15_Lines.l0 K x3 (x4 ++ (s.extract (i : Int).toNat (j : Int).toNat)) s false (j : Int)) else (none)) else (none)) else (none)) else (none)))) = putP K x3 x4 s x6 i j := by
   rw [w1, w2]
   clear w1 w2
   simp only [Int.toNat_natCast, empty_app]
   unfold putP
   cases x6 with
   | true => rw [if_pos rfl, if_pos (by omega), if_pos (by omega), if_pos (by omega), if_pos (by omega), if_pos (.inl rfl)]
   | false =>
    rw [if_neg (by decide)]
    by_cases hg : 78 < x4.size + (j - i)
    ·rw [if_pos (by omega), if_pos (by omega), if_pos (by omega), if_pos (by omega), if_pos (by omega), if_pos (by omega), if_neg (by rintro (q | q); cases q; exact q hg)]
    ·rw [if_neg (by omega), if_pos (by omega), if_pos (by omega), if_pos (by omega), if_pos (by omega), if_pos (.inr hg)]
  clear w1 w2
  match r, hd with
  | [], hd =>
   have := drop_nil hd
   rw [List.takeWhile_nil, List.length_nil, Nat.add_zero, Nat.add_zero, bulletinref15_Lines.l2, if_neg (by omega)]
   exact fin
  | c :: r, hd =>
   obtain ⟨h1, h2, h3', h4'⟩ := drop_cons hd
   have h5 : j < s.size := by rw [bs_length] at h1; exact h1
   rw [List.takeWhile_cons]
   cases hw : wb c with
   | false =>
    simp only [Bool.not_false, if_true, List.length_cons]
    rw [show K + ((r.takeWhile (fun c => !wb c)).length + 1) + 1 = (K + (r.takeWhile (fun c => !wb c)).length + 1) + 1 by omega, bulletinref15_Lines.l2, if_pos (by omega), if_pos (by omega), bt_drop hd, refblank_is, Option.bind_some, hw, if_neg (by decide), wrap_succ j (by omega), rl2_skip s hs x3 h3 x4 h4 x6 i r (j + 1) K h3' (by omega) (by omega), show j + 1 + (r.takeWhile (fun c => !wb c)).length = j + ((r.takeWhile (fun c => !wb c)).length + 1) by omega]
   | true =>
    simp only [Bool.not_true, Bool.false_eq_true, if_false, List.length_nil, Nat.add_zero]
    rw [bulletinref15_Lines.l2, if_pos (by omega), if_pos (by omega), bt_drop hd, refblank_is, Option.bind_some, hw, if_pos rfl]
    exact fin
termination_by r => r.length
theorem reflines_l0 (s : ByteArray) (hs : s.size ≤ 1000000) : ∀ (n : Nat) (rest cur : Bytes) (acc : List Bytes) (first : Bool) (i k : Nat), rest.length ≤ n → (bs s).drop i = rest → i ≤ (bs s).length → 5 * rest.length + 5 ≤ k → acc.length ≤ i → cur.length ≤ i + 1000000 →
  bulletinref15_Lines.l0 k (acc.map str) (str cur) s first (i : Int) = some ((acc ++ linesFrom n first cur.length rest cur).map str)
 | n, [], cur, acc, first, i, k, hn, hd, hi, hk, ha, hc => by
  obtain ⟨k, rfl⟩ : ∃ j, k = j + 1 := ⟨k - 1, by omega⟩
  have := drop_nil hd
  rw [bs_length] at this hi
  have e : linesFrom n first cur.length [] cur = [cur] := by cases n <;> rfl
  rw [bulletinref15_Lines.l0, if_neg (by omega), if_pos (by rw [List.length_map]; omega), e]
  simp
 | 0, c :: r, cur, acc, first, i, k, hn, hd, hi, hk, ha, hc => by simp at hn
 | n + 1, c :: r, cur, acc, first, i, k, hn, hd, hi, hk, ha, hc => by
  obtain ⟨h1, h2, h3, h4⟩ := drop_cons hd
  have h5 : i < s.size := by rw [bs_length] at h1; exact h1
  have hb := bs_length s
  have hne : (c :: r : Bytes) ≠ [] := by simp
  have hp := pieceL_pos (c :: r) hne
  have hpl := pieceL_le (c :: r)
  obtain ⟨rest, hrest⟩ : ∃ x, (c :: r : Bytes) = x := ⟨_, rfl⟩
  rw [hrest] at hd hn hk hp hpl hne ⊢
  have hlen : rest.length = s.size - i := by rw [← hd, List.length_drop, hb]
  obtain ⟨K, rfl⟩ : ∃ K, k = K + word (rest.drop (lead rest)) + 1 + 1 + lead rest + 1 + 1 := ⟨k - (word (rest.drop (lead rest)) + lead rest + 4), by unfold pieceL at hp hpl; omega⟩
  have hpe : pieceL rest = lead rest + word (rest.drop (lead rest)) := rfl
  have hdl : (bs s).drop (i + lead rest) = rest.drop (lead rest) := by rw [← List.drop_drop, hd]
  have hll := lead_le rest
  rw [bulletinref15_Lines.l0, if_pos (by omega)]
  have e1 := rl1_skip s hs (acc.map str) (str cur) first (i : Int) rest i (K + word (rest.drop (lead rest)) + 1 + 1) hd hi
  rw [show (rest.takeWhile wb).length = lead rest from rfl] at e1
  rw [e1, bulletinref15_Lines.j3]
  have e2 := rl2_skip s hs (acc.map str) (by rw [List.length_map]; omega) (str cur) (by rw [str_size]; omega) first i (rest.drop (lead rest)) (i + lead rest) K hdl (by omega) (by omega)
  rw [show ((rest.drop (lead rest)).takeWhile (fun c => !wb c)).length = word (rest.drop (lead rest)) from rfl] at e2
  rw [e2, show i + lead rest + word (rest.drop (lead rest)) = i + pieceL rest by omega]
  have hex : s.extract i (i + pieceL rest) = str (rest.take (pieceL rest)) := by
   apply bs_inj
   rw [bs_extract, bs_str, ← hd, List.drop_take, Nat.add_sub_cancel_left]
  have hd2 : (bs s).drop (i + pieceL rest) = rest.drop (pieceL rest) := by rw [← List.drop_drop, hd]
  unfold putP
  rw [hex, str_size, Nat.add_sub_cancel_left, linesFrom, if_neg hne]
  have htl : (rest.take (pieceL rest)).length = pieceL rest := by rw [List.length_take]; omega
  have hdl2 : (rest.drop (pieceL rest)).length = rest.length - pieceL rest := List.length_drop
  by_cases hbk : brk first cur.length rest = true
  ·have hcond : ¬ (first = true ∨ ¬ 78 < cur.length + pieceL rest) := by
    unfold brk at hbk
    rw [Bool.and_eq_true, decide_eq_true_eq] at hbk
    rintro (q | q)
    ·rw [q] at hbk; exact absurd hbk.1 (by decide)
    ·exact q hbk.2
   rw [if_neg hcond, if_pos hbk, show acc.map str ++ [str cur] = (acc ++ [cur]).map str by simp]
   have ih := reflines_l0 s hs n (rest.drop (pieceL rest)) (rest.take (pieceL rest)) (acc ++ [cur]) false (i + pieceL rest) K (by omega) hd2 (by omega) (by omega) (by rw [List.length_append, List.length_singleton]; omega) (by omega)
   rw [htl] at ih
   rw [ih, Nat.zero_add]
   simp
  ·have hcond : first = true ∨ ¬ 78 < cur.length + pieceL rest := by
    unfold brk at hbk
    cases first with
    | true => exact .inl rfl
    | false => right; simpa using hbk
   rw [if_pos hcond, if_neg hbk, str_app]
   have ih := reflines_l0 s hs n (rest.drop (pieceL rest)) (cur ++ rest.take (pieceL rest)) acc false (i + pieceL rest) K (by omega) hd2 (by omega) (by omega) (by omega) (by rw [List.length_append, htl]; omega)
   rw [List.length_append, htl] at ih
   exact ih
theorem reflines15_is (n v : Bytes) (hn : n.length ≤ 900000) (hv : v.length ≤ 900000) (k : Nat) (hk : 5 * v.length + 20 ≤ k) : bulletinref15_Lines.f k (str n) (str v) = some ((linesFrom (v.length + 1) true (n.length + 1) (lead1 v) (n ++ [58])).map str) := by
 obtain ⟨k, rfl⟩ : ∃ j, k = j + 1 := ⟨k - 1, by omega⟩
 unfold bulletinref15_Lines.f
 rw [if_pos (by rw [str_size]; omega), toList_str, str_lit #[58], str_app]
 have hl : (n ++ [58]).length = n.length + 1 := by simp
 have main : ∀ s : ByteArray, bs s = lead1 v → s.size ≤ 1000000 → bulletinref15_Lines.j0 (k + 1) [] (str (n ++ [58])) s = some ((linesFrom (v.length + 1) true (n.length + 1) (lead1 v) (n ++ [58])).map str) := by
  intro s e hsz
  have hlv : (lead1 v).length ≤ v.length + 1 := by unfold lead1; split <;> simp
  rw [bulletinref15_Lines.j0]
  have := reflines_l0 s hsz (v.length + 1) (bs s) (n ++ [58]) [] true 0 k (by rw [e]; exact hlv) rfl (Nat.zero_le _) (by rw [e]; omega) (by simp) (by rw [hl]; omega)
  rw [hl, e] at this
  exact this
 by_cases h0 : v = []
 ·rw [if_pos h0]
  exact main _ (by rw [h0]; rfl) (by show (0 : Nat) ≤ 1000000; omega)
 ·rw [if_neg h0, if_pos (by rw [str_size]; omega), str_lit #[32], str_app]
  exact main _ (by rw [bs_str]; unfold lead1; rw [if_neg h0]; rfl) (by rw [str_size]; simp; omega)
theorem refshow_l0 (ls : List Bytes) (hl : (flat ls).length ≤ 100000000) (hc : ls.length ≤ 100000000) : ∀ (r : List Bytes) (i k : Nat), ls.drop i = r → i ≤ ls.length → r.length < k →
  bulletinref15_Show.l0 k (ls.map str) (str (flat (ls.take i))) (i : Int) = some (str (flat ls))
 | [], i, k, hd, hi, hk => by
  obtain ⟨k, rfl⟩ : ∃ j, k = j + 1 := ⟨k - 1, by omega⟩
  have hz : ls.length ≤ i := by
   have := congrArg List.length hd
   rw [List.length_drop, List.length_nil] at this
   omega
  rw [bulletinref15_Show.l0, if_neg (by rw [List.length_map]; omega), List.take_of_length_le hz]
 | x :: r, i, k, hd, hi, hk => by
  simp only [List.length_cons] at hk
  obtain ⟨k, rfl⟩ : ∃ j, k = j + 1 := ⟨k - 1, by omega⟩
  have hlt : i < ls.length := by
   have := congrArg List.length hd
   rw [List.length_drop, List.length_cons] at this
   omega
  have hst : ls.take (i + 1) = ls.take i ++ [x] := by
   rw [List.take_succ_eq_append_getElem hlt]
   congr 2
   have := List.getElem?_drop (xs := ls) (i := i) (j := 0)
   rw [hd] at this
   simpa [List.getElem?_eq_getElem hlt] using this.symm
  have hfe : flat ls = flat (ls.take i) ++ (x ++ 13 :: 10 :: flat r) := by
   conv => lhs; rw [← List.take_append_drop i ls, hd]
   simp [flat]
  have hft := congrArg List.length hfe
  simp only [List.length_append, List.length_cons] at hft
  have hrd : rdOf ByteArray.empty (ls.map str) (i : Int) = str x := by
   have h3 : ls[i]? = some x := by
    have := congrArg List.head? hd
    rw [List.head?_drop] at this
    exact this
   unfold rdOf
   rw [Int.toNat_natCast, List.getD_eq_getElem?_getD, List.getElem?_map, h3]
   rfl
  have ih := refshow_l0 ls hl hc r (i + 1) k (by rw [← List.drop_drop, hd]; rfl) (by omega) (by omega)
  rw [bulletinref15_Show.l0, if_pos (by rw [List.length_map]; omega), if_pos (by omega), hrd, if_pos (by rw [str_size, str_size]; omega), str_app, if_pos (by rw [str_size]; simp only [List.length_append]; omega), str_lit #[13, 10], str_app, wrap_succ i (by omega)]
  rw [hst] at ih
  rw [show flat (ls.take i ++ [x]) = flat (ls.take i) ++ x ++ [13, 10] by simp [flat]] at ih
  exact ih
theorem lines_many : ∀ (f : Nat) (first : Bool) (pos : Nat) (s cur : Bytes), (linesFrom f first pos s cur).length ≤ f + 1
 | 0, _, _, _, _ => by simp [linesFrom]
 | f + 1, first, pos, s, cur => by
  rw [linesFrom]
  have i1 := fun q p c => lines_many f false q p c
  split
  ·simp
  ·split
   ·simp only [List.length_cons]; have := i1 (0 + pieceL s) (s.drop (pieceL s)) (s.take (pieceL s)); omega
   ·have := i1 (pos + pieceL s) (s.drop (pieceL s)) (cur ++ s.take (pieceL s)); omega
theorem refshow15_is (n v : Bytes) (hn : n.length ≤ 900000) (hv : v.length ≤ 900000) (k : Nat) (hk : 5 * v.length + 20 ≤ k) : bulletinref15_Show.f k (str n) (str v) = some (str (showL n v)) := by
 have hm := lines_many (v.length + 1) true (n.length + 1) (lead1 v) (n ++ [58])
 have hsl := showL_length n v
 have hsh := show_lines n v
 unfold bulletinref15_Show.f
 rw [reflines15_is n v hn hv k hk, Option.bind_some, hsh]
 exact refshow_l0 _ (by rw [← hsh]; omega) (by omega) (linesFrom (v.length + 1) true (n.length + 1) (lead1 v) (n ++ [58])) 0 k List.drop_zero (Nat.zero_le _) (by omega)
theorem refprint_l0 (ls : List Fld) (T : Nat) (hT : T ≤ 900000) (hf : ∀ f ∈ ls, f.1.length ≤ T ∧ f.2.length ≤ T) (hl : (printL ls).length ≤ 1000000000) (hc : ls.length ≤ 1000000) : ∀ (r : List Fld) (i k : Nat), ls.drop i = r → i ≤ ls.length → r.length + 5 * T + 21 ≤ k →
  bulletinref15_Print.l0 k (ls.map toR) (str (printL (ls.take i))) (i : Int) = some (str (printL ls))
 | [], i, k, hd, hi, hk => by
  obtain ⟨k, rfl⟩ : ∃ j, k = j + 1 := ⟨k - 1, by omega⟩
  have hz : ls.length ≤ i := by
   have := congrArg List.length hd
   rw [List.length_drop, List.length_nil] at this
   omega
  rw [bulletinref15_Print.l0, if_neg (by rw [List.length_map]; omega), List.take_of_length_le hz]
 | x :: r, i, k, hd, hi, hk => by
  simp only [List.length_cons] at hk
  obtain ⟨k, rfl⟩ : ∃ j, k = j + 1 := ⟨k - 1, by omega⟩
  have hlt : i < ls.length := by
   have := congrArg List.length hd
   rw [List.length_drop, List.length_cons] at this
   omega
  have hmem : x ∈ ls := List.mem_of_mem_drop (i := i) (by rw [hd]; exact List.mem_cons_self)
  obtain ⟨f1, f2⟩ := hf x hmem
  have hst : ls.take (i + 1) = ls.take i ++ [x] := by
   rw [List.take_succ_eq_append_getElem hlt]
   congr 2
   have := List.getElem?_drop (xs := ls) (i := i) (j := 0)
   rw [hd] at this
   simpa [List.getElem?_eq_getElem hlt] using this.symm
  have hpa : ∀ a b : List Fld, printL (a ++ b) = printL a ++ printL b := fun a b => by simp [printL]
  have hfe : printL ls = printL (ls.take i) ++ (showL x.1 x.2 ++ printL r) := by
   conv => lhs; rw [← List.take_append_drop i ls, hd]
   rw [hpa]
   rfl
  have hft := congrArg List.length hfe
  simp only [List.length_append] at hft
  have hgd : ls.getD i ([], []) = x := by
   have h3 : ls[i]? = some x := by
    have := congrArg List.head? hd
    rw [List.head?_drop] at this
    exact this
   rw [List.getD_eq_getElem?_getD, h3]
   rfl
  have ih := refprint_l0 ls T hT hf hl hc r (i + 1) k (by rw [← List.drop_drop, hd]; rfl) (by omega) (by omega)
  rw [bulletinref15_Print.l0, if_pos (by rw [List.length_map]; omega), if_pos (by omega), rd_toR, hgd]
  unfold toR
  simp only []
  rw [refshow15_is x.1 x.2 (by omega) (by omega) k (by omega), Option.bind_some, if_pos (by rw [str_size, str_size]; omega), str_app, wrap_succ i (by omega)]
  rw [hst, hpa, show printL [x] = showL x.1 x.2 by simp [printL]] at ih
  exact ih
theorem refprint15_is (ls : List Fld) (T : Nat) (hT : T ≤ 900000) (hf : ∀ f ∈ ls, f.1.length ≤ T ∧ f.2.length ≤ T) (hl : (printL ls).length ≤ 1000000000) (hc : ls.length ≤ 1000000) (k : Nat) (hk : ls.length + 5 * T + 21 ≤ k) : bulletinref15_Print.f k (ls.map toR) = some (str (printL ls)) := by
 unfold bulletinref15_Print.f
 exact refprint_l0 ls T hT hf hl hc ls 0 k List.drop_zero (Nat.zero_le _) hk
end Go.Proofs.YtbjbpgmjijeppaaGreatDoor.Pl
set_option linter.unusedVariables false
set_option linter.unusedSimpArgs false
namespace Go.Proofs.YtbjbpgmjijeppaaGreatDoor.Pl
open Go.RowKit Go.Proofs.YtbjbpgmjijeppaaGreatDoorW.PrintWords Go.Proofs.YtbjbpgmjijeppaaGreatDoor.Fn

/-! Layer 14: so many addresses. -/
end Go.Proofs.YtbjbpgmjijeppaaGreatDoor.Pl
set_option linter.unusedVariables false
set_option linter.unusedSimpArgs false
namespace Go.Proofs.YtbjbpgmjijeppaaGreatDoor.Pl
open Go.RowKit Go.Proofs.YtbjbpgmjijeppaaGreatDoorW.PrintWords Go.Proofs.YtbjbpgmjijeppaaGreatDoor.Fn

/-! Layer 14: what the program's functions compute -/
end Go.Proofs.YtbjbpgmjijeppaaGreatDoor.Pl
set_option linter.unusedVariables false
namespace Go.Proofs.YtbjbpgmjijeppaaGreatDoor.Pl
open Go.RowKit Go.Proofs.YtbjbpgmjijeppaaGreatDoorW.PrintWords Go.Proofs.YtbjbpgmjijeppaaGreatDoor.Fn
set_option maxRecDepth 100000 in
theorem works16 (k : Nat) (hk : 200 ≤ k) : bulletinlaw16_works.f k = some true := mono_up (fun k => bulletinlaw16_works.mono k) (show bulletinlaw16_works.f 200 = some true by decide +kernel) k hk
end Go.Proofs.YtbjbpgmjijeppaaGreatDoor.Pl
namespace Go.Proofs.YtbjbpgmjijeppaaGreatDoor.Fn
open Go.RowKit Go.Proofs.YtbjbpgmjijeppaaGreatDoorW.PrintWords Go.Proofs.YtbjbpgmjijeppaaGreatDoorW.PrintLast Go.Proofs.YtbjbpgmjijeppaaGreatDoorW.PrintMore
attribute [local go_sem] max2_int min2_int max_two min_two max_three min_three max_four min_four
set_option linter.unusedVariables false
set_option linter.unusedSimpArgs false

mutual
def bulletinlaw15_Light.l0 : Nat → List (S67) → Int → Option (Bool)
 | 0, _, _ => none
 | k + 1, x0, x3 => if x3 < (x0.length : Int) then (bulletinlaw15_Light.j1 k x0 x3 (decide (x3 < 30))) else (bulletinlaw15_Light.j1 k x0 x3 false)
def bulletinlaw15_Light.j1 : Nat → List (S67) → Int → Bool → Option (Bool)
 | 0, _, _, _ => none
 | k + 1, x0, x3, x11 => if x11 = true then (if 0 ≤ x3 then (if x3 < (x0.length : Int) then (if (((rd_T67 x0 x3).f0).size : Int) > 200 then (some false) else (if (((rd_T67 x0 x3).f1).size : Int) > 3000 then (some false) else (bulletinlaw15_Light.l0 k x0 (wrap64 (x3 + 1))))) else (none)) else (none)) else (some (decide ((x0.length : Int) ≤ 30)))
end
end Go.Proofs.YtbjbpgmjijeppaaGreatDoor.Fn
namespace Go.Proofs.YtbjbpgmjijeppaaGreatDoor.Fn
open Go.RowKit Go.Proofs.YtbjbpgmjijeppaaGreatDoorW.PrintWords Go.Proofs.YtbjbpgmjijeppaaGreatDoorW.PrintLast Go.Proofs.YtbjbpgmjijeppaaGreatDoorW.PrintMore
attribute [local go_sem] max2_int min2_int max_two min_two max_three min_three max_four min_four
set_option linter.unusedVariables false
set_option linter.unusedSimpArgs false

end Go.Proofs.YtbjbpgmjijeppaaGreatDoor.Fn
set_option linter.unusedVariables false
set_option linter.unusedSimpArgs false
namespace Go.Proofs.YtbjbpgmjijeppaaGreatDoor.Pl
open Go.RowKit Go.Proofs.YtbjbpgmjijeppaaGreatDoorW.PrintWords Go.Proofs.YtbjbpgmjijeppaaGreatDoor.Fn

theorem same_rounds (l : List Fld) (hl : l.length ≤ 1000000000) : ∀ (n i k : Nat), l.length = i + n → n < k → bulletinlaw15_Same.l0 k (l.map toP) (l.map toR) true (i : Int) = some true := by
 intro n
 induction n with
 | zero =>
  intro i k h hk
  obtain ⟨k, rfl⟩ : ∃ q, k = q + 1 := ⟨k - 1, by omega⟩
  rw [bulletinlaw15_Same.l0, if_pos rfl, List.length_map, if_neg (by omega)]
 | succ n ih =>
  intro i k h hk
  obtain ⟨k, rfl⟩ : ∃ q, k = q + 1 := ⟨k - 1, by omega⟩
  have hn := ih (i + 1) k (by omega) (by omega)
  rw [bulletinlaw15_Same.l0, if_pos rfl, List.length_map, List.length_map, if_pos (by omega), if_pos (by omega), if_pos (by omega), rd_toP, rd_toR]
  have e1 : (toP (l.getD i ([], []))).f0.toList = (toR (l.getD i ([], []))).f0.toList := rfl
  have e2 : ((toP (l.getD i ([], []))).f1.toList == (toR (l.getD i ([], []))).f1.toList) = true := beq_iff_eq.mpr rfl
  rw [if_pos e1, e2, wrap_succ i (by omega), hn]
theorem same_is (l : List Fld) (hl : l.length ≤ 1000000000) (k : Nat) (hk : l.length < k) : bulletinlaw15_Same.f k (l.map toP) (l.map toR) = some true := by
 unfold bulletinlaw15_Same.f
 rw [List.length_map, List.length_map, show ((l.length : Int) == (l.length : Int)) = true from beq_iff_eq.mpr rfl]
 exact same_rounds l hl l.length 0 k (by omega) hk
theorem parseM_len : ∀ (n : Nat) (s : Bytes) (l : List Fld), l.length ≤ 100 → (parseM n s l).1.length ≤ 100
 | 0, _, _, _ => by simp [parseM, bad]
 | n + 1, s, l, h => by
  rw [parseM]
  split
  ·simpa using h
  ·split
   ·simp [bad]
   ·split
    ·simpa using h
    ·split
     ·rename_i h0
      refine parseM_len n _ _ ?_
      unfold growL at h0 ⊢
      repeat' split
      all_goals (try (simp; done))
      ·unfold addLast; rw [List.length_set]; exact h
      ·rename_i h100; rw [List.length_append]; simp only [List.length_cons, List.length_nil]; omega
     ·simp [bad]
theorem parseH_len (s : Bytes) : (parseH s).1.length ≤ 100 := parseM_len _ s [] (by simp)
end Go.Proofs.YtbjbpgmjijeppaaGreatDoor.Pl
set_option linter.unusedVariables false
set_option linter.unusedSimpArgs false
namespace Go.Proofs.YtbjbpgmjijeppaaGreatDoor.Pl
open Go.RowKit Go.Proofs.YtbjbpgmjijeppaaGreatDoorW.PrintWords Go.Proofs.YtbjbpgmjijeppaaGreatDoor.Fn

theorem headprint_is (l : List Fld) (hl : l.length ≤ 1000000) (hf : ∀ f ∈ l, f.1.length ≤ 1000000 ∧ f.2.length ≤ 1000000) : head_Print.f (l.map toP) = some (str (printL l)) := by
 unfold head_Print.f
 have h1 : (l.map toP).all okP = true := by
  rw [List.all_eq_true]
  intro x hx
  obtain ⟨f, hfm, rfl⟩ := List.mem_map.1 hx
  have := hf f hfm
  unfold okP
  rw [Bool.and_eq_true, decide_eq_true_iff, decide_eq_true_iff]
  exact ⟨by show (str f.1).size ≤ _; rw [str_size]; exact this.1, by show (str f.2).size ≤ _; rw [str_size]; exact this.2⟩
 have h2 : (l.map toP).map ofP = l := by
  rw [List.map_map]
  have : ∀ f ∈ l, (ofP ∘ toP) f = id f := fun f _ => by
   show (bs (str f.1), bs (str f.2)) = f
   rw [bs_str, bs_str]
  rw [List.map_congr_left this, List.map_id]
 rw [if_pos (by rw [List.length_map]; exact hl), if_pos h1, h2]
end Go.Proofs.YtbjbpgmjijeppaaGreatDoor.Pl
set_option linter.unusedVariables false
set_option linter.unusedSimpArgs false
namespace Go.Proofs.YtbjbpgmjijeppaaGreatDoor.Pl
open Go.RowKit Go.Proofs.YtbjbpgmjijeppaaGreatDoorW.PrintWords Go.Proofs.YtbjbpgmjijeppaaGreatDoor.Fn

theorem parseM_sizes (T : Nat) : ∀ (n : Nat) (s : Bytes) (l : List Fld), s.length < n → fits T l s.length → ∀ f ∈ (parseM n s l).1, f.1.length ≤ T ∧ f.2.length ≤ T
 | 0, s, l, hn, hf => by omega
 | n + 1, s, l, hn, hf => by
  have trims : ∀ f ∈ l.map trimF, f.1.length ≤ T ∧ f.2.length ≤ T := fun f hm => by
   obtain ⟨g, hg, rfl⟩ := List.mem_map.1 hm
   have h1 := hf.2 g hg
   have h2 := trim_len g.2
   unfold trimF
   simp only []
   omega
  rw [parseM]
  by_cases h0 : s = []
  ·rw [if_pos h0]; exact trims
  rw [if_neg h0]
  cases hc : crlf s with
  | none => exact fun f hm => by cases hm
  | some i =>
   have hr := crlf_room hc
   simp only []
   by_cases hi : i = 0
   ·rw [if_pos hi]; exact trims
   rw [if_neg hi]
   by_cases hg : (growL l (s.take i)).2 = 0
   ·rw [if_pos hg]
    have hd : (s.drop (i + 2)).length = s.length - (i + 2) := List.length_drop
    refine parseM_sizes T n _ _ (by omega) (grow_fits ?_ hg)
    rw [hd, List.length_take, Nat.min_eq_left (by omega)]
    have e : i + 2 + (s.length - (i + 2)) = s.length := by omega
    rw [e]
    exact hf
   ·rw [if_neg hg]; exact fun f hm => by cases hm
theorem parseH_sizes (s : Bytes) : ∀ f ∈ (parseH s).1, f.1.length ≤ s.length ∧ f.2.length ≤ s.length := parseM_sizes s.length _ s [] (by omega) ⟨by simp, by simp⟩
theorem print_bound (T : Nat) : ∀ l : List Fld, (∀ f ∈ l, f.1.length ≤ T ∧ f.2.length ≤ T) → (printL l).length ≤ l.length * (4 * T + 6)
 | [], _ => by simp [printL]
 | f :: l, h => by
  have h1 := print_bound T l (fun g hg => h g (List.mem_cons_of_mem _ hg))
  have h2 := h f (by simp)
  have h3 := showL_length f.1 f.2
  have e : printL (f :: l) = showL f.1 f.2 ++ printL l := rfl
  rw [e, List.length_append, List.length_cons, Nat.succ_mul]
  omega
theorem msgtext_is (l : List Fld) (T : Nat) (hT : T ≤ 100000) (hl : l.length ≤ 100) (hf : ∀ f ∈ l, f.1.length ≤ T ∧ f.2.length ≤ T) (b : Bytes) (hb : b.length ≤ 1000000) : msg_Message_Text.f (l.map toP) (str b) = some (str (printL l ++ 13 :: 10 :: b)) := by
 have hp := print_bound T l hf
 have hp2 : l.length * (4 * T + 6) ≤ 100 * 400006 := Nat.mul_le_mul hl (by omega)
 unfold msg_Message_Text.f
 rw [headprint_is l (by omega) (fun f hm => by have := hf f hm; omega), Option.bind_some, if_pos (by rw [str_size]; omega), str_lit #[13, 10], str_app, if_pos (by rw [str_size, str_size]; simp only [List.length_append, List.length_cons, List.length_nil]; omega), str_app]
 simp
theorem reftext16_is (l : List Fld) (T : Nat) (hT : T ≤ 100000) (hl : l.length ≤ 100) (hf : ∀ f ∈ l, f.1.length ≤ T ∧ f.2.length ≤ T) (b : Bytes) (hb : b.length ≤ 1000000) (k : Nat) (hk : 5 * T + 200 ≤ k) : bulletinref16_Text.f k (l.map toR) (str b) = some (str (printL l ++ 13 :: 10 :: b)) := by
 have hp := print_bound T l hf
 have hp2 : l.length * (4 * T + 6) ≤ 100 * 400006 := Nat.mul_le_mul hl (by omega)
 unfold bulletinref16_Text.f
 rw [refprint15_is l T (by omega) hf (by omega) (by omega) k (by omega), Option.bind_some, if_pos (by rw [str_size]; omega), str_lit #[13, 10], str_app, if_pos (by rw [str_size, str_size]; simp only [List.length_append, List.length_cons, List.length_nil]; omega), str_app]
 simp
def parseN (s : Bytes) : List Fld × Bytes × Int := if (parseH s).2.2 = 0 then ((parseH s).1, (parseH s).2.1, 0) else ([], [], (parseH s).2.2)
theorem msgparse_is (s : ByteArray) (hs : s.size ≤ 65536) (k : Nat) (hk : 2 * s.size + 40 < k) : msg_Parse.f k s = some ((parseN (bs s)).1.map toP, str (parseN (bs s)).2.1, (parseN (bs s)).2.2) := by
 unfold msg_Parse.f parseN
 rw [if_neg (by omega), headparse_is s (by omega) k hk, Option.bind_some]
 by_cases h : (parseH (bs s)).2.2 = 0
 ·rw [if_pos h, if_pos h]
 ·rw [if_neg h, if_neg h]; rfl
theorem ref16parse_is (s : ByteArray) (hs : s.size ≤ 65536) (k : Nat) (hk : 13 * s.size + 100 < k) : bulletinref16_Parse.f k s = some ((parseN (bs s)).1.map toR, str (parseN (bs s)).2.1, (parseN (bs s)).2.2) := by
 unfold bulletinref16_Parse.f parseN
 rw [if_neg (by omega), refparse_is s (by omega) k hk, Option.bind_some]
 by_cases h : (parseH (bs s)).2.2 = 0
 ·rw [if_pos h, if_pos h]
 ·rw [if_neg h, if_neg h]; rfl
theorem parseM_body (n : Nat) (s : Bytes) (l : List Fld) : (parseM n s l).2.1.length ≤ s.length := by
 induction n generalizing s l with
 | zero => simp [parseM, bad]
 | succ n ih =>
  rw [parseM]
  by_cases h0 : s = []
  ·rw [if_pos h0]; simp
  rw [if_neg h0]
  cases hc : crlf s with
  | none => simp [bad]
  | some i =>
   simp only []
   by_cases hi : i = 0
   ·rw [if_pos hi]; simp only [List.length_drop]; omega
   rw [if_neg hi]
   by_cases hg : (growL l (s.take i)).2 = 0
   ·rw [if_pos hg]
    have := ih (s.drop (i + 2)) (growL l (s.take i)).1
    rw [List.length_drop] at this
    omega
   ·rw [if_neg hg]; simp [bad]
theorem parseN_sizes (s : Bytes) : (parseN s).1.length ≤ 100 ∧ (∀ f ∈ (parseN s).1, f.1.length ≤ s.length ∧ f.2.length ≤ s.length) ∧ (parseN s).2.1.length ≤ s.length := by
 unfold parseN
 split
 ·exact ⟨parseH_len s, parseH_sizes s, parseM_body _ s []⟩
 ·refine ⟨?_, ?_, ?_⟩
  ·simp
  ·intro f hf; simp at hf
  ·simp
theorem same16_is (l : List Fld) (hl : l.length ≤ 1000000000) (b : ByteArray) (k : Nat) (hk : l.length < k) : bulletinlaw16_Same.f k (l.map toP) b (l.map toR) b = some true := by
 unfold bulletinlaw16_Same.f
 rw [same_is l hl k hk, Option.bind_some, if_pos rfl]
 simp
theorem MsgReads (s : ByteArray) : ∃ k, bulletinlaw16_MsgReads.f k s = some true := by
 refine ⟨1000000, ?_⟩
 generalize hK : (1000000 : Nat) = K
 unfold bulletinlaw16_MsgReads.f
 by_cases h1 : (s.size : Int) > 5000
 ·rw [if_pos h1, works16 K (by omega), Option.bind_some]
 have hb := bs_length s
 obtain ⟨p1, p2, p3⟩ := parseN_sizes (bs s)
 rw [if_neg h1, msgparse_is s (by omega) K (by omega), Option.bind_some, ref16parse_is s (by omega) K (by omega), Option.bind_some]
 simp only []
 rw [same16_is _ (by omega) _ K (by omega), Option.bind_some, if_pos rfl, if_pos trivial, msgtext_is _ 5000 (by omega) p1 (fun f hf => by have := p2 f hf; omega) _ (by omega), Option.bind_some, reftext16_is _ 5000 (by omega) p1 (fun f hf => by have := p2 f hf; omega) _ (by omega) K (by omega), Option.bind_some, if_pos rfl, works16 K (by omega), Option.bind_some]
end Go.Proofs.YtbjbpgmjijeppaaGreatDoor.Pl
