/- A part of the proof of this sentence: the tables of unicode/utf8 are as the program's text lays them. -/
import Derived.Test.YtgaaogijfikfeaaDoorCMimeMany2
import Derived.RangeFuncRecord
import Derived.Shelf.Strings.SlTrimAscii
import Derived.Deep.QuietTactic
import Derived.BigQuiet
import Derived.Shelf.Strings.IndexAnyAll
-- written by xprint.py of this session over the kit's printer; not trusted: Lean checks it
namespace Go.Proofs.YtgaaogijfikfeaaDoor.Fn
open Go.RowKit Go.Proofs.YtgaaogijfikfeaaDoorW.PrintWords Go.Proofs.YtgaaogijfikfeaaDoorW.PrintLast Go.Proofs.YtgaaogijfikfeaaDoorW.PrintMore
attribute [local go_sem] max2_int min2_int max_two min_two max_three min_three max_four min_four   -- for this text's walks alone
set_option linter.unusedVariables false
set_option linter.unusedSimpArgs false

/-! ### bulletinlaw20_works: function 53 -/
def bulletinlaw20_works.f (k : Nat)  : Option (Bool) := (mime_ReadType.f k (⟨#[84, 101, 120, 116, 47, 80, 108, 97, 105, 110, 59, 32, 67, 104, 97, 114, 115, 101, 116, 61, 34, 120, 32, 121, 34]⟩ : ByteArray)).bind fun bt710 => ((mime_Type_Value.f k bt710.1 bt710.2.1 (⟨#[67, 72, 65, 82, 83, 69, 84]⟩ : ByteArray)).bind fun bt716 => ((mime_Split.f (⟨#[45, 45, 98, 13, 10, 120, 13, 10, 45, 45, 98, 45, 45, 13, 10]⟩ : ByteArray) (⟨#[98]⟩ : ByteArray)).bind fun bt718 => (if bt710.2.2 = 0 then (if bt710.1.toList = ([116, 101, 120, 116, 47, 112, 108, 97, 105, 110] : List UInt8) then (if bt716.1.toList = ([120, 32, 121] : List UInt8) then (if bt716.2 = true then ((mime_Type_Text.f k bt710.1 bt710.2.1).bind fun t722 => (if t722.toList = ([116, 101, 120, 116, 47, 112, 108, 97, 105, 110, 59, 32, 99, 104, 97, 114, 115, 101, 116, 61, 34, 120, 32, 121, 34] : List UInt8) then (if bt718.2 = 0 then (if (bt718.1.length : Int) = 1 then (if 0 < (bt718.1.length : Int) then (some ((rdOf ByteArray.empty bt718.1 0).toList == ([120] : List UInt8))) else (none)) else (some false)) else (some false)) else (some false))) else (some false)) else (some false)) else (some false)) else (some false))))
theorem bulletinlaw20_works.mono : ∀ k, LeO (bulletinlaw20_works.f k ) (bulletinlaw20_works.f (k + 1) ) := by
 intro  k
 unfold bulletinlaw20_works.f
 repeat' first
   | (with_reducible exact mime_ReadType.mono _ _)
   | (with_reducible exact mime_Type_Text.mono _ _ _)
   | (with_reducible exact mime_Type_Value.mono _ _ _ _)
   | (with_reducible exact LeO.refl _)
   | (with_reducible exact LeO.none _)
   | (with_reducible refine LeO.ite ?_ ?_)
   | (with_reducible refine LeO.bind ?_ (fun _ => ?_))
   | exact mime_ReadType.mono _ _
   | exact mime_Type_Text.mono _ _ _
   | exact mime_Type_Value.mono _ _ _ _
   | exact LeO.none _
   | refine LeO.ite ?_ ?_
   | refine LeO.bind ?_ (fun _ => ?_)
set_option maxHeartbeats 8000000 in
set_option maxRecDepth 100000 in
theorem bulletinlaw20_works.calls (k : Nat)  (r : Bool) (w : World) (hG : Glob w) (h : bulletinlaw20_works.f k  = some r) :
  Calls Tryd.prog 53 #[] w fun e w' => e = .returned (.bool r) ∧ Below w.heap.size w w' := by
 have hu91 := Tryd.underlying91
 have HB := Aside0.mk (Below.refl w.heap.size w)
 have H : ((mime_ReadType.f k (⟨#[84, 101, 120, 116, 47, 80, 108, 97, 105, 110, 59, 32, 67, 104, 97, 114, 115, 101, 116, 61, 34, 120, 32, 121, 34]⟩ : ByteArray)).bind fun bt710 => ((mime_Type_Value.f k bt710.1 bt710.2.1 (⟨#[67, 72, 65, 82, 83, 69, 84]⟩ : ByteArray)).bind fun bt716 => ((mime_Split.f (⟨#[45, 45, 98, 13, 10, 120, 13, 10, 45, 45, 98, 45, 45, 13, 10]⟩ : ByteArray) (⟨#[98]⟩ : ByteArray)).bind fun bt718 => (if bt710.2.2 = 0 then (if bt710.1.toList = ([116, 101, 120, 116, 47, 112, 108, 97, 105, 110] : List UInt8) then (if bt716.1.toList = ([120, 32, 121] : List UInt8) then (if bt716.2 = true then ((mime_Type_Text.f k bt710.1 bt710.2.1).bind fun t722 => (if t722.toList = ([116, 101, 120, 116, 47, 112, 108, 97, 105, 110, 59, 32, 99, 104, 97, 114, 115, 101, 116, 61, 34, 120, 32, 121, 34] : List UInt8) then (if bt718.2 = 0 then (if (bt718.1.length : Int) = 1 then (if 0 < (bt718.1.length : Int) then (some ((rdOf ByteArray.empty bt718.1 0).toList == ([120] : List UInt8))) else (none)) else (some false)) else (some false)) else (some false))) else (some false)) else (some false)) else (some false)) else (some false))))) = some r := h
 clear h
 replace H := Option.bind_eq_some_iff.mp H
 obtain ⟨⟨t710, t711, t714⟩, A10, H⟩ := H
 replace H : ((mime_Type_Value.f k t710 t711 (⟨#[67, 72, 65, 82, 83, 69, 84]⟩ : ByteArray)).bind fun bt716 => ((mime_Split.f (⟨#[45, 45, 98, 13, 10, 120, 13, 10, 45, 45, 98, 45, 45, 13, 10]⟩ : ByteArray) (⟨#[98]⟩ : ByteArray)).bind fun bt718 => (if t714 = 0 then (if t710.toList = ([116, 101, 120, 116, 47, 112, 108, 97, 105, 110] : List UInt8) then (if bt716.1.toList = ([120, 32, 121] : List UInt8) then (if bt716.2 = true then ((mime_Type_Text.f k t710 t711).bind fun t722 => (if t722.toList = ([116, 101, 120, 116, 47, 112, 108, 97, 105, 110, 59, 32, 99, 104, 97, 114, 115, 101, 116, 61, 34, 120, 32, 121, 34] : List UInt8) then (if bt718.2 = 0 then (if (bt718.1.length : Int) = 1 then (if 0 < (bt718.1.length : Int) then (some ((rdOf ByteArray.empty bt718.1 0).toList == ([120] : List UInt8))) else (none)) else (some false)) else (some false)) else (some false))) else (some false)) else (some false)) else (some false)) else (some false)))) = some r := H
 have A1 := Aside0.mk A10
 clear A10
 replace H := Option.bind_eq_some_iff.mp H
 obtain ⟨⟨t716, t717⟩, A20, H⟩ := H
 replace H : ((mime_Split.f (⟨#[45, 45, 98, 13, 10, 120, 13, 10, 45, 45, 98, 45, 45, 13, 10]⟩ : ByteArray) (⟨#[98]⟩ : ByteArray)).bind fun bt718 => (if t714 = 0 then (if t710.toList = ([116, 101, 120, 116, 47, 112, 108, 97, 105, 110] : List UInt8) then (if t716.toList = ([120, 32, 121] : List UInt8) then (if t717 = true then ((mime_Type_Text.f k t710 t711).bind fun t722 => (if t722.toList = ([116, 101, 120, 116, 47, 112, 108, 97, 105, 110, 59, 32, 99, 104, 97, 114, 115, 101, 116, 61, 34, 120, 32, 121, 34] : List UInt8) then (if bt718.2 = 0 then (if (bt718.1.length : Int) = 1 then (if 0 < (bt718.1.length : Int) then (some ((rdOf ByteArray.empty bt718.1 0).toList == ([120] : List UInt8))) else (none)) else (some false)) else (some false)) else (some false))) else (some false)) else (some false)) else (some false)) else (some false))) = some r := H
 have A2 := Aside0.mk A20
 clear A20
 replace H := Option.bind_eq_some_iff.mp H
 obtain ⟨⟨t718, t719⟩, A30, H⟩ := H
 replace H : (if t714 = 0 then (if t710.toList = ([116, 101, 120, 116, 47, 112, 108, 97, 105, 110] : List UInt8) then (if t716.toList = ([120, 32, 121] : List UInt8) then (if t717 = true then ((mime_Type_Text.f k t710 t711).bind fun t722 => (if t722.toList = ([116, 101, 120, 116, 47, 112, 108, 97, 105, 110, 59, 32, 99, 104, 97, 114, 115, 101, 116, 61, 34, 120, 32, 121, 34] : List UInt8) then (if t719 = 0 then (if (t718.length : Int) = 1 then (if 0 < (t718.length : Int) then (some ((rdOf ByteArray.empty t718 0).toList == ([120] : List UInt8))) else (none)) else (some false)) else (some false)) else (some false))) else (some false)) else (some false)) else (some false)) else (some false)) = some r := H
 have A3 := Aside0.mk A30
 clear A30
 by_cases c4 : t714 = 0
 ·rw [if_pos c4] at H
  have c4b0 : (t714 == 0) = true := beq_iff_eq.mpr c4
  have c4b1 : (t714 != 0) = false := bne_eq_false_iff_eq.mpr c4
  clear c4
  by_cases c5 : t710.toList = ([116, 101, 120, 116, 47, 112, 108, 97, 105, 110] : List UInt8)
  ·rw [if_pos c5] at H
   have c5b0 : (t710.toList == ([116, 101, 120, 116, 47, 112, 108, 97, 105, 110] : List UInt8)) = true := beq_iff_eq.mpr c5
   have c5b1 : (t710.toList != ([116, 101, 120, 116, 47, 112, 108, 97, 105, 110] : List UInt8)) = false := bne_eq_false_iff_eq.mpr c5
   clear c5
   by_cases c6 : t716.toList = ([120, 32, 121] : List UInt8)
   ·rw [if_pos c6] at H
    have c6b0 : (t716.toList == ([120, 32, 121] : List UInt8)) = true := beq_iff_eq.mpr c6
    have c6b1 : (t716.toList != ([120, 32, 121] : List UInt8)) = false := bne_eq_false_iff_eq.mpr c6
    clear c6
    by_cases c7 : t717 = true
    ·subst c7
     have H1 : ((mime_Type_Text.f k t710 t711).bind fun t722 => (if t722.toList = ([116, 101, 120, 116, 47, 112, 108, 97, 105, 110, 59, 32, 99, 104, 97, 114, 115, 101, 116, 61, 34, 120, 32, 121, 34] : List UInt8) then (if t719 = 0 then (if (t718.length : Int) = 1 then (if 0 < (t718.length : Int) then (some ((rdOf ByteArray.empty t718 0).toList == ([120] : List UInt8))) else (none)) else (some false)) else (some false)) else (some false))) = some r := by rw [if_pos rfl] at H; exact H
     clear H
     have H := H1
     clear H1
     replace H := Option.bind_eq_some_iff.mp H
     obtain ⟨t722, A80, H⟩ := H
     replace H : (if t722.toList = ([116, 101, 120, 116, 47, 112, 108, 97, 105, 110, 59, 32, 99, 104, 97, 114, 115, 101, 116, 61, 34, 120, 32, 121, 34] : List UInt8) then (if t719 = 0 then (if (t718.length : Int) = 1 then (if 0 < (t718.length : Int) then (some ((rdOf ByteArray.empty t718 0).toList == ([120] : List UInt8))) else (none)) else (some false)) else (some false)) else (some false)) = some r := H
     have A8 := Aside0.mk A80
     clear A80
     by_cases c9 : t722.toList = ([116, 101, 120, 116, 47, 112, 108, 97, 105, 110, 59, 32, 99, 104, 97, 114, 115, 101, 116, 61, 34, 120, 32, 121, 34] : List UInt8)
     ·rw [if_pos c9] at H
      have c9b0 : (t722.toList == ([116, 101, 120, 116, 47, 112, 108, 97, 105, 110, 59, 32, 99, 104, 97, 114, 115, 101, 116, 61, 34, 120, 32, 121, 34] : List UInt8)) = true := beq_iff_eq.mpr c9
      have c9b1 : (t722.toList != ([116, 101, 120, 116, 47, 112, 108, 97, 105, 110, 59, 32, 99, 104, 97, 114, 115, 101, 116, 61, 34, 120, 32, 121, 34] : List UInt8)) = false := bne_eq_false_iff_eq.mpr c9
      clear c9
      by_cases c10 : t719 = 0
      ·rw [if_pos c10] at H
       have c10b0 : (t719 == 0) = true := beq_iff_eq.mpr c10
       have c10b1 : (t719 != 0) = false := bne_eq_false_iff_eq.mpr c10
       clear c10
       by_cases c11 : (t718.length : Int) = 1
       ·rw [if_pos c11] at H
        have c11b0 : ((t718.length : Int) == 1) = true := beq_iff_eq.mpr c11
        have c11b1 : ((t718.length : Int) != 1) = false := bne_eq_false_iff_eq.mpr c11
        clear c11
        by_cases c12 : 0 < (t718.length : Int)
        ·rw [if_pos c12] at H
         have c12b0 : decide (0 < (t718.length : Int)) = true := decide_eq_true c12
         have c12b1 : decide (0 < t718.length) = true := decide_eq_true (by omega)
         clear c12
         obtain rfl := Option.some.inj H
         go_enter Tryd.func53, Tryd.ntmps53
         go_wp2_with (first | ((with_reducible refine gate_callee (f := 54) rfl ?_); refine goesL_ (some 8) rfl rfl Tryd.func54 (by kernel_rfl) rfl #[.string (⟨#[84, 101, 120, 116, 47, 80, 108, 97, 105, 110, 59, 32, 67, 104, 97, 114, 115, 101, 116, 61, 34, 120, 32, 121, 34]⟩ : ByteArray)] rfl am ?_; (with_reducible refine (mime_ReadType.calls (hG := by first | exact hG | exact Glob.below hG (by first | exact HB.out | (repeat (first | (with_reducible first | exact HB.out | apply below_alloc | apply pw_below_drewN | apply below_drew1 | refine below_set ?_ GE715.out) | exact HB.out))) | exact Glob.drawn hG (by repeat (first | exact Drawn0.refl _ | apply Drawn0.step))) k (⟨#[84, 101, 120, 116, 47, 80, 108, 97, 105, 110, 59, 32, 67, 104, 97, 114, 115, 101, 116, 61, 34, 120, 32, 121, 34]⟩ : ByteArray) t710 t711 t714 _ A1.out).mono ?_); rintro e w13 ⟨v712, rfl, ho0, hb⟩; refine ⟨_, rfl, ?_⟩; have n0_ := Aside0.mk (Kd.R_lower ho0 (below_size bw)); have n1_ := Aside0.mk (below_step bw hb); clear HB; have HO713 := n0_; have HB := n1_; clear n0_ n1_; (try clear hb); (try clear hb2); (try clear hk); (try clear hi); (try clear ho0)) | ((with_reducible refine gate_dst (N := 1) rfl ?_); (try (refine gate_guard (by rfl) ?_; dsimp only)); refine box_event ?hg (N := 1) ?hd (cs := #[.string (⟨#[]⟩ : ByteArray), .slice none 0 0]) (t := 91) ?hr ?_; (case hd => rfl); (case hg => rfl); (case hr => first | (go_simp; done) | (go_simp; rfl)); intro gb715 hg w14 hbox hb; have n0_ := Aside0.mk (Kd.R_below (by (with_reducible repeat (first | apply Kd.R_alloc | apply Kd.R_drewN | apply Kd.R_drew)); exact HO713.out) hb); have n1_ := Aside0.mk (below_step bw hb); have n2_ := Aside0.mk (hbox); have n3_ := Aside0.mk ((by rw [hg]; exact (below_size bw) : w.heap.size ≤ gb715)); have n4_ := Aside0.mk ((by rw [hg]; exact (below_size bw) : w.heap.size ≤ gb715)); clear HO713; clear HB; have HO713 := n0_; have HB := n1_; have BK715 := n2_; have GW715 := n3_; have GE715 := n4_; clear n0_ n1_ n2_ n3_ n4_; clear hb hbox hg; have hcz15_0 : w14.cell? ⟨gb715, 0, none⟩ = some (.string (⟨#[]⟩ : ByteArray)) := (blk_cell BK715.out 0).trans rfl; have hcz15_1 : w14.cell? ⟨gb715, 1, none⟩ = some (.slice none 0 0) := (blk_cell BK715.out 1).trans rfl; have hfz15_0 := blk_frozen BK715.out 0; have hfz15_1 := blk_frozen BK715.out 1; obtain ⟨Ao16, co16, eo16⟩ := Kd.R_slice HO713.out; subst eo16) | ((with_reducible refine gate_callee (f := 58) rfl ?_); refine goesL_ (some 13) rfl rfl Tryd.func58 (by kernel_rfl) rfl #[.agg #[.string t710, .slice Ao16 t711.length co16], .string (⟨#[67, 72, 65, 82, 83, 69, 84]⟩ : ByteArray)] rfl am ?_; (with_reducible refine (mime_Type_Value.calls k t710 _ _ t711 (⟨#[67, 72, 65, 82, 83, 69, 84]⟩ : ByteArray) t716 true _ ?side1 ?side2 A2.out).mono ?_); (case side1 => refine (Kd.R_reads' (e := 158) (base := w.heap.size) (ok := fun k_ => True) (n := t711.length) (c := co16) ?_).2.2; exact (by (with_reducible repeat (first | apply Kd.R_alloc | apply Kd.R_drewN | apply Kd.R_drew)); exact (Kd.R_mono (Kd.R_far (p := ⟨gb715, 1, none⟩) (Kd.R_far (p := ⟨gb715, 0, none⟩) (Kd.R_types HO713.out BK715.out (by decide)) (fun _ hk => hk.2) (.string t710)) (fun _ hk => hk.2) (.slice Ao16 t711.length co16)) (fun _ h_ => h_.1)))); (case side2 => exact (Kd.R_reads' HO713.out).2.1); rintro e w17 ⟨rfl, hb⟩; refine ⟨_, rfl, ?_⟩; have n0_ := Aside0.mk (Kd.R_below (by (with_reducible repeat (first | apply Kd.R_alloc | apply Kd.R_drewN | apply Kd.R_drew)); exact (Kd.R_mono (Kd.R_far (p := ⟨gb715, 1, none⟩) (Kd.R_far (p := ⟨gb715, 0, none⟩) (Kd.R_types HO713.out BK715.out (by decide)) (fun _ hk => hk.2) (.string t710)) (fun _ hk => hk.2) (.slice Ao16 t711.length co16)) (fun _ h_ => h_.1))) hb); have n1_ := Aside0.mk (blk_below (g := gb715) (o := .cells #[.string t710, .slice Ao16 t711.length co16] 91 (0, 0)) (by (with_reducible repeat (first | refine blk_drewN ?_ _ | refine blk_drew ?_ | refine blk_alloc ?_ _)); refine blk_put (cs := #[.string t710, .slice none 0 0]) ?_ 1 _ rfl; (with_reducible repeat (first | refine blk_drewN ?_ _ | refine blk_drew ?_ | refine blk_alloc ?_ _)); refine blk_put (cs := #[.string (⟨#[]⟩ : ByteArray), .slice none 0 0]) ?_ 0 _ rfl; (with_reducible repeat (first | refine blk_drewN ?_ _ | refine blk_drew ?_ | refine blk_alloc ?_ _)); exact BK715.out) hb); have n2_ := Aside0.mk (below_step bwS hb); clear HO713; clear BK715; clear HB; have HO713 := n0_; have BK715 := n1_; have HB := n2_; clear n0_ n1_ n2_; (try clear hb); (try clear hb2); (try clear hk); (try clear hi)) | ((with_reducible refine gate_callee (f := 62) rfl ?_); refine goesL_ (some 17) rfl rfl Tryd.func62 (by kernel_rfl) rfl #[.string (⟨#[45, 45, 98, 13, 10, 120, 13, 10, 45, 45, 98, 45, 45, 13, 10]⟩ : ByteArray), .string (⟨#[98]⟩ : ByteArray)] rfl am ?_; (with_reducible refine (mime_Split.calls (hG := by first | exact hG | exact Glob.below hG (by first | exact HB.out | (repeat (first | (with_reducible first | exact HB.out | apply below_alloc | apply pw_below_drewN | apply below_drew1 | refine below_set ?_ GE715.out) | exact HB.out))) | exact Glob.drawn hG (by repeat (first | exact Drawn0.refl _ | apply Drawn0.step))) (⟨#[45, 45, 98, 13, 10, 120, 13, 10, 45, 45, 98, 45, 45, 13, 10]⟩ : ByteArray) (⟨#[98]⟩ : ByteArray) t718 t719 _ A3.out).mono ?_); rintro e w18 ⟨v720, rfl, ho0, hb⟩; refine ⟨_, rfl, ?_⟩; have n0_ := Aside0.mk (Kd.R_below (by (with_reducible repeat (first | apply Kd.R_alloc | apply Kd.R_drewN | apply Kd.R_drew)); exact HO713.out) hb); have n1_ := Aside0.mk (Kd.R_lower ho0 (below_size bwS)); have n2_ := Aside0.mk (blk_below (g := gb715) (o := .cells #[.string t710, .slice Ao16 t711.length co16] 91 (0, 0)) bk hb); have n3_ := Aside0.mk (below_step bwS hb); clear HO713; clear BK715; clear HB; have HO713 := n0_; have HO721 := n1_; have BK715 := n2_; have HB := n3_; clear n0_ n1_ n2_ n3_; (try clear hb); (try clear hb2); (try clear hk); (try clear hi); (try clear ho0); have hcz19_0 : w18.cell? ⟨gb715, 0, none⟩ = some (.string t710) := (blk_cell BK715.out 0).trans rfl; have hcz19_1 : w18.cell? ⟨gb715, 1, none⟩ = some (.slice Ao16 t711.length co16) := (blk_cell BK715.out 1).trans rfl; have hfz19_0 := blk_frozen BK715.out 0; have hfz19_1 := blk_frozen BK715.out 1) | (go_at_call 60; (with_reducible refine (mime_Type_Text.calls (hG := by first | exact hG | exact Glob.below hG (by first | exact HB.out | (repeat (first | (with_reducible first | exact HB.out | apply below_alloc | apply pw_below_drewN | apply below_drew1 | refine below_set ?_ GE715.out) | exact HB.out))) | exact Glob.drawn hG (by repeat (first | exact Drawn0.refl _ | apply Drawn0.step))) k t710 _ _ t711 t722 _ ?side1 ?side2 A8.out).mono ?_); (case side1 => repeat (first | exact (Kd.R_reads' HO713.out).2.2 | (with_reducible refine Kd.C_alloc ?_ _) | (with_reducible refine Kd.C_drewN ?_ _) | (with_reducible refine Kd.C_drew ?_))); (case side2 => exact (Kd.R_reads' HO713.out).2.1); rintro e w20 ⟨rfl, hb⟩; have n0_ := Aside0.mk (Kd.R_below (by (with_reducible repeat (first | apply Kd.R_alloc | apply Kd.R_drewN | apply Kd.R_drew)); exact HO713.out) hb); have n1_ := Aside0.mk (Kd.R_below (by (with_reducible repeat (first | apply Kd.R_alloc | apply Kd.R_drewN | apply Kd.R_drew)); exact HO721.out) hb); have n2_ := Aside0.mk (blk_below (g := gb715) (o := .cells #[.string t710, .slice Ao16 t711.length co16] 91 (0, 0)) bk hb); have n3_ := Aside0.mk (below_step bwS hb); clear HO713; clear HO721; clear BK715; clear HB; have HO713 := n0_; have HO721 := n1_; have BK715 := n2_; have HB := n3_; clear n0_ n1_ n2_ n3_; (try clear hb); (try clear hb2); (try clear hk); (try clear hi); obtain ⟨Ao21, co21, eo21⟩ := Kd.R_slice HO721.out; subst eo21; have p723 : 0 ≤ (0 : Int) := (by omega); have q723 : 0 < (t718.length : Int) := od; obtain ⟨ad723, e723, hx723_0⟩ := Kd.at_string (Kd.R_reads' HO721.out).2.2 0 p723 q723; cases e723; have qi723 : (0 < t718.length) = True := eq_true (by omega); (try rw [show ((0 : Int)).toNat = 0 from rfl] at hx723_0); (try rw [Addr.add_zero'] at hx723_0); replace p723 := eq_true p723; replace q723 := eq_true q723))
         go_ret
         exact ⟨by first | rfl | (simp [errW_none, errW_some] <;> rfl) | (simp [*, errW_none, errW_some] <;> rfl), by repeat (first | (with_reducible first | exact HB.out | apply below_alloc | apply pw_below_drewN | apply below_drew1 | refine below_set ?_ GE715.out) | exact HB.out)⟩
        ·rw [if_neg c12] at H
         exact absurd H (by simp)
       ·rw [if_neg c11] at H
        have c11b0 : ((t718.length : Int) == 1) = false := beq_eq_false_iff_ne.mpr c11
        have c11b1 : ((t718.length : Int) != 1) = true := bne_iff_ne.mpr c11
        obtain rfl := Option.some.inj H
        go_enter Tryd.func53, Tryd.ntmps53
        go_wp2_with (first | ((with_reducible refine gate_callee (f := 54) rfl ?_); refine goesL_ (some 8) rfl rfl Tryd.func54 (by kernel_rfl) rfl #[.string (⟨#[84, 101, 120, 116, 47, 80, 108, 97, 105, 110, 59, 32, 67, 104, 97, 114, 115, 101, 116, 61, 34, 120, 32, 121, 34]⟩ : ByteArray)] rfl am ?_; (with_reducible refine (mime_ReadType.calls (hG := by first | exact hG | exact Glob.below hG (by first | exact HB.out | (repeat (first | (with_reducible first | exact HB.out | apply below_alloc | apply pw_below_drewN | apply below_drew1 | refine below_set ?_ GE715.out) | exact HB.out))) | exact Glob.drawn hG (by repeat (first | exact Drawn0.refl _ | apply Drawn0.step))) k (⟨#[84, 101, 120, 116, 47, 80, 108, 97, 105, 110, 59, 32, 67, 104, 97, 114, 115, 101, 116, 61, 34, 120, 32, 121, 34]⟩ : ByteArray) t710 t711 t714 _ A1.out).mono ?_); rintro e w22 ⟨v712, rfl, ho0, hb⟩; refine ⟨_, rfl, ?_⟩; have n0_ := Aside0.mk (Kd.R_lower ho0 (below_size bw)); have n1_ := Aside0.mk (below_step bw hb); clear HB; have HO713 := n0_; have HB := n1_; clear n0_ n1_; (try clear hb); (try clear hb2); (try clear hk); (try clear hi); (try clear ho0)) | ((with_reducible refine gate_dst (N := 1) rfl ?_); (try (refine gate_guard (by rfl) ?_; dsimp only)); refine box_event ?hg (N := 1) ?hd (cs := #[.string (⟨#[]⟩ : ByteArray), .slice none 0 0]) (t := 91) ?hr ?_; (case hd => rfl); (case hg => rfl); (case hr => first | (go_simp; done) | (go_simp; rfl)); intro gb715 hg w23 hbox hb; have n0_ := Aside0.mk (Kd.R_below (by (with_reducible repeat (first | apply Kd.R_alloc | apply Kd.R_drewN | apply Kd.R_drew)); exact HO713.out) hb); have n1_ := Aside0.mk (below_step bw hb); have n2_ := Aside0.mk (hbox); have n3_ := Aside0.mk ((by rw [hg]; exact (below_size bw) : w.heap.size ≤ gb715)); have n4_ := Aside0.mk ((by rw [hg]; exact (below_size bw) : w.heap.size ≤ gb715)); clear HO713; clear HB; have HO713 := n0_; have HB := n1_; have BK715 := n2_; have GW715 := n3_; have GE715 := n4_; clear n0_ n1_ n2_ n3_ n4_; clear hb hbox hg; have hcz24_0 : w23.cell? ⟨gb715, 0, none⟩ = some (.string (⟨#[]⟩ : ByteArray)) := (blk_cell BK715.out 0).trans rfl; have hcz24_1 : w23.cell? ⟨gb715, 1, none⟩ = some (.slice none 0 0) := (blk_cell BK715.out 1).trans rfl; have hfz24_0 := blk_frozen BK715.out 0; have hfz24_1 := blk_frozen BK715.out 1; obtain ⟨Ao25, co25, eo25⟩ := Kd.R_slice HO713.out; subst eo25) | ((with_reducible refine gate_callee (f := 58) rfl ?_); refine goesL_ (some 13) rfl rfl Tryd.func58 (by kernel_rfl) rfl #[.agg #[.string t710, .slice Ao25 t711.length co25], .string (⟨#[67, 72, 65, 82, 83, 69, 84]⟩ : ByteArray)] rfl am ?_; (with_reducible refine (mime_Type_Value.calls k t710 _ _ t711 (⟨#[67, 72, 65, 82, 83, 69, 84]⟩ : ByteArray) t716 true _ ?side1 ?side2 A2.out).mono ?_); (case side1 => refine (Kd.R_reads' (e := 158) (base := w.heap.size) (ok := fun k_ => True) (n := t711.length) (c := co25) ?_).2.2; exact (by (with_reducible repeat (first | apply Kd.R_alloc | apply Kd.R_drewN | apply Kd.R_drew)); exact (Kd.R_mono (Kd.R_far (p := ⟨gb715, 1, none⟩) (Kd.R_far (p := ⟨gb715, 0, none⟩) (Kd.R_types HO713.out BK715.out (by decide)) (fun _ hk => hk.2) (.string t710)) (fun _ hk => hk.2) (.slice Ao25 t711.length co25)) (fun _ h_ => h_.1)))); (case side2 => exact (Kd.R_reads' HO713.out).2.1); rintro e w26 ⟨rfl, hb⟩; refine ⟨_, rfl, ?_⟩; have n0_ := Aside0.mk (Kd.R_below (by (with_reducible repeat (first | apply Kd.R_alloc | apply Kd.R_drewN | apply Kd.R_drew)); exact (Kd.R_mono (Kd.R_far (p := ⟨gb715, 1, none⟩) (Kd.R_far (p := ⟨gb715, 0, none⟩) (Kd.R_types HO713.out BK715.out (by decide)) (fun _ hk => hk.2) (.string t710)) (fun _ hk => hk.2) (.slice Ao25 t711.length co25)) (fun _ h_ => h_.1))) hb); have n1_ := Aside0.mk (blk_below (g := gb715) (o := .cells #[.string t710, .slice Ao25 t711.length co25] 91 (0, 0)) (by (with_reducible repeat (first | refine blk_drewN ?_ _ | refine blk_drew ?_ | refine blk_alloc ?_ _)); refine blk_put (cs := #[.string t710, .slice none 0 0]) ?_ 1 _ rfl; (with_reducible repeat (first | refine blk_drewN ?_ _ | refine blk_drew ?_ | refine blk_alloc ?_ _)); refine blk_put (cs := #[.string (⟨#[]⟩ : ByteArray), .slice none 0 0]) ?_ 0 _ rfl; (with_reducible repeat (first | refine blk_drewN ?_ _ | refine blk_drew ?_ | refine blk_alloc ?_ _)); exact BK715.out) hb); have n2_ := Aside0.mk (below_step bwS hb); clear HO713; clear BK715; clear HB; have HO713 := n0_; have BK715 := n1_; have HB := n2_; clear n0_ n1_ n2_; (try clear hb); (try clear hb2); (try clear hk); (try clear hi)) | ((with_reducible refine gate_callee (f := 62) rfl ?_); refine goesL_ (some 17) rfl rfl Tryd.func62 (by kernel_rfl) rfl #[.string (⟨#[45, 45, 98, 13, 10, 120, 13, 10, 45, 45, 98, 45, 45, 13, 10]⟩ : ByteArray), .string (⟨#[98]⟩ : ByteArray)] rfl am ?_; (with_reducible refine (mime_Split.calls (hG := by first | exact hG | exact Glob.below hG (by first | exact HB.out | (repeat (first | (with_reducible first | exact HB.out | apply below_alloc | apply pw_below_drewN | apply below_drew1 | refine below_set ?_ GE715.out) | exact HB.out))) | exact Glob.drawn hG (by repeat (first | exact Drawn0.refl _ | apply Drawn0.step))) (⟨#[45, 45, 98, 13, 10, 120, 13, 10, 45, 45, 98, 45, 45, 13, 10]⟩ : ByteArray) (⟨#[98]⟩ : ByteArray) t718 t719 _ A3.out).mono ?_); rintro e w27 ⟨v720, rfl, ho0, hb⟩; refine ⟨_, rfl, ?_⟩; have n0_ := Aside0.mk (Kd.R_below (by (with_reducible repeat (first | apply Kd.R_alloc | apply Kd.R_drewN | apply Kd.R_drew)); exact HO713.out) hb); have n1_ := Aside0.mk (Kd.R_lower ho0 (below_size bwS)); have n2_ := Aside0.mk (blk_below (g := gb715) (o := .cells #[.string t710, .slice Ao25 t711.length co25] 91 (0, 0)) bk hb); have n3_ := Aside0.mk (below_step bwS hb); clear HO713; clear BK715; clear HB; have HO713 := n0_; have HO721 := n1_; have BK715 := n2_; have HB := n3_; clear n0_ n1_ n2_ n3_; (try clear hb); (try clear hb2); (try clear hk); (try clear hi); (try clear ho0); have hcz28_0 : w27.cell? ⟨gb715, 0, none⟩ = some (.string t710) := (blk_cell BK715.out 0).trans rfl; have hcz28_1 : w27.cell? ⟨gb715, 1, none⟩ = some (.slice Ao25 t711.length co25) := (blk_cell BK715.out 1).trans rfl; have hfz28_0 := blk_frozen BK715.out 0; have hfz28_1 := blk_frozen BK715.out 1) | (go_at_call 60; (with_reducible refine (mime_Type_Text.calls (hG := by first | exact hG | exact Glob.below hG (by first | exact HB.out | (repeat (first | (with_reducible first | exact HB.out | apply below_alloc | apply pw_below_drewN | apply below_drew1 | refine below_set ?_ GE715.out) | exact HB.out))) | exact Glob.drawn hG (by repeat (first | exact Drawn0.refl _ | apply Drawn0.step))) k t710 _ _ t711 t722 _ ?side1 ?side2 A8.out).mono ?_); (case side1 => repeat (first | exact (Kd.R_reads' HO713.out).2.2 | (with_reducible refine Kd.C_alloc ?_ _) | (with_reducible refine Kd.C_drewN ?_ _) | (with_reducible refine Kd.C_drew ?_))); (case side2 => exact (Kd.R_reads' HO713.out).2.1); rintro e w29 ⟨rfl, hb⟩; have n0_ := Aside0.mk (Kd.R_below (by (with_reducible repeat (first | apply Kd.R_alloc | apply Kd.R_drewN | apply Kd.R_drew)); exact HO713.out) hb); have n1_ := Aside0.mk (Kd.R_below (by (with_reducible repeat (first | apply Kd.R_alloc | apply Kd.R_drewN | apply Kd.R_drew)); exact HO721.out) hb); have n2_ := Aside0.mk (blk_below (g := gb715) (o := .cells #[.string t710, .slice Ao25 t711.length co25] 91 (0, 0)) bk hb); have n3_ := Aside0.mk (below_step bwS hb); clear HO713; clear HO721; clear BK715; clear HB; have HO713 := n0_; have HO721 := n1_; have BK715 := n2_; have HB := n3_; clear n0_ n1_ n2_ n3_; (try clear hb); (try clear hb2); (try clear hk); (try clear hi); obtain ⟨Ao30, co30, eo30⟩ := Kd.R_slice HO721.out; subst eo30))
        go_ret
        exact ⟨by first | rfl | (simp [errW_none, errW_some] <;> rfl) | (simp [*, errW_none, errW_some] <;> rfl), by repeat (first | (with_reducible first | exact HB.out | apply below_alloc | apply pw_below_drewN | apply below_drew1 | refine below_set ?_ GE715.out) | exact HB.out)⟩
      ·rw [if_neg c10] at H
       have c10b0 : (t719 == 0) = false := beq_eq_false_iff_ne.mpr c10
       have c10b1 : (t719 != 0) = true := bne_iff_ne.mpr c10
       obtain rfl := Option.some.inj H
       go_enter Tryd.func53, Tryd.ntmps53
       go_wp2_with (first | ((with_reducible refine gate_callee (f := 54) rfl ?_); refine goesL_ (some 8) rfl rfl Tryd.func54 (by kernel_rfl) rfl #[.string (⟨#[84, 101, 120, 116, 47, 80, 108, 97, 105, 110, 59, 32, 67, 104, 97, 114, 115, 101, 116, 61, 34, 120, 32, 121, 34]⟩ : ByteArray)] rfl am ?_; (with_reducible refine (mime_ReadType.calls (hG := by first | exact hG | exact Glob.below hG (by first | exact HB.out | (repeat (first | (with_reducible first | exact HB.out | apply below_alloc | apply pw_below_drewN | apply below_drew1 | refine below_set ?_ GE715.out) | exact HB.out))) | exact Glob.drawn hG (by repeat (first | exact Drawn0.refl _ | apply Drawn0.step))) k (⟨#[84, 101, 120, 116, 47, 80, 108, 97, 105, 110, 59, 32, 67, 104, 97, 114, 115, 101, 116, 61, 34, 120, 32, 121, 34]⟩ : ByteArray) t710 t711 t714 _ A1.out).mono ?_); rintro e w31 ⟨v712, rfl, ho0, hb⟩; refine ⟨_, rfl, ?_⟩; have n0_ := Aside0.mk (Kd.R_lower ho0 (below_size bw)); have n1_ := Aside0.mk (below_step bw hb); clear HB; have HO713 := n0_; have HB := n1_; clear n0_ n1_; (try clear hb); (try clear hb2); (try clear hk); (try clear hi); (try clear ho0)) | ((with_reducible refine gate_dst (N := 1) rfl ?_); (try (refine gate_guard (by rfl) ?_; dsimp only)); refine box_event ?hg (N := 1) ?hd (cs := #[.string (⟨#[]⟩ : ByteArray), .slice none 0 0]) (t := 91) ?hr ?_; (case hd => rfl); (case hg => rfl); (case hr => first | (go_simp; done) | (go_simp; rfl)); intro gb715 hg w32 hbox hb; have n0_ := Aside0.mk (Kd.R_below (by (with_reducible repeat (first | apply Kd.R_alloc | apply Kd.R_drewN | apply Kd.R_drew)); exact HO713.out) hb); have n1_ := Aside0.mk (below_step bw hb); have n2_ := Aside0.mk (hbox); have n3_ := Aside0.mk ((by rw [hg]; exact (below_size bw) : w.heap.size ≤ gb715)); have n4_ := Aside0.mk ((by rw [hg]; exact (below_size bw) : w.heap.size ≤ gb715)); clear HO713; clear HB; have HO713 := n0_; have HB := n1_; have BK715 := n2_; have GW715 := n3_; have GE715 := n4_; clear n0_ n1_ n2_ n3_ n4_; clear hb hbox hg; have hcz33_0 : w32.cell? ⟨gb715, 0, none⟩ = some (.string (⟨#[]⟩ : ByteArray)) := (blk_cell BK715.out 0).trans rfl; have hcz33_1 : w32.cell? ⟨gb715, 1, none⟩ = some (.slice none 0 0) := (blk_cell BK715.out 1).trans rfl; have hfz33_0 := blk_frozen BK715.out 0; have hfz33_1 := blk_frozen BK715.out 1; obtain ⟨Ao34, co34, eo34⟩ := Kd.R_slice HO713.out; subst eo34) | ((with_reducible refine gate_callee (f := 58) rfl ?_); refine goesL_ (some 13) rfl rfl Tryd.func58 (by kernel_rfl) rfl #[.agg #[.string t710, .slice Ao34 t711.length co34], .string (⟨#[67, 72, 65, 82, 83, 69, 84]⟩ : ByteArray)] rfl am ?_; (with_reducible refine (mime_Type_Value.calls k t710 _ _ t711 (⟨#[67, 72, 65, 82, 83, 69, 84]⟩ : ByteArray) t716 true _ ?side1 ?side2 A2.out).mono ?_); (case side1 => refine (Kd.R_reads' (e := 158) (base := w.heap.size) (ok := fun k_ => True) (n := t711.length) (c := co34) ?_).2.2; exact (by (with_reducible repeat (first | apply Kd.R_alloc | apply Kd.R_drewN | apply Kd.R_drew)); exact (Kd.R_mono (Kd.R_far (p := ⟨gb715, 1, none⟩) (Kd.R_far (p := ⟨gb715, 0, none⟩) (Kd.R_types HO713.out BK715.out (by decide)) (fun _ hk => hk.2) (.string t710)) (fun _ hk => hk.2) (.slice Ao34 t711.length co34)) (fun _ h_ => h_.1)))); (case side2 => exact (Kd.R_reads' HO713.out).2.1); rintro e w35 ⟨rfl, hb⟩; refine ⟨_, rfl, ?_⟩; have n0_ := Aside0.mk (Kd.R_below (by (with_reducible repeat (first | apply Kd.R_alloc | apply Kd.R_drewN | apply Kd.R_drew)); exact (Kd.R_mono (Kd.R_far (p := ⟨gb715, 1, none⟩) (Kd.R_far (p := ⟨gb715, 0, none⟩) (Kd.R_types HO713.out BK715.out (by decide)) (fun _ hk => hk.2) (.string t710)) (fun _ hk => hk.2) (.slice Ao34 t711.length co34)) (fun _ h_ => h_.1))) hb); have n1_ := Aside0.mk (blk_below (g := gb715) (o := .cells #[.string t710, .slice Ao34 t711.length co34] 91 (0, 0)) (by (with_reducible repeat (first | refine blk_drewN ?_ _ | refine blk_drew ?_ | refine blk_alloc ?_ _)); refine blk_put (cs := #[.string t710, .slice none 0 0]) ?_ 1 _ rfl; (with_reducible repeat (first | refine blk_drewN ?_ _ | refine blk_drew ?_ | refine blk_alloc ?_ _)); refine blk_put (cs := #[.string (⟨#[]⟩ : ByteArray), .slice none 0 0]) ?_ 0 _ rfl; (with_reducible repeat (first | refine blk_drewN ?_ _ | refine blk_drew ?_ | refine blk_alloc ?_ _)); exact BK715.out) hb); have n2_ := Aside0.mk (below_step bwS hb); clear HO713; clear BK715; clear HB; have HO713 := n0_; have BK715 := n1_; have HB := n2_; clear n0_ n1_ n2_; (try clear hb); (try clear hb2); (try clear hk); (try clear hi)) | ((with_reducible refine gate_callee (f := 62) rfl ?_); refine goesL_ (some 17) rfl rfl Tryd.func62 (by kernel_rfl) rfl #[.string (⟨#[45, 45, 98, 13, 10, 120, 13, 10, 45, 45, 98, 45, 45, 13, 10]⟩ : ByteArray), .string (⟨#[98]⟩ : ByteArray)] rfl am ?_; (with_reducible refine (mime_Split.calls (hG := by first | exact hG | exact Glob.below hG (by first | exact HB.out | (repeat (first | (with_reducible first | exact HB.out | apply below_alloc | apply pw_below_drewN | apply below_drew1 | refine below_set ?_ GE715.out) | exact HB.out))) | exact Glob.drawn hG (by repeat (first | exact Drawn0.refl _ | apply Drawn0.step))) (⟨#[45, 45, 98, 13, 10, 120, 13, 10, 45, 45, 98, 45, 45, 13, 10]⟩ : ByteArray) (⟨#[98]⟩ : ByteArray) t718 t719 _ A3.out).mono ?_); rintro e w36 ⟨v720, rfl, ho0, hb⟩; refine ⟨_, rfl, ?_⟩; have n0_ := Aside0.mk (Kd.R_below (by (with_reducible repeat (first | apply Kd.R_alloc | apply Kd.R_drewN | apply Kd.R_drew)); exact HO713.out) hb); have n1_ := Aside0.mk (Kd.R_lower ho0 (below_size bwS)); have n2_ := Aside0.mk (blk_below (g := gb715) (o := .cells #[.string t710, .slice Ao34 t711.length co34] 91 (0, 0)) bk hb); have n3_ := Aside0.mk (below_step bwS hb); clear HO713; clear BK715; clear HB; have HO713 := n0_; have HO721 := n1_; have BK715 := n2_; have HB := n3_; clear n0_ n1_ n2_ n3_; (try clear hb); (try clear hb2); (try clear hk); (try clear hi); (try clear ho0); have hcz37_0 : w36.cell? ⟨gb715, 0, none⟩ = some (.string t710) := (blk_cell BK715.out 0).trans rfl; have hcz37_1 : w36.cell? ⟨gb715, 1, none⟩ = some (.slice Ao34 t711.length co34) := (blk_cell BK715.out 1).trans rfl; have hfz37_0 := blk_frozen BK715.out 0; have hfz37_1 := blk_frozen BK715.out 1) | (go_at_call 60; (with_reducible refine (mime_Type_Text.calls (hG := by first | exact hG | exact Glob.below hG (by first | exact HB.out | (repeat (first | (with_reducible first | exact HB.out | apply below_alloc | apply pw_below_drewN | apply below_drew1 | refine below_set ?_ GE715.out) | exact HB.out))) | exact Glob.drawn hG (by repeat (first | exact Drawn0.refl _ | apply Drawn0.step))) k t710 _ _ t711 t722 _ ?side1 ?side2 A8.out).mono ?_); (case side1 => repeat (first | exact (Kd.R_reads' HO713.out).2.2 | (with_reducible refine Kd.C_alloc ?_ _) | (with_reducible refine Kd.C_drewN ?_ _) | (with_reducible refine Kd.C_drew ?_))); (case side2 => exact (Kd.R_reads' HO713.out).2.1); rintro e w38 ⟨rfl, hb⟩; have n0_ := Aside0.mk (Kd.R_below (by (with_reducible repeat (first | apply Kd.R_alloc | apply Kd.R_drewN | apply Kd.R_drew)); exact HO713.out) hb); have n1_ := Aside0.mk (Kd.R_below (by (with_reducible repeat (first | apply Kd.R_alloc | apply Kd.R_drewN | apply Kd.R_drew)); exact HO721.out) hb); have n2_ := Aside0.mk (blk_below (g := gb715) (o := .cells #[.string t710, .slice Ao34 t711.length co34] 91 (0, 0)) bk hb); have n3_ := Aside0.mk (below_step bwS hb); clear HO713; clear HO721; clear BK715; clear HB; have HO713 := n0_; have HO721 := n1_; have BK715 := n2_; have HB := n3_; clear n0_ n1_ n2_ n3_; (try clear hb); (try clear hb2); (try clear hk); (try clear hi)))
       go_ret
       exact ⟨by first | rfl | (simp [errW_none, errW_some] <;> rfl) | (simp [*, errW_none, errW_some] <;> rfl), by repeat (first | (with_reducible first | exact HB.out | apply below_alloc | apply pw_below_drewN | apply below_drew1 | refine below_set ?_ GE715.out) | exact HB.out)⟩
     ·rw [if_neg c9] at H
      have c9b0 : (t722.toList == ([116, 101, 120, 116, 47, 112, 108, 97, 105, 110, 59, 32, 99, 104, 97, 114, 115, 101, 116, 61, 34, 120, 32, 121, 34] : List UInt8)) = false := beq_eq_false_iff_ne.mpr c9
      have c9b1 : (t722.toList != ([116, 101, 120, 116, 47, 112, 108, 97, 105, 110, 59, 32, 99, 104, 97, 114, 115, 101, 116, 61, 34, 120, 32, 121, 34] : List UInt8)) = true := bne_iff_ne.mpr c9
      obtain rfl := Option.some.inj H
      go_enter Tryd.func53, Tryd.ntmps53
      go_wp2_with (first | ((with_reducible refine gate_callee (f := 54) rfl ?_); refine goesL_ (some 8) rfl rfl Tryd.func54 (by kernel_rfl) rfl #[.string (⟨#[84, 101, 120, 116, 47, 80, 108, 97, 105, 110, 59, 32, 67, 104, 97, 114, 115, 101, 116, 61, 34, 120, 32, 121, 34]⟩ : ByteArray)] rfl am ?_; (with_reducible refine (mime_ReadType.calls (hG := by first | exact hG | exact Glob.below hG (by first | exact HB.out | (repeat (first | (with_reducible first | exact HB.out | apply below_alloc | apply pw_below_drewN | apply below_drew1 | refine below_set ?_ GE715.out) | exact HB.out))) | exact Glob.drawn hG (by repeat (first | exact Drawn0.refl _ | apply Drawn0.step))) k (⟨#[84, 101, 120, 116, 47, 80, 108, 97, 105, 110, 59, 32, 67, 104, 97, 114, 115, 101, 116, 61, 34, 120, 32, 121, 34]⟩ : ByteArray) t710 t711 t714 _ A1.out).mono ?_); rintro e w39 ⟨v712, rfl, ho0, hb⟩; refine ⟨_, rfl, ?_⟩; have n0_ := Aside0.mk (Kd.R_lower ho0 (below_size bw)); have n1_ := Aside0.mk (below_step bw hb); clear HB; have HO713 := n0_; have HB := n1_; clear n0_ n1_; (try clear hb); (try clear hb2); (try clear hk); (try clear hi); (try clear ho0)) | ((with_reducible refine gate_dst (N := 1) rfl ?_); (try (refine gate_guard (by rfl) ?_; dsimp only)); refine box_event ?hg (N := 1) ?hd (cs := #[.string (⟨#[]⟩ : ByteArray), .slice none 0 0]) (t := 91) ?hr ?_; (case hd => rfl); (case hg => rfl); (case hr => first | (go_simp; done) | (go_simp; rfl)); intro gb715 hg w40 hbox hb; have n0_ := Aside0.mk (Kd.R_below (by (with_reducible repeat (first | apply Kd.R_alloc | apply Kd.R_drewN | apply Kd.R_drew)); exact HO713.out) hb); have n1_ := Aside0.mk (below_step bw hb); have n2_ := Aside0.mk (hbox); have n3_ := Aside0.mk ((by rw [hg]; exact (below_size bw) : w.heap.size ≤ gb715)); have n4_ := Aside0.mk ((by rw [hg]; exact (below_size bw) : w.heap.size ≤ gb715)); clear HO713; clear HB; have HO713 := n0_; have HB := n1_; have BK715 := n2_; have GW715 := n3_; have GE715 := n4_; clear n0_ n1_ n2_ n3_ n4_; clear hb hbox hg; have hcz41_0 : w40.cell? ⟨gb715, 0, none⟩ = some (.string (⟨#[]⟩ : ByteArray)) := (blk_cell BK715.out 0).trans rfl; have hcz41_1 : w40.cell? ⟨gb715, 1, none⟩ = some (.slice none 0 0) := (blk_cell BK715.out 1).trans rfl; have hfz41_0 := blk_frozen BK715.out 0; have hfz41_1 := blk_frozen BK715.out 1; obtain ⟨Ao42, co42, eo42⟩ := Kd.R_slice HO713.out; subst eo42) | ((with_reducible refine gate_callee (f := 58) rfl ?_); refine goesL_ (some 13) rfl rfl Tryd.func58 (by kernel_rfl) rfl #[.agg #[.string t710, .slice Ao42 t711.length co42], .string (⟨#[67, 72, 65, 82, 83, 69, 84]⟩ : ByteArray)] rfl am ?_; (with_reducible refine (mime_Type_Value.calls k t710 _ _ t711 (⟨#[67, 72, 65, 82, 83, 69, 84]⟩ : ByteArray) t716 true _ ?side1 ?side2 A2.out).mono ?_); (case side1 => refine (Kd.R_reads' (e := 158) (base := w.heap.size) (ok := fun k_ => True) (n := t711.length) (c := co42) ?_).2.2; exact (by (with_reducible repeat (first | apply Kd.R_alloc | apply Kd.R_drewN | apply Kd.R_drew)); exact (Kd.R_mono (Kd.R_far (p := ⟨gb715, 1, none⟩) (Kd.R_far (p := ⟨gb715, 0, none⟩) (Kd.R_types HO713.out BK715.out (by decide)) (fun _ hk => hk.2) (.string t710)) (fun _ hk => hk.2) (.slice Ao42 t711.length co42)) (fun _ h_ => h_.1)))); (case side2 => exact (Kd.R_reads' HO713.out).2.1); rintro e w43 ⟨rfl, hb⟩; refine ⟨_, rfl, ?_⟩; have n0_ := Aside0.mk (Kd.R_below (by (with_reducible repeat (first | apply Kd.R_alloc | apply Kd.R_drewN | apply Kd.R_drew)); exact (Kd.R_mono (Kd.R_far (p := ⟨gb715, 1, none⟩) (Kd.R_far (p := ⟨gb715, 0, none⟩) (Kd.R_types HO713.out BK715.out (by decide)) (fun _ hk => hk.2) (.string t710)) (fun _ hk => hk.2) (.slice Ao42 t711.length co42)) (fun _ h_ => h_.1))) hb); have n1_ := Aside0.mk (blk_below (g := gb715) (o := .cells #[.string t710, .slice Ao42 t711.length co42] 91 (0, 0)) (by (with_reducible repeat (first | refine blk_drewN ?_ _ | refine blk_drew ?_ | refine blk_alloc ?_ _)); refine blk_put (cs := #[.string t710, .slice none 0 0]) ?_ 1 _ rfl; (with_reducible repeat (first | refine blk_drewN ?_ _ | refine blk_drew ?_ | refine blk_alloc ?_ _)); refine blk_put (cs := #[.string (⟨#[]⟩ : ByteArray), .slice none 0 0]) ?_ 0 _ rfl; (with_reducible repeat (first | refine blk_drewN ?_ _ | refine blk_drew ?_ | refine blk_alloc ?_ _)); exact BK715.out) hb); have n2_ := Aside0.mk (below_step bwS hb); clear HO713; clear BK715; clear HB; have HO713 := n0_; have BK715 := n1_; have HB := n2_; clear n0_ n1_ n2_; (try clear hb); (try clear hb2); (try clear hk); (try clear hi)) | ((with_reducible refine gate_callee (f := 62) rfl ?_); refine goesL_ (some 17) rfl rfl Tryd.func62 (by kernel_rfl) rfl #[.string (⟨#[45, 45, 98, 13, 10, 120, 13, 10, 45, 45, 98, 45, 45, 13, 10]⟩ : ByteArray), .string (⟨#[98]⟩ : ByteArray)] rfl am ?_; (with_reducible refine (mime_Split.calls (hG := by first | exact hG | exact Glob.below hG (by first | exact HB.out | (repeat (first | (with_reducible first | exact HB.out | apply below_alloc | apply pw_below_drewN | apply below_drew1 | refine below_set ?_ GE715.out) | exact HB.out))) | exact Glob.drawn hG (by repeat (first | exact Drawn0.refl _ | apply Drawn0.step))) (⟨#[45, 45, 98, 13, 10, 120, 13, 10, 45, 45, 98, 45, 45, 13, 10]⟩ : ByteArray) (⟨#[98]⟩ : ByteArray) t718 t719 _ A3.out).mono ?_); rintro e w44 ⟨v720, rfl, ho0, hb⟩; refine ⟨_, rfl, ?_⟩; have n0_ := Aside0.mk (Kd.R_below (by (with_reducible repeat (first | apply Kd.R_alloc | apply Kd.R_drewN | apply Kd.R_drew)); exact HO713.out) hb); have n1_ := Aside0.mk (Kd.R_lower ho0 (below_size bwS)); have n2_ := Aside0.mk (blk_below (g := gb715) (o := .cells #[.string t710, .slice Ao42 t711.length co42] 91 (0, 0)) bk hb); have n3_ := Aside0.mk (below_step bwS hb); clear HO713; clear BK715; clear HB; have HO713 := n0_; have HO721 := n1_; have BK715 := n2_; have HB := n3_; clear n0_ n1_ n2_ n3_; (try clear hb); (try clear hb2); (try clear hk); (try clear hi); (try clear ho0); have hcz45_0 : w44.cell? ⟨gb715, 0, none⟩ = some (.string t710) := (blk_cell BK715.out 0).trans rfl; have hcz45_1 : w44.cell? ⟨gb715, 1, none⟩ = some (.slice Ao42 t711.length co42) := (blk_cell BK715.out 1).trans rfl; have hfz45_0 := blk_frozen BK715.out 0; have hfz45_1 := blk_frozen BK715.out 1) | (go_at_call 60; (with_reducible refine (mime_Type_Text.calls (hG := by first | exact hG | exact Glob.below hG (by first | exact HB.out | (repeat (first | (with_reducible first | exact HB.out | apply below_alloc | apply pw_below_drewN | apply below_drew1 | refine below_set ?_ GE715.out) | exact HB.out))) | exact Glob.drawn hG (by repeat (first | exact Drawn0.refl _ | apply Drawn0.step))) k t710 _ _ t711 t722 _ ?side1 ?side2 A8.out).mono ?_); (case side1 => repeat (first | exact (Kd.R_reads' HO713.out).2.2 | (with_reducible refine Kd.C_alloc ?_ _) | (with_reducible refine Kd.C_drewN ?_ _) | (with_reducible refine Kd.C_drew ?_))); (case side2 => exact (Kd.R_reads' HO713.out).2.1); rintro e w46 ⟨rfl, hb⟩; have n0_ := Aside0.mk (Kd.R_below (by (with_reducible repeat (first | apply Kd.R_alloc | apply Kd.R_drewN | apply Kd.R_drew)); exact HO713.out) hb); have n1_ := Aside0.mk (Kd.R_below (by (with_reducible repeat (first | apply Kd.R_alloc | apply Kd.R_drewN | apply Kd.R_drew)); exact HO721.out) hb); have n2_ := Aside0.mk (blk_below (g := gb715) (o := .cells #[.string t710, .slice Ao42 t711.length co42] 91 (0, 0)) bk hb); have n3_ := Aside0.mk (below_step bwS hb); clear HO713; clear HO721; clear BK715; clear HB; have HO713 := n0_; have HO721 := n1_; have BK715 := n2_; have HB := n3_; clear n0_ n1_ n2_ n3_; (try clear hb); (try clear hb2); (try clear hk); (try clear hi)))
      go_ret
      exact ⟨by first | rfl | (simp [errW_none, errW_some] <;> rfl) | (simp [*, errW_none, errW_some] <;> rfl), by repeat (first | (with_reducible first | exact HB.out | apply below_alloc | apply pw_below_drewN | apply below_drew1 | refine below_set ?_ GE715.out) | exact HB.out)⟩
    ·replace c7 := Bool.eq_false_iff.mpr c7
     subst c7
     have H1 : (some false) = some r := by rw [if_neg (show ¬ (false = true) by decide)] at H; exact H
     clear H
     have H := H1
     clear H1
     obtain rfl := Option.some.inj H
     go_enter Tryd.func53, Tryd.ntmps53
     go_wp2_with (first | ((with_reducible refine gate_callee (f := 54) rfl ?_); refine goesL_ (some 8) rfl rfl Tryd.func54 (by kernel_rfl) rfl #[.string (⟨#[84, 101, 120, 116, 47, 80, 108, 97, 105, 110, 59, 32, 67, 104, 97, 114, 115, 101, 116, 61, 34, 120, 32, 121, 34]⟩ : ByteArray)] rfl am ?_; (with_reducible refine (mime_ReadType.calls (hG := by first | exact hG | exact Glob.below hG (by first | exact HB.out | (repeat (first | (with_reducible first | exact HB.out | apply below_alloc | apply pw_below_drewN | apply below_drew1 | refine below_set ?_ GE715.out) | exact HB.out))) | exact Glob.drawn hG (by repeat (first | exact Drawn0.refl _ | apply Drawn0.step))) k (⟨#[84, 101, 120, 116, 47, 80, 108, 97, 105, 110, 59, 32, 67, 104, 97, 114, 115, 101, 116, 61, 34, 120, 32, 121, 34]⟩ : ByteArray) t710 t711 t714 _ A1.out).mono ?_); rintro e w47 ⟨v712, rfl, ho0, hb⟩; refine ⟨_, rfl, ?_⟩; have n0_ := Aside0.mk (Kd.R_lower ho0 (below_size bw)); have n1_ := Aside0.mk (below_step bw hb); clear HB; have HO713 := n0_; have HB := n1_; clear n0_ n1_; (try clear hb); (try clear hb2); (try clear hk); (try clear hi); (try clear ho0)) | ((with_reducible refine gate_dst (N := 1) rfl ?_); (try (refine gate_guard (by rfl) ?_; dsimp only)); refine box_event ?hg (N := 1) ?hd (cs := #[.string (⟨#[]⟩ : ByteArray), .slice none 0 0]) (t := 91) ?hr ?_; (case hd => rfl); (case hg => rfl); (case hr => first | (go_simp; done) | (go_simp; rfl)); intro gb715 hg w48 hbox hb; have n0_ := Aside0.mk (Kd.R_below (by (with_reducible repeat (first | apply Kd.R_alloc | apply Kd.R_drewN | apply Kd.R_drew)); exact HO713.out) hb); have n1_ := Aside0.mk (below_step bw hb); have n2_ := Aside0.mk (hbox); have n3_ := Aside0.mk ((by rw [hg]; exact (below_size bw) : w.heap.size ≤ gb715)); have n4_ := Aside0.mk ((by rw [hg]; exact (below_size bw) : w.heap.size ≤ gb715)); clear HO713; clear HB; have HO713 := n0_; have HB := n1_; have BK715 := n2_; have GW715 := n3_; have GE715 := n4_; clear n0_ n1_ n2_ n3_ n4_; clear hb hbox hg; have hcz49_0 : w48.cell? ⟨gb715, 0, none⟩ = some (.string (⟨#[]⟩ : ByteArray)) := (blk_cell BK715.out 0).trans rfl; have hcz49_1 : w48.cell? ⟨gb715, 1, none⟩ = some (.slice none 0 0) := (blk_cell BK715.out 1).trans rfl; have hfz49_0 := blk_frozen BK715.out 0; have hfz49_1 := blk_frozen BK715.out 1; obtain ⟨Ao50, co50, eo50⟩ := Kd.R_slice HO713.out; subst eo50) | ((with_reducible refine gate_callee (f := 58) rfl ?_); refine goesL_ (some 13) rfl rfl Tryd.func58 (by kernel_rfl) rfl #[.agg #[.string t710, .slice Ao50 t711.length co50], .string (⟨#[67, 72, 65, 82, 83, 69, 84]⟩ : ByteArray)] rfl am ?_; (with_reducible refine (mime_Type_Value.calls k t710 _ _ t711 (⟨#[67, 72, 65, 82, 83, 69, 84]⟩ : ByteArray) t716 false _ ?side1 ?side2 A2.out).mono ?_); (case side1 => refine (Kd.R_reads' (e := 158) (base := w.heap.size) (ok := fun k_ => True) (n := t711.length) (c := co50) ?_).2.2; exact (by (with_reducible repeat (first | apply Kd.R_alloc | apply Kd.R_drewN | apply Kd.R_drew)); exact (Kd.R_mono (Kd.R_far (p := ⟨gb715, 1, none⟩) (Kd.R_far (p := ⟨gb715, 0, none⟩) (Kd.R_types HO713.out BK715.out (by decide)) (fun _ hk => hk.2) (.string t710)) (fun _ hk => hk.2) (.slice Ao50 t711.length co50)) (fun _ h_ => h_.1)))); (case side2 => exact (Kd.R_reads' HO713.out).2.1); rintro e w51 ⟨rfl, hb⟩; refine ⟨_, rfl, ?_⟩; have n0_ := Aside0.mk (Kd.R_below (by (with_reducible repeat (first | apply Kd.R_alloc | apply Kd.R_drewN | apply Kd.R_drew)); exact (Kd.R_mono (Kd.R_far (p := ⟨gb715, 1, none⟩) (Kd.R_far (p := ⟨gb715, 0, none⟩) (Kd.R_types HO713.out BK715.out (by decide)) (fun _ hk => hk.2) (.string t710)) (fun _ hk => hk.2) (.slice Ao50 t711.length co50)) (fun _ h_ => h_.1))) hb); have n1_ := Aside0.mk (blk_below (g := gb715) (o := .cells #[.string t710, .slice Ao50 t711.length co50] 91 (0, 0)) (by (with_reducible repeat (first | refine blk_drewN ?_ _ | refine blk_drew ?_ | refine blk_alloc ?_ _)); refine blk_put (cs := #[.string t710, .slice none 0 0]) ?_ 1 _ rfl; (with_reducible repeat (first | refine blk_drewN ?_ _ | refine blk_drew ?_ | refine blk_alloc ?_ _)); refine blk_put (cs := #[.string (⟨#[]⟩ : ByteArray), .slice none 0 0]) ?_ 0 _ rfl; (with_reducible repeat (first | refine blk_drewN ?_ _ | refine blk_drew ?_ | refine blk_alloc ?_ _)); exact BK715.out) hb); have n2_ := Aside0.mk (below_step bwS hb); clear HO713; clear BK715; clear HB; have HO713 := n0_; have BK715 := n1_; have HB := n2_; clear n0_ n1_ n2_; (try clear hb); (try clear hb2); (try clear hk); (try clear hi)) | ((with_reducible refine gate_callee (f := 62) rfl ?_); refine goesL_ (some 17) rfl rfl Tryd.func62 (by kernel_rfl) rfl #[.string (⟨#[45, 45, 98, 13, 10, 120, 13, 10, 45, 45, 98, 45, 45, 13, 10]⟩ : ByteArray), .string (⟨#[98]⟩ : ByteArray)] rfl am ?_; (with_reducible refine (mime_Split.calls (hG := by first | exact hG | exact Glob.below hG (by first | exact HB.out | (repeat (first | (with_reducible first | exact HB.out | apply below_alloc | apply pw_below_drewN | apply below_drew1 | refine below_set ?_ GE715.out) | exact HB.out))) | exact Glob.drawn hG (by repeat (first | exact Drawn0.refl _ | apply Drawn0.step))) (⟨#[45, 45, 98, 13, 10, 120, 13, 10, 45, 45, 98, 45, 45, 13, 10]⟩ : ByteArray) (⟨#[98]⟩ : ByteArray) t718 t719 _ A3.out).mono ?_); rintro e w52 ⟨v720, rfl, ho0, hb⟩; refine ⟨_, rfl, ?_⟩; have n0_ := Aside0.mk (Kd.R_below (by (with_reducible repeat (first | apply Kd.R_alloc | apply Kd.R_drewN | apply Kd.R_drew)); exact HO713.out) hb); have n1_ := Aside0.mk (Kd.R_lower ho0 (below_size bwS)); have n2_ := Aside0.mk (blk_below (g := gb715) (o := .cells #[.string t710, .slice Ao50 t711.length co50] 91 (0, 0)) bk hb); have n3_ := Aside0.mk (below_step bwS hb); clear HO713; clear BK715; clear HB; have HO713 := n0_; have HO721 := n1_; have BK715 := n2_; have HB := n3_; clear n0_ n1_ n2_ n3_; (try clear hb); (try clear hb2); (try clear hk); (try clear hi); (try clear ho0); have hcz53_0 : w52.cell? ⟨gb715, 0, none⟩ = some (.string t710) := (blk_cell BK715.out 0).trans rfl; have hcz53_1 : w52.cell? ⟨gb715, 1, none⟩ = some (.slice Ao50 t711.length co50) := (blk_cell BK715.out 1).trans rfl; have hfz53_0 := blk_frozen BK715.out 0; have hfz53_1 := blk_frozen BK715.out 1))
     go_ret
     exact ⟨by first | rfl | (simp [errW_none, errW_some] <;> rfl) | (simp [*, errW_none, errW_some] <;> rfl), by repeat (first | (with_reducible first | exact HB.out | apply below_alloc | apply pw_below_drewN | apply below_drew1 | refine below_set ?_ GE715.out) | exact HB.out)⟩
   ·rw [if_neg c6] at H
    have c6b0 : (t716.toList == ([120, 32, 121] : List UInt8)) = false := beq_eq_false_iff_ne.mpr c6
    have c6b1 : (t716.toList != ([120, 32, 121] : List UInt8)) = true := bne_iff_ne.mpr c6
    obtain rfl := Option.some.inj H
    go_enter Tryd.func53, Tryd.ntmps53
    go_wp2_with (first | ((with_reducible refine gate_callee (f := 54) rfl ?_); refine goesL_ (some 8) rfl rfl Tryd.func54 (by kernel_rfl) rfl #[.string (⟨#[84, 101, 120, 116, 47, 80, 108, 97, 105, 110, 59, 32, 67, 104, 97, 114, 115, 101, 116, 61, 34, 120, 32, 121, 34]⟩ : ByteArray)] rfl am ?_; (with_reducible refine (mime_ReadType.calls (hG := by first | exact hG | exact Glob.below hG (by first | exact HB.out | (repeat (first | (with_reducible first | exact HB.out | apply below_alloc | apply pw_below_drewN | apply below_drew1 | refine below_set ?_ GE715.out) | exact HB.out))) | exact Glob.drawn hG (by repeat (first | exact Drawn0.refl _ | apply Drawn0.step))) k (⟨#[84, 101, 120, 116, 47, 80, 108, 97, 105, 110, 59, 32, 67, 104, 97, 114, 115, 101, 116, 61, 34, 120, 32, 121, 34]⟩ : ByteArray) t710 t711 t714 _ A1.out).mono ?_); rintro e w54 ⟨v712, rfl, ho0, hb⟩; refine ⟨_, rfl, ?_⟩; have n0_ := Aside0.mk (Kd.R_lower ho0 (below_size bw)); have n1_ := Aside0.mk (below_step bw hb); clear HB; have HO713 := n0_; have HB := n1_; clear n0_ n1_; (try clear hb); (try clear hb2); (try clear hk); (try clear hi); (try clear ho0)) | ((with_reducible refine gate_dst (N := 1) rfl ?_); (try (refine gate_guard (by rfl) ?_; dsimp only)); refine box_event ?hg (N := 1) ?hd (cs := #[.string (⟨#[]⟩ : ByteArray), .slice none 0 0]) (t := 91) ?hr ?_; (case hd => rfl); (case hg => rfl); (case hr => first | (go_simp; done) | (go_simp; rfl)); intro gb715 hg w55 hbox hb; have n0_ := Aside0.mk (Kd.R_below (by (with_reducible repeat (first | apply Kd.R_alloc | apply Kd.R_drewN | apply Kd.R_drew)); exact HO713.out) hb); have n1_ := Aside0.mk (below_step bw hb); have n2_ := Aside0.mk (hbox); have n3_ := Aside0.mk ((by rw [hg]; exact (below_size bw) : w.heap.size ≤ gb715)); have n4_ := Aside0.mk ((by rw [hg]; exact (below_size bw) : w.heap.size ≤ gb715)); clear HO713; clear HB; have HO713 := n0_; have HB := n1_; have BK715 := n2_; have GW715 := n3_; have GE715 := n4_; clear n0_ n1_ n2_ n3_ n4_; clear hb hbox hg; have hcz56_0 : w55.cell? ⟨gb715, 0, none⟩ = some (.string (⟨#[]⟩ : ByteArray)) := (blk_cell BK715.out 0).trans rfl; have hcz56_1 : w55.cell? ⟨gb715, 1, none⟩ = some (.slice none 0 0) := (blk_cell BK715.out 1).trans rfl; have hfz56_0 := blk_frozen BK715.out 0; have hfz56_1 := blk_frozen BK715.out 1; obtain ⟨Ao57, co57, eo57⟩ := Kd.R_slice HO713.out; subst eo57) | ((with_reducible refine gate_callee (f := 58) rfl ?_); refine goesL_ (some 13) rfl rfl Tryd.func58 (by kernel_rfl) rfl #[.agg #[.string t710, .slice Ao57 t711.length co57], .string (⟨#[67, 72, 65, 82, 83, 69, 84]⟩ : ByteArray)] rfl am ?_; (with_reducible refine (mime_Type_Value.calls k t710 _ _ t711 (⟨#[67, 72, 65, 82, 83, 69, 84]⟩ : ByteArray) t716 t717 _ ?side1 ?side2 A2.out).mono ?_); (case side1 => refine (Kd.R_reads' (e := 158) (base := w.heap.size) (ok := fun k_ => True) (n := t711.length) (c := co57) ?_).2.2; exact (by (with_reducible repeat (first | apply Kd.R_alloc | apply Kd.R_drewN | apply Kd.R_drew)); exact (Kd.R_mono (Kd.R_far (p := ⟨gb715, 1, none⟩) (Kd.R_far (p := ⟨gb715, 0, none⟩) (Kd.R_types HO713.out BK715.out (by decide)) (fun _ hk => hk.2) (.string t710)) (fun _ hk => hk.2) (.slice Ao57 t711.length co57)) (fun _ h_ => h_.1)))); (case side2 => exact (Kd.R_reads' HO713.out).2.1); rintro e w58 ⟨rfl, hb⟩; refine ⟨_, rfl, ?_⟩; have n0_ := Aside0.mk (Kd.R_below (by (with_reducible repeat (first | apply Kd.R_alloc | apply Kd.R_drewN | apply Kd.R_drew)); exact (Kd.R_mono (Kd.R_far (p := ⟨gb715, 1, none⟩) (Kd.R_far (p := ⟨gb715, 0, none⟩) (Kd.R_types HO713.out BK715.out (by decide)) (fun _ hk => hk.2) (.string t710)) (fun _ hk => hk.2) (.slice Ao57 t711.length co57)) (fun _ h_ => h_.1))) hb); have n1_ := Aside0.mk (blk_below (g := gb715) (o := .cells #[.string t710, .slice Ao57 t711.length co57] 91 (0, 0)) (by (with_reducible repeat (first | refine blk_drewN ?_ _ | refine blk_drew ?_ | refine blk_alloc ?_ _)); refine blk_put (cs := #[.string t710, .slice none 0 0]) ?_ 1 _ rfl; (with_reducible repeat (first | refine blk_drewN ?_ _ | refine blk_drew ?_ | refine blk_alloc ?_ _)); refine blk_put (cs := #[.string (⟨#[]⟩ : ByteArray), .slice none 0 0]) ?_ 0 _ rfl; (with_reducible repeat (first | refine blk_drewN ?_ _ | refine blk_drew ?_ | refine blk_alloc ?_ _)); exact BK715.out) hb); have n2_ := Aside0.mk (below_step bwS hb); clear HO713; clear BK715; clear HB; have HO713 := n0_; have BK715 := n1_; have HB := n2_; clear n0_ n1_ n2_; (try clear hb); (try clear hb2); (try clear hk); (try clear hi)) | ((with_reducible refine gate_callee (f := 62) rfl ?_); refine goesL_ (some 17) rfl rfl Tryd.func62 (by kernel_rfl) rfl #[.string (⟨#[45, 45, 98, 13, 10, 120, 13, 10, 45, 45, 98, 45, 45, 13, 10]⟩ : ByteArray), .string (⟨#[98]⟩ : ByteArray)] rfl am ?_; (with_reducible refine (mime_Split.calls (hG := by first | exact hG | exact Glob.below hG (by first | exact HB.out | (repeat (first | (with_reducible first | exact HB.out | apply below_alloc | apply pw_below_drewN | apply below_drew1 | refine below_set ?_ GE715.out) | exact HB.out))) | exact Glob.drawn hG (by repeat (first | exact Drawn0.refl _ | apply Drawn0.step))) (⟨#[45, 45, 98, 13, 10, 120, 13, 10, 45, 45, 98, 45, 45, 13, 10]⟩ : ByteArray) (⟨#[98]⟩ : ByteArray) t718 t719 _ A3.out).mono ?_); rintro e w59 ⟨v720, rfl, ho0, hb⟩; refine ⟨_, rfl, ?_⟩; have n0_ := Aside0.mk (Kd.R_below (by (with_reducible repeat (first | apply Kd.R_alloc | apply Kd.R_drewN | apply Kd.R_drew)); exact HO713.out) hb); have n1_ := Aside0.mk (Kd.R_lower ho0 (below_size bwS)); have n2_ := Aside0.mk (blk_below (g := gb715) (o := .cells #[.string t710, .slice Ao57 t711.length co57] 91 (0, 0)) bk hb); have n3_ := Aside0.mk (below_step bwS hb); clear HO713; clear BK715; clear HB; have HO713 := n0_; have HO721 := n1_; have BK715 := n2_; have HB := n3_; clear n0_ n1_ n2_ n3_; (try clear hb); (try clear hb2); (try clear hk); (try clear hi); (try clear ho0); have hcz60_0 : w59.cell? ⟨gb715, 0, none⟩ = some (.string t710) := (blk_cell BK715.out 0).trans rfl; have hcz60_1 : w59.cell? ⟨gb715, 1, none⟩ = some (.slice Ao57 t711.length co57) := (blk_cell BK715.out 1).trans rfl; have hfz60_0 := blk_frozen BK715.out 0; have hfz60_1 := blk_frozen BK715.out 1))
    go_ret
    exact ⟨by first | rfl | (simp [errW_none, errW_some] <;> rfl) | (simp [*, errW_none, errW_some] <;> rfl), by repeat (first | (with_reducible first | exact HB.out | apply below_alloc | apply pw_below_drewN | apply below_drew1 | refine below_set ?_ GE715.out) | exact HB.out)⟩
  ·rw [if_neg c5] at H
   have c5b0 : (t710.toList == ([116, 101, 120, 116, 47, 112, 108, 97, 105, 110] : List UInt8)) = false := beq_eq_false_iff_ne.mpr c5
   have c5b1 : (t710.toList != ([116, 101, 120, 116, 47, 112, 108, 97, 105, 110] : List UInt8)) = true := bne_iff_ne.mpr c5
   obtain rfl := Option.some.inj H
   go_enter Tryd.func53, Tryd.ntmps53
   go_wp2_with (first | ((with_reducible refine gate_callee (f := 54) rfl ?_); refine goesL_ (some 8) rfl rfl Tryd.func54 (by kernel_rfl) rfl #[.string (⟨#[84, 101, 120, 116, 47, 80, 108, 97, 105, 110, 59, 32, 67, 104, 97, 114, 115, 101, 116, 61, 34, 120, 32, 121, 34]⟩ : ByteArray)] rfl am ?_; (with_reducible refine (mime_ReadType.calls (hG := by first | exact hG | exact Glob.below hG (by first | exact HB.out | (repeat (first | (with_reducible first | exact HB.out | apply below_alloc | apply pw_below_drewN | apply below_drew1 | refine below_set ?_ GE715.out) | exact HB.out))) | exact Glob.drawn hG (by repeat (first | exact Drawn0.refl _ | apply Drawn0.step))) k (⟨#[84, 101, 120, 116, 47, 80, 108, 97, 105, 110, 59, 32, 67, 104, 97, 114, 115, 101, 116, 61, 34, 120, 32, 121, 34]⟩ : ByteArray) t710 t711 t714 _ A1.out).mono ?_); rintro e w61 ⟨v712, rfl, ho0, hb⟩; refine ⟨_, rfl, ?_⟩; have n0_ := Aside0.mk (Kd.R_lower ho0 (below_size bw)); have n1_ := Aside0.mk (below_step bw hb); clear HB; have HO713 := n0_; have HB := n1_; clear n0_ n1_; (try clear hb); (try clear hb2); (try clear hk); (try clear hi); (try clear ho0)) | ((with_reducible refine gate_dst (N := 1) rfl ?_); (try (refine gate_guard (by rfl) ?_; dsimp only)); refine box_event ?hg (N := 1) ?hd (cs := #[.string (⟨#[]⟩ : ByteArray), .slice none 0 0]) (t := 91) ?hr ?_; (case hd => rfl); (case hg => rfl); (case hr => first | (go_simp; done) | (go_simp; rfl)); intro gb715 hg w62 hbox hb; have n0_ := Aside0.mk (Kd.R_below (by (with_reducible repeat (first | apply Kd.R_alloc | apply Kd.R_drewN | apply Kd.R_drew)); exact HO713.out) hb); have n1_ := Aside0.mk (below_step bw hb); have n2_ := Aside0.mk (hbox); have n3_ := Aside0.mk ((by rw [hg]; exact (below_size bw) : w.heap.size ≤ gb715)); have n4_ := Aside0.mk ((by rw [hg]; exact (below_size bw) : w.heap.size ≤ gb715)); clear HO713; clear HB; have HO713 := n0_; have HB := n1_; have BK715 := n2_; have GW715 := n3_; have GE715 := n4_; clear n0_ n1_ n2_ n3_ n4_; clear hb hbox hg; have hcz63_0 : w62.cell? ⟨gb715, 0, none⟩ = some (.string (⟨#[]⟩ : ByteArray)) := (blk_cell BK715.out 0).trans rfl; have hcz63_1 : w62.cell? ⟨gb715, 1, none⟩ = some (.slice none 0 0) := (blk_cell BK715.out 1).trans rfl; have hfz63_0 := blk_frozen BK715.out 0; have hfz63_1 := blk_frozen BK715.out 1; obtain ⟨Ao64, co64, eo64⟩ := Kd.R_slice HO713.out; subst eo64) | ((with_reducible refine gate_callee (f := 58) rfl ?_); refine goesL_ (some 13) rfl rfl Tryd.func58 (by kernel_rfl) rfl #[.agg #[.string t710, .slice Ao64 t711.length co64], .string (⟨#[67, 72, 65, 82, 83, 69, 84]⟩ : ByteArray)] rfl am ?_; (with_reducible refine (mime_Type_Value.calls k t710 _ _ t711 (⟨#[67, 72, 65, 82, 83, 69, 84]⟩ : ByteArray) t716 t717 _ ?side1 ?side2 A2.out).mono ?_); (case side1 => refine (Kd.R_reads' (e := 158) (base := w.heap.size) (ok := fun k_ => True) (n := t711.length) (c := co64) ?_).2.2; exact (by (with_reducible repeat (first | apply Kd.R_alloc | apply Kd.R_drewN | apply Kd.R_drew)); exact (Kd.R_mono (Kd.R_far (p := ⟨gb715, 1, none⟩) (Kd.R_far (p := ⟨gb715, 0, none⟩) (Kd.R_types HO713.out BK715.out (by decide)) (fun _ hk => hk.2) (.string t710)) (fun _ hk => hk.2) (.slice Ao64 t711.length co64)) (fun _ h_ => h_.1)))); (case side2 => exact (Kd.R_reads' HO713.out).2.1); rintro e w65 ⟨rfl, hb⟩; refine ⟨_, rfl, ?_⟩; have n0_ := Aside0.mk (Kd.R_below (by (with_reducible repeat (first | apply Kd.R_alloc | apply Kd.R_drewN | apply Kd.R_drew)); exact (Kd.R_mono (Kd.R_far (p := ⟨gb715, 1, none⟩) (Kd.R_far (p := ⟨gb715, 0, none⟩) (Kd.R_types HO713.out BK715.out (by decide)) (fun _ hk => hk.2) (.string t710)) (fun _ hk => hk.2) (.slice Ao64 t711.length co64)) (fun _ h_ => h_.1))) hb); have n1_ := Aside0.mk (blk_below (g := gb715) (o := .cells #[.string t710, .slice Ao64 t711.length co64] 91 (0, 0)) (by (with_reducible repeat (first | refine blk_drewN ?_ _ | refine blk_drew ?_ | refine blk_alloc ?_ _)); refine blk_put (cs := #[.string t710, .slice none 0 0]) ?_ 1 _ rfl; (with_reducible repeat (first | refine blk_drewN ?_ _ | refine blk_drew ?_ | refine blk_alloc ?_ _)); refine blk_put (cs := #[.string (⟨#[]⟩ : ByteArray), .slice none 0 0]) ?_ 0 _ rfl; (with_reducible repeat (first | refine blk_drewN ?_ _ | refine blk_drew ?_ | refine blk_alloc ?_ _)); exact BK715.out) hb); have n2_ := Aside0.mk (below_step bwS hb); clear HO713; clear BK715; clear HB; have HO713 := n0_; have BK715 := n1_; have HB := n2_; clear n0_ n1_ n2_; (try clear hb); (try clear hb2); (try clear hk); (try clear hi)) | ((with_reducible refine gate_callee (f := 62) rfl ?_); refine goesL_ (some 17) rfl rfl Tryd.func62 (by kernel_rfl) rfl #[.string (⟨#[45, 45, 98, 13, 10, 120, 13, 10, 45, 45, 98, 45, 45, 13, 10]⟩ : ByteArray), .string (⟨#[98]⟩ : ByteArray)] rfl am ?_; (with_reducible refine (mime_Split.calls (hG := by first | exact hG | exact Glob.below hG (by first | exact HB.out | (repeat (first | (with_reducible first | exact HB.out | apply below_alloc | apply pw_below_drewN | apply below_drew1 | refine below_set ?_ GE715.out) | exact HB.out))) | exact Glob.drawn hG (by repeat (first | exact Drawn0.refl _ | apply Drawn0.step))) (⟨#[45, 45, 98, 13, 10, 120, 13, 10, 45, 45, 98, 45, 45, 13, 10]⟩ : ByteArray) (⟨#[98]⟩ : ByteArray) t718 t719 _ A3.out).mono ?_); rintro e w66 ⟨v720, rfl, ho0, hb⟩; refine ⟨_, rfl, ?_⟩; have n0_ := Aside0.mk (Kd.R_below (by (with_reducible repeat (first | apply Kd.R_alloc | apply Kd.R_drewN | apply Kd.R_drew)); exact HO713.out) hb); have n1_ := Aside0.mk (Kd.R_lower ho0 (below_size bwS)); have n2_ := Aside0.mk (blk_below (g := gb715) (o := .cells #[.string t710, .slice Ao64 t711.length co64] 91 (0, 0)) bk hb); have n3_ := Aside0.mk (below_step bwS hb); clear HO713; clear BK715; clear HB; have HO713 := n0_; have HO721 := n1_; have BK715 := n2_; have HB := n3_; clear n0_ n1_ n2_ n3_; (try clear hb); (try clear hb2); (try clear hk); (try clear hi); (try clear ho0); have hcz67_0 : w66.cell? ⟨gb715, 0, none⟩ = some (.string t710) := (blk_cell BK715.out 0).trans rfl; have hcz67_1 : w66.cell? ⟨gb715, 1, none⟩ = some (.slice Ao64 t711.length co64) := (blk_cell BK715.out 1).trans rfl; have hfz67_0 := blk_frozen BK715.out 0; have hfz67_1 := blk_frozen BK715.out 1))
   go_ret
   exact ⟨by first | rfl | (simp [errW_none, errW_some] <;> rfl) | (simp [*, errW_none, errW_some] <;> rfl), by repeat (first | (with_reducible first | exact HB.out | apply below_alloc | apply pw_below_drewN | apply below_drew1 | refine below_set ?_ GE715.out) | exact HB.out)⟩
 ·rw [if_neg c4] at H
  have c4b0 : (t714 == 0) = false := beq_eq_false_iff_ne.mpr c4
  have c4b1 : (t714 != 0) = true := bne_iff_ne.mpr c4
  obtain rfl := Option.some.inj H
  go_enter Tryd.func53, Tryd.ntmps53
  go_wp2_with (first | ((with_reducible refine gate_callee (f := 54) rfl ?_); refine goesL_ (some 8) rfl rfl Tryd.func54 (by kernel_rfl) rfl #[.string (⟨#[84, 101, 120, 116, 47, 80, 108, 97, 105, 110, 59, 32, 67, 104, 97, 114, 115, 101, 116, 61, 34, 120, 32, 121, 34]⟩ : ByteArray)] rfl am ?_; (with_reducible refine (mime_ReadType.calls (hG := by first | exact hG | exact Glob.below hG (by first | exact HB.out | (repeat (first | (with_reducible first | exact HB.out | apply below_alloc | apply pw_below_drewN | apply below_drew1 | refine below_set ?_ GE715.out) | exact HB.out))) | exact Glob.drawn hG (by repeat (first | exact Drawn0.refl _ | apply Drawn0.step))) k (⟨#[84, 101, 120, 116, 47, 80, 108, 97, 105, 110, 59, 32, 67, 104, 97, 114, 115, 101, 116, 61, 34, 120, 32, 121, 34]⟩ : ByteArray) t710 t711 t714 _ A1.out).mono ?_); rintro e w68 ⟨v712, rfl, ho0, hb⟩; refine ⟨_, rfl, ?_⟩; have n0_ := Aside0.mk (Kd.R_lower ho0 (below_size bw)); have n1_ := Aside0.mk (below_step bw hb); clear HB; have HO713 := n0_; have HB := n1_; clear n0_ n1_; (try clear hb); (try clear hb2); (try clear hk); (try clear hi); (try clear ho0)) | ((with_reducible refine gate_dst (N := 1) rfl ?_); (try (refine gate_guard (by rfl) ?_; dsimp only)); refine box_event ?hg (N := 1) ?hd (cs := #[.string (⟨#[]⟩ : ByteArray), .slice none 0 0]) (t := 91) ?hr ?_; (case hd => rfl); (case hg => rfl); (case hr => first | (go_simp; done) | (go_simp; rfl)); intro gb715 hg w69 hbox hb; have n0_ := Aside0.mk (Kd.R_below (by (with_reducible repeat (first | apply Kd.R_alloc | apply Kd.R_drewN | apply Kd.R_drew)); exact HO713.out) hb); have n1_ := Aside0.mk (below_step bw hb); have n2_ := Aside0.mk (hbox); have n3_ := Aside0.mk ((by rw [hg]; exact (below_size bw) : w.heap.size ≤ gb715)); have n4_ := Aside0.mk ((by rw [hg]; exact (below_size bw) : w.heap.size ≤ gb715)); clear HO713; clear HB; have HO713 := n0_; have HB := n1_; have BK715 := n2_; have GW715 := n3_; have GE715 := n4_; clear n0_ n1_ n2_ n3_ n4_; clear hb hbox hg; have hcz70_0 : w69.cell? ⟨gb715, 0, none⟩ = some (.string (⟨#[]⟩ : ByteArray)) := (blk_cell BK715.out 0).trans rfl; have hcz70_1 : w69.cell? ⟨gb715, 1, none⟩ = some (.slice none 0 0) := (blk_cell BK715.out 1).trans rfl; have hfz70_0 := blk_frozen BK715.out 0; have hfz70_1 := blk_frozen BK715.out 1; obtain ⟨Ao71, co71, eo71⟩ := Kd.R_slice HO713.out; subst eo71) | ((with_reducible refine gate_callee (f := 58) rfl ?_); refine goesL_ (some 13) rfl rfl Tryd.func58 (by kernel_rfl) rfl #[.agg #[.string t710, .slice Ao71 t711.length co71], .string (⟨#[67, 72, 65, 82, 83, 69, 84]⟩ : ByteArray)] rfl am ?_; (with_reducible refine (mime_Type_Value.calls k t710 _ _ t711 (⟨#[67, 72, 65, 82, 83, 69, 84]⟩ : ByteArray) t716 t717 _ ?side1 ?side2 A2.out).mono ?_); (case side1 => refine (Kd.R_reads' (e := 158) (base := w.heap.size) (ok := fun k_ => True) (n := t711.length) (c := co71) ?_).2.2; exact (by (with_reducible repeat (first | apply Kd.R_alloc | apply Kd.R_drewN | apply Kd.R_drew)); exact (Kd.R_mono (Kd.R_far (p := ⟨gb715, 1, none⟩) (Kd.R_far (p := ⟨gb715, 0, none⟩) (Kd.R_types HO713.out BK715.out (by decide)) (fun _ hk => hk.2) (.string t710)) (fun _ hk => hk.2) (.slice Ao71 t711.length co71)) (fun _ h_ => h_.1)))); (case side2 => exact (Kd.R_reads' HO713.out).2.1); rintro e w72 ⟨rfl, hb⟩; refine ⟨_, rfl, ?_⟩; have n0_ := Aside0.mk (Kd.R_below (by (with_reducible repeat (first | apply Kd.R_alloc | apply Kd.R_drewN | apply Kd.R_drew)); exact (Kd.R_mono (Kd.R_far (p := ⟨gb715, 1, none⟩) (Kd.R_far (p := ⟨gb715, 0, none⟩) (Kd.R_types HO713.out BK715.out (by decide)) (fun _ hk => hk.2) (.string t710)) (fun _ hk => hk.2) (.slice Ao71 t711.length co71)) (fun _ h_ => h_.1))) hb); have n1_ := Aside0.mk (blk_below (g := gb715) (o := .cells #[.string t710, .slice Ao71 t711.length co71] 91 (0, 0)) (by (with_reducible repeat (first | refine blk_drewN ?_ _ | refine blk_drew ?_ | refine blk_alloc ?_ _)); refine blk_put (cs := #[.string t710, .slice none 0 0]) ?_ 1 _ rfl; (with_reducible repeat (first | refine blk_drewN ?_ _ | refine blk_drew ?_ | refine blk_alloc ?_ _)); refine blk_put (cs := #[.string (⟨#[]⟩ : ByteArray), .slice none 0 0]) ?_ 0 _ rfl; (with_reducible repeat (first | refine blk_drewN ?_ _ | refine blk_drew ?_ | refine blk_alloc ?_ _)); exact BK715.out) hb); have n2_ := Aside0.mk (below_step bwS hb); clear HO713; clear BK715; clear HB; have HO713 := n0_; have BK715 := n1_; have HB := n2_; clear n0_ n1_ n2_; (try clear hb); (try clear hb2); (try clear hk); (try clear hi)) | ((with_reducible refine gate_callee (f := 62) rfl ?_); refine goesL_ (some 17) rfl rfl Tryd.func62 (by kernel_rfl) rfl #[.string (⟨#[45, 45, 98, 13, 10, 120, 13, 10, 45, 45, 98, 45, 45, 13, 10]⟩ : ByteArray), .string (⟨#[98]⟩ : ByteArray)] rfl am ?_; (with_reducible refine (mime_Split.calls (hG := by first | exact hG | exact Glob.below hG (by first | exact HB.out | (repeat (first | (with_reducible first | exact HB.out | apply below_alloc | apply pw_below_drewN | apply below_drew1 | refine below_set ?_ GE715.out) | exact HB.out))) | exact Glob.drawn hG (by repeat (first | exact Drawn0.refl _ | apply Drawn0.step))) (⟨#[45, 45, 98, 13, 10, 120, 13, 10, 45, 45, 98, 45, 45, 13, 10]⟩ : ByteArray) (⟨#[98]⟩ : ByteArray) t718 t719 _ A3.out).mono ?_); rintro e w73 ⟨v720, rfl, ho0, hb⟩; refine ⟨_, rfl, ?_⟩; have n0_ := Aside0.mk (Kd.R_below (by (with_reducible repeat (first | apply Kd.R_alloc | apply Kd.R_drewN | apply Kd.R_drew)); exact HO713.out) hb); have n1_ := Aside0.mk (Kd.R_lower ho0 (below_size bwS)); have n2_ := Aside0.mk (blk_below (g := gb715) (o := .cells #[.string t710, .slice Ao71 t711.length co71] 91 (0, 0)) bk hb); have n3_ := Aside0.mk (below_step bwS hb); clear HO713; clear BK715; clear HB; have HO713 := n0_; have HO721 := n1_; have BK715 := n2_; have HB := n3_; clear n0_ n1_ n2_ n3_; (try clear hb); (try clear hb2); (try clear hk); (try clear hi); (try clear ho0)))
  go_ret
  exact ⟨by first | rfl | (simp [errW_none, errW_some] <;> rfl) | (simp [*, errW_none, errW_some] <;> rfl), by repeat (first | (with_reducible first | exact HB.out | apply below_alloc | apply pw_below_drewN | apply below_drew1 | refine below_set ?_ GE715.out) | exact HB.out)⟩

end Go.Proofs.YtgaaogijfikfeaaDoor.Fn
-- written by xprint.py of this session over the kit's printer; not trusted: Lean checks it
namespace Go.Proofs.YtgaaogijfikfeaaDoor.Fn
open Go.RowKit Go.Proofs.YtgaaogijfikfeaaDoorW.PrintWords Go.Proofs.YtgaaogijfikfeaaDoorW.PrintLast Go.Proofs.YtgaaogijfikfeaaDoorW.PrintMore
attribute [local go_sem] max2_int min2_int max_two min_two max_three min_three max_four min_four   -- for this text's walks alone
set_option linter.unusedVariables false
set_option linter.unusedSimpArgs false

/-! ### bulletinref20_Join: function 66 -/
def bulletinref20_Join.l0 : Nat → List ByteArray → ByteArray → ByteArray → Int → Option (ByteArray)
 | 0, _, _, _, _ => none
 | k + 1, x0, x1, x5, x6 => if x6 < (x0.length : Int) then (if x5.size + 2 ≤ 9223372036854775807 then (if (x5 ++ (⟨#[45, 45]⟩ : ByteArray)).size + x1.size ≤ 9223372036854775807 then (if ((x5 ++ (⟨#[45, 45]⟩ : ByteArray)) ++ x1).size + 2 ≤ 9223372036854775807 then (if 0 ≤ x6 then (if (((x5 ++ (⟨#[45, 45]⟩ : ByteArray)) ++ x1) ++ (⟨#[13, 10]⟩ : ByteArray)).size + (rdOf ByteArray.empty x0 x6).size ≤ 9223372036854775807 then (if ((((x5 ++ (⟨#[45, 45]⟩ : ByteArray)) ++ x1) ++ (⟨#[13, 10]⟩ : ByteArray)) ++ (rdOf ByteArray.empty x0 x6)).size + 2 ≤ 9223372036854775807 then (bulletinref20_Join.l0 k x0 x1 (((((x5 ++ (⟨#[45, 45]⟩ : ByteArray)) ++ x1) ++ (⟨#[13, 10]⟩ : ByteArray)) ++ (rdOf ByteArray.empty x0 x6)) ++ (⟨#[13, 10]⟩ : ByteArray)) (wrap64 (x6 + 1))) else (none)) else (none)) else (none)) else (none)) else (none)) else (none)) else (if x5.size + 2 ≤ 9223372036854775807 then (if (x5 ++ (⟨#[45, 45]⟩ : ByteArray)).size + x1.size ≤ 9223372036854775807 then (if ((x5 ++ (⟨#[45, 45]⟩ : ByteArray)) ++ x1).size + 4 ≤ 9223372036854775807 then (some (((x5 ++ (⟨#[45, 45]⟩ : ByteArray)) ++ x1) ++ (⟨#[45, 45, 13, 10]⟩ : ByteArray))) else (none)) else (none)) else (none))
def bulletinref20_Join.f (k : Nat) (l0 : List ByteArray) (a1 : ByteArray) : Option (ByteArray) := bulletinref20_Join.l0 k l0 a1 (⟨#[]⟩ : ByteArray) 0
set_option maxHeartbeats 8000000 in
set_option maxRecDepth 100000 in
theorem bulletinref20_Join.calls (k : Nat) (A0 : Option Addr) (c0 : Nat) (l0 : List ByteArray) (a1 : ByteArray) (r : ByteArray) (w : World) (hr0 : Kd.C Kd.string w A0 l0.length l0) (hc0 : l0.length ≤ c0) (h : bulletinref20_Join.f k l0 a1 = some r) :
  Calls Tryd.prog 66 #[.slice A0 l0.length c0, .string a1] w fun e w' => e = .returned (.string r) ∧ Drawn0 w w' := by
 have HR0 := Aside0.mk hr0
 have HC0 := Aside0.mk hc0
 clear hr0 hc0
 have H : (bulletinref20_Join.l0 k l0 a1 (⟨#[]⟩ : ByteArray) 0) = some r := h
 clear h
 have H' := Aside0.mk H
 clear H
 go_enter Tryd.func66, Tryd.ntmps66
 go_wp2
 go_loopg [5, 6] k (fun kq v5 v6 w' => ∃ (x5_1 : ByteArray) (x6_1 : Int), v5 = .string x5_1 ∧ v6 = .int .i64 x6_1 ∧ Aside0 (bulletinref20_Join.l0 kq l0 a1 x5_1 x6_1 = some r) ∧ Aside0 (kq ≤ k) ∧ Drawn0 w w')
 case atStart => exact ⟨((⟨#[]⟩ : ByteArray)), (0), cl, cl, H', ⟨Nat.le_refl _⟩, by repeat (first | exact Drawn0.refl _ | apply Drawn0.step)⟩
 case round =>
  clear H'
  try clear p2
  obtain ⟨x5_1, x6_1, rfl, rfl, HA, HK1, ⟨m1, rfl⟩⟩ := hrel
  cases gk with
  | zero => exact absurd HA.out (by simp [bulletinref20_Join.l0])
  | succ k1 =>
   have H := HA.out
   clear HA
   simp only [bulletinref20_Join.l0] at H
   by_cases c3 : x6_1 < (l0.length : Int)
   ·rw [if_pos c3] at H
    have c3b0 : decide (x6_1 < (l0.length : Int)) = true := decide_eq_true c3
    clear c3
    by_cases c4 : x5_1.size + 2 ≤ 9223372036854775807
    ·rw [if_pos c4] at H
     have c4b0 := eq_true c4
     have c4b1 : decide (x5_1.size + 2 ≤ 9223372036854775807) = true := decide_eq_true c4
     try have c4b2 : (9223372036854775807 < x5_1.size + 2) = False := eq_false (Nat.not_lt.2 c4)
     by_cases c5 : (x5_1 ++ (⟨#[45, 45]⟩ : ByteArray)).size + a1.size ≤ 9223372036854775807
     ·rw [if_pos c5] at H
      have c5b0 := eq_true c5
      have c5b1 : decide ((x5_1 ++ (⟨#[45, 45]⟩ : ByteArray)).size + a1.size ≤ 9223372036854775807) = true := decide_eq_true c5
      try have c5b2 : (9223372036854775807 < (x5_1 ++ (⟨#[45, 45]⟩ : ByteArray)).size + a1.size) = False := eq_false (Nat.not_lt.2 c5)
      try (have c5b3 := c5; simp only [ByteArray.size_append, size_lit, ByteArray.size_extract, List.size_toArray, List.length_cons, List.length_nil, Nat.zero_add, Nat.reduceAdd] at c5b3; have c5b4 := eq_false (Nat.not_lt.2 c5b3))
      by_cases c6 : ((x5_1 ++ (⟨#[45, 45]⟩ : ByteArray)) ++ a1).size + 2 ≤ 9223372036854775807
      ·rw [if_pos c6] at H
       have c6b0 := eq_true c6
       have c6b1 : decide (((x5_1 ++ (⟨#[45, 45]⟩ : ByteArray)) ++ a1).size + 2 ≤ 9223372036854775807) = true := decide_eq_true c6
       try have c6b2 : (9223372036854775807 < ((x5_1 ++ (⟨#[45, 45]⟩ : ByteArray)) ++ a1).size + 2) = False := eq_false (Nat.not_lt.2 c6)
       try (have c6b3 := c6; simp only [ByteArray.size_append, size_lit, ByteArray.size_extract, List.size_toArray, List.length_cons, List.length_nil, Nat.zero_add, Nat.reduceAdd] at c6b3; have c6b4 := eq_false (Nat.not_lt.2 c6b3))
       by_cases c7 : 0 ≤ x6_1
       ·rw [if_pos c7] at H
        have c7b0 : decide (0 ≤ x6_1) = true := decide_eq_true c7
        clear c7
        by_cases c8 : (((x5_1 ++ (⟨#[45, 45]⟩ : ByteArray)) ++ a1) ++ (⟨#[13, 10]⟩ : ByteArray)).size + (rdOf ByteArray.empty l0 x6_1).size ≤ 9223372036854775807
        ·rw [if_pos c8] at H
         have c8b0 := eq_true c8
         have c8b1 : decide ((((x5_1 ++ (⟨#[45, 45]⟩ : ByteArray)) ++ a1) ++ (⟨#[13, 10]⟩ : ByteArray)).size + (rdOf ByteArray.empty l0 x6_1).size ≤ 9223372036854775807) = true := decide_eq_true c8
         try have c8b2 : (9223372036854775807 < (((x5_1 ++ (⟨#[45, 45]⟩ : ByteArray)) ++ a1) ++ (⟨#[13, 10]⟩ : ByteArray)).size + (rdOf ByteArray.empty l0 x6_1).size) = False := eq_false (Nat.not_lt.2 c8)
         try (have c8b3 := c8; simp only [ByteArray.size_append, size_lit, ByteArray.size_extract, List.size_toArray, List.length_cons, List.length_nil, Nat.zero_add, Nat.reduceAdd] at c8b3; have c8b4 := eq_false (Nat.not_lt.2 c8b3))
         by_cases c9 : ((((x5_1 ++ (⟨#[45, 45]⟩ : ByteArray)) ++ a1) ++ (⟨#[13, 10]⟩ : ByteArray)) ++ (rdOf ByteArray.empty l0 x6_1)).size + 2 ≤ 9223372036854775807
         ·rw [if_pos c9] at H
          have c9b0 := eq_true c9
          have c9b1 : decide (((((x5_1 ++ (⟨#[45, 45]⟩ : ByteArray)) ++ a1) ++ (⟨#[13, 10]⟩ : ByteArray)) ++ (rdOf ByteArray.empty l0 x6_1)).size + 2 ≤ 9223372036854775807) = true := decide_eq_true c9
          try have c9b2 : (9223372036854775807 < ((((x5_1 ++ (⟨#[45, 45]⟩ : ByteArray)) ++ a1) ++ (⟨#[13, 10]⟩ : ByteArray)) ++ (rdOf ByteArray.empty l0 x6_1)).size + 2) = False := eq_false (Nat.not_lt.2 c9)
          try (have c9b3 := c9; simp only [ByteArray.size_append, size_lit, ByteArray.size_extract, List.size_toArray, List.length_cons, List.length_nil, Nat.zero_add, Nat.reduceAdd] at c9b3; have c9b4 := eq_false (Nat.not_lt.2 c9b3))
          have H' := Aside0.mk H
          clear H
          have p886 : 0 ≤ (x6_1 : Int) := od
          have q886 : x6_1 < (l0.length : Int) := od
          obtain ⟨ad886, e886, hx886_0⟩ := Kd.at_string HR0.out x6_1 p886 q886
          cases e886
          replace p886 := eq_true p886
          replace q886 := eq_true q886
          go_wp2
          go_roundg k1
          case measure => have := HK1.out; omega
          case rel => exact ⟨(((((x5_1 ++ (⟨#[45, 45]⟩ : ByteArray)) ++ a1) ++ (⟨#[13, 10]⟩ : ByteArray)) ++ (rdOf ByteArray.empty l0 x6_1)) ++ (⟨#[13, 10]⟩ : ByteArray)), (wrap64 (x6_1 + 1)), cl, cl, H', ⟨by have := HK1.out; omega⟩, by repeat (first | exact Drawn0.refl _ | apply Drawn0.step)⟩
         ·rw [if_neg c9] at H
          exact absurd H (by simp)
        ·rw [if_neg c8] at H
         exact absurd H (by simp)
       ·rw [if_neg c7] at H
        exact absurd H (by simp)
      ·rw [if_neg c6] at H
       exact absurd H (by simp)
     ·rw [if_neg c5] at H
      exact absurd H (by simp)
    ·rw [if_neg c4] at H
     exact absurd H (by simp)
   ·rw [if_neg c3] at H
    have c3b0 : decide (x6_1 < (l0.length : Int)) = false := decide_eq_false c3
    clear c3
    by_cases c10 : x5_1.size + 2 ≤ 9223372036854775807
    ·rw [if_pos c10] at H
     have c10b0 := eq_true c10
     have c10b1 : decide (x5_1.size + 2 ≤ 9223372036854775807) = true := decide_eq_true c10
     try have c10b2 : (9223372036854775807 < x5_1.size + 2) = False := eq_false (Nat.not_lt.2 c10)
     by_cases c11 : (x5_1 ++ (⟨#[45, 45]⟩ : ByteArray)).size + a1.size ≤ 9223372036854775807
     ·rw [if_pos c11] at H
      have c11b0 := eq_true c11
      have c11b1 : decide ((x5_1 ++ (⟨#[45, 45]⟩ : ByteArray)).size + a1.size ≤ 9223372036854775807) = true := decide_eq_true c11
      try have c11b2 : (9223372036854775807 < (x5_1 ++ (⟨#[45, 45]⟩ : ByteArray)).size + a1.size) = False := eq_false (Nat.not_lt.2 c11)
      try (have c11b3 := c11; simp only [ByteArray.size_append, size_lit, ByteArray.size_extract, List.size_toArray, List.length_cons, List.length_nil, Nat.zero_add, Nat.reduceAdd] at c11b3; have c11b4 := eq_false (Nat.not_lt.2 c11b3))
      by_cases c12 : ((x5_1 ++ (⟨#[45, 45]⟩ : ByteArray)) ++ a1).size + 4 ≤ 9223372036854775807
      ·rw [if_pos c12] at H
       have c12b0 := eq_true c12
       have c12b1 : decide (((x5_1 ++ (⟨#[45, 45]⟩ : ByteArray)) ++ a1).size + 4 ≤ 9223372036854775807) = true := decide_eq_true c12
       try have c12b2 : (9223372036854775807 < ((x5_1 ++ (⟨#[45, 45]⟩ : ByteArray)) ++ a1).size + 4) = False := eq_false (Nat.not_lt.2 c12)
       try (have c12b3 := c12; simp only [ByteArray.size_append, size_lit, ByteArray.size_extract, List.size_toArray, List.length_cons, List.length_nil, Nat.zero_add, Nat.reduceAdd] at c12b3; have c12b4 := eq_false (Nat.not_lt.2 c12b3))
       obtain rfl := Option.some.inj H
       go_wp2
       go_ret
       exact ⟨by first | rfl | (simp; done) | (simp [*]; done) | (simp [nil_ne]; done), by repeat (first | exact Drawn0.refl _ | apply Drawn0.step)⟩
      ·rw [if_neg c12] at H
       exact absurd H (by simp)
     ·rw [if_neg c11] at H
      exact absurd H (by simp)
    ·rw [if_neg c10] at H
     exact absurd H (by simp)

end Go.Proofs.YtgaaogijfikfeaaDoor.Fn
-- written by xprint.py of this session over the kit's printer; not trusted: Lean checks it
namespace Go.Proofs.YtgaaogijfikfeaaDoor.Fn
open Go.RowKit Go.Proofs.YtgaaogijfikfeaaDoorW.PrintWords Go.Proofs.YtgaaogijfikfeaaDoorW.PrintLast Go.Proofs.YtgaaogijfikfeaaDoorW.PrintMore
attribute [local go_sem] max2_int min2_int max_two min_two max_three min_three max_four min_four   -- for this text's walks alone
set_option linter.unusedVariables false
set_option linter.unusedSimpArgs false

/-! ### bulletinref17_Lines: function 113 -/
def bulletinref17_Lines.l0 : Nat → ByteArray → List ByteArray → ByteArray → Int → Option (List ByteArray)
 | 0, _, _, _, _ => none
 | k + 1, x0, x3, x4, x5 => if x5 < (x0.size : Int) then (if 0 ≤ x5 then (if (bt x0 x5) = 13 then (if (wrap64 (x5 + 1)) < (x0.size : Int) then (if 0 ≤ (wrap64 (x5 + 1)) then (if (bt x0 (wrap64 (x5 + 1))) = 10 then (if x3.length < 8796093022208 then (bulletinref17_Lines.l0 k x0 (x3 ++ [x4]) (⟨#[]⟩ : ByteArray) (wrap64 ((wrap64 (x5 + 1)) + 1))) else (none)) else (if x5 ≤ (wrap64 (x5 + 1)) then (if (wrap64 (x5 + 1)) ≤ (x0.size : Int) then (if x4.size + (x0.extract (x5 : Int).toNat ((wrap64 (x5 + 1)) : Int).toNat).size ≤ 9223372036854775807 then (bulletinref17_Lines.l0 k x0 x3 (x4 ++ (x0.extract (x5 : Int).toNat ((wrap64 (x5 + 1)) : Int).toNat)) (wrap64 (x5 + 1))) else (none)) else (none)) else (none))) else (none)) else (if x5 ≤ (wrap64 (x5 + 1)) then (if (wrap64 (x5 + 1)) ≤ (x0.size : Int) then (if x4.size + (x0.extract (x5 : Int).toNat ((wrap64 (x5 + 1)) : Int).toNat).size ≤ 9223372036854775807 then (bulletinref17_Lines.l0 k x0 x3 (x4 ++ (x0.extract (x5 : Int).toNat ((wrap64 (x5 + 1)) : Int).toNat)) (wrap64 (x5 + 1))) else (none)) else (none)) else (none))) else (if x5 ≤ (wrap64 (x5 + 1)) then (if (wrap64 (x5 + 1)) ≤ (x0.size : Int) then (if x4.size + (x0.extract (x5 : Int).toNat ((wrap64 (x5 + 1)) : Int).toNat).size ≤ 9223372036854775807 then (bulletinref17_Lines.l0 k x0 x3 (x4 ++ (x0.extract (x5 : Int).toNat ((wrap64 (x5 + 1)) : Int).toNat)) (wrap64 (x5 + 1))) else (none)) else (none)) else (none))) else (none)) else (if x3.length < 8796093022208 then (some (x3 ++ [x4])) else (none))
def bulletinref17_Lines.f (k : Nat) (a0 : ByteArray) : Option (List ByteArray) := bulletinref17_Lines.l0 k a0 ([] : List ByteArray) (⟨#[]⟩ : ByteArray) 0
set_option maxHeartbeats 8000000 in
set_option maxRecDepth 100000 in
theorem bulletinref17_Lines.calls (k : Nat) (a0 : ByteArray) (r : List ByteArray) (w : World) (h : bulletinref17_Lines.f k a0 = some r) :
  Calls Tryd.prog 113 #[.string a0] w fun e w' => ∃ v0_ : Value, e = .returned (v0_) ∧ Kd.R Kd.string 9 w' w.heap.size (fun _ => True) v0_ r ∧ Below w.heap.size w w' := by
 have HB := Aside0.mk (Below.refl w.heap.size w)
 have H : (bulletinref17_Lines.l0 k a0 ([] : List ByteArray) (⟨#[]⟩ : ByteArray) 0) = some r := h
 clear h
 have H' := Aside0.mk H
 clear H
 go_enter Tryd.func113, Tryd.ntmps113
 go_wp2
 go_loopg [3, 4, 5] k (fun kq v3 v4 v5 w' => ∃ (x3_1 : List ByteArray) (x4_1 : ByteArray) (x5_1 : Int), v4 = .string x4_1 ∧ v5 = .int .i64 x5_1 ∧ Aside0 (bulletinref17_Lines.l0 kq a0 x3_1 x4_1 x5_1 = some r) ∧ Aside0 (kq ≤ k) ∧ Aside0 (Kd.R Kd.string 9 w' w.heap.size (fun _ => True) v3 x3_1) ∧ Aside0 (Below w.heap.size w w'))
 case atStart => exact ⟨(([] : List ByteArray)), ((⟨#[]⟩ : ByteArray)), (0), cl, cl, H', ⟨Nat.le_refl _⟩, ⟨by first | exact Kd.R_nil _ _ _ _ _ | exact Kd.N_nil _ _ _ _ _ | exact Kd.V_nil _ _ _ _ _ | exact Kd.Q_nil _ _ _ _ _ | exact Kd.S_nil _ _ _ _ _⟩, ⟨by repeat (first | (with_reducible first | exact HB.out | apply below_alloc | apply pw_below_drewN | apply below_drew1) | exact HB.out)⟩⟩
 case round =>
  clear H'
  try clear c1
  obtain ⟨x3_1, x4_1, x5_1, rfl, rfl, HA, HK1, HO_3, HB⟩ := hrel
  cases gk with
  | zero => exact absurd HA.out (by simp [bulletinref17_Lines.l0])
  | succ k1 =>
   have H := HA.out
   clear HA
   simp only [bulletinref17_Lines.l0] at H
   by_cases c2 : x5_1 < (a0.size : Int)
   ·rw [if_pos c2] at H
    have c2b0 : decide (x5_1 < (a0.size : Int)) = true := decide_eq_true c2
    clear c2
    by_cases c3 : 0 ≤ x5_1
    ·rw [if_pos c3] at H
     have c3b0 : decide (0 ≤ x5_1) = true := decide_eq_true c3
     clear c3
     by_cases c5 : (bt a0 x5_1) = 13
     ·rw [if_pos c5] at H
      have c5b0 : ((bt a0 x5_1) == 13) = true := beq_iff_eq.mpr c5
      have c5b1 : ((bt a0 x5_1) != 13) = false := bne_eq_false_iff_eq.mpr c5
      clear c5
      by_cases c6 : (wrap64 (x5_1 + 1)) < (a0.size : Int)
      ·rw [if_pos c6] at H
       have c6b0 : decide ((wrap64 (x5_1 + 1)) < (a0.size : Int)) = true := decide_eq_true c6
       clear c6
       obtain ⟨ji7, hji7⟩ : ∃ j_ : Int, (wrap64 (x5_1 + 1)) = j_ := ⟨_, rfl⟩
       replace H : (if 0 ≤ (ji7) then (if (bt a0 (ji7)) = 10 then (if x3_1.length < 8796093022208 then (bulletinref17_Lines.l0 k1 a0 (x3_1 ++ [x4_1]) (⟨#[]⟩ : ByteArray) (wrap64 ((ji7) + 1))) else (none)) else (if x5_1 ≤ (ji7) then (if (ji7) ≤ (a0.size : Int) then (if x4_1.size + (a0.extract (x5_1 : Int).toNat ((ji7) : Int).toNat).size ≤ 9223372036854775807 then (bulletinref17_Lines.l0 k1 a0 x3_1 (x4_1 ++ (a0.extract (x5_1 : Int).toNat ((ji7) : Int).toNat)) ji7) else (none)) else (none)) else (none))) else (none)) = some r := by first | (rw [hji7] at H; exact H) | (simp only [hji7] at H ⊢; exact H)
       (try rw [hji7] at c6b0)
       have hji7w : (IntKind.i64.wrap (x5_1 + 1)) = ji7 := (i64_w _).trans hji7
       by_cases c8 : 0 ≤ (ji7)
       ·rw [if_pos c8] at H
        have c8b0 : decide (0 ≤ (ji7)) = true := decide_eq_true c8
        clear c8
        by_cases c10 : (bt a0 (ji7)) = 10
        ·rw [if_pos c10] at H
         have c10b0 : ((bt a0 (ji7)) == 10) = true := beq_iff_eq.mpr c10
         have c10b1 : ((bt a0 (ji7)) != 10) = false := bne_eq_false_iff_eq.mpr c10
         clear c10
         by_cases c11 : x3_1.length < 8796093022208
         ·rw [if_pos c11] at H
          have LMc11 := Aside0.mk c11
          clear c11
          obtain ⟨y814, hy814⟩ : ∃ y_ : List ByteArray, y_ = (x3_1 ++ [x4_1]) := ⟨_, rfl⟩
          replace H : (bulletinref17_Lines.l0 k1 a0 y814 (⟨#[]⟩ : ByteArray) (wrap64 ((ji7) + 1))) = some r := by first | (rw [hy814]; with_reducible exact H) | (have H2_ := (Option.bind_some _ _).symm.trans H; rw [hy814]; with_reducible exact H2_) | (have H2_ := (Option.bind_some _ _).symm.trans H; with_reducible exact H2_) | with_reducible exact H | (rw [hy814]; exact H) | exact H
          have Ny814 := Aside0.mk hy814
          clear hy814
          have H' := Aside0.mk H
          clear H
          have p4 : 0 ≤ (x5_1 : Int) := od
          have q4 : x5_1 < (a0.size : Int) := od
          have hx4 := bt_at a0 x5_1
          replace p4 := eq_true p4
          replace q4 := eq_true q4
          have p9 : 0 ≤ ((ji7) : Int) := od
          have q9 : (ji7) < (a0.size : Int) := od
          have hx9 := bt_at a0 (ji7)
          replace p9 := eq_true p9
          replace q9 := eq_true q9
          go_wp2_with (first | ((with_reducible refine gate_builtin (b := .append) (xs := #[.tmp 30, .tmp 32]) rfl ?_); (try (refine gate_guard (by rfl) ?_; dsimp only)); at_builtin; refine Kd.R_append Kd.string (w0 := w) w.heap.size rfl (.tmp 30) (.tmp 32) 32 9 (.string ⟨#[]⟩) 16 rfl Tryd.underlying32 info9 rfl (by decide) (by omega) u3 x3_1 x4_1 [.string x4_1] (fun _ => True) (fun _ => False) rfl rfl ?aP (fun _ hk => hk.elim) ?aF ?aO ?aB ?aS ?aL ?_; (case aP => exact rfl); (case aB => exact bw); (case aF => exact (fun _ _ => trivial)); (case aO => exact (by (with_reducible repeat (first | apply Kd.R_alloc | apply Kd.R_drewN | apply Kd.R_drew)); exact HO_3.out)); (case aS => exact (below_size bw)); (case aL => have := LMc11.out; omega); intro v815 w12 ho hb hg hat; rw [← Ny814.out] at ho; have n0_ := Aside0.mk (hb); have n1_ := Aside0.mk (ho); clear HB; clear HO_3; have HB := n0_; have HO816 := n1_; clear n0_ n1_; clear ho hb hg hat))
          go_roundg k1
          case measure => have := HK1.out; omega
          case rel => exact ⟨(y814), ((⟨#[]⟩ : ByteArray)), (wrap64 ((ji7) + 1)), cl, (by first | rfl | (simp; done) | (simp only [← hji7] <;> (first | rfl | simp)) | (simp [*]; done) | (simp [nil_ne]; done)), H', ⟨by have := HK1.out; omega⟩, ⟨by (with_reducible repeat (first | apply Kd.R_alloc | apply Kd.R_drewN | apply Kd.R_drew)); exact HO816.out⟩, ⟨by repeat (first | (with_reducible first | exact HB.out | apply below_alloc | apply pw_below_drewN | apply below_drew1) | exact HB.out)⟩⟩
         ·rw [if_neg c11] at H
          exact absurd H (by simp)
        ·rw [if_neg c10] at H
         have c10b0 : ((bt a0 (ji7)) == 10) = false := beq_eq_false_iff_ne.mpr c10
         have c10b1 : ((bt a0 (ji7)) != 10) = true := bne_iff_ne.mpr c10
         have c13b0 := eq_true (od : 0 ≤ x5_1)
         by_cases c14 : x5_1 ≤ (ji7)
         ·rw [if_pos c14] at H
          have c14b0 := eq_true c14
          have c14b1 : decide (x5_1 ≤ (ji7)) = true := decide_eq_true c14
          clear c14
          by_cases c15 : (ji7) ≤ (a0.size : Int)
          ·rw [if_pos c15] at H
           have c15b0 := eq_true c15
           have c15b1 : decide ((ji7) ≤ (a0.size : Int)) = true := decide_eq_true c15
           clear c15
           by_cases c16 : x4_1.size + (a0.extract (x5_1 : Int).toNat ((ji7) : Int).toNat).size ≤ 9223372036854775807
           ·rw [if_pos c16] at H
            have c16b0 := eq_true c16
            have c16b1 : decide (x4_1.size + (a0.extract (x5_1 : Int).toNat ((ji7) : Int).toNat).size ≤ 9223372036854775807) = true := decide_eq_true c16
            try have c16b2 : (9223372036854775807 < x4_1.size + (a0.extract (x5_1 : Int).toNat ((ji7) : Int).toNat).size) = False := eq_false (Nat.not_lt.2 c16)
            try (have c16b3 := c16; simp only [ByteArray.size_append, size_lit, ByteArray.size_extract, List.size_toArray, List.length_cons, List.length_nil, Nat.zero_add, Nat.reduceAdd] at c16b3; have c16b4 := eq_false (Nat.not_lt.2 c16b3))
            have H' := Aside0.mk H
            clear H
            have p4 : 0 ≤ (x5_1 : Int) := od
            have q4 : x5_1 < (a0.size : Int) := od
            have hx4 := bt_at a0 x5_1
            replace p4 := eq_true p4
            replace q4 := eq_true q4
            have p9 : 0 ≤ ((ji7) : Int) := od
            have q9 : (ji7) < (a0.size : Int) := od
            have hx9 := bt_at a0 (ji7)
            replace p9 := eq_true p9
            replace q9 := eq_true q9
            go_wp2
            go_roundg k1
            case measure => have := HK1.out; omega
            case rel => exact ⟨(x3_1), (x4_1 ++ (a0.extract (x5_1 : Int).toNat ((ji7) : Int).toNat)), (ji7), (by first | rfl | (simp; done) | (simp only [← hji7] <;> (first | rfl | simp)) | (simp [*]; done) | (simp [nil_ne]; done)), (by first | rfl | (simp; done) | (simp only [← hji7] <;> (first | rfl | simp)) | (simp [*]; done) | (simp [nil_ne]; done)), H', ⟨by have := HK1.out; omega⟩, ⟨by (with_reducible repeat (first | apply Kd.R_alloc | apply Kd.R_drewN | apply Kd.R_drew)); exact HO_3.out⟩, ⟨by repeat (first | (with_reducible first | exact HB.out | apply below_alloc | apply pw_below_drewN | apply below_drew1) | exact HB.out)⟩⟩
           ·rw [if_neg c16] at H
            exact absurd H (by simp)
          ·rw [if_neg c15] at H
           exact absurd H (by simp)
         ·rw [if_neg c14] at H
          exact absurd H (by simp)
       ·rw [if_neg c8] at H
        exact absurd H (by simp)
      ·rw [if_neg c6] at H
       have c6b0 : decide ((wrap64 (x5_1 + 1)) < (a0.size : Int)) = false := decide_eq_false c6
       clear c6
       have c17b0 := eq_true (od : 0 ≤ x5_1)
       by_cases c18 : x5_1 ≤ (wrap64 (x5_1 + 1))
       ·rw [if_pos c18] at H
        have c18b0 := eq_true c18
        have c18b1 : decide (x5_1 ≤ (wrap64 (x5_1 + 1))) = true := decide_eq_true c18
        by_cases c19 : (wrap64 (x5_1 + 1)) ≤ (a0.size : Int)
        ·rw [if_pos c19] at H
         have c19b0 := eq_true c19
         have c19b1 : decide ((wrap64 (x5_1 + 1)) ≤ (a0.size : Int)) = true := decide_eq_true c19
         by_cases c20 : x4_1.size + (a0.extract (x5_1 : Int).toNat ((wrap64 (x5_1 + 1)) : Int).toNat).size ≤ 9223372036854775807
         ·rw [if_pos c20] at H
          have c20b0 := eq_true c20
          have c20b1 : decide (x4_1.size + (a0.extract (x5_1 : Int).toNat ((wrap64 (x5_1 + 1)) : Int).toNat).size ≤ 9223372036854775807) = true := decide_eq_true c20
          try have c20b2 : (9223372036854775807 < x4_1.size + (a0.extract (x5_1 : Int).toNat ((wrap64 (x5_1 + 1)) : Int).toNat).size) = False := eq_false (Nat.not_lt.2 c20)
          try (have c20b3 := c20; simp only [ByteArray.size_append, size_lit, ByteArray.size_extract, List.size_toArray, List.length_cons, List.length_nil, Nat.zero_add, Nat.reduceAdd] at c20b3; have c20b4 := eq_false (Nat.not_lt.2 c20b3))
          have H' := Aside0.mk H
          clear H
          have p4 : 0 ≤ (x5_1 : Int) := od
          have q4 : x5_1 < (a0.size : Int) := od
          have hx4 := bt_at a0 x5_1
          replace p4 := eq_true p4
          replace q4 := eq_true q4
          go_wp2
          go_roundg k1
          case measure => have := HK1.out; omega
          case rel => exact ⟨(x3_1), (x4_1 ++ (a0.extract (x5_1 : Int).toNat ((wrap64 (x5_1 + 1)) : Int).toNat)), (wrap64 (x5_1 + 1)), cl, cl, H', ⟨by have := HK1.out; omega⟩, ⟨by (with_reducible repeat (first | apply Kd.R_alloc | apply Kd.R_drewN | apply Kd.R_drew)); exact HO_3.out⟩, ⟨by repeat (first | (with_reducible first | exact HB.out | apply below_alloc | apply pw_below_drewN | apply below_drew1) | exact HB.out)⟩⟩
         ·rw [if_neg c20] at H
          exact absurd H (by simp)
        ·rw [if_neg c19] at H
         exact absurd H (by simp)
       ·rw [if_neg c18] at H
        exact absurd H (by simp)
     ·rw [if_neg c5] at H
      have c5b0 : ((bt a0 x5_1) == 13) = false := beq_eq_false_iff_ne.mpr c5
      have c5b1 : ((bt a0 x5_1) != 13) = true := bne_iff_ne.mpr c5
      have c21b0 := eq_true (od : 0 ≤ x5_1)
      by_cases c22 : x5_1 ≤ (wrap64 (x5_1 + 1))
      ·rw [if_pos c22] at H
       have c22b0 := eq_true c22
       have c22b1 : decide (x5_1 ≤ (wrap64 (x5_1 + 1))) = true := decide_eq_true c22
       by_cases c23 : (wrap64 (x5_1 + 1)) ≤ (a0.size : Int)
       ·rw [if_pos c23] at H
        have c23b0 := eq_true c23
        have c23b1 : decide ((wrap64 (x5_1 + 1)) ≤ (a0.size : Int)) = true := decide_eq_true c23
        by_cases c24 : x4_1.size + (a0.extract (x5_1 : Int).toNat ((wrap64 (x5_1 + 1)) : Int).toNat).size ≤ 9223372036854775807
        ·rw [if_pos c24] at H
         have c24b0 := eq_true c24
         have c24b1 : decide (x4_1.size + (a0.extract (x5_1 : Int).toNat ((wrap64 (x5_1 + 1)) : Int).toNat).size ≤ 9223372036854775807) = true := decide_eq_true c24
         try have c24b2 : (9223372036854775807 < x4_1.size + (a0.extract (x5_1 : Int).toNat ((wrap64 (x5_1 + 1)) : Int).toNat).size) = False := eq_false (Nat.not_lt.2 c24)
         try (have c24b3 := c24; simp only [ByteArray.size_append, size_lit, ByteArray.size_extract, List.size_toArray, List.length_cons, List.length_nil, Nat.zero_add, Nat.reduceAdd] at c24b3; have c24b4 := eq_false (Nat.not_lt.2 c24b3))
         have H' := Aside0.mk H
         clear H
         have p4 : 0 ≤ (x5_1 : Int) := od
         have q4 : x5_1 < (a0.size : Int) := od
         have hx4 := bt_at a0 x5_1
         replace p4 := eq_true p4
         replace q4 := eq_true q4
         go_wp2
         go_roundg k1
         case measure => have := HK1.out; omega
         case rel => exact ⟨(x3_1), (x4_1 ++ (a0.extract (x5_1 : Int).toNat ((wrap64 (x5_1 + 1)) : Int).toNat)), (wrap64 (x5_1 + 1)), cl, cl, H', ⟨by have := HK1.out; omega⟩, ⟨by (with_reducible repeat (first | apply Kd.R_alloc | apply Kd.R_drewN | apply Kd.R_drew)); exact HO_3.out⟩, ⟨by repeat (first | (with_reducible first | exact HB.out | apply below_alloc | apply pw_below_drewN | apply below_drew1) | exact HB.out)⟩⟩
        ·rw [if_neg c24] at H
         exact absurd H (by simp)
       ·rw [if_neg c23] at H
        exact absurd H (by simp)
      ·rw [if_neg c22] at H
       exact absurd H (by simp)
    ·rw [if_neg c3] at H
     exact absurd H (by simp)
   ·rw [if_neg c2] at H
    have c2b0 : decide (x5_1 < (a0.size : Int)) = false := decide_eq_false c2
    clear c2
    by_cases c25 : x3_1.length < 8796093022208
    ·rw [if_pos c25] at H
     have LMc25 := Aside0.mk c25
     clear c25
     obtain ⟨y817, hy817⟩ : ∃ y_ : List ByteArray, y_ = (x3_1 ++ [x4_1]) := ⟨_, rfl⟩
     replace H : (some y817) = some r := by first | (rw [hy817]; with_reducible exact H) | (have H2_ := (Option.bind_some _ _).symm.trans H; rw [hy817]; with_reducible exact H2_) | (have H2_ := (Option.bind_some _ _).symm.trans H; with_reducible exact H2_) | with_reducible exact H | (rw [hy817]; exact H) | exact H
     have Ny817 := Aside0.mk hy817
     clear hy817
     obtain rfl := Option.some.inj H
     go_wp2_with (first | ((with_reducible refine gate_builtin (b := .append) (xs := #[.tmp 43, .tmp 45]) rfl ?_); (try (refine gate_guard (by rfl) ?_; dsimp only)); at_builtin; refine Kd.R_append Kd.string (w0 := w) w.heap.size rfl (.tmp 43) (.tmp 45) 32 9 (.string ⟨#[]⟩) 16 rfl Tryd.underlying32 info9 rfl (by decide) (by omega) u3 x3_1 x4_1 [.string x4_1] (fun _ => True) (fun _ => False) rfl rfl ?aP (fun _ hk => hk.elim) ?aF ?aO ?aB ?aS ?aL ?_; (case aP => exact rfl); (case aB => exact bw); (case aF => exact (fun _ _ => trivial)); (case aO => exact (by (with_reducible repeat (first | apply Kd.R_alloc | apply Kd.R_drewN | apply Kd.R_drew)); exact HO_3.out)); (case aS => exact (below_size bw)); (case aL => have := LMc25.out; omega); intro v818 w26 ho hb hg hat; rw [← Ny817.out] at ho; have n0_ := Aside0.mk (hb); have n1_ := Aside0.mk (ho); clear HB; clear HO_3; have HB := n0_; have HO819 := n1_; clear n0_ n1_; clear ho hb hg hat))
     go_ret
     exact ⟨_, by first | rfl | (simp [errW_none, errW_some] <;> rfl) | (simp [*, errW_none, errW_some] <;> rfl), by (with_reducible repeat (first | apply Kd.R_alloc | apply Kd.R_drewN | apply Kd.R_drew)); exact HO819.out, by repeat (first | (with_reducible first | exact HB.out | apply below_alloc | apply pw_below_drewN | apply below_drew1) | exact HB.out)⟩
    ·rw [if_neg c25] at H
     exact absurd H (by simp)

end Go.Proofs.YtgaaogijfikfeaaDoor.Fn
-- written by xprint.py of this session over the kit's printer; not trusted: Lean checks it
namespace Go.Proofs.YtgaaogijfikfeaaDoor.Fn
open Go.RowKit Go.Proofs.YtgaaogijfikfeaaDoorW.PrintWords Go.Proofs.YtgaaogijfikfeaaDoorW.PrintLast Go.Proofs.YtgaaogijfikfeaaDoorW.PrintMore
attribute [local go_sem] max2_int min2_int max_two min_two max_three min_three max_four min_four   -- for this text's walks alone
set_option linter.unusedVariables false
set_option linter.unusedSimpArgs false

/-! ### bulletinref20_RightBoundary: function 112 -/
def bulletinref20_RightBoundary.l0 : Nat → ByteArray → Int → Option (Bool)
 | 0, _, _ => none
 | k + 1, x0, x3 => if x3 < (x0.size : Int) then (if 0 ≤ x3 then (if (bt x0 x3) < 33 then (some false) else (if (bt x0 x3) > 126 then (some false) else (bulletinref20_RightBoundary.l0 k x0 (wrap64 (x3 + 1))))) else (none)) else (if (x0.size : Int) ≥ 1 then (some (decide ((x0.size : Int) ≤ 70))) else (some false))
def bulletinref20_RightBoundary.f (k : Nat) (a0 : ByteArray) : Option (Bool) := bulletinref20_RightBoundary.l0 k a0 0
set_option maxHeartbeats 8000000 in
set_option maxRecDepth 100000 in
theorem bulletinref20_RightBoundary.calls (k : Nat) (a0 : ByteArray) (r : Bool) (w : World) (h : bulletinref20_RightBoundary.f k a0 = some r) :
  Calls Tryd.prog 112 #[.string a0] w fun e w' => e = .returned (.bool r) ∧ Drawn0 w w' := by
 have H : (bulletinref20_RightBoundary.l0 k a0 0) = some r := h
 clear h
 have H' := Aside0.mk H
 clear H
 go_enter Tryd.func112, Tryd.ntmps112
 go_wp2
 go_loopg [3] k (fun kq v3 w' => ∃ (x3_1 : Int), v3 = .int .i64 x3_1 ∧ Aside0 (bulletinref20_RightBoundary.l0 kq a0 x3_1 = some r) ∧ Aside0 (kq ≤ k) ∧ Drawn0 w w')
 case atStart => exact ⟨(0), cl, H', ⟨Nat.le_refl _⟩, by repeat (first | exact Drawn0.refl _ | apply Drawn0.step)⟩
 case round =>
  clear H'
  try clear c1
  obtain ⟨x3_1, rfl, HA, HK1, ⟨m1, rfl⟩⟩ := hrel
  cases gk with
  | zero => exact absurd HA.out (by simp [bulletinref20_RightBoundary.l0])
  | succ k1 =>
   have H := HA.out
   clear HA
   simp only [bulletinref20_RightBoundary.l0] at H
   by_cases c2 : x3_1 < (a0.size : Int)
   ·rw [if_pos c2] at H
    have c2b0 : decide (x3_1 < (a0.size : Int)) = true := decide_eq_true c2
    clear c2
    by_cases c3 : 0 ≤ x3_1
    ·rw [if_pos c3] at H
     have c3b0 : decide (0 ≤ x3_1) = true := decide_eq_true c3
     clear c3
     by_cases c5 : (bt a0 x3_1) < 33
     ·rw [if_pos c5] at H
      have c5b0 : decide ((bt a0 x3_1) < 33) = true := decide_eq_true c5
      clear c5
      obtain rfl := Option.some.inj H
      have p4 : 0 ≤ (x3_1 : Int) := od
      have q4 : x3_1 < (a0.size : Int) := od
      have hx4 := bt_at a0 x3_1
      replace p4 := eq_true p4
      replace q4 := eq_true q4
      go_wp2
      go_ret
      exact ⟨by first | rfl | (simp; done) | (simp [*]; done) | (simp [nil_ne]; done), by repeat (first | exact Drawn0.refl _ | apply Drawn0.step)⟩
     ·rw [if_neg c5] at H
      have c5b0 : decide ((bt a0 x3_1) < 33) = false := decide_eq_false c5
      clear c5
      by_cases c7 : (bt a0 x3_1) > 126
      ·rw [if_pos c7] at H
       have c7b0 : decide (126 < (bt a0 x3_1)) = true := decide_eq_true c7
       clear c7
       obtain rfl := Option.some.inj H
       have p4 : 0 ≤ (x3_1 : Int) := od
       have q4 : x3_1 < (a0.size : Int) := od
       have hx4 := bt_at a0 x3_1
       replace p4 := eq_true p4
       replace q4 := eq_true q4
       have p6 : 0 ≤ (x3_1 : Int) := od
       have q6 : x3_1 < (a0.size : Int) := od
       have hx6 := bt_at a0 x3_1
       replace p6 := eq_true p6
       replace q6 := eq_true q6
       go_wp2
       go_ret
       exact ⟨by first | rfl | (simp; done) | (simp [*]; done) | (simp [nil_ne]; done), by repeat (first | exact Drawn0.refl _ | apply Drawn0.step)⟩
      ·rw [if_neg c7] at H
       have c7b0 : decide (126 < (bt a0 x3_1)) = false := decide_eq_false c7
       clear c7
       have H' := Aside0.mk H
       clear H
       have p4 : 0 ≤ (x3_1 : Int) := od
       have q4 : x3_1 < (a0.size : Int) := od
       have hx4 := bt_at a0 x3_1
       replace p4 := eq_true p4
       replace q4 := eq_true q4
       have p6 : 0 ≤ (x3_1 : Int) := od
       have q6 : x3_1 < (a0.size : Int) := od
       have hx6 := bt_at a0 x3_1
       replace p6 := eq_true p6
       replace q6 := eq_true q6
       go_wp2
       go_roundg k1
       case measure => have := HK1.out; omega
       case rel => exact ⟨(wrap64 (x3_1 + 1)), cl, H', ⟨by have := HK1.out; omega⟩, by repeat (first | exact Drawn0.refl _ | apply Drawn0.step)⟩
    ·rw [if_neg c3] at H
     exact absurd H (by simp)
   ·rw [if_neg c2] at H
    have c2b0 : decide (x3_1 < (a0.size : Int)) = false := decide_eq_false c2
    clear c2
    by_cases c8 : (a0.size : Int) ≥ 1
    ·rw [if_pos c8] at H
     have c8b0 : decide (1 ≤ (a0.size : Int)) = true := decide_eq_true c8
     have c8b1 : decide (1 ≤ a0.size) = true := decide_eq_true (by omega)
     clear c8
     obtain rfl := Option.some.inj H
     go_wp2
     go_ret
     exact ⟨by first | rfl | (simp; done) | (simp [*]; done) | (simp [nil_ne]; done), by repeat (first | exact Drawn0.refl _ | apply Drawn0.step)⟩
    ·rw [if_neg c8] at H
     have c8b0 : decide (1 ≤ (a0.size : Int)) = false := decide_eq_false c8
     have c8b1 : decide (1 ≤ a0.size) = false := decide_eq_false (by omega)
     clear c8
     obtain rfl := Option.some.inj H
     go_wp2
     go_ret
     exact ⟨by first | rfl | (simp; done) | (simp [*]; done) | (simp [nil_ne]; done), by repeat (first | exact Drawn0.refl _ | apply Drawn0.step)⟩

end Go.Proofs.YtgaaogijfikfeaaDoor.Fn
-- written by xprint.py of this session over the kit's printer; not trusted: Lean checks it
namespace Go.Proofs.YtgaaogijfikfeaaDoor.Fn
open Go.RowKit Go.Proofs.YtgaaogijfikfeaaDoorW.PrintWords Go.Proofs.YtgaaogijfikfeaaDoorW.PrintLast Go.Proofs.YtgaaogijfikfeaaDoorW.PrintMore
attribute [local go_sem] max2_int min2_int max_two min_two max_three min_three max_four min_four   -- for this text's walks alone
set_option linter.unusedVariables false
set_option linter.unusedSimpArgs false

/-! ### bulletinref20_What: function 114 -/
mutual
def bulletinref20_What.j1 : Nat → ByteArray → ByteArray → Option (Int)
 | 0, _, _ => none
 | k + 1, x1, x5 => if 2 + x1.size ≤ 9223372036854775807 then (if x5.toList = ((⟨#[45, 45]⟩ : ByteArray) ++ x1).toList then (some 1) else (if ((⟨#[45, 45]⟩ : ByteArray) ++ x1).size + 2 ≤ 9223372036854775807 then (if x5.toList = (((⟨#[45, 45]⟩ : ByteArray) ++ x1) ++ (⟨#[45, 45]⟩ : ByteArray)).toList then (some 2) else (some 0)) else (none))) else (none)
def bulletinref20_What.l0 : Nat → ByteArray → ByteArray → Option (Int)
 | 0, _, _ => none
 | k + 1, x1, x5 => if (x5.size : Int) > 0 then (if 0 ≤ (wrap64 ((x5.size : Int) - 1)) then (if (wrap64 ((x5.size : Int) - 1)) < (x5.size : Int) then (if (bt x5 (wrap64 ((x5.size : Int) - 1))) = 32 then (if (wrap64 ((x5.size : Int) - 1)) ≤ (x5.size : Int) then (bulletinref20_What.l0 k x1 (x5.extract 0 ((wrap64 ((x5.size : Int) - 1)) : Int).toNat)) else (none)) else (if (bt x5 (wrap64 ((x5.size : Int) - 1))) = 9 then (if (wrap64 ((x5.size : Int) - 1)) ≤ (x5.size : Int) then (bulletinref20_What.l0 k x1 (x5.extract 0 ((wrap64 ((x5.size : Int) - 1)) : Int).toNat)) else (none)) else (bulletinref20_What.j1 k x1 x5))) else (none)) else (none)) else (bulletinref20_What.j1 k x1 x5)
end
def bulletinref20_What.f (k : Nat) (a0 : ByteArray) (a1 : ByteArray) : Option (Int) := bulletinref20_What.l0 k a1 a0
set_option maxHeartbeats 8000000 in
set_option maxRecDepth 100000 in
theorem bulletinref20_What.calls (k : Nat) (a0 : ByteArray) (a1 : ByteArray) (r : Int) (w : World) (h : bulletinref20_What.f k a0 a1 = some r) :
  Calls Tryd.prog 114 #[.string a0, .string a1] w fun e w' => e = .returned (.int .i64 r) ∧ Drawn0 w w' := by
 have H : (bulletinref20_What.l0 k a1 a0) = some r := h
 clear h
 have HC3 := Aside0.mk H
 clear H
 go_enter Tryd.func114, Tryd.ntmps114
 go_upto_block 0 with (fail)
 go_cut [5] (fun v5 wc => ∃ (kq : Nat) (x5_2 : ByteArray), v5 = .string x5_2 ∧ Aside0 (bulletinref20_What.j1 kq a1 x5_2 = some r) ∧ Aside0 (kq ≤ k) ∧ Drawn0 w wc)
 case first =>
  have H := HC3.out
  clear HC3
  have H' := Aside0.mk H
  clear H
  go_wp2
  go_loopg [5] k (fun kq v5 w' => ∃ (x5_1 : ByteArray), v5 = .string x5_1 ∧ Aside0 (bulletinref20_What.l0 kq a1 x5_1 = some r) ∧ Aside0 (kq ≤ k) ∧ Drawn0 w w')
  case atStart => exact ⟨(a0), cl, H', ⟨Nat.le_refl _⟩, by repeat (first | exact Drawn0.refl _ | apply Drawn0.step)⟩
  case round =>
   clear H'
   try clear c1
   try clear p2
   obtain ⟨x5_1, rfl, HA, HK1, ⟨m1, rfl⟩⟩ := hrel
   cases gk with
   | zero => exact absurd HA.out (by simp [bulletinref20_What.l0])
   | succ k1 =>
    have H := HA.out
    clear HA
    simp only [bulletinref20_What.l0] at H
    by_cases c4 : (x5_1.size : Int) > 0
    ·rw [if_pos c4] at H
     have c4b0 : decide (0 < (x5_1.size : Int)) = true := decide_eq_true c4
     have c4b1 : decide (0 < x5_1.size) = true := decide_eq_true (by omega)
     clear c4
     (first | rw [c4b0] | (simp only [i64_w, i32_w]; rw [c4b0]) | skip)
     obtain ⟨ji5, hji5⟩ : ∃ j_ : Int, (wrap64 ((x5_1.size : Int) - 1)) = j_ := ⟨_, rfl⟩
     replace H : (if 0 ≤ (ji5) then (if (ji5) < (x5_1.size : Int) then (if (bt x5_1 (ji5)) = 32 then (if (ji5) ≤ (x5_1.size : Int) then (bulletinref20_What.l0 k1 a1 (x5_1.extract 0 ((ji5) : Int).toNat)) else (none)) else (if (bt x5_1 (ji5)) = 9 then (if (ji5) ≤ (x5_1.size : Int) then (bulletinref20_What.l0 k1 a1 (x5_1.extract 0 ((ji5) : Int).toNat)) else (none)) else (bulletinref20_What.j1 k1 a1 x5_1))) else (none)) else (none)) = some r := by first | (rw [hji5] at H; exact H) | (simp only [hji5] at H ⊢; exact H)
     have hji5w : (IntKind.i64.wrap ((x5_1.size : Int) - 1)) = ji5 := (i64_w _).trans hji5
     by_cases c6 : 0 ≤ (ji5)
     ·rw [if_pos c6] at H
      have c6b0 : decide (0 ≤ (ji5)) = true := decide_eq_true c6
      clear c6
      by_cases c7 : (ji5) < (x5_1.size : Int)
      ·rw [if_pos c7] at H
       have c7b0 : decide ((ji5) < (x5_1.size : Int)) = true := decide_eq_true c7
       clear c7
       by_cases c9 : (bt x5_1 (ji5)) = 32
       ·rw [if_pos c9] at H
        have c9b0 : ((bt x5_1 (ji5)) == 32) = true := beq_iff_eq.mpr c9
        have c9b1 : ((bt x5_1 (ji5)) != 32) = false := bne_eq_false_iff_eq.mpr c9
        clear c9
        have c10b0 := eq_true (od : 0 ≤ (ji5))
        by_cases c11 : (ji5) ≤ (x5_1.size : Int)
        ·rw [if_pos c11] at H
         have c11b0 := eq_true c11
         have c11b1 : decide ((ji5) ≤ (x5_1.size : Int)) = true := decide_eq_true c11
         clear c11
         have H' := Aside0.mk H
         clear H
         have p8 : 0 ≤ ((ji5) : Int) := od
         have q8 : (ji5) < (x5_1.size : Int) := od
         have hx8 := bt_at x5_1 (ji5)
         replace p8 := eq_true p8
         replace q8 := eq_true q8
         go_wp2
         go_roundg k1
         case measure => have := HK1.out; omega
         case rel => exact ⟨(x5_1.extract 0 ((ji5) : Int).toNat), (by first | rfl | (simp; done) | (simp only [← hji5] <;> (first | rfl | simp)) | (simp [*]; done) | (simp [nil_ne]; done)), H', ⟨by have := HK1.out; omega⟩, by repeat (first | exact Drawn0.refl _ | apply Drawn0.step)⟩
        ·rw [if_neg c11] at H
         exact absurd H (by simp)
       ·rw [if_neg c9] at H
        have c9b0 : ((bt x5_1 (ji5)) == 32) = false := beq_eq_false_iff_ne.mpr c9
        have c9b1 : ((bt x5_1 (ji5)) != 32) = true := bne_iff_ne.mpr c9
        by_cases c13 : (bt x5_1 (ji5)) = 9
        ·rw [if_pos c13] at H
         have c13b0 : ((bt x5_1 (ji5)) == 9) = true := beq_iff_eq.mpr c13
         have c13b1 : ((bt x5_1 (ji5)) != 9) = false := bne_eq_false_iff_eq.mpr c13
         clear c13
         have c14b0 := eq_true (od : 0 ≤ (ji5))
         by_cases c15 : (ji5) ≤ (x5_1.size : Int)
         ·rw [if_pos c15] at H
          have c15b0 := eq_true c15
          have c15b1 : decide ((ji5) ≤ (x5_1.size : Int)) = true := decide_eq_true c15
          clear c15
          have H' := Aside0.mk H
          clear H
          have p8 : 0 ≤ ((ji5) : Int) := od
          have q8 : (ji5) < (x5_1.size : Int) := od
          have hx8 := bt_at x5_1 (ji5)
          replace p8 := eq_true p8
          replace q8 := eq_true q8
          have p12 : 0 ≤ ((ji5) : Int) := od
          have q12 : (ji5) < (x5_1.size : Int) := od
          have hx12 := bt_at x5_1 (ji5)
          replace p12 := eq_true p12
          replace q12 := eq_true q12
          go_wp2
          go_roundg k1
          case measure => have := HK1.out; omega
          case rel => exact ⟨(x5_1.extract 0 ((ji5) : Int).toNat), (by first | rfl | (simp; done) | (simp only [← hji5] <;> (first | rfl | simp)) | (simp [*]; done) | (simp [nil_ne]; done)), H', ⟨by have := HK1.out; omega⟩, by repeat (first | exact Drawn0.refl _ | apply Drawn0.step)⟩
         ·rw [if_neg c15] at H
          exact absurd H (by simp)
        ·rw [if_neg c13] at H
         have c13b0 : ((bt x5_1 (ji5)) == 9) = false := beq_eq_false_iff_ne.mpr c13
         have c13b1 : ((bt x5_1 (ji5)) != 9) = true := bne_iff_ne.mpr c13
         have H' := Aside0.mk H
         clear H
         have p8 : 0 ≤ ((ji5) : Int) := od
         have q8 : (ji5) < (x5_1.size : Int) := od
         have hx8 := bt_at x5_1 (ji5)
         replace p8 := eq_true p8
         replace q8 := eq_true q8
         have p12 : 0 ≤ ((ji5) : Int) := od
         have q12 : (ji5) < (x5_1.size : Int) := od
         have hx12 := bt_at x5_1 (ji5)
         replace p12 := eq_true p12
         replace q12 := eq_true q12
         go_wp2
         go_meet
         case rel => exact ⟨_, (x5_1), cl, H', ⟨by have := HK1.out; first | omega | exact Nat.le_refl _⟩, by repeat (first | exact Drawn0.refl _ | apply Drawn0.step)⟩
      ·rw [if_neg c7] at H
       exact absurd H (by simp)
     ·rw [if_neg c6] at H
      exact absurd H (by simp)
    ·rw [if_neg c4] at H
     have c4b0 : decide (0 < (x5_1.size : Int)) = false := decide_eq_false c4
     have c4b1 : decide (0 < x5_1.size) = false := decide_eq_false (by omega)
     clear c4
     (first | rw [c4b0] | (simp only [i64_w, i32_w]; rw [c4b0]) | skip)
     have H' := Aside0.mk H
     clear H
     go_wp2
     go_meet
     case rel => exact ⟨_, (x5_1), cl, H', ⟨by have := HK1.out; first | omega | exact Nat.le_refl _⟩, by repeat (first | exact Drawn0.refl _ | apply Drawn0.step)⟩
 case rest =>
  clear HC3
  try clear c1
  try clear p1
  try clear q1
  try clear hx1
  try clear p2
  try clear c4
  try clear c4b0
  try clear c4b1
  try clear c6
  try clear c6b0
  try clear p6
  try clear c7
  try clear c7b0
  try clear p8
  try clear q8
  try clear hx8
  try clear c9
  try clear c9b0
  try clear c9b1
  try clear c10
  try clear c10b0
  try clear c11
  try clear c11b0
  try clear c11b1
  try clear p12
  try clear q12
  try clear hx12
  try clear c13
  try clear c13b0
  try clear c13b1
  try clear c14
  try clear c14b0
  try clear c15
  try clear c15b0
  try clear c15b1
  try clear p12
  try clear p2
  try clear p8
  try clear q12
  try clear q8
  obtain ⟨kq, x5_2, rfl, HA, HJ2, ⟨mc2, rfl⟩⟩ := hcut
  cases kq with
  | zero => exact absurd HA.out (by simp [bulletinref20_What.j1])
  | succ kj2 =>
   have H := HA.out
   clear HA
   simp only [bulletinref20_What.j1] at H
   by_cases c16 : 2 + a1.size ≤ 9223372036854775807
   ·rw [if_pos c16] at H
    have c16b0 := eq_true c16
    have c16b1 : decide (2 + a1.size ≤ 9223372036854775807) = true := decide_eq_true c16
    try have c16b2 : (9223372036854775807 < 2 + a1.size) = False := eq_false (Nat.not_lt.2 c16)
    by_cases c17 : x5_2.toList = ((⟨#[45, 45]⟩ : ByteArray) ++ a1).toList
    ·rw [if_pos c17] at H
     have c17b0 : (x5_2.toList == ((⟨#[45, 45]⟩ : ByteArray) ++ a1).toList) = true := beq_iff_eq.mpr c17
     have c17b1 : (x5_2.toList != ((⟨#[45, 45]⟩ : ByteArray) ++ a1).toList) = false := bne_eq_false_iff_eq.mpr c17
     clear c17
     obtain rfl := Option.some.inj H
     go_wp2
     go_ret
     exact ⟨by first | rfl | (simp; done) | (simp [*]; done) | (simp [nil_ne]; done), by repeat (first | exact Drawn0.refl _ | apply Drawn0.step)⟩
    ·rw [if_neg c17] at H
     have c17b0 : (x5_2.toList == ((⟨#[45, 45]⟩ : ByteArray) ++ a1).toList) = false := beq_eq_false_iff_ne.mpr c17
     have c17b1 : (x5_2.toList != ((⟨#[45, 45]⟩ : ByteArray) ++ a1).toList) = true := bne_iff_ne.mpr c17
     by_cases c18 : ((⟨#[45, 45]⟩ : ByteArray) ++ a1).size + 2 ≤ 9223372036854775807
     ·rw [if_pos c18] at H
      have c18b0 := eq_true c18
      have c18b1 : decide (((⟨#[45, 45]⟩ : ByteArray) ++ a1).size + 2 ≤ 9223372036854775807) = true := decide_eq_true c18
      try have c18b2 : (9223372036854775807 < ((⟨#[45, 45]⟩ : ByteArray) ++ a1).size + 2) = False := eq_false (Nat.not_lt.2 c18)
      try (have c18b3 := c18; simp only [ByteArray.size_append, size_lit, ByteArray.size_extract, List.size_toArray, List.length_cons, List.length_nil, Nat.zero_add, Nat.reduceAdd] at c18b3; have c18b4 := eq_false (Nat.not_lt.2 c18b3))
      by_cases c19 : x5_2.toList = (((⟨#[45, 45]⟩ : ByteArray) ++ a1) ++ (⟨#[45, 45]⟩ : ByteArray)).toList
      ·rw [if_pos c19] at H
       have c19b0 : (x5_2.toList == (((⟨#[45, 45]⟩ : ByteArray) ++ a1) ++ (⟨#[45, 45]⟩ : ByteArray)).toList) = true := beq_iff_eq.mpr c19
       have c19b1 : (x5_2.toList != (((⟨#[45, 45]⟩ : ByteArray) ++ a1) ++ (⟨#[45, 45]⟩ : ByteArray)).toList) = false := bne_eq_false_iff_eq.mpr c19
       clear c19
       obtain rfl := Option.some.inj H
       go_wp2
       go_ret
       exact ⟨by first | rfl | (simp; done) | (simp [*]; done) | (simp [nil_ne]; done), by repeat (first | exact Drawn0.refl _ | apply Drawn0.step)⟩
      ·rw [if_neg c19] at H
       have c19b0 : (x5_2.toList == (((⟨#[45, 45]⟩ : ByteArray) ++ a1) ++ (⟨#[45, 45]⟩ : ByteArray)).toList) = false := beq_eq_false_iff_ne.mpr c19
       have c19b1 : (x5_2.toList != (((⟨#[45, 45]⟩ : ByteArray) ++ a1) ++ (⟨#[45, 45]⟩ : ByteArray)).toList) = true := bne_iff_ne.mpr c19
       obtain rfl := Option.some.inj H
       go_wp2
       go_ret
       exact ⟨by first | rfl | (simp; done) | (simp [*]; done) | (simp [nil_ne]; done), by repeat (first | exact Drawn0.refl _ | apply Drawn0.step)⟩
     ·rw [if_neg c18] at H
      exact absurd H (by simp)
   ·rw [if_neg c16] at H
    exact absurd H (by simp)

end Go.Proofs.YtgaaogijfikfeaaDoor.Fn
-- written by xprint.py of this session over the kit's printer; not trusted: Lean checks it
namespace Go.Proofs.YtgaaogijfikfeaaDoor.Fn
open Go.RowKit Go.Proofs.YtgaaogijfikfeaaDoorW.PrintWords Go.Proofs.YtgaaogijfikfeaaDoorW.PrintLast Go.Proofs.YtgaaogijfikfeaaDoorW.PrintMore
attribute [local go_sem] max2_int min2_int max_two min_two max_three min_three max_four min_four   -- for this text's walks alone
set_option linter.unusedVariables false
set_option linter.unusedSimpArgs false

/-! ### bulletinref20_Split: function 63 -/
mutual
def bulletinref20_Split.l0 : Nat → ByteArray → List ByteArray → List ByteArray → Int → Int → Option (List ByteArray × Int)
 | 0, _, _, _, _, _ => none
 | k + 1, x1, x6, x7, x8, x9 => if x9 < (x6.length : Int) then (if 0 ≤ x9 then ((bulletinref20_What.f k (rdOf ByteArray.empty x6 x9) x1).bind fun t825 => (if t825 = 0 then (bulletinref20_Split.l0 k x1 x6 x7 x8 (wrap64 (x9 + 1))) else (if x8 ≥ 0 then (bulletinref20_Split.l1 k x1 x6 x7 x8 x9 t825 (⟨#[]⟩ : ByteArray) x8) else (bulletinref20_Split.j2 k x1 x6 x7 x8 x9 t825)))) else (none)) else (if x8 < 0 then (some (([] : List ByteArray), 6)) else (some (([] : List ByteArray), 9)))
def bulletinref20_Split.j2 : Nat → ByteArray → List ByteArray → List ByteArray → Int → Int → Int → Option (List ByteArray × Int)
 | 0, _, _, _, _, _, _ => none
 | k + 1, x1, x6, x7, x8, x9, x10 => if x10 = 2 then (bulletinref20_Split.j3 k x1 x6 x7 x9 x10 (decide (x8 < 0))) else (bulletinref20_Split.j3 k x1 x6 x7 x9 x10 false)
def bulletinref20_Split.j3 : Nat → ByteArray → List ByteArray → List ByteArray → Int → Int → Bool → Option (List ByteArray × Int)
 | 0, _, _, _, _, _, _ => none
 | k + 1, x1, x6, x7, x9, x10, x60 => if x60 = true then (some (([] : List ByteArray), 6)) else (if x10 = 2 then (some (x7, 0)) else (if (x7.length : Int) = 20 then (some (([] : List ByteArray), 8)) else (bulletinref20_Split.l0 k x1 x6 x7 (wrap64 (x9 + 1)) (wrap64 (x9 + 1)))))
def bulletinref20_Split.l1 : Nat → ByteArray → List ByteArray → List ByteArray → Int → Int → Int → ByteArray → Int → Option (List ByteArray × Int)
 | 0, _, _, _, _, _, _, _, _ => none
 | k + 1, x1, x6, x7, x8, x9, x10, x11, x12 => if x12 < x9 then (if x12 > x8 then (if x11.size + 2 ≤ 9223372036854775807 then (if 0 ≤ x12 then (if x12 < (x6.length : Int) then (if (x11 ++ (⟨#[13, 10]⟩ : ByteArray)).size + (rdOf ByteArray.empty x6 x12).size ≤ 9223372036854775807 then (bulletinref20_Split.l1 k x1 x6 x7 x8 x9 x10 ((x11 ++ (⟨#[13, 10]⟩ : ByteArray)) ++ (rdOf ByteArray.empty x6 x12)) (wrap64 (x12 + 1))) else (none)) else (none)) else (none)) else (none)) else (if 0 ≤ x12 then (if x12 < (x6.length : Int) then (if x11.size + (rdOf ByteArray.empty x6 x12).size ≤ 9223372036854775807 then (bulletinref20_Split.l1 k x1 x6 x7 x8 x9 x10 (x11 ++ (rdOf ByteArray.empty x6 x12)) (wrap64 (x12 + 1))) else (none)) else (none)) else (none))) else (if x7.length < 8796093022208 then (bulletinref20_Split.j2 k x1 x6 (x7 ++ [x11]) x8 x9 x10) else (none))
end
def bulletinref20_Split.f (k : Nat) (a0 : ByteArray) (a1 : ByteArray) : Option (List ByteArray × Int) := (bulletinref20_RightBoundary.f k a1).bind fun t820 => (if t820 = true then ((bulletinref17_Lines.f k a0).bind fun t821 => (bulletinref20_Split.l0 k a1 t821 ([] : List ByteArray) (-1) 0)) else (some (([] : List ByteArray), 200)))
set_option maxHeartbeats 8000000 in
set_option maxRecDepth 100000 in
theorem bulletinref20_Split.calls (k : Nat) (a0 : ByteArray) (a1 : ByteArray) (r1 : List ByteArray) (r2 : Int) (w : World) (h : bulletinref20_Split.f k a0 a1 = some (r1, r2)) :
  Calls Tryd.prog 63 #[.string a0, .string a1] w fun e w' => ∃ v0_ : Value, e = .returned (.tuple #[v0_, .int .i64 r2]) ∧ Kd.R Kd.string 9 w' w.heap.size (fun _ => True) v0_ r1 ∧ Below w.heap.size w w' := by
 have HB := Aside0.mk (Below.refl w.heap.size w)
 have H : ((bulletinref20_RightBoundary.f k a1).bind fun t820 => (if t820 = true then ((bulletinref17_Lines.f k a0).bind fun t821 => (bulletinref20_Split.l0 k a1 t821 ([] : List ByteArray) (-1) 0)) else (some (([] : List ByteArray), 200)))) = some (r1, r2) := h
 clear h
 replace H := Option.bind_eq_some_iff.mp H
 obtain ⟨t820, A30, H⟩ := H
 replace H : (if t820 = true then ((bulletinref17_Lines.f k a0).bind fun t821 => (bulletinref20_Split.l0 k a1 t821 ([] : List ByteArray) (-1) 0)) else (some (([] : List ByteArray), 200))) = some (r1, r2) := H
 have A3 := Aside0.mk A30
 clear A30
 by_cases c4 : t820 = true
 ·subst c4
  have H1 : ((bulletinref17_Lines.f k a0).bind fun t821 => (bulletinref20_Split.l0 k a1 t821 ([] : List ByteArray) (-1) 0)) = some (r1, r2) := by rw [if_pos rfl] at H; exact H
  clear H
  have H := H1
  clear H1
  replace H := Option.bind_eq_some_iff.mp H
  obtain ⟨t821, A50, H⟩ := H
  replace H : (bulletinref20_Split.l0 k a1 t821 ([] : List ByteArray) (-1) 0) = some (r1, r2) := H
  have A5 := Aside0.mk A50
  clear A50
  have H' := Aside0.mk H
  clear H
  go_enter Tryd.func63, Tryd.ntmps63
  go_wp2_with (first | ((with_reducible refine gate_callee (f := 112) rfl ?_); refine goesL_ (some 14) rfl rfl Tryd.func112 (by kernel_rfl) rfl #[.string a1] rfl am ?_; (with_reducible refine (bulletinref20_RightBoundary.calls k a1 true _ A3.out).mono ?_); rintro e w' ⟨rfl, ⟨nd, rfl⟩⟩; refine ⟨_, rfl, ?_⟩) | ((with_reducible refine gate_callee (f := 113) rfl ?_); refine goesL_ (some 17) rfl rfl Tryd.func113 (by kernel_rfl) rfl #[.string a0] rfl am ?_; (with_reducible refine (bulletinref17_Lines.calls k a0 t821 _ A5.out).mono ?_); rintro e w6 ⟨v822, rfl, ho0, hb⟩; refine ⟨_, rfl, ?_⟩; have n0_ := Aside0.mk (Kd.R_lower ho0 (below_size bw)); have n1_ := Aside0.mk (below_step bw hb); clear HB; have HO823 := n0_; have HB := n1_; clear n0_ n1_; (try clear hb); (try clear hb2); (try clear hk); (try clear hi); (try clear ho0)))
  go_loopg [7, 8, 9] k (fun kq v7 v8 v9 w' => ∃ (x7_1 : List ByteArray) (x8_1 : Int) (x9_1 : Int), v8 = .int .i64 x8_1 ∧ v9 = .int .i64 x9_1 ∧ Aside0 (bulletinref20_Split.l0 kq a1 t821 x7_1 x8_1 x9_1 = some (r1, r2)) ∧ Aside0 (kq ≤ k) ∧ Aside0 (Kd.R Kd.string 9 w' w.heap.size (fun k_ => some k_ ≠ (v7 : Value).ownBlock) v822 t821) ∧ Aside0 (Kd.R Kd.string 9 w' w.heap.size (fun k_ => some k_ ≠ (v822 : Value).ownBlock) v7 x7_1) ∧ Aside0 (Below w.heap.size w w'))
  case atStart => exact ⟨(([] : List ByteArray)), ((-1)), (0), cl, cl, H', ⟨Nat.le_refl _⟩, ⟨by (with_reducible repeat (first | apply Kd.R_alloc | apply Kd.R_drewN | apply Kd.R_drew)); exact Kd.R_mono HO823.out (fun _ hk => (by simp [Value.ownBlock]))⟩, ⟨by first | exact Kd.R_nil _ _ _ _ _ | exact Kd.N_nil _ _ _ _ _ | exact Kd.V_nil _ _ _ _ _ | exact Kd.Q_nil _ _ _ _ _ | exact Kd.S_nil _ _ _ _ _⟩, ⟨by repeat (first | (with_reducible first | exact HB.out | apply below_alloc | apply pw_below_drewN | apply below_drew1) | exact HB.out)⟩⟩
  case round =>
   clear H'
   try clear c1
   try clear p2
   try clear c4
   try clear c6
   obtain ⟨x7_1, x8_1, x9_1, rfl, rfl, HA, HK1, HO_6, HO_7, HB⟩ := hrel
   cases gk with
   | zero => exact absurd HA.out (by simp [bulletinref20_Split.l0])
   | succ k1 =>
    have H := HA.out
    clear HA
    simp only [bulletinref20_Split.l0] at H
    by_cases c7 : x9_1 < (t821.length : Int)
    ·rw [if_pos c7] at H
     have c7b0 : decide (x9_1 < (t821.length : Int)) = true := decide_eq_true c7
     clear c7
     by_cases c8 : 0 ≤ x9_1
     ·rw [if_pos c8] at H
      have c8b0 : decide (0 ≤ x9_1) = true := decide_eq_true c8
      clear c8
      replace H := Option.bind_eq_some_iff.mp H
      obtain ⟨t825, A90, H⟩ := H
      replace H : (if t825 = 0 then (bulletinref20_Split.l0 k1 a1 t821 x7_1 x8_1 (wrap64 (x9_1 + 1))) else (if x8_1 ≥ 0 then (bulletinref20_Split.l1 k1 a1 t821 x7_1 x8_1 x9_1 t825 (⟨#[]⟩ : ByteArray) x8_1) else (bulletinref20_Split.j2 k1 a1 t821 x7_1 x8_1 x9_1 t825))) = some (r1, r2) := H
      have A9 := Aside0.mk A90
      clear A90
      by_cases c10 : t825 = 0
      ·rw [if_pos c10] at H
       have c10b0 : (t825 == 0) = true := beq_iff_eq.mpr c10
       have c10b1 : (t825 != 0) = false := bne_eq_false_iff_eq.mpr c10
       clear c10
       have H' := Aside0.mk H
       clear H
       obtain ⟨Ao11, co11, eo11⟩ := Kd.R_slice HO_6.out
       subst eo11
       have p824 : 0 ≤ (x9_1 : Int) := od
       have q824 : x9_1 < (t821.length : Int) := od
       obtain ⟨ad824, e824, hx824_0⟩ := Kd.at_string (Kd.R_reads' HO_6.out).2.2 x9_1 p824 q824
       cases e824
       replace p824 := eq_true p824
       replace q824 := eq_true q824
       go_wp2_with (first | ((with_reducible refine gate_callee (f := 114) rfl ?_); refine goesL_ (some 29) rfl rfl Tryd.func114 (by kernel_rfl) rfl #[.string (rdOf ByteArray.empty t821 x9_1), .string a1] rfl am ?_; (with_reducible refine (bulletinref20_What.calls k1 (rdOf ByteArray.empty t821 x9_1) a1 t825 _ A9.out).mono ?_); rintro e w' ⟨rfl, ⟨nd, rfl⟩⟩; refine ⟨_, rfl, ?_⟩))
       go_roundg k1
       case measure => have := HK1.out; omega
       case rel => exact ⟨(x7_1), (x8_1), (wrap64 (x9_1 + 1)), cl, cl, H', ⟨by have := HK1.out; omega⟩, ⟨by (with_reducible repeat (first | apply Kd.R_alloc | apply Kd.R_drewN | apply Kd.R_drew)); exact HO_6.out⟩, ⟨by (with_reducible repeat (first | apply Kd.R_alloc | apply Kd.R_drewN | apply Kd.R_drew)); exact HO_7.out⟩, ⟨by repeat (first | (with_reducible first | exact HB.out | apply below_alloc | apply pw_below_drewN | apply below_drew1) | exact HB.out)⟩⟩
      ·rw [if_neg c10] at H
       have c10b0 : (t825 == 0) = false := beq_eq_false_iff_ne.mpr c10
       have c10b1 : (t825 != 0) = true := bne_iff_ne.mpr c10
       have HC12 := Aside0.mk H
       clear H
       obtain ⟨Ao13, co13, eo13⟩ := Kd.R_slice HO_6.out
       subst eo13
       have p824 : 0 ≤ (x9_1 : Int) := od
       have q824 : x9_1 < (t821.length : Int) := od
       obtain ⟨ad824, e824, hx824_0⟩ := Kd.at_string (Kd.R_reads' HO_6.out).2.2 x9_1 p824 q824
       cases e824
       replace p824 := eq_true p824
       replace q824 := eq_true q824
       go_upto_if 33 with (first | ((with_reducible refine gate_callee (f := 114) rfl ?_); refine goesL_ (some 29) rfl rfl Tryd.func114 (by kernel_rfl) rfl #[.string (rdOf ByteArray.empty t821 x9_1), .string a1] rfl am ?_; (with_reducible refine (bulletinref20_What.calls k1 (rdOf ByteArray.empty t821 x9_1) a1 t825 _ A9.out).mono ?_); rintro e w' ⟨rfl, ⟨nd, rfl⟩⟩; refine ⟨_, rfl, ?_⟩))
       (try simp only [Act.put, List.setIfInBounds_toArray, List.set_cons_zero, List.set_cons_succ])
       go_cut [7] (fun v7 wc => ∃ (kq : Nat) (x7_11 : List ByteArray), Aside0 (bulletinref20_Split.j2 kq a1 t821 x7_11 x8_1 x9_1 t825 = some (r1, r2)) ∧ Aside0 (kq ≤ k1) ∧ Aside0 (Kd.R Kd.string 9 wc w.heap.size (fun k_ => some k_ ≠ (v7 : Value).ownBlock) (.slice (some ad824) t821.length co13) t821) ∧ Aside0 (Kd.R Kd.string 9 wc w.heap.size (fun k_ => some k_ ≠ ((.slice (some ad824) t821.length co13) : Value).ownBlock) v7 x7_11) ∧ Aside0 (Below w.heap.size w wc))
       case first =>
        have H := HC12.out
        clear HC12
        by_cases c14 : x8_1 ≥ 0
        ·rw [if_pos c14] at H
         have c14b0 : decide (0 ≤ x8_1) = true := decide_eq_true c14
         clear c14
         (first | rw [c14b0] | (simp only [i64_w, i32_w]; rw [c14b0]) | skip)
         have H' := Aside0.mk H
         clear H
         go_wp2
         go_loopg [11, 12] k1 (fun kq v11 v12 w' => ∃ (x11_2 : ByteArray) (x12_2 : Int), v11 = .string x11_2 ∧ v12 = .int .i64 x12_2 ∧ Aside0 (bulletinref20_Split.l1 kq a1 t821 x7_1 x8_1 x9_1 t825 x11_2 x12_2 = some (r1, r2)) ∧ Aside0 (kq ≤ k1) ∧ Aside0 (Kd.R Kd.string 9 w' w.heap.size (fun k_ => some k_ ≠ (u7 : Value).ownBlock) (.slice (some ad824) t821.length co13) t821) ∧ Aside0 (Kd.R Kd.string 9 w' w.heap.size (fun k_ => some k_ ≠ ((.slice (some ad824) t821.length co13) : Value).ownBlock) u7 x7_1) ∧ Aside0 (Below w.heap.size w w'))
         case atStart => exact ⟨((⟨#[]⟩ : ByteArray)), (x8_1), cl, cl, H', ⟨Nat.le_refl _⟩, ⟨by (with_reducible repeat (first | apply Kd.R_alloc | apply Kd.R_drewN | apply Kd.R_drew)); exact HO_6.out⟩, ⟨by (with_reducible repeat (first | apply Kd.R_alloc | apply Kd.R_drewN | apply Kd.R_drew)); exact HO_7.out⟩, ⟨by repeat (first | (with_reducible first | exact HB.out | apply below_alloc | apply pw_below_drewN | apply below_drew1) | exact HB.out)⟩⟩
         case round =>
          clear H'
          try clear c1
          try clear p2
          try clear c4
          try clear c6
          try clear p6
          try clear c7
          try clear c7b0
          try clear c8
          try clear c8b0
          try clear p8
          try clear q8
          try clear hx8
          try clear c10
          try clear c10b0
          try clear c10b1
          try clear c11
          try clear c14
          try clear c14b0
          try clear hx824_0
          try clear p2
          try clear p824
          try clear q824
          obtain ⟨x11_2, x12_2, rfl, rfl, HA, HK2, HO_6, HO_7, HB⟩ := hrel
          cases gk with
          | zero => exact absurd HA.out (by simp [bulletinref20_Split.l1])
          | succ k2 =>
           have H := HA.out
           clear HA
           simp only [bulletinref20_Split.l1] at H
           by_cases c15 : x12_2 < x9_1
           ·rw [if_pos c15] at H
            have c15b0 : decide (x12_2 < x9_1) = true := decide_eq_true c15
            clear c15
            by_cases c16 : x12_2 > x8_1
            ·rw [if_pos c16] at H
             have c16b0 : decide (x8_1 < x12_2) = true := decide_eq_true c16
             clear c16
             by_cases c17 : x11_2.size + 2 ≤ 9223372036854775807
             ·rw [if_pos c17] at H
              have c17b0 := eq_true c17
              have c17b1 : decide (x11_2.size + 2 ≤ 9223372036854775807) = true := decide_eq_true c17
              try have c17b2 : (9223372036854775807 < x11_2.size + 2) = False := eq_false (Nat.not_lt.2 c17)
              by_cases c18 : 0 ≤ x12_2
              ·rw [if_pos c18] at H
               have c18b0 : decide (0 ≤ x12_2) = true := decide_eq_true c18
               clear c18
               by_cases c19 : x12_2 < (t821.length : Int)
               ·rw [if_pos c19] at H
                have c19b0 : decide (x12_2 < (t821.length : Int)) = true := decide_eq_true c19
                clear c19
                by_cases c20 : (x11_2 ++ (⟨#[13, 10]⟩ : ByteArray)).size + (rdOf ByteArray.empty t821 x12_2).size ≤ 9223372036854775807
                ·rw [if_pos c20] at H
                 have c20b0 := eq_true c20
                 have c20b1 : decide ((x11_2 ++ (⟨#[13, 10]⟩ : ByteArray)).size + (rdOf ByteArray.empty t821 x12_2).size ≤ 9223372036854775807) = true := decide_eq_true c20
                 try have c20b2 : (9223372036854775807 < (x11_2 ++ (⟨#[13, 10]⟩ : ByteArray)).size + (rdOf ByteArray.empty t821 x12_2).size) = False := eq_false (Nat.not_lt.2 c20)
                 try (have c20b3 := c20; simp only [ByteArray.size_append, size_lit, ByteArray.size_extract, List.size_toArray, List.length_cons, List.length_nil, Nat.zero_add, Nat.reduceAdd] at c20b3; have c20b4 := eq_false (Nat.not_lt.2 c20b3))
                 have H' := Aside0.mk H
                 clear H
                 have p826 : 0 ≤ (x12_2 : Int) := od
                 have q826 : x12_2 < (t821.length : Int) := od
                 obtain ⟨ad826, e826, hx826_0⟩ := Kd.at_string (Kd.R_reads' HO_6.out).2.2 x12_2 p826 q826
                 obtain rfl : ad824 = ad826 := (by injection e826)
                 replace p826 := eq_true p826
                 replace q826 := eq_true q826
                 go_wp2
                 go_roundg k2
                 case measure => have := HK1.out; have := HK2.out; omega
                 case rel => exact ⟨((x11_2 ++ (⟨#[13, 10]⟩ : ByteArray)) ++ (rdOf ByteArray.empty t821 x12_2)), (wrap64 (x12_2 + 1)), cl, cl, H', ⟨by have := HK1.out; have := HK2.out; omega⟩, ⟨by (with_reducible repeat (first | apply Kd.R_alloc | apply Kd.R_drewN | apply Kd.R_drew)); exact HO_6.out⟩, ⟨by (with_reducible repeat (first | apply Kd.R_alloc | apply Kd.R_drewN | apply Kd.R_drew)); exact HO_7.out⟩, ⟨by repeat (first | (with_reducible first | exact HB.out | apply below_alloc | apply pw_below_drewN | apply below_drew1) | exact HB.out)⟩⟩
                ·rw [if_neg c20] at H
                 exact absurd H (by simp)
               ·rw [if_neg c19] at H
                exact absurd H (by simp)
              ·rw [if_neg c18] at H
               exact absurd H (by simp)
             ·rw [if_neg c17] at H
              exact absurd H (by simp)
            ·rw [if_neg c16] at H
             have c16b0 : decide (x8_1 < x12_2) = false := decide_eq_false c16
             clear c16
             by_cases c21 : 0 ≤ x12_2
             ·rw [if_pos c21] at H
              have c21b0 : decide (0 ≤ x12_2) = true := decide_eq_true c21
              clear c21
              by_cases c22 : x12_2 < (t821.length : Int)
              ·rw [if_pos c22] at H
               have c22b0 : decide (x12_2 < (t821.length : Int)) = true := decide_eq_true c22
               clear c22
               by_cases c23 : x11_2.size + (rdOf ByteArray.empty t821 x12_2).size ≤ 9223372036854775807
               ·rw [if_pos c23] at H
                have c23b0 := eq_true c23
                have c23b1 : decide (x11_2.size + (rdOf ByteArray.empty t821 x12_2).size ≤ 9223372036854775807) = true := decide_eq_true c23
                try have c23b2 : (9223372036854775807 < x11_2.size + (rdOf ByteArray.empty t821 x12_2).size) = False := eq_false (Nat.not_lt.2 c23)
                have H' := Aside0.mk H
                clear H
                have p827 : 0 ≤ (x12_2 : Int) := od
                have q827 : x12_2 < (t821.length : Int) := od
                obtain ⟨ad827, e827, hx827_0⟩ := Kd.at_string (Kd.R_reads' HO_6.out).2.2 x12_2 p827 q827
                obtain rfl : ad824 = ad827 := (by injection e827)
                replace p827 := eq_true p827
                replace q827 := eq_true q827
                go_wp2
                go_roundg k2
                case measure => have := HK1.out; have := HK2.out; omega
                case rel => exact ⟨(x11_2 ++ (rdOf ByteArray.empty t821 x12_2)), (wrap64 (x12_2 + 1)), cl, cl, H', ⟨by have := HK1.out; have := HK2.out; omega⟩, ⟨by (with_reducible repeat (first | apply Kd.R_alloc | apply Kd.R_drewN | apply Kd.R_drew)); exact HO_6.out⟩, ⟨by (with_reducible repeat (first | apply Kd.R_alloc | apply Kd.R_drewN | apply Kd.R_drew)); exact HO_7.out⟩, ⟨by repeat (first | (with_reducible first | exact HB.out | apply below_alloc | apply pw_below_drewN | apply below_drew1) | exact HB.out)⟩⟩
               ·rw [if_neg c23] at H
                exact absurd H (by simp)
              ·rw [if_neg c22] at H
               exact absurd H (by simp)
             ·rw [if_neg c21] at H
              exact absurd H (by simp)
           ·rw [if_neg c15] at H
            have c15b0 : decide (x12_2 < x9_1) = false := decide_eq_false c15
            clear c15
            by_cases c24 : x7_1.length < 8796093022208
            ·rw [if_pos c24] at H
             have LMc24 := Aside0.mk c24
             clear c24
             obtain ⟨y828, hy828⟩ : ∃ y_ : List ByteArray, y_ = (x7_1 ++ [x11_2]) := ⟨_, rfl⟩
             replace H : (bulletinref20_Split.j2 k2 a1 t821 y828 x8_1 x9_1 t825) = some (r1, r2) := by first | (rw [hy828]; with_reducible exact H) | (have H2_ := (Option.bind_some _ _).symm.trans H; rw [hy828]; with_reducible exact H2_) | (have H2_ := (Option.bind_some _ _).symm.trans H; with_reducible exact H2_) | with_reducible exact H | (rw [hy828]; exact H) | exact H
             have Ny828 := Aside0.mk hy828
             clear hy828
             have H' := Aside0.mk H
             clear H
             go_wp2_with (first | ((with_reducible refine gate_builtin (b := .append) (xs := #[.tmp 51, .tmp 53]) rfl ?_); at_builtin; refine Kd.R_append Kd.string (w0 := w) w.heap.size rfl (.tmp 51) (.tmp 53) 32 9 (.string ⟨#[]⟩) 16 rfl Tryd.underlying32 info9 rfl (by decide) (by omega) u7 x7_1 x11_2 [.string x11_2] (fun k_ => some k_ ≠ (.slice (some ad824) t821.length co13 : Value).ownBlock) (fun _ => False) rfl rfl ?aP (fun _ hk => hk.elim) ?aF ?aO ?aB ?aS ?aL ?_; (case aP => exact rfl); (case aB => exact bw); (case aF => exact (fun k_ hk => Kd.fresh' (Kd.R_lt (by (with_reducible repeat (first | apply Kd.R_alloc | apply Kd.R_drewN | apply Kd.R_drew)); exact HO_6.out)) k_ hk)); (case aO => exact (by (with_reducible repeat (first | apply Kd.R_alloc | apply Kd.R_drewN | apply Kd.R_drew)); exact HO_7.out)); (case aS => exact (below_size bw)); (case aL => have := LMc24.out; omega); intro v829 w25 ho hb hg hat; rw [← Ny828.out] at ho; have n0_ := Aside0.mk (Kd.R_after (ok := (fun _ => True)) (by (with_reducible repeat (first | apply Kd.R_alloc | apply Kd.R_drewN | apply Kd.R_drew)); exact Kd.R_mono HO_6.out (fun _ hk => ⟨trivial, hk⟩)) hg hat); have n1_ := Aside0.mk (hb); have n2_ := Aside0.mk (ho); clear HO_6; clear HB; clear HO_7; have HO_6 := n0_; have HB := n1_; have HO830 := n2_; clear n0_ n1_ n2_; clear ho hb hg hat))
             go_meet
             case rel => exact ⟨_, (y828), H', ⟨by have := HK1.out; have := HK2.out; first | omega | exact Nat.le_refl _⟩, ⟨by (with_reducible repeat (first | apply Kd.R_alloc | apply Kd.R_drewN | apply Kd.R_drew)); exact Kd.R_mono HO_6.out (fun _ hk => hk.2)⟩, ⟨by (with_reducible repeat (first | apply Kd.R_alloc | apply Kd.R_drewN | apply Kd.R_drew)); exact HO830.out⟩, ⟨by repeat (first | (with_reducible first | exact HB.out | apply below_alloc | apply pw_below_drewN | apply below_drew1) | exact HB.out)⟩⟩
            ·rw [if_neg c24] at H
             exact absurd H (by simp)
        ·rw [if_neg c14] at H
         have c14b0 : decide (0 ≤ x8_1) = false := decide_eq_false c14
         clear c14
         (first | rw [c14b0] | (simp only [i64_w, i32_w]; rw [c14b0]) | skip)
         have H' := Aside0.mk H
         clear H
         go_wp2
         go_meet
         case rel => exact ⟨_, (x7_1), H', ⟨by have := HK1.out; first | omega | exact Nat.le_refl _⟩, ⟨by (with_reducible repeat (first | apply Kd.R_alloc | apply Kd.R_drewN | apply Kd.R_drew)); exact HO_6.out⟩, ⟨by (with_reducible repeat (first | apply Kd.R_alloc | apply Kd.R_drewN | apply Kd.R_drew)); exact HO_7.out⟩, ⟨by repeat (first | (with_reducible first | exact HB.out | apply below_alloc | apply pw_below_drewN | apply below_drew1) | exact HB.out)⟩⟩
       case rest =>
        clear HC12
        try clear c1
        try clear c2
        try clear p2
        try clear c4
        try clear c6
        try clear p6
        try clear c7
        try clear c7b0
        try clear c8
        try clear c8b0
        try clear p8
        try clear q8
        try clear hx8
        try clear c10
        try clear c10b0
        try clear c10b1
        try clear c11
        try clear c14
        try clear c14b0
        try clear c15
        try clear c15b0
        try clear c16
        try clear c16b0
        try clear c17
        try clear c17b0
        try clear c17b1
        try clear c17b2
        try clear c18
        try clear c18b0
        try clear c19
        try clear c19b0
        try clear c20
        try clear c20b0
        try clear c20b1
        try clear c20b2
        try clear c21
        try clear c21b0
        try clear c22
        try clear c22b0
        try clear c23
        try clear c23b0
        try clear c23b1
        try clear c23b2
        try clear c24
        try clear hx824_0
        try clear hx826_0
        try clear hx827_0
        try clear p2
        try clear p6
        try clear p8
        try clear p824
        try clear p826
        try clear p827
        try clear q8
        try clear q824
        try clear q826
        try clear q827
        obtain ⟨kq, x7_11, HA, HJ11, HO_6, HO_7, HB⟩ := hcut
        cases kq with
        | zero => exact absurd HA.out (by simp [bulletinref20_Split.j2])
        | succ kj11 =>
         have H := HA.out
         clear HA
         simp only [bulletinref20_Split.j2] at H
         have HC26 := Aside0.mk H
         clear H
         go_upto_region 20 with (fail)
         go_cut [60] (fun v60 wc => ∃ (kq : Nat) (x60_25 : Bool), v60 = .bool x60_25 ∧ Aside0 (bulletinref20_Split.j3 kq a1 t821 x7_11 x9_1 t825 x60_25 = some (r1, r2)) ∧ Aside0 (kq ≤ kj11) ∧ Aside0 (Kd.R Kd.string 9 wc w.heap.size (fun k_ => some k_ ≠ (u7 : Value).ownBlock) (.slice (some ad824) t821.length co13) t821) ∧ Aside0 (Kd.R Kd.string 9 wc w.heap.size (fun k_ => some k_ ≠ ((.slice (some ad824) t821.length co13) : Value).ownBlock) u7 x7_11) ∧ Aside0 (Below w.heap.size w wc))
         case first =>
          have H := HC26.out
          clear HC26
          by_cases c27 : t825 = 2
          ·rw [if_pos c27] at H
           have c27b0 : (t825 == 2) = true := beq_iff_eq.mpr c27
           have c27b1 : (t825 != 2) = false := bne_eq_false_iff_eq.mpr c27
           clear c27
           (first | rw [c27b0] | (simp only [i64_w, i32_w]; rw [c27b0]) | skip)
           have H' := Aside0.mk H
           clear H
           go_wp2
           go_meet
           case rel => exact ⟨_, (decide (x8_1 < 0)), cl, H', ⟨by have := HK1.out; have := HJ11.out; first | omega | exact Nat.le_refl _⟩, ⟨by (with_reducible repeat (first | apply Kd.R_alloc | apply Kd.R_drewN | apply Kd.R_drew)); exact HO_6.out⟩, ⟨by (with_reducible repeat (first | apply Kd.R_alloc | apply Kd.R_drewN | apply Kd.R_drew)); exact HO_7.out⟩, ⟨by repeat (first | (with_reducible first | exact HB.out | apply below_alloc | apply pw_below_drewN | apply below_drew1) | exact HB.out)⟩⟩
          ·rw [if_neg c27] at H
           have c27b0 : (t825 == 2) = false := beq_eq_false_iff_ne.mpr c27
           have c27b1 : (t825 != 2) = true := bne_iff_ne.mpr c27
           (first | rw [c27b0] | (simp only [i64_w, i32_w]; rw [c27b0]) | skip)
           have H' := Aside0.mk H
           clear H
           go_wp2
           go_meet
           case rel => exact ⟨_, (false), cl, H', ⟨by have := HK1.out; have := HJ11.out; first | omega | exact Nat.le_refl _⟩, ⟨by (with_reducible repeat (first | apply Kd.R_alloc | apply Kd.R_drewN | apply Kd.R_drew)); exact HO_6.out⟩, ⟨by (with_reducible repeat (first | apply Kd.R_alloc | apply Kd.R_drewN | apply Kd.R_drew)); exact HO_7.out⟩, ⟨by repeat (first | (with_reducible first | exact HB.out | apply below_alloc | apply pw_below_drewN | apply below_drew1) | exact HB.out)⟩⟩
         case rest =>
          clear HC26
          try clear c1
          try clear c2
          try clear p2
          try clear c4
          try clear c6
          try clear p6
          try clear c7
          try clear c7b0
          try clear c8
          try clear c8b0
          try clear p8
          try clear q8
          try clear hx8
          try clear c10
          try clear c10b0
          try clear c10b1
          try clear c11
          try clear c14
          try clear c14b0
          try clear c15
          try clear c15b0
          try clear c16
          try clear c16b0
          try clear c17
          try clear c17b0
          try clear c17b1
          try clear c17b2
          try clear c18
          try clear c18b0
          try clear c19
          try clear c19b0
          try clear c20
          try clear c20b0
          try clear c20b1
          try clear c20b2
          try clear c21
          try clear c21b0
          try clear c22
          try clear c22b0
          try clear c23
          try clear c23b0
          try clear c23b1
          try clear c23b2
          try clear c24
          try clear c27
          try clear c27b0
          try clear c27b1
          try clear hx824_0
          try clear hx826_0
          try clear hx827_0
          try clear p2
          try clear p6
          try clear p8
          try clear p824
          try clear p826
          try clear p827
          try clear q8
          try clear q824
          try clear q826
          try clear q827
          obtain ⟨kq, x60_25, rfl, HA, HJ25, HO_6, HO_7, HB⟩ := hcut
          cases kq with
          | zero => exact absurd HA.out (by simp [bulletinref20_Split.j3])
          | succ kj25 =>
           have H := HA.out
           clear HA
           simp only [bulletinref20_Split.j3] at H
           by_cases c28 : x60_25 = true
           ·subst c28
            have H1 : (some (([] : List ByteArray), 6)) = some (r1, r2) := by rw [if_pos rfl] at H; exact H
            clear H
            have H := H1
            clear H1
            simp only [Option.some.injEq, Prod.mk.injEq] at H
            obtain ⟨rfl, rfl⟩ := H
            go_wp2
            go_ret2
            exact ⟨_, by first | rfl | (simp [errW_none, errW_some] <;> rfl) | (simp [*, errW_none, errW_some] <;> rfl), by first | exact Kd.R_nil _ _ _ _ _ | exact Kd.N_nil _ _ _ _ _ | exact Kd.V_nil _ _ _ _ _ | exact Kd.Q_nil _ _ _ _ _ | exact Kd.S_nil _ _ _ _ _, by repeat (first | (with_reducible first | exact HB.out | apply below_alloc | apply pw_below_drewN | apply below_drew1) | exact HB.out)⟩
           ·replace c28 := Bool.eq_false_iff.mpr c28
            subst c28
            have H1 : (if t825 = 2 then (some (x7_11, 0)) else (if (x7_11.length : Int) = 20 then (some (([] : List ByteArray), 8)) else (bulletinref20_Split.l0 kj25 a1 t821 x7_11 (wrap64 (x9_1 + 1)) (wrap64 (x9_1 + 1))))) = some (r1, r2) := by rw [if_neg (show ¬ (false = true) by decide)] at H; exact H
            clear H
            have H := H1
            clear H1
            by_cases c29 : t825 = 2
            ·rw [if_pos c29] at H
             have c29b0 : (t825 == 2) = true := beq_iff_eq.mpr c29
             have c29b1 : (t825 != 2) = false := bne_eq_false_iff_eq.mpr c29
             clear c29
             simp only [Option.some.injEq, Prod.mk.injEq] at H
             obtain ⟨rfl, rfl⟩ := H
             go_wp2
             go_ret2
             exact ⟨_, by first | rfl | (simp [errW_none, errW_some] <;> rfl) | (simp [*, errW_none, errW_some] <;> rfl), by (with_reducible repeat (first | apply Kd.R_alloc | apply Kd.R_drewN | apply Kd.R_drew)); exact Kd.R_mono HO_7.out (fun _ hk => trivial), by repeat (first | (with_reducible first | exact HB.out | apply below_alloc | apply pw_below_drewN | apply below_drew1) | exact HB.out)⟩
            ·rw [if_neg c29] at H
             have c29b0 : (t825 == 2) = false := beq_eq_false_iff_ne.mpr c29
             have c29b1 : (t825 != 2) = true := bne_iff_ne.mpr c29
             by_cases c30 : (x7_11.length : Int) = 20
             ·rw [if_pos c30] at H
              have c30b0 : ((x7_11.length : Int) == 20) = true := beq_iff_eq.mpr c30
              have c30b1 : ((x7_11.length : Int) != 20) = false := bne_eq_false_iff_eq.mpr c30
              clear c30
              simp only [Option.some.injEq, Prod.mk.injEq] at H
              obtain ⟨rfl, rfl⟩ := H
              obtain ⟨Ao31, co31, eo31⟩ := Kd.R_slice HO_7.out
              subst eo31
              go_wp2
              go_ret2
              exact ⟨_, by first | rfl | (simp [errW_none, errW_some] <;> rfl) | (simp [*, errW_none, errW_some] <;> rfl), by first | exact Kd.R_nil _ _ _ _ _ | exact Kd.N_nil _ _ _ _ _ | exact Kd.V_nil _ _ _ _ _ | exact Kd.Q_nil _ _ _ _ _ | exact Kd.S_nil _ _ _ _ _, by repeat (first | (with_reducible first | exact HB.out | apply below_alloc | apply pw_below_drewN | apply below_drew1) | exact HB.out)⟩
             ·rw [if_neg c30] at H
              have c30b0 : ((x7_11.length : Int) == 20) = false := beq_eq_false_iff_ne.mpr c30
              have c30b1 : ((x7_11.length : Int) != 20) = true := bne_iff_ne.mpr c30
              have H' := Aside0.mk H
              clear H
              obtain ⟨Ao32, co32, eo32⟩ := Kd.R_slice HO_7.out
              subst eo32
              go_wp2
              go_roundg kj25
              case measure => have := HK1.out; have := HJ11.out; have := HJ25.out; omega
              case rel => exact ⟨(x7_11), (wrap64 (x9_1 + 1)), (wrap64 (x9_1 + 1)), cl, cl, H', ⟨by have := HK1.out; have := HJ11.out; have := HJ25.out; omega⟩, ⟨by (with_reducible repeat (first | apply Kd.R_alloc | apply Kd.R_drewN | apply Kd.R_drew)); exact HO_6.out⟩, ⟨by (with_reducible repeat (first | apply Kd.R_alloc | apply Kd.R_drewN | apply Kd.R_drew)); exact HO_7.out⟩, ⟨by repeat (first | (with_reducible first | exact HB.out | apply below_alloc | apply pw_below_drewN | apply below_drew1) | exact HB.out)⟩⟩
     ·rw [if_neg c8] at H
      exact absurd H (by simp)
    ·rw [if_neg c7] at H
     have c7b0 : decide (x9_1 < (t821.length : Int)) = false := decide_eq_false c7
     clear c7
     by_cases c33 : x8_1 < 0
     ·rw [if_pos c33] at H
      have c33b0 : decide (x8_1 < 0) = true := decide_eq_true c33
      clear c33
      simp only [Option.some.injEq, Prod.mk.injEq] at H
      obtain ⟨rfl, rfl⟩ := H
      obtain ⟨Ao34, co34, eo34⟩ := Kd.R_slice HO_6.out
      subst eo34
      go_wp2
      go_ret2
      exact ⟨_, by first | rfl | (simp [errW_none, errW_some] <;> rfl) | (simp [*, errW_none, errW_some] <;> rfl), by first | exact Kd.R_nil _ _ _ _ _ | exact Kd.N_nil _ _ _ _ _ | exact Kd.V_nil _ _ _ _ _ | exact Kd.Q_nil _ _ _ _ _ | exact Kd.S_nil _ _ _ _ _, by repeat (first | (with_reducible first | exact HB.out | apply below_alloc | apply pw_below_drewN | apply below_drew1) | exact HB.out)⟩
     ·rw [if_neg c33] at H
      have c33b0 : decide (x8_1 < 0) = false := decide_eq_false c33
      clear c33
      simp only [Option.some.injEq, Prod.mk.injEq] at H
      obtain ⟨rfl, rfl⟩ := H
      obtain ⟨Ao35, co35, eo35⟩ := Kd.R_slice HO_6.out
      subst eo35
      go_wp2
      go_ret2
      exact ⟨_, by first | rfl | (simp [errW_none, errW_some] <;> rfl) | (simp [*, errW_none, errW_some] <;> rfl), by first | exact Kd.R_nil _ _ _ _ _ | exact Kd.N_nil _ _ _ _ _ | exact Kd.V_nil _ _ _ _ _ | exact Kd.Q_nil _ _ _ _ _ | exact Kd.S_nil _ _ _ _ _, by repeat (first | (with_reducible first | exact HB.out | apply below_alloc | apply pw_below_drewN | apply below_drew1) | exact HB.out)⟩
 ·replace c4 := Bool.eq_false_iff.mpr c4
  subst c4
  have H1 : (some (([] : List ByteArray), 200)) = some (r1, r2) := by rw [if_neg (show ¬ (false = true) by decide)] at H; exact H
  clear H
  have H := H1
  clear H1
  simp only [Option.some.injEq, Prod.mk.injEq] at H
  obtain ⟨rfl, rfl⟩ := H
  go_enter Tryd.func63, Tryd.ntmps63
  go_wp2_with (first | ((with_reducible refine gate_callee (f := 112) rfl ?_); refine goesL_ (some 14) rfl rfl Tryd.func112 (by kernel_rfl) rfl #[.string a1] rfl am ?_; (with_reducible refine (bulletinref20_RightBoundary.calls k a1 false _ A3.out).mono ?_); rintro e w' ⟨rfl, ⟨nd, rfl⟩⟩; refine ⟨_, rfl, ?_⟩))
  go_ret2
  exact ⟨_, by first | rfl | (simp [errW_none, errW_some] <;> rfl) | (simp [*, errW_none, errW_some] <;> rfl), by first | exact Kd.R_nil _ _ _ _ _ | exact Kd.N_nil _ _ _ _ _ | exact Kd.V_nil _ _ _ _ _ | exact Kd.Q_nil _ _ _ _ _ | exact Kd.S_nil _ _ _ _ _, by repeat (first | (with_reducible first | exact HB.out | apply below_alloc | apply pw_below_drewN | apply below_drew1) | exact HB.out)⟩

end Go.Proofs.YtgaaogijfikfeaaDoor.Fn
set_option linter.unusedVariables false
set_option linter.unusedSimpArgs false
namespace Go.Proofs.YtgaaogijfikfeaaDoor.Pl
def partL (b p : Bytes) : Bytes := 45 :: 45 :: (b ++ (13 :: 10 :: (p ++ [13, 10])))
def partsL (b : Bytes) (l : List Bytes) : Bytes := l.flatMap (partL b)
def joinL (b : Bytes) (l : List Bytes) : Bytes := partsL b l ++ (45 :: 45 :: (b ++ [45, 45, 13, 10]))
theorem partL_length (b p : Bytes) : (partL b p).length = b.length + p.length + 6 := by
  unfold partL
  simp only [List.length_cons, List.length_append, List.length_nil]
  omega
theorem partsL_take (b : Bytes) (l : List Bytes) (i : Nat) (h : i < l.length) : partsL b (l.take (i + 1)) = partsL b (l.take i) ++ partL b l[i] := by
  rw [List.take_succ_eq_append_getElem h]
  unfold partsL
  rw [List.flatMap_append]
  simp
theorem partsL_le (b : Bytes) (m : Nat) : ∀ l : List Bytes, (∀ x ∈ l, x.length ≤ m) → (partsL b l).length ≤ l.length * (b.length + m + 6)
  | [], _ => by simp [partsL]
  | x :: l, h => by
    have ih := partsL_le b m l (fun y hy => h y (by simp [hy]))
    have hx := h x (by simp)
    have e : partsL b (x :: l) = partL b x ++ partsL b l := rfl
    rw [e, List.length_append, partL_length, List.length_cons, Nat.add_mul, Nat.one_mul]
    omega
end Go.Proofs.YtgaaogijfikfeaaDoor.Pl
namespace Go.Proofs.YtgaaogijfikfeaaDoor.Fn
open Go.RowKit Go.Proofs.YtgaaogijfikfeaaDoorW.PrintWords

def mime_Join.f (l0 : List ByteArray) (a1 : ByteArray) : Option ByteArray :=
  if l0.length ≤ 1000000 then (if a1.size ≤ 1000000 then (if l0.all (fun x => decide (x.size ≤ 1000000)) = true then some (Pl.str (Pl.joinL (Pl.bs a1) (l0.map Pl.bs))) else none) else none) else none

set_option maxHeartbeats 8000000 in
set_option maxRecDepth 100000 in
theorem mime_Join.calls (A0 : Option Addr) (c0 : Nat) (l0 : List ByteArray) (a1 : ByteArray) (r : ByteArray) (w : World) (hr0 : Kd.C Kd.string w A0 l0.length l0) (hc0 : l0.length ≤ c0) (h : mime_Join.f l0 a1 = some r) :
    Calls Tryd.prog 65 #[.slice A0 l0.length c0, .string a1] w fun e w' => e = .returned (.string r) ∧ Below w.heap.size w w' := by
  unfold mime_Join.f at h
  by_cases hs : l0.length ≤ 1000000
  case neg => rw [if_neg hs] at h; exact absurd h (by simp)
  rw [if_pos hs] at h
  by_cases hs1 : a1.size ≤ 1000000
  case neg => rw [if_neg hs1] at h; exact absurd h (by simp)
  rw [if_pos hs1] at h
  by_cases hs2 : l0.all (fun x => decide (x.size ≤ 1000000)) = true
  case neg => rw [if_neg hs2] at h; exact absurd h (by simp)
  rw [if_pos hs2] at h
  have HR := hid (Option.some.inj h)
  have HO := hid hs2
  clear h hs2
  have HC := hid hr0
  clear hr0
  have hz := Pl.bs_length a1
  go_enter Tryd.func65, Tryd.ntmps65
  go_wp2
  go_loopw [10] (fun v10 wr => ∃ i : Nat, i ≤ l0.length ∧ v10 = .int .i64 i ∧ isBd w.heap.size w.heap.size (Lib.byteCells (Pl.partsL (Pl.bs a1) ((l0.map Pl.bs).take i))) wr ∧ Below w.heap.size w wr) (fun v10 _ => l0.length - (intOf v10).toNat)
  case atStart => exact ⟨0, Nat.zero_le _, rfl, by rw [List.take_zero]; exact Lib.IsBuilderF.of (Lib.fresh_isBuilder _ _ w), (Below.refl _ w).alloc (Nat.le_refl _) _⟩
  case round =>
    obtain ⟨i, hi, rfl, hI, hbw⟩ := hrel
    have hwsz := hbw.size
    have hlen := Pl.partsL_le (Pl.bs a1) 1000000 ((l0.map Pl.bs).take i) (fun x hx => by
      obtain ⟨y, hy, rfl⟩ := List.mem_map.1 (List.mem_of_mem_take hx)
      rw [Pl.bs_length]
      exact of_decide_eq_true (List.all_eq_true.1 HO.out y hy))
    have hlen2 : ((l0.map Pl.bs).take i).length * ((Pl.bs a1).length + 1000000 + 6) ≤ 1000000 * 2000006 := Nat.mul_le_mul (by rw [List.length_take, List.length_map]; omega) (by omega)
    by_cases hlt : i < l0.length
    · have hall := of_decide_eq_true (List.all_eq_true.1 HO.out (l0[i]'hlt) (List.getElem_mem hlt))
      have hpt := hid (Pl.partsL_take (Pl.bs a1) (l0.map Pl.bs) i (by rw [List.length_map]; exact hlt))
      rw [List.getElem_map] at hpt
      obtain ⟨bk, o, e0, hbk, hcells⟩ := strings_at HC.out (by omega)
      subst e0
      have hx0 := hcells i (l0[i]'hlt) (List.getElem?_eq_getElem hlt)
      replace hx0 := (hbw.cell (World.block_lt_of_cell? w _ hx0)).trans hx0
      generalize l0[i]'hlt = x at *
      have hzx := Pl.bs_length x
      have hzs : ((⟨#[45, 45]⟩ : ByteArray) ++ a1 ++ (⟨#[13, 10]⟩ : ByteArray) ++ x ++ (⟨#[13, 10]⟩ : ByteArray)).size = a1.size + x.size + 6 := by
        rw [ByteArray.size_append, ByteArray.size_append, ByteArray.size_append, ByteArray.size_append]
        show 2 + a1.size + 2 + x.size + 2 = _
        omega
      have hbytes : Lib.strCells ((⟨#[45, 45]⟩ : ByteArray) ++ a1 ++ (⟨#[13, 10]⟩ : ByteArray) ++ x ++ (⟨#[13, 10]⟩ : ByteArray)) = Lib.byteCells (Pl.partL (Pl.bs a1) (Pl.bs x)) := by
        show Lib.byteCells (Pl.bs _) = _
        rw [Pl.bs_app, Pl.bs_app, Pl.bs_app, Pl.bs_app]
        unfold Pl.partL
        congr 1
        show [45, 45] ++ Pl.bs a1 ++ [13, 10] ++ Pl.bs x ++ [13, 10] = _
        simp
      have HB_ := hid hbytes
      clear hbytes
      have c1 : ((0 : Int) ≤ (i : Int)) = True := eq_true (by omega)
      have c2 : ((i : Int) < (l0.length : Int)) = True := eq_true (by omega)
      have c3 : decide ((i : Int) < (l0.length : Int)) = true := decide_eq_true (by omega)
      go_wp2_with (go_at_call 117; refine (bd_string w.heap.size w.heap.size _ ((⟨#[45, 45]⟩ : ByteArray) ++ a1 ++ (⟨#[13, 10]⟩ : ByteArray) ++ x ++ (⟨#[13, 10]⟩ : ByteArray)) _ hI (by rw [Lib.byteCells_length, hzs]; omega) (by omega)).mono ?_; rintro e W2 ⟨rfl, h2, b2, k2⟩)
      go_roundw
      case rel =>
        refine ⟨i + 1, by omega, by go_num, ?_, hbw.trans b2⟩
        rw [hpt.out, Lib.byteCells_append, ← HB_.out]
        exact h2.is
      case measure => simp [intOf]; omega
    · have c3 : decide ((i : Int) < (l0.length : Int)) = false := decide_eq_false (by omega)
      have hend : (l0.map Pl.bs).take i = l0.map Pl.bs := List.take_of_length_le (by rw [List.length_map]; omega)
      rw [hend] at hI hlen hlen2
      have hzs : ((⟨#[45, 45]⟩ : ByteArray) ++ a1 ++ (⟨#[45, 45]⟩ : ByteArray) ++ (⟨#[13, 10]⟩ : ByteArray)).size = a1.size + 6 := by
        rw [ByteArray.size_append, ByteArray.size_append, ByteArray.size_append]
        show 2 + a1.size + 2 + 2 = _
        omega
      have hbytes : Lib.strCells ((⟨#[45, 45]⟩ : ByteArray) ++ a1 ++ (⟨#[45, 45]⟩ : ByteArray) ++ (⟨#[13, 10]⟩ : ByteArray)) = Lib.byteCells (45 :: 45 :: (Pl.bs a1 ++ [45, 45, 13, 10])) := by
        show Lib.byteCells (Pl.bs _) = _
        rw [Pl.bs_app, Pl.bs_app, Pl.bs_app]
        congr 1
        show [45, 45] ++ Pl.bs a1 ++ [45, 45] ++ [13, 10] = _
        simp
      have HB_ := hid hbytes
      clear hbytes
      go_wp2_with (first
        | (go_at_call 117; refine (bd_string w.heap.size w.heap.size _ ((⟨#[45, 45]⟩ : ByteArray) ++ a1 ++ (⟨#[45, 45]⟩ : ByteArray) ++ (⟨#[13, 10]⟩ : ByteArray)) _ hI (by rw [Lib.byteCells_length, hzs]; omega) (by omega)).mono ?_; rintro e W2 ⟨rfl, h2, b2, k2⟩; have h3 : isBd w.heap.size w.heap.size (Lib.byteCells (Pl.partsL (Pl.bs a1) (l0.map Pl.bs) ++ (45 :: 45 :: (Pl.bs a1 ++ [45, 45, 13, 10])))) W2 := (by rw [Lib.byteCells_append, ← HB_.out]; exact h2.is))
        | (go_at_call 118; go_loud (refine (Tryd.Builder_String_any_k w.heap.size w.heap.size _ _ h3 (by have := b2.size; omega)).mono ?_; rintro e W1 ⟨rfl, _, b1, _⟩)))
      go_ret
      refine ⟨?_, hbw.trans (b2.trans b1)⟩
      rw [← HR.out]
      rfl
end Go.Proofs.YtgaaogijfikfeaaDoor.Fn
-- written by xprint.py of this session over the kit's printer; not trusted: Lean checks it
namespace Go.Proofs.YtgaaogijfikfeaaDoor.Fn
open Go.RowKit Go.Proofs.YtgaaogijfikfeaaDoorW.PrintWords Go.Proofs.YtgaaogijfikfeaaDoorW.PrintLast Go.Proofs.YtgaaogijfikfeaaDoorW.PrintMore
attribute [local go_sem] max2_int min2_int max_two min_two max_three min_three max_four min_four   -- for this text's walks alone
set_option linter.unusedVariables false
set_option linter.unusedSimpArgs false

/-! ### bulletinlaw20_MimeMany: function 16 -/
mutual
def bulletinlaw20_MimeMany.j0 : Nat → Int → ByteArray → Bool → Option (Bool)
 | 0, _, _, _ => none
 | k + 1, x0, x1, x21 => if x21 = true then ((bulletinlaw20_works.f k).bind fun t887 => (some t887)) else (bulletinlaw20_MimeMany.l0 k x0 x1 ([] : List ByteArray) 0)
def bulletinlaw20_MimeMany.l0 : Nat → Int → ByteArray → List ByteArray → Int → Option (Bool)
 | 0, _, _, _, _ => none
 | k + 1, x0, x1, x5, x6 => if x6 < x0 then (if 1 + x1.size ≤ 9223372036854775807 then (if x5.length < 8796093022208 then (bulletinlaw20_MimeMany.l0 k x0 x1 (x5 ++ [(⟨#[120]⟩ : ByteArray) ++ x1]) (wrap64 (x6 + 1))) else (none)) else (none)) else ((mime_Join.f x5 (⟨#[98]⟩ : ByteArray)).bind fun t891 => ((mime_Split.f t891 (⟨#[98]⟩ : ByteArray)).bind fun bt892 => ((bulletinref20_Join.f k x5 (⟨#[98]⟩ : ByteArray)).bind fun t896 => ((bulletinref20_Split.f k t896 (⟨#[98]⟩ : ByteArray)).bind fun bt897 => ((bulletinbook_SameTexts.f k bt892.1 bt897.1).bind fun t901 => (if t901 = true then (if bt892.2 = bt897.2 then ((bulletinlaw20_works.f k).bind fun t902 => (some t902)) else (some false)) else (some false)))))))
end
def bulletinlaw20_MimeMany.f (k : Nat) (a0 : Int) (a1 : ByteArray) : Option (Bool) := if a0 < 0 then (bulletinlaw20_MimeMany.j0 k a0 a1 true) else (if a0 > 40 then (bulletinlaw20_MimeMany.j0 k a0 a1 true) else (bulletinlaw20_MimeMany.j0 k a0 a1 (decide ((a1.size : Int) > 20))))
set_option maxHeartbeats 8000000 in
set_option maxRecDepth 100000 in
theorem bulletinlaw20_MimeMany.calls (k : Nat) (a0 : Int) (a1 : ByteArray) (r : Bool) (w : World) (hG : Glob w) (h : bulletinlaw20_MimeMany.f k a0 a1 = some r) :
  Calls Tryd.prog 16 #[.int .i64 a0, .string a1] w fun e w' => e = .returned (.bool r) ∧ Below w.heap.size w w' := by
 have HB := Aside0.mk (Below.refl w.heap.size w)
 have H : (if a0 < 0 then (bulletinlaw20_MimeMany.j0 k a0 a1 true) else (if a0 > 40 then (bulletinlaw20_MimeMany.j0 k a0 a1 true) else (bulletinlaw20_MimeMany.j0 k a0 a1 (decide ((a1.size : Int) > 20))))) = some r := h
 clear h
 have HC3 := Aside0.mk H
 clear H
 go_enter Tryd.func16, Tryd.ntmps16
 go_upto_region 1 with (fail)
 go_cut [21] (fun v21 wc => ∃ (kq : Nat) (x21_2 : Bool), v21 = .bool x21_2 ∧ Aside0 (bulletinlaw20_MimeMany.j0 kq a0 a1 x21_2 = some r) ∧ Aside0 (kq ≤ k) ∧ Aside0 (Below w.heap.size w wc))
 case first =>
  have H := HC3.out
  clear HC3
  by_cases c4 : a0 < 0
  ·rw [if_pos c4] at H
   have c4b0 : decide (a0 < 0) = true := decide_eq_true c4
   clear c4
   (first | rw [c4b0] | (simp only [i64_w, i32_w]; rw [c4b0]) | skip)
   have H' := Aside0.mk H
   clear H
   go_wp2
   go_meet
   case rel => exact ⟨_, (true), cl, H', ⟨by first | omega | exact Nat.le_refl _⟩, ⟨by repeat (first | (with_reducible first | exact HB.out | apply below_alloc | apply pw_below_drewN | apply below_drew1) | exact HB.out)⟩⟩
  ·rw [if_neg c4] at H
   have c4b0 : decide (a0 < 0) = false := decide_eq_false c4
   clear c4
   (first | rw [c4b0] | (simp only [i64_w, i32_w]; rw [c4b0]) | skip)
   by_cases c5 : a0 > 40
   ·rw [if_pos c5] at H
    have c5b0 : decide (40 < a0) = true := decide_eq_true c5
    clear c5
    have H' := Aside0.mk H
    clear H
    go_wp2
    go_meet
    case rel => exact ⟨_, (true), cl, H', ⟨by first | omega | exact Nat.le_refl _⟩, ⟨by repeat (first | (with_reducible first | exact HB.out | apply below_alloc | apply pw_below_drewN | apply below_drew1) | exact HB.out)⟩⟩
   ·rw [if_neg c5] at H
    have c5b0 : decide (40 < a0) = false := decide_eq_false c5
    clear c5
    have H' := Aside0.mk H
    clear H
    go_wp2
    go_meet
    case rel => exact ⟨_, (decide ((a1.size : Int) > 20)), cl, H', ⟨by first | omega | exact Nat.le_refl _⟩, ⟨by repeat (first | (with_reducible first | exact HB.out | apply below_alloc | apply pw_below_drewN | apply below_drew1) | exact HB.out)⟩⟩
 case rest =>
  clear HC3
  try clear c1
  try clear p2
  try clear c4
  try clear c4b0
  try clear c5
  try clear c5b0
  obtain ⟨kq, x21_2, rfl, HA, HJ2, HB⟩ := hcut
  cases kq with
  | zero => exact absurd HA.out (by simp [bulletinlaw20_MimeMany.j0])
  | succ kj2 =>
   have H := HA.out
   clear HA
   simp only [bulletinlaw20_MimeMany.j0] at H
   by_cases c6 : x21_2 = true
   ·subst c6
    have H1 : ((bulletinlaw20_works.f kj2).bind fun t887 => (some t887)) = some r := by rw [if_pos rfl] at H; exact H
    clear H
    have H := H1
    clear H1
    replace H := Option.bind_eq_some_iff.mp H
    obtain ⟨t887, A70, H⟩ := H
    replace H : (some t887) = some r := H
    have A7 := Aside0.mk A70
    clear A70
    obtain rfl := Option.some.inj H
    go_wp2_with (first | ((with_reducible refine gate_callee (f := 53) rfl ?_); refine goesL_ (some 22) rfl rfl Tryd.func53 (by kernel_rfl) rfl #[] rfl am ?_; (with_reducible refine (bulletinlaw20_works.calls (hG := by first | exact hG | exact Glob.below hG (by first | exact HB.out | (repeat (first | (with_reducible first | exact HB.out | apply below_alloc | apply pw_below_drewN | apply below_drew1) | exact HB.out))) | exact Glob.drawn hG (by repeat (first | exact Drawn0.refl _ | apply Drawn0.step))) kj2  t887 _ A7.out).mono ?_); rintro e w8 ⟨rfl, hb⟩; refine ⟨_, rfl, ?_⟩; have n0_ := Aside0.mk (below_step bw hb); clear HB; have HB := n0_; clear n0_; (try clear hb); (try clear hb2); (try clear hk); (try clear hi)))
    go_ret
    exact ⟨by first | rfl | (simp [errW_none, errW_some] <;> rfl) | (simp [*, errW_none, errW_some] <;> rfl), by repeat (first | (with_reducible first | exact HB.out | apply below_alloc | apply pw_below_drewN | apply below_drew1) | exact HB.out)⟩
   ·replace c6 := Bool.eq_false_iff.mpr c6
    subst c6
    have H1 : (bulletinlaw20_MimeMany.l0 kj2 a0 a1 ([] : List ByteArray) 0) = some r := by rw [if_neg (show ¬ (false = true) by decide)] at H; exact H
    clear H
    have H := H1
    clear H1
    have H' := Aside0.mk H
    clear H
    go_wp2
    go_loopg [5, 6] kj2 (fun kq v5 v6 w' => ∃ (x5_2 : List ByteArray) (x6_2 : Int), v6 = .int .i64 x6_2 ∧ Aside0 (bulletinlaw20_MimeMany.l0 kq a0 a1 x5_2 x6_2 = some r) ∧ Aside0 (kq ≤ kj2) ∧ Aside0 (Kd.R Kd.string 9 w' w.heap.size (fun _ => True) v5 x5_2) ∧ Aside0 (Below w.heap.size w w'))
    case atStart => exact ⟨(([] : List ByteArray)), (0), cl, H', ⟨Nat.le_refl _⟩, ⟨by first | exact Kd.R_nil _ _ _ _ _ | exact Kd.N_nil _ _ _ _ _ | exact Kd.V_nil _ _ _ _ _ | exact Kd.Q_nil _ _ _ _ _ | exact Kd.S_nil _ _ _ _ _⟩, ⟨by repeat (first | (with_reducible first | exact HB.out | apply below_alloc | apply pw_below_drewN | apply below_drew1) | exact HB.out)⟩⟩
    case round =>
     clear H'
     try clear c1
     try clear p2
     try clear c4
     try clear c4b0
     try clear c5
     try clear c5b0
     try clear c6
     try clear p2
     obtain ⟨x5_2, x6_2, rfl, HA, HK2, HO_5, HB⟩ := hrel
     cases gk with
     | zero => exact absurd HA.out (by simp [bulletinlaw20_MimeMany.l0])
     | succ k2 =>
      have H := HA.out
      clear HA
      simp only [bulletinlaw20_MimeMany.l0] at H
      by_cases c9 : x6_2 < a0
      ·rw [if_pos c9] at H
       have c9b0 : decide (x6_2 < a0) = true := decide_eq_true c9
       clear c9
       by_cases c10 : 1 + a1.size ≤ 9223372036854775807
       ·rw [if_pos c10] at H
        have c10b0 := eq_true c10
        have c10b1 : decide (1 + a1.size ≤ 9223372036854775807) = true := decide_eq_true c10
        try have c10b2 : (9223372036854775807 < 1 + a1.size) = False := eq_false (Nat.not_lt.2 c10)
        by_cases c11 : x5_2.length < 8796093022208
        ·rw [if_pos c11] at H
         have LMc11 := Aside0.mk c11
         clear c11
         obtain ⟨y888, hy888⟩ : ∃ y_ : List ByteArray, y_ = (x5_2 ++ [(⟨#[120]⟩ : ByteArray) ++ a1]) := ⟨_, rfl⟩
         replace H : (bulletinlaw20_MimeMany.l0 k2 a0 a1 y888 (wrap64 (x6_2 + 1))) = some r := by first | (rw [hy888]; with_reducible exact H) | (have H2_ := (Option.bind_some _ _).symm.trans H; rw [hy888]; with_reducible exact H2_) | (have H2_ := (Option.bind_some _ _).symm.trans H; with_reducible exact H2_) | with_reducible exact H | (rw [hy888]; exact H) | exact H
         have Ny888 := Aside0.mk hy888
         clear hy888
         have H' := Aside0.mk H
         clear H
         go_wp2_with (first | ((with_reducible refine gate_builtin (b := .append) (xs := #[.tmp 28, .tmp 31]) rfl ?_); (try (refine gate_guard (by rfl) ?_; dsimp only)); at_builtin; refine Kd.R_append Kd.string (w0 := w) w.heap.size rfl (.tmp 28) (.tmp 31) 32 9 (.string ⟨#[]⟩) 16 rfl Tryd.underlying32 info9 rfl (by decide) (by omega) u5 x5_2 ((⟨#[120]⟩ : ByteArray) ++ a1) [.string ((⟨#[120]⟩ : ByteArray) ++ a1)] (fun _ => True) (fun _ => False) rfl rfl ?aP (fun _ hk => hk.elim) ?aF ?aO ?aB ?aS ?aL ?_; (case aP => exact rfl); (case aB => exact bw); (case aF => exact (fun _ _ => trivial)); (case aO => exact (by (with_reducible repeat (first | apply Kd.R_alloc | apply Kd.R_drewN | apply Kd.R_drew)); exact HO_5.out)); (case aS => exact (below_size bw)); (case aL => have := LMc11.out; omega); intro v889 w12 ho hb hg hat; rw [← Ny888.out] at ho; have n0_ := Aside0.mk (hb); have n1_ := Aside0.mk (ho); clear HB; clear HO_5; have HB := n0_; have HO890 := n1_; clear n0_ n1_; clear ho hb hg hat))
         go_roundg k2
         case measure => have := HJ2.out; have := HK2.out; omega
         case rel => exact ⟨(y888), (wrap64 (x6_2 + 1)), cl, H', ⟨by have := HJ2.out; have := HK2.out; omega⟩, ⟨by (with_reducible repeat (first | apply Kd.R_alloc | apply Kd.R_drewN | apply Kd.R_drew)); exact HO890.out⟩, ⟨by repeat (first | (with_reducible first | exact HB.out | apply below_alloc | apply pw_below_drewN | apply below_drew1) | exact HB.out)⟩⟩
        ·rw [if_neg c11] at H
         exact absurd H (by simp)
       ·rw [if_neg c10] at H
        exact absurd H (by simp)
      ·rw [if_neg c9] at H
       have c9b0 : decide (x6_2 < a0) = false := decide_eq_false c9
       clear c9
       replace H := Option.bind_eq_some_iff.mp H
       obtain ⟨t891, A130, H⟩ := H
       replace H : ((mime_Split.f t891 (⟨#[98]⟩ : ByteArray)).bind fun bt892 => ((bulletinref20_Join.f k2 x5_2 (⟨#[98]⟩ : ByteArray)).bind fun t896 => ((bulletinref20_Split.f k2 t896 (⟨#[98]⟩ : ByteArray)).bind fun bt897 => ((bulletinbook_SameTexts.f k2 bt892.1 bt897.1).bind fun t901 => (if t901 = true then (if bt892.2 = bt897.2 then ((bulletinlaw20_works.f k2).bind fun t902 => (some t902)) else (some false)) else (some false)))))) = some r := H
       have A13 := Aside0.mk A130
       clear A130
       replace H := Option.bind_eq_some_iff.mp H
       obtain ⟨⟨t892, t893⟩, A140, H⟩ := H
       replace H : ((bulletinref20_Join.f k2 x5_2 (⟨#[98]⟩ : ByteArray)).bind fun t896 => ((bulletinref20_Split.f k2 t896 (⟨#[98]⟩ : ByteArray)).bind fun bt897 => ((bulletinbook_SameTexts.f k2 t892 bt897.1).bind fun t901 => (if t901 = true then (if t893 = bt897.2 then ((bulletinlaw20_works.f k2).bind fun t902 => (some t902)) else (some false)) else (some false))))) = some r := H
       have A14 := Aside0.mk A140
       clear A140
       replace H := Option.bind_eq_some_iff.mp H
       obtain ⟨t896, A150, H⟩ := H
       replace H : ((bulletinref20_Split.f k2 t896 (⟨#[98]⟩ : ByteArray)).bind fun bt897 => ((bulletinbook_SameTexts.f k2 t892 bt897.1).bind fun t901 => (if t901 = true then (if t893 = bt897.2 then ((bulletinlaw20_works.f k2).bind fun t902 => (some t902)) else (some false)) else (some false)))) = some r := H
       have A15 := Aside0.mk A150
       clear A150
       replace H := Option.bind_eq_some_iff.mp H
       obtain ⟨⟨t897, t898⟩, A160, H⟩ := H
       replace H : ((bulletinbook_SameTexts.f k2 t892 t897).bind fun t901 => (if t901 = true then (if t893 = t898 then ((bulletinlaw20_works.f k2).bind fun t902 => (some t902)) else (some false)) else (some false))) = some r := H
       have A16 := Aside0.mk A160
       clear A160
       replace H := Option.bind_eq_some_iff.mp H
       obtain ⟨t901, A170, H⟩ := H
       replace H : (if t901 = true then (if t893 = t898 then ((bulletinlaw20_works.f k2).bind fun t902 => (some t902)) else (some false)) else (some false)) = some r := H
       have A17 := Aside0.mk A170
       clear A170
       by_cases c18 : t901 = true
       ·subst c18
        have H1 : (if t893 = t898 then ((bulletinlaw20_works.f k2).bind fun t902 => (some t902)) else (some false)) = some r := by rw [if_pos rfl] at H; exact H
        clear H
        have H := H1
        clear H1
        by_cases c19 : t893 = t898
        ·rw [if_pos c19] at H
         have c19b0 : (t893 == t898) = true := beq_iff_eq.mpr c19
         have c19b1 : (t893 != t898) = false := bne_eq_false_iff_eq.mpr c19
         clear c19
         replace H := Option.bind_eq_some_iff.mp H
         obtain ⟨t902, A200, H⟩ := H
         replace H : (some t902) = some r := H
         have A20 := Aside0.mk A200
         clear A200
         obtain rfl := Option.some.inj H
         obtain ⟨Ao21, co21, eo21⟩ := Kd.R_slice HO_5.out
         subst eo21
         go_wp2_with (first | ((with_reducible refine gate_callee (f := 65) rfl ?_); refine goesL_ (some 35) rfl rfl Tryd.func65 (by kernel_rfl) rfl #[.slice Ao21 x5_2.length co21, .string (⟨#[98]⟩ : ByteArray)] rfl am ?_; (with_reducible refine (mime_Join.calls _ _ x5_2 (⟨#[98]⟩ : ByteArray) t891 _ ?side1 ?side2 A13.out).mono ?_); (case side1 => repeat (first | exact (Kd.R_reads' HO_5.out).2.2 | (with_reducible refine Kd.C_alloc ?_ _) | (with_reducible refine Kd.C_drewN ?_ _) | (with_reducible refine Kd.C_drew ?_))); (case side2 => exact (Kd.R_reads' HO_5.out).2.1); rintro e w22 ⟨rfl, hb⟩; refine ⟨_, rfl, ?_⟩; have n0_ := Aside0.mk (Kd.R_below (by (with_reducible repeat (first | apply Kd.R_alloc | apply Kd.R_drewN | apply Kd.R_drew)); exact HO_5.out) hb); have n1_ := Aside0.mk (below_step bw hb); clear HO_5; clear HB; have HO_5 := n0_; have HB := n1_; clear n0_ n1_; (try clear hb); (try clear hb2); (try clear hk); (try clear hi)) | ((with_reducible refine gate_callee (f := 62) rfl ?_); refine goesL_ (some 36) rfl rfl Tryd.func62 (by kernel_rfl) rfl #[.string t891, .string (⟨#[98]⟩ : ByteArray)] rfl am ?_; (with_reducible refine (mime_Split.calls (hG := by first | exact hG | exact Glob.below hG (by first | exact HB.out | (repeat (first | (with_reducible first | exact HB.out | apply below_alloc | apply pw_below_drewN | apply below_drew1) | exact HB.out))) | exact Glob.drawn hG (by repeat (first | exact Drawn0.refl _ | apply Drawn0.step))) t891 (⟨#[98]⟩ : ByteArray) t892 t893 _ A14.out).mono ?_); rintro e w23 ⟨v894, rfl, ho0, hb⟩; refine ⟨_, rfl, ?_⟩; have n0_ := Aside0.mk (Kd.R_elder' (by (with_reducible repeat (first | apply Kd.R_alloc | apply Kd.R_drewN | apply Kd.R_drew)); exact HO_5.out) (Kd.R_base ho0) hb); have n1_ := Aside0.mk (Kd.R_lower (Kd.R_new' ho0 (Kd.R_lt (by (with_reducible repeat (first | apply Kd.R_alloc | apply Kd.R_drewN | apply Kd.R_drew)); exact HO_5.out))) (below_size bw)); have n2_ := Aside0.mk (below_step bw hb); clear HO_5; clear HB; have HO_5 := n0_; have HO895 := n1_; have HB := n2_; clear n0_ n1_ n2_; (try clear hb); (try clear hb2); (try clear hk); (try clear hi); (try clear ho0)) | ((with_reducible refine gate_callee (f := 66) rfl ?_); refine goesL_ (some 41) rfl rfl Tryd.func66 (by kernel_rfl) rfl #[.slice Ao21 x5_2.length co21, .string (⟨#[98]⟩ : ByteArray)] rfl am ?_; (with_reducible refine (bulletinref20_Join.calls k2 _ _ x5_2 (⟨#[98]⟩ : ByteArray) t896 _ ?side1 ?side2 A15.out).mono ?_); (case side1 => repeat (first | exact (Kd.R_reads' HO_5.out).2.2 | (with_reducible refine Kd.C_alloc ?_ _) | (with_reducible refine Kd.C_drewN ?_ _) | (with_reducible refine Kd.C_drew ?_))); (case side2 => exact (Kd.R_reads' HO_5.out).2.1); rintro e w' ⟨rfl, ⟨nd, rfl⟩⟩; refine ⟨_, rfl, ?_⟩) | ((with_reducible refine gate_callee (f := 63) rfl ?_); refine goesL_ (some 42) rfl rfl Tryd.func63 (by kernel_rfl) rfl #[.string t896, .string (⟨#[98]⟩ : ByteArray)] rfl am ?_; (with_reducible refine (bulletinref20_Split.calls k2 t896 (⟨#[98]⟩ : ByteArray) t897 t898 _ A16.out).mono ?_); rintro e w24 ⟨v899, rfl, ho0, hb⟩; refine ⟨_, rfl, ?_⟩; have n0_ := Aside0.mk (Kd.R_elder' (by (with_reducible repeat (first | apply Kd.R_alloc | apply Kd.R_drewN | apply Kd.R_drew)); exact HO_5.out) (Kd.R_base ho0) hb); have n1_ := Aside0.mk (Kd.R_elder' (by (with_reducible repeat (first | apply Kd.R_alloc | apply Kd.R_drewN | apply Kd.R_drew)); exact HO895.out) (Kd.R_base ho0) hb); have n2_ := Aside0.mk (Kd.R_lower (Kd.R_new' (Kd.R_new' ho0 (Kd.R_lt (by (with_reducible repeat (first | apply Kd.R_alloc | apply Kd.R_drewN | apply Kd.R_drew)); exact HO_5.out))) (Kd.R_lt (by (with_reducible repeat (first | apply Kd.R_alloc | apply Kd.R_drewN | apply Kd.R_drew)); exact HO895.out))) (below_size bw)); have n3_ := Aside0.mk (below_step bw hb); clear HO_5; clear HO895; clear HB; have HO_5 := n0_; have HO895 := n1_; have HO900 := n2_; have HB := n3_; clear n0_ n1_ n2_ n3_; (try clear hb); (try clear hb2); (try clear hk); (try clear hi); (try clear ho0); obtain ⟨Ao25, co25, eo25⟩ := Kd.R_slice HO895.out; subst eo25; obtain ⟨Ao26, co26, eo26⟩ := Kd.R_slice HO900.out; subst eo26) | ((with_reducible refine gate_callee (f := 27) rfl ?_); refine goesL_ (some 47) rfl rfl Tryd.func27 (by kernel_rfl) rfl #[.slice Ao25 t892.length co25, .slice Ao26 t897.length co26] rfl am ?_; (with_reducible refine (bulletinbook_SameTexts.calls k2 _ _ t892 _ _ t897 true _ ?side1 ?side2 ?side3 ?side4 A17.out).mono ?_); (case side1 => repeat (first | exact (Kd.R_reads' HO895.out).2.2 | (with_reducible refine Kd.C_alloc ?_ _) | (with_reducible refine Kd.C_drewN ?_ _) | (with_reducible refine Kd.C_drew ?_))); (case side2 => exact (Kd.R_reads' HO895.out).2.1); (case side3 => repeat (first | exact (Kd.R_reads' HO900.out).2.2 | (with_reducible refine Kd.C_alloc ?_ _) | (with_reducible refine Kd.C_drewN ?_ _) | (with_reducible refine Kd.C_drew ?_))); (case side4 => exact (Kd.R_reads' HO900.out).2.1); rintro e w' ⟨rfl, ⟨nd, rfl⟩⟩; refine ⟨_, rfl, ?_⟩) | (go_at_call 53; (with_reducible refine (bulletinlaw20_works.calls (hG := by first | exact hG | exact Glob.below hG (by first | exact HB.out | (repeat (first | (with_reducible first | exact HB.out | apply below_alloc | apply pw_below_drewN | apply below_drew1) | exact HB.out))) | exact Glob.drawn hG (by repeat (first | exact Drawn0.refl _ | apply Drawn0.step))) k2  t902 _ A20.out).mono ?_); rintro e w27 ⟨rfl, hb⟩; have n0_ := Aside0.mk (Kd.R_below (by (with_reducible repeat (first | apply Kd.R_alloc | apply Kd.R_drewN | apply Kd.R_drew)); exact HO_5.out) hb); have n1_ := Aside0.mk (Kd.R_below (by (with_reducible repeat (first | apply Kd.R_alloc | apply Kd.R_drewN | apply Kd.R_drew)); exact HO895.out) hb); have n2_ := Aside0.mk (Kd.R_below (by (with_reducible repeat (first | apply Kd.R_alloc | apply Kd.R_drewN | apply Kd.R_drew)); exact HO900.out) hb); have n3_ := Aside0.mk (below_step bw hb); clear HO_5; clear HO895; clear HO900; clear HB; have HO_5 := n0_; have HO895 := n1_; have HO900 := n2_; have HB := n3_; clear n0_ n1_ n2_ n3_; (try clear hb); (try clear hb2); (try clear hk); (try clear hi)))
         go_ret
         exact ⟨by first | rfl | (simp [errW_none, errW_some] <;> rfl) | (simp [*, errW_none, errW_some] <;> rfl), by repeat (first | (with_reducible first | exact HB.out | apply below_alloc | apply pw_below_drewN | apply below_drew1) | exact HB.out)⟩
        ·rw [if_neg c19] at H
         have c19b0 : (t893 == t898) = false := beq_eq_false_iff_ne.mpr c19
         have c19b1 : (t893 != t898) = true := bne_iff_ne.mpr c19
         obtain rfl := Option.some.inj H
         obtain ⟨Ao28, co28, eo28⟩ := Kd.R_slice HO_5.out
         subst eo28
         go_wp2_with (first | ((with_reducible refine gate_callee (f := 65) rfl ?_); refine goesL_ (some 35) rfl rfl Tryd.func65 (by kernel_rfl) rfl #[.slice Ao28 x5_2.length co28, .string (⟨#[98]⟩ : ByteArray)] rfl am ?_; (with_reducible refine (mime_Join.calls _ _ x5_2 (⟨#[98]⟩ : ByteArray) t891 _ ?side1 ?side2 A13.out).mono ?_); (case side1 => repeat (first | exact (Kd.R_reads' HO_5.out).2.2 | (with_reducible refine Kd.C_alloc ?_ _) | (with_reducible refine Kd.C_drewN ?_ _) | (with_reducible refine Kd.C_drew ?_))); (case side2 => exact (Kd.R_reads' HO_5.out).2.1); rintro e w29 ⟨rfl, hb⟩; refine ⟨_, rfl, ?_⟩; have n0_ := Aside0.mk (Kd.R_below (by (with_reducible repeat (first | apply Kd.R_alloc | apply Kd.R_drewN | apply Kd.R_drew)); exact HO_5.out) hb); have n1_ := Aside0.mk (below_step bw hb); clear HO_5; clear HB; have HO_5 := n0_; have HB := n1_; clear n0_ n1_; (try clear hb); (try clear hb2); (try clear hk); (try clear hi)) | ((with_reducible refine gate_callee (f := 62) rfl ?_); refine goesL_ (some 36) rfl rfl Tryd.func62 (by kernel_rfl) rfl #[.string t891, .string (⟨#[98]⟩ : ByteArray)] rfl am ?_; (with_reducible refine (mime_Split.calls (hG := by first | exact hG | exact Glob.below hG (by first | exact HB.out | (repeat (first | (with_reducible first | exact HB.out | apply below_alloc | apply pw_below_drewN | apply below_drew1) | exact HB.out))) | exact Glob.drawn hG (by repeat (first | exact Drawn0.refl _ | apply Drawn0.step))) t891 (⟨#[98]⟩ : ByteArray) t892 t893 _ A14.out).mono ?_); rintro e w30 ⟨v894, rfl, ho0, hb⟩; refine ⟨_, rfl, ?_⟩; have n0_ := Aside0.mk (Kd.R_elder' (by (with_reducible repeat (first | apply Kd.R_alloc | apply Kd.R_drewN | apply Kd.R_drew)); exact HO_5.out) (Kd.R_base ho0) hb); have n1_ := Aside0.mk (Kd.R_lower (Kd.R_new' ho0 (Kd.R_lt (by (with_reducible repeat (first | apply Kd.R_alloc | apply Kd.R_drewN | apply Kd.R_drew)); exact HO_5.out))) (below_size bw)); have n2_ := Aside0.mk (below_step bw hb); clear HO_5; clear HB; have HO_5 := n0_; have HO895 := n1_; have HB := n2_; clear n0_ n1_ n2_; (try clear hb); (try clear hb2); (try clear hk); (try clear hi); (try clear ho0)) | ((with_reducible refine gate_callee (f := 66) rfl ?_); refine goesL_ (some 41) rfl rfl Tryd.func66 (by kernel_rfl) rfl #[.slice Ao28 x5_2.length co28, .string (⟨#[98]⟩ : ByteArray)] rfl am ?_; (with_reducible refine (bulletinref20_Join.calls k2 _ _ x5_2 (⟨#[98]⟩ : ByteArray) t896 _ ?side1 ?side2 A15.out).mono ?_); (case side1 => repeat (first | exact (Kd.R_reads' HO_5.out).2.2 | (with_reducible refine Kd.C_alloc ?_ _) | (with_reducible refine Kd.C_drewN ?_ _) | (with_reducible refine Kd.C_drew ?_))); (case side2 => exact (Kd.R_reads' HO_5.out).2.1); rintro e w' ⟨rfl, ⟨nd, rfl⟩⟩; refine ⟨_, rfl, ?_⟩) | ((with_reducible refine gate_callee (f := 63) rfl ?_); refine goesL_ (some 42) rfl rfl Tryd.func63 (by kernel_rfl) rfl #[.string t896, .string (⟨#[98]⟩ : ByteArray)] rfl am ?_; (with_reducible refine (bulletinref20_Split.calls k2 t896 (⟨#[98]⟩ : ByteArray) t897 t898 _ A16.out).mono ?_); rintro e w31 ⟨v899, rfl, ho0, hb⟩; refine ⟨_, rfl, ?_⟩; have n0_ := Aside0.mk (Kd.R_elder' (by (with_reducible repeat (first | apply Kd.R_alloc | apply Kd.R_drewN | apply Kd.R_drew)); exact HO_5.out) (Kd.R_base ho0) hb); have n1_ := Aside0.mk (Kd.R_elder' (by (with_reducible repeat (first | apply Kd.R_alloc | apply Kd.R_drewN | apply Kd.R_drew)); exact HO895.out) (Kd.R_base ho0) hb); have n2_ := Aside0.mk (Kd.R_lower (Kd.R_new' (Kd.R_new' ho0 (Kd.R_lt (by (with_reducible repeat (first | apply Kd.R_alloc | apply Kd.R_drewN | apply Kd.R_drew)); exact HO_5.out))) (Kd.R_lt (by (with_reducible repeat (first | apply Kd.R_alloc | apply Kd.R_drewN | apply Kd.R_drew)); exact HO895.out))) (below_size bw)); have n3_ := Aside0.mk (below_step bw hb); clear HO_5; clear HO895; clear HB; have HO_5 := n0_; have HO895 := n1_; have HO900 := n2_; have HB := n3_; clear n0_ n1_ n2_ n3_; (try clear hb); (try clear hb2); (try clear hk); (try clear hi); (try clear ho0); obtain ⟨Ao32, co32, eo32⟩ := Kd.R_slice HO895.out; subst eo32; obtain ⟨Ao33, co33, eo33⟩ := Kd.R_slice HO900.out; subst eo33) | ((with_reducible refine gate_callee (f := 27) rfl ?_); refine goesL_ (some 47) rfl rfl Tryd.func27 (by kernel_rfl) rfl #[.slice Ao32 t892.length co32, .slice Ao33 t897.length co33] rfl am ?_; (with_reducible refine (bulletinbook_SameTexts.calls k2 _ _ t892 _ _ t897 true _ ?side1 ?side2 ?side3 ?side4 A17.out).mono ?_); (case side1 => repeat (first | exact (Kd.R_reads' HO895.out).2.2 | (with_reducible refine Kd.C_alloc ?_ _) | (with_reducible refine Kd.C_drewN ?_ _) | (with_reducible refine Kd.C_drew ?_))); (case side2 => exact (Kd.R_reads' HO895.out).2.1); (case side3 => repeat (first | exact (Kd.R_reads' HO900.out).2.2 | (with_reducible refine Kd.C_alloc ?_ _) | (with_reducible refine Kd.C_drewN ?_ _) | (with_reducible refine Kd.C_drew ?_))); (case side4 => exact (Kd.R_reads' HO900.out).2.1); rintro e w' ⟨rfl, ⟨nd, rfl⟩⟩; refine ⟨_, rfl, ?_⟩))
         go_ret
         exact ⟨by first | rfl | (simp [errW_none, errW_some] <;> rfl) | (simp [*, errW_none, errW_some] <;> rfl), by repeat (first | (with_reducible first | exact HB.out | apply below_alloc | apply pw_below_drewN | apply below_drew1) | exact HB.out)⟩
       ·replace c18 := Bool.eq_false_iff.mpr c18
        subst c18
        have H1 : (some false) = some r := by rw [if_neg (show ¬ (false = true) by decide)] at H; exact H
        clear H
        have H := H1
        clear H1
        obtain rfl := Option.some.inj H
        obtain ⟨Ao34, co34, eo34⟩ := Kd.R_slice HO_5.out
        subst eo34
        go_wp2_with (first | ((with_reducible refine gate_callee (f := 65) rfl ?_); refine goesL_ (some 35) rfl rfl Tryd.func65 (by kernel_rfl) rfl #[.slice Ao34 x5_2.length co34, .string (⟨#[98]⟩ : ByteArray)] rfl am ?_; (with_reducible refine (mime_Join.calls _ _ x5_2 (⟨#[98]⟩ : ByteArray) t891 _ ?side1 ?side2 A13.out).mono ?_); (case side1 => repeat (first | exact (Kd.R_reads' HO_5.out).2.2 | (with_reducible refine Kd.C_alloc ?_ _) | (with_reducible refine Kd.C_drewN ?_ _) | (with_reducible refine Kd.C_drew ?_))); (case side2 => exact (Kd.R_reads' HO_5.out).2.1); rintro e w35 ⟨rfl, hb⟩; refine ⟨_, rfl, ?_⟩; have n0_ := Aside0.mk (Kd.R_below (by (with_reducible repeat (first | apply Kd.R_alloc | apply Kd.R_drewN | apply Kd.R_drew)); exact HO_5.out) hb); have n1_ := Aside0.mk (below_step bw hb); clear HO_5; clear HB; have HO_5 := n0_; have HB := n1_; clear n0_ n1_; (try clear hb); (try clear hb2); (try clear hk); (try clear hi)) | ((with_reducible refine gate_callee (f := 62) rfl ?_); refine goesL_ (some 36) rfl rfl Tryd.func62 (by kernel_rfl) rfl #[.string t891, .string (⟨#[98]⟩ : ByteArray)] rfl am ?_; (with_reducible refine (mime_Split.calls (hG := by first | exact hG | exact Glob.below hG (by first | exact HB.out | (repeat (first | (with_reducible first | exact HB.out | apply below_alloc | apply pw_below_drewN | apply below_drew1) | exact HB.out))) | exact Glob.drawn hG (by repeat (first | exact Drawn0.refl _ | apply Drawn0.step))) t891 (⟨#[98]⟩ : ByteArray) t892 t893 _ A14.out).mono ?_); rintro e w36 ⟨v894, rfl, ho0, hb⟩; refine ⟨_, rfl, ?_⟩; have n0_ := Aside0.mk (Kd.R_elder' (by (with_reducible repeat (first | apply Kd.R_alloc | apply Kd.R_drewN | apply Kd.R_drew)); exact HO_5.out) (Kd.R_base ho0) hb); have n1_ := Aside0.mk (Kd.R_lower (Kd.R_new' ho0 (Kd.R_lt (by (with_reducible repeat (first | apply Kd.R_alloc | apply Kd.R_drewN | apply Kd.R_drew)); exact HO_5.out))) (below_size bw)); have n2_ := Aside0.mk (below_step bw hb); clear HO_5; clear HB; have HO_5 := n0_; have HO895 := n1_; have HB := n2_; clear n0_ n1_ n2_; (try clear hb); (try clear hb2); (try clear hk); (try clear hi); (try clear ho0)) | ((with_reducible refine gate_callee (f := 66) rfl ?_); refine goesL_ (some 41) rfl rfl Tryd.func66 (by kernel_rfl) rfl #[.slice Ao34 x5_2.length co34, .string (⟨#[98]⟩ : ByteArray)] rfl am ?_; (with_reducible refine (bulletinref20_Join.calls k2 _ _ x5_2 (⟨#[98]⟩ : ByteArray) t896 _ ?side1 ?side2 A15.out).mono ?_); (case side1 => repeat (first | exact (Kd.R_reads' HO_5.out).2.2 | (with_reducible refine Kd.C_alloc ?_ _) | (with_reducible refine Kd.C_drewN ?_ _) | (with_reducible refine Kd.C_drew ?_))); (case side2 => exact (Kd.R_reads' HO_5.out).2.1); rintro e w' ⟨rfl, ⟨nd, rfl⟩⟩; refine ⟨_, rfl, ?_⟩) | ((with_reducible refine gate_callee (f := 63) rfl ?_); refine goesL_ (some 42) rfl rfl Tryd.func63 (by kernel_rfl) rfl #[.string t896, .string (⟨#[98]⟩ : ByteArray)] rfl am ?_; (with_reducible refine (bulletinref20_Split.calls k2 t896 (⟨#[98]⟩ : ByteArray) t897 t898 _ A16.out).mono ?_); rintro e w37 ⟨v899, rfl, ho0, hb⟩; refine ⟨_, rfl, ?_⟩; have n0_ := Aside0.mk (Kd.R_elder' (by (with_reducible repeat (first | apply Kd.R_alloc | apply Kd.R_drewN | apply Kd.R_drew)); exact HO_5.out) (Kd.R_base ho0) hb); have n1_ := Aside0.mk (Kd.R_elder' (by (with_reducible repeat (first | apply Kd.R_alloc | apply Kd.R_drewN | apply Kd.R_drew)); exact HO895.out) (Kd.R_base ho0) hb); have n2_ := Aside0.mk (Kd.R_lower (Kd.R_new' (Kd.R_new' ho0 (Kd.R_lt (by (with_reducible repeat (first | apply Kd.R_alloc | apply Kd.R_drewN | apply Kd.R_drew)); exact HO_5.out))) (Kd.R_lt (by (with_reducible repeat (first | apply Kd.R_alloc | apply Kd.R_drewN | apply Kd.R_drew)); exact HO895.out))) (below_size bw)); have n3_ := Aside0.mk (below_step bw hb); clear HO_5; clear HO895; clear HB; have HO_5 := n0_; have HO895 := n1_; have HO900 := n2_; have HB := n3_; clear n0_ n1_ n2_ n3_; (try clear hb); (try clear hb2); (try clear hk); (try clear hi); (try clear ho0); obtain ⟨Ao38, co38, eo38⟩ := Kd.R_slice HO895.out; subst eo38; obtain ⟨Ao39, co39, eo39⟩ := Kd.R_slice HO900.out; subst eo39) | ((with_reducible refine gate_callee (f := 27) rfl ?_); refine goesL_ (some 47) rfl rfl Tryd.func27 (by kernel_rfl) rfl #[.slice Ao38 t892.length co38, .slice Ao39 t897.length co39] rfl am ?_; (with_reducible refine (bulletinbook_SameTexts.calls k2 _ _ t892 _ _ t897 false _ ?side1 ?side2 ?side3 ?side4 A17.out).mono ?_); (case side1 => repeat (first | exact (Kd.R_reads' HO895.out).2.2 | (with_reducible refine Kd.C_alloc ?_ _) | (with_reducible refine Kd.C_drewN ?_ _) | (with_reducible refine Kd.C_drew ?_))); (case side2 => exact (Kd.R_reads' HO895.out).2.1); (case side3 => repeat (first | exact (Kd.R_reads' HO900.out).2.2 | (with_reducible refine Kd.C_alloc ?_ _) | (with_reducible refine Kd.C_drewN ?_ _) | (with_reducible refine Kd.C_drew ?_))); (case side4 => exact (Kd.R_reads' HO900.out).2.1); rintro e w' ⟨rfl, ⟨nd, rfl⟩⟩; refine ⟨_, rfl, ?_⟩))
        go_ret
        exact ⟨by first | rfl | (simp [errW_none, errW_some] <;> rfl) | (simp [*, errW_none, errW_some] <;> rfl), by repeat (first | (with_reducible first | exact HB.out | apply below_alloc | apply pw_below_drewN | apply below_drew1) | exact HB.out)⟩


end Go.Proofs.YtgaaogijfikfeaaDoor.Fn
-- written by xprint.py of this session over the kit's printer; not trusted: Lean checks it
namespace Go.Proofs.YtgaaogijfikfeaaDoor.Fn
open Go.RowKit Go.Proofs.YtgaaogijfikfeaaDoorW.PrintWords Go.Proofs.YtgaaogijfikfeaaDoorW.PrintLast Go.Proofs.YtgaaogijfikfeaaDoorW.PrintMore
attribute [local go_sem] max2_int min2_int max_two min_two max_three min_three max_four min_four   -- for this text's walks alone
set_option linter.unusedVariables false
set_option linter.unusedSimpArgs false

/-! ### bulletinref12_among: function 139 -/
end Go.Proofs.YtgaaogijfikfeaaDoor.Fn
-- written by xprint.py of this session over the kit's printer; not trusted: Lean checks it
namespace Go.Proofs.YtgaaogijfikfeaaDoor.Fn
open Go.RowKit Go.Proofs.YtgaaogijfikfeaaDoorW.PrintWords Go.Proofs.YtgaaogijfikfeaaDoorW.PrintLast Go.Proofs.YtgaaogijfikfeaaDoorW.PrintMore
attribute [local go_sem] max2_int min2_int max_two min_two max_three min_three max_four min_four   -- for this text's walks alone
set_option linter.unusedVariables false
set_option linter.unusedSimpArgs false

/-! ### bulletinref12_atomic: function 132 -/
end Go.Proofs.YtgaaogijfikfeaaDoor.Fn
-- written by xprint.py of this session over the kit's printer; not trusted: Lean checks it
namespace Go.Proofs.YtgaaogijfikfeaaDoor.Fn
open Go.RowKit Go.Proofs.YtgaaogijfikfeaaDoorW.PrintWords Go.Proofs.YtgaaogijfikfeaaDoorW.PrintLast Go.Proofs.YtgaaogijfikfeaaDoorW.PrintMore
attribute [local go_sem] max2_int min2_int max_two min_two max_three min_three max_four min_four   -- for this text's walks alone
set_option linter.unusedVariables false
set_option linter.unusedSimpArgs false

/-! ### bulletinref12_IsAtom: function 88 -/
end Go.Proofs.YtgaaogijfikfeaaDoor.Fn
set_option linter.unusedVariables false
namespace Go.Proofs.YtgaaogijfikfeaaDoor.Pl
open Go.RowKit Go.Proofs.YtgaaogijfikfeaaDoorW.PrintWords Go.Proofs.YtgaaogijfikfeaaDoor.Fn

/-! Layer 12, the program's and the document's: which bytes are atomic; atoms. -/
def atomic (c : UInt8) : Bool := (lex_atomic.f (c.toNat : Int)).getD false
end Go.Proofs.YtgaaogijfikfeaaDoor.Pl
-- written by xprint.py of this session over the kit's printer; not trusted: Lean checks it
namespace Go.Proofs.YtgaaogijfikfeaaDoor.Fn
open Go.RowKit Go.Proofs.YtgaaogijfikfeaaDoorW.PrintWords Go.Proofs.YtgaaogijfikfeaaDoorW.PrintLast Go.Proofs.YtgaaogijfikfeaaDoorW.PrintMore
attribute [local go_sem] max2_int min2_int max_two min_two max_three min_three max_four min_four   -- for this text's walks alone
set_option linter.unusedVariables false
set_option linter.unusedSimpArgs false

/-! ### addr_labelled: function 183 -/
def addr_labelled.f (a0 : Int) : Option (Bool) := if a0 ≥ 97 then (if a0 ≤ 122 then (some true) else (if a0 ≥ 65 then (if a0 ≤ 90 then (some true) else (if a0 ≥ 48 then (if a0 ≤ 57 then (some true) else (some (a0 == 45))) else (some (a0 == 45)))) else (if a0 ≥ 48 then (if a0 ≤ 57 then (some true) else (some (a0 == 45))) else (some (a0 == 45))))) else (if a0 ≥ 65 then (if a0 ≤ 90 then (some true) else (if a0 ≥ 48 then (if a0 ≤ 57 then (some true) else (some (a0 == 45))) else (some (a0 == 45)))) else (if a0 ≥ 48 then (if a0 ≤ 57 then (some true) else (some (a0 == 45))) else (some (a0 == 45))))
end Go.Proofs.YtgaaogijfikfeaaDoor.Fn
-- written by xprint.py of this session over the kit's printer; not trusted: Lean checks it
namespace Go.Proofs.YtgaaogijfikfeaaDoor.Fn
open Go.RowKit Go.Proofs.YtgaaogijfikfeaaDoorW.PrintWords Go.Proofs.YtgaaogijfikfeaaDoorW.PrintLast Go.Proofs.YtgaaogijfikfeaaDoorW.PrintMore
attribute [local go_sem] max2_int min2_int max_two min_two max_three min_three max_four min_four   -- for this text's walks alone
set_option linter.unusedVariables false
set_option linter.unusedSimpArgs false

/-! ### addr_label: function 149 -/
end Go.Proofs.YtgaaogijfikfeaaDoor.Fn
set_option linter.unusedVariables false
namespace Go.Proofs.YtgaaogijfikfeaaDoor.Pl
open Go.RowKit Go.Proofs.YtgaaogijfikfeaaDoorW.PrintWords Go.Proofs.YtgaaogijfikfeaaDoor.Fn

/-! Layer 13, the program's: labels. -/
def labelled (c : UInt8) : Bool := (addr_labelled.f (c.toNat : Int)).getD false
def labelL (l : Bytes) : Bool := l.all labelled && (match l.head?, l.getLast? with | some a, some b => a != 45 && b != 45 | _, _ => false)
def label (s : ByteArray) : Bool := labelL (bs s)
end Go.Proofs.YtgaaogijfikfeaaDoor.Pl
set_option linter.unusedVariables false
namespace Go.Proofs.YtgaaogijfikfeaaDoor.Pl
def dots (s : ByteArray) : List ByteArray := Fn.cuts (Fn.findOne 46) 1 s
end Go.Proofs.YtgaaogijfikfeaaDoor.Pl
namespace Go.Proofs.YtgaaogijfikfeaaDoor.Fn
open Go.RowKit Go.Shelf Go.Proofs.YtgaaogijfikfeaaDoorW.PrintWords

attribute [local go_sem] Oper.semAt_some

end Go.Proofs.YtgaaogijfikfeaaDoor.Fn
set_option linter.unusedVariables false
namespace Go.Proofs.YtgaaogijfikfeaaDoor.Pl
def domLong (s : ByteArray) (l : List ByteArray) : Bool := decide (253 < (s.size : Int)) || l.any (fun x => decide (63 < (x.size : Int)))
def domain (s : ByteArray) : Int := if (dots s).all label = true then (if domLong s (dots s) = true then 2 else 0) else 130
end Go.Proofs.YtgaaogijfikfeaaDoor.Pl
namespace Go.Proofs.YtgaaogijfikfeaaDoor.Fn
open Go.RowKit Go.Shelf Go.Proofs.YtgaaogijfikfeaaDoorW.PrintWords

attribute [local go_sem] Oper.semAt_some

end Go.Proofs.YtgaaogijfikfeaaDoor.Fn
-- written by xprint.py of this session over the kit's printer; not trusted: Lean checks it
namespace Go.Proofs.YtgaaogijfikfeaaDoor.Fn
open Go.RowKit Go.Proofs.YtgaaogijfikfeaaDoorW.PrintWords Go.Proofs.YtgaaogijfikfeaaDoorW.PrintLast Go.Proofs.YtgaaogijfikfeaaDoorW.PrintMore
attribute [local go_sem] max2_int min2_int max_two min_two max_three min_three max_four min_four   -- for this text's walks alone
set_option linter.unusedVariables false
set_option linter.unusedSimpArgs false

/-! ### glyph_plain: function 179 -/
end Go.Proofs.YtgaaogijfikfeaaDoor.Fn
set_option linter.unusedVariables false
namespace Go.Proofs.YtgaaogijfikfeaaDoor.Pl
def plainR (r : Nat) : Bool := decide (32 ≤ r) && decide (r ≤ 126)
def plainFrom (s : ByteArray) : Nat → Nat → Bool
  | 0, _ => true
  | f + 1, pos => if pos < s.size then (if plainR (Utf8.decode s pos).1 = true then plainFrom s f (pos + (Utf8.decode s pos).2) else false) else true
def plain (s : ByteArray) : Bool := plainFrom s s.size 0
end Go.Proofs.YtgaaogijfikfeaaDoor.Pl
namespace Go.Proofs.YtgaaogijfikfeaaDoor.Fn
open Go.RowKit Go.Proofs.YtgaaogijfikfeaaDoorW.PrintWords

end Go.Proofs.YtgaaogijfikfeaaDoor.Fn
-- written by xprint.py of this session over the kit's printer; not trusted: Lean checks it
namespace Go.Proofs.YtgaaogijfikfeaaDoor.Fn
open Go.RowKit Go.Proofs.YtgaaogijfikfeaaDoorW.PrintWords Go.Proofs.YtgaaogijfikfeaaDoorW.PrintLast Go.Proofs.YtgaaogijfikfeaaDoorW.PrintMore
attribute [local go_sem] max2_int min2_int max_two min_two max_three min_three max_four min_four   -- for this text's walks alone
set_option linter.unusedVariables false
set_option linter.unusedSimpArgs false

/-! ### addr_Addr_Text: function 82 -/
end Go.Proofs.YtgaaogijfikfeaaDoor.Fn
-- written by xprint.py of this session over the kit's printer; not trusted: Lean checks it
namespace Go.Proofs.YtgaaogijfikfeaaDoor.Fn
open Go.RowKit Go.Proofs.YtgaaogijfikfeaaDoorW.PrintWords Go.Proofs.YtgaaogijfikfeaaDoorW.PrintLast Go.Proofs.YtgaaogijfikfeaaDoorW.PrintMore
attribute [local go_sem] max2_int min2_int max_two min_two max_three min_three max_four min_four   -- for this text's walks alone
set_option linter.unusedVariables false
set_option linter.unusedSimpArgs false

/-! ### addr_Addr_Key: function 147 -/
end Go.Proofs.YtgaaogijfikfeaaDoor.Fn
-- written by xprint.py of this session over the kit's printer; not trusted: Lean checks it
namespace Go.Proofs.YtgaaogijfikfeaaDoor.Fn
open Go.RowKit Go.Proofs.YtgaaogijfikfeaaDoorW.PrintWords Go.Proofs.YtgaaogijfikfeaaDoorW.PrintLast Go.Proofs.YtgaaogijfikfeaaDoorW.PrintMore
attribute [local go_sem] max2_int min2_int max_two min_two max_three min_three max_four min_four   -- for this text's walks alone
set_option linter.unusedVariables false
set_option linter.unusedSimpArgs false

theorem eqA51 (d : Nat) (w : World) (x0 y0 : ByteArray) (x1 y1 : ByteArray) :
    (Op.equalIn (d + 2) 51 (.agg #[.string x0, .string x1]) (.agg #[.string y0, .string y1])).run Tryd.prog w = .ok (x0.toList == y0.toList && (x1.toList == y1.toList)) w := by
  refine eqA_of Tryd.underlying51 (by kernel_rfl) ?_
  refine eqf_cons (by rfl) (by go_simp; rfl) (by go_simp; rfl) (by go_simp) ?_
  exact eqf_last (by rfl) (by go_simp; rfl) (by go_simp; rfl) (by go_simp)
end Go.Proofs.YtgaaogijfikfeaaDoor.Fn
-- written by xprint.py of this session over the kit's printer; not trusted: Lean checks it
namespace Go.Proofs.YtgaaogijfikfeaaDoor.Fn
open Go.RowKit Go.Proofs.YtgaaogijfikfeaaDoorW.PrintWords Go.Proofs.YtgaaogijfikfeaaDoorW.PrintLast Go.Proofs.YtgaaogijfikfeaaDoorW.PrintMore
attribute [local go_sem] max2_int min2_int max_two min_two max_three min_three max_four min_four   -- for this text's walks alone
set_option linter.unusedVariables false
set_option linter.unusedSimpArgs false

/-! ### addr_why: function 98 -/
end Go.Proofs.YtgaaogijfikfeaaDoor.Fn
-- written by xprint.py of this session over the kit's printer; not trusted: Lean checks it
namespace Go.Proofs.YtgaaogijfikfeaaDoor.Fn
open Go.RowKit Go.Proofs.YtgaaogijfikfeaaDoorW.PrintWords Go.Proofs.YtgaaogijfikfeaaDoorW.PrintLast Go.Proofs.YtgaaogijfikfeaaDoorW.PrintMore
attribute [local go_sem] max2_int min2_int max_two min_two max_three min_three max_four min_four   -- for this text's walks alone
set_option linter.unusedVariables false
set_option linter.unusedSimpArgs false

attribute [local go_sem high] eqA51
/-! ### addr_Addr_Right: function 48 -/
end Go.Proofs.YtgaaogijfikfeaaDoor.Fn
set_option linter.unusedVariables false
namespace Go.Proofs.YtgaaogijfikfeaaDoor.Pl
open Go.RowKit Go.Proofs.YtgaaogijfikfeaaDoorW.PrintWords Go.Proofs.YtgaaogijfikfeaaDoor.Fn

/-! Layer 13, the program's, over lists of bytes. -/
theorem mono_up {α : Type} {f : Nat → Option α} (h : ∀ k, LeO (f k) (f (k + 1))) {r : α} {k : Nat} (hr : f k = some r) : ∀ (k' : Nat), k ≤ k' → f k' = some r := by
  intro k' hk
  obtain ⟨d, rfl⟩ : ∃ d, k' = k + d := ⟨k' - k, by omega⟩
  clear hk
  induction d with
  | zero => exact hr
  | succ d ih => exact h (k + d) r ih

def splitL (c : UInt8) : Bytes → List Bytes
  | [] => [[]]
  | x :: l => if x = c then [] :: splitL c l else match splitL c l with
    | [] => [[x]]
    | w :: r => (x :: w) :: r
def atomL (w : Bytes) : Bool := w.all atomic && !w.isEmpty
def dottedL (l : Bytes) : Bool := (splitL 46 l).all atomL
/-! Quote -/
def text (c : UInt8) : Bool := (lex_text.f (c.toNat : Int)).getD false
def qB (c : UInt8) : Bytes := if c = 34 ∨ c = 92 then [92, c] else if text c = true then [c] else [32]
def quote (l : Bytes) : Bytes := 34 :: (l.flatMap qB ++ [34])
theorem byte_eq (c : UInt8) (n : Nat) (h : n < 256) : ((c.toNat : Int) = (n : Int)) = (c = UInt8.ofNat n) := by
  apply propext
  constructor
  · intro q
    apply UInt8.toNat_inj.1
    simp
    omega
  · intro q
    rw [q]
    simp
    omega
/-! Text, Key, why, Right -/
def localL (a : Bytes) : Bytes := if dottedL a = true then a else quote a
def textL (a b : Bytes) : Bytes := localL a ++ 64 :: b
def why (a b : ByteArray) : Int :=
  if domain b = 130 ∨ bs a = [] ∨ plain a = false then 130
  else if domain b ≠ 0 ∨ 64 < a.size ∨ 254 < (textL (bs a) (bs b)).length then 2 else 0
end Go.Proofs.YtgaaogijfikfeaaDoor.Pl
set_option linter.unusedVariables false
namespace Go.Proofs.YtgaaogijfikfeaaDoor.Pl
open Go.RowKit Go.Proofs.YtgaaogijfikfeaaDoorW.PrintWords Go.Proofs.YtgaaogijfikfeaaDoor.Fn
set_option maxRecDepth 100000 in
theorem works20_at : bulletinlaw20_works.f 300 = some true := by decide +kernel
theorem works20 (k : Nat) (hk : 300 ≤ k) : bulletinlaw20_works.f k = some true := mono_up bulletinlaw20_works.mono works20_at k hk
theorem mimesplit_is (body b : ByteArray) (h1 : body.size ≤ 1000000) (h2 : b.size ≤ 1000000) : mime_Split.f body b = some (mimeSplit body b) := by
  unfold mime_Split.f
  rw [if_pos h1, if_pos h2]
theorem sameTexts_l0 (l : List ByteArray) (hl : l.length ≤ 1000000000) : ∀ (n i k : Nat), i + n = l.length → n < k → bulletinbook_SameTexts.l0 k l l true (i : Int) = some true
  | 0, i, k, hi, hk => by
    obtain ⟨k, rfl⟩ : ∃ j, k = j + 1 := ⟨k - 1, by omega⟩
    rw [bulletinbook_SameTexts.l0, if_pos rfl, if_neg (by omega)]
  | n + 1, i, k, hi, hk => by
    obtain ⟨k, rfl⟩ : ∃ j, k = j + 1 := ⟨k - 1, by omega⟩
    rw [bulletinbook_SameTexts.l0, if_pos rfl, if_pos (by omega), if_pos (by omega), if_pos (by omega), wrap_succ i (by omega), beq_self_eq_true]
    exact sameTexts_l0 l hl n (i + 1) k (by omega) (by omega)
theorem sameTexts_is (l : List ByteArray) (hl : l.length ≤ 1000000000) (k : Nat) (hk : l.length < k) : bulletinbook_SameTexts.f k l l = some true := by
  unfold bulletinbook_SameTexts.f
  rw [beq_self_eq_true]
  exact sameTexts_l0 l hl l.length 0 k (by omega) hk
end Go.Proofs.YtgaaogijfikfeaaDoor.Pl
-- written by xprint.py of this session over the kit's printer; not trusted: Lean checks it
namespace Go.Proofs.YtgaaogijfikfeaaDoor.Fn
open Go.RowKit Go.Proofs.YtgaaogijfikfeaaDoorW.PrintWords Go.Proofs.YtgaaogijfikfeaaDoorW.PrintLast Go.Proofs.YtgaaogijfikfeaaDoorW.PrintMore
attribute [local go_sem] max2_int min2_int max_two min_two max_three min_three max_four min_four   -- for this text's walks alone
set_option linter.unusedVariables false
set_option linter.unusedSimpArgs false

/-! ### head_named: function 163 -/
def head_named.l0 : Nat → ByteArray → Int → Int → Option (Bool)
 | 0, _, _, _ => none
 | k + 1, x0, x6, x7 => if x7 < x6 then (if 0 ≤ x7 then (if x7 < (x0.size : Int) then (if (bt x0 x7) ≤ 32 then (some false) else (if (bt x0 x7) > 126 then (some false) else (if (bt x0 x7) = 58 then (some false) else (head_named.l0 k x0 x6 (wrap64 (x7 + 1)))))) else (none)) else (none)) else (if x0.toList = ([] : List UInt8) then (some false) else (some (decide ((x0.size : Int) ≤ 76))))
def head_named.f (k : Nat) (a0 : ByteArray) : Option (Bool) := head_named.l0 k a0 (a0.size : Int) 0
end Go.Proofs.YtgaaogijfikfeaaDoor.Fn
-- written by xprint.py of this session over the kit's printer; not trusted: Lean checks it
namespace Go.Proofs.YtgaaogijfikfeaaDoor.Fn
open Go.RowKit Go.Proofs.YtgaaogijfikfeaaDoorW.PrintWords Go.Proofs.YtgaaogijfikfeaaDoorW.PrintLast Go.Proofs.YtgaaogijfikfeaaDoorW.PrintMore
attribute [local go_sem] max2_int min2_int max_two min_two max_three min_three max_four min_four   -- for this text's walks alone
set_option linter.unusedVariables false
set_option linter.unusedSimpArgs false

/-! ### head_text: function 161 -/
def head_text.l0 : Nat → ByteArray → Int → Int → Option (Bool)
 | 0, _, _, _ => none
 | k + 1, x0, x6, x7 => if x7 < x6 then (if 0 ≤ x7 then (if x7 < (x0.size : Int) then (if (bt x0 x7) < 32 then (if (bt x0 x7) = 9 then (if (bt x0 x7) = 127 then (some false) else (head_text.l0 k x0 x6 (wrap64 (x7 + 1)))) else (some false)) else (if (bt x0 x7) = 127 then (some false) else (head_text.l0 k x0 x6 (wrap64 (x7 + 1))))) else (none)) else (none)) else (some true)
def head_text.f (k : Nat) (a0 : ByteArray) : Option (Bool) := head_text.l0 k a0 (a0.size : Int) 0
end Go.Proofs.YtgaaogijfikfeaaDoor.Fn
-- written by xprint.py of this session over the kit's printer; not trusted: Lean checks it
namespace Go.Proofs.YtgaaogijfikfeaaDoor.Fn
open Go.RowKit Go.Proofs.YtgaaogijfikfeaaDoorW.PrintWords Go.Proofs.YtgaaogijfikfeaaDoorW.PrintLast Go.Proofs.YtgaaogijfikfeaaDoorW.PrintMore
attribute [local go_sem] max2_int min2_int max_two min_two max_three min_three max_four min_four   -- for this text's walks alone
set_option linter.unusedVariables false
set_option linter.unusedSimpArgs false

/-! ### head_white: function 162 -/
def head_white.f (a0 : ByteArray) : Option (Bool) := if a0.toList = ([] : List UInt8) then (some false) else (if 0 < (a0.size : Int) then (if (bt a0 0) = 32 then (some true) else (some ((bt a0 0) == 9))) else (none))
end Go.Proofs.YtgaaogijfikfeaaDoor.Fn
-- written by xprint.py of this session over the kit's printer; not trusted: Lean checks it
namespace Go.Proofs.YtgaaogijfikfeaaDoor.Fn
open Go.RowKit Go.Proofs.YtgaaogijfikfeaaDoorW.PrintWords Go.Proofs.YtgaaogijfikfeaaDoorW.PrintLast Go.Proofs.YtgaaogijfikfeaaDoorW.PrintMore
attribute [local go_sem] max2_int min2_int max_two min_two max_three min_three max_four min_four   -- for this text's walks alone
set_option linter.unusedVariables false
set_option linter.unusedSimpArgs false

/-! ### head_grow: function 124 -/
mutual
def head_grow.j0 : Nat → List (S30) → ByteArray → Bool → Option ((List (S30)) × Int)
 | 0, _, _, _ => none
 | k + 1, x0, x1, x13 => if x13 = true then (some (([] : List (S30)), 150)) else ((head_white.f x1).bind fun t364 => (if t364 = true then (if 0 ≤ (wrap64 ((x0.length : Int) - 1)) then (if (wrap64 ((x0.length : Int) - 1)) < (x0.length : Int) then (if ((rd_T30 x0 (wrap64 ((x0.length : Int) - 1))).f1).size + x1.size ≤ 9223372036854775807 then (some ((x0.set ((wrap64 ((x0.length : Int) - 1)) : Int).toNat (⟨(rd_T30 x0 (wrap64 ((x0.length : Int) - 1))).f0, ((rd_T30 x0 (wrap64 ((x0.length : Int) - 1))).f1) ++ x1⟩ : S30)), 0)) else (none)) else (none)) else (none)) else ((strings_Cut.f x1 (⟨#[58]⟩ : ByteArray)).bind fun bt367 => (if bt367.2.2 = true then ((head_named.f k bt367.1).bind fun t370 => (head_grow.j1 k x0 bt367.1 bt367.2.1 (!t370))) else (head_grow.j1 k x0 bt367.1 bt367.2.1 true)))))
def head_grow.j1 : Nat → List (S30) → ByteArray → ByteArray → Bool → Option ((List (S30)) × Int)
 | 0, _, _, _, _ => none
 | k + 1, x0, x6, x7, x47 => if x47 = true then (some (([] : List (S30)), 150)) else (if (x0.length : Int) = 100 then (some (([] : List (S30)), 8)) else (if x0.length < 4398046511104 then (some ((x0 ++ [(⟨x6, x7⟩ : S30)]), 0)) else (none)))
end
def head_grow.f (k : Nat) (l0 : List (S30)) (a1 : ByteArray) : Option ((List (S30)) × Int) := if (a1.size : Int) > 998 then (some (([] : List (S30)), 2)) else ((head_text.f k a1).bind fun t362 => (if t362 = true then ((head_white.f a1).bind fun t363 => (if t363 = true then (head_grow.j0 k l0 a1 ((l0.length : Int) == 0)) else (head_grow.j0 k l0 a1 false))) else (head_grow.j0 k l0 a1 true)))
end Go.Proofs.YtgaaogijfikfeaaDoor.Fn
set_option linter.unusedVariables false
namespace Go.Proofs.YtgaaogijfikfeaaDoor.Fn
open Go.RowKit Go.Proofs.YtgaaogijfikfeaaDoorW.PrintWords

def strings_Trim.f (a0 a1 : ByteArray) : Option ByteArray :=
  if a0.size ≤ 140737488355328 then (if a1.size ≤ 1000 then (if a1.data.toList.all (fun b => decide (b.toNat < 128)) = true then some (Pl.str (Lib.trimS a0.data.toList a1.data.toList)) else none) else none) else none
end Go.Proofs.YtgaaogijfikfeaaDoor.Fn
-- written by xprint.py of this session over the kit's printer; not trusted: Lean checks it
namespace Go.Proofs.YtgaaogijfikfeaaDoor.Fn
open Go.RowKit Go.Proofs.YtgaaogijfikfeaaDoorW.PrintWords Go.Proofs.YtgaaogijfikfeaaDoorW.PrintLast Go.Proofs.YtgaaogijfikfeaaDoorW.PrintMore
attribute [local go_sem] max2_int min2_int max_two min_two max_three min_three max_four min_four   -- for this text's walks alone
set_option linter.unusedVariables false
set_option linter.unusedSimpArgs false

/-! ### head_trim: function 125 -/
def head_trim.f (a0 : ByteArray) : Option (ByteArray) := (strings_Trim.f a0 (⟨#[32, 9]⟩ : ByteArray)).bind fun t376 => (some t376)
end Go.Proofs.YtgaaogijfikfeaaDoor.Fn
-- written by xprint.py of this session over the kit's printer; not trusted: Lean checks it
namespace Go.Proofs.YtgaaogijfikfeaaDoor.Fn
open Go.RowKit Go.Proofs.YtgaaogijfikfeaaDoorW.PrintWords Go.Proofs.YtgaaogijfikfeaaDoorW.PrintLast Go.Proofs.YtgaaogijfikfeaaDoorW.PrintMore
attribute [local go_sem] max2_int min2_int max_two min_two max_three min_three max_four min_four   -- for this text's walks alone
set_option linter.unusedVariables false
set_option linter.unusedSimpArgs false

/-! ### head_Parse: function 73 -/
mutual
def head_Parse.j1 : Nat → List (S30) → ByteArray → Option ((List (S30)) × ByteArray × Int)
 | 0, _, _ => none
 | k + 1, x2, x3 => head_Parse.l1 k x2 x3 (x2.length : Int) 0
def head_Parse.l1 : Nat → List (S30) → ByteArray → Int → Int → Option ((List (S30)) × ByteArray × Int)
 | 0, _, _, _, _ => none
 | k + 1, x2, x3, x33, x34 => if x34 < x33 then (if 0 ≤ x34 then (if x34 < (x2.length : Int) then ((head_trim.f ((rd_T30 x2 x34).f1)).bind fun t385 => (head_Parse.l1 k (x2.set (x34 : Int).toNat (⟨(rd_T30 x2 x34).f0, t385⟩ : S30)) x3 x33 (wrap64 (x34 + 1)))) else (none)) else (none)) else (some (x2, x3, 0))
def head_Parse.l0 : Nat → ByteArray → List (S30) → ByteArray → Option ((List (S30)) × ByteArray × Int)
 | 0, _, _, _ => none
 | k + 1, x0, x2, x3 => if x0.toList = ([] : List UInt8) then (head_Parse.j1 k x2 x3) else ((strings_Cut.f x0 (⟨#[13, 10]⟩ : ByteArray)).bind fun bt377 => (if bt377.2.2 = true then (if bt377.1.toList = ([] : List UInt8) then (head_Parse.j1 k x2 bt377.2.1) else ((head_grow.f k x2 bt377.1).bind fun bt380 => (if bt380.2 = 0 then (head_Parse.l0 k bt377.2.1 bt380.1 x3) else (some (([] : List (S30)), (⟨#[]⟩ : ByteArray), bt380.2))))) else (some (([] : List (S30)), (⟨#[]⟩ : ByteArray), 9))))
end
end Go.Proofs.YtgaaogijfikfeaaDoor.Fn
set_option linter.unusedVariables false
namespace Go.Proofs.YtgaaogijfikfeaaDoor.Fn
open Go.RowKit Go.Proofs.YtgaaogijfikfeaaDoorW.PrintWords

/-! strings.IndexRune of a blank text at a sign beyond ASCII: -1. -/
end Go.Proofs.YtgaaogijfikfeaaDoor.Fn
set_option linter.unusedVariables false
namespace Go.Proofs.YtgaaogijfikfeaaDoor.Fn
open Go.RowKit Go.Proofs.YtgaaogijfikfeaaDoorW.PrintWords

end Go.Proofs.YtgaaogijfikfeaaDoor.Fn
set_option linter.unusedVariables false
namespace Go.Proofs.YtgaaogijfikfeaaDoor.Fn
open Go.RowKit Go.Proofs.YtgaaogijfikfeaaDoorW.PrintWords

end Go.Proofs.YtgaaogijfikfeaaDoor.Fn
-- written by xprint.py of this session over the kit's printer; not trusted: Lean checks it
namespace Go.Proofs.YtgaaogijfikfeaaDoor.Fn
open Go.RowKit Go.Proofs.YtgaaogijfikfeaaDoorW.PrintWords Go.Proofs.YtgaaogijfikfeaaDoorW.PrintLast Go.Proofs.YtgaaogijfikfeaaDoorW.PrintMore
attribute [local go_sem] max2_int min2_int max_two min_two max_three min_three max_four min_four   -- for this text's walks alone
set_option linter.unusedVariables false
set_option linter.unusedSimpArgs false

/-! ### head_piece: function 126 -/
end Go.Proofs.YtgaaogijfikfeaaDoor.Fn
set_option linter.unusedVariables false
set_option linter.unusedSimpArgs false
namespace Go.Proofs.YtgaaogijfikfeaaDoor.Pl
open Go.RowKit Go.Proofs.YtgaaogijfikfeaaDoorW.PrintWords Go.Proofs.YtgaaogijfikfeaaDoor.Fn

/-! head: how a field is written, in pieces. -/
def wb (c : UInt8) : Bool := ([32, 9] : List UInt8).contains c
def lead (s : Bytes) : Nat := (s.takeWhile wb).length
def word (s : Bytes) : Nat := (s.takeWhile (fun c => !wb c)).length
end Go.Proofs.YtgaaogijfikfeaaDoor.Pl
set_option linter.unusedVariables false
set_option linter.unusedSimpArgs false
namespace Go.Proofs.YtgaaogijfikfeaaDoor.Pl
open Go.RowKit Go.Proofs.YtgaaogijfikfeaaDoorW.PrintWords Go.Proofs.YtgaaogijfikfeaaDoor.Fn

/-! head.Parse as a machine over lists of bytes. -/
def nameB (c : UInt8) : Bool := !decide (c.toNat < 33) && (!decide (126 < c.toNat) && !decide (c.toNat = 58))
def named (s : Bytes) : Bool := s.all nameB && (!decide (s = []) && decide (s.length ≤ 76))
def crlf : Bytes → Option Nat
  | [] => none
  | c :: r => if c = 13 ∧ r.head? = some 10 then some 0 else (crlf r).map (· + 1)
def upto (c : UInt8) : Bytes → Nat
  | [] => 0
  | d :: r => if d = c then 0 else upto c r + 1
theorem crlf_room : ∀ {s : Bytes} {i : Nat}, crlf s = some i → i + 2 ≤ s.length
  | [], i, h => by simp [crlf] at h
  | c :: r, i, h => by
    unfold crlf at h
    split at h
    · rename_i hc
      injection h with h
      subst h
      cases r with
      | nil => simp at hc
      | cons d r => simp
    · rw [Option.map_eq_some_iff] at h
      obtain ⟨j, hj, rfl⟩ := h
      have := crlf_room hj
      simp only [List.length_cons]; omega
theorem index_crlf : ∀ (s : Bytes), Lib.index s [13, 10] = (match crlf s with | some i => (i : Int) | none => -1)
  | [] => rfl
  | c :: r => by
    have ih := index_crlf r
    rw [Lib.index, crlf]
    by_cases h : c = 13 ∧ r.head? = some 10
    · rw [if_pos h]
      obtain ⟨rfl, h2⟩ := h
      cases r with
      | nil => simp at h2
      | cons d r =>
        simp at h2
        subst h2
        rw [if_pos (by simp [List.isPrefixOf])]
        rfl
    · rw [if_neg h]
      have hp : ([13, 10] : Bytes).isPrefixOf (c :: r) = false := by
        cases r with
        | nil => simp [List.isPrefixOf]
        | cons d r =>
          simp only [List.head?_cons, Option.some.injEq] at h
          simp [List.isPrefixOf]
          intro h1 h2
          exact h ⟨h1.symm, h2.symm⟩
      rw [hp, if_neg (by decide), ih]
      cases crlf r with
      | none => rfl
      | some i =>
        simp only [Option.map_some]
        rw [if_neg (by first | (simp; done) | (simp; omega))]
        show (i : Int) + 1 = ((i + 1 : Nat) : Int)
        omega
end Go.Proofs.YtgaaogijfikfeaaDoor.Pl
set_option linter.unusedVariables false
set_option linter.unusedSimpArgs false
namespace Go.Proofs.YtgaaogijfikfeaaDoor.Pl
open Go.RowKit Go.Proofs.YtgaaogijfikfeaaDoorW.PrintWords Go.Proofs.YtgaaogijfikfeaaDoor.Fn

/-! Layer 20, the document's: the parts of a body. -/
def consHead (c : UInt8) : List Bytes → List Bytes
  | [] => [[c]]
  | w :: r => (c :: w) :: r
def linesB : Bytes → List Bytes
  | [] => [[]]
  | [c] => [[c]]
  | c :: d :: l => if c = 13 ∧ d = 10 then [] :: linesB l else consHead c (linesB (d :: l))
theorem linesB_ne (l : Bytes) : linesB l ≠ [] := by
  unfold linesB
  split
  · simp
  · simp
  · split
    · simp
    · unfold consHead
      split <;> simp
theorem linesB_none : ∀ l : Bytes, crlf l = none → linesB l = [l]
  | [], _ => rfl
  | [c], _ => rfl
  | c :: d :: l, h => by
    rw [crlf] at h
    by_cases hc : c = 13 ∧ d = 10
    · rw [if_pos ⟨hc.1, by simp [hc.2]⟩] at h; cases h
    · rw [if_neg (by simpa using hc)] at h
      have h2 : crlf (d :: l) = none := by
        cases hq : crlf (d :: l) with
        | none => rfl
        | some i => rw [hq] at h; cases h
      rw [linesB, if_neg hc, linesB_none (d :: l) h2]
      rfl
theorem linesB_some : ∀ (l : Bytes) (i : Nat), crlf l = some i → linesB l = l.take i :: linesB (l.drop (i + 2))
  | [], i, h => by cases h
  | [c], i, h => by simp [crlf] at h
  | c :: d :: l, i, h => by
    rw [crlf] at h
    by_cases hc : c = 13 ∧ d = 10
    · rw [if_pos ⟨hc.1, by simp [hc.2]⟩] at h
      injection h with h
      subst h
      rw [linesB, if_pos hc]
      rfl
    · rw [if_neg (by simpa using hc), Option.map_eq_some_iff] at h
      obtain ⟨j, hj, rfl⟩ := h
      rw [linesB, if_neg hc, linesB_some (d :: l) j hj]
      rfl
theorem cuts_crlf : ∀ (n : Nat) (s : ByteArray), s.size ≤ n → (Fn.cuts findCrlf 2 s).map bs = linesB (bs s)
  | n, s, hn => by
    have hi := index_crlf (bs s)
    have hf : findCrlf s = Lib.index (bs s) [13, 10] := rfl
    cases hc : crlf (bs s) with
    | none =>
      rw [hc] at hi
      rw [cuts_last finds_crlf s (by rw [hf, hi]; decide), linesB_none _ hc]
      rfl
    | some i =>
      rw [hc] at hi
      have hr := crlf_room hc
      rw [bs_length] at hr
      have h0 : findCrlf s = (i : Int) := by rw [hf, hi]
      have ht : (bs s).take s.size = bs s := List.take_of_length_le (by rw [bs_length]; exact Nat.le_refl _)
      rw [cuts_more finds_crlf s (by omega), linesB_some _ i hc, h0, List.map_cons, Int.toNat_natCast]
      cases n with
      | zero => omega
      | succ n =>
        have hz : (s.extract (i + 2) s.size).size ≤ n := by simp only [ByteArray.size_extract]; omega
        rw [cuts_crlf n _ hz, bs_extract, bs_extract, List.drop_zero, ht]
theorem linesL_is (s : ByteArray) : linesL s = (linesB (bs s)).map str := by
  have h := cuts_crlf s.size s (Nat.le_refl _)
  unfold linesL
  rw [← h, List.map_map, show str ∘ bs = id from funext str_bs, List.map_id]
def headApp (w : Bytes) : List Bytes → List Bytes
  | [] => [w]
  | h :: t => (w ++ h) :: t
theorem refLines_l0 (s : ByteArray) (hs : s.size ≤ 1000000) : ∀ (n k i : Nat) (l w : Bytes) (out : List ByteArray), l.length ≤ n → n < k → (bs s).drop i = l → i ≤ (bs s).length → out.length + w.length ≤ 2 * i →
    bulletinref17_Lines.l0 k s out (str w) (i : Int) = some (out ++ (headApp w (linesB l)).map str)
  | n, k, i, [], w, out, hn, hk, hd, hi, ho => by
    obtain ⟨k, rfl⟩ : ∃ j, k = j + 1 := ⟨k - 1, by omega⟩
    have := drop_nil hd
    rw [bs_length] at this hi
    rw [bulletinref17_Lines.l0, if_neg (by omega), if_pos (by omega)]
    simp [linesB, headApp]
  | 0, k, i, c :: l, w, out, hn, hk, hd, hi, ho => by simp at hn
  | n + 1, k, i, c :: l, w, out, hn, hk, hd, hi, ho => by
    obtain ⟨k, rfl⟩ : ∃ j, k = j + 1 := ⟨k - 1, by omega⟩
    obtain ⟨h1, h2, h3, h4⟩ := drop_cons hd
    have h5 : i < s.size := by rw [bs_length] at h1; exact h1
    simp only [List.length_cons] at hn
    have hx : str w ++ s.extract i (i + 1) = str (w ++ [c]) := by rw [extract_one hd, str_app]
    have hz : (s.extract i (i + 1)).size = 1 := by rw [extract_one hd, str_size]; rfl
    have e13 : ((c.toNat : Int) = 13) = (c = 13) := byte_eq c 13 (by decide)
    have step : linesB (c :: l) = consHead c (linesB l) → bulletinref17_Lines.l0 k s out (str (w ++ [c])) ((i + 1 : Nat) : Int) = some (out ++ (headApp w (linesB (c :: l))).map str) := by
      intro he
      rw [refLines_l0 s hs n k (i + 1) l (w ++ [c]) out (by omega) (by omega) h3 (by omega) (by rw [List.length_append]; simp only [List.length_cons, List.length_nil]; omega), he]
      cases hl : linesB l with
      | nil => exact absurd hl (linesB_ne l)
      | cons a r => simp [consHead, headApp]
    have push : linesB (c :: l) = consHead c (linesB l) → (if (i : Int) ≤ wrap64 ((i : Int) + 1) then (if wrap64 ((i : Int) + 1) ≤ (s.size : Int) then (if (str w).size + (s.extract (i : Int).toNat (wrap64 ((i : Int) + 1)).toNat).size ≤ 9223372036854775807 then (bulletinref17_Lines.l0 k s out (str w ++ s.extract (i : Int).toNat (wrap64 ((i : Int) + 1)).toNat) (wrap64 ((i : Int) + 1))) else none) else none) else none) = some (out ++ (headApp w (linesB (c :: l))).map str) := by
      intro he
      rw [wrap_succ i (by omega), if_pos (by omega), if_pos (by omega), Int.toNat_natCast, Int.toNat_natCast, if_pos (by rw [hz, str_size]; rw [bs_length] at hi; omega), hx]
      exact step he
    rw [bulletinref17_Lines.l0, if_pos (by omega), if_pos (by omega), bt_drop hd]
    by_cases c13 : c = 13
    · rw [if_pos (by rw [e13]; exact c13)]
      cases l with
      | nil =>
        have hq := drop_nil h3
        rw [bs_length] at hq
        rw [if_neg (by rw [wrap_succ i (by omega)]; omega)]
        exact push rfl
      | cons d r =>
        obtain ⟨g1, g2, g3, g4⟩ := drop_cons h3
        rw [bs_length] at g1
        have e10 : ((d.toNat : Int) = 10) = (d = 10) := byte_eq d 10 (by decide)
        rw [if_pos (by rw [wrap_succ i (by omega)]; omega), if_pos (by rw [wrap_succ i (by omega)]; omega)]
        rw [show bt s (wrap64 ((i : Int) + 1)) = (d.toNat : Int) from by rw [wrap_succ i (by omega)]; exact bt_drop h3]
        simp only [List.length_cons] at hn
        by_cases d10 : d = 10
        · obtain ⟨n, rfl⟩ : ∃ j, n = j + 1 := ⟨n - 1, by omega⟩
          rw [if_pos (by rw [e10]; exact d10), if_pos (by rw [bs_length] at hi; omega), wrap_succ i (by omega), wrap_succ (i + 1) (by omega)]
          rw [show (⟨#[]⟩ : ByteArray) = str [] from rfl, refLines_l0 s hs n k (i + 1 + 1) r [] (out ++ [str w]) (by omega) (by omega) g3 (by rw [bs_length]; omega) (by rw [List.length_append]; simp only [List.length_cons, List.length_nil]; omega)]
          rw [linesB, if_pos ⟨c13, d10⟩]
          cases hl : linesB r with
          | nil => exact absurd hl (linesB_ne r)
          | cons a t => simp [headApp]
        · rw [if_neg (by rw [e10]; exact d10)]
          exact push (by rw [linesB, if_neg (fun h => d10 h.2)])
    · rw [if_neg (by rw [e13]; exact c13)]
      refine push ?_
      cases l with
      | nil => rfl
      | cons d r => rw [linesB, if_neg (fun h => c13 h.1)]
theorem refLines_is (s : ByteArray) (hs : s.size ≤ 1000000) (k : Nat) (hk : s.size < k) : bulletinref17_Lines.f k s = some ((linesB (bs s)).map str) := by
  unfold bulletinref17_Lines.f
  have := refLines_l0 s hs (bs s).length k 0 (bs s) [] [] (Nat.le_refl _) (by rw [bs_length]; exact hk) rfl (Nat.zero_le _) (by simp)
  rw [show (0 : Int) = ((0 : Nat) : Int) from rfl, show (⟨#[]⟩ : ByteArray) = str [] from rfl, this]
  cases hl : linesB (bs s) with
  | nil => exact absurd hl (linesB_ne _)
  | cons a t => simp [headApp]

/-! what a line does -/
theorem trim_snoc (l : Bytes) (c : UInt8) : Lib.trimRightS (l ++ [c]) [32, 9] = if c = 32 ∨ c = 9 then Lib.trimRightS l [32, 9] else l ++ [c] := by
  unfold Lib.trimRightS
  rw [List.reverse_append, List.reverse_cons, List.reverse_nil, List.nil_append, List.singleton_append, List.dropWhile_cons]
  by_cases h : c = 32 ∨ c = 9
  · rw [if_pos h, if_pos (by rcases h with rfl | rfl <;> decide)]
  · rw [if_neg h, if_neg (by simp; exact not_or.1 h)]
    simp
def whatN (x b : Bytes) : Int := if x = 45 :: 45 :: b then 1 else if x = 45 :: 45 :: (b ++ [45, 45]) then 2 else 0
theorem refWhat_j1 (b x : ByteArray) (hb : b.size ≤ 1000000) (k : Nat) (hk : 1 ≤ k) : bulletinref20_What.j1 k b x = some (whatN (bs x) (bs b)) := by
  obtain ⟨k, rfl⟩ : ∃ j, k = j + 1 := ⟨k - 1, by omega⟩
  have e1 : ((⟨#[45, 45]⟩ : ByteArray) ++ b).toList = 45 :: 45 :: bs b := by rw [toList_bs, bs_app]; rfl
  have e2 : (((⟨#[45, 45]⟩ : ByteArray) ++ b) ++ (⟨#[45, 45]⟩ : ByteArray)).toList = 45 :: 45 :: (bs b ++ [45, 45]) := by rw [toList_bs, bs_app, bs_app]; rfl
  have z1 : (⟨#[45, 45]⟩ : ByteArray).size = 2 := rfl
  rw [bulletinref20_What.j1, if_pos (by omega), e1, e2, toList_bs]
  unfold whatN
  by_cases h1 : bs x = 45 :: 45 :: bs b
  · rw [if_pos h1, if_pos h1]
  · rw [if_neg h1, if_neg h1, if_pos (by rw [ByteArray.size_append, z1]; omega)]
    by_cases h2 : bs x = 45 :: 45 :: (bs b ++ [45, 45])
    · rw [if_pos h2, if_pos h2]
    · rw [if_neg h2, if_neg h2]
theorem refWhat_l0 (b : ByteArray) (hb : b.size ≤ 1000000) : ∀ (n : Nat) (x : ByteArray) (k : Nat), x.size ≤ n → n + 1 < k → x.size ≤ 1000000 → bulletinref20_What.l0 k b x = some (whatN (Lib.trimRightS (bs x) [32, 9]) (bs b))
  | n, x, k, hn, hk, hx => by
    obtain ⟨k, rfl⟩ : ∃ j, k = j + 1 := ⟨k - 1, by omega⟩
    rw [bulletinref20_What.l0]
    rcases List.eq_nil_or_concat (bs x) with h | ⟨l, c, h⟩
    · have hz : x.size = 0 := by rw [← bs_length, h]; rfl
      rw [if_neg (by omega), refWhat_j1 b x hb k (by omega), h]
      rfl
    · rw [List.concat_eq_append] at h
      have hz : x.size = l.length + 1 := by rw [← bs_length, h]; simp
      have hw : wrap64 ((x.size : Int) - 1) = ((l.length : Nat) : Int) := by rw [hz, wrap_id (by omega) (by omega)]; omega
      have hd : (bs x).drop l.length = [c] := by rw [h]; simp
      rw [if_pos (by omega), hw, if_pos (by omega), if_pos (by omega), bt_drop hd]
      have e32 : ((c.toNat : Int) = 32) = (c = 32) := byte_eq c 32 (by decide)
      have e9 : ((c.toNat : Int) = 9) = (c = 9) := byte_eq c 9 (by decide)
      have hex : x.extract 0 ((l.length : Nat) : Int).toNat = str l := by
        apply bs_inj
        rw [Int.toNat_natCast, bs_extract, bs_str, h]
        simp
      rw [hex, h, trim_snoc]
      by_cases c32 : c = 32
      · cases n with
        | zero => omega
        | succ n =>
          rw [if_pos (by rw [e32]; exact c32), if_pos (by omega), refWhat_l0 b hb n (str l) k (by rw [str_size]; omega) (by omega) (by rw [str_size]; omega), bs_str, if_pos (.inl c32)]
      · rw [if_neg (by rw [e32]; exact c32)]
        by_cases c9 : c = 9
        · cases n with
          | zero => omega
          | succ n =>
            rw [if_pos (by rw [e9]; exact c9), if_pos (by omega), refWhat_l0 b hb n (str l) k (by rw [str_size]; omega) (by omega) (by rw [str_size]; omega), bs_str, if_pos (.inr c9)]
        · rw [if_neg (by rw [e9]; exact c9), if_neg (by rintro (q | q); exact c32 q; exact c9 q), refWhat_j1 b x hb k (by omega), h]
theorem refWhat_is (x b : ByteArray) (hx : x.size ≤ 1000000) (hb : b.size ≤ 1000000) (k : Nat) (hk : x.size + 1 < k) : bulletinref20_What.f k x b = some (whatN (trimR x) (bs b)) := by
  unfold bulletinref20_What.f
  exact refWhat_l0 b hb x.size x k (Nat.le_refl _) hk hx
theorem what_P (x b : ByteArray) : (whatN (trimR x) (bs b) = 1) = (whatP x b = true) := by
  unfold whatN whatP
  rw [beq_iff_eq]
  apply propext
  by_cases h : trimR x = 45 :: 45 :: bs b
  · rw [if_pos h]; simp [h]
  · rw [if_neg h]
    constructor
    · intro q; split at q <;> cases q
    · intro q; exact absurd q h
theorem what_C (x b : ByteArray) : (whatN (trimR x) (bs b) = 2) = (whatC x b = true) := by
  unfold whatN whatC
  rw [beq_iff_eq]
  apply propext
  by_cases h : trimR x = 45 :: 45 :: bs b
  · rw [if_pos h]
    constructor
    · intro q; cases q
    · intro q
      rw [h] at q
      have := congrArg List.length q
      simp at this
  · rw [if_neg h]
    by_cases h2 : trimR x = 45 :: 45 :: (bs b ++ [45, 45])
    · rw [if_pos h2]; simp [h2]
    · rw [if_neg h2]; simp [h2]
theorem what_3 (x b : ByteArray) : whatN (trimR x) (bs b) = 0 ∨ whatN (trimR x) (bs b) = 1 ∨ whatN (trimR x) (bs b) = 2 := by
  unfold whatN
  repeat' split
  all_goals simp
theorem refRB_l0 (s : ByteArray) (hs : s.size ≤ 1000000) : ∀ (l : Bytes) (k i : Nat), (bs s).drop i = l → i ≤ s.size → l.length < k → bulletinref20_RightBoundary.l0 k s (i : Int) = some (l.all bndB && (!decide (bs s = []) && decide ((bs s).length ≤ 70)))
  | [], k, i, hd, hi, hk => by
    obtain ⟨k, rfl⟩ : ∃ j, k = j + 1 := ⟨k - 1, by simp at hk; omega⟩
    have := drop_nil hd
    rw [bs_length] at this
    rw [bulletinref20_RightBoundary.l0, if_neg (by omega)]
    by_cases h : bs s = []
    · have hz : s.size = 0 := by rw [← bs_length, h]; rfl
      rw [if_neg (by omega)]; simp [h]
    · have hz : s.size ≠ 0 := fun e => h (List.eq_nil_of_length_eq_zero (by rw [bs_length]; exact e))
      rw [if_pos (by omega), bs_length]
      have : decide ((s.size : Int) ≤ 70) = decide (s.size ≤ 70) := by rw [decide_eq_decide]; omega
      rw [this]; simp [h]
  | c :: l, k, i, hd, hi, hk => by
    obtain ⟨k, rfl⟩ : ∃ j, k = j + 1 := ⟨k - 1, by simp at hk; omega⟩
    obtain ⟨h1, h2, h3, h4⟩ := drop_cons hd
    rw [bs_length] at h1
    simp only [List.length_cons] at hk
    rw [bulletinref20_RightBoundary.l0, if_pos (by omega), if_pos (by omega), bt_drop hd]
    by_cases h5 : (c.toNat : Int) < 33
    · have : bndB c = false := by unfold bndB; rw [decide_eq_false (by omega)]; rfl
      rw [if_pos h5, List.all_cons, this]; rfl
    · rw [if_neg h5]
      by_cases h6 : (c.toNat : Int) > 126
      · have : bndB c = false := by unfold bndB; rw [decide_eq_false (show ¬ c.toNat ≤ 126 by omega), Bool.and_false]
        rw [if_pos h6, List.all_cons, this]; rfl
      · have : bndB c = true := by unfold bndB; rw [decide_eq_true (by omega), decide_eq_true (by omega)]; rfl
        rw [if_neg h6, wrap_succ i (by omega), refRB_l0 s hs l k (i + 1) h3 (by omega) (by omega), List.all_cons, this]; rfl
theorem refRB_is (s : ByteArray) (hs : s.size ≤ 1000000) (k : Nat) (hk : s.size < k) : bulletinref20_RightBoundary.f k s = some (rightBd (bs s)) := by
  unfold bulletinref20_RightBoundary.f rightBd
  exact refRB_l0 s hs (bs s) k 0 rfl (Nat.zero_le _) (by rw [bs_length]; exact hk)

/-! the document's Split -/
theorem cutsN_len1 (find : ByteArray → Int) (L : Nat) : ∀ (k : Nat) (s : ByteArray), (cutsN find L k s).length ≤ k + 1
  | 0, s => by simp [cutsN]
  | k + 1, s => by
    rw [cutsN]
    split
    · simp
    · have := cutsN_len1 find L k (s.extract ((find s).toNat + L) s.size)
      simp only [List.length_cons]
      omega
theorem join_nil0 : join [] crlfB = ⟨#[]⟩ := rfl
theorem join_one (x : ByteArray) : join [x] crlfB = x := by
  unfold join
  simp only [List.map_cons, List.map_nil]
  rw [Lib.join_one]
  exact str_toList x
theorem joinB_snoc (sep : Bytes) : ∀ (l : List Bytes) (x : Bytes), l ≠ [] → Lib.join (l ++ [x]) sep = Lib.join l sep ++ (sep ++ x)
  | [], x, h => absurd rfl h
  | [a], x, _ => by simp [Lib.join, List.intercalate]
  | a :: b :: l, x, _ => by
    have ih := joinB_snoc sep (b :: l) x (by simp)
    have e : ∀ (a b : Bytes) (l : List Bytes), Lib.join (a :: b :: l) sep = a ++ (sep ++ Lib.join (b :: l) sep) := fun a b l => by simp [Lib.join, List.intercalate]
    rw [List.cons_append, List.cons_append, e, e]
    rw [List.cons_append] at ih
    rw [ih]
    simp
theorem join_snoc (l : List ByteArray) (x : ByteArray) (h : l ≠ []) : join (l ++ [x]) crlfB = join l crlfB ++ crlfB ++ x := by
  unfold join
  rw [List.map_append, List.map_cons, List.map_nil, joinB_snoc _ _ _ (by simpa using h)]
  apply bs_inj
  rw [bs_str, bs_app, bs_app, bs_str]
  simp [bs]
theorem rdOf_nat (L : List ByteArray) (i : Nat) (h : i < L.length) : rdOf ByteArray.empty L (i : Int) = L[i] := by
  unfold rdOf
  rw [Int.toNat_natCast, List.getD_eq_getElem?_getD, List.getElem?_eq_getElem h]
  rfl
theorem slice_snoc (L : List ByteArray) (a x : Nat) (h : x < L.length) (ha : a ≤ x) : (L.take (x + 1)).drop a = (L.take x).drop a ++ [L[x]] := by
  rw [List.take_succ_eq_append_getElem h, List.drop_append_of_le_length (by rw [List.length_take]; omega)]
theorem refSplit_l1 (b : ByteArray) (L out : List ByteArray) (hL : L.length ≤ 1000001) (hz : ∀ y ∈ L, y.size ≤ 1000000) (a i : Nat) (hi : i ≤ L.length) (hai : a ≤ i) (w : Int) (k : Nat) :
    ∀ (n x : Nat), x + n = i → a ≤ x → bulletinref20_Split.l1 (k + n + 1) b L out (a : Int) (i : Int) w (join ((L.take x).drop a) crlfB) (x : Int) = if out.length < 8796093022208 then bulletinref20_Split.j2 k b L (out ++ [join ((L.take i).drop a) crlfB]) (a : Int) (i : Int) w else none
  | 0, x, hx, ha => by
    obtain rfl : x = i := by omega
    rw [Nat.add_zero, bulletinref20_Split.l1, if_neg (by omega)]
  | n + 1, x, hx, ha => by
    have hxl : x < L.length := by omega
    have ih := refSplit_l1 b L out hL hz a i hi hai w k n (x + 1) (by omega) (by omega)
    have hy : (L[x]'hxl).size ≤ 1000000 := hz _ (List.getElem_mem hxl)
    have hlen : ((L.take x).drop a).length ≤ 1000001 := by rw [List.length_drop, List.length_take]; omega
    have hj := join_size (l := (L.take x).drop a) (m := 1000000) (fun y hy => hz y (List.mem_of_mem_take (List.mem_of_mem_drop hy)))
    have hj2 : ((L.take x).drop a).length * (1000000 + 2) ≤ 1000001 * (1000000 + 2) := Nat.mul_le_mul_right _ hlen
    rw [slice_snoc L a x hxl ha] at ih
    rw [show k + (n + 1) + 1 = (k + n + 1) + 1 by omega, bulletinref20_Split.l1, if_pos (by omega), rdOf_nat L x hxl, wrap_succ x (by omega)]
    by_cases hax : (x : Int) > (a : Int)
    · have hne : (L.take x).drop a ≠ [] := by
        intro e
        have := congrArg List.length e
        rw [List.length_drop, List.length_take, List.length_nil] at this
        omega
      rw [join_snoc _ _ hne] at ih
      have hs2 : (join ((L.take x).drop a) crlfB ++ (⟨#[13, 10]⟩ : ByteArray)).size = (join ((L.take x).drop a) crlfB).size + 2 := by rw [ByteArray.size_append]; rfl
      rw [if_pos hax, if_pos (by omega), if_pos (by omega), if_pos (by omega), if_pos (by rw [hs2]; omega)]
      exact ih
    · obtain rfl : x = a := by omega
      have he : (L.take x).drop x = [] := by rw [List.drop_eq_nil_iff, List.length_take]; omega
      rw [he, List.nil_append, join_one] at ih
      have hs0 : (join [] crlfB).size = 0 := rfl
      rw [if_neg hax, if_pos (by omega), if_pos (by omega), he, if_pos (by rw [hs0]; omega), join_nil0]
      have : (⟨#[]⟩ : ByteArray) ++ L[x] = L[x] := by apply bs_inj; rw [bs_app]; rfl
      rw [this]
      exact ih
def matches_ (L : List ByteArray) (i : Nat) (s : MS) (out : List ByteArray) (fr : Int) : Prop :=
  s.1 = out ∧ ((s.2.2 = false ∧ fr = -1) ∨ (s.2.2 = true ∧ ∃ a : Nat, fr = (a : Int) ∧ a ≤ i ∧ s.2.1 = (L.take i).drop a))
def endR (b : ByteArray) (rest : List ByteArray) (s : MS) : List ByteArray × Int := match mrun b rest s with
  | .inr r => r
  | .inl t => if t.2.2 = true then ([], 9) else ([], 6)
theorem mstep_out {b x : ByteArray} {s t : MS} (h : mstep b s x = .inl t) (ho : s.1.length ≤ 19) (hb : s.2.2 = false → s.1 = []) : t.1.length ≤ 19 ∧ (t.2.2 = false → t.1 = []) := by
  unfold mstep at h
  split at h
  · cases h; exact ⟨ho, hb⟩
  · split at h
    · split at h <;> cases h
    · split at h
      · cases h
      · rename_i h20
        cases h
        refine ⟨?_, fun h => by cases h⟩
        unfold mout at h20 ⊢
        split
        · rename_i hbe
          rw [if_pos hbe] at h20
          rw [List.length_append, List.length_singleton] at h20 ⊢
          omega
        · exact ho
theorem refSplit_l0 (F : Nat) (hF : 2000013 ≤ F) (b : ByteArray) (hb : b.size ≤ 1000000) (L : List ByteArray) (hL : L.length ≤ 1000001) (hz : ∀ y ∈ L, y.size ≤ 1000000) : ∀ (rest : List ByteArray) (i k : Nat) (s : MS) (out : List ByteArray) (fr : Int), L.drop i = rest → i ≤ L.length → (rest.length + 1) * F ≤ k → matches_ L i s out fr → s.1.length ≤ 19 → (s.2.2 = false → s.1 = []) →
    bulletinref20_Split.l0 k b L out fr (i : Int) = some (endR b rest s)
  | [], i, k, s, out, fr, hd, hi, hk, hm, ho, hbg => by
    obtain ⟨k, rfl⟩ : ∃ j, k = j + 1 := ⟨k - 1, by rw [List.length_nil, Nat.zero_add, Nat.one_mul] at hk; omega⟩
    have hl : L.length ≤ i := by
      have := congrArg List.length hd
      rw [List.length_drop, List.length_nil] at this
      omega
    rw [bulletinref20_Split.l0, if_neg (by omega)]
    unfold endR
    rw [mrun]
    obtain ⟨_, ⟨h1, rfl⟩ | ⟨h1, a, rfl, _, _⟩⟩ := hm
    · rw [if_pos (by decide)]
      simp only []
      rw [if_neg (by rw [h1]; simp)]
    · rw [if_neg (by omega)]
      simp only []
      rw [if_pos h1]
  | x :: rest, i, k, s, out, fr, hd, hi, hk, hm, ho, hbg => by
    simp only [List.length_cons] at hk
    have hk2 : (rest.length + 1) * F + F ≤ k := by
      have : (rest.length + 1 + 1) * F = (rest.length + 1) * F + F := by rw [Nat.add_mul (rest.length + 1), Nat.one_mul]
      omega
    clear hk
    have hlt : i < L.length := by
      rcases Nat.lt_or_ge i L.length with h | h
      · exact h
      · rw [List.drop_of_length_le h] at hd; cases hd
    have hxe : L[i]'hlt = x := by
      have := congrArg List.head? hd
      rw [List.head?_drop, List.getElem?_eq_getElem hlt] at this
      exact Option.some.inj this
    have hd' : L.drop (i + 1) = rest := by rw [← List.drop_drop, hd]; rfl
    have hxz : x.size ≤ 1000000 := by rw [← hxe]; exact hz _ (List.getElem_mem hlt)
    obtain ⟨k, rfl⟩ : ∃ j, k = j + 1 := ⟨k - 1, by omega⟩
    have hw := refWhat_is x b hxz hb k (by omega)
    have hP := what_P x b
    have hC := what_C x b
    have h3 := what_3 x b
    rw [bulletinref20_Split.l0, if_pos (by omega), if_pos (by omega), rdOf_nat L i hlt, hxe, hw, Option.bind_some]
    obtain ⟨hout, hfr⟩ := hm
    have hend : endR b (x :: rest) s = match mstep b s x with | .inl t => endR b rest t | .inr r => r := by
      unfold endR
      rw [mrun]
      cases mstep b s x <;> rfl
    rw [hend]
    rcases h3 with h3 | h3
    · have h1 : whatP x b = false := by rw [Bool.eq_false_iff]; intro q; rw [← hP, h3] at q; cases q
      have h2 : whatC x b = false := by rw [Bool.eq_false_iff]; intro q; rw [← hC, h3] at q; cases q
      have hs : mstep b s x = .inl (s.1, s.2.1 ++ [x], s.2.2) := by unfold mstep; rw [if_pos ⟨h1, h2⟩]
      rw [if_pos h3, hs, wrap_succ i (by omega)]
      refine refSplit_l0 F hF b hb L hL hz rest (i + 1) k _ out fr hd' (by omega) (by omega) ⟨hout, ?_⟩ ho hbg
      rcases hfr with hf | ⟨hf1, a, hf2, hf3, hf4⟩
      · exact .inl hf
      · refine .inr ⟨hf1, a, hf2, by omega, ?_⟩
        rw [slice_snoc L a i hlt hf3, hxe, ← hf4]
    · have hw0 : ¬ whatN (trimR x) (bs b) = 0 := by rcases h3 with h3 | h3 <;> omega
      have hnp : ¬ (whatP x b = false ∧ whatC x b = false) := by
        rintro ⟨q1, q2⟩
        rcases h3 with h3 | h3
        · rw [hP] at h3; rw [h3] at q1; cases q1
        · rw [hC] at h3; rw [h3] at q2; cases q2
      rw [if_neg hw0]
      -- behind the part that is told: j2
      have hj2 : ∀ (k' : Nat) (t : MS), (rest.length + 1) * F + 5 ≤ k' → (fr ≥ 0 ↔ s.2.2 = true) →
          bulletinref20_Split.j2 k' b L (mout s) fr (i : Int) (whatN (trimR x) (bs b)) = some (match mstep b s x with | .inl t => endR b rest t | .inr r => r) := by
        intro k' t hk' hge
        obtain ⟨k', rfl⟩ : ∃ j, k' = j + 1 + 1 := ⟨k' - 2, by omega⟩
        unfold mstep
        rw [if_neg hnp, bulletinref20_Split.j2]
        by_cases hw2 : whatN (trimR x) (bs b) = 2
        · have hCt : whatC x b = true := by rw [← hC]; exact hw2
          rw [if_pos hw2, if_pos hCt, bulletinref20_Split.j3]
          cases hbe : s.2.2 with
          | true =>
            have : ¬ fr < 0 := by have := hge.2 hbe; omega
            rw [decide_eq_false this, if_neg (by decide), if_pos hw2, if_pos rfl]
          | false =>
            have : fr < 0 := by
              rcases Int.lt_or_le fr 0 with h | h
              · exact h
              · have := hge.1 h; rw [hbe] at this; cases this
            rw [decide_eq_true this, if_pos rfl, if_neg (by decide)]
        · have hCf : ¬ whatC x b = true := by rw [← hC]; exact hw2
          rw [if_neg hw2, if_neg hCf, bulletinref20_Split.j3, if_neg (by decide), if_neg hw2]
          by_cases h20 : (mout s).length = 20
          · rw [if_pos (by omega), if_pos h20]
          · rw [if_neg (by omega), if_neg h20]
            have hs : mstep b s x = .inl (mout s, [], true) := by unfold mstep; rw [if_neg hnp, if_neg hCf, if_neg h20]
            have hmo := mstep_out hs ho hbg
            rw [wrap_succ i (by omega)]
            exact refSplit_l0 F hF b hb L hL hz rest (i + 1) k' (mout s, [], true) (mout s) _ hd' (by omega) (by omega) ⟨rfl, .inr ⟨rfl, i + 1, rfl, Nat.le_refl _, by simp⟩⟩ hmo.1 hmo.2
      rcases hfr with ⟨hf1, rfl⟩ | ⟨hf1, a, rfl, hf3, hf4⟩
      · have hmo : mout s = out := by unfold mout; rw [if_neg (by rw [hf1]; simp)]; exact hout
        rw [if_neg (by decide), ← hmo]
        exact hj2 k s (by omega) (by rw [hf1]; simp)
      · have hmo : mout s = out ++ [join ((L.take i).drop a) crlfB] := by unfold mout; rw [if_pos hf1, hf4, hout]
        have he : (L.take a).drop a = [] := by rw [List.drop_eq_nil_iff, List.length_take]; omega
        obtain ⟨k', hk'⟩ : ∃ k', k = k' + (i - a) + 1 := ⟨k - (i - a) - 1, by omega⟩
        have h1 := refSplit_l1 b L out hL hz a i (by omega) hf3 (whatN (trimR x) (bs b)) k' (i - a) a (by omega) (Nat.le_refl _)
        rw [he, join_nil0, ← hk'] at h1
        rw [if_pos (by omega), h1, if_pos (by rw [← hout]; omega), ← hmo]
        exact hj2 k' s (by omega) (by rw [hf1]; simp)
theorem refSplit_is (body b : ByteArray) (h1 : body.size ≤ 1000000) (h2 : b.size ≤ 1000000) (k : Nat) (hk : (body.size + 2) * 2000013 + body.size + b.size + 10 ≤ k) : bulletinref20_Split.f k body b = some (mimeSplit body b) := by
  have hk1 : body.size + b.size + 10 ≤ k := by omega
  unfold bulletinref20_Split.f mimeSplit
  rw [refRB_is b h2 k (by omega), Option.bind_some]
  by_cases hr : rightBd (bs b) = true
  · rw [if_pos hr, if_pos hr, refLines_is body h1 k (by omega), Option.bind_some, ← linesL_is]
    have hlen : (linesL body).length ≤ body.size + 1 := cutsN_len1 _ _ _ _
    have := refSplit_l0 2000013 (Nat.le_refl _) b h2 (linesL body) (by omega) (fun y hy => Nat.le_trans (cuts_size hy) h1) (linesL body) 0 k ([], [], false) [] (-1) rfl (Nat.zero_le _) (Nat.le_trans (Nat.mul_le_mul_right _ (by omega)) (show (body.size + 2) * 2000013 ≤ k by omega)) ⟨rfl, .inl ⟨rfl, rfl⟩⟩ (by simp) (fun _ => rfl)
    rw [show (0 : Int) = ((0 : Nat) : Int) from rfl, this]
    rfl
  · rw [if_neg hr, if_neg hr]
end Go.Proofs.YtgaaogijfikfeaaDoor.Pl
-- written by xprint.py of this session over the kit's printer; not trusted: Lean checks it
namespace Go.Proofs.YtgaaogijfikfeaaDoor.Fn
open Go.RowKit Go.Proofs.YtgaaogijfikfeaaDoorW.PrintWords Go.Proofs.YtgaaogijfikfeaaDoorW.PrintLast Go.Proofs.YtgaaogijfikfeaaDoorW.PrintMore
attribute [local go_sem] max2_int min2_int max_two min_two max_three min_three max_four min_four   -- for this text's walks alone
set_option linter.unusedVariables false
set_option linter.unusedSimpArgs false

/-! ### bulletinlaw20_MimeSplits: function 14 -/
end Go.Proofs.YtgaaogijfikfeaaDoor.Fn
set_option linter.unusedVariables false
namespace Go.Proofs.YtgaaogijfikfeaaDoor.Pl
open Go.RowKit Go.Proofs.YtgaaogijfikfeaaDoorW.PrintWords Go.Proofs.YtgaaogijfikfeaaDoor.Fn

theorem splitR_len (b : ByteArray) : ∀ (l : List ByteArray) (s : MS) (r : List ByteArray × Int), s.1.length ≤ 19 → (s.2.2 = false → s.1 = []) → mrun b l s = .inr r → r.1.length ≤ 20
  | [], s, r, _, _, h => by cases h
  | x :: l, s, r, ho, hb, h => by
    rw [mrun] at h
    cases hm : mstep b s x with
    | inl t =>
      rw [hm] at h
      have := mstep_out hm ho hb
      exact splitR_len b l t r this.1 this.2 h
    | inr q =>
      rw [hm] at h
      cases h
      have hml := mout_len s
      unfold mstep at hm
      split at hm
      · cases hm
      · split at hm
        · split at hm <;> (cases hm; simp only [List.length_nil]; omega)
        · split at hm <;> cases hm
          simp
theorem mimeSplit_len (body b : ByteArray) : (mimeSplit body b).1.length ≤ 20 := by
  unfold mimeSplit splitR
  split
  · cases h : mrun b (linesL body) ([], [], false) with
    | inl t => simp only []; split <;> simp
    | inr r => exact splitR_len b _ _ r (by simp) (fun _ => rfl) h
  · simp
end Go.Proofs.YtgaaogijfikfeaaDoor.Pl
set_option linter.unusedVariables false
namespace Go.Proofs.YtgaaogijfikfeaaDoor.Pl
open Go.RowKit Go.Proofs.YtgaaogijfikfeaaDoorW.PrintWords Go.Proofs.YtgaaogijfikfeaaDoor.Fn

theorem partsL_size (b : Bytes) (l : List Bytes) (m : Nat) (h : ∀ x ∈ l, x.length ≤ m) (i : Nat) : (partsL b (l.take i)).length ≤ l.length * (b.length + m + 6) := by
  refine Nat.le_trans (partsL_le b m _ fun x hx => h x (List.mem_of_mem_take hx)) (Nat.mul_le_mul_right _ ?_)
  rw [List.length_take]; omega
theorem refJoin_l0 (l : List ByteArray) (b : ByteArray) (hl : l.length ≤ 1000000) (hb : b.size ≤ 1000000) (hx : ∀ x ∈ l, x.size ≤ 1000000) : ∀ (n i k : Nat), i + n = l.length → n < k →
    bulletinref20_Join.l0 k l b (str (partsL (bs b) ((l.map bs).take i))) (i : Int) = some (str (joinL (bs b) (l.map bs)))
  | n, i, 0, _, hk => by omega
  | n, i, k + 1, hi, hk => by
    have hs := partsL_size (bs b) (l.map bs) 1000000 (fun y hy => by
      obtain ⟨x, h1, rfl⟩ := List.mem_map.1 hy
      rw [bs_length]; exact hx x h1) i
    have hs2 : (l.map bs).length * ((bs b).length + 1000000 + 6) ≤ 1000000 * 2000006 := Nat.mul_le_mul (by rw [List.length_map]; omega) (by rw [bs_length]; omega)
    have e1 : (⟨#[45, 45]⟩ : ByteArray) = str [45, 45] := rfl
    have e2 : (⟨#[13, 10]⟩ : ByteArray) = str [13, 10] := rfl
    have e3 : (⟨#[45, 45, 13, 10]⟩ : ByteArray) = str [45, 45, 13, 10] := rfl
    have eb : b = str (bs b) := (str_bs b).symm
    have hbl := bs_length b
    rw [bulletinref20_Join.l0]
    by_cases hlt : i < l.length
    · have hr : rdOf ByteArray.empty l (i : Int) = l[i] := by
        unfold rdOf
        rw [Int.toNat_natCast, List.getD_eq_getElem?_getD, List.getElem?_eq_getElem hlt]; rfl
      have hp := partsL_take (bs b) (l.map bs) i (by rw [List.length_map]; exact hlt)
      rw [List.getElem_map] at hp
      have hxi := hx _ (List.getElem_mem hlt)
      rw [hr]
      generalize l[i] = x at hp hxi
      have hxl := bs_length x
      have ex : x = str (bs x) := (str_bs x).symm
      have sz : ∀ q : Bytes, (str q).size = q.length := str_size
      have z2 : (⟨#[45, 45]⟩ : ByteArray).size = 2 := rfl
      have z3 : (⟨#[13, 10]⟩ : ByteArray).size = 2 := rfl
      rw [if_pos (by omega)]
      have key : str (partsL (bs b) ((l.map bs).take i)) ++ (⟨#[45, 45]⟩ : ByteArray) ++ b ++ (⟨#[13, 10]⟩ : ByteArray) ++ x ++ (⟨#[13, 10]⟩ : ByteArray) = str (partsL (bs b) ((l.map bs).take (i + 1))) := by
        rw [hp, e1, e2]
        apply bs_inj
        simp only [bs_app, bs_str]
        unfold partL
        simp
      rw [key, wrap_succ i (by omega)]
      have hS : ∀ P, P = partsL (bs b) ((l.map bs).take i) → (str P).size + b.size + x.size + 10 ≤ 9223372036854775807 := by
        rintro P rfl
        rw [sz]; omega
      have hS := hS _ rfl
      generalize str (partsL (bs b) ((l.map bs).take i)) = S at hS
      have g1 : S.size + 2 ≤ 9223372036854775807 := by omega
      have g2 : (S ++ (⟨#[45, 45]⟩ : ByteArray)).size + b.size ≤ 9223372036854775807 := by simp only [ByteArray.size_append, z2]; omega
      have g3 : ((S ++ (⟨#[45, 45]⟩ : ByteArray)) ++ b).size + 2 ≤ 9223372036854775807 := by simp only [ByteArray.size_append, z2]; omega
      have g4 : (((S ++ (⟨#[45, 45]⟩ : ByteArray)) ++ b) ++ (⟨#[13, 10]⟩ : ByteArray)).size + x.size ≤ 9223372036854775807 := by simp only [ByteArray.size_append, z2, z3]; omega
      have g5 : ((((S ++ (⟨#[45, 45]⟩ : ByteArray)) ++ b) ++ (⟨#[13, 10]⟩ : ByteArray)) ++ x).size + 2 ≤ 9223372036854775807 := by simp only [ByteArray.size_append, z2, z3]; omega
      rw [if_pos g1, if_pos g2, if_pos g3, if_pos (by omega), if_pos g4, if_pos g5]
      cases n with
      | zero => omega
      | succ n => exact refJoin_l0 l b hl hb hx n (i + 1) k (by omega) (by omega)
    · have hend : (l.map bs).take i = l.map bs := List.take_of_length_le (by rw [List.length_map]; omega)
      rw [hend] at hs ⊢
      have sz : ∀ q : Bytes, (str q).size = q.length := str_size
      have z2 : (⟨#[45, 45]⟩ : ByteArray).size = 2 := rfl
      have hS : (str (partsL (bs b) (l.map bs))).size + b.size + 10 ≤ 9223372036854775807 := by rw [sz]; omega
      have hE : str (partsL (bs b) (l.map bs)) ++ (⟨#[45, 45]⟩ : ByteArray) ++ b ++ (⟨#[45, 45, 13, 10]⟩ : ByteArray) = str (joinL (bs b) (l.map bs)) := by
        rw [e1, e3]
        apply bs_inj
        simp only [bs_app, bs_str]
        unfold joinL
        simp
      rw [← hE]
      generalize str (partsL (bs b) (l.map bs)) = S at hS
      have g1 : S.size + 2 ≤ 9223372036854775807 := by omega
      have g2 : (S ++ (⟨#[45, 45]⟩ : ByteArray)).size + b.size ≤ 9223372036854775807 := by simp only [ByteArray.size_append, z2]; omega
      have g3 : ((S ++ (⟨#[45, 45]⟩ : ByteArray)) ++ b).size + 4 ≤ 9223372036854775807 := by simp only [ByteArray.size_append, z2]; omega
      rw [if_neg (by omega), if_pos g1, if_pos g2, if_pos g3]
theorem refJoin_is (l : List ByteArray) (b : ByteArray) (hl : l.length ≤ 1000000) (hb : b.size ≤ 1000000) (hx : ∀ x ∈ l, x.size ≤ 1000000) (k : Nat) (hk : l.length < k) : bulletinref20_Join.f k l b = some (str (joinL (bs b) (l.map bs))) :=
  refJoin_l0 l b hl hb hx l.length 0 k (by omega) hk
theorem mimeJoin_is (l : List ByteArray) (b : ByteArray) (hl : l.length ≤ 1000000) (hb : b.size ≤ 1000000) (hx : ∀ x ∈ l, x.size ≤ 1000000) : mime_Join.f l b = some (str (joinL (bs b) (l.map bs))) := by
  unfold mime_Join.f
  rw [if_pos hl, if_pos hb, if_pos (List.all_eq_true.2 fun x h => decide_eq_true (hx x h))]
theorem many20 (a0 : Int) (a1 : ByteArray) (h0 : 0 ≤ a0) (h40 : a0 ≤ 40) (h1 : a1.size ≤ 20) : ∀ (n i k : Nat), (i : Int) + n = a0 → 5000000000 + n < k →
    bulletinlaw20_MimeMany.l0 k a0 a1 (List.replicate i ((⟨#[120]⟩ : ByteArray) ++ a1)) (i : Int) = some true
  | n, i, 0, _, hk => by omega
  | n, i, k + 1, hi, hk => by
    rw [bulletinlaw20_MimeMany.l0]
    by_cases hlt : (i : Int) < a0
    · have hw : wrap64 ((i : Int) + 1) = ((i + 1 : Nat) : Int) := wrap_succ _ (by omega)
      rw [if_pos hlt, if_pos (by omega), if_pos (by rw [List.length_replicate]; omega), wrap_succ i (by omega), ← List.replicate_succ']
      cases n with
      | zero => omega
      | succ n => exact many20 a0 a1 h0 h40 h1 n (i + 1) k (by omega) (by omega)
    · have hsz : ∀ x ∈ List.replicate i ((⟨#[120]⟩ : ByteArray) ++ a1), x.size ≤ 21 := by
        intro x hx
        rw [(List.mem_replicate.1 hx).2, ByteArray.size_append]
        show 1 + _ ≤ 21
        omega
      have hll : (List.replicate i ((⟨#[120]⟩ : ByteArray) ++ a1)).length ≤ 40 := by rw [List.length_replicate]; omega
      generalize List.replicate i ((⟨#[120]⟩ : ByteArray) ++ a1) = l at hsz hll
      have hb : (⟨#[98]⟩ : ByteArray).size = 1 := rfl
      have hd := partsL_le (bs (⟨#[98]⟩ : ByteArray)) 21 (l.map bs) (fun y hy => by
        obtain ⟨x, q, rfl⟩ := List.mem_map.1 hy
        rw [bs_length]; exact hsz x q)
      have hd2 : (l.map bs).length * ((bs (⟨#[98]⟩ : ByteArray)).length + 21 + 6) ≤ 40 * 28 := Nat.mul_le_mul (by rw [List.length_map]; omega) (by rw [bs_length, hb]; decide)
      have hds : (str (joinL (bs (⟨#[98]⟩ : ByteArray)) (l.map bs))).size ≤ 2000 := by
        rw [str_size]
        unfold joinL
        simp only [List.length_append, List.length_cons, List.length_nil, bs_length, hb]
        omega
      have hml := mimeSplit_len (str (joinL (bs (⟨#[98]⟩ : ByteArray)) (l.map bs))) (⟨#[98]⟩ : ByteArray)
      rw [if_neg hlt, mimeJoin_is l _ (by omega) (by omega) (fun x h => by have := hsz x h; omega), Option.bind_some, mimesplit_is _ _ (by omega) (by omega), Option.bind_some,
        refJoin_is l _ (by omega) (by omega) (fun x h => by have := hsz x h; omega) k (by omega), Option.bind_some, refSplit_is _ _ (by omega) (by omega) k (by omega), Option.bind_some,
        sameTexts_is _ (by omega) k (by omega), Option.bind_some, if_pos rfl, if_pos rfl, works20 k (by omega)]
      rfl
theorem MimeMany (a0 : Int) (a1 : ByteArray) : ∃ k, bulletinlaw20_MimeMany.f k a0 a1 = some true := by
  refine ⟨10000000000 + 1 + 1, ?_⟩
  generalize hk : (10000000000 : Nat) = k
  have hw := works20 (k + 1) (by omega)
  unfold bulletinlaw20_MimeMany.f
  have yes : bulletinlaw20_MimeMany.j0 (k + 1 + 1) a0 a1 true = some true := by rw [bulletinlaw20_MimeMany.j0, if_pos rfl, hw]; rfl
  by_cases h1 : a0 < 0
  · rw [if_pos h1, yes]
  rw [if_neg h1]
  by_cases h2 : a0 > 40
  · rw [if_pos h2, yes]
  rw [if_neg h2]
  by_cases h3 : (a1.size : Int) > 20
  · rw [show decide ((a1.size : Int) > 20) = true by simpa using h3, yes]
  rw [show decide ((a1.size : Int) > 20) = false by simpa using h3, bulletinlaw20_MimeMany.j0, if_neg (by decide)]
  exact many20 a0 a1 (by omega) (by omega) (by omega) a0.toNat 0 (k + 1) (by omega) (by omega)
end Go.Proofs.YtgaaogijfikfeaaDoor.Pl
