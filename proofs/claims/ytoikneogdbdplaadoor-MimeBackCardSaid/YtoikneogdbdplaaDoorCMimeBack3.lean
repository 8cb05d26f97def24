/- A part of the proof of this sentence: the tables of unicode/utf8 are as the program's text lays them. -/
import Derived.Test.YtoikneogdbdplaaDoorCMimeBack2
import Derived.RangeFuncRecord
import Derived.Shelf.Strings.SlTrimAscii
import Derived.Deep.QuietTactic
import Derived.BigQuiet
import Derived.Shelf.Strings.IndexAnyAll
import Derived.SliceStrings
import Derived.ProofKit
import Derived.OpenShut
namespace Go.Proofs.YtoikneogdbdplaaDoor.Fn
open Go.RowKit Go.Proofs.YtoikneogdbdplaaDoorW.PrintWords Go.Proofs.YtoikneogdbdplaaDoorW.PrintLast Go.Proofs.YtoikneogdbdplaaDoorW.PrintMore
attribute [local go_sem] max2_int min2_int max_two min_two max_three min_three max_four min_four
set_option linter.unusedVariables false
set_option linter.unusedSimpArgs false

/-! ### bulletinlaw20_works: function 26 -/
def bulletinlaw20_works.f (k : Nat)  : Option (Bool) := (mime_ReadType.f k (⟨#[84, 101, 120, 116, 47, 80, 108, 97, 105, 110, 59, 32, 67, 104, 97, 114, 115, 101, 116, 61, 34, 120, 32, 121, 34]⟩ : ByteArray)).bind fun bt398 => ((mime_Type_Value.f k bt398.1 bt398.2.1 (⟨#[67, 72, 65, 82, 83, 69, 84]⟩ : ByteArray)).bind fun bt404 => ((mime_Split.f (⟨#[45, 45, 98, 13, 10, 120, 13, 10, 45, 45, 98, 45, 45, 13, 10]⟩ : ByteArray) (⟨#[98]⟩ : ByteArray)).bind fun bt406 => (if bt398.2.2 = 0 then (if bt398.1.toList = ([116, 101, 120, 116, 47, 112, 108, 97, 105, 110] : List UInt8) then (if bt404.1.toList = ([120, 32, 121] : List UInt8) then (if bt404.2 = true then ((mime_Type_Text.f k bt398.1 bt398.2.1).bind fun t410 => (if t410.toList = ([116, 101, 120, 116, 47, 112, 108, 97, 105, 110, 59, 32, 99, 104, 97, 114, 115, 101, 116, 61, 34, 120, 32, 121, 34] : List UInt8) then (if bt406.2 = 0 then (if (bt406.1.length : Int) = 1 then (if 0 < (bt406.1.length : Int) then (some ((rdOf ByteArray.empty bt406.1 0).toList == ([120] : List UInt8))) else (none)) else (some false)) else (some false)) else (some false))) else (some false)) else (some false)) else (some false)) else (some false))))
theorem bulletinlaw20_works.mono : ∀ k, LeO (bulletinlaw20_works.f k ) (bulletinlaw20_works.f (k + 1) ) := by
 intro  k
 unfold bulletinlaw20_works.f
 repeat' first
   | (with_reducible exact mime_ReadType.mono _ _)
   | (with_reducible exact mime_Type_Text.mono _ _ _)
   | (with_reducible exact mime_Type_Value.mono _ _ _ _)
   | (with_reducible exact LeO.refl _)
   | (with_reducible exact LeO.none _)
   | (with_reducible refine LeO.ite ?_ ?_)
   | (with_reducible refine LeO.bind ?_ (fun _ => ?_))
   | exact mime_ReadType.mono _ _
   | exact mime_Type_Text.mono _ _ _
   | exact mime_Type_Value.mono _ _ _ _
   | exact LeO.none _
   | refine LeO.ite ?_ ?_
   | refine LeO.bind ?_ (fun _ => ?_)
set_option maxHeartbeats 8000000 in
set_option maxRecDepth 100000 in
theorem bulletinlaw20_works.calls (k : Nat)  (r : Bool) (w : World) (hG : Glob w) (h : bulletinlaw20_works.f k  = some r) :
  Calls Tryd.prog 26 #[] w fun e w' => e = .returned (.bool r) ∧ Below w.heap.size w w' := by
 have hu51 := Tryd.underlying51
 have HB := Aside0.mk (Below.refl w.heap.size w)
 have H : ((mime_ReadType.f k (⟨#[84, 101, 120, 116, 47, 80, 108, 97, 105, 110, 59, 32, 67, 104, 97, 114, 115, 101, 116, 61, 34, 120, 32, 121, 34]⟩ : ByteArray)).bind fun bt398 => ((mime_Type_Value.f k bt398.1 bt398.2.1 (⟨#[67, 72, 65, 82, 83, 69, 84]⟩ : ByteArray)).bind fun bt404 => ((mime_Split.f (⟨#[45, 45, 98, 13, 10, 120, 13, 10, 45, 45, 98, 45, 45, 13, 10]⟩ : ByteArray) (⟨#[98]⟩ : ByteArray)).bind fun bt406 => (if bt398.2.2 = 0 then (if bt398.1.toList = ([116, 101, 120, 116, 47, 112, 108, 97, 105, 110] : List UInt8) then (if bt404.1.toList = ([120, 32, 121] : List UInt8) then (if bt404.2 = true then ((mime_Type_Text.f k bt398.1 bt398.2.1).bind fun t410 => (if t410.toList = ([116, 101, 120, 116, 47, 112, 108, 97, 105, 110, 59, 32, 99, 104, 97, 114, 115, 101, 116, 61, 34, 120, 32, 121, 34] : List UInt8) then (if bt406.2 = 0 then (if (bt406.1.length : Int) = 1 then (if 0 < (bt406.1.length : Int) then (some ((rdOf ByteArray.empty bt406.1 0).toList == ([120] : List UInt8))) else (none)) else (some false)) else (some false)) else (some false))) else (some false)) else (some false)) else (some false)) else (some false))))) = some r := h
 clear h
 replace H := Option.bind_eq_some_iff.mp H
 obtain ⟨⟨t398, t399, t402⟩, A10, H⟩ := H
 replace H : ((mime_Type_Value.f k t398 t399 (⟨#[67, 72, 65, 82, 83, 69, 84]⟩ : ByteArray)).bind fun bt404 => ((mime_Split.f (⟨#[45, 45, 98, 13, 10, 120, 13, 10, 45, 45, 98, 45, 45, 13, 10]⟩ : ByteArray) (⟨#[98]⟩ : ByteArray)).bind fun bt406 => (if t402 = 0 then (if t398.toList = ([116, 101, 120, 116, 47, 112, 108, 97, 105, 110] : List UInt8) then (if bt404.1.toList = ([120, 32, 121] : List UInt8) then (if bt404.2 = true then ((mime_Type_Text.f k t398 t399).bind fun t410 => (if t410.toList = ([116, 101, 120, 116, 47, 112, 108, 97, 105, 110, 59, 32, 99, 104, 97, 114, 115, 101, 116, 61, 34, 120, 32, 121, 34] : List UInt8) then (if bt406.2 = 0 then (if (bt406.1.length : Int) = 1 then (if 0 < (bt406.1.length : Int) then (some ((rdOf ByteArray.empty bt406.1 0).toList == ([120] : List UInt8))) else (none)) else (some false)) else (some false)) else (some false))) else (some false)) else (some false)) else (some false)) else (some false)))) = some r := H
 have A1 := Aside0.mk A10
 clear A10
 replace H := Option.bind_eq_some_iff.mp H
 obtain ⟨⟨t404, t405⟩, A20, H⟩ := H
 replace H : ((mime_Split.f (⟨#[45, 45, 98, 13, 10, 120, 13, 10, 45, 45, 98, 45, 45, 13, 10]⟩ : ByteArray) (⟨#[98]⟩ : ByteArray)).bind fun bt406 => (if t402 = 0 then (if t398.toList = ([116, 101, 120, 116, 47, 112, 108, 97, 105, 110] : List UInt8) then (if t404.toList = ([120, 32, 121] : List UInt8) then (if t405 = true then ((mime_Type_Text.f k t398 t399).bind fun t410 => (if t410.toList = ([116, 101, 120, 116, 47, 112, 108, 97, 105, 110, 59, 32, 99, 104, 97, 114, 115, 101, 116, 61, 34, 120, 32, 121, 34] : List UInt8) then (if bt406.2 = 0 then (if (bt406.1.length : Int) = 1 then (if 0 < (bt406.1.length : Int) then (some ((rdOf ByteArray.empty bt406.1 0).toList == ([120] : List UInt8))) else (none)) else (some false)) else (some false)) else (some false))) else (some false)) else (some false)) else (some false)) else (some false))) = some r := H
 have A2 := Aside0.mk A20
 clear A20
 replace H := Option.bind_eq_some_iff.mp H
 obtain ⟨⟨t406, t407⟩, A30, H⟩ := H
 replace H : (if t402 = 0 then (if t398.toList = ([116, 101, 120, 116, 47, 112, 108, 97, 105, 110] : List UInt8) then (if t404.toList = ([120, 32, 121] : List UInt8) then (if t405 = true then ((mime_Type_Text.f k t398 t399).bind fun t410 => (if t410.toList = ([116, 101, 120, 116, 47, 112, 108, 97, 105, 110, 59, 32, 99, 104, 97, 114, 115, 101, 116, 61, 34, 120, 32, 121, 34] : List UInt8) then (if t407 = 0 then (if (t406.length : Int) = 1 then (if 0 < (t406.length : Int) then (some ((rdOf ByteArray.empty t406 0).toList == ([120] : List UInt8))) else (none)) else (some false)) else (some false)) else (some false))) else (some false)) else (some false)) else (some false)) else (some false)) = some r := H
 have A3 := Aside0.mk A30
 clear A30
 by_cases c4 : t402 = 0
 ·rw [if_pos c4] at H
  have c4b0 : (t402 == 0) = true := beq_iff_eq.mpr c4
  have c4b1 : (t402 != 0) = false := bne_eq_false_iff_eq.mpr c4
  clear c4
  by_cases c5 : t398.toList = ([116, 101, 120, 116, 47, 112, 108, 97, 105, 110] : List UInt8)
  ·rw [if_pos c5] at H
   have c5b0 : (t398.toList == ([116, 101, 120, 116, 47, 112, 108, 97, 105, 110] : List UInt8)) = true := beq_iff_eq.mpr c5
   have c5b1 : (t398.toList != ([116, 101, 120, 116, 47, 112, 108, 97, 105, 110] : List UInt8)) = false := bne_eq_false_iff_eq.mpr c5
   clear c5
   by_cases c6 : t404.toList = ([120, 32, 121] : List UInt8)
   ·rw [if_pos c6] at H
    have c6b0 : (t404.toList == ([120, 32, 121] : List UInt8)) = true := beq_iff_eq.mpr c6
    have c6b1 : (t404.toList != ([120, 32, 121] : List UInt8)) = false := bne_eq_false_iff_eq.mpr c6
    clear c6
    by_cases c7 : t405 = true
    ·subst c7
     have H1 : ((mime_Type_Text.f k t398 t399).bind fun t410 => (if t410.toList = ([116, 101, 120, 116, 47, 112, 108, 97, 105, 110, 59, 32, 99, 104, 97, 114, 115, 101, 116, 61, 34, 120, 32, 121, 34] : List UInt8) then (if t407 = 0 then (if (t406.length : Int) = 1 then (if 0 < (t406.length : Int) then (some ((rdOf ByteArray.empty t406 0).toList == ([120] : List UInt8))) else (none)) else (some false)) else (some false)) else (some false))) = some r := by rw [if_pos rfl] at H; exact H
     clear H
     have H := H1
     clear H1
     replace H := Option.bind_eq_some_iff.mp H
     obtain ⟨t410, A80, H⟩ := H
     replace H : (if t410.toList = ([116, 101, 120, 116, 47, 112, 108, 97, 105, 110, 59, 32, 99, 104, 97, 114, 115, 101, 116, 61, 34, 120, 32, 121, 34] : List UInt8) then (if t407 = 0 then (if (t406.length : Int) = 1 then (if 0 < (t406.length : Int) then (some ((rdOf ByteArray.empty t406 0).toList == ([120] : List UInt8))) else (none)) else (some false)) else (some false)) else (some false)) = some r := H
     have A8 := Aside0.mk A80
     clear A80
     by_cases c9 : t410.toList = ([116, 101, 120, 116, 47, 112, 108, 97, 105, 110, 59, 32, 99, 104, 97, 114, 115, 101, 116, 61, 34, 120, 32, 121, 34] : List UInt8)
     ·rw [if_pos c9] at H
      have c9b0 : (t410.toList == ([116, 101, 120, 116, 47, 112, 108, 97, 105, 110, 59, 32, 99, 104, 97, 114, 115, 101, 116, 61, 34, 120, 32, 121, 34] : List UInt8)) = true := beq_iff_eq.mpr c9
      have c9b1 : (t410.toList != ([116, 101, 120, 116, 47, 112, 108, 97, 105, 110, 59, 32, 99, 104, 97, 114, 115, 101, 116, 61, 34, 120, 32, 121, 34] : List UInt8)) = false := bne_eq_false_iff_eq.mpr c9
      clear c9
      by_cases c10 : t407 = 0
      ·rw [if_pos c10] at H
       have c10b0 : (t407 == 0) = true := beq_iff_eq.mpr c10
       have c10b1 : (t407 != 0) = false := bne_eq_false_iff_eq.mpr c10
       clear c10
       by_cases c11 : (t406.length : Int) = 1
       ·rw [if_pos c11] at H
        have c11b0 : ((t406.length : Int) == 1) = true := beq_iff_eq.mpr c11
        have c11b1 : ((t406.length : Int) != 1) = false := bne_eq_false_iff_eq.mpr c11
        clear c11
        by_cases c12 : 0 < (t406.length : Int)
        ·rw [if_pos c12] at H
         have c12b0 : decide (0 < (t406.length : Int)) = true := decide_eq_true c12
         have c12b1 : decide (0 < t406.length) = true := decide_eq_true (by omega)
         clear c12
         obtain rfl := Option.some.inj H
         go_enter Tryd.func26, Tryd.ntmps26
         go_wp2_with (first | ((with_reducible refine gate_callee (f := 27) rfl ?_); refine goesL_ (some 8) rfl rfl Tryd.func27 (by kernel_rfl) rfl #[.string (⟨#[84, 101, 120, 116, 47, 80, 108, 97, 105, 110, 59, 32, 67, 104, 97, 114, 115, 101, 116, 61, 34, 120, 32, 121, 34]⟩ : ByteArray)] rfl am ?_; (with_reducible refine (mime_ReadType.calls (hG := by first | exact hG | exact Glob.below hG (by first | exact HB.out | (repeat (first | (with_reducible first | exact HB.out | apply below_alloc | apply pw_below_drewN | apply below_drew1 | refine below_set ?_ GE403.out) | exact HB.out))) | exact Glob.drawn hG (by repeat (first | exact Drawn0.refl _ | apply Drawn0.step))) k (⟨#[84, 101, 120, 116, 47, 80, 108, 97, 105, 110, 59, 32, 67, 104, 97, 114, 115, 101, 116, 61, 34, 120, 32, 121, 34]⟩ : ByteArray) t398 t399 t402 _ A1.out).mono ?_); rintro e w13 ⟨v400, rfl, ho0, hb⟩; refine ⟨_, rfl, ?_⟩; have n0_ := Aside0.mk (Kd.R_lower ho0 (below_size bw)); have n1_ := Aside0.mk (below_step bw hb); clear HB; have HO401 := n0_; have HB := n1_; clear n0_ n1_; (try clear hb); (try clear hb2); (try clear hk); (try clear hi); (try clear ho0)) | ((with_reducible refine gate_dst (N := 1) rfl ?_); (try (refine gate_guard (by rfl) ?_; dsimp only)); refine box_event ?hg (N := 1) ?hd (cs := #[.string (⟨#[]⟩ : ByteArray), .slice none 0 0]) (t := 51) ?hr ?_; (case hd => rfl); (case hg => rfl); (case hr => first | (go_simp; done) | (go_simp; rfl)); intro gb403 hg w14 hbox hb; have n0_ := Aside0.mk (Kd.R_below (by (with_reducible repeat (first | apply Kd.R_alloc | apply Kd.R_drewN | apply Kd.R_drew)); exact HO401.out) hb); have n1_ := Aside0.mk (below_step bw hb); have n2_ := Aside0.mk (hbox); have n3_ := Aside0.mk ((by rw [hg]; exact (below_size bw) : w.heap.size ≤ gb403)); have n4_ := Aside0.mk ((by rw [hg]; exact (below_size bw) : w.heap.size ≤ gb403)); clear HO401; clear HB; have HO401 := n0_; have HB := n1_; have BK403 := n2_; have GW403 := n3_; have GE403 := n4_; clear n0_ n1_ n2_ n3_ n4_; clear hb hbox hg; have hcz15_0 : w14.cell? ⟨gb403, 0, none⟩ = some (.string (⟨#[]⟩ : ByteArray)) := (blk_cell BK403.out 0).trans rfl; have hcz15_1 : w14.cell? ⟨gb403, 1, none⟩ = some (.slice none 0 0) := (blk_cell BK403.out 1).trans rfl; have hfz15_0 := blk_frozen BK403.out 0; have hfz15_1 := blk_frozen BK403.out 1; obtain ⟨Ao16, co16, eo16⟩ := Kd.R_slice HO401.out; subst eo16) | ((with_reducible refine gate_callee (f := 31) rfl ?_); refine goesL_ (some 13) rfl rfl Tryd.func31 (by kernel_rfl) rfl #[.agg #[.string t398, .slice Ao16 t399.length co16], .string (⟨#[67, 72, 65, 82, 83, 69, 84]⟩ : ByteArray)] rfl am ?_; (with_reducible refine (mime_Type_Value.calls k t398 _ _ t399 (⟨#[67, 72, 65, 82, 83, 69, 84]⟩ : ByteArray) t404 true _ ?side1 ?side2 A2.out).mono ?_); (case side1 => refine (Kd.R_reads' (e := 104) (base := w.heap.size) (ok := fun k_ => True) (n := t399.length) (c := co16) ?_).2.2; exact (by (with_reducible repeat (first | apply Kd.R_alloc | apply Kd.R_drewN | apply Kd.R_drew)); exact (Kd.R_mono (Kd.R_far (p := ⟨gb403, 1, none⟩) (Kd.R_far (p := ⟨gb403, 0, none⟩) (Kd.R_types HO401.out BK403.out (by decide)) (fun _ hk => hk.2) (.string t398)) (fun _ hk => hk.2) (.slice Ao16 t399.length co16)) (fun _ h_ => h_.1)))); (case side2 => exact (Kd.R_reads' HO401.out).2.1); rintro e w17 ⟨rfl, hb⟩; refine ⟨_, rfl, ?_⟩; have n0_ := Aside0.mk (Kd.R_below (by (with_reducible repeat (first | apply Kd.R_alloc | apply Kd.R_drewN | apply Kd.R_drew)); exact (Kd.R_mono (Kd.R_far (p := ⟨gb403, 1, none⟩) (Kd.R_far (p := ⟨gb403, 0, none⟩) (Kd.R_types HO401.out BK403.out (by decide)) (fun _ hk => hk.2) (.string t398)) (fun _ hk => hk.2) (.slice Ao16 t399.length co16)) (fun _ h_ => h_.1))) hb); have n1_ := Aside0.mk (blk_below (g := gb403) (o := .cells #[.string t398, .slice Ao16 t399.length co16] 51 (0, 0)) (by (with_reducible repeat (first | refine blk_drewN ?_ _ | refine blk_drew ?_ | refine blk_alloc ?_ _)); refine blk_put (cs := #[.string t398, .slice none 0 0]) ?_ 1 _ rfl; (with_reducible repeat (first | refine blk_drewN ?_ _ | refine blk_drew ?_ | refine blk_alloc ?_ _)); refine blk_put (cs := #[.string (⟨#[]⟩ : ByteArray), .slice none 0 0]) ?_ 0 _ rfl; (with_reducible repeat (first | refine blk_drewN ?_ _ | refine blk_drew ?_ | refine blk_alloc ?_ _)); exact BK403.out) hb); have n2_ := Aside0.mk (below_step bwS hb); clear HO401; clear BK403; clear HB; have HO401 := n0_; have BK403 := n1_; have HB := n2_; clear n0_ n1_ n2_; (try clear hb); (try clear hb2); (try clear hk); (try clear hi)) | ((with_reducible refine gate_callee (f := 38) rfl ?_); refine goesL_ (some 17) rfl rfl Tryd.func38 (by kernel_rfl) rfl #[.string (⟨#[45, 45, 98, 13, 10, 120, 13, 10, 45, 45, 98, 45, 45, 13, 10]⟩ : ByteArray), .string (⟨#[98]⟩ : ByteArray)] rfl am ?_; (with_reducible refine (mime_Split.calls (hG := by first | exact hG | exact Glob.below hG (by first | exact HB.out | (repeat (first | (with_reducible first | exact HB.out | apply below_alloc | apply pw_below_drewN | apply below_drew1 | refine below_set ?_ GE403.out) | exact HB.out))) | exact Glob.drawn hG (by repeat (first | exact Drawn0.refl _ | apply Drawn0.step))) (⟨#[45, 45, 98, 13, 10, 120, 13, 10, 45, 45, 98, 45, 45, 13, 10]⟩ : ByteArray) (⟨#[98]⟩ : ByteArray) t406 t407 _ A3.out).mono ?_); rintro e w18 ⟨v408, rfl, ho0, hb⟩; refine ⟨_, rfl, ?_⟩; have n0_ := Aside0.mk (Kd.R_below (by (with_reducible repeat (first | apply Kd.R_alloc | apply Kd.R_drewN | apply Kd.R_drew)); exact HO401.out) hb); have n1_ := Aside0.mk (Kd.R_lower ho0 (below_size bwS)); have n2_ := Aside0.mk (blk_below (g := gb403) (o := .cells #[.string t398, .slice Ao16 t399.length co16] 51 (0, 0)) bk hb); have n3_ := Aside0.mk (below_step bwS hb); clear HO401; clear BK403; clear HB; have HO401 := n0_; have HO409 := n1_; have BK403 := n2_; have HB := n3_; clear n0_ n1_ n2_ n3_; (try clear hb); (try clear hb2); (try clear hk); (try clear hi); (try clear ho0); have hcz19_0 : w18.cell? ⟨gb403, 0, none⟩ = some (.string t398) := (blk_cell BK403.out 0).trans rfl; have hcz19_1 : w18.cell? ⟨gb403, 1, none⟩ = some (.slice Ao16 t399.length co16) := (blk_cell BK403.out 1).trans rfl; have hfz19_0 := blk_frozen BK403.out 0; have hfz19_1 := blk_frozen BK403.out 1) | (go_at_call 33; (with_reducible refine (mime_Type_Text.calls (hG := by first | exact hG | exact Glob.below hG (by first | exact HB.out | (repeat (first | (with_reducible first | exact HB.out | apply below_alloc | apply pw_below_drewN | apply below_drew1 | refine below_set ?_ GE403.out) | exact HB.out))) | exact Glob.drawn hG (by repeat (first | exact Drawn0.refl _ | apply Drawn0.step))) k t398 _ _ t399 t410 _ ?side1 ?side2 A8.out).mono ?_); (case side1 => repeat (first | exact (Kd.R_reads' HO401.out).2.2 | (with_reducible refine Kd.C_alloc ?_ _) | (with_reducible refine Kd.C_drewN ?_ _) | (with_reducible refine Kd.C_drew ?_))); (case side2 => exact (Kd.R_reads' HO401.out).2.1); rintro e w20 ⟨rfl, hb⟩; have n0_ := Aside0.mk (Kd.R_below (by (with_reducible repeat (first | apply Kd.R_alloc | apply Kd.R_drewN | apply Kd.R_drew)); exact HO401.out) hb); have n1_ := Aside0.mk (Kd.R_below (by (with_reducible repeat (first | apply Kd.R_alloc | apply Kd.R_drewN | apply Kd.R_drew)); exact HO409.out) hb); have n2_ := Aside0.mk (blk_below (g := gb403) (o := .cells #[.string t398, .slice Ao16 t399.length co16] 51 (0, 0)) bk hb); have n3_ := Aside0.mk (below_step bwS hb); clear HO401; clear HO409; clear BK403; clear HB; have HO401 := n0_; have HO409 := n1_; have BK403 := n2_; have HB := n3_; clear n0_ n1_ n2_ n3_; (try clear hb); (try clear hb2); (try clear hk); (try clear hi); obtain ⟨Ao21, co21, eo21⟩ := Kd.R_slice HO409.out; subst eo21; have p411 : 0 ≤ (0 : Int) := (by omega); have q411 : 0 < (t406.length : Int) := od; obtain ⟨ad411, e411, hx411_0⟩ := Kd.at_string (Kd.R_reads' HO409.out).2.2 0 p411 q411; cases e411; have qi411 : (0 < t406.length) = True := eq_true (by omega); (try rw [show ((0 : Int)).toNat = 0 from rfl] at hx411_0); (try rw [Addr.add_zero'] at hx411_0); replace p411 := eq_true p411; replace q411 := eq_true q411))
         go_ret
         exact ⟨by first | rfl | (simp [errW_none, errW_some] <;> rfl) | (simp [*, errW_none, errW_some] <;> rfl), bwS⟩
        ·rw [if_neg c12] at H
         exact absurd H (by simp)
       ·rw [if_neg c11] at H
        have c11b0 : ((t406.length : Int) == 1) = false := beq_eq_false_iff_ne.mpr c11
        have c11b1 : ((t406.length : Int) != 1) = true := bne_iff_ne.mpr c11
        obtain rfl := Option.some.inj H
        go_enter Tryd.func26, Tryd.ntmps26
        go_wp2_with (first | ((with_reducible refine gate_callee (f := 27) rfl ?_); refine goesL_ (some 8) rfl rfl Tryd.func27 (by kernel_rfl) rfl #[.string (⟨#[84, 101, 120, 116, 47, 80, 108, 97, 105, 110, 59, 32, 67, 104, 97, 114, 115, 101, 116, 61, 34, 120, 32, 121, 34]⟩ : ByteArray)] rfl am ?_; (with_reducible refine (mime_ReadType.calls (hG := by first | exact hG | exact Glob.below hG (by first | exact HB.out | (repeat (first | (with_reducible first | exact HB.out | apply below_alloc | apply pw_below_drewN | apply below_drew1 | refine below_set ?_ GE403.out) | exact HB.out))) | exact Glob.drawn hG (by repeat (first | exact Drawn0.refl _ | apply Drawn0.step))) k (⟨#[84, 101, 120, 116, 47, 80, 108, 97, 105, 110, 59, 32, 67, 104, 97, 114, 115, 101, 116, 61, 34, 120, 32, 121, 34]⟩ : ByteArray) t398 t399 t402 _ A1.out).mono ?_); rintro e w22 ⟨v400, rfl, ho0, hb⟩; refine ⟨_, rfl, ?_⟩; have n0_ := Aside0.mk (Kd.R_lower ho0 (below_size bw)); have n1_ := Aside0.mk (below_step bw hb); clear HB; have HO401 := n0_; have HB := n1_; clear n0_ n1_; (try clear hb); (try clear hb2); (try clear hk); (try clear hi); (try clear ho0)) | ((with_reducible refine gate_dst (N := 1) rfl ?_); (try (refine gate_guard (by rfl) ?_; dsimp only)); refine box_event ?hg (N := 1) ?hd (cs := #[.string (⟨#[]⟩ : ByteArray), .slice none 0 0]) (t := 51) ?hr ?_; (case hd => rfl); (case hg => rfl); (case hr => first | (go_simp; done) | (go_simp; rfl)); intro gb403 hg w23 hbox hb; have n0_ := Aside0.mk (Kd.R_below (by (with_reducible repeat (first | apply Kd.R_alloc | apply Kd.R_drewN | apply Kd.R_drew)); exact HO401.out) hb); have n1_ := Aside0.mk (below_step bw hb); have n2_ := Aside0.mk (hbox); have n3_ := Aside0.mk ((by rw [hg]; exact (below_size bw) : w.heap.size ≤ gb403)); have n4_ := Aside0.mk ((by rw [hg]; exact (below_size bw) : w.heap.size ≤ gb403)); clear HO401; clear HB; have HO401 := n0_; have HB := n1_; have BK403 := n2_; have GW403 := n3_; have GE403 := n4_; clear n0_ n1_ n2_ n3_ n4_; clear hb hbox hg; have hcz24_0 : w23.cell? ⟨gb403, 0, none⟩ = some (.string (⟨#[]⟩ : ByteArray)) := (blk_cell BK403.out 0).trans rfl; have hcz24_1 : w23.cell? ⟨gb403, 1, none⟩ = some (.slice none 0 0) := (blk_cell BK403.out 1).trans rfl; have hfz24_0 := blk_frozen BK403.out 0; have hfz24_1 := blk_frozen BK403.out 1; obtain ⟨Ao25, co25, eo25⟩ := Kd.R_slice HO401.out; subst eo25) | ((with_reducible refine gate_callee (f := 31) rfl ?_); refine goesL_ (some 13) rfl rfl Tryd.func31 (by kernel_rfl) rfl #[.agg #[.string t398, .slice Ao25 t399.length co25], .string (⟨#[67, 72, 65, 82, 83, 69, 84]⟩ : ByteArray)] rfl am ?_; (with_reducible refine (mime_Type_Value.calls k t398 _ _ t399 (⟨#[67, 72, 65, 82, 83, 69, 84]⟩ : ByteArray) t404 true _ ?side1 ?side2 A2.out).mono ?_); (case side1 => refine (Kd.R_reads' (e := 104) (base := w.heap.size) (ok := fun k_ => True) (n := t399.length) (c := co25) ?_).2.2; exact (by (with_reducible repeat (first | apply Kd.R_alloc | apply Kd.R_drewN | apply Kd.R_drew)); exact (Kd.R_mono (Kd.R_far (p := ⟨gb403, 1, none⟩) (Kd.R_far (p := ⟨gb403, 0, none⟩) (Kd.R_types HO401.out BK403.out (by decide)) (fun _ hk => hk.2) (.string t398)) (fun _ hk => hk.2) (.slice Ao25 t399.length co25)) (fun _ h_ => h_.1)))); (case side2 => exact (Kd.R_reads' HO401.out).2.1); rintro e w26 ⟨rfl, hb⟩; refine ⟨_, rfl, ?_⟩; have n0_ := Aside0.mk (Kd.R_below (by (with_reducible repeat (first | apply Kd.R_alloc | apply Kd.R_drewN | apply Kd.R_drew)); exact (Kd.R_mono (Kd.R_far (p := ⟨gb403, 1, none⟩) (Kd.R_far (p := ⟨gb403, 0, none⟩) (Kd.R_types HO401.out BK403.out (by decide)) (fun _ hk => hk.2) (.string t398)) (fun _ hk => hk.2) (.slice Ao25 t399.length co25)) (fun _ h_ => h_.1))) hb); have n1_ := Aside0.mk (blk_below (g := gb403) (o := .cells #[.string t398, .slice Ao25 t399.length co25] 51 (0, 0)) (by (with_reducible repeat (first | refine blk_drewN ?_ _ | refine blk_drew ?_ | refine blk_alloc ?_ _)); refine blk_put (cs := #[.string t398, .slice none 0 0]) ?_ 1 _ rfl; (with_reducible repeat (first | refine blk_drewN ?_ _ | refine blk_drew ?_ | refine blk_alloc ?_ _)); refine blk_put (cs := #[.string (⟨#[]⟩ : ByteArray), .slice none 0 0]) ?_ 0 _ rfl; (with_reducible repeat (first | refine blk_drewN ?_ _ | refine blk_drew ?_ | refine blk_alloc ?_ _)); exact BK403.out) hb); have n2_ := Aside0.mk (below_step bwS hb); clear HO401; clear BK403; clear HB; have HO401 := n0_; have BK403 := n1_; have HB := n2_; clear n0_ n1_ n2_; (try clear hb); (try clear hb2); (try clear hk); (try clear hi)) | ((with_reducible refine gate_callee (f := 38) rfl ?_); refine goesL_ (some 17) rfl rfl Tryd.func38 (by kernel_rfl) rfl #[.string (⟨#[45, 45, 98, 13, 10, 120, 13, 10, 45, 45, 98, 45, 45, 13, 10]⟩ : ByteArray), .string (⟨#[98]⟩ : ByteArray)] rfl am ?_; (with_reducible refine (mime_Split.calls (hG := by first | exact hG | exact Glob.below hG (by first | exact HB.out | (repeat (first | (with_reducible first | exact HB.out | apply below_alloc | apply pw_below_drewN | apply below_drew1 | refine below_set ?_ GE403.out) | exact HB.out))) | exact Glob.drawn hG (by repeat (first | exact Drawn0.refl _ | apply Drawn0.step))) (⟨#[45, 45, 98, 13, 10, 120, 13, 10, 45, 45, 98, 45, 45, 13, 10]⟩ : ByteArray) (⟨#[98]⟩ : ByteArray) t406 t407 _ A3.out).mono ?_); rintro e w27 ⟨v408, rfl, ho0, hb⟩; refine ⟨_, rfl, ?_⟩; have n0_ := Aside0.mk (Kd.R_below (by (with_reducible repeat (first | apply Kd.R_alloc | apply Kd.R_drewN | apply Kd.R_drew)); exact HO401.out) hb); have n1_ := Aside0.mk (Kd.R_lower ho0 (below_size bwS)); have n2_ := Aside0.mk (blk_below (g := gb403) (o := .cells #[.string t398, .slice Ao25 t399.length co25] 51 (0, 0)) bk hb); have n3_ := Aside0.mk (below_step bwS hb); clear HO401; clear BK403; clear HB; have HO401 := n0_; have HO409 := n1_; have BK403 := n2_; have HB := n3_; clear n0_ n1_ n2_ n3_; (try clear hb); (try clear hb2); (try clear hk); (try clear hi); (try clear ho0); have hcz28_0 : w27.cell? ⟨gb403, 0, none⟩ = some (.string t398) := (blk_cell BK403.out 0).trans rfl; have hcz28_1 : w27.cell? ⟨gb403, 1, none⟩ = some (.slice Ao25 t399.length co25) := (blk_cell BK403.out 1).trans rfl; have hfz28_0 := blk_frozen BK403.out 0; have hfz28_1 := blk_frozen BK403.out 1) | (go_at_call 33; (with_reducible refine (mime_Type_Text.calls (hG := by first | exact hG | exact Glob.below hG (by first | exact HB.out | (repeat (first | (with_reducible first | exact HB.out | apply below_alloc | apply pw_below_drewN | apply below_drew1 | refine below_set ?_ GE403.out) | exact HB.out))) | exact Glob.drawn hG (by repeat (first | exact Drawn0.refl _ | apply Drawn0.step))) k t398 _ _ t399 t410 _ ?side1 ?side2 A8.out).mono ?_); (case side1 => repeat (first | exact (Kd.R_reads' HO401.out).2.2 | (with_reducible refine Kd.C_alloc ?_ _) | (with_reducible refine Kd.C_drewN ?_ _) | (with_reducible refine Kd.C_drew ?_))); (case side2 => exact (Kd.R_reads' HO401.out).2.1); rintro e w29 ⟨rfl, hb⟩; have n0_ := Aside0.mk (Kd.R_below (by (with_reducible repeat (first | apply Kd.R_alloc | apply Kd.R_drewN | apply Kd.R_drew)); exact HO401.out) hb); have n1_ := Aside0.mk (Kd.R_below (by (with_reducible repeat (first | apply Kd.R_alloc | apply Kd.R_drewN | apply Kd.R_drew)); exact HO409.out) hb); have n2_ := Aside0.mk (blk_below (g := gb403) (o := .cells #[.string t398, .slice Ao25 t399.length co25] 51 (0, 0)) bk hb); have n3_ := Aside0.mk (below_step bwS hb); clear HO401; clear HO409; clear BK403; clear HB; have HO401 := n0_; have HO409 := n1_; have BK403 := n2_; have HB := n3_; clear n0_ n1_ n2_ n3_; (try clear hb); (try clear hb2); (try clear hk); (try clear hi); obtain ⟨Ao30, co30, eo30⟩ := Kd.R_slice HO409.out; subst eo30))
        go_ret
        exact ⟨by first | rfl | (simp [errW_none, errW_some] <;> rfl) | (simp [*, errW_none, errW_some] <;> rfl), bwS⟩
      ·rw [if_neg c10] at H
       have c10b0 : (t407 == 0) = false := beq_eq_false_iff_ne.mpr c10
       have c10b1 : (t407 != 0) = true := bne_iff_ne.mpr c10
       obtain rfl := Option.some.inj H
       go_enter Tryd.func26, Tryd.ntmps26
       go_wp2_with (first | ((with_reducible refine gate_callee (f := 27) rfl ?_); refine goesL_ (some 8) rfl rfl Tryd.func27 (by kernel_rfl) rfl #[.string (⟨#[84, 101, 120, 116, 47, 80, 108, 97, 105, 110, 59, 32, 67, 104, 97, 114, 115, 101, 116, 61, 34, 120, 32, 121, 34]⟩ : ByteArray)] rfl am ?_; (with_reducible refine (mime_ReadType.calls (hG := by first | exact hG | exact Glob.below hG (by first | exact HB.out | (repeat (first | (with_reducible first | exact HB.out | apply below_alloc | apply pw_below_drewN | apply below_drew1 | refine below_set ?_ GE403.out) | exact HB.out))) | exact Glob.drawn hG (by repeat (first | exact Drawn0.refl _ | apply Drawn0.step))) k (⟨#[84, 101, 120, 116, 47, 80, 108, 97, 105, 110, 59, 32, 67, 104, 97, 114, 115, 101, 116, 61, 34, 120, 32, 121, 34]⟩ : ByteArray) t398 t399 t402 _ A1.out).mono ?_); rintro e w31 ⟨v400, rfl, ho0, hb⟩; refine ⟨_, rfl, ?_⟩; have n0_ := Aside0.mk (Kd.R_lower ho0 (below_size bw)); have n1_ := Aside0.mk (below_step bw hb); clear HB; have HO401 := n0_; have HB := n1_; clear n0_ n1_; (try clear hb); (try clear hb2); (try clear hk); (try clear hi); (try clear ho0)) | ((with_reducible refine gate_dst (N := 1) rfl ?_); (try (refine gate_guard (by rfl) ?_; dsimp only)); refine box_event ?hg (N := 1) ?hd (cs := #[.string (⟨#[]⟩ : ByteArray), .slice none 0 0]) (t := 51) ?hr ?_; (case hd => rfl); (case hg => rfl); (case hr => first | (go_simp; done) | (go_simp; rfl)); intro gb403 hg w32 hbox hb; have n0_ := Aside0.mk (Kd.R_below (by (with_reducible repeat (first | apply Kd.R_alloc | apply Kd.R_drewN | apply Kd.R_drew)); exact HO401.out) hb); have n1_ := Aside0.mk (below_step bw hb); have n2_ := Aside0.mk (hbox); have n3_ := Aside0.mk ((by rw [hg]; exact (below_size bw) : w.heap.size ≤ gb403)); have n4_ := Aside0.mk ((by rw [hg]; exact (below_size bw) : w.heap.size ≤ gb403)); clear HO401; clear HB; have HO401 := n0_; have HB := n1_; have BK403 := n2_; have GW403 := n3_; have GE403 := n4_; clear n0_ n1_ n2_ n3_ n4_; clear hb hbox hg; have hcz33_0 : w32.cell? ⟨gb403, 0, none⟩ = some (.string (⟨#[]⟩ : ByteArray)) := (blk_cell BK403.out 0).trans rfl; have hcz33_1 : w32.cell? ⟨gb403, 1, none⟩ = some (.slice none 0 0) := (blk_cell BK403.out 1).trans rfl; have hfz33_0 := blk_frozen BK403.out 0; have hfz33_1 := blk_frozen BK403.out 1; obtain ⟨Ao34, co34, eo34⟩ := Kd.R_slice HO401.out; subst eo34) | ((with_reducible refine gate_callee (f := 31) rfl ?_); refine goesL_ (some 13) rfl rfl Tryd.func31 (by kernel_rfl) rfl #[.agg #[.string t398, .slice Ao34 t399.length co34], .string (⟨#[67, 72, 65, 82, 83, 69, 84]⟩ : ByteArray)] rfl am ?_; (with_reducible refine (mime_Type_Value.calls k t398 _ _ t399 (⟨#[67, 72, 65, 82, 83, 69, 84]⟩ : ByteArray) t404 true _ ?side1 ?side2 A2.out).mono ?_); (case side1 => refine (Kd.R_reads' (e := 104) (base := w.heap.size) (ok := fun k_ => True) (n := t399.length) (c := co34) ?_).2.2; exact (by (with_reducible repeat (first | apply Kd.R_alloc | apply Kd.R_drewN | apply Kd.R_drew)); exact (Kd.R_mono (Kd.R_far (p := ⟨gb403, 1, none⟩) (Kd.R_far (p := ⟨gb403, 0, none⟩) (Kd.R_types HO401.out BK403.out (by decide)) (fun _ hk => hk.2) (.string t398)) (fun _ hk => hk.2) (.slice Ao34 t399.length co34)) (fun _ h_ => h_.1)))); (case side2 => exact (Kd.R_reads' HO401.out).2.1); rintro e w35 ⟨rfl, hb⟩; refine ⟨_, rfl, ?_⟩; have n0_ := Aside0.mk (Kd.R_below (by (with_reducible repeat (first | apply Kd.R_alloc | apply Kd.R_drewN | apply Kd.R_drew)); exact (Kd.R_mono (Kd.R_far (p := ⟨gb403, 1, none⟩) (Kd.R_far (p := ⟨gb403, 0, none⟩) (Kd.R_types HO401.out BK403.out (by decide)) (fun _ hk => hk.2) (.string t398)) (fun _ hk => hk.2) (.slice Ao34 t399.length co34)) (fun _ h_ => h_.1))) hb); have n1_ := Aside0.mk (blk_below (g := gb403) (o := .cells #[.string t398, .slice Ao34 t399.length co34] 51 (0, 0)) (by (with_reducible repeat (first | refine blk_drewN ?_ _ | refine blk_drew ?_ | refine blk_alloc ?_ _)); refine blk_put (cs := #[.string t398, .slice none 0 0]) ?_ 1 _ rfl; (with_reducible repeat (first | refine blk_drewN ?_ _ | refine blk_drew ?_ | refine blk_alloc ?_ _)); refine blk_put (cs := #[.string (⟨#[]⟩ : ByteArray), .slice none 0 0]) ?_ 0 _ rfl; (with_reducible repeat (first | refine blk_drewN ?_ _ | refine blk_drew ?_ | refine blk_alloc ?_ _)); exact BK403.out) hb); have n2_ := Aside0.mk (below_step bwS hb); clear HO401; clear BK403; clear HB; have HO401 := n0_; have BK403 := n1_; have HB := n2_; clear n0_ n1_ n2_; (try clear hb); (try clear hb2); (try clear hk); (try clear hi)) | ((with_reducible refine gate_callee (f := 38) rfl ?_); refine goesL_ (some 17) rfl rfl Tryd.func38 (by kernel_rfl) rfl #[.string (⟨#[45, 45, 98, 13, 10, 120, 13, 10, 45, 45, 98, 45, 45, 13, 10]⟩ : ByteArray), .string (⟨#[98]⟩ : ByteArray)] rfl am ?_; (with_reducible refine (mime_Split.calls (hG := by first | exact hG | exact Glob.below hG (by first | exact HB.out | (repeat (first | (with_reducible first | exact HB.out | apply below_alloc | apply pw_below_drewN | apply below_drew1 | refine below_set ?_ GE403.out) | exact HB.out))) | exact Glob.drawn hG (by repeat (first | exact Drawn0.refl _ | apply Drawn0.step))) (⟨#[45, 45, 98, 13, 10, 120, 13, 10, 45, 45, 98, 45, 45, 13, 10]⟩ : ByteArray) (⟨#[98]⟩ : ByteArray) t406 t407 _ A3.out).mono ?_); rintro e w36 ⟨v408, rfl, ho0, hb⟩; refine ⟨_, rfl, ?_⟩; have n0_ := Aside0.mk (Kd.R_below (by (with_reducible repeat (first | apply Kd.R_alloc | apply Kd.R_drewN | apply Kd.R_drew)); exact HO401.out) hb); have n1_ := Aside0.mk (Kd.R_lower ho0 (below_size bwS)); have n2_ := Aside0.mk (blk_below (g := gb403) (o := .cells #[.string t398, .slice Ao34 t399.length co34] 51 (0, 0)) bk hb); have n3_ := Aside0.mk (below_step bwS hb); clear HO401; clear BK403; clear HB; have HO401 := n0_; have HO409 := n1_; have BK403 := n2_; have HB := n3_; clear n0_ n1_ n2_ n3_; (try clear hb); (try clear hb2); (try clear hk); (try clear hi); (try clear ho0); have hcz37_0 : w36.cell? ⟨gb403, 0, none⟩ = some (.string t398) := (blk_cell BK403.out 0).trans rfl; have hcz37_1 : w36.cell? ⟨gb403, 1, none⟩ = some (.slice Ao34 t399.length co34) := (blk_cell BK403.out 1).trans rfl; have hfz37_0 := blk_frozen BK403.out 0; have hfz37_1 := blk_frozen BK403.out 1) | (go_at_call 33; (with_reducible refine (mime_Type_Text.calls (hG := by first | exact hG | exact Glob.below hG (by first | exact HB.out | (repeat (first | (with_reducible first | exact HB.out | apply below_alloc | apply pw_below_drewN | apply below_drew1 | refine below_set ?_ GE403.out) | exact HB.out))) | exact Glob.drawn hG (by repeat (first | exact Drawn0.refl _ | apply Drawn0.step))) k t398 _ _ t399 t410 _ ?side1 ?side2 A8.out).mono ?_); (case side1 => repeat (first | exact (Kd.R_reads' HO401.out).2.2 | (with_reducible refine Kd.C_alloc ?_ _) | (with_reducible refine Kd.C_drewN ?_ _) | (with_reducible refine Kd.C_drew ?_))); (case side2 => exact (Kd.R_reads' HO401.out).2.1); rintro e w38 ⟨rfl, hb⟩; have n0_ := Aside0.mk (Kd.R_below (by (with_reducible repeat (first | apply Kd.R_alloc | apply Kd.R_drewN | apply Kd.R_drew)); exact HO401.out) hb); have n1_ := Aside0.mk (Kd.R_below (by (with_reducible repeat (first | apply Kd.R_alloc | apply Kd.R_drewN | apply Kd.R_drew)); exact HO409.out) hb); have n2_ := Aside0.mk (blk_below (g := gb403) (o := .cells #[.string t398, .slice Ao34 t399.length co34] 51 (0, 0)) bk hb); have n3_ := Aside0.mk (below_step bwS hb); clear HO401; clear HO409; clear BK403; clear HB; have HO401 := n0_; have HO409 := n1_; have BK403 := n2_; have HB := n3_; clear n0_ n1_ n2_ n3_; (try clear hb); (try clear hb2); (try clear hk); (try clear hi)))
       go_ret
       exact ⟨by first | rfl | (simp [errW_none, errW_some] <;> rfl) | (simp [*, errW_none, errW_some] <;> rfl), bwS⟩
     ·rw [if_neg c9] at H
      have c9b0 : (t410.toList == ([116, 101, 120, 116, 47, 112, 108, 97, 105, 110, 59, 32, 99, 104, 97, 114, 115, 101, 116, 61, 34, 120, 32, 121, 34] : List UInt8)) = false := beq_eq_false_iff_ne.mpr c9
      have c9b1 : (t410.toList != ([116, 101, 120, 116, 47, 112, 108, 97, 105, 110, 59, 32, 99, 104, 97, 114, 115, 101, 116, 61, 34, 120, 32, 121, 34] : List UInt8)) = true := bne_iff_ne.mpr c9
      obtain rfl := Option.some.inj H
      go_enter Tryd.func26, Tryd.ntmps26
      go_wp2_with (first | ((with_reducible refine gate_callee (f := 27) rfl ?_); refine goesL_ (some 8) rfl rfl Tryd.func27 (by kernel_rfl) rfl #[.string (⟨#[84, 101, 120, 116, 47, 80, 108, 97, 105, 110, 59, 32, 67, 104, 97, 114, 115, 101, 116, 61, 34, 120, 32, 121, 34]⟩ : ByteArray)] rfl am ?_; (with_reducible refine (mime_ReadType.calls (hG := by first | exact hG | exact Glob.below hG (by first | exact HB.out | (repeat (first | (with_reducible first | exact HB.out | apply below_alloc | apply pw_below_drewN | apply below_drew1 | refine below_set ?_ GE403.out) | exact HB.out))) | exact Glob.drawn hG (by repeat (first | exact Drawn0.refl _ | apply Drawn0.step))) k (⟨#[84, 101, 120, 116, 47, 80, 108, 97, 105, 110, 59, 32, 67, 104, 97, 114, 115, 101, 116, 61, 34, 120, 32, 121, 34]⟩ : ByteArray) t398 t399 t402 _ A1.out).mono ?_); rintro e w39 ⟨v400, rfl, ho0, hb⟩; refine ⟨_, rfl, ?_⟩; have n0_ := Aside0.mk (Kd.R_lower ho0 (below_size bw)); have n1_ := Aside0.mk (below_step bw hb); clear HB; have HO401 := n0_; have HB := n1_; clear n0_ n1_; (try clear hb); (try clear hb2); (try clear hk); (try clear hi); (try clear ho0)) | ((with_reducible refine gate_dst (N := 1) rfl ?_); (try (refine gate_guard (by rfl) ?_; dsimp only)); refine box_event ?hg (N := 1) ?hd (cs := #[.string (⟨#[]⟩ : ByteArray), .slice none 0 0]) (t := 51) ?hr ?_; (case hd => rfl); (case hg => rfl); (case hr => first | (go_simp; done) | (go_simp; rfl)); intro gb403 hg w40 hbox hb; have n0_ := Aside0.mk (Kd.R_below (by (with_reducible repeat (first | apply Kd.R_alloc | apply Kd.R_drewN | apply Kd.R_drew)); exact HO401.out) hb); have n1_ := Aside0.mk (below_step bw hb); have n2_ := Aside0.mk (hbox); have n3_ := Aside0.mk ((by rw [hg]; exact (below_size bw) : w.heap.size ≤ gb403)); have n4_ := Aside0.mk ((by rw [hg]; exact (below_size bw) : w.heap.size ≤ gb403)); clear HO401; clear HB; have HO401 := n0_; have HB := n1_; have BK403 := n2_; have GW403 := n3_; have GE403 := n4_; clear n0_ n1_ n2_ n3_ n4_; clear hb hbox hg; have hcz41_0 : w40.cell? ⟨gb403, 0, none⟩ = some (.string (⟨#[]⟩ : ByteArray)) := (blk_cell BK403.out 0).trans rfl; have hcz41_1 : w40.cell? ⟨gb403, 1, none⟩ = some (.slice none 0 0) := (blk_cell BK403.out 1).trans rfl; have hfz41_0 := blk_frozen BK403.out 0; have hfz41_1 := blk_frozen BK403.out 1; obtain ⟨Ao42, co42, eo42⟩ := Kd.R_slice HO401.out; subst eo42) | ((with_reducible refine gate_callee (f := 31) rfl ?_); refine goesL_ (some 13) rfl rfl Tryd.func31 (by kernel_rfl) rfl #[.agg #[.string t398, .slice Ao42 t399.length co42], .string (⟨#[67, 72, 65, 82, 83, 69, 84]⟩ : ByteArray)] rfl am ?_; (with_reducible refine (mime_Type_Value.calls k t398 _ _ t399 (⟨#[67, 72, 65, 82, 83, 69, 84]⟩ : ByteArray) t404 true _ ?side1 ?side2 A2.out).mono ?_); (case side1 => refine (Kd.R_reads' (e := 104) (base := w.heap.size) (ok := fun k_ => True) (n := t399.length) (c := co42) ?_).2.2; exact (by (with_reducible repeat (first | apply Kd.R_alloc | apply Kd.R_drewN | apply Kd.R_drew)); exact (Kd.R_mono (Kd.R_far (p := ⟨gb403, 1, none⟩) (Kd.R_far (p := ⟨gb403, 0, none⟩) (Kd.R_types HO401.out BK403.out (by decide)) (fun _ hk => hk.2) (.string t398)) (fun _ hk => hk.2) (.slice Ao42 t399.length co42)) (fun _ h_ => h_.1)))); (case side2 => exact (Kd.R_reads' HO401.out).2.1); rintro e w43 ⟨rfl, hb⟩; refine ⟨_, rfl, ?_⟩; have n0_ := Aside0.mk (Kd.R_below (by (with_reducible repeat (first | apply Kd.R_alloc | apply Kd.R_drewN | apply Kd.R_drew)); exact (Kd.R_mono (Kd.R_far (p := ⟨gb403, 1, none⟩) (Kd.R_far (p := ⟨gb403, 0, none⟩) (Kd.R_types HO401.out BK403.out (by decide)) (fun _ hk => hk.2) (.string t398)) (fun _ hk => hk.2) (.slice Ao42 t399.length co42)) (fun _ h_ => h_.1))) hb); have n1_ := Aside0.mk (blk_below (g := gb403) (o := .cells #[.string t398, .slice Ao42 t399.length co42] 51 (0, 0)) (by (with_reducible repeat (first | refine blk_drewN ?_ _ | refine blk_drew ?_ | refine blk_alloc ?_ _)); refine blk_put (cs := #[.string t398, .slice none 0 0]) ?_ 1 _ rfl; (with_reducible repeat (first | refine blk_drewN ?_ _ | refine blk_drew ?_ | refine blk_alloc ?_ _)); refine blk_put (cs := #[.string (⟨#[]⟩ : ByteArray), .slice none 0 0]) ?_ 0 _ rfl; (with_reducible repeat (first | refine blk_drewN ?_ _ | refine blk_drew ?_ | refine blk_alloc ?_ _)); exact BK403.out) hb); have n2_ := Aside0.mk (below_step bwS hb); clear HO401; clear BK403; clear HB; have HO401 := n0_; have BK403 := n1_; have HB := n2_; clear n0_ n1_ n2_; (try clear hb); (try clear hb2); (try clear hk); (try clear hi)) | ((with_reducible refine gate_callee (f := 38) rfl ?_); refine goesL_ (some 17) rfl rfl Tryd.func38 (by kernel_rfl) rfl #[.string (⟨#[45, 45, 98, 13, 10, 120, 13, 10, 45, 45, 98, 45, 45, 13, 10]⟩ : ByteArray), .string (⟨#[98]⟩ : ByteArray)] rfl am ?_; (with_reducible refine (mime_Split.calls (hG := by first | exact hG | exact Glob.below hG (by first | exact HB.out | (repeat (first | (with_reducible first | exact HB.out | apply below_alloc | apply pw_below_drewN | apply below_drew1 | refine below_set ?_ GE403.out) | exact HB.out))) | exact Glob.drawn hG (by repeat (first | exact Drawn0.refl _ | apply Drawn0.step))) (⟨#[45, 45, 98, 13, 10, 120, 13, 10, 45, 45, 98, 45, 45, 13, 10]⟩ : ByteArray) (⟨#[98]⟩ : ByteArray) t406 t407 _ A3.out).mono ?_); rintro e w44 ⟨v408, rfl, ho0, hb⟩; refine ⟨_, rfl, ?_⟩; have n0_ := Aside0.mk (Kd.R_below (by (with_reducible repeat (first | apply Kd.R_alloc | apply Kd.R_drewN | apply Kd.R_drew)); exact HO401.out) hb); have n1_ := Aside0.mk (Kd.R_lower ho0 (below_size bwS)); have n2_ := Aside0.mk (blk_below (g := gb403) (o := .cells #[.string t398, .slice Ao42 t399.length co42] 51 (0, 0)) bk hb); have n3_ := Aside0.mk (below_step bwS hb); clear HO401; clear BK403; clear HB; have HO401 := n0_; have HO409 := n1_; have BK403 := n2_; have HB := n3_; clear n0_ n1_ n2_ n3_; (try clear hb); (try clear hb2); (try clear hk); (try clear hi); (try clear ho0); have hcz45_0 : w44.cell? ⟨gb403, 0, none⟩ = some (.string t398) := (blk_cell BK403.out 0).trans rfl; have hcz45_1 : w44.cell? ⟨gb403, 1, none⟩ = some (.slice Ao42 t399.length co42) := (blk_cell BK403.out 1).trans rfl; have hfz45_0 := blk_frozen BK403.out 0; have hfz45_1 := blk_frozen BK403.out 1) | (go_at_call 33; (with_reducible refine (mime_Type_Text.calls (hG := by first | exact hG | exact Glob.below hG (by first | exact HB.out | (repeat (first | (with_reducible first | exact HB.out | apply below_alloc | apply pw_below_drewN | apply below_drew1 | refine below_set ?_ GE403.out) | exact HB.out))) | exact Glob.drawn hG (by repeat (first | exact Drawn0.refl _ | apply Drawn0.step))) k t398 _ _ t399 t410 _ ?side1 ?side2 A8.out).mono ?_); (case side1 => repeat (first | exact (Kd.R_reads' HO401.out).2.2 | (with_reducible refine Kd.C_alloc ?_ _) | (with_reducible refine Kd.C_drewN ?_ _) | (with_reducible refine Kd.C_drew ?_))); (case side2 => exact (Kd.R_reads' HO401.out).2.1); rintro e w46 ⟨rfl, hb⟩; have n0_ := Aside0.mk (Kd.R_below (by (with_reducible repeat (first | apply Kd.R_alloc | apply Kd.R_drewN | apply Kd.R_drew)); exact HO401.out) hb); have n1_ := Aside0.mk (Kd.R_below (by (with_reducible repeat (first | apply Kd.R_alloc | apply Kd.R_drewN | apply Kd.R_drew)); exact HO409.out) hb); have n2_ := Aside0.mk (blk_below (g := gb403) (o := .cells #[.string t398, .slice Ao42 t399.length co42] 51 (0, 0)) bk hb); have n3_ := Aside0.mk (below_step bwS hb); clear HO401; clear HO409; clear BK403; clear HB; have HO401 := n0_; have HO409 := n1_; have BK403 := n2_; have HB := n3_; clear n0_ n1_ n2_ n3_; (try clear hb); (try clear hb2); (try clear hk); (try clear hi)))
      go_ret
      exact ⟨by first | rfl | (simp [errW_none, errW_some] <;> rfl) | (simp [*, errW_none, errW_some] <;> rfl), bwS⟩
    ·replace c7 := Bool.eq_false_iff.mpr c7
     subst c7
     have H1 : (some false) = some r := by rw [if_neg (show ¬ (false = true) by decide)] at H; exact H
     clear H
     have H := H1
     clear H1
     obtain rfl := Option.some.inj H
     go_enter Tryd.func26, Tryd.ntmps26
     go_wp2_with (first | ((with_reducible refine gate_callee (f := 27) rfl ?_); refine goesL_ (some 8) rfl rfl Tryd.func27 (by kernel_rfl) rfl #[.string (⟨#[84, 101, 120, 116, 47, 80, 108, 97, 105, 110, 59, 32, 67, 104, 97, 114, 115, 101, 116, 61, 34, 120, 32, 121, 34]⟩ : ByteArray)] rfl am ?_; (with_reducible refine (mime_ReadType.calls (hG := by first | exact hG | exact Glob.below hG (by first | exact HB.out | (repeat (first | (with_reducible first | exact HB.out | apply below_alloc | apply pw_below_drewN | apply below_drew1 | refine below_set ?_ GE403.out) | exact HB.out))) | exact Glob.drawn hG (by repeat (first | exact Drawn0.refl _ | apply Drawn0.step))) k (⟨#[84, 101, 120, 116, 47, 80, 108, 97, 105, 110, 59, 32, 67, 104, 97, 114, 115, 101, 116, 61, 34, 120, 32, 121, 34]⟩ : ByteArray) t398 t399 t402 _ A1.out).mono ?_); rintro e w47 ⟨v400, rfl, ho0, hb⟩; refine ⟨_, rfl, ?_⟩; have n0_ := Aside0.mk (Kd.R_lower ho0 (below_size bw)); have n1_ := Aside0.mk (below_step bw hb); clear HB; have HO401 := n0_; have HB := n1_; clear n0_ n1_; (try clear hb); (try clear hb2); (try clear hk); (try clear hi); (try clear ho0)) | ((with_reducible refine gate_dst (N := 1) rfl ?_); (try (refine gate_guard (by rfl) ?_; dsimp only)); refine box_event ?hg (N := 1) ?hd (cs := #[.string (⟨#[]⟩ : ByteArray), .slice none 0 0]) (t := 51) ?hr ?_; (case hd => rfl); (case hg => rfl); (case hr => first | (go_simp; done) | (go_simp; rfl)); intro gb403 hg w48 hbox hb; have n0_ := Aside0.mk (Kd.R_below (by (with_reducible repeat (first | apply Kd.R_alloc | apply Kd.R_drewN | apply Kd.R_drew)); exact HO401.out) hb); have n1_ := Aside0.mk (below_step bw hb); have n2_ := Aside0.mk (hbox); have n3_ := Aside0.mk ((by rw [hg]; exact (below_size bw) : w.heap.size ≤ gb403)); have n4_ := Aside0.mk ((by rw [hg]; exact (below_size bw) : w.heap.size ≤ gb403)); clear HO401; clear HB; have HO401 := n0_; have HB := n1_; have BK403 := n2_; have GW403 := n3_; have GE403 := n4_; clear n0_ n1_ n2_ n3_ n4_; clear hb hbox hg; have hcz49_0 : w48.cell? ⟨gb403, 0, none⟩ = some (.string (⟨#[]⟩ : ByteArray)) := (blk_cell BK403.out 0).trans rfl; have hcz49_1 : w48.cell? ⟨gb403, 1, none⟩ = some (.slice none 0 0) := (blk_cell BK403.out 1).trans rfl; have hfz49_0 := blk_frozen BK403.out 0; have hfz49_1 := blk_frozen BK403.out 1; obtain ⟨Ao50, co50, eo50⟩ := Kd.R_slice HO401.out; subst eo50) | ((with_reducible refine gate_callee (f := 31) rfl ?_); refine goesL_ (some 13) rfl rfl Tryd.func31 (by kernel_rfl) rfl #[.agg #[.string t398, .slice Ao50 t399.length co50], .string (⟨#[67, 72, 65, 82, 83, 69, 84]⟩ : ByteArray)] rfl am ?_; (with_reducible refine (mime_Type_Value.calls k t398 _ _ t399 (⟨#[67, 72, 65, 82, 83, 69, 84]⟩ : ByteArray) t404 false _ ?side1 ?side2 A2.out).mono ?_); (case side1 => refine (Kd.R_reads' (e := 104) (base := w.heap.size) (ok := fun k_ => True) (n := t399.length) (c := co50) ?_).2.2; exact (by (with_reducible repeat (first | apply Kd.R_alloc | apply Kd.R_drewN | apply Kd.R_drew)); exact (Kd.R_mono (Kd.R_far (p := ⟨gb403, 1, none⟩) (Kd.R_far (p := ⟨gb403, 0, none⟩) (Kd.R_types HO401.out BK403.out (by decide)) (fun _ hk => hk.2) (.string t398)) (fun _ hk => hk.2) (.slice Ao50 t399.length co50)) (fun _ h_ => h_.1)))); (case side2 => exact (Kd.R_reads' HO401.out).2.1); rintro e w51 ⟨rfl, hb⟩; refine ⟨_, rfl, ?_⟩; have n0_ := Aside0.mk (Kd.R_below (by (with_reducible repeat (first | apply Kd.R_alloc | apply Kd.R_drewN | apply Kd.R_drew)); exact (Kd.R_mono (Kd.R_far (p := ⟨gb403, 1, none⟩) (Kd.R_far (p := ⟨gb403, 0, none⟩) (Kd.R_types HO401.out BK403.out (by decide)) (fun _ hk => hk.2) (.string t398)) (fun _ hk => hk.2) (.slice Ao50 t399.length co50)) (fun _ h_ => h_.1))) hb); have n1_ := Aside0.mk (blk_below (g := gb403) (o := .cells #[.string t398, .slice Ao50 t399.length co50] 51 (0, 0)) (by (with_reducible repeat (first | refine blk_drewN ?_ _ | refine blk_drew ?_ | refine blk_alloc ?_ _)); refine blk_put (cs := #[.string t398, .slice none 0 0]) ?_ 1 _ rfl; (with_reducible repeat (first | refine blk_drewN ?_ _ | refine blk_drew ?_ | refine blk_alloc ?_ _)); refine blk_put (cs := #[.string (⟨#[]⟩ : ByteArray), .slice none 0 0]) ?_ 0 _ rfl; (with_reducible repeat (first | refine blk_drewN ?_ _ | refine blk_drew ?_ | refine blk_alloc ?_ _)); exact BK403.out) hb); have n2_ := Aside0.mk (below_step bwS hb); clear HO401; clear BK403; clear HB; have HO401 := n0_; have BK403 := n1_; have HB := n2_; clear n0_ n1_ n2_; (try clear hb); (try clear hb2); (try clear hk); (try clear hi)) | ((with_reducible refine gate_callee (f := 38) rfl ?_); refine goesL_ (some 17) rfl rfl Tryd.func38 (by kernel_rfl) rfl #[.string (⟨#[45, 45, 98, 13, 10, 120, 13, 10, 45, 45, 98, 45, 45, 13, 10]⟩ : ByteArray), .string (⟨#[98]⟩ : ByteArray)] rfl am ?_; (with_reducible refine (mime_Split.calls (hG := by first | exact hG | exact Glob.below hG (by first | exact HB.out | (repeat (first | (with_reducible first | exact HB.out | apply below_alloc | apply pw_below_drewN | apply below_drew1 | refine below_set ?_ GE403.out) | exact HB.out))) | exact Glob.drawn hG (by repeat (first | exact Drawn0.refl _ | apply Drawn0.step))) (⟨#[45, 45, 98, 13, 10, 120, 13, 10, 45, 45, 98, 45, 45, 13, 10]⟩ : ByteArray) (⟨#[98]⟩ : ByteArray) t406 t407 _ A3.out).mono ?_); rintro e w52 ⟨v408, rfl, ho0, hb⟩; refine ⟨_, rfl, ?_⟩; have n0_ := Aside0.mk (Kd.R_below (by (with_reducible repeat (first | apply Kd.R_alloc | apply Kd.R_drewN | apply Kd.R_drew)); exact HO401.out) hb); have n1_ := Aside0.mk (Kd.R_lower ho0 (below_size bwS)); have n2_ := Aside0.mk (blk_below (g := gb403) (o := .cells #[.string t398, .slice Ao50 t399.length co50] 51 (0, 0)) bk hb); have n3_ := Aside0.mk (below_step bwS hb); clear HO401; clear BK403; clear HB; have HO401 := n0_; have HO409 := n1_; have BK403 := n2_; have HB := n3_; clear n0_ n1_ n2_ n3_; (try clear hb); (try clear hb2); (try clear hk); (try clear hi); (try clear ho0); have hcz53_0 : w52.cell? ⟨gb403, 0, none⟩ = some (.string t398) := (blk_cell BK403.out 0).trans rfl; have hcz53_1 : w52.cell? ⟨gb403, 1, none⟩ = some (.slice Ao50 t399.length co50) := (blk_cell BK403.out 1).trans rfl; have hfz53_0 := blk_frozen BK403.out 0; have hfz53_1 := blk_frozen BK403.out 1))
     go_ret
     exact ⟨by first | rfl | (simp [errW_none, errW_some] <;> rfl) | (simp [*, errW_none, errW_some] <;> rfl), bwS⟩
   ·rw [if_neg c6] at H
    have c6b0 : (t404.toList == ([120, 32, 121] : List UInt8)) = false := beq_eq_false_iff_ne.mpr c6
    have c6b1 : (t404.toList != ([120, 32, 121] : List UInt8)) = true := bne_iff_ne.mpr c6
    obtain rfl := Option.some.inj H
    go_enter Tryd.func26, Tryd.ntmps26
    go_wp2_with (first | ((with_reducible refine gate_callee (f := 27) rfl ?_); refine goesL_ (some 8) rfl rfl Tryd.func27 (by kernel_rfl) rfl #[.string (⟨#[84, 101, 120, 116, 47, 80, 108, 97, 105, 110, 59, 32, 67, 104, 97, 114, 115, 101, 116, 61, 34, 120, 32, 121, 34]⟩ : ByteArray)] rfl am ?_; (with_reducible refine (mime_ReadType.calls (hG := by first | exact hG | exact Glob.below hG (by first | exact HB.out | (repeat (first | (with_reducible first | exact HB.out | apply below_alloc | apply pw_below_drewN | apply below_drew1 | refine below_set ?_ GE403.out) | exact HB.out))) | exact Glob.drawn hG (by repeat (first | exact Drawn0.refl _ | apply Drawn0.step))) k (⟨#[84, 101, 120, 116, 47, 80, 108, 97, 105, 110, 59, 32, 67, 104, 97, 114, 115, 101, 116, 61, 34, 120, 32, 121, 34]⟩ : ByteArray) t398 t399 t402 _ A1.out).mono ?_); rintro e w54 ⟨v400, rfl, ho0, hb⟩; refine ⟨_, rfl, ?_⟩; have n0_ := Aside0.mk (Kd.R_lower ho0 (below_size bw)); have n1_ := Aside0.mk (below_step bw hb); clear HB; have HO401 := n0_; have HB := n1_; clear n0_ n1_; (try clear hb); (try clear hb2); (try clear hk); (try clear hi); (try clear ho0)) | ((with_reducible refine gate_dst (N := 1) rfl ?_); (try (refine gate_guard (by rfl) ?_; dsimp only)); refine box_event ?hg (N := 1) ?hd (cs := #[.string (⟨#[]⟩ : ByteArray), .slice none 0 0]) (t := 51) ?hr ?_; (case hd => rfl); (case hg => rfl); (case hr => first | (go_simp; done) | (go_simp; rfl)); intro gb403 hg w55 hbox hb; have n0_ := Aside0.mk (Kd.R_below (by (with_reducible repeat (first | apply Kd.R_alloc | apply Kd.R_drewN | apply Kd.R_drew)); exact HO401.out) hb); have n1_ := Aside0.mk (below_step bw hb); have n2_ := Aside0.mk (hbox); have n3_ := Aside0.mk ((by rw [hg]; exact (below_size bw) : w.heap.size ≤ gb403)); have n4_ := Aside0.mk ((by rw [hg]; exact (below_size bw) : w.heap.size ≤ gb403)); clear HO401; clear HB; have HO401 := n0_; have HB := n1_; have BK403 := n2_; have GW403 := n3_; have GE403 := n4_; clear n0_ n1_ n2_ n3_ n4_; clear hb hbox hg; have hcz56_0 : w55.cell? ⟨gb403, 0, none⟩ = some (.string (⟨#[]⟩ : ByteArray)) := (blk_cell BK403.out 0).trans rfl; have hcz56_1 : w55.cell? ⟨gb403, 1, none⟩ = some (.slice none 0 0) := (blk_cell BK403.out 1).trans rfl; have hfz56_0 := blk_frozen BK403.out 0; have hfz56_1 := blk_frozen BK403.out 1; obtain ⟨Ao57, co57, eo57⟩ := Kd.R_slice HO401.out; subst eo57) | ((with_reducible refine gate_callee (f := 31) rfl ?_); refine goesL_ (some 13) rfl rfl Tryd.func31 (by kernel_rfl) rfl #[.agg #[.string t398, .slice Ao57 t399.length co57], .string (⟨#[67, 72, 65, 82, 83, 69, 84]⟩ : ByteArray)] rfl am ?_; (with_reducible refine (mime_Type_Value.calls k t398 _ _ t399 (⟨#[67, 72, 65, 82, 83, 69, 84]⟩ : ByteArray) t404 t405 _ ?side1 ?side2 A2.out).mono ?_); (case side1 => refine (Kd.R_reads' (e := 104) (base := w.heap.size) (ok := fun k_ => True) (n := t399.length) (c := co57) ?_).2.2; exact (by (with_reducible repeat (first | apply Kd.R_alloc | apply Kd.R_drewN | apply Kd.R_drew)); exact (Kd.R_mono (Kd.R_far (p := ⟨gb403, 1, none⟩) (Kd.R_far (p := ⟨gb403, 0, none⟩) (Kd.R_types HO401.out BK403.out (by decide)) (fun _ hk => hk.2) (.string t398)) (fun _ hk => hk.2) (.slice Ao57 t399.length co57)) (fun _ h_ => h_.1)))); (case side2 => exact (Kd.R_reads' HO401.out).2.1); rintro e w58 ⟨rfl, hb⟩; refine ⟨_, rfl, ?_⟩; have n0_ := Aside0.mk (Kd.R_below (by (with_reducible repeat (first | apply Kd.R_alloc | apply Kd.R_drewN | apply Kd.R_drew)); exact (Kd.R_mono (Kd.R_far (p := ⟨gb403, 1, none⟩) (Kd.R_far (p := ⟨gb403, 0, none⟩) (Kd.R_types HO401.out BK403.out (by decide)) (fun _ hk => hk.2) (.string t398)) (fun _ hk => hk.2) (.slice Ao57 t399.length co57)) (fun _ h_ => h_.1))) hb); have n1_ := Aside0.mk (blk_below (g := gb403) (o := .cells #[.string t398, .slice Ao57 t399.length co57] 51 (0, 0)) (by (with_reducible repeat (first | refine blk_drewN ?_ _ | refine blk_drew ?_ | refine blk_alloc ?_ _)); refine blk_put (cs := #[.string t398, .slice none 0 0]) ?_ 1 _ rfl; (with_reducible repeat (first | refine blk_drewN ?_ _ | refine blk_drew ?_ | refine blk_alloc ?_ _)); refine blk_put (cs := #[.string (⟨#[]⟩ : ByteArray), .slice none 0 0]) ?_ 0 _ rfl; (with_reducible repeat (first | refine blk_drewN ?_ _ | refine blk_drew ?_ | refine blk_alloc ?_ _)); exact BK403.out) hb); have n2_ := Aside0.mk (below_step bwS hb); clear HO401; clear BK403; clear HB; have HO401 := n0_; have BK403 := n1_; have HB := n2_; clear n0_ n1_ n2_; (try clear hb); (try clear hb2); (try clear hk); (try clear hi)) | ((with_reducible refine gate_callee (f := 38) rfl ?_); refine goesL_ (some 17) rfl rfl Tryd.func38 (by kernel_rfl) rfl #[.string (⟨#[45, 45, 98, 13, 10, 120, 13, 10, 45, 45, 98, 45, 45, 13, 10]⟩ : ByteArray), .string (⟨#[98]⟩ : ByteArray)] rfl am ?_; (with_reducible refine (mime_Split.calls (hG := by first | exact hG | exact Glob.below hG (by first | exact HB.out | (repeat (first | (with_reducible first | exact HB.out | apply below_alloc | apply pw_below_drewN | apply below_drew1 | refine below_set ?_ GE403.out) | exact HB.out))) | exact Glob.drawn hG (by repeat (first | exact Drawn0.refl _ | apply Drawn0.step))) (⟨#[45, 45, 98, 13, 10, 120, 13, 10, 45, 45, 98, 45, 45, 13, 10]⟩ : ByteArray) (⟨#[98]⟩ : ByteArray) t406 t407 _ A3.out).mono ?_); rintro e w59 ⟨v408, rfl, ho0, hb⟩; refine ⟨_, rfl, ?_⟩; have n0_ := Aside0.mk (Kd.R_below (by (with_reducible repeat (first | apply Kd.R_alloc | apply Kd.R_drewN | apply Kd.R_drew)); exact HO401.out) hb); have n1_ := Aside0.mk (Kd.R_lower ho0 (below_size bwS)); have n2_ := Aside0.mk (blk_below (g := gb403) (o := .cells #[.string t398, .slice Ao57 t399.length co57] 51 (0, 0)) bk hb); have n3_ := Aside0.mk (below_step bwS hb); clear HO401; clear BK403; clear HB; have HO401 := n0_; have HO409 := n1_; have BK403 := n2_; have HB := n3_; clear n0_ n1_ n2_ n3_; (try clear hb); (try clear hb2); (try clear hk); (try clear hi); (try clear ho0); have hcz60_0 : w59.cell? ⟨gb403, 0, none⟩ = some (.string t398) := (blk_cell BK403.out 0).trans rfl; have hcz60_1 : w59.cell? ⟨gb403, 1, none⟩ = some (.slice Ao57 t399.length co57) := (blk_cell BK403.out 1).trans rfl; have hfz60_0 := blk_frozen BK403.out 0; have hfz60_1 := blk_frozen BK403.out 1))
    go_ret
    exact ⟨by first | rfl | (simp [errW_none, errW_some] <;> rfl) | (simp [*, errW_none, errW_some] <;> rfl), bwS⟩
  ·rw [if_neg c5] at H
   have c5b0 : (t398.toList == ([116, 101, 120, 116, 47, 112, 108, 97, 105, 110] : List UInt8)) = false := beq_eq_false_iff_ne.mpr c5
   have c5b1 : (t398.toList != ([116, 101, 120, 116, 47, 112, 108, 97, 105, 110] : List UInt8)) = true := bne_iff_ne.mpr c5
   obtain rfl := Option.some.inj H
   go_enter Tryd.func26, Tryd.ntmps26
   go_wp2_with (first | ((with_reducible refine gate_callee (f := 27) rfl ?_); refine goesL_ (some 8) rfl rfl Tryd.func27 (by kernel_rfl) rfl #[.string (⟨#[84, 101, 120, 116, 47, 80, 108, 97, 105, 110, 59, 32, 67, 104, 97, 114, 115, 101, 116, 61, 34, 120, 32, 121, 34]⟩ : ByteArray)] rfl am ?_; (with_reducible refine (mime_ReadType.calls (hG := by first | exact hG | exact Glob.below hG (by first | exact HB.out | (repeat (first | (with_reducible first | exact HB.out | apply below_alloc | apply pw_below_drewN | apply below_drew1 | refine below_set ?_ GE403.out) | exact HB.out))) | exact Glob.drawn hG (by repeat (first | exact Drawn0.refl _ | apply Drawn0.step))) k (⟨#[84, 101, 120, 116, 47, 80, 108, 97, 105, 110, 59, 32, 67, 104, 97, 114, 115, 101, 116, 61, 34, 120, 32, 121, 34]⟩ : ByteArray) t398 t399 t402 _ A1.out).mono ?_); rintro e w61 ⟨v400, rfl, ho0, hb⟩; refine ⟨_, rfl, ?_⟩; have n0_ := Aside0.mk (Kd.R_lower ho0 (below_size bw)); have n1_ := Aside0.mk (below_step bw hb); clear HB; have HO401 := n0_; have HB := n1_; clear n0_ n1_; (try clear hb); (try clear hb2); (try clear hk); (try clear hi); (try clear ho0)) | ((with_reducible refine gate_dst (N := 1) rfl ?_); (try (refine gate_guard (by rfl) ?_; dsimp only)); refine box_event ?hg (N := 1) ?hd (cs := #[.string (⟨#[]⟩ : ByteArray), .slice none 0 0]) (t := 51) ?hr ?_; (case hd => rfl); (case hg => rfl); (case hr => first | (go_simp; done) | (go_simp; rfl)); intro gb403 hg w62 hbox hb; have n0_ := Aside0.mk (Kd.R_below (by (with_reducible repeat (first | apply Kd.R_alloc | apply Kd.R_drewN | apply Kd.R_drew)); exact HO401.out) hb); have n1_ := Aside0.mk (below_step bw hb); have n2_ := Aside0.mk (hbox); have n3_ := Aside0.mk ((by rw [hg]; exact (below_size bw) : w.heap.size ≤ gb403)); have n4_ := Aside0.mk ((by rw [hg]; exact (below_size bw) : w.heap.size ≤ gb403)); clear HO401; clear HB; have HO401 := n0_; have HB := n1_; have BK403 := n2_; have GW403 := n3_; have GE403 := n4_; clear n0_ n1_ n2_ n3_ n4_; clear hb hbox hg; have hcz63_0 : w62.cell? ⟨gb403, 0, none⟩ = some (.string (⟨#[]⟩ : ByteArray)) := (blk_cell BK403.out 0).trans rfl; have hcz63_1 : w62.cell? ⟨gb403, 1, none⟩ = some (.slice none 0 0) := (blk_cell BK403.out 1).trans rfl; have hfz63_0 := blk_frozen BK403.out 0; have hfz63_1 := blk_frozen BK403.out 1; obtain ⟨Ao64, co64, eo64⟩ := Kd.R_slice HO401.out; subst eo64) | ((with_reducible refine gate_callee (f := 31) rfl ?_); refine goesL_ (some 13) rfl rfl Tryd.func31 (by kernel_rfl) rfl #[.agg #[.string t398, .slice Ao64 t399.length co64], .string (⟨#[67, 72, 65, 82, 83, 69, 84]⟩ : ByteArray)] rfl am ?_; (with_reducible refine (mime_Type_Value.calls k t398 _ _ t399 (⟨#[67, 72, 65, 82, 83, 69, 84]⟩ : ByteArray) t404 t405 _ ?side1 ?side2 A2.out).mono ?_); (case side1 => refine (Kd.R_reads' (e := 104) (base := w.heap.size) (ok := fun k_ => True) (n := t399.length) (c := co64) ?_).2.2; exact (by (with_reducible repeat (first | apply Kd.R_alloc | apply Kd.R_drewN | apply Kd.R_drew)); exact (Kd.R_mono (Kd.R_far (p := ⟨gb403, 1, none⟩) (Kd.R_far (p := ⟨gb403, 0, none⟩) (Kd.R_types HO401.out BK403.out (by decide)) (fun _ hk => hk.2) (.string t398)) (fun _ hk => hk.2) (.slice Ao64 t399.length co64)) (fun _ h_ => h_.1)))); (case side2 => exact (Kd.R_reads' HO401.out).2.1); rintro e w65 ⟨rfl, hb⟩; refine ⟨_, rfl, ?_⟩; have n0_ := Aside0.mk (Kd.R_below (by (with_reducible repeat (first | apply Kd.R_alloc | apply Kd.R_drewN | apply Kd.R_drew)); exact (Kd.R_mono (Kd.R_far (p := ⟨gb403, 1, none⟩) (Kd.R_far (p := ⟨gb403, 0, none⟩) (Kd.R_types HO401.out BK403.out (by decide)) (fun _ hk => hk.2) (.string t398)) (fun _ hk => hk.2) (.slice Ao64 t399.length co64)) (fun _ h_ => h_.1))) hb); have n1_ := Aside0.mk (blk_below (g := gb403) (o := .cells #[.string t398, .slice Ao64 t399.length co64] 51 (0, 0)) (by (with_reducible repeat (first | refine blk_drewN ?_ _ | refine blk_drew ?_ | refine blk_alloc ?_ _)); refine blk_put (cs := #[.string t398, .slice none 0 0]) ?_ 1 _ rfl; (with_reducible repeat (first | refine blk_drewN ?_ _ | refine blk_drew ?_ | refine blk_alloc ?_ _)); refine blk_put (cs := #[.string (⟨#[]⟩ : ByteArray), .slice none 0 0]) ?_ 0 _ rfl; (with_reducible repeat (first | refine blk_drewN ?_ _ | refine blk_drew ?_ | refine blk_alloc ?_ _)); exact BK403.out) hb); have n2_ := Aside0.mk (below_step bwS hb); clear HO401; clear BK403; clear HB; have HO401 := n0_; have BK403 := n1_; have HB := n2_; clear n0_ n1_ n2_; (try clear hb); (try clear hb2); (try clear hk); (try clear hi)) | ((with_reducible refine gate_callee (f := 38) rfl ?_); refine goesL_ (some 17) rfl rfl Tryd.func38 (by kernel_rfl) rfl #[.string (⟨#[45, 45, 98, 13, 10, 120, 13, 10, 45, 45, 98, 45, 45, 13, 10]⟩ : ByteArray), .string (⟨#[98]⟩ : ByteArray)] rfl am ?_; (with_reducible refine (mime_Split.calls (hG := by first | exact hG | exact Glob.below hG (by first | exact HB.out | (repeat (first | (with_reducible first | exact HB.out | apply below_alloc | apply pw_below_drewN | apply below_drew1 | refine below_set ?_ GE403.out) | exact HB.out))) | exact Glob.drawn hG (by repeat (first | exact Drawn0.refl _ | apply Drawn0.step))) (⟨#[45, 45, 98, 13, 10, 120, 13, 10, 45, 45, 98, 45, 45, 13, 10]⟩ : ByteArray) (⟨#[98]⟩ : ByteArray) t406 t407 _ A3.out).mono ?_); rintro e w66 ⟨v408, rfl, ho0, hb⟩; refine ⟨_, rfl, ?_⟩; have n0_ := Aside0.mk (Kd.R_below (by (with_reducible repeat (first | apply Kd.R_alloc | apply Kd.R_drewN | apply Kd.R_drew)); exact HO401.out) hb); have n1_ := Aside0.mk (Kd.R_lower ho0 (below_size bwS)); have n2_ := Aside0.mk (blk_below (g := gb403) (o := .cells #[.string t398, .slice Ao64 t399.length co64] 51 (0, 0)) bk hb); have n3_ := Aside0.mk (below_step bwS hb); clear HO401; clear BK403; clear HB; have HO401 := n0_; have HO409 := n1_; have BK403 := n2_; have HB := n3_; clear n0_ n1_ n2_ n3_; (try clear hb); (try clear hb2); (try clear hk); (try clear hi); (try clear ho0); have hcz67_0 : w66.cell? ⟨gb403, 0, none⟩ = some (.string t398) := (blk_cell BK403.out 0).trans rfl; have hcz67_1 : w66.cell? ⟨gb403, 1, none⟩ = some (.slice Ao64 t399.length co64) := (blk_cell BK403.out 1).trans rfl; have hfz67_0 := blk_frozen BK403.out 0; have hfz67_1 := blk_frozen BK403.out 1))
   go_ret
   exact ⟨by first | rfl | (simp [errW_none, errW_some] <;> rfl) | (simp [*, errW_none, errW_some] <;> rfl), bwS⟩
 ·rw [if_neg c4] at H
  have c4b0 : (t402 == 0) = false := beq_eq_false_iff_ne.mpr c4
  have c4b1 : (t402 != 0) = true := bne_iff_ne.mpr c4
  obtain rfl := Option.some.inj H
  go_enter Tryd.func26, Tryd.ntmps26
  go_wp2_with (first | ((with_reducible refine gate_callee (f := 27) rfl ?_); refine goesL_ (some 8) rfl rfl Tryd.func27 (by kernel_rfl) rfl #[.string (⟨#[84, 101, 120, 116, 47, 80, 108, 97, 105, 110, 59, 32, 67, 104, 97, 114, 115, 101, 116, 61, 34, 120, 32, 121, 34]⟩ : ByteArray)] rfl am ?_; (with_reducible refine (mime_ReadType.calls (hG := by first | exact hG | exact Glob.below hG (by first | exact HB.out | (repeat (first | (with_reducible first | exact HB.out | apply below_alloc | apply pw_below_drewN | apply below_drew1 | refine below_set ?_ GE403.out) | exact HB.out))) | exact Glob.drawn hG (by repeat (first | exact Drawn0.refl _ | apply Drawn0.step))) k (⟨#[84, 101, 120, 116, 47, 80, 108, 97, 105, 110, 59, 32, 67, 104, 97, 114, 115, 101, 116, 61, 34, 120, 32, 121, 34]⟩ : ByteArray) t398 t399 t402 _ A1.out).mono ?_); rintro e w68 ⟨v400, rfl, ho0, hb⟩; refine ⟨_, rfl, ?_⟩; have n0_ := Aside0.mk (Kd.R_lower ho0 (below_size bw)); have n1_ := Aside0.mk (below_step bw hb); clear HB; have HO401 := n0_; have HB := n1_; clear n0_ n1_; (try clear hb); (try clear hb2); (try clear hk); (try clear hi); (try clear ho0)) | ((with_reducible refine gate_dst (N := 1) rfl ?_); (try (refine gate_guard (by rfl) ?_; dsimp only)); refine box_event ?hg (N := 1) ?hd (cs := #[.string (⟨#[]⟩ : ByteArray), .slice none 0 0]) (t := 51) ?hr ?_; (case hd => rfl); (case hg => rfl); (case hr => first | (go_simp; done) | (go_simp; rfl)); intro gb403 hg w69 hbox hb; have n0_ := Aside0.mk (Kd.R_below (by (with_reducible repeat (first | apply Kd.R_alloc | apply Kd.R_drewN | apply Kd.R_drew)); exact HO401.out) hb); have n1_ := Aside0.mk (below_step bw hb); have n2_ := Aside0.mk (hbox); have n3_ := Aside0.mk ((by rw [hg]; exact (below_size bw) : w.heap.size ≤ gb403)); have n4_ := Aside0.mk ((by rw [hg]; exact (below_size bw) : w.heap.size ≤ gb403)); clear HO401; clear HB; have HO401 := n0_; have HB := n1_; have BK403 := n2_; have GW403 := n3_; have GE403 := n4_; clear n0_ n1_ n2_ n3_ n4_; clear hb hbox hg; have hcz70_0 : w69.cell? ⟨gb403, 0, none⟩ = some (.string (⟨#[]⟩ : ByteArray)) := (blk_cell BK403.out 0).trans rfl; have hcz70_1 : w69.cell? ⟨gb403, 1, none⟩ = some (.slice none 0 0) := (blk_cell BK403.out 1).trans rfl; have hfz70_0 := blk_frozen BK403.out 0; have hfz70_1 := blk_frozen BK403.out 1; obtain ⟨Ao71, co71, eo71⟩ := Kd.R_slice HO401.out; subst eo71) | ((with_reducible refine gate_callee (f := 31) rfl ?_); refine goesL_ (some 13) rfl rfl Tryd.func31 (by kernel_rfl) rfl #[.agg #[.string t398, .slice Ao71 t399.length co71], .string (⟨#[67, 72, 65, 82, 83, 69, 84]⟩ : ByteArray)] rfl am ?_; (with_reducible refine (mime_Type_Value.calls k t398 _ _ t399 (⟨#[67, 72, 65, 82, 83, 69, 84]⟩ : ByteArray) t404 t405 _ ?side1 ?side2 A2.out).mono ?_); (case side1 => refine (Kd.R_reads' (e := 104) (base := w.heap.size) (ok := fun k_ => True) (n := t399.length) (c := co71) ?_).2.2; exact (by (with_reducible repeat (first | apply Kd.R_alloc | apply Kd.R_drewN | apply Kd.R_drew)); exact (Kd.R_mono (Kd.R_far (p := ⟨gb403, 1, none⟩) (Kd.R_far (p := ⟨gb403, 0, none⟩) (Kd.R_types HO401.out BK403.out (by decide)) (fun _ hk => hk.2) (.string t398)) (fun _ hk => hk.2) (.slice Ao71 t399.length co71)) (fun _ h_ => h_.1)))); (case side2 => exact (Kd.R_reads' HO401.out).2.1); rintro e w72 ⟨rfl, hb⟩; refine ⟨_, rfl, ?_⟩; have n0_ := Aside0.mk (Kd.R_below (by (with_reducible repeat (first | apply Kd.R_alloc | apply Kd.R_drewN | apply Kd.R_drew)); exact (Kd.R_mono (Kd.R_far (p := ⟨gb403, 1, none⟩) (Kd.R_far (p := ⟨gb403, 0, none⟩) (Kd.R_types HO401.out BK403.out (by decide)) (fun _ hk => hk.2) (.string t398)) (fun _ hk => hk.2) (.slice Ao71 t399.length co71)) (fun _ h_ => h_.1))) hb); have n1_ := Aside0.mk (blk_below (g := gb403) (o := .cells #[.string t398, .slice Ao71 t399.length co71] 51 (0, 0)) (by (with_reducible repeat (first | refine blk_drewN ?_ _ | refine blk_drew ?_ | refine blk_alloc ?_ _)); refine blk_put (cs := #[.string t398, .slice none 0 0]) ?_ 1 _ rfl; (with_reducible repeat (first | refine blk_drewN ?_ _ | refine blk_drew ?_ | refine blk_alloc ?_ _)); refine blk_put (cs := #[.string (⟨#[]⟩ : ByteArray), .slice none 0 0]) ?_ 0 _ rfl; (with_reducible repeat (first | refine blk_drewN ?_ _ | refine blk_drew ?_ | refine blk_alloc ?_ _)); exact BK403.out) hb); have n2_ := Aside0.mk (below_step bwS hb); clear HO401; clear BK403; clear HB; have HO401 := n0_; have BK403 := n1_; have HB := n2_; clear n0_ n1_ n2_; (try clear hb); (try clear hb2); (try clear hk); (try clear hi)) | ((with_reducible refine gate_callee (f := 38) rfl ?_); refine goesL_ (some 17) rfl rfl Tryd.func38 (by kernel_rfl) rfl #[.string (⟨#[45, 45, 98, 13, 10, 120, 13, 10, 45, 45, 98, 45, 45, 13, 10]⟩ : ByteArray), .string (⟨#[98]⟩ : ByteArray)] rfl am ?_; (with_reducible refine (mime_Split.calls (hG := by first | exact hG | exact Glob.below hG (by first | exact HB.out | (repeat (first | (with_reducible first | exact HB.out | apply below_alloc | apply pw_below_drewN | apply below_drew1 | refine below_set ?_ GE403.out) | exact HB.out))) | exact Glob.drawn hG (by repeat (first | exact Drawn0.refl _ | apply Drawn0.step))) (⟨#[45, 45, 98, 13, 10, 120, 13, 10, 45, 45, 98, 45, 45, 13, 10]⟩ : ByteArray) (⟨#[98]⟩ : ByteArray) t406 t407 _ A3.out).mono ?_); rintro e w73 ⟨v408, rfl, ho0, hb⟩; refine ⟨_, rfl, ?_⟩; have n0_ := Aside0.mk (Kd.R_below (by (with_reducible repeat (first | apply Kd.R_alloc | apply Kd.R_drewN | apply Kd.R_drew)); exact HO401.out) hb); have n1_ := Aside0.mk (Kd.R_lower ho0 (below_size bwS)); have n2_ := Aside0.mk (blk_below (g := gb403) (o := .cells #[.string t398, .slice Ao71 t399.length co71] 51 (0, 0)) bk hb); have n3_ := Aside0.mk (below_step bwS hb); clear HO401; clear BK403; clear HB; have HO401 := n0_; have HO409 := n1_; have BK403 := n2_; have HB := n3_; clear n0_ n1_ n2_ n3_; (try clear hb); (try clear hb2); (try clear hk); (try clear hi); (try clear ho0)))
  go_ret
  exact ⟨by first | rfl | (simp [errW_none, errW_some] <;> rfl) | (simp [*, errW_none, errW_some] <;> rfl), bwS⟩

end Go.Proofs.YtoikneogdbdplaaDoor.Fn
namespace Go.Proofs.YtoikneogdbdplaaDoor.Fn
open Go.RowKit Go.Proofs.YtoikneogdbdplaaDoorW.PrintWords Go.Proofs.YtoikneogdbdplaaDoorW.PrintLast Go.Proofs.YtoikneogdbdplaaDoorW.PrintMore
attribute [local go_sem] max2_int min2_int max_two min_two max_three min_three max_four min_four
set_option linter.unusedVariables false
set_option linter.unusedSimpArgs false

/-! ### bulletinref20_RightBoundary: function 36 -/
def bulletinref20_RightBoundary.l0 : Nat → ByteArray → Int → Option (Bool)
 | 0, _, _ => none
 | k + 1, x0, x3 => if x3 < (x0.size : Int) then (if 0 ≤ x3 then (if (bt x0 x3) < 33 then (some false) else (if (bt x0 x3) > 126 then (some false) else (bulletinref20_RightBoundary.l0 k x0 (wrap64 (x3 + 1))))) else (none)) else (if (x0.size : Int) ≥ 1 then (some (decide ((x0.size : Int) ≤ 70))) else (some false))
def bulletinref20_RightBoundary.f (k : Nat) (a0 : ByteArray) : Option (Bool) := bulletinref20_RightBoundary.l0 k a0 0
set_option maxHeartbeats 8000000 in
set_option maxRecDepth 100000 in
theorem bulletinref20_RightBoundary.calls (k : Nat) (a0 : ByteArray) (r : Bool) (w : World) (h : bulletinref20_RightBoundary.f k a0 = some r) :
  Calls Tryd.prog 36 #[.string a0] w fun e w' => e = .returned (.bool r) ∧ Drawn0 w w' := by
 have H : (bulletinref20_RightBoundary.l0 k a0 0) = some r := h
 clear h
 have H' := Aside0.mk H
 clear H
 go_enter Tryd.func36, Tryd.ntmps36
 go_wp2
 go_loopg [3] k (fun kq v3 w' => ∃ (x3_1 : Int), v3 = .int .i64 x3_1 ∧ Aside0 (bulletinref20_RightBoundary.l0 kq a0 x3_1 = some r) ∧ Aside0 (kq ≤ k) ∧ Drawn0 w w')
 case atStart => exact ⟨(0), cl, H', ⟨Nat.le_refl _⟩, by repeat (first | exact Drawn0.refl _ | apply Drawn0.step)⟩
 case round =>
  clear H'
  obtain ⟨x3_1, rfl, HA, HK1, ⟨m1, rfl⟩⟩ := hrel
  cases gk with
  | zero => exact absurd HA.out (by simp [bulletinref20_RightBoundary.l0])
  | succ k1 =>
   have H := HA.out
   clear HA
   simp only [bulletinref20_RightBoundary.l0] at H
   by_cases c2 : x3_1 < (a0.size : Int)
   ·rw [if_pos c2] at H
    have c2b0 : decide (x3_1 < (a0.size : Int)) = true := decide_eq_true c2
    clear c2
    by_cases c3 : 0 ≤ x3_1
    ·rw [if_pos c3] at H
     have c3b0 : decide (0 ≤ x3_1) = true := decide_eq_true c3
     clear c3
     by_cases c5 : (bt a0 x3_1) < 33
     ·rw [if_pos c5] at H
      have c5b0 : decide ((bt a0 x3_1) < 33) = true := decide_eq_true c5
      clear c5
      obtain rfl := Option.some.inj H
      have p4 : 0 ≤ (x3_1 : Int) := od
      have q4 : x3_1 < (a0.size : Int) := od
      have hx4 := bt_at a0 x3_1
      replace p4 := eq_true p4
      replace q4 := eq_true q4
      go_wp2
      go_ret
      exact ⟨by first | rfl | (simp; done) | (simp [*]; done) | (simp [nil_ne]; done), by repeat (first | exact Drawn0.refl _ | apply Drawn0.step)⟩
     ·rw [if_neg c5] at H
      have c5b0 : decide ((bt a0 x3_1) < 33) = false := decide_eq_false c5
      clear c5
      by_cases c7 : (bt a0 x3_1) > 126
      ·rw [if_pos c7] at H
       have c7b0 : decide (126 < (bt a0 x3_1)) = true := decide_eq_true c7
       clear c7
       obtain rfl := Option.some.inj H
       have p4 : 0 ≤ (x3_1 : Int) := od
       have q4 : x3_1 < (a0.size : Int) := od
       have hx4 := bt_at a0 x3_1
       replace p4 := eq_true p4
       replace q4 := eq_true q4
       have p6 : 0 ≤ (x3_1 : Int) := od
       have q6 : x3_1 < (a0.size : Int) := od
       have hx6 := bt_at a0 x3_1
       replace p6 := eq_true p6
       replace q6 := eq_true q6
       go_wp2
       go_ret
       exact ⟨by first | rfl | (simp; done) | (simp [*]; done) | (simp [nil_ne]; done), by repeat (first | exact Drawn0.refl _ | apply Drawn0.step)⟩
      ·rw [if_neg c7] at H
       have c7b0 : decide (126 < (bt a0 x3_1)) = false := decide_eq_false c7
       clear c7
       have H' := Aside0.mk H
       clear H
       have p4 : 0 ≤ (x3_1 : Int) := od
       have q4 : x3_1 < (a0.size : Int) := od
       have hx4 := bt_at a0 x3_1
       replace p4 := eq_true p4
       replace q4 := eq_true q4
       have p6 : 0 ≤ (x3_1 : Int) := od
       have q6 : x3_1 < (a0.size : Int) := od
       have hx6 := bt_at a0 x3_1
       replace p6 := eq_true p6
       replace q6 := eq_true q6
       go_wp2
       go_roundg k1
       case measure => have := HK1.out; omega
       case rel => exact ⟨(wrap64 (x3_1 + 1)), cl, H', ⟨by have := HK1.out; omega⟩, by repeat (first | exact Drawn0.refl _ | apply Drawn0.step)⟩
    ·rw [if_neg c3] at H
     exact absurd H (by simp)
   ·rw [if_neg c2] at H
    have c2b0 : decide (x3_1 < (a0.size : Int)) = false := decide_eq_false c2
    clear c2
    by_cases c8 : (a0.size : Int) ≥ 1
    ·rw [if_pos c8] at H
     have c8b0 : decide (1 ≤ (a0.size : Int)) = true := decide_eq_true c8
     have c8b1 : decide (1 ≤ a0.size) = true := decide_eq_true (by omega)
     clear c8
     obtain rfl := Option.some.inj H
     go_wp2
     go_ret
     exact ⟨by first | rfl | (simp; done) | (simp [*]; done) | (simp [nil_ne]; done), by repeat (first | exact Drawn0.refl _ | apply Drawn0.step)⟩
    ·rw [if_neg c8] at H
     have c8b0 : decide (1 ≤ (a0.size : Int)) = false := decide_eq_false c8
     have c8b1 : decide (1 ≤ a0.size) = false := decide_eq_false (by omega)
     clear c8
     obtain rfl := Option.some.inj H
     go_wp2
     go_ret
     exact ⟨by first | rfl | (simp; done) | (simp [*]; done) | (simp [nil_ne]; done), by repeat (first | exact Drawn0.refl _ | apply Drawn0.step)⟩

end Go.Proofs.YtoikneogdbdplaaDoor.Fn
set_option linter.unusedVariables false
set_option linter.unusedSimpArgs false
namespace Go.Proofs.YtoikneogdbdplaaDoor.Pl
open Go.RowKit Go.Proofs.YtoikneogdbdplaaDoorW.PrintWords Go.Proofs.YtoikneogdbdplaaDoor.Fn
def freeX (b x : ByteArray) : Bool := !(whatP x b || whatC x b)
def freeP (b p : ByteArray) : Bool := (linesL p).all (freeX b)
def freeL (b : ByteArray) (l : List ByteArray) : Bool := l.all (freeP b)
theorem freeX_is {b x : ByteArray} (h : freeX b x = true) : whatP x b = false ∧ whatC x b = false := by
  unfold freeX at h
  rw [Bool.not_eq_true', Bool.or_eq_false_iff] at h
  exact h
end Go.Proofs.YtoikneogdbdplaaDoor.Pl
namespace Go.Proofs.YtoikneogdbdplaaDoor.Fn
open Go.RowKit Go.Shelf Go.Proofs.YtoikneogdbdplaaDoorW.PrintWords

def mime_Free.f (l0 : List ByteArray) (a1 : ByteArray) : Option Bool := if l0.length ≤ 1000000 then (if a1.size ≤ 1000000 then (if l0.all (fun x => decide (x.size ≤ 1000000)) = true then some (Pl.freeL a1 l0) else none) else none) else none

structure BelowBut (Z b : Nat) (A W : World) : Prop where
  os : W.os = A.os
  tape : W.tape = A.tape
  output : W.output = A.output
  size : A.heap.size ≤ W.heap.size
  block : ∀ k, k < Z → k ≠ b → W.heap[k]? = A.heap[k]?
theorem BelowBut.of {Z b : Nat} {A W : World} (h : Below Z A W) (u : Value) : BelowBut Z b A (W.setCell ⟨b, 0, none⟩ u) :=
  ⟨h.os, h.tape, h.output, by simp [World.setCell]; exact h.size, fun k hk hn => by rw [Below.heap_setCell _ _ _ _ hn]; exact h.block k hk⟩
theorem BelowBut.grown {Z b : Nat} {A W W' : World} {row : Option Nat} (h : BelowBut Z b A W) (hg : W.grownBy W' row) (hZ : Z ≤ W.heap.size) (hr : ∀ k, row = some k → Z ≤ k) : BelowBut Z b A W' :=
  ⟨hg.os.trans h.os, hg.tape.trans h.tape, hg.output.trans h.output, Nat.le_trans h.size hg.size, fun k hk hn => (hg.block k (by omega) (fun e => by have := hr k e.symm; omega)).trans (h.block k hk hn)⟩
theorem ownFrom_but {β : Type} {Z b B : Nat} {A : World} (hZ : Z ≤ A.heap.size) (hB : Z ≤ B) : OwnFrom B (fun (_ : β) W => BelowBut Z b A W) := fun s W W' row hs hg hr =>
  hs.grown hg (Nat.le_trans hZ hs.size) (fun k hk => Nat.le_trans hB (hr k hk).1)
theorem BelowBut.to {Z b B : Nat} {A W : World} (h : BelowBut Z b A W) (hb : B ≤ b) (hZ : B ≤ Z) : Below B A W := ⟨h.os, h.tape, h.output, h.size, fun k hk => h.block k (by omega) (by omega)⟩
theorem belowK_m {B : Nat} {A W : World} {d : Nat} (h : Below B A W) (hB : B ≤ d) (ho : W.heap[d]? = some (.deferred (some []))) : Below B A (W.putObj d (.deferred none)) :=
  h.trans ⟨rfl, rfl, rfl, by simp, fun k hk => World.putObj_heap_other (by omega)⟩
def markD (d : Nat) : Deferred := { target := .collected d, args := #[] }
def openM (W : World) (d : Nat) : Prop := W.heap[d]? = some (.deferred (some []))
theorem leaves_marks {P : Program} {F : Fence} {n : Nat} {fn : Func} {tmps : Array Value} {R : Ending → World → Prop} {u : FrameMode} (hu : u ≠ .run) (K : World → Prop) (L : Nat) (hK : ∀ W d, K W → L ≤ d → openM W d → K (W.putObj d (.deferred none)))
    (hend : ∀ W, K W → LeavesIn F n P fn tmps R [] u W) : ∀ (ds : List Nat) (W : World), ds.Nodup → (∀ d ∈ ds, L ≤ d ∧ openM W d) → K W → LeavesInM F n P fn tmps R (ds.map markD) u W
  | [], W, _, _, h => hend W h
  | d :: ds, W, hn, hd, h => by
    obtain ⟨h1, h2⟩ := hd d (by simp)
    refine ⟨hu, .inl ⟨d, _, rfl, run_takeDeferred h2, ?_⟩⟩
    rw [List.nodup_cons] at hn
    refine leaves_marks hu K L hK hend ds _ hn.2 (fun e he => ?_) (hK W d h h1 h2)
    obtain ⟨h3, h4⟩ := hd e (by simp [he])
    have hne : e ≠ d := fun q => hn.1 (q ▸ he)
    exact ⟨h3, (World.putObj_heap_other hne).trans h4⟩

structure FI (b0 b1 : Nat) (a1 : ByteArray) (w : World) (ds : List Nat) (W : World) : Prop where
  ord : b0 < b1
  c0 : W.cell? ⟨b0, 0, none⟩ = some (.string a1)
  c1 : W.cell? ⟨b1, 0, none⟩ = some (.bool false)
  f1 : W.frozen? ⟨b1, 0, none⟩ = false
  bel : Below w.heap.size w W
  marks : ∀ d ∈ ds, b1 < d ∧ openM W d
  nodup : ds.Nodup
theorem openM_lt {W : World} {d : Nat} (h : openM W d) : d < W.heap.size := (Array.getElem?_eq_some_iff.1 h).1
theorem FI.below {b0 b1 : Nat} {a1 : ByteArray} {w W W' : World} {ds : List Nat} (h : FI b0 b1 a1 w ds W) (hw : w.heap.size ≤ b0) (hb : Below W.heap.size W W') : FI b0 b1 a1 w ds W' :=
  ⟨h.ord, (hb.cell (cell_inside h.c0)).trans h.c0, (hb.cell (cell_inside h.c1)).trans h.c1, (hb.frozen (cell_inside h.c1)).trans h.f1, h.bel.trans (hb.mono h.bel.size), fun d hd => ⟨(h.marks d hd).1, (hb.block d (openM_lt (h.marks d hd).2)).trans (h.marks d hd).2⟩, h.nodup⟩

attribute [local go_sem] Oper.semAt_some
set_option maxHeartbeats 4000000 in
set_option maxRecDepth 100000 in
theorem mime_Free.calls (A0 : Option Addr) (c0 : Nat) (l0 : List ByteArray) (a1 : ByteArray) (r : Bool) (w : World) (hG : Glob w) (hr0 : Kd.C Kd.string w A0 l0.length l0) (hc0 : l0.length ≤ c0) (h : mime_Free.f l0 a1 = some r) :
    Calls Tryd.prog 37 #[.slice A0 l0.length c0, .string a1] w fun e w' => e = .returned (.bool r) ∧ Below w.heap.size w w' := by
  unfold mime_Free.f at h
  by_cases hs : l0.length ≤ 1000000
  case neg => rw [if_neg hs] at h; exact absurd h (by simp)
  rw [if_pos hs] at h
  by_cases hs1 : a1.size ≤ 1000000
  case neg => rw [if_neg hs1] at h; exact absurd h (by simp)
  rw [if_pos hs1] at h
  by_cases hs2 : l0.all (fun x => decide (x.size ≤ 1000000)) = true
  case neg => rw [if_neg hs2] at h; exact absurd h (by simp)
  rw [if_pos hs2] at h
  have HR := Aside0.mk (Option.some.inj h)
  have HO := Aside0.mk hs2
  have HG := Aside0.mk hG
  have HC := Aside0.mk hr0
  clear h hs2 hG hr0
  have h1 : 1 ≤ 3 := by decide
  have k0 := box_cell w (.string a1) 9
  have k1 := box_cell (w.alloc (.cells #[.string a1] 9)) (.bool false) 4
  rw [World.size_alloc] at k1
  obtain ⟨w0, hw0⟩ : ∃ w0, (w.alloc (.cells #[.string a1] 9)).alloc (.cells #[.bool false] 4) = w0 := ⟨_, rfl⟩
  have F0 : FI w.heap.size (w.heap.size + 1) a1 w [] w0 := by
    rw [← hw0]
    exact ⟨by omega, cell_on _ k0.1, k1.1, k1.2, ((Below.refl _ w).alloc (Nat.le_refl _) _).alloc (by simp) _, fun d hd => (by cases hd), List.nodup_nil⟩
  clear k0 k1
  obtain ⟨b1, e1⟩ : ∃ b, w.heap.size + 1 = b := ⟨_, rfl⟩
  have hgl : 0 < w.heap.size := by
    obtain ⟨m, hm⟩ := HG.out.max
    exact cell_inside hm
  refine (callsIn_wide (n := 3)).1 ?_
  refine callsIn_of_wp_marks Tryd.func37 rfl trivial ?_ rfl
  simp only [Tryd.ntmps37, List.size_toArray, List.length_cons, List.length_nil, Nat.reduceAdd, Nat.reduceSub, Array.replicate_succ, Array.replicate_zero, List.push_toArray, List.append_toArray, List.nil_append, List.cons_append]
  gi_wp2
  refine wpIn_loop (fun a' W => ∃ (i : Nat) (ds : List Nat) (u6 u7 u11 u12 u13 u14 u15 u16 u17 u18 u19 u20 u21 u22 u23 u24 u25 : Value), i ≤ l0.length ∧ (l0.take i).all (Pl.freeP a1) = true ∧ Aside0 (FI w.heap.size b1 a1 w ds W) ∧
    a' = { tmps := #[.slice A0 l0.length c0, .string a1, undef, .pointer (some ⟨w.heap.size, 0, none⟩), .pointer (some ⟨b1, 0, none⟩), undef, u6, u7, .slice A0 l0.length c0, .int .i64 (l0.length : Int), .int .i64 (i : Int), u11, u12, u13, u14, u15, u16, u17, u18, u19, u20, u21, u22, u23, u24, u25], defers := ds.map markD })
    (fun a' _ => l0.length - (intOf (a'.tmps.getD 10 undef)).toNat) ?start ?round
  case start => exact ⟨0, [], _, _, _, _, _, _, _, _, _, _, _, _, _, _, _, _, _, Nat.zero_le _, rfl, ⟨by rw [← e1]; exact F0⟩, by rw [← e1]; rfl⟩
  case round =>
    rintro a' wr ⟨i, ds, u6, u7, u11, u12, u13, u14, u15, u16, u17, u18, u19, u20, u21, u22, u23, u24, u25, hi, hall, hFI, rfl⟩
    have f1 := hFI.out.c1
    have ff1 := hFI.out.f1
    by_cases hlt : i < l0.length
    · have hx := of_decide_eq_true (List.all_eq_true.1 HO.out (l0[i]'hlt) (List.getElem_mem hlt))
      have htk := List.take_succ_eq_append_getElem hlt
      obtain ⟨bk, o, e0, hbk, hcells⟩ := strings_at HC.out (by omega)
      subst e0
      have hx0 := hcells i (l0[i]'hlt) (List.getElem?_eq_getElem hlt)
      replace hx0 := (hFI.out.bel.cell (World.block_lt_of_cell? w _ hx0)).trans hx0
      have hmem : (Pl.freeL a1 l0 = false ∨ Pl.freeP a1 (l0[i]'hlt) = true) := by
        cases hq : Pl.freeP a1 (l0[i]'hlt) with
        | true => exact .inr rfl
        | false => exact .inl (by
            unfold Pl.freeL
            rw [List.all_eq_false]
            exact ⟨_, List.getElem_mem hlt, by rw [hq]; decide⟩)
      have HTK := Aside0.mk htk
      clear htk hcells
      generalize l0[i]'hlt = p at *
      have c1 : ((0 : Int) ≤ (i : Int)) = True := eq_true (by omega)
      have c2 : ((i : Int) < (l0.length : Int)) = True := eq_true (by omega)
      have c3 : decide ((i : Int) < (l0.length : Int)) = true := decide_eq_true (by omega)
      gi_wp2_with (refine ⟨trivial, ?_⟩; gi_at_call 73; refine (callsIn_wide.2 (SplitSeq_calls _ _ _)).mono ?_; rintro e W2 ⟨rfl, hbx, hz, hB2⟩)
      obtain ⟨BS, hBS⟩ : ∃ BS, wr.heap.size = BS := ⟨_, rfl⟩
      have hwr := hFI.out.bel.size
      have F2 := hFI.out.below (Nat.le_refl _) hB2
      have hb1 : b1 < BS := by rw [← hBS]; exact cell_inside hFI.out.c1
      have hmk : ∀ d ∈ ds, d < BS := fun d hd => by rw [← hBS]; exact openM_lt (hFI.out.marks d hd).2
      rw [hBS] at hbx hz hB2
      have hG2 := HG.out.below F2.bel
      refine split_range (bs := BS) (D := fun b => b = 0 ∨ (BS ≤ b ∧ b ≤ BS + 2)) (xs := Pl.linesL p) h1 (by simp [Act.eval, hBS])
        (split_gives_crlf 2 (by decide) BS p (by omega) W2 hG2 (by omega) (by omega) hbx) (fun b hb => by rcases hb with rfl | hb <;> omega)
        (fun pre W => (pre.all (Pl.freeX a1) = true) ∧ Below BS W2 W)
        (fun c pre W => (c = .ret ∧ pre.all (Pl.freeX a1) = false ∧ W.cell? ⟨b1, 0, none⟩ = some (.bool false)) ∧ BelowBut BS b1 W2 W)
        (OwnFrom.and (Own.from (fun s A B row hs hg hr => hs) _) (ownFrom_below (by omega) (by omega)))
        (fun c => OwnFrom.and (Own.from (fun s A B row hs hg hr => ⟨hs.1, hs.2.1, cell_kept hs.2.2 hg hr⟩) _) (ownFrom_but (by omega) (by omega)))
        (fun s A v hs => ⟨hs.1, hs.2.setCell (p := ⟨BS, 0, none⟩) (Nat.le_refl _) _⟩)
        ⟨rfl, Below.refl _ W2⟩
        (fun x => { tmps := #[.slice (some ⟨bk, o, none⟩) l0.length c0, .string a1, undef, .pointer (some ⟨w.heap.size, 0, none⟩), .pointer (some ⟨b1, 0, none⟩), undef, .string p, .string x, .slice (some ⟨bk, o, none⟩) l0.length c0, .int .i64 (l0.length : Int), .int .i64 (i : Int), .bool true, .pointer (some ⟨bk, o + i, none⟩), .string p, .string p, .func (.func 133) #[] #[.pointer (some ⟨BS + 1, 0, none⟩), .pointer (some ⟨BS, 0, none⟩), .pointer (some ⟨BS + 2, 0, none⟩)], .string x, u17, u18, u19, u20, u21, u22, u23, u24, u25], defers := [] }) ?assign ?body ?done ?stop
      case assign =>
        intro l x W K hK
        gi_wp2
        exact hK
      case body =>
        rintro l pre x W ⟨hp, hBW⟩ hpx
        have h11 : 1 ≤ 3 - 1 - 1 := by decide
        have hwz : BS + 3 ≤ W.heap.size := by have := hBW.size; omega
        have hxs : x.size ≤ 1000000 := Nat.le_trans (cuts_size (mem_of_prefix hpx)) (by omega)
        have hP := Pl.mimeparts_is x a1 (by omega) (by omega)
        have hC := Pl.mimecloses_is x a1 (by omega) (by omega)
        have g0 : W.cell? ⟨w.heap.size, 0, none⟩ = some (.string a1) := (hBW.cell (p := ⟨w.heap.size, 0, none⟩) (by show w.heap.size < BS; have := F2.ord; omega)).trans F2.c0
        have g1 : W.cell? ⟨b1, 0, none⟩ = some (.bool false) := (hBW.cell (p := ⟨b1, 0, none⟩) hb1).trans F2.c1
        have k1 : W.frozen? ⟨b1, 0, none⟩ = false := (hBW.frozen (p := ⟨b1, 0, none⟩) hb1).trans F2.f1
        have hfx : Pl.freeX a1 x = !(Pl.whatP x a1 || Pl.whatC x a1) := rfl
        obtain ⟨PV, hPe⟩ : ∃ P, Pl.whatP x a1 = P := ⟨_, rfl⟩
        obtain ⟨CV, hCe⟩ : ∃ C, Pl.whatC x a1 = C := ⟨_, rfl⟩
        rw [hPe] at hP hfx
        rw [hCe] at hC hfx
        have HY : Hid (∀ (W' W'' : World), Below W.heap.size W W' → Below W'.heap.size W' W'' → Aside0 (W''.cell? ⟨w.heap.size, 0, none⟩ = some (.string a1) ∧ W''.cell? ⟨b1, 0, none⟩ = some (.bool false) ∧ W''.frozen? ⟨b1, 0, none⟩ = false ∧ Below W.heap.size W W'')) := fun W' W'' q1 q2 => by
          have q3 : Below W.heap.size W W'' := q1.trans (q2.mono q1.size)
          exact ⟨(q3.cell (cell_inside g0)).trans g0, (q3.cell (cell_inside g1)).trans g1, (q3.frozen (cell_inside g1)).trans k1, q3⟩
        have hBz := hBW.size
        cases PV with
        | true =>
          gi_wp2_with (refine ⟨trivial, ?_⟩; gi_at_call 74; refine (CallsIn.inRound l (callsIn_wide.2 (mime_parts.calls x a1 true _ hP))).mono ?_; rintro e W4 ⟨rfl, hB4⟩; obtain ⟨c4, d4, k4, hB5⟩ := (HY.out W W4 (Below.refl _ _) hB4).out)
          refine ⟨trivial, ?_⟩
          gi_wp2
          exact ⟨(KeepsOthers.of_below hB5).trans (KeepsOthers.setCell _ _ _), ⟨rfl, by rw [List.all_append]; simp [hfx], World.cell?_setCell_same' _ _ _ (by rw [d4]; rfl)⟩, BelowBut.of (hBW.trans (hB5.mono (by omega))) _⟩
        | false =>
          cases CV with
          | true =>
            gi_wp2_with (first
              | (refine ⟨trivial, ?_⟩; gi_at_call 74; refine (CallsIn.inRound l (callsIn_wide.2 (mime_parts.calls x a1 false _ hP))).mono ?_; rintro e W4 ⟨rfl, hB4⟩; obtain ⟨c4, d4, k4, hB5⟩ := (HY.out W W4 (Below.refl _ _) hB4).out)
              | (refine ⟨trivial, ?_⟩; gi_at_call 75; refine (CallsIn.inRound l (callsIn_wide.2 (mime_closes.calls x a1 true _ hC))).mono ?_; rintro e W6 ⟨rfl, hB6⟩; obtain ⟨c6, d6, k6, hB7⟩ := (HY.out W4 W6 hB5 hB6).out))
            exact ⟨(KeepsOthers.of_below hB7).trans (KeepsOthers.setCell _ _ _), ⟨rfl, by rw [List.all_append]; simp [hfx], World.cell?_setCell_same' _ _ _ (by rw [d6]; rfl)⟩, BelowBut.of (hBW.trans (hB7.mono (by omega))) _⟩
          | false =>
            gi_wp2_with (first
              | (refine ⟨trivial, ?_⟩; gi_at_call 74; refine (CallsIn.inRound l (callsIn_wide.2 (mime_parts.calls x a1 false _ hP))).mono ?_; rintro e W4 ⟨rfl, hB4⟩; obtain ⟨c4, d4, k4, hB5⟩ := (HY.out W W4 (Below.refl _ _) hB4).out)
              | (refine ⟨trivial, ?_⟩; gi_at_call 75; refine (CallsIn.inRound l (callsIn_wide.2 (mime_closes.calls x a1 false _ hC))).mono ?_; rintro e W6 ⟨rfl, hB6⟩; obtain ⟨c6, d6, k6, hB7⟩ := (HY.out W4 W6 hB5 hB6).out))
            exact ⟨KeepsOthers.of_below hB7, fun b hb => hB7.block b (by rcases hb with rfl | hb <;> omega), ⟨by rw [List.all_append, hp]; simp [hfx], hBW.trans (hB7.mono (by omega))⟩⟩
      case done =>
        rintro d W hd ⟨hp, hBW⟩ hK
        have hBB : Below wr.heap.size wr W := by rw [hBS]; exact hB2.trans hBW
        have FW := hFI.out.below (Nat.le_refl _) hBB
        have hdb : BS ≤ d := by have := hBW.size; omega
        gi_wp2
        refine ⟨⟨i + 1, d :: ds, _, _, _, _, _, _, _, _, _, _, _, _, _, _, _, _, _, by omega, ?_, ⟨⟨FW.ord, FW.c0, FW.c1, FW.f1, FW.bel, ?_, ?_⟩⟩, rfl⟩, ?_⟩
        · have hfp : Pl.freeP a1 p = true := hp
          rw [HTK.out, List.all_append, hall]
          simp [hfp]
        · intro e he
          rcases List.mem_cons.1 he with rfl | he
          · exact ⟨by omega, hK⟩
          · exact FW.marks e he
        · exact List.nodup_cons.2 ⟨fun hm => by have := hmk d hm; omega, FW.nodup⟩
        · simp [intOf]; omega
      case stop =>
        rintro d c pre W hd hpre ⟨⟨rfl, hp, hc⟩, hBW⟩ hK
        have hall2 : Pl.freeP a1 p = false := by
          unfold Pl.freeP
          rw [List.all_eq_false] at hp ⊢
          obtain ⟨y, hy, hn⟩ := hp
          exact ⟨y, hpre.subset hy, hn⟩
        have hfr : Pl.freeL a1 l0 = false := hmem.resolve_right (by rw [hall2]; decide)
        have hbel : Below w.heap.size w W := F2.bel.trans (hBW.to (by omega) (by omega))
        have hdb : BS ≤ d := by have := hBW.size; omega
        gi_wp2
        show LeavesInM Fence.wide 3 Tryd.prog Tryd.f37 _ _ ((d :: ds).map markD) .returning W
        refine leaves_marks (fun q => by cases q) (fun W' => W'.cell? ⟨b1, 0, none⟩ = some (.bool false) ∧ Below w.heap.size w W') (b1 + 1) (fun A d' hA h1 h2 => ⟨cell_kept hA.1 (grownBy_putObj' _ d' (.deferred none)) (fun r e => by cases e; exact ⟨_, h2, rfl⟩), belowK_m hA.2 (by omega) h2⟩) (fun A hA => ?_) (d :: ds) W ?_ ?_ ⟨hc, hbel⟩
        · refine ⟨.bool false, ?_, by rw [← HR.out, hfr], hA.2⟩
          simp [results, Tryd.f37, go_sem, hA.1]
        · exact List.nodup_cons.2 ⟨fun hm => by have := hmk d hm; omega, hFI.out.nodup⟩
        · intro e he
          rcases List.mem_cons.1 he with rfl | he
          · exact ⟨by omega, hK⟩
          · exact ⟨(hFI.out.marks e he).1, (hBW.block e (hmk e he) (by have := (hFI.out.marks e he).1; omega)).trans ((hB2.block e (hmk e he)).trans (hFI.out.marks e he).2)⟩
    · have c3 : decide ((i : Int) < (l0.length : Int)) = false := decide_eq_false (by omega)
      have hend : l0.take i = l0 := List.take_of_length_le (by omega)
      rw [hend] at hall
      have hall : Pl.freeL a1 l0 = true := hall
      have hbel := hFI.out.bel
      gi_wp2
      show LeavesInM Fence.wide 3 Tryd.prog Tryd.f37 _ _ (ds.map markD) .returning _
      refine leaves_marks (fun q => by cases q) (fun W' => W'.cell? ⟨b1, 0, none⟩ = some (.bool true) ∧ Below w.heap.size w W') (b1 + 1) (fun A d' hA h1 h2 => ⟨cell_kept hA.1 (grownBy_putObj' _ d' (.deferred none)) (fun r e => by cases e; exact ⟨_, h2, rfl⟩), belowK_m hA.2 (by omega) h2⟩) (fun A hA => ?_) ds _ hFI.out.nodup (fun e he => ?_) ⟨World.cell?_setCell_same' _ _ _ (by rw [f1]; rfl), hbel.setCell (p := ⟨b1, 0, none⟩) (by show w.heap.size ≤ b1; omega) _⟩
      · refine ⟨.bool true, ?_, by rw [← HR.out, hall], hA.2⟩
        simp [results, Tryd.f37, go_sem, hA.1]
      · exact ⟨(hFI.out.marks e he).1, (Below.heap_setCell _ _ _ _ (by show e ≠ b1; have := (hFI.out.marks e he).1; omega)).trans (hFI.out.marks e he).2⟩
end Go.Proofs.YtoikneogdbdplaaDoor.Fn
set_option linter.unusedVariables false
set_option linter.unusedSimpArgs false
namespace Go.Proofs.YtoikneogdbdplaaDoor.Pl
def partL (b p : Bytes) : Bytes := 45 :: 45 :: (b ++ (13 :: 10 :: (p ++ [13, 10])))
def partsL (b : Bytes) (l : List Bytes) : Bytes := l.flatMap (partL b)
def joinL (b : Bytes) (l : List Bytes) : Bytes := partsL b l ++ (45 :: 45 :: (b ++ [45, 45, 13, 10]))
theorem partL_length (b p : Bytes) : (partL b p).length = b.length + p.length + 6 := by
  unfold partL
  simp only [List.length_cons, List.length_append, List.length_nil]
  omega
theorem partsL_take (b : Bytes) (l : List Bytes) (i : Nat) (h : i < l.length) : partsL b (l.take (i + 1)) = partsL b (l.take i) ++ partL b l[i] := by
  rw [List.take_succ_eq_append_getElem h]
  unfold partsL
  rw [List.flatMap_append]
  simp
theorem partsL_le (b : Bytes) (m : Nat) : ∀ l : List Bytes, (∀ x ∈ l, x.length ≤ m) → (partsL b l).length ≤ l.length * (b.length + m + 6)
  | [], _ => by simp [partsL]
  | x :: l, h => by
    have ih := partsL_le b m l (fun y hy => h y (by simp [hy]))
    have hx := h x (by simp)
    have e : partsL b (x :: l) = partL b x ++ partsL b l := rfl
    rw [e, List.length_append, partL_length, List.length_cons, Nat.add_mul, Nat.one_mul]
    omega
end Go.Proofs.YtoikneogdbdplaaDoor.Pl
namespace Go.Proofs.YtoikneogdbdplaaDoor.Fn
open Go.RowKit Go.Proofs.YtoikneogdbdplaaDoorW.PrintWords

def mime_Join.f (l0 : List ByteArray) (a1 : ByteArray) : Option ByteArray :=
  if l0.length ≤ 1000000 then (if a1.size ≤ 1000000 then (if l0.all (fun x => decide (x.size ≤ 1000000)) = true then some (Pl.str (Pl.joinL (Pl.bs a1) (l0.map Pl.bs))) else none) else none) else none

set_option maxHeartbeats 8000000 in
set_option maxRecDepth 100000 in
theorem mime_Join.calls (A0 : Option Addr) (c0 : Nat) (l0 : List ByteArray) (a1 : ByteArray) (r : ByteArray) (w : World) (hr0 : Kd.C Kd.string w A0 l0.length l0) (hc0 : l0.length ≤ c0) (h : mime_Join.f l0 a1 = some r) :
    Calls Tryd.prog 39 #[.slice A0 l0.length c0, .string a1] w fun e w' => e = .returned (.string r) ∧ Below w.heap.size w w' := by
  unfold mime_Join.f at h
  by_cases hs : l0.length ≤ 1000000
  case neg => rw [if_neg hs] at h; exact absurd h (by simp)
  rw [if_pos hs] at h
  by_cases hs1 : a1.size ≤ 1000000
  case neg => rw [if_neg hs1] at h; exact absurd h (by simp)
  rw [if_pos hs1] at h
  by_cases hs2 : l0.all (fun x => decide (x.size ≤ 1000000)) = true
  case neg => rw [if_neg hs2] at h; exact absurd h (by simp)
  rw [if_pos hs2] at h
  have HR := hid (Option.some.inj h)
  have HO := hid hs2
  clear h hs2
  have HC := hid hr0
  clear hr0
  have hz := Pl.bs_length a1
  go_enter Tryd.func39, Tryd.ntmps39
  go_wp2
  go_loopw [10] (fun v10 wr => ∃ i : Nat, i ≤ l0.length ∧ v10 = .int .i64 i ∧ isBd w.heap.size w.heap.size (Lib.byteCells (Pl.partsL (Pl.bs a1) ((l0.map Pl.bs).take i))) wr ∧ Below w.heap.size w wr) (fun v10 _ => l0.length - (intOf v10).toNat)
  case atStart => exact ⟨0, Nat.zero_le _, rfl, by rw [List.take_zero]; exact Lib.IsBuilderF.of (Lib.fresh_isBuilder _ _ w), (Below.refl _ w).alloc (Nat.le_refl _) _⟩
  case round =>
    obtain ⟨i, hi, rfl, hI, hbw⟩ := hrel
    have hwsz := hbw.size
    have hlen := Pl.partsL_le (Pl.bs a1) 1000000 ((l0.map Pl.bs).take i) (fun x hx => by
      obtain ⟨y, hy, rfl⟩ := List.mem_map.1 (List.mem_of_mem_take hx)
      rw [Pl.bs_length]
      exact of_decide_eq_true (List.all_eq_true.1 HO.out y hy))
    have hlen2 : ((l0.map Pl.bs).take i).length * ((Pl.bs a1).length + 1000000 + 6) ≤ 1000000 * 2000006 := Nat.mul_le_mul (by rw [List.length_take, List.length_map]; omega) (by omega)
    by_cases hlt : i < l0.length
    · have hall := of_decide_eq_true (List.all_eq_true.1 HO.out (l0[i]'hlt) (List.getElem_mem hlt))
      have hpt := hid (Pl.partsL_take (Pl.bs a1) (l0.map Pl.bs) i (by rw [List.length_map]; exact hlt))
      rw [List.getElem_map] at hpt
      obtain ⟨bk, o, e0, hbk, hcells⟩ := strings_at HC.out (by omega)
      subst e0
      have hx0 := hcells i (l0[i]'hlt) (List.getElem?_eq_getElem hlt)
      replace hx0 := (hbw.cell (World.block_lt_of_cell? w _ hx0)).trans hx0
      generalize l0[i]'hlt = x at *
      have hzx := Pl.bs_length x
      have hzs : ((⟨#[45, 45]⟩ : ByteArray) ++ a1 ++ (⟨#[13, 10]⟩ : ByteArray) ++ x ++ (⟨#[13, 10]⟩ : ByteArray)).size = a1.size + x.size + 6 := by
        rw [ByteArray.size_append, ByteArray.size_append, ByteArray.size_append, ByteArray.size_append]
        show 2 + a1.size + 2 + x.size + 2 = _
        omega
      have hbytes : Lib.strCells ((⟨#[45, 45]⟩ : ByteArray) ++ a1 ++ (⟨#[13, 10]⟩ : ByteArray) ++ x ++ (⟨#[13, 10]⟩ : ByteArray)) = Lib.byteCells (Pl.partL (Pl.bs a1) (Pl.bs x)) := by
        show Lib.byteCells (Pl.bs _) = _
        rw [Pl.bs_app, Pl.bs_app, Pl.bs_app, Pl.bs_app]
        unfold Pl.partL
        congr 1
        show [45, 45] ++ Pl.bs a1 ++ [13, 10] ++ Pl.bs x ++ [13, 10] = _
        simp
      have HB_ := hid hbytes
      clear hbytes
      have c1 : ((0 : Int) ≤ (i : Int)) = True := eq_true (by omega)
      have c2 : ((i : Int) < (l0.length : Int)) = True := eq_true (by omega)
      have c3 : decide ((i : Int) < (l0.length : Int)) = true := decide_eq_true (by omega)
      go_wp2_with (go_at_call 78; refine (bd_string w.heap.size w.heap.size _ ((⟨#[45, 45]⟩ : ByteArray) ++ a1 ++ (⟨#[13, 10]⟩ : ByteArray) ++ x ++ (⟨#[13, 10]⟩ : ByteArray)) _ hI (by rw [Lib.byteCells_length, hzs]; omega) (by omega)).mono ?_; rintro e W2 ⟨rfl, h2, b2, k2⟩)
      go_roundw
      case rel =>
        refine ⟨i + 1, by omega, by go_num, ?_, hbw.trans b2⟩
        rw [hpt.out, Lib.byteCells_append, ← HB_.out]
        exact h2.is
      case measure => simp [intOf]; omega
    · have c3 : decide ((i : Int) < (l0.length : Int)) = false := decide_eq_false (by omega)
      have hend : (l0.map Pl.bs).take i = l0.map Pl.bs := List.take_of_length_le (by rw [List.length_map]; omega)
      rw [hend] at hI hlen hlen2
      have hzs : ((⟨#[45, 45]⟩ : ByteArray) ++ a1 ++ (⟨#[45, 45]⟩ : ByteArray) ++ (⟨#[13, 10]⟩ : ByteArray)).size = a1.size + 6 := by
        rw [ByteArray.size_append, ByteArray.size_append, ByteArray.size_append]
        show 2 + a1.size + 2 + 2 = _
        omega
      have hbytes : Lib.strCells ((⟨#[45, 45]⟩ : ByteArray) ++ a1 ++ (⟨#[45, 45]⟩ : ByteArray) ++ (⟨#[13, 10]⟩ : ByteArray)) = Lib.byteCells (45 :: 45 :: (Pl.bs a1 ++ [45, 45, 13, 10])) := by
        show Lib.byteCells (Pl.bs _) = _
        rw [Pl.bs_app, Pl.bs_app, Pl.bs_app]
        congr 1
        show [45, 45] ++ Pl.bs a1 ++ [45, 45] ++ [13, 10] = _
        simp
      have HB_ := hid hbytes
      clear hbytes
      go_wp2_with (first
        | (go_at_call 78; refine (bd_string w.heap.size w.heap.size _ ((⟨#[45, 45]⟩ : ByteArray) ++ a1 ++ (⟨#[45, 45]⟩ : ByteArray) ++ (⟨#[13, 10]⟩ : ByteArray)) _ hI (by rw [Lib.byteCells_length, hzs]; omega) (by omega)).mono ?_; rintro e W2 ⟨rfl, h2, b2, k2⟩; have h3 : isBd w.heap.size w.heap.size (Lib.byteCells (Pl.partsL (Pl.bs a1) (l0.map Pl.bs) ++ (45 :: 45 :: (Pl.bs a1 ++ [45, 45, 13, 10])))) W2 := (by rw [Lib.byteCells_append, ← HB_.out]; exact h2.is))
        | (go_at_call 79; go_loud (refine (Tryd.Builder_String_any_k w.heap.size w.heap.size _ _ h3 (by have := b2.size; omega)).mono ?_; rintro e W1 ⟨rfl, _, b1, _⟩)))
      go_ret
      refine ⟨?_, hbw.trans (b2.trans b1)⟩
      rw [← HR.out]
      rfl
end Go.Proofs.YtoikneogdbdplaaDoor.Fn
namespace Go.Proofs.YtoikneogdbdplaaDoor.Fn
open Go.RowKit Go.Proofs.YtoikneogdbdplaaDoorW.PrintWords Go.Proofs.YtoikneogdbdplaaDoorW.PrintLast Go.Proofs.YtoikneogdbdplaaDoorW.PrintMore
attribute [local go_sem] max2_int min2_int max_two min_two max_three min_three max_four min_four
set_option linter.unusedVariables false
set_option linter.unusedSimpArgs false

/-! ### bulletinlaw20_MimeBack: function 6 -/
def bulletinlaw20_MimeBack.j0 : Nat → List ByteArray → ByteArray → ByteArray → Bool → Option (Bool)
 | 0, _, _, _, _ => none
 | k + 1, x0, x1, x2, x41 => if x41 = true then (some true) else (if x2.size + 2 ≤ 9223372036854775807 then ((mime_Join.f x0 x1).bind fun t538 => (if (x2 ++ (⟨#[13, 10]⟩ : ByteArray)).size + t538.size ≤ 9223372036854775807 then (if ((x2 ++ (⟨#[13, 10]⟩ : ByteArray)) ++ t538).size + x2.size ≤ 9223372036854775807 then ((mime_Split.f (((x2 ++ (⟨#[13, 10]⟩ : ByteArray)) ++ t538) ++ x2) x1).bind fun bt539 => (if bt539.2 = 0 then ((bulletinbook_SameTexts.f k bt539.1 x0).bind fun t543 => (some t543)) else (some false))) else (none)) else (none))) else (none))
def bulletinlaw20_MimeBack.f (k : Nat) (l0 : List ByteArray) (a1 : ByteArray) (a2 : ByteArray) : Option (Bool) := (bulletinlaw20_works.f k).bind fun t530 => (if t530 = true then ((bulletinbook_Light.f k l0 20 500).bind fun t531 => (if t531 = true then (if (l0.length : Int) = 0 then (bulletinlaw20_MimeBack.j0 k l0 a1 a2 true) else (if (a2.size : Int) > 500 then (bulletinlaw20_MimeBack.j0 k l0 a1 a2 true) else ((bulletinref20_RightBoundary.f k a1).bind fun t532 => (if t532 = true then ((mime_Free.f l0 a1).bind fun t533 => (if t533 = true then ((mime_Free.f (([a2] : List ByteArray)) a1).bind fun t537 => (bulletinlaw20_MimeBack.j0 k l0 a1 a2 (!t537))) else (bulletinlaw20_MimeBack.j0 k l0 a1 a2 true))) else (bulletinlaw20_MimeBack.j0 k l0 a1 a2 true))))) else (bulletinlaw20_MimeBack.j0 k l0 a1 a2 true))) else (some false))
set_option maxHeartbeats 8000000 in
set_option maxRecDepth 100000 in
theorem bulletinlaw20_MimeBack.calls (k : Nat) (A0 : Option Addr) (c0 : Nat) (l0 : List ByteArray) (a1 : ByteArray) (a2 : ByteArray) (r : Bool) (w : World) (hG : Glob w) (hr0 : Kd.C Kd.string w A0 l0.length l0) (hc0 : l0.length ≤ c0) (h : bulletinlaw20_MimeBack.f k l0 a1 a2 = some r) :
  Calls Tryd.prog 6 #[.slice A0 l0.length c0, .string a1, .string a2] w fun e w' => e = .returned (.bool r) ∧ Below w.heap.size w w' := by
 have HR0 := Aside0.mk hr0
 have HC0 := Aside0.mk hc0
 clear hr0 hc0
 have HB := Aside0.mk (Below.refl w.heap.size w)
 have H : ((bulletinlaw20_works.f k).bind fun t530 => (if t530 = true then ((bulletinbook_Light.f k l0 20 500).bind fun t531 => (if t531 = true then (if (l0.length : Int) = 0 then (bulletinlaw20_MimeBack.j0 k l0 a1 a2 true) else (if (a2.size : Int) > 500 then (bulletinlaw20_MimeBack.j0 k l0 a1 a2 true) else ((bulletinref20_RightBoundary.f k a1).bind fun t532 => (if t532 = true then ((mime_Free.f l0 a1).bind fun t533 => (if t533 = true then ((mime_Free.f (([a2] : List ByteArray)) a1).bind fun t537 => (bulletinlaw20_MimeBack.j0 k l0 a1 a2 (!t537))) else (bulletinlaw20_MimeBack.j0 k l0 a1 a2 true))) else (bulletinlaw20_MimeBack.j0 k l0 a1 a2 true))))) else (bulletinlaw20_MimeBack.j0 k l0 a1 a2 true))) else (some false))) = some r := h
 clear h
 replace H := Option.bind_eq_some_iff.mp H
 obtain ⟨t530, A40, H⟩ := H
 replace H : (if t530 = true then ((bulletinbook_Light.f k l0 20 500).bind fun t531 => (if t531 = true then (if (l0.length : Int) = 0 then (bulletinlaw20_MimeBack.j0 k l0 a1 a2 true) else (if (a2.size : Int) > 500 then (bulletinlaw20_MimeBack.j0 k l0 a1 a2 true) else ((bulletinref20_RightBoundary.f k a1).bind fun t532 => (if t532 = true then ((mime_Free.f l0 a1).bind fun t533 => (if t533 = true then ((mime_Free.f (([a2] : List ByteArray)) a1).bind fun t537 => (bulletinlaw20_MimeBack.j0 k l0 a1 a2 (!t537))) else (bulletinlaw20_MimeBack.j0 k l0 a1 a2 true))) else (bulletinlaw20_MimeBack.j0 k l0 a1 a2 true))))) else (bulletinlaw20_MimeBack.j0 k l0 a1 a2 true))) else (some false)) = some r := H
 have A4 := Aside0.mk A40
 clear A40
 by_cases c5 : t530 = true
 ·subst c5
  have H1 : ((bulletinbook_Light.f k l0 20 500).bind fun t531 => (if t531 = true then (if (l0.length : Int) = 0 then (bulletinlaw20_MimeBack.j0 k l0 a1 a2 true) else (if (a2.size : Int) > 500 then (bulletinlaw20_MimeBack.j0 k l0 a1 a2 true) else ((bulletinref20_RightBoundary.f k a1).bind fun t532 => (if t532 = true then ((mime_Free.f l0 a1).bind fun t533 => (if t533 = true then ((mime_Free.f (([a2] : List ByteArray)) a1).bind fun t537 => (bulletinlaw20_MimeBack.j0 k l0 a1 a2 (!t537))) else (bulletinlaw20_MimeBack.j0 k l0 a1 a2 true))) else (bulletinlaw20_MimeBack.j0 k l0 a1 a2 true))))) else (bulletinlaw20_MimeBack.j0 k l0 a1 a2 true))) = some r := by rw [if_pos rfl] at H; exact H
  clear H
  have H := H1
  clear H1
  have HC6 := Aside0.mk H
  clear H
  go_enter Tryd.func6, Tryd.ntmps6
  go_upto_region 3 with (first | ((with_reducible refine gate_callee (f := 26) rfl ?_); refine goesL_ (some 9) rfl rfl Tryd.func26 (by kernel_rfl) rfl #[] rfl am ?_; (with_reducible refine (bulletinlaw20_works.calls (hG := by first | exact hG | exact Glob.below hG (by first | exact HB.out | (repeat (first | (with_reducible first | exact HB.out | apply below_alloc | apply pw_below_drewN | apply below_drew1) | exact HB.out))) | exact Glob.drawn hG (by repeat (first | exact Drawn0.refl _ | apply Drawn0.step))) k  true _ A4.out).mono ?_); rintro e w7 ⟨rfl, hb⟩; refine ⟨_, rfl, ?_⟩; have n0_ := Aside0.mk (below_step bw hb); clear HB; have HB := n0_; clear n0_; (try clear hb); (try clear hb2); (try clear hk); (try clear hi)))
  (try simp only [Act.put, List.setIfInBounds_toArray, List.set_cons_zero, List.set_cons_succ])
  go_cut [41] (fun v41 wc => ∃ (kq : Nat) (x41_5 : Bool), v41 = .bool x41_5 ∧ Aside0 (bulletinlaw20_MimeBack.j0 kq l0 a1 a2 x41_5 = some r) ∧ Aside0 (kq ≤ k) ∧ Aside0 (Below w.heap.size w wc))
  case first =>
   have H := HC6.out
   clear HC6
   replace H := Option.bind_eq_some_iff.mp H
   obtain ⟨t531, A80, H⟩ := H
   replace H : (if t531 = true then (if (l0.length : Int) = 0 then (bulletinlaw20_MimeBack.j0 k l0 a1 a2 true) else (if (a2.size : Int) > 500 then (bulletinlaw20_MimeBack.j0 k l0 a1 a2 true) else ((bulletinref20_RightBoundary.f k a1).bind fun t532 => (if t532 = true then ((mime_Free.f l0 a1).bind fun t533 => (if t533 = true then ((mime_Free.f (([a2] : List ByteArray)) a1).bind fun t537 => (bulletinlaw20_MimeBack.j0 k l0 a1 a2 (!t537))) else (bulletinlaw20_MimeBack.j0 k l0 a1 a2 true))) else (bulletinlaw20_MimeBack.j0 k l0 a1 a2 true))))) else (bulletinlaw20_MimeBack.j0 k l0 a1 a2 true)) = some r := H
   have A8 := Aside0.mk A80
   clear A80
   by_cases c9 : t531 = true
   ·subst c9
    have H1 : (if (l0.length : Int) = 0 then (bulletinlaw20_MimeBack.j0 k l0 a1 a2 true) else (if (a2.size : Int) > 500 then (bulletinlaw20_MimeBack.j0 k l0 a1 a2 true) else ((bulletinref20_RightBoundary.f k a1).bind fun t532 => (if t532 = true then ((mime_Free.f l0 a1).bind fun t533 => (if t533 = true then ((mime_Free.f (([a2] : List ByteArray)) a1).bind fun t537 => (bulletinlaw20_MimeBack.j0 k l0 a1 a2 (!t537))) else (bulletinlaw20_MimeBack.j0 k l0 a1 a2 true))) else (bulletinlaw20_MimeBack.j0 k l0 a1 a2 true))))) = some r := by rw [if_pos rfl] at H; exact H
    clear H
    have H := H1
    clear H1
    by_cases c10 : (l0.length : Int) = 0
    ·rw [if_pos c10] at H
     have c10b0 : ((l0.length : Int) == 0) = true := beq_iff_eq.mpr c10
     have c10b1 : ((l0.length : Int) != 0) = false := bne_eq_false_iff_eq.mpr c10
     clear c10
     (first | rw [c10b0] | (simp only [i64_w, i32_w]; rw [c10b0]) | skip)
     have H' := Aside0.mk H
     clear H
     go_wp2_with (first | ((with_reducible refine gate_callee (f := 35) rfl ?_); refine goesL_ (some 12) rfl rfl Tryd.func35 (by kernel_rfl) rfl #[.slice A0 l0.length c0, .int .i64 20, .int .i64 500] rfl am ?_; (with_reducible refine (bulletinbook_Light.calls k _ _ l0 20 500 true _ ?side1 ?side2 A8.out).mono ?_); (case side1 => repeat (first | exact (Kd.C_below HR0.out HB.out) | (with_reducible refine Kd.C_alloc ?_ _) | (with_reducible refine Kd.C_drewN ?_ _) | (with_reducible refine Kd.C_drew ?_))); (case side2 => exact HC0.out); rintro e w' ⟨rfl, ⟨nd, rfl⟩⟩; refine ⟨_, rfl, ?_⟩))
     go_meet
     case rel => exact ⟨_, (true), cl, H', ⟨by first | omega | exact Nat.le_refl _⟩, ⟨bw⟩⟩
    ·rw [if_neg c10] at H
     have c10b0 : ((l0.length : Int) == 0) = false := beq_eq_false_iff_ne.mpr c10
     have c10b1 : ((l0.length : Int) != 0) = true := bne_iff_ne.mpr c10
     have c10b2 : ¬ (l0 = []) := fun h_ => c10 (by rw [h_]; rfl)
     (first | rw [c10b0] | (simp only [i64_w, i32_w]; rw [c10b0]) | skip)
     by_cases c11 : (a2.size : Int) > 500
     ·rw [if_pos c11] at H
      have c11b0 : decide (500 < (a2.size : Int)) = true := decide_eq_true c11
      have c11b1 : decide (500 < a2.size) = true := decide_eq_true (by omega)
      clear c11
      have H' := Aside0.mk H
      clear H
      go_wp2_with (first | ((with_reducible refine gate_callee (f := 35) rfl ?_); refine goesL_ (some 12) rfl rfl Tryd.func35 (by kernel_rfl) rfl #[.slice A0 l0.length c0, .int .i64 20, .int .i64 500] rfl am ?_; (with_reducible refine (bulletinbook_Light.calls k _ _ l0 20 500 true _ ?side1 ?side2 A8.out).mono ?_); (case side1 => repeat (first | exact (Kd.C_below HR0.out HB.out) | (with_reducible refine Kd.C_alloc ?_ _) | (with_reducible refine Kd.C_drewN ?_ _) | (with_reducible refine Kd.C_drew ?_))); (case side2 => exact HC0.out); rintro e w' ⟨rfl, ⟨nd, rfl⟩⟩; refine ⟨_, rfl, ?_⟩))
      go_meet
      case rel => exact ⟨_, (true), cl, H', ⟨by first | omega | exact Nat.le_refl _⟩, ⟨bw⟩⟩
     ·rw [if_neg c11] at H
      have c11b0 : decide (500 < (a2.size : Int)) = false := decide_eq_false c11
      have c11b1 : decide (500 < a2.size) = false := decide_eq_false (by omega)
      clear c11
      replace H := Option.bind_eq_some_iff.mp H
      obtain ⟨t532, A120, H⟩ := H
      replace H : (if t532 = true then ((mime_Free.f l0 a1).bind fun t533 => (if t533 = true then ((mime_Free.f (([a2] : List ByteArray)) a1).bind fun t537 => (bulletinlaw20_MimeBack.j0 k l0 a1 a2 (!t537))) else (bulletinlaw20_MimeBack.j0 k l0 a1 a2 true))) else (bulletinlaw20_MimeBack.j0 k l0 a1 a2 true)) = some r := H
      have A12 := Aside0.mk A120
      clear A120
      by_cases c13 : t532 = true
      ·subst c13
       have H1 : ((mime_Free.f l0 a1).bind fun t533 => (if t533 = true then ((mime_Free.f (([a2] : List ByteArray)) a1).bind fun t537 => (bulletinlaw20_MimeBack.j0 k l0 a1 a2 (!t537))) else (bulletinlaw20_MimeBack.j0 k l0 a1 a2 true))) = some r := by rw [if_pos rfl] at H; exact H
       clear H
       have H := H1
       clear H1
       replace H := Option.bind_eq_some_iff.mp H
       obtain ⟨t533, A140, H⟩ := H
       replace H : (if t533 = true then ((mime_Free.f (([a2] : List ByteArray)) a1).bind fun t537 => (bulletinlaw20_MimeBack.j0 k l0 a1 a2 (!t537))) else (bulletinlaw20_MimeBack.j0 k l0 a1 a2 true)) = some r := H
       have A14 := Aside0.mk A140
       clear A140
       by_cases c15 : t533 = true
       ·subst c15
        have H1 : ((mime_Free.f (([a2] : List ByteArray)) a1).bind fun t537 => (bulletinlaw20_MimeBack.j0 k l0 a1 a2 (!t537))) = some r := by rw [if_pos rfl] at H; exact H
        clear H
        have H := H1
        clear H1
        obtain ⟨y534, hy534⟩ : ∃ y_ : List ByteArray, y_ = (([a2] : List ByteArray)) := ⟨_, rfl⟩
        replace H : ((mime_Free.f y534 a1).bind fun t537 => (bulletinlaw20_MimeBack.j0 k l0 a1 a2 (!t537))) = some r := by first | (rw [hy534]; with_reducible exact H) | (have H2_ := (Option.bind_some _ _).symm.trans H; rw [hy534]; with_reducible exact H2_) | (have H2_ := (Option.bind_some _ _).symm.trans H; with_reducible exact H2_) | with_reducible exact H | (rw [hy534]; exact H) | exact H
        have Ny534 := Aside0.mk hy534
        clear hy534
        replace H := Option.bind_eq_some_iff.mp H
        obtain ⟨t537, A160, H⟩ := H
        replace H : (bulletinlaw20_MimeBack.j0 k l0 a1 a2 (!t537)) = some r := H
        have A16 := Aside0.mk A160
        clear A160
        have H' := Aside0.mk H
        clear H
        go_wp2_with (first | ((with_reducible refine gate_callee (f := 35) rfl ?_); refine goesL_ (some 12) rfl rfl Tryd.func35 (by kernel_rfl) rfl #[.slice A0 l0.length c0, .int .i64 20, .int .i64 500] rfl am ?_; (with_reducible refine (bulletinbook_Light.calls k _ _ l0 20 500 true _ ?side1 ?side2 A8.out).mono ?_); (case side1 => repeat (first | exact (Kd.C_below HR0.out HB.out) | (with_reducible refine Kd.C_alloc ?_ _) | (with_reducible refine Kd.C_drewN ?_ _) | (with_reducible refine Kd.C_drew ?_))); (case side2 => exact HC0.out); rintro e w' ⟨rfl, ⟨nd, rfl⟩⟩; refine ⟨_, rfl, ?_⟩) | (go_at_call 36; (with_reducible refine (bulletinref20_RightBoundary.calls k a1 true _ A12.out).mono ?_); rintro e w' ⟨rfl, ⟨nd, rfl⟩⟩) | (go_at_call 37; (with_reducible refine (mime_Free.calls (hG := by first | exact hG | exact Glob.below hG (by first | exact HB.out | (repeat (first | (with_reducible first | exact HB.out | apply below_alloc | apply pw_below_drewN | apply below_drew1) | exact HB.out))) | exact Glob.drawn hG (by repeat (first | exact Drawn0.refl _ | apply Drawn0.step))) _ _ l0 a1 true _ ?side1 ?side2 A14.out).mono ?_); (case side1 => repeat (first | exact (Kd.C_below HR0.out bw) | (with_reducible refine Kd.C_alloc ?_ _) | (with_reducible refine Kd.C_drewN ?_ _) | (with_reducible refine Kd.C_drew ?_))); (case side2 => exact HC0.out); rintro e w17 ⟨rfl, hb⟩; have n0_ := Aside0.mk (below_step bw hb); clear HB; have HB := n0_; clear n0_; (try clear hb); (try clear hb2); (try clear hk); (try clear hi)) | ((with_reducible refine gate_dst (N := 37) rfl ?_); (try (refine gate_guard (by rfl) ?_; dsimp only)); refine Kd.R_lit Kd.string _ 9 ?hg (N := 37) ?hd (xs := ([a2] : List ByteArray)) (inner := [.string a2]) (ok := fun _ => True) (okp := fun _ => True) ?hr ?hp (fun _ hk => hk) trivial (Below.refl _ _) (Nat.le_refl _) (by simp) ?_; (case hd => rfl); (case hg => rfl); (case hr => first | (go_simp; done) | (go_simp; rfl)); (case hp => exact (Reps.one (show Kd.M Kd.string _ _ _ a2 [.string a2] from rfl) (Reps.none _ _))); intro v535 w18 ho19 hb hg_ hnew_; clear hg_ hnew_; (first | rw [← Ny534.out] at ho19 | (simp only [Int.reduceToNat] at ho19; rw [← Ny534.out] at ho19)); have n0_ := Aside0.mk (Kd.R_lower ho19 (below_size bw)); have n1_ := Aside0.mk (below_step bw hb); clear HB; have HO536 := n0_; have HB := n1_; clear n0_ n1_; clear hb ho19; obtain ⟨Ao20, co20, eo20⟩ := Kd.R_slice HO536.out; subst eo20) | (go_at_call 37; (with_reducible refine (mime_Free.calls (hG := by first | exact hG | exact Glob.below hG (by first | exact HB.out | (repeat (first | (with_reducible first | exact HB.out | apply below_alloc | apply pw_below_drewN | apply below_drew1) | exact HB.out))) | exact Glob.drawn hG (by repeat (first | exact Drawn0.refl _ | apply Drawn0.step))) _ _ y534 a1 t537 _ ?side1 ?side2 A16.out).mono ?_); (case side1 => repeat (first | exact (Kd.R_reads' HO536.out).2.2 | (with_reducible refine Kd.C_alloc ?_ _) | (with_reducible refine Kd.C_drewN ?_ _) | (with_reducible refine Kd.C_drew ?_))); (case side2 => exact (Kd.R_reads' HO536.out).2.1); rintro e w21 ⟨rfl, hb⟩; have n0_ := Aside0.mk (Kd.R_below (by (with_reducible repeat (first | apply Kd.R_alloc | apply Kd.R_drewN | apply Kd.R_drew)); exact HO536.out) hb); have n1_ := Aside0.mk (below_step bw hb); clear HO536; clear HB; have HO536 := n0_; have HB := n1_; clear n0_ n1_; (try clear hb); (try clear hb2); (try clear hk); (try clear hi)))
        go_meet
        case rel => exact ⟨_, (!t537), cl, H', ⟨by first | omega | exact Nat.le_refl _⟩, ⟨bw⟩⟩
       ·replace c15 := Bool.eq_false_iff.mpr c15
        subst c15
        have H1 : (bulletinlaw20_MimeBack.j0 k l0 a1 a2 true) = some r := by rw [if_neg (show ¬ (false = true) by decide)] at H; exact H
        clear H
        have H := H1
        clear H1
        have H' := Aside0.mk H
        clear H
        go_wp2_with (first | ((with_reducible refine gate_callee (f := 35) rfl ?_); refine goesL_ (some 12) rfl rfl Tryd.func35 (by kernel_rfl) rfl #[.slice A0 l0.length c0, .int .i64 20, .int .i64 500] rfl am ?_; (with_reducible refine (bulletinbook_Light.calls k _ _ l0 20 500 true _ ?side1 ?side2 A8.out).mono ?_); (case side1 => repeat (first | exact (Kd.C_below HR0.out HB.out) | (with_reducible refine Kd.C_alloc ?_ _) | (with_reducible refine Kd.C_drewN ?_ _) | (with_reducible refine Kd.C_drew ?_))); (case side2 => exact HC0.out); rintro e w' ⟨rfl, ⟨nd, rfl⟩⟩; refine ⟨_, rfl, ?_⟩) | (go_at_call 36; (with_reducible refine (bulletinref20_RightBoundary.calls k a1 true _ A12.out).mono ?_); rintro e w' ⟨rfl, ⟨nd, rfl⟩⟩) | (go_at_call 37; (with_reducible refine (mime_Free.calls (hG := by first | exact hG | exact Glob.below hG (by first | exact HB.out | (repeat (first | (with_reducible first | exact HB.out | apply below_alloc | apply pw_below_drewN | apply below_drew1) | exact HB.out))) | exact Glob.drawn hG (by repeat (first | exact Drawn0.refl _ | apply Drawn0.step))) _ _ l0 a1 false _ ?side1 ?side2 A14.out).mono ?_); (case side1 => repeat (first | exact (Kd.C_below HR0.out bw) | (with_reducible refine Kd.C_alloc ?_ _) | (with_reducible refine Kd.C_drewN ?_ _) | (with_reducible refine Kd.C_drew ?_))); (case side2 => exact HC0.out); rintro e w22 ⟨rfl, hb⟩; have n0_ := Aside0.mk (below_step bw hb); clear HB; have HB := n0_; clear n0_; (try clear hb); (try clear hb2); (try clear hk); (try clear hi)))
        go_meet
        case rel => exact ⟨_, (true), cl, H', ⟨by first | omega | exact Nat.le_refl _⟩, ⟨bw⟩⟩
      ·replace c13 := Bool.eq_false_iff.mpr c13
       subst c13
       have H1 : (bulletinlaw20_MimeBack.j0 k l0 a1 a2 true) = some r := by rw [if_neg (show ¬ (false = true) by decide)] at H; exact H
       clear H
       have H := H1
       clear H1
       have H' := Aside0.mk H
       clear H
       go_wp2_with (first | ((with_reducible refine gate_callee (f := 35) rfl ?_); refine goesL_ (some 12) rfl rfl Tryd.func35 (by kernel_rfl) rfl #[.slice A0 l0.length c0, .int .i64 20, .int .i64 500] rfl am ?_; (with_reducible refine (bulletinbook_Light.calls k _ _ l0 20 500 true _ ?side1 ?side2 A8.out).mono ?_); (case side1 => repeat (first | exact (Kd.C_below HR0.out HB.out) | (with_reducible refine Kd.C_alloc ?_ _) | (with_reducible refine Kd.C_drewN ?_ _) | (with_reducible refine Kd.C_drew ?_))); (case side2 => exact HC0.out); rintro e w' ⟨rfl, ⟨nd, rfl⟩⟩; refine ⟨_, rfl, ?_⟩) | (go_at_call 36; (with_reducible refine (bulletinref20_RightBoundary.calls k a1 false _ A12.out).mono ?_); rintro e w' ⟨rfl, ⟨nd, rfl⟩⟩))
       go_meet
       case rel => exact ⟨_, (true), cl, H', ⟨by first | omega | exact Nat.le_refl _⟩, ⟨bw⟩⟩
   ·replace c9 := Bool.eq_false_iff.mpr c9
    subst c9
    have H1 : (bulletinlaw20_MimeBack.j0 k l0 a1 a2 true) = some r := by rw [if_neg (show ¬ (false = true) by decide)] at H; exact H
    clear H
    have H := H1
    clear H1
    have H' := Aside0.mk H
    clear H
    go_wp2_with (first | ((with_reducible refine gate_callee (f := 35) rfl ?_); refine goesL_ (some 12) rfl rfl Tryd.func35 (by kernel_rfl) rfl #[.slice A0 l0.length c0, .int .i64 20, .int .i64 500] rfl am ?_; (with_reducible refine (bulletinbook_Light.calls k _ _ l0 20 500 false _ ?side1 ?side2 A8.out).mono ?_); (case side1 => repeat (first | exact (Kd.C_below HR0.out HB.out) | (with_reducible refine Kd.C_alloc ?_ _) | (with_reducible refine Kd.C_drewN ?_ _) | (with_reducible refine Kd.C_drew ?_))); (case side2 => exact HC0.out); rintro e w' ⟨rfl, ⟨nd, rfl⟩⟩; refine ⟨_, rfl, ?_⟩))
    go_meet
    case rel => exact ⟨_, (true), cl, H', ⟨by first | omega | exact Nat.le_refl _⟩, ⟨bw⟩⟩
  case rest =>
   clear HC6
   try clear c1
   try clear c2
   try clear p2
   try clear c3
   try clear c5
   try clear c6
   try clear c9
   try clear c10
   try clear c10b0
   try clear c10b1
   try clear c10b2
   try clear c11
   try clear c11b0
   try clear c11b1
   try clear c13
   try clear c15
   obtain ⟨kq, x41_5, rfl, HA, HJ5, HB⟩ := hcut
   cases kq with
   | zero => exact absurd HA.out (by simp [bulletinlaw20_MimeBack.j0])
   | succ kj5 =>
    have H := HA.out
    clear HA
    simp only [bulletinlaw20_MimeBack.j0] at H
    by_cases c23 : x41_5 = true
    ·subst c23
     have H1 : (some true) = some r := by rw [if_pos rfl] at H; exact H
     clear H
     have H := H1
     clear H1
     obtain rfl := Option.some.inj H
     go_wp2
     go_ret
     exact ⟨by first | rfl | (simp [errW_none, errW_some] <;> rfl) | (simp [*, errW_none, errW_some] <;> rfl), bw⟩
    ·replace c23 := Bool.eq_false_iff.mpr c23
     subst c23
     have H1 : (if a2.size + 2 ≤ 9223372036854775807 then ((mime_Join.f l0 a1).bind fun t538 => (if (a2 ++ (⟨#[13, 10]⟩ : ByteArray)).size + t538.size ≤ 9223372036854775807 then (if ((a2 ++ (⟨#[13, 10]⟩ : ByteArray)) ++ t538).size + a2.size ≤ 9223372036854775807 then ((mime_Split.f (((a2 ++ (⟨#[13, 10]⟩ : ByteArray)) ++ t538) ++ a2) a1).bind fun bt539 => (if bt539.2 = 0 then ((bulletinbook_SameTexts.f kj5 bt539.1 l0).bind fun t543 => (some t543)) else (some false))) else (none)) else (none))) else (none)) = some r := by rw [if_neg (show ¬ (false = true) by decide)] at H; exact H
     clear H
     have H := H1
     clear H1
     by_cases c24 : a2.size + 2 ≤ 9223372036854775807
     ·rw [if_pos c24] at H
      have c24b0 := eq_true c24
      have c24b1 : decide (a2.size + 2 ≤ 9223372036854775807) = true := decide_eq_true c24
      try have c24b2 : (9223372036854775807 < a2.size + 2) = False := eq_false (Nat.not_lt.2 c24)
      replace H := Option.bind_eq_some_iff.mp H
      obtain ⟨t538, A250, H⟩ := H
      replace H : (if (a2 ++ (⟨#[13, 10]⟩ : ByteArray)).size + t538.size ≤ 9223372036854775807 then (if ((a2 ++ (⟨#[13, 10]⟩ : ByteArray)) ++ t538).size + a2.size ≤ 9223372036854775807 then ((mime_Split.f (((a2 ++ (⟨#[13, 10]⟩ : ByteArray)) ++ t538) ++ a2) a1).bind fun bt539 => (if bt539.2 = 0 then ((bulletinbook_SameTexts.f kj5 bt539.1 l0).bind fun t543 => (some t543)) else (some false))) else (none)) else (none)) = some r := H
      have A25 := Aside0.mk A250
      clear A250
      by_cases c26 : (a2 ++ (⟨#[13, 10]⟩ : ByteArray)).size + t538.size ≤ 9223372036854775807
      ·rw [if_pos c26] at H
       have c26b0 := eq_true c26
       have c26b1 : decide ((a2 ++ (⟨#[13, 10]⟩ : ByteArray)).size + t538.size ≤ 9223372036854775807) = true := decide_eq_true c26
       try have c26b2 : (9223372036854775807 < (a2 ++ (⟨#[13, 10]⟩ : ByteArray)).size + t538.size) = False := eq_false (Nat.not_lt.2 c26)
       try (have c26b3 := c26; simp only [ByteArray.size_append, size_lit, ByteArray.size_extract, List.size_toArray, List.length_cons, List.length_nil, Nat.zero_add, Nat.reduceAdd] at c26b3; have c26b4 := eq_false (Nat.not_lt.2 c26b3))
       by_cases c27 : ((a2 ++ (⟨#[13, 10]⟩ : ByteArray)) ++ t538).size + a2.size ≤ 9223372036854775807
       ·rw [if_pos c27] at H
        have c27b0 := eq_true c27
        have c27b1 : decide (((a2 ++ (⟨#[13, 10]⟩ : ByteArray)) ++ t538).size + a2.size ≤ 9223372036854775807) = true := decide_eq_true c27
        try have c27b2 : (9223372036854775807 < ((a2 ++ (⟨#[13, 10]⟩ : ByteArray)) ++ t538).size + a2.size) = False := eq_false (Nat.not_lt.2 c27)
        try (have c27b3 := c27; simp only [ByteArray.size_append, size_lit, ByteArray.size_extract, List.size_toArray, List.length_cons, List.length_nil, Nat.zero_add, Nat.reduceAdd] at c27b3; have c27b4 := eq_false (Nat.not_lt.2 c27b3))
        replace H := Option.bind_eq_some_iff.mp H
        obtain ⟨⟨t539, t540⟩, A280, H⟩ := H
        replace H : (if t540 = 0 then ((bulletinbook_SameTexts.f kj5 t539 l0).bind fun t543 => (some t543)) else (some false)) = some r := H
        have A28 := Aside0.mk A280
        clear A280
        by_cases c29 : t540 = 0
        ·rw [if_pos c29] at H
         have c29b0 : (t540 == 0) = true := beq_iff_eq.mpr c29
         have c29b1 : (t540 != 0) = false := bne_eq_false_iff_eq.mpr c29
         clear c29
         replace H := Option.bind_eq_some_iff.mp H
         obtain ⟨t543, A300, H⟩ := H
         replace H : (some t543) = some r := H
         have A30 := Aside0.mk A300
         clear A300
         obtain rfl := Option.some.inj H
         go_wp2_with (first | ((with_reducible refine gate_callee (f := 39) rfl ?_); refine goesL_ (some 47) rfl rfl Tryd.func39 (by kernel_rfl) rfl #[.slice A0 l0.length c0, .string a1] rfl am ?_; (with_reducible refine (mime_Join.calls _ _ l0 a1 t538 _ ?side1 ?side2 A25.out).mono ?_); (case side1 => repeat (first | exact (Kd.C_below HR0.out HB.out) | (with_reducible refine Kd.C_alloc ?_ _) | (with_reducible refine Kd.C_drewN ?_ _) | (with_reducible refine Kd.C_drew ?_))); (case side2 => exact HC0.out); rintro e w31 ⟨rfl, hb⟩; refine ⟨_, rfl, ?_⟩; have n0_ := Aside0.mk (below_step bw hb); clear HB; have HB := n0_; clear n0_; (try clear hb); (try clear hb2); (try clear hk); (try clear hi)) | ((with_reducible refine gate_callee (f := 38) rfl ?_); refine goesL_ (some 52) rfl rfl Tryd.func38 (by kernel_rfl) rfl #[.string (((a2 ++ (⟨#[13, 10]⟩ : ByteArray)) ++ t538) ++ a2), .string a1] rfl am ?_; (with_reducible refine (mime_Split.calls (hG := by first | exact hG | exact Glob.below hG (by first | exact HB.out | (repeat (first | (with_reducible first | exact HB.out | apply below_alloc | apply pw_below_drewN | apply below_drew1) | exact HB.out))) | exact Glob.drawn hG (by repeat (first | exact Drawn0.refl _ | apply Drawn0.step))) (((a2 ++ (⟨#[13, 10]⟩ : ByteArray)) ++ t538) ++ a2) a1 t539 t540 _ A28.out).mono ?_); rintro e w32 ⟨v541, rfl, ho0, hb⟩; refine ⟨_, rfl, ?_⟩; have n0_ := Aside0.mk (Kd.R_lower ho0 (below_size bw)); have n1_ := Aside0.mk (below_step bw hb); clear HB; have HO542 := n0_; have HB := n1_; clear n0_ n1_; (try clear hb); (try clear hb2); (try clear hk); (try clear hi); (try clear ho0); obtain ⟨Ao33, co33, eo33⟩ := Kd.R_slice HO542.out; subst eo33) | (go_at_call 20; (with_reducible refine (bulletinbook_SameTexts.calls kj5 _ _ t539 _ _ l0 t543 _ ?side1 ?side2 ?side3 ?side4 A30.out).mono ?_); (case side1 => repeat (first | exact (Kd.R_reads' HO542.out).2.2 | (with_reducible refine Kd.C_alloc ?_ _) | (with_reducible refine Kd.C_drewN ?_ _) | (with_reducible refine Kd.C_drew ?_))); (case side2 => exact (Kd.R_reads' HO542.out).2.1); (case side3 => repeat (first | exact (Kd.C_below HR0.out HB.out) | (with_reducible refine Kd.C_alloc ?_ _) | (with_reducible refine Kd.C_drewN ?_ _) | (with_reducible refine Kd.C_drew ?_))); (case side4 => exact HC0.out); rintro e w' ⟨rfl, ⟨nd, rfl⟩⟩))
         go_ret
         exact ⟨by first | rfl | (simp [errW_none, errW_some] <;> rfl) | (simp [*, errW_none, errW_some] <;> rfl), bw⟩
        ·rw [if_neg c29] at H
         have c29b0 : (t540 == 0) = false := beq_eq_false_iff_ne.mpr c29
         have c29b1 : (t540 != 0) = true := bne_iff_ne.mpr c29
         obtain rfl := Option.some.inj H
         go_wp2_with (first | ((with_reducible refine gate_callee (f := 39) rfl ?_); refine goesL_ (some 47) rfl rfl Tryd.func39 (by kernel_rfl) rfl #[.slice A0 l0.length c0, .string a1] rfl am ?_; (with_reducible refine (mime_Join.calls _ _ l0 a1 t538 _ ?side1 ?side2 A25.out).mono ?_); (case side1 => repeat (first | exact (Kd.C_below HR0.out HB.out) | (with_reducible refine Kd.C_alloc ?_ _) | (with_reducible refine Kd.C_drewN ?_ _) | (with_reducible refine Kd.C_drew ?_))); (case side2 => exact HC0.out); rintro e w34 ⟨rfl, hb⟩; refine ⟨_, rfl, ?_⟩; have n0_ := Aside0.mk (below_step bw hb); clear HB; have HB := n0_; clear n0_; (try clear hb); (try clear hb2); (try clear hk); (try clear hi)) | ((with_reducible refine gate_callee (f := 38) rfl ?_); refine goesL_ (some 52) rfl rfl Tryd.func38 (by kernel_rfl) rfl #[.string (((a2 ++ (⟨#[13, 10]⟩ : ByteArray)) ++ t538) ++ a2), .string a1] rfl am ?_; (with_reducible refine (mime_Split.calls (hG := by first | exact hG | exact Glob.below hG (by first | exact HB.out | (repeat (first | (with_reducible first | exact HB.out | apply below_alloc | apply pw_below_drewN | apply below_drew1) | exact HB.out))) | exact Glob.drawn hG (by repeat (first | exact Drawn0.refl _ | apply Drawn0.step))) (((a2 ++ (⟨#[13, 10]⟩ : ByteArray)) ++ t538) ++ a2) a1 t539 t540 _ A28.out).mono ?_); rintro e w35 ⟨v541, rfl, ho0, hb⟩; refine ⟨_, rfl, ?_⟩; have n0_ := Aside0.mk (Kd.R_lower ho0 (below_size bw)); have n1_ := Aside0.mk (below_step bw hb); clear HB; have HO542 := n0_; have HB := n1_; clear n0_ n1_; (try clear hb); (try clear hb2); (try clear hk); (try clear hi); (try clear ho0)))
         go_ret
         exact ⟨by first | rfl | (simp [errW_none, errW_some] <;> rfl) | (simp [*, errW_none, errW_some] <;> rfl), bw⟩
       ·rw [if_neg c27] at H
        exact absurd H (by simp)
      ·rw [if_neg c26] at H
       exact absurd H (by simp)
     ·rw [if_neg c24] at H
      exact absurd H (by simp)
 ·replace c5 := Bool.eq_false_iff.mpr c5
  subst c5
  have H1 : (some false) = some r := by rw [if_neg (show ¬ (false = true) by decide)] at H; exact H
  clear H
  have H := H1
  clear H1
  obtain rfl := Option.some.inj H
  go_enter Tryd.func6, Tryd.ntmps6
  go_wp2_with (first | ((with_reducible refine gate_callee (f := 26) rfl ?_); refine goesL_ (some 9) rfl rfl Tryd.func26 (by kernel_rfl) rfl #[] rfl am ?_; (with_reducible refine (bulletinlaw20_works.calls (hG := by first | exact hG | exact Glob.below hG (by first | exact HB.out | (repeat (first | (with_reducible first | exact HB.out | apply below_alloc | apply pw_below_drewN | apply below_drew1) | exact HB.out))) | exact Glob.drawn hG (by repeat (first | exact Drawn0.refl _ | apply Drawn0.step))) k  false _ A4.out).mono ?_); rintro e w36 ⟨rfl, hb⟩; refine ⟨_, rfl, ?_⟩; have n0_ := Aside0.mk (below_step bw hb); clear HB; have HB := n0_; clear n0_; (try clear hb); (try clear hb2); (try clear hk); (try clear hi)))
  go_ret
  exact ⟨by first | rfl | (simp [errW_none, errW_some] <;> rfl) | (simp [*, errW_none, errW_some] <;> rfl), bw⟩

end Go.Proofs.YtoikneogdbdplaaDoor.Fn
namespace Go.Proofs.YtoikneogdbdplaaDoor.Fn
open Go.RowKit Go.Proofs.YtoikneogdbdplaaDoorW.PrintWords Go.Proofs.YtoikneogdbdplaaDoorW.PrintLast Go.Proofs.YtoikneogdbdplaaDoorW.PrintMore
attribute [local go_sem] max2_int min2_int max_two min_two max_three min_three max_four min_four
set_option linter.unusedVariables false
set_option linter.unusedSimpArgs false

/-! ### bulletinref17_Lines: function 93 -/
end Go.Proofs.YtoikneogdbdplaaDoor.Fn
namespace Go.Proofs.YtoikneogdbdplaaDoor.Fn
open Go.RowKit Go.Proofs.YtoikneogdbdplaaDoorW.PrintWords Go.Proofs.YtoikneogdbdplaaDoorW.PrintLast Go.Proofs.YtoikneogdbdplaaDoorW.PrintMore
attribute [local go_sem] max2_int min2_int max_two min_two max_three min_three max_four min_four
set_option linter.unusedVariables false
set_option linter.unusedSimpArgs false

/-! ### bulletinref20_What: function 94 -/
mutual
def bulletinref20_What.j1 : Nat → ByteArray → ByteArray → Option (Int)
 | 0, _, _ => none
 | k + 1, x1, x5 => if 2 + x1.size ≤ 9223372036854775807 then (if x5.toList = ((⟨#[45, 45]⟩ : ByteArray) ++ x1).toList then (some 1) else (if ((⟨#[45, 45]⟩ : ByteArray) ++ x1).size + 2 ≤ 9223372036854775807 then (if x5.toList = (((⟨#[45, 45]⟩ : ByteArray) ++ x1) ++ (⟨#[45, 45]⟩ : ByteArray)).toList then (some 2) else (some 0)) else (none))) else (none)
def bulletinref20_What.l0 : Nat → ByteArray → ByteArray → Option (Int)
 | 0, _, _ => none
 | k + 1, x1, x5 => if (x5.size : Int) > 0 then (if 0 ≤ (wrap64 ((x5.size : Int) - 1)) then (if (wrap64 ((x5.size : Int) - 1)) < (x5.size : Int) then (if (bt x5 (wrap64 ((x5.size : Int) - 1))) = 32 then (if (wrap64 ((x5.size : Int) - 1)) ≤ (x5.size : Int) then (bulletinref20_What.l0 k x1 (x5.extract 0 ((wrap64 ((x5.size : Int) - 1)) : Int).toNat)) else (none)) else (if (bt x5 (wrap64 ((x5.size : Int) - 1))) = 9 then (if (wrap64 ((x5.size : Int) - 1)) ≤ (x5.size : Int) then (bulletinref20_What.l0 k x1 (x5.extract 0 ((wrap64 ((x5.size : Int) - 1)) : Int).toNat)) else (none)) else (bulletinref20_What.j1 k x1 x5))) else (none)) else (none)) else (bulletinref20_What.j1 k x1 x5)
end
end Go.Proofs.YtoikneogdbdplaaDoor.Fn
namespace Go.Proofs.YtoikneogdbdplaaDoor.Fn
open Go.RowKit Go.Proofs.YtoikneogdbdplaaDoorW.PrintWords Go.Proofs.YtoikneogdbdplaaDoorW.PrintLast Go.Proofs.YtoikneogdbdplaaDoorW.PrintMore
attribute [local go_sem] max2_int min2_int max_two min_two max_three min_three max_four min_four
set_option linter.unusedVariables false
set_option linter.unusedSimpArgs false

/-! ### head_named: function 120 -/
def head_named.l0 : Nat → ByteArray → Int → Int → Option (Bool)
 | 0, _, _, _ => none
 | k + 1, x0, x6, x7 => if x7 < x6 then (if 0 ≤ x7 then (if x7 < (x0.size : Int) then (if (bt x0 x7) ≤ 32 then (some false) else (if (bt x0 x7) > 126 then (some false) else (if (bt x0 x7) = 58 then (some false) else (head_named.l0 k x0 x6 (wrap64 (x7 + 1)))))) else (none)) else (none)) else (if x0.toList = ([] : List UInt8) then (some false) else (some (decide ((x0.size : Int) ≤ 76))))
def head_named.f (k : Nat) (a0 : ByteArray) : Option (Bool) := head_named.l0 k a0 (a0.size : Int) 0
end Go.Proofs.YtoikneogdbdplaaDoor.Fn
namespace Go.Proofs.YtoikneogdbdplaaDoor.Fn
open Go.RowKit Go.Proofs.YtoikneogdbdplaaDoorW.PrintWords Go.Proofs.YtoikneogdbdplaaDoorW.PrintLast Go.Proofs.YtoikneogdbdplaaDoorW.PrintMore
attribute [local go_sem] max2_int min2_int max_two min_two max_three min_three max_four min_four
set_option linter.unusedVariables false
set_option linter.unusedSimpArgs false

/-! ### head_text: function 118 -/
def head_text.l0 : Nat → ByteArray → Int → Int → Option (Bool)
 | 0, _, _, _ => none
 | k + 1, x0, x6, x7 => if x7 < x6 then (if 0 ≤ x7 then (if x7 < (x0.size : Int) then (if (bt x0 x7) < 32 then (if (bt x0 x7) = 9 then (if (bt x0 x7) = 127 then (some false) else (head_text.l0 k x0 x6 (wrap64 (x7 + 1)))) else (some false)) else (if (bt x0 x7) = 127 then (some false) else (head_text.l0 k x0 x6 (wrap64 (x7 + 1))))) else (none)) else (none)) else (some true)
def head_text.f (k : Nat) (a0 : ByteArray) : Option (Bool) := head_text.l0 k a0 (a0.size : Int) 0
end Go.Proofs.YtoikneogdbdplaaDoor.Fn
namespace Go.Proofs.YtoikneogdbdplaaDoor.Fn
open Go.RowKit Go.Proofs.YtoikneogdbdplaaDoorW.PrintWords Go.Proofs.YtoikneogdbdplaaDoorW.PrintLast Go.Proofs.YtoikneogdbdplaaDoorW.PrintMore
attribute [local go_sem] max2_int min2_int max_two min_two max_three min_three max_four min_four
set_option linter.unusedVariables false
set_option linter.unusedSimpArgs false

/-! ### head_white: function 119 -/
def head_white.f (a0 : ByteArray) : Option (Bool) := if a0.toList = ([] : List UInt8) then (some false) else (if 0 < (a0.size : Int) then (if (bt a0 0) = 32 then (some true) else (some ((bt a0 0) == 9))) else (none))
end Go.Proofs.YtoikneogdbdplaaDoor.Fn
namespace Go.Proofs.YtoikneogdbdplaaDoor.Fn
open Go.RowKit Go.Proofs.YtoikneogdbdplaaDoorW.PrintWords Go.Proofs.YtoikneogdbdplaaDoorW.PrintLast Go.Proofs.YtoikneogdbdplaaDoorW.PrintMore
attribute [local go_sem] max2_int min2_int max_two min_two max_three min_three max_four min_four
set_option linter.unusedVariables false
set_option linter.unusedSimpArgs false

/-! ### head_grow: function 96 -/
mutual
def head_grow.j0 : Nat → List (S30) → ByteArray → Bool → Option ((List (S30)) × Int)
 | 0, _, _, _ => none
 | k + 1, x0, x1, x13 => if x13 = true then (some (([] : List (S30)), 150)) else ((head_white.f x1).bind fun t144 => (if t144 = true then (if 0 ≤ (wrap64 ((x0.length : Int) - 1)) then (if (wrap64 ((x0.length : Int) - 1)) < (x0.length : Int) then (if ((rd_T30 x0 (wrap64 ((x0.length : Int) - 1))).f1).size + x1.size ≤ 9223372036854775807 then (some ((x0.set ((wrap64 ((x0.length : Int) - 1)) : Int).toNat (⟨(rd_T30 x0 (wrap64 ((x0.length : Int) - 1))).f0, ((rd_T30 x0 (wrap64 ((x0.length : Int) - 1))).f1) ++ x1⟩ : S30)), 0)) else (none)) else (none)) else (none)) else ((strings_Cut.f x1 (⟨#[58]⟩ : ByteArray)).bind fun bt147 => (if bt147.2.2 = true then ((head_named.f k bt147.1).bind fun t150 => (head_grow.j1 k x0 bt147.1 bt147.2.1 (!t150))) else (head_grow.j1 k x0 bt147.1 bt147.2.1 true)))))
def head_grow.j1 : Nat → List (S30) → ByteArray → ByteArray → Bool → Option ((List (S30)) × Int)
 | 0, _, _, _, _ => none
 | k + 1, x0, x6, x7, x47 => if x47 = true then (some (([] : List (S30)), 150)) else (if (x0.length : Int) = 100 then (some (([] : List (S30)), 8)) else (if x0.length < 4398046511104 then (some ((x0 ++ [(⟨x6, x7⟩ : S30)]), 0)) else (none)))
end
def head_grow.f (k : Nat) (l0 : List (S30)) (a1 : ByteArray) : Option ((List (S30)) × Int) := if (a1.size : Int) > 998 then (some (([] : List (S30)), 2)) else ((head_text.f k a1).bind fun t142 => (if t142 = true then ((head_white.f a1).bind fun t143 => (if t143 = true then (head_grow.j0 k l0 a1 ((l0.length : Int) == 0)) else (head_grow.j0 k l0 a1 false))) else (head_grow.j0 k l0 a1 true)))
end Go.Proofs.YtoikneogdbdplaaDoor.Fn
set_option linter.unusedVariables false
namespace Go.Proofs.YtoikneogdbdplaaDoor.Fn
open Go.RowKit Go.Proofs.YtoikneogdbdplaaDoorW.PrintWords

def strings_Trim.f (a0 a1 : ByteArray) : Option ByteArray :=
  if a0.size ≤ 140737488355328 then (if a1.size ≤ 1000 then (if a1.data.toList.all (fun b => decide (b.toNat < 128)) = true then some (Pl.str (Lib.trimS a0.data.toList a1.data.toList)) else none) else none) else none
end Go.Proofs.YtoikneogdbdplaaDoor.Fn
namespace Go.Proofs.YtoikneogdbdplaaDoor.Fn
open Go.RowKit Go.Proofs.YtoikneogdbdplaaDoorW.PrintWords Go.Proofs.YtoikneogdbdplaaDoorW.PrintLast Go.Proofs.YtoikneogdbdplaaDoorW.PrintMore
attribute [local go_sem] max2_int min2_int max_two min_two max_three min_three max_four min_four
set_option linter.unusedVariables false
set_option linter.unusedSimpArgs false

/-! ### head_trim: function 97 -/
def head_trim.f (a0 : ByteArray) : Option (ByteArray) := (strings_Trim.f a0 (⟨#[32, 9]⟩ : ByteArray)).bind fun t156 => (some t156)
end Go.Proofs.YtoikneogdbdplaaDoor.Fn
namespace Go.Proofs.YtoikneogdbdplaaDoor.Fn
open Go.RowKit Go.Proofs.YtoikneogdbdplaaDoorW.PrintWords Go.Proofs.YtoikneogdbdplaaDoorW.PrintLast Go.Proofs.YtoikneogdbdplaaDoorW.PrintMore
attribute [local go_sem] max2_int min2_int max_two min_two max_three min_three max_four min_four
set_option linter.unusedVariables false
set_option linter.unusedSimpArgs false

/-! ### head_Parse: function 52 -/
mutual
def head_Parse.j1 : Nat → List (S30) → ByteArray → Option ((List (S30)) × ByteArray × Int)
 | 0, _, _ => none
 | k + 1, x2, x3 => head_Parse.l1 k x2 x3 (x2.length : Int) 0
def head_Parse.l1 : Nat → List (S30) → ByteArray → Int → Int → Option ((List (S30)) × ByteArray × Int)
 | 0, _, _, _, _ => none
 | k + 1, x2, x3, x33, x34 => if x34 < x33 then (if 0 ≤ x34 then (if x34 < (x2.length : Int) then ((head_trim.f ((rd_T30 x2 x34).f1)).bind fun t165 => (head_Parse.l1 k (x2.set (x34 : Int).toNat (⟨(rd_T30 x2 x34).f0, t165⟩ : S30)) x3 x33 (wrap64 (x34 + 1)))) else (none)) else (none)) else (some (x2, x3, 0))
def head_Parse.l0 : Nat → ByteArray → List (S30) → ByteArray → Option ((List (S30)) × ByteArray × Int)
 | 0, _, _, _ => none
 | k + 1, x0, x2, x3 => if x0.toList = ([] : List UInt8) then (head_Parse.j1 k x2 x3) else ((strings_Cut.f x0 (⟨#[13, 10]⟩ : ByteArray)).bind fun bt157 => (if bt157.2.2 = true then (if bt157.1.toList = ([] : List UInt8) then (head_Parse.j1 k x2 bt157.2.1) else ((head_grow.f k x2 bt157.1).bind fun bt160 => (if bt160.2 = 0 then (head_Parse.l0 k bt157.2.1 bt160.1 x3) else (some (([] : List (S30)), (⟨#[]⟩ : ByteArray), bt160.2))))) else (some (([] : List (S30)), (⟨#[]⟩ : ByteArray), 9))))
end
end Go.Proofs.YtoikneogdbdplaaDoor.Fn
set_option linter.unusedVariables false
namespace Go.Proofs.YtoikneogdbdplaaDoor.Fn
open Go.RowKit Go.Proofs.YtoikneogdbdplaaDoorW.PrintWords

/-! strings.IndexRune of a blank text at a sign beyond ASCII: -1. -/
end Go.Proofs.YtoikneogdbdplaaDoor.Fn
set_option linter.unusedVariables false
namespace Go.Proofs.YtoikneogdbdplaaDoor.Fn
open Go.RowKit Go.Proofs.YtoikneogdbdplaaDoorW.PrintWords

end Go.Proofs.YtoikneogdbdplaaDoor.Fn
set_option linter.unusedVariables false
namespace Go.Proofs.YtoikneogdbdplaaDoor.Fn
open Go.RowKit Go.Proofs.YtoikneogdbdplaaDoorW.PrintWords

end Go.Proofs.YtoikneogdbdplaaDoor.Fn
namespace Go.Proofs.YtoikneogdbdplaaDoor.Fn
open Go.RowKit Go.Proofs.YtoikneogdbdplaaDoorW.PrintWords Go.Proofs.YtoikneogdbdplaaDoorW.PrintLast Go.Proofs.YtoikneogdbdplaaDoorW.PrintMore
attribute [local go_sem] max2_int min2_int max_two min_two max_three min_three max_four min_four
set_option linter.unusedVariables false
set_option linter.unusedSimpArgs false

/-! ### head_piece: function 98 -/
end Go.Proofs.YtoikneogdbdplaaDoor.Fn
set_option linter.unusedVariables false
set_option linter.unusedSimpArgs false
namespace Go.Proofs.YtoikneogdbdplaaDoor.Pl
open Go.RowKit Go.Proofs.YtoikneogdbdplaaDoorW.PrintWords Go.Proofs.YtoikneogdbdplaaDoor.Fn

/-! head: how a field is written, in pieces. -/
def wb (c : UInt8) : Bool := ([32, 9] : List UInt8).contains c
def lead (s : Bytes) : Nat := (s.takeWhile wb).length
def word (s : Bytes) : Nat := (s.takeWhile (fun c => !wb c)).length
end Go.Proofs.YtoikneogdbdplaaDoor.Pl
set_option linter.unusedVariables false
set_option linter.unusedSimpArgs false
namespace Go.Proofs.YtoikneogdbdplaaDoor.Pl
open Go.RowKit Go.Proofs.YtoikneogdbdplaaDoorW.PrintWords Go.Proofs.YtoikneogdbdplaaDoor.Fn

/-! head.Parse as a machine over lists of bytes. -/
def nameB (c : UInt8) : Bool := !decide (c.toNat < 33) && (!decide (126 < c.toNat) && !decide (c.toNat = 58))
def named (s : Bytes) : Bool := s.all nameB && (!decide (s = []) && decide (s.length ≤ 76))
def crlf : Bytes → Option Nat
  | [] => none
  | c :: r => if c = 13 ∧ r.head? = some 10 then some 0 else (crlf r).map (· + 1)
def upto (c : UInt8) : Bytes → Nat
  | [] => 0
  | d :: r => if d = c then 0 else upto c r + 1
theorem crlf_room : ∀ {s : Bytes} {i : Nat}, crlf s = some i → i + 2 ≤ s.length
  | [], i, h => by simp [crlf] at h
  | c :: r, i, h => by
    unfold crlf at h
    split at h
    · rename_i hc
      injection h with h
      subst h
      cases r with
      | nil => simp at hc
      | cons d r => simp
    · rw [Option.map_eq_some_iff] at h
      obtain ⟨j, hj, rfl⟩ := h
      have := crlf_room hj
      simp only [List.length_cons]; omega
theorem index_crlf : ∀ (s : Bytes), Lib.index s [13, 10] = (match crlf s with | some i => (i : Int) | none => -1)
  | [] => rfl
  | c :: r => by
    have ih := index_crlf r
    rw [Lib.index, crlf]
    by_cases h : c = 13 ∧ r.head? = some 10
    · rw [if_pos h]
      obtain ⟨rfl, h2⟩ := h
      cases r with
      | nil => simp at h2
      | cons d r =>
        simp at h2
        subst h2
        rw [if_pos (by simp [List.isPrefixOf])]
        rfl
    · rw [if_neg h]
      have hp : ([13, 10] : Bytes).isPrefixOf (c :: r) = false := by
        cases r with
        | nil => simp [List.isPrefixOf]
        | cons d r =>
          simp only [List.head?_cons, Option.some.injEq] at h
          simp [List.isPrefixOf]
          intro h1 h2
          exact h ⟨h1.symm, h2.symm⟩
      rw [hp, if_neg (by decide), ih]
      cases crlf r with
      | none => rfl
      | some i =>
        simp only [Option.map_some]
        rw [if_neg (by first | (simp; done) | (simp; omega))]
        show (i : Int) + 1 = ((i + 1 : Nat) : Int)
        omega
end Go.Proofs.YtoikneogdbdplaaDoor.Pl
namespace Go.Proofs.YtoikneogdbdplaaDoor.Fn
open Go.RowKit Go.Proofs.YtoikneogdbdplaaDoorW.PrintWords Go.Proofs.YtoikneogdbdplaaDoorW.PrintLast Go.Proofs.YtoikneogdbdplaaDoorW.PrintMore
attribute [local go_sem] max2_int min2_int max_two min_two max_three min_three max_four min_four
set_option linter.unusedVariables false
set_option linter.unusedSimpArgs false

/-! ### bulletinref12_among: function 106 -/
end Go.Proofs.YtoikneogdbdplaaDoor.Fn
namespace Go.Proofs.YtoikneogdbdplaaDoor.Fn
open Go.RowKit Go.Proofs.YtoikneogdbdplaaDoorW.PrintWords Go.Proofs.YtoikneogdbdplaaDoorW.PrintLast Go.Proofs.YtoikneogdbdplaaDoorW.PrintMore
attribute [local go_sem] max2_int min2_int max_two min_two max_three min_three max_four min_four
set_option linter.unusedVariables false
set_option linter.unusedSimpArgs false

/-! ### bulletinref12_atomic: function 105 -/
end Go.Proofs.YtoikneogdbdplaaDoor.Fn
namespace Go.Proofs.YtoikneogdbdplaaDoor.Fn
open Go.RowKit Go.Proofs.YtoikneogdbdplaaDoorW.PrintWords Go.Proofs.YtoikneogdbdplaaDoorW.PrintLast Go.Proofs.YtoikneogdbdplaaDoorW.PrintMore
attribute [local go_sem] max2_int min2_int max_two min_two max_three min_three max_four min_four
set_option linter.unusedVariables false
set_option linter.unusedSimpArgs false

/-! ### bulletinref12_IsAtom: function 68 -/
end Go.Proofs.YtoikneogdbdplaaDoor.Fn
set_option linter.unusedVariables false
namespace Go.Proofs.YtoikneogdbdplaaDoor.Pl
open Go.RowKit Go.Proofs.YtoikneogdbdplaaDoorW.PrintWords Go.Proofs.YtoikneogdbdplaaDoor.Fn

/-! Layer 12, the program's and the document's: which bytes are atomic; atoms. -/
def atomic (c : UInt8) : Bool := (lex_atomic.f (c.toNat : Int)).getD false
end Go.Proofs.YtoikneogdbdplaaDoor.Pl
namespace Go.Proofs.YtoikneogdbdplaaDoor.Fn
open Go.RowKit Go.Proofs.YtoikneogdbdplaaDoorW.PrintWords Go.Proofs.YtoikneogdbdplaaDoorW.PrintLast Go.Proofs.YtoikneogdbdplaaDoorW.PrintMore
attribute [local go_sem] max2_int min2_int max_two min_two max_three min_three max_four min_four
set_option linter.unusedVariables false
set_option linter.unusedSimpArgs false

/-! ### addr_labelled: function 180 -/
def addr_labelled.f (a0 : Int) : Option (Bool) := if a0 ≥ 97 then (if a0 ≤ 122 then (some true) else (if a0 ≥ 65 then (if a0 ≤ 90 then (some true) else (if a0 ≥ 48 then (if a0 ≤ 57 then (some true) else (some (a0 == 45))) else (some (a0 == 45)))) else (if a0 ≥ 48 then (if a0 ≤ 57 then (some true) else (some (a0 == 45))) else (some (a0 == 45))))) else (if a0 ≥ 65 then (if a0 ≤ 90 then (some true) else (if a0 ≥ 48 then (if a0 ≤ 57 then (some true) else (some (a0 == 45))) else (some (a0 == 45)))) else (if a0 ≥ 48 then (if a0 ≤ 57 then (some true) else (some (a0 == 45))) else (some (a0 == 45))))
end Go.Proofs.YtoikneogdbdplaaDoor.Fn
namespace Go.Proofs.YtoikneogdbdplaaDoor.Fn
open Go.RowKit Go.Proofs.YtoikneogdbdplaaDoorW.PrintWords Go.Proofs.YtoikneogdbdplaaDoorW.PrintLast Go.Proofs.YtoikneogdbdplaaDoorW.PrintMore
attribute [local go_sem] max2_int min2_int max_two min_two max_three min_three max_four min_four
set_option linter.unusedVariables false
set_option linter.unusedSimpArgs false

/-! ### addr_label: function 168 -/
end Go.Proofs.YtoikneogdbdplaaDoor.Fn
set_option linter.unusedVariables false
namespace Go.Proofs.YtoikneogdbdplaaDoor.Pl
open Go.RowKit Go.Proofs.YtoikneogdbdplaaDoorW.PrintWords Go.Proofs.YtoikneogdbdplaaDoor.Fn

/-! Layer 13, the program's: labels. -/
def labelled (c : UInt8) : Bool := (addr_labelled.f (c.toNat : Int)).getD false
def labelL (l : Bytes) : Bool := l.all labelled && (match l.head?, l.getLast? with | some a, some b => a != 45 && b != 45 | _, _ => false)
def label (s : ByteArray) : Bool := labelL (bs s)
end Go.Proofs.YtoikneogdbdplaaDoor.Pl
set_option linter.unusedVariables false
namespace Go.Proofs.YtoikneogdbdplaaDoor.Pl
def dots (s : ByteArray) : List ByteArray := Fn.cuts (Fn.findOne 46) 1 s
end Go.Proofs.YtoikneogdbdplaaDoor.Pl
namespace Go.Proofs.YtoikneogdbdplaaDoor.Fn
open Go.RowKit Go.Shelf Go.Proofs.YtoikneogdbdplaaDoorW.PrintWords

attribute [local go_sem] Oper.semAt_some

end Go.Proofs.YtoikneogdbdplaaDoor.Fn
set_option linter.unusedVariables false
namespace Go.Proofs.YtoikneogdbdplaaDoor.Pl
def domLong (s : ByteArray) (l : List ByteArray) : Bool := decide (253 < (s.size : Int)) || l.any (fun x => decide (63 < (x.size : Int)))
def domain (s : ByteArray) : Int := if (dots s).all label = true then (if domLong s (dots s) = true then 2 else 0) else 130
end Go.Proofs.YtoikneogdbdplaaDoor.Pl
namespace Go.Proofs.YtoikneogdbdplaaDoor.Fn
open Go.RowKit Go.Shelf Go.Proofs.YtoikneogdbdplaaDoorW.PrintWords

attribute [local go_sem] Oper.semAt_some

end Go.Proofs.YtoikneogdbdplaaDoor.Fn
namespace Go.Proofs.YtoikneogdbdplaaDoor.Fn
open Go.RowKit Go.Proofs.YtoikneogdbdplaaDoorW.PrintWords Go.Proofs.YtoikneogdbdplaaDoorW.PrintLast Go.Proofs.YtoikneogdbdplaaDoorW.PrintMore
attribute [local go_sem] max2_int min2_int max_two min_two max_three min_three max_four min_four
set_option linter.unusedVariables false
set_option linter.unusedSimpArgs false

/-! ### glyph_plain: function 169 -/
end Go.Proofs.YtoikneogdbdplaaDoor.Fn
set_option linter.unusedVariables false
namespace Go.Proofs.YtoikneogdbdplaaDoor.Pl
def plainR (r : Nat) : Bool := decide (32 ≤ r) && decide (r ≤ 126)
def plainFrom (s : ByteArray) : Nat → Nat → Bool
  | 0, _ => true
  | f + 1, pos => if pos < s.size then (if plainR (Utf8.decode s pos).1 = true then plainFrom s f (pos + (Utf8.decode s pos).2) else false) else true
def plain (s : ByteArray) : Bool := plainFrom s s.size 0
end Go.Proofs.YtoikneogdbdplaaDoor.Pl
namespace Go.Proofs.YtoikneogdbdplaaDoor.Fn
open Go.RowKit Go.Proofs.YtoikneogdbdplaaDoorW.PrintWords

end Go.Proofs.YtoikneogdbdplaaDoor.Fn
namespace Go.Proofs.YtoikneogdbdplaaDoor.Fn
open Go.RowKit Go.Proofs.YtoikneogdbdplaaDoorW.PrintWords Go.Proofs.YtoikneogdbdplaaDoorW.PrintLast Go.Proofs.YtoikneogdbdplaaDoorW.PrintMore
attribute [local go_sem] max2_int min2_int max_two min_two max_three min_three max_four min_four
set_option linter.unusedVariables false
set_option linter.unusedSimpArgs false

/-! ### addr_Addr_Text: function 87 -/
end Go.Proofs.YtoikneogdbdplaaDoor.Fn
-- written by xprint.py of this session over the kit's printer; not trusted: Lean checks it
namespace Go.Proofs.YtoikneogdbdplaaDoor.Fn
open Go.RowKit Go.Proofs.YtoikneogdbdplaaDoorW.PrintWords Go.Proofs.YtoikneogdbdplaaDoorW.PrintLast Go.Proofs.YtoikneogdbdplaaDoorW.PrintMore
attribute [local go_sem] max2_int min2_int max_two min_two max_three min_three max_four min_four   -- for this text's walks alone
set_option linter.unusedVariables false
set_option linter.unusedSimpArgs false

theorem eqA75 (d : Nat) (w : World) (x0 y0 : ByteArray) (x1 y1 : ByteArray) :
    (Op.equalIn (d + 2) 75 (.agg #[.string x0, .string x1]) (.agg #[.string y0, .string y1])).run Tryd.prog w = .ok (x0.toList == y0.toList && (x1.toList == y1.toList)) w := by
  refine eqA_of Tryd.underlying75 (by kernel_rfl) ?_
  refine eqf_cons (by rfl) (by go_simp; rfl) (by go_simp; rfl) (by go_simp) ?_
  exact eqf_last (by rfl) (by go_simp; rfl) (by go_simp; rfl) (by go_simp)
end Go.Proofs.YtoikneogdbdplaaDoor.Fn
namespace Go.Proofs.YtoikneogdbdplaaDoor.Fn
open Go.RowKit Go.Proofs.YtoikneogdbdplaaDoorW.PrintWords Go.Proofs.YtoikneogdbdplaaDoorW.PrintLast Go.Proofs.YtoikneogdbdplaaDoorW.PrintMore
attribute [local go_sem] max2_int min2_int max_two min_two max_three min_three max_four min_four
set_option linter.unusedVariables false
set_option linter.unusedSimpArgs false

/-! ### addr_why: function 117 -/
end Go.Proofs.YtoikneogdbdplaaDoor.Fn
namespace Go.Proofs.YtoikneogdbdplaaDoor.Fn
open Go.RowKit Go.Proofs.YtoikneogdbdplaaDoorW.PrintWords Go.Proofs.YtoikneogdbdplaaDoorW.PrintLast Go.Proofs.YtoikneogdbdplaaDoorW.PrintMore
attribute [local go_sem] max2_int min2_int max_two min_two max_three min_three max_four min_four
set_option linter.unusedVariables false
set_option linter.unusedSimpArgs false

attribute [local go_sem high] eqA75
/-! ### addr_Addr_Right: function 91 -/
end Go.Proofs.YtoikneogdbdplaaDoor.Fn
set_option linter.unusedVariables false
namespace Go.Proofs.YtoikneogdbdplaaDoor.Pl
open Go.RowKit Go.Proofs.YtoikneogdbdplaaDoorW.PrintWords Go.Proofs.YtoikneogdbdplaaDoor.Fn

/-! Layer 13, the program's, over lists of bytes. -/
theorem mono_up {α : Type} {f : Nat → Option α} (h : ∀ k, LeO (f k) (f (k + 1))) {r : α} {k : Nat} (hr : f k = some r) : ∀ (k' : Nat), k ≤ k' → f k' = some r := by
  intro k' hk
  obtain ⟨d, rfl⟩ : ∃ d, k' = k + d := ⟨k' - k, by omega⟩
  clear hk
  induction d with
  | zero => exact hr
  | succ d ih => exact h (k + d) r ih

def splitL (c : UInt8) : Bytes → List Bytes
  | [] => [[]]
  | x :: l => if x = c then [] :: splitL c l else match splitL c l with
    | [] => [[x]]
    | w :: r => (x :: w) :: r
def atomL (w : Bytes) : Bool := w.all atomic && !w.isEmpty
def dottedL (l : Bytes) : Bool := (splitL 46 l).all atomL
/-! Quote -/
def text (c : UInt8) : Bool := (lex_text.f (c.toNat : Int)).getD false
def qB (c : UInt8) : Bytes := if c = 34 ∨ c = 92 then [92, c] else if text c = true then [c] else [32]
def quote (l : Bytes) : Bytes := 34 :: (l.flatMap qB ++ [34])
/-! Text, Key, why, Right -/
def localL (a : Bytes) : Bytes := if dottedL a = true then a else quote a
def textL (a b : Bytes) : Bytes := localL a ++ 64 :: b
def why (a b : ByteArray) : Int :=
  if domain b = 130 ∨ bs a = [] ∨ plain a = false then 130
  else if domain b ≠ 0 ∨ 64 < a.size ∨ 254 < (textL (bs a) (bs b)).length then 2 else 0
end Go.Proofs.YtoikneogdbdplaaDoor.Pl
set_option linter.unusedVariables false
set_option linter.unusedSimpArgs false
namespace Go.Proofs.YtoikneogdbdplaaDoor.Pl
open Go.RowKit Go.Proofs.YtoikneogdbdplaaDoorW.PrintWords Go.Proofs.YtoikneogdbdplaaDoor.Fn

/-! Layer 20, the document's: the parts of a body. -/
def consHead (c : UInt8) : List Bytes → List Bytes
  | [] => [[c]]
  | w :: r => (c :: w) :: r
def linesB : Bytes → List Bytes
  | [] => [[]]
  | [c] => [[c]]
  | c :: d :: l => if c = 13 ∧ d = 10 then [] :: linesB l else consHead c (linesB (d :: l))
theorem linesB_ne (l : Bytes) : linesB l ≠ [] := by
  unfold linesB
  split
  · simp
  · simp
  · split
    · simp
    · unfold consHead
      split <;> simp
theorem linesB_none : ∀ l : Bytes, crlf l = none → linesB l = [l]
  | [], _ => rfl
  | [c], _ => rfl
  | c :: d :: l, h => by
    rw [crlf] at h
    by_cases hc : c = 13 ∧ d = 10
    · rw [if_pos ⟨hc.1, by simp [hc.2]⟩] at h; cases h
    · rw [if_neg (by simpa using hc)] at h
      have h2 : crlf (d :: l) = none := by
        cases hq : crlf (d :: l) with
        | none => rfl
        | some i => rw [hq] at h; cases h
      rw [linesB, if_neg hc, linesB_none (d :: l) h2]
      rfl
theorem linesB_some : ∀ (l : Bytes) (i : Nat), crlf l = some i → linesB l = l.take i :: linesB (l.drop (i + 2))
  | [], i, h => by cases h
  | [c], i, h => by simp [crlf] at h
  | c :: d :: l, i, h => by
    rw [crlf] at h
    by_cases hc : c = 13 ∧ d = 10
    · rw [if_pos ⟨hc.1, by simp [hc.2]⟩] at h
      injection h with h
      subst h
      rw [linesB, if_pos hc]
      rfl
    · rw [if_neg (by simpa using hc), Option.map_eq_some_iff] at h
      obtain ⟨j, hj, rfl⟩ := h
      rw [linesB, if_neg hc, linesB_some (d :: l) j hj]
      rfl
theorem cuts_crlf : ∀ (n : Nat) (s : ByteArray), s.size ≤ n → (Fn.cuts findCrlf 2 s).map bs = linesB (bs s)
  | n, s, hn => by
    have hi := index_crlf (bs s)
    have hf : findCrlf s = Lib.index (bs s) [13, 10] := rfl
    cases hc : crlf (bs s) with
    | none =>
      rw [hc] at hi
      rw [cuts_last finds_crlf s (by rw [hf, hi]; decide), linesB_none _ hc]
      rfl
    | some i =>
      rw [hc] at hi
      have hr := crlf_room hc
      rw [bs_length] at hr
      have h0 : findCrlf s = (i : Int) := by rw [hf, hi]
      have ht : (bs s).take s.size = bs s := List.take_of_length_le (by rw [bs_length]; exact Nat.le_refl _)
      rw [cuts_more finds_crlf s (by omega), linesB_some _ i hc, h0, List.map_cons, Int.toNat_natCast]
      cases n with
      | zero => omega
      | succ n =>
        have hz : (s.extract (i + 2) s.size).size ≤ n := by simp only [ByteArray.size_extract]; omega
        rw [cuts_crlf n _ hz, bs_extract, bs_extract, List.drop_zero, ht]
theorem linesL_is (s : ByteArray) : linesL s = (linesB (bs s)).map str := by
  have h := cuts_crlf s.size s (Nat.le_refl _)
  unfold linesL
  rw [← h, List.map_map, show str ∘ bs = id from funext str_bs, List.map_id]
/-! what a line does -/
theorem trim_snoc (l : Bytes) (c : UInt8) : Lib.trimRightS (l ++ [c]) [32, 9] = if c = 32 ∨ c = 9 then Lib.trimRightS l [32, 9] else l ++ [c] := by
  unfold Lib.trimRightS
  rw [List.reverse_append, List.reverse_cons, List.reverse_nil, List.nil_append, List.singleton_append, List.dropWhile_cons]
  by_cases h : c = 32 ∨ c = 9
  · rw [if_pos h, if_pos (by rcases h with rfl | rfl <;> decide)]
  · rw [if_neg h, if_neg (by simp; exact not_or.1 h)]
    simp
theorem refRB_l0 (s : ByteArray) (hs : s.size ≤ 140737488355328) : ∀ (l : Bytes) (k i : Nat), (bs s).drop i = l → i ≤ s.size → l.length < k → bulletinref20_RightBoundary.l0 k s (i : Int) = some (l.all bndB && (!decide (bs s = []) && decide ((bs s).length ≤ 70)))
  | [], k, i, hd, hi, hk => by
    obtain ⟨k, rfl⟩ : ∃ j, k = j + 1 := ⟨k - 1, by simp at hk; omega⟩
    have := drop_nil hd
    rw [bs_length] at this
    rw [bulletinref20_RightBoundary.l0, if_neg (by omega)]
    by_cases h : bs s = []
    · have hz : s.size = 0 := by rw [← bs_length, h]; rfl
      rw [if_neg (by omega)]; simp [h]
    · have hz : s.size ≠ 0 := fun e => h (List.eq_nil_of_length_eq_zero (by rw [bs_length]; exact e))
      rw [if_pos (by omega), bs_length]
      have : decide ((s.size : Int) ≤ 70) = decide (s.size ≤ 70) := by rw [decide_eq_decide]; omega
      rw [this]; simp [h]
  | c :: l, k, i, hd, hi, hk => by
    obtain ⟨k, rfl⟩ : ∃ j, k = j + 1 := ⟨k - 1, by simp at hk; omega⟩
    obtain ⟨h1, h2, h3, h4⟩ := drop_cons hd
    rw [bs_length] at h1
    simp only [List.length_cons] at hk
    rw [bulletinref20_RightBoundary.l0, if_pos (by omega), if_pos (by omega), bt_drop hd]
    by_cases h5 : (c.toNat : Int) < 33
    · have : bndB c = false := by unfold bndB; rw [decide_eq_false (by omega)]; rfl
      rw [if_pos h5, List.all_cons, this]; rfl
    · rw [if_neg h5]
      by_cases h6 : (c.toNat : Int) > 126
      · have : bndB c = false := by unfold bndB; rw [decide_eq_false (show ¬ c.toNat ≤ 126 by omega), Bool.and_false]
        rw [if_pos h6, List.all_cons, this]; rfl
      · have : bndB c = true := by unfold bndB; rw [decide_eq_true (by omega), decide_eq_true (by omega)]; rfl
        rw [if_neg h6, wrap_succ i (by omega), refRB_l0 s hs l k (i + 1) h3 (by omega) (by omega), List.all_cons, this]; rfl
theorem refRB_is (s : ByteArray) (hs : s.size ≤ 140737488355328) (k : Nat) (hk : s.size < k) : bulletinref20_RightBoundary.f k s = some (rightBd (bs s)) := by
  unfold bulletinref20_RightBoundary.f rightBd
  exact refRB_l0 s hs (bs s) k 0 rfl (Nat.zero_le _) (by rw [bs_length]; exact hk)

/-! the document's Split -/
theorem join_one (x : ByteArray) : join [x] crlfB = x := by
  unfold join
  simp only [List.map_cons, List.map_nil]
  rw [Lib.join_one]
  exact str_toList x
end Go.Proofs.YtoikneogdbdplaaDoor.Pl
set_option linter.unusedVariables false
set_option linter.unusedSimpArgs false
namespace Go.Proofs.YtoikneogdbdplaaDoor.Pl
open Go.RowKit Go.Proofs.YtoikneogdbdplaaDoorW.PrintWords Go.Proofs.YtoikneogdbdplaaDoor.Fn

/-! Layer 20: joined and cut. -/
theorem consHead_app (c : UInt8) (l r : List Bytes) (h : l ≠ []) : consHead c (l ++ r) = consHead c l ++ r := by
  cases l with
  | nil => exact absurd rfl h
  | cons w t => rfl
theorem linesB_crlf (b : Bytes) : linesB (13 :: 10 :: b) = [] :: linesB b := by rw [linesB, if_pos ⟨rfl, rfl⟩]
theorem linesB_two (c d : UInt8) (l : Bytes) (h : ¬(c = 13 ∧ d = 10)) : linesB (c :: d :: l) = consHead c (linesB (d :: l)) := by rw [linesB, if_neg h]
theorem linesB_app : ∀ a b : Bytes, linesB (a ++ 13 :: 10 :: b) = linesB a ++ linesB b
  | [], b => linesB_crlf b
  | [c], b => by
    show linesB (c :: 13 :: 10 :: b) = [[c]] ++ linesB b
    rw [linesB_two c 13 _ (fun h => absurd h.2 (by decide)), linesB_crlf]
    rfl
  | c :: d :: l, b => by
    show linesB (c :: d :: (l ++ 13 :: 10 :: b)) = linesB (c :: d :: l) ++ linesB b
    by_cases h : c = 13 ∧ d = 10
    · obtain ⟨rfl, rfl⟩ := h
      rw [linesB_crlf, linesB_crlf, linesB_app l b, List.cons_append]
    · rw [linesB_two c d _ h, linesB_two c d _ h, ← consHead_app _ _ _ (linesB_ne _), ← linesB_app (d :: l) b]
      rfl
theorem linesB_plain : ∀ l : Bytes, (∀ c ∈ l, c ≠ 13) → linesB l = [l]
  | [], _ => rfl
  | [c], _ => rfl
  | c :: d :: l, h => by
    rw [linesB, if_neg (fun q => h c (by simp) q.1), linesB_plain (d :: l) (fun x hx => h x (by simp [hx]))]
    rfl
theorem joinB_cons (sep a b : Bytes) (l : List Bytes) : Lib.join (a :: b :: l) sep = a ++ (sep ++ Lib.join (b :: l) sep) := by simp [Lib.join, List.intercalate]
theorem joinB_head (sep : Bytes) (c : UInt8) : ∀ l : List Bytes, l ≠ [] → Lib.join (consHead c l) sep = c :: Lib.join l sep
  | [], h => absurd rfl h
  | [a], _ => by show Lib.join [c :: a] sep = _; rw [Lib.join_one, Lib.join_one]
  | a :: b :: l, _ => by show Lib.join ((c :: a) :: b :: l) sep = _; rw [joinB_cons, joinB_cons, List.cons_append]
theorem join_lines : ∀ p : Bytes, Lib.join (linesB p) [13, 10] = p
  | [] => by show Lib.join [[]] [13, 10] = []; rw [Lib.join_one]
  | [c] => by show Lib.join [[c]] [13, 10] = [c]; rw [Lib.join_one]
  | c :: d :: l => by
    rw [linesB]
    by_cases h : c = 13 ∧ d = 10
    · rw [if_pos h]
      have ih := join_lines l
      have hne := linesB_ne l
      cases hl : linesB l with
      | nil => exact absurd hl hne
      | cons a t => rw [joinB_cons, ← hl, ih, h.1, h.2]; rfl
    · rw [if_neg h, joinB_head _ _ _ (linesB_ne _), join_lines (d :: l)]
theorem join_linesL (p : ByteArray) : join (linesL p) crlfB = p := by
  unfold join
  rw [linesL_is, List.map_map]
  have : ((fun x : ByteArray => x.data.toList) ∘ str) = id := funext bs_str
  rw [this, List.map_id]
  show str (Lib.join (linesB (bs p)) [13, 10]) = p
  rw [join_lines, str_bs]
theorem mrun_app (b : ByteArray) : ∀ (l r : List ByteArray) (s : MS), mrun b (l ++ r) s = match mrun b l s with
    | .inl t => mrun b r t
    | .inr q => .inr q
  | [], r, s => by rw [List.nil_append, mrun]
  | x :: l, r, s => by
    rw [List.cons_append, mrun, mrun]
    cases mstep b s x with
    | inl t => exact mrun_app b l r t
    | inr q => rfl
theorem mrun_free (b : ByteArray) : ∀ (l : List ByteArray) (s : MS), l.all (freeX b) = true → mrun b l s = .inl (s.1, s.2.1 ++ l, s.2.2)
  | [], s, _ => by rw [mrun, List.append_nil]
  | x :: l, s, h => by
    rw [List.all_cons, Bool.and_eq_true] at h
    rw [mrun]
    have e : mstep b s x = .inl (s.1, s.2.1 ++ [x], s.2.2) := by
      unfold mstep
      rw [if_pos (freeX_is h.1)]
    rw [e]
    show mrun b l _ = _
    rw [mrun_free b l _ h.2]
    simp
theorem right_last {b : Bytes} (h : rightBd b = true) : ∃ i c, b = i ++ [c] ∧ ¬(c = 32 ∨ c = 9) := by
  unfold rightBd at h
  rw [Bool.and_eq_true, Bool.and_eq_true, Bool.not_eq_true', decide_eq_false_iff_not] at h
  obtain ⟨h1, h2, _⟩ := h
  rcases List.eq_nil_or_concat b with rfl | ⟨i, c, rfl⟩
  · exact absurd rfl h2
  · refine ⟨i, c, by simp, ?_⟩
    have := List.all_eq_true.1 h1 c (by simp)
    unfold bndB at this
    rw [Bool.and_eq_true, decide_eq_true_iff] at this
    rintro (rfl | rfl)
    · exact absurd this.1 (by decide)
    · exact absurd this.1 (by decide)
theorem right_cr {b : Bytes} (h : rightBd b = true) : ∀ c ∈ b, c ≠ 13 := by
  unfold rightBd at h
  rw [Bool.and_eq_true] at h
  rintro c hc rfl
  have := List.all_eq_true.1 h.1 13 hc
  exact absurd this (by decide)
def sepL (b : Bytes) : Bytes := 45 :: 45 :: b
def endL (b : Bytes) : Bytes := 45 :: 45 :: (b ++ [45, 45])
theorem sep_trim {b : Bytes} (h : rightBd b = true) : Lib.trimRightS (sepL b) [32, 9] = sepL b := by
  obtain ⟨i, c, rfl, hc⟩ := right_last h
  have := trim_snoc (45 :: 45 :: i) c
  rw [if_neg hc] at this
  exact this
theorem end_trim (b : Bytes) : Lib.trimRightS (endL b) [32, 9] = endL b := by
  have := trim_snoc (45 :: 45 :: (b ++ [45])) 45
  rw [if_neg (by decide)] at this
  have e : endL b = (45 :: 45 :: (b ++ [45])) ++ [45] := by unfold endL; simp
  rw [e]
  exact this
theorem sep_P {b : ByteArray} (h : rightBd (bs b) = true) : whatP (str (sepL (bs b))) b = true := by
  unfold whatP trimR
  rw [bs_str, sep_trim h]
  exact beq_self_eq_true _
theorem ne_len {a b : Bytes} (h : a.length ≠ b.length) : (a == b) = false := by
  rw [beq_eq_false_iff_ne]
  rintro rfl
  exact h rfl
theorem sep_C {b : ByteArray} (h : rightBd (bs b) = true) : whatC (str (sepL (bs b))) b = false := by
  unfold whatC trimR
  rw [bs_str, sep_trim h]
  exact ne_len (by unfold sepL; simp)
theorem end_C (b : ByteArray) : whatC (str (endL (bs b))) b = true := by
  unfold whatC trimR
  rw [bs_str, end_trim]
  exact beq_self_eq_true _
def cutsP (b : ByteArray) (l : List ByteArray) : List ByteArray := l.flatMap fun p => str (sepL (bs b)) :: linesL p
theorem mrun_parts (b : ByteArray) (h : rightBd (bs b) = true) (tail : List ByteArray) : ∀ (l : List ByteArray) (s : MS), freeL b l = true → (mout s).length + l.length ≤ 20 → (s.2.2 = true ∨ l ≠ []) →
    mrun b (cutsP b l ++ str (endL (bs b)) :: tail) s = .inr (mout s ++ l, 0)
  | [], s, _, _, hb => by
    have hb : s.2.2 = true := hb.resolve_right (fun h => h rfl)
    show mrun b (str (endL (bs b)) :: tail) s = _
    rw [mrun]
    have e : mstep b s (str (endL (bs b))) = .inr (mout s, 0) := by
      unfold mstep
      rw [if_neg (by rw [end_C]; exact fun q => absurd q.2 (by decide)), if_pos (end_C b), if_pos hb]
    rw [e, List.append_nil]
  | p :: l, s, hf, hl, _ => by
    rw [freeL, List.all_cons, Bool.and_eq_true] at hf
    simp only [List.length_cons] at hl
    have e : mstep b s (str (sepL (bs b))) = .inl (mout s, [], true) := by
      unfold mstep
      rw [if_neg (by rw [sep_P h]; exact fun q => absurd q.1 (by decide)), if_neg (by rw [sep_C h]; decide), if_neg (by omega)]
    have ec : cutsP b (p :: l) ++ str (endL (bs b)) :: tail = str (sepL (bs b)) :: (linesL p ++ (cutsP b l ++ str (endL (bs b)) :: tail)) := by
      unfold cutsP
      simp
    rw [ec, mrun, e]
    show mrun b (linesL p ++ _) _ = _
    rw [mrun_app, mrun_free b _ _ hf.1]
    show mrun b _ (mout s, [] ++ linesL p, true) = _
    have em : mout (mout s, [] ++ linesL p, true) = mout s ++ [p] := by
      rw [List.nil_append]
      conv => lhs; unfold mout
      rw [if_pos rfl, join_linesL]
      rfl
    rw [mrun_parts b h tail l _ hf.2 (by rw [em]; simp; omega) (.inl rfl), em]
    simp
theorem lines_sep {b : Bytes} (h : rightBd b = true) : linesB (sepL b) = [sepL b] := linesB_plain _ (by
  intro c hc
  unfold sepL at hc
  simp only [List.mem_cons] at hc
  rcases hc with rfl | rfl | hc
  · decide
  · decide
  · exact right_cr h c hc)
theorem lines_end {b : Bytes} (h : rightBd b = true) : linesB (endL b) = [endL b] := linesB_plain _ (by
  intro c hc
  unfold endL at hc
  simp only [List.mem_cons, List.mem_append, List.not_mem_nil, or_false] at hc
  rcases hc with rfl | rfl | hc | rfl | rfl
  · decide
  · decide
  · exact right_cr h c hc
  · decide
  · decide)
theorem lines_joined {b : Bytes} (h : rightBd b = true) (z : Bytes) : ∀ l : List Bytes, linesB (joinL b l ++ z) = (l.flatMap fun p => sepL b :: linesB p) ++ endL b :: linesB z
  | [] => by
    have e : joinL b [] ++ z = endL b ++ 13 :: 10 :: z := by unfold joinL partsL endL; simp
    rw [e, linesB_app, lines_end h]
    rfl
  | p :: l => by
    have e : joinL b (p :: l) ++ z = sepL b ++ 13 :: 10 :: (p ++ 13 :: 10 :: (joinL b l ++ z)) := by
      unfold joinL partsL partL sepL
      simp
    rw [e, linesB_app, linesB_app, lines_sep h, lines_joined h z l]
    simp
theorem linesL_joined {b : ByteArray} (h : rightBd (bs b) = true) (l : List ByteArray) (a z : ByteArray) : linesL (str (bs a ++ 13 :: 10 :: (joinL (bs b) (l.map bs) ++ bs z))) = linesL a ++ (cutsP b l ++ str (endL (bs b)) :: linesL z) := by
  rw [linesL_is, linesL_is, linesL_is, bs_str, linesB_app, lines_joined h, List.map_append, List.map_append, List.map_cons]
  congr 2
  unfold cutsP
  rw [List.flatMap_map, List.map_flatMap]
  congr 1
  funext p
  rw [List.map_cons, linesL_is]
theorem split_joined {b : ByteArray} (h : rightBd (bs b) = true) (l : List ByteArray) (hl : l.length ≤ 20) (hn : l ≠ []) (hf : freeL b l = true) (a z : ByteArray) (ha : freeP b a = true) :
    mimeSplit (str (bs a ++ 13 :: 10 :: (joinL (bs b) (l.map bs) ++ bs z))) b = (l, 0) := by
  unfold mimeSplit splitR
  rw [if_pos h, linesL_joined h, mrun_app, mrun_free b _ _ ha]
  show (match mrun b _ ([], [] ++ linesL a, false) with | .inr r => r | .inl s => _) = _
  rw [mrun_parts b h _ l _ hf (by show 0 + _ ≤ 20; omega) (.inr hn)]
  rfl
end Go.Proofs.YtoikneogdbdplaaDoor.Pl
set_option linter.unusedVariables false
namespace Go.Proofs.YtoikneogdbdplaaDoor.Pl
open Go.RowKit Go.Proofs.YtoikneogdbdplaaDoorW.PrintWords Go.Proofs.YtoikneogdbdplaaDoor.Fn
set_option maxRecDepth 100000 in
theorem works20_at : bulletinlaw20_works.f 300 = some true := by decide +kernel
theorem works20 (k : Nat) (hk : 300 ≤ k) : bulletinlaw20_works.f k = some true := mono_up bulletinlaw20_works.mono works20_at k hk
theorem mimesplit_is (body b : ByteArray) (h1 : body.size ≤ 1000000) (h2 : b.size ≤ 1000000) : mime_Split.f body b = some (mimeSplit body b) := by
  unfold mime_Split.f
  rw [if_pos h1, if_pos h2]
theorem sameTexts_l0 (l : List ByteArray) (hl : l.length ≤ 1000000000) : ∀ (n i k : Nat), i + n = l.length → n < k → bulletinbook_SameTexts.l0 k l l true (i : Int) = some true
  | 0, i, k, hi, hk => by
    obtain ⟨k, rfl⟩ : ∃ j, k = j + 1 := ⟨k - 1, by omega⟩
    rw [bulletinbook_SameTexts.l0, if_pos rfl, if_neg (by omega)]
  | n + 1, i, k, hi, hk => by
    obtain ⟨k, rfl⟩ : ∃ j, k = j + 1 := ⟨k - 1, by omega⟩
    rw [bulletinbook_SameTexts.l0, if_pos rfl, if_pos (by omega), if_pos (by omega), if_pos (by omega), wrap_succ i (by omega), beq_self_eq_true]
    exact sameTexts_l0 l hl n (i + 1) k (by omega) (by omega)
theorem sameTexts_is (l : List ByteArray) (hl : l.length ≤ 1000000000) (k : Nat) (hk : l.length < k) : bulletinbook_SameTexts.f k l l = some true := by
  unfold bulletinbook_SameTexts.f
  rw [beq_self_eq_true]
  exact sameTexts_l0 l hl l.length 0 k (by omega) hk
end Go.Proofs.YtoikneogdbdplaaDoor.Pl
namespace Go.Proofs.YtoikneogdbdplaaDoor.Fn
open Go.RowKit Go.Proofs.YtoikneogdbdplaaDoorW.PrintWords Go.Proofs.YtoikneogdbdplaaDoorW.PrintLast Go.Proofs.YtoikneogdbdplaaDoorW.PrintMore
attribute [local go_sem] max2_int min2_int max_two min_two max_three min_three max_four min_four
set_option linter.unusedVariables false
set_option linter.unusedSimpArgs false

/-! ### bulletinref20_Join: function 48 -/
end Go.Proofs.YtoikneogdbdplaaDoor.Fn
set_option linter.unusedVariables false
namespace Go.Proofs.YtoikneogdbdplaaDoor.Pl
open Go.RowKit Go.Proofs.YtoikneogdbdplaaDoorW.PrintWords Go.Proofs.YtoikneogdbdplaaDoor.Fn

end Go.Proofs.YtoikneogdbdplaaDoor.Pl
set_option linter.unusedVariables false
namespace Go.Proofs.YtoikneogdbdplaaDoor.Pl
open Go.RowKit Go.Proofs.YtoikneogdbdplaaDoorW.PrintWords Go.Proofs.YtoikneogdbdplaaDoor.Fn

theorem mimeJoin_is (l : List ByteArray) (b : ByteArray) (hl : l.length ≤ 1000000) (hb : b.size ≤ 1000000) (hx : ∀ x ∈ l, x.size ≤ 1000000) : mime_Join.f l b = some (str (joinL (bs b) (l.map bs))) := by
  unfold mime_Join.f
  rw [if_pos hl, if_pos hb, if_pos (List.all_eq_true.2 fun x h => decide_eq_true (hx x h))]
end Go.Proofs.YtoikneogdbdplaaDoor.Pl
set_option linter.unusedVariables false
set_option linter.unusedSimpArgs false
namespace Go.Proofs.YtoikneogdbdplaaDoor.Pl
open Go.RowKit Go.Proofs.YtoikneogdbdplaaDoorW.PrintWords Go.Proofs.YtoikneogdbdplaaDoor.Fn

/-! bulletinbook.Light -/
def lightB (l : List ByteArray) (m e : Nat) : Bool := decide (l.length ≤ m) && l.all (fun x => decide (x.size ≤ e))
theorem light_l0 (l : List ByteArray) (m e : Nat) (hm : m ≤ 1000000) : ∀ (d i k : Nat), i + d = m + 1 → 2 * d + 1 < k → (∀ x ∈ l.take i, x.size ≤ e) → bulletinbook_Light.l0 k l (m : Int) (e : Int) (i : Int) = some (lightB l m e) := by
  intro d
  induction d with
  | zero =>
    intro i k hi hk h
    obtain ⟨k, rfl⟩ : ∃ j, k = j + 1 + 1 := ⟨k - 2, by omega⟩
    rw [bulletinbook_Light.l0]
    have hj : ∀ b, b = false → bulletinbook_Light.j1 (k + 1) l (m : Int) (e : Int) (i : Int) b = some (lightB l m e) := by
      rintro b rfl
      rw [bulletinbook_Light.j1, if_neg (by decide)]
      unfold lightB
      congr 1
      by_cases hl : l.length ≤ m
      · have : l.take i = l := List.take_of_length_le (by omega)
        rw [this] at h
        rw [decide_eq_true (by omega), decide_eq_true hl, List.all_eq_true.2 (fun x hx => decide_eq_true (h x hx))]
        rfl
      · rw [decide_eq_false (by omega), decide_eq_false hl]
        rfl
    by_cases hl : (i : Int) < (l.length : Int)
    · rw [if_pos hl, hj _ (decide_eq_false (by omega))]
    · rw [if_neg hl, hj _ rfl]
  | succ d ih =>
    intro i k hi hk h
    obtain ⟨k, rfl⟩ : ∃ j, k = j + 1 + 1 := ⟨k - 2, by omega⟩
    rw [bulletinbook_Light.l0]
    by_cases hl : i < l.length
    · rw [if_pos (by omega), decide_eq_true (show (i : Int) ≤ (m : Int) by omega), bulletinbook_Light.j1, if_pos rfl, if_pos (by omega), if_pos (by omega)]
      have hr : rdOf ByteArray.empty l (i : Int) = l[i] := by
        unfold rdOf
        rw [Int.toNat_natCast, List.getD_eq_getElem?_getD, List.getElem?_eq_getElem hl]; rfl
      rw [hr]
      by_cases hs : l[i].size ≤ e
      · rw [if_neg (by omega), wrap_succ i (by omega)]
        refine ih (i + 1) k (by omega) (by omega) fun x hx => ?_
        rw [List.take_succ_eq_append_getElem hl, List.mem_append, List.mem_singleton] at hx
        rcases hx with hx | rfl
        · exact h x hx
        · exact hs
      · rw [if_pos (by omega)]
        have : l.all (fun x => decide (x.size ≤ e)) = false := by
          rw [List.all_eq_false]
          exact ⟨l[i], List.getElem_mem hl, by simpa using hs⟩
        unfold lightB
        rw [this, Bool.and_false]
    · rw [if_neg (by omega), bulletinbook_Light.j1, if_neg (by decide)]
      have : l.take i = l := List.take_of_length_le (by omega)
      rw [this] at h
      unfold lightB
      rw [List.all_eq_true.2 (fun x hx => decide_eq_true (h x hx)), Bool.and_true]
      congr 1
      rw [decide_eq_decide]
      omega
theorem light_is (l : List ByteArray) (m e : Nat) (hm : m ≤ 1000000) (k : Nat) (hk : 2 * m + 4 ≤ k) : bulletinbook_Light.f k l (m : Int) (e : Int) = some (lightB l m e) :=
  light_l0 l m e hm (m + 1) 0 k (by omega) (by omega) (fun x hx => by simp at hx)
theorem lightB_true {l : List ByteArray} {m e : Nat} (h : lightB l m e = true) : l.length ≤ m ∧ ∀ x ∈ l, x.size ≤ e := by
  unfold lightB at h
  rw [Bool.and_eq_true, decide_eq_true_iff] at h
  exact ⟨h.1, fun x hx => of_decide_eq_true (List.all_eq_true.1 h.2 x hx)⟩
end Go.Proofs.YtoikneogdbdplaaDoor.Pl
set_option linter.unusedVariables false
set_option linter.unusedSimpArgs false
namespace Go.Proofs.YtoikneogdbdplaaDoor.Pl
open Go.RowKit Go.Proofs.YtoikneogdbdplaaDoorW.PrintWords Go.Proofs.YtoikneogdbdplaaDoor.Fn

theorem mimeFree_is (l : List ByteArray) (b : ByteArray) (hl : l.length ≤ 1000000) (hb : b.size ≤ 1000000) (hx : ∀ x ∈ l, x.size ≤ 1000000) : mime_Free.f l b = some (freeL b l) := by
  unfold mime_Free.f
  rw [if_pos hl, if_pos hb, if_pos (List.all_eq_true.2 fun x h => decide_eq_true (hx x h))]
theorem rightBd_len {l : Bytes} (h : rightBd l = true) : l.length ≤ 70 := by
  unfold rightBd at h
  rw [Bool.and_eq_true, Bool.and_eq_true, decide_eq_true_iff] at h
  exact h.2.2
theorem joined_len (b : Bytes) (l : List ByteArray) (hb : b.length ≤ 70) (hl : l.length ≤ 20) (hx : ∀ x ∈ l, x.size ≤ 500) : (joinL b (l.map bs)).length ≤ 12000 := by
  have h1 := partsL_le b 500 (l.map bs) (fun y hy => by
    obtain ⟨x, h, rfl⟩ := List.mem_map.1 hy
    rw [bs_length]; exact hx x h)
  rw [List.length_map] at h1
  have h2 : l.length * (b.length + 500 + 6) ≤ 20 * 576 := Nat.mul_le_mul hl (by omega)
  unfold joinL
  simp only [List.length_append, List.length_cons, List.length_nil]
  omega
theorem MimeBack (a0 : List ByteArray) (a1 a2 : ByteArray) (hs : a1.size ≤ 140737488355328) : ∃ k, bulletinlaw20_MimeBack.f k a0 a1 a2 = some true := by
  refine ⟨1000 + a1.size + 1, ?_⟩
  generalize hk : 1000 + a1.size = k
  have yes : bulletinlaw20_MimeBack.j0 (k + 1) a0 a1 a2 true = some true := by rw [bulletinlaw20_MimeBack.j0, if_pos rfl]
  have hlt := light_is a0 20 500 (by omega) (k + 1) (by omega)
  rw [show ((20 : Nat) : Int) = 20 from rfl, show ((500 : Nat) : Int) = 500 from rfl] at hlt
  unfold bulletinlaw20_MimeBack.f
  rw [works20 (k + 1) (by omega), Option.bind_some, if_pos rfl, hlt, Option.bind_some]
  cases hB : lightB a0 20 500 with
  | false => rw [if_neg (by decide), yes]
  | true =>
    obtain ⟨hl, hx⟩ := lightB_true hB
    rw [if_pos rfl]
    by_cases h0 : (a0.length : Int) = 0
    · rw [if_pos h0, yes]
    rw [if_neg h0]
    by_cases h2 : (a2.size : Int) > 500
    · rw [if_pos h2, yes]
    rw [if_neg h2, refRB_is a1 hs (k + 1) (by omega), Option.bind_some]
    cases hR : rightBd (bs a1) with
    | false => rw [if_neg (by decide), yes]
    | true =>
      have hb := rightBd_len hR
      rw [bs_length] at hb
      rw [if_pos rfl, mimeFree_is a0 a1 (by omega) (by omega) (fun x h => by have := hx x h; omega), Option.bind_some]
      cases hF : freeL a1 a0 with
      | false => rw [if_neg (by decide), yes]
      | true =>
        rw [if_pos rfl, mimeFree_is [a2] a1 (by simp) (by omega) (fun x h => by
          rw [List.mem_singleton] at h
          subst h
          omega), Option.bind_some]
        cases hA : freeL a1 [a2] with
        | false => rw [Bool.not_false, yes]
        | true =>
          have hA : freeP a1 a2 = true := by
            unfold freeL at hA
            simpa using hA
          have hj := joined_len (bs a1) a0 (by rw [bs_length]; exact hb) hl hx
          have z2 : (⟨#[13, 10]⟩ : ByteArray).size = 2 := rfl
          have e : ((a2 ++ (⟨#[13, 10]⟩ : ByteArray)) ++ str (joinL (bs a1) (a0.map bs))) ++ a2 = str (bs a2 ++ 13 :: 10 :: (joinL (bs a1) (a0.map bs) ++ bs a2)) := by
            apply bs_inj
            rw [bs_app, bs_app, bs_app, bs_str, bs_str]
            show bs a2 ++ [13, 10] ++ _ ++ bs a2 = _
            simp
          have hz : (str (joinL (bs a1) (a0.map bs))).size ≤ 12000 := by rw [str_size]; exact hj
          have hz2 : (str (bs a2 ++ 13 :: 10 :: (joinL (bs a1) (a0.map bs) ++ bs a2))).size ≤ 1000000 := by
            rw [str_size]
            simp only [List.length_append, List.length_cons, bs_length]
            omega
          rw [Bool.not_true, bulletinlaw20_MimeBack.j0, if_neg (by decide), if_pos (by omega), mimeJoin_is a0 a1 (by omega) (by omega) (fun x h => by have := hx x h; omega), Option.bind_some,
            if_pos (by rw [ByteArray.size_append, z2]; omega), if_pos (by rw [ByteArray.size_append, ByteArray.size_append, z2]; omega), e, mimesplit_is _ _ hz2 (by omega), Option.bind_some,
            split_joined hR a0 hl (fun q => h0 (by rw [q]; rfl)) hF a2 a2 hA]
          rw [if_pos rfl]
          show (bulletinbook_SameTexts.f k a0 a0).bind _ = _
          rw [sameTexts_is a0 (by omega) k (by omega)]
          rfl
end Go.Proofs.YtoikneogdbdplaaDoor.Pl
set_option linter.unusedVariables false
namespace Go.Proofs.YtoikneogdbdplaaDoor.Fn
open Go.RowKit Go.ChangeShapes Go.WideShapes Go.Proofs.YtoikneogdbdplaaDoorW.PrintWords

/-! A slice of texts that came in. -/
set_option maxRecDepth 100000 in
theorem open_texts {H : Type} {enc : TypeId × Value → H} {w W : World} {base base' : Nat} {spare : Nat → Bool} {held : Bool} {re : Reach} {v : Value} {d : DataW H} {ps : List MemPlace}
    (hv : Value.okWide Tryd.prog W re base' 32 v) (h : DataW.Trod enc Tryd.prog w base spare held 32 v d ps) :
    ∃ (A : Option Addr) (c : Nat) (l : List ByteArray), v = .slice A l.length c ∧ l.length ≤ c ∧ c ≤ maxLen ∧ Kd.C Kd.string w A l.length l := by
  obtain ⟨a, len, cap, rfl⟩ := okWide_slice Tryd.underlying32 hv
  obtain ⟨fuel, h⟩ := h
  have h' : DataW.trod enc Tryd.prog w base spare held fuel 32 [Value.slice a len cap] = some (d, ps) := h
  rcases open_strings Tryd.underlying32 Tryd.underlying9 (by kernel_rfl) h' with ⟨h0, _⟩ | ⟨a', len', cap', ss, h0, _, hl, hm, hlen, _, hc, _⟩
  · refine ⟨none, 0, [], ?_, Nat.le_refl _, Nat.zero_le _, ?_⟩
    · simpa using h0
    · exact ⟨rfl, by simp, fun h => absurd h (by simp)⟩
  · have hll : len' ≤ ss.length := by rw [hlen]; split <;> omega
    have hlt : (ss.take len').length = len' := by rw [List.length_take]; omega
    refine ⟨some a', cap', ss.take len', ?_, by rw [hlt]; exact hl, hm, ?_⟩
    · rw [hlt]; simpa using h0
    · rw [hlt]
      refine ⟨hlt, by unfold maxLen at hm; omega, fun _ => ⟨a', rfl, fun j p hp => ?_⟩⟩
      have hj : j < len' := by
        have := (List.getElem?_eq_some_iff.1 hp).1
        rwa [hlt] at this
      have hp' : p = ss.getD j ByteArray.empty := by
        rw [List.getElem?_take_of_lt hj] at hp
        rw [List.getD_eq_getElem?_getD, hp]
        rfl
      subst hp'
      refine ⟨[.string (ss.getD j ByteArray.empty)], rfl, rfl, fun i u hu => ?_⟩
      match i, hu with
      | 0, hu => obtain rfl := Option.some.inj hu; have hz : Kd.string.sz = 1 := rfl; simpa [Addr.add, hz] using hc j (by omega)
      | i + 1, hu => simp at hu
end Go.Proofs.YtoikneogdbdplaaDoor.Fn
