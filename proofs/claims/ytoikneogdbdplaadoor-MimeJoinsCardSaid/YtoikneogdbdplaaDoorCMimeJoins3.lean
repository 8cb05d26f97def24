/- A part of the proof of this sentence: the tables of unicode/utf8, of math/bits and of internal/strconv are as the program's text lays them. -/
import Derived.Test.YtoikneogdbdplaaDoorCMimeJoins2
import Derived.Lib.ItoaMem
import Derived.RangeFuncRecord
import Derived.Shelf.Strings.SlTrimAscii
import Derived.Deep.QuietTactic
import Derived.BigQuiet
import Derived.Shelf.Strings.IndexAnyAll
import Derived.SliceStrings
import Derived.ProofKit
import Derived.OpenShut
namespace Go.Proofs.YtoikneogdbdplaaDoor.Fn
open Go.RowKit Go.Proofs.YtoikneogdbdplaaDoorW.PrintWords Go.Proofs.YtoikneogdbdplaaDoorW.PrintLast Go.Proofs.YtoikneogdbdplaaDoorW.PrintMore
attribute [local go_sem] max2_int min2_int max_two min_two max_three min_three max_four min_four
set_option linter.unusedVariables false
set_option linter.unusedSimpArgs false

/-! ### bulletinlaw20_works: function 26 -/
def bulletinlaw20_works.f (k : Nat)  : Option (Bool) := (mime_ReadType.f k (⟨#[84, 101, 120, 116, 47, 80, 108, 97, 105, 110, 59, 32, 67, 104, 97, 114, 115, 101, 116, 61, 34, 120, 32, 121, 34]⟩ : ByteArray)).bind fun bt398 => ((mime_Type_Value.f k bt398.1 bt398.2.1 (⟨#[67, 72, 65, 82, 83, 69, 84]⟩ : ByteArray)).bind fun bt404 => ((mime_Split.f (⟨#[45, 45, 98, 13, 10, 120, 13, 10, 45, 45, 98, 45, 45, 13, 10]⟩ : ByteArray) (⟨#[98]⟩ : ByteArray)).bind fun bt406 => (if bt398.2.2 = 0 then (if bt398.1.toList = ([116, 101, 120, 116, 47, 112, 108, 97, 105, 110] : List UInt8) then (if bt404.1.toList = ([120, 32, 121] : List UInt8) then (if bt404.2 = true then ((mime_Type_Text.f k bt398.1 bt398.2.1).bind fun t410 => (if t410.toList = ([116, 101, 120, 116, 47, 112, 108, 97, 105, 110, 59, 32, 99, 104, 97, 114, 115, 101, 116, 61, 34, 120, 32, 121, 34] : List UInt8) then (if bt406.2 = 0 then (if (bt406.1.length : Int) = 1 then (if 0 < (bt406.1.length : Int) then (some ((rdOf ByteArray.empty bt406.1 0).toList == ([120] : List UInt8))) else (none)) else (some false)) else (some false)) else (some false))) else (some false)) else (some false)) else (some false)) else (some false))))
theorem bulletinlaw20_works.mono : ∀ k, LeO (bulletinlaw20_works.f k ) (bulletinlaw20_works.f (k + 1) ) := by
 intro  k
 unfold bulletinlaw20_works.f
 repeat' first
   | (with_reducible exact mime_ReadType.mono _ _)
   | (with_reducible exact mime_Type_Text.mono _ _ _)
   | (with_reducible exact mime_Type_Value.mono _ _ _ _)
   | (with_reducible exact LeO.refl _)
   | (with_reducible exact LeO.none _)
   | (with_reducible refine LeO.ite ?_ ?_)
   | (with_reducible refine LeO.bind ?_ (fun _ => ?_))
   | exact mime_ReadType.mono _ _
   | exact mime_Type_Text.mono _ _ _
   | exact mime_Type_Value.mono _ _ _ _
   | exact LeO.none _
   | refine LeO.ite ?_ ?_
   | refine LeO.bind ?_ (fun _ => ?_)
set_option maxHeartbeats 8000000 in
set_option maxRecDepth 100000 in
theorem bulletinlaw20_works.calls (k : Nat)  (r : Bool) (w : World) (hG : Glob w) (h : bulletinlaw20_works.f k  = some r) :
  Calls Tryd.prog 26 #[] w fun e w' => e = .returned (.bool r) ∧ Below w.heap.size w w' := by
 have hu51 := Tryd.underlying51
 have HB := Aside0.mk (Below.refl w.heap.size w)
 have H : ((mime_ReadType.f k (⟨#[84, 101, 120, 116, 47, 80, 108, 97, 105, 110, 59, 32, 67, 104, 97, 114, 115, 101, 116, 61, 34, 120, 32, 121, 34]⟩ : ByteArray)).bind fun bt398 => ((mime_Type_Value.f k bt398.1 bt398.2.1 (⟨#[67, 72, 65, 82, 83, 69, 84]⟩ : ByteArray)).bind fun bt404 => ((mime_Split.f (⟨#[45, 45, 98, 13, 10, 120, 13, 10, 45, 45, 98, 45, 45, 13, 10]⟩ : ByteArray) (⟨#[98]⟩ : ByteArray)).bind fun bt406 => (if bt398.2.2 = 0 then (if bt398.1.toList = ([116, 101, 120, 116, 47, 112, 108, 97, 105, 110] : List UInt8) then (if bt404.1.toList = ([120, 32, 121] : List UInt8) then (if bt404.2 = true then ((mime_Type_Text.f k bt398.1 bt398.2.1).bind fun t410 => (if t410.toList = ([116, 101, 120, 116, 47, 112, 108, 97, 105, 110, 59, 32, 99, 104, 97, 114, 115, 101, 116, 61, 34, 120, 32, 121, 34] : List UInt8) then (if bt406.2 = 0 then (if (bt406.1.length : Int) = 1 then (if 0 < (bt406.1.length : Int) then (some ((rdOf ByteArray.empty bt406.1 0).toList == ([120] : List UInt8))) else (none)) else (some false)) else (some false)) else (some false))) else (some false)) else (some false)) else (some false)) else (some false))))) = some r := h
 clear h
 replace H := Option.bind_eq_some_iff.mp H
 obtain ⟨⟨t398, t399, t402⟩, A10, H⟩ := H
 replace H : ((mime_Type_Value.f k t398 t399 (⟨#[67, 72, 65, 82, 83, 69, 84]⟩ : ByteArray)).bind fun bt404 => ((mime_Split.f (⟨#[45, 45, 98, 13, 10, 120, 13, 10, 45, 45, 98, 45, 45, 13, 10]⟩ : ByteArray) (⟨#[98]⟩ : ByteArray)).bind fun bt406 => (if t402 = 0 then (if t398.toList = ([116, 101, 120, 116, 47, 112, 108, 97, 105, 110] : List UInt8) then (if bt404.1.toList = ([120, 32, 121] : List UInt8) then (if bt404.2 = true then ((mime_Type_Text.f k t398 t399).bind fun t410 => (if t410.toList = ([116, 101, 120, 116, 47, 112, 108, 97, 105, 110, 59, 32, 99, 104, 97, 114, 115, 101, 116, 61, 34, 120, 32, 121, 34] : List UInt8) then (if bt406.2 = 0 then (if (bt406.1.length : Int) = 1 then (if 0 < (bt406.1.length : Int) then (some ((rdOf ByteArray.empty bt406.1 0).toList == ([120] : List UInt8))) else (none)) else (some false)) else (some false)) else (some false))) else (some false)) else (some false)) else (some false)) else (some false)))) = some r := H
 have A1 := Aside0.mk A10
 clear A10
 replace H := Option.bind_eq_some_iff.mp H
 obtain ⟨⟨t404, t405⟩, A20, H⟩ := H
 replace H : ((mime_Split.f (⟨#[45, 45, 98, 13, 10, 120, 13, 10, 45, 45, 98, 45, 45, 13, 10]⟩ : ByteArray) (⟨#[98]⟩ : ByteArray)).bind fun bt406 => (if t402 = 0 then (if t398.toList = ([116, 101, 120, 116, 47, 112, 108, 97, 105, 110] : List UInt8) then (if t404.toList = ([120, 32, 121] : List UInt8) then (if t405 = true then ((mime_Type_Text.f k t398 t399).bind fun t410 => (if t410.toList = ([116, 101, 120, 116, 47, 112, 108, 97, 105, 110, 59, 32, 99, 104, 97, 114, 115, 101, 116, 61, 34, 120, 32, 121, 34] : List UInt8) then (if bt406.2 = 0 then (if (bt406.1.length : Int) = 1 then (if 0 < (bt406.1.length : Int) then (some ((rdOf ByteArray.empty bt406.1 0).toList == ([120] : List UInt8))) else (none)) else (some false)) else (some false)) else (some false))) else (some false)) else (some false)) else (some false)) else (some false))) = some r := H
 have A2 := Aside0.mk A20
 clear A20
 replace H := Option.bind_eq_some_iff.mp H
 obtain ⟨⟨t406, t407⟩, A30, H⟩ := H
 replace H : (if t402 = 0 then (if t398.toList = ([116, 101, 120, 116, 47, 112, 108, 97, 105, 110] : List UInt8) then (if t404.toList = ([120, 32, 121] : List UInt8) then (if t405 = true then ((mime_Type_Text.f k t398 t399).bind fun t410 => (if t410.toList = ([116, 101, 120, 116, 47, 112, 108, 97, 105, 110, 59, 32, 99, 104, 97, 114, 115, 101, 116, 61, 34, 120, 32, 121, 34] : List UInt8) then (if t407 = 0 then (if (t406.length : Int) = 1 then (if 0 < (t406.length : Int) then (some ((rdOf ByteArray.empty t406 0).toList == ([120] : List UInt8))) else (none)) else (some false)) else (some false)) else (some false))) else (some false)) else (some false)) else (some false)) else (some false)) = some r := H
 have A3 := Aside0.mk A30
 clear A30
 by_cases c4 : t402 = 0
 ·rw [if_pos c4] at H
  have c4b0 : (t402 == 0) = true := beq_iff_eq.mpr c4
  have c4b1 : (t402 != 0) = false := bne_eq_false_iff_eq.mpr c4
  clear c4
  by_cases c5 : t398.toList = ([116, 101, 120, 116, 47, 112, 108, 97, 105, 110] : List UInt8)
  ·rw [if_pos c5] at H
   have c5b0 : (t398.toList == ([116, 101, 120, 116, 47, 112, 108, 97, 105, 110] : List UInt8)) = true := beq_iff_eq.mpr c5
   have c5b1 : (t398.toList != ([116, 101, 120, 116, 47, 112, 108, 97, 105, 110] : List UInt8)) = false := bne_eq_false_iff_eq.mpr c5
   clear c5
   by_cases c6 : t404.toList = ([120, 32, 121] : List UInt8)
   ·rw [if_pos c6] at H
    have c6b0 : (t404.toList == ([120, 32, 121] : List UInt8)) = true := beq_iff_eq.mpr c6
    have c6b1 : (t404.toList != ([120, 32, 121] : List UInt8)) = false := bne_eq_false_iff_eq.mpr c6
    clear c6
    by_cases c7 : t405 = true
    ·subst c7
     have H1 : ((mime_Type_Text.f k t398 t399).bind fun t410 => (if t410.toList = ([116, 101, 120, 116, 47, 112, 108, 97, 105, 110, 59, 32, 99, 104, 97, 114, 115, 101, 116, 61, 34, 120, 32, 121, 34] : List UInt8) then (if t407 = 0 then (if (t406.length : Int) = 1 then (if 0 < (t406.length : Int) then (some ((rdOf ByteArray.empty t406 0).toList == ([120] : List UInt8))) else (none)) else (some false)) else (some false)) else (some false))) = some r := by rw [if_pos rfl] at H; exact H
     clear H
     have H := H1
     clear H1
     replace H := Option.bind_eq_some_iff.mp H
     obtain ⟨t410, A80, H⟩ := H
     replace H : (if t410.toList = ([116, 101, 120, 116, 47, 112, 108, 97, 105, 110, 59, 32, 99, 104, 97, 114, 115, 101, 116, 61, 34, 120, 32, 121, 34] : List UInt8) then (if t407 = 0 then (if (t406.length : Int) = 1 then (if 0 < (t406.length : Int) then (some ((rdOf ByteArray.empty t406 0).toList == ([120] : List UInt8))) else (none)) else (some false)) else (some false)) else (some false)) = some r := H
     have A8 := Aside0.mk A80
     clear A80
     by_cases c9 : t410.toList = ([116, 101, 120, 116, 47, 112, 108, 97, 105, 110, 59, 32, 99, 104, 97, 114, 115, 101, 116, 61, 34, 120, 32, 121, 34] : List UInt8)
     ·rw [if_pos c9] at H
      have c9b0 : (t410.toList == ([116, 101, 120, 116, 47, 112, 108, 97, 105, 110, 59, 32, 99, 104, 97, 114, 115, 101, 116, 61, 34, 120, 32, 121, 34] : List UInt8)) = true := beq_iff_eq.mpr c9
      have c9b1 : (t410.toList != ([116, 101, 120, 116, 47, 112, 108, 97, 105, 110, 59, 32, 99, 104, 97, 114, 115, 101, 116, 61, 34, 120, 32, 121, 34] : List UInt8)) = false := bne_eq_false_iff_eq.mpr c9
      clear c9
      by_cases c10 : t407 = 0
      ·rw [if_pos c10] at H
       have c10b0 : (t407 == 0) = true := beq_iff_eq.mpr c10
       have c10b1 : (t407 != 0) = false := bne_eq_false_iff_eq.mpr c10
       clear c10
       by_cases c11 : (t406.length : Int) = 1
       ·rw [if_pos c11] at H
        have c11b0 : ((t406.length : Int) == 1) = true := beq_iff_eq.mpr c11
        have c11b1 : ((t406.length : Int) != 1) = false := bne_eq_false_iff_eq.mpr c11
        clear c11
        by_cases c12 : 0 < (t406.length : Int)
        ·rw [if_pos c12] at H
         have c12b0 : decide (0 < (t406.length : Int)) = true := decide_eq_true c12
         have c12b1 : decide (0 < t406.length) = true := decide_eq_true (by omega)
         clear c12
         obtain rfl := Option.some.inj H
         go_enter Tryd.func26, Tryd.ntmps26
         go_wp2_with (first | ((with_reducible refine gate_callee (f := 27) rfl ?_); refine goesL_ (some 8) rfl rfl Tryd.func27 (by kernel_rfl) rfl #[.string (⟨#[84, 101, 120, 116, 47, 80, 108, 97, 105, 110, 59, 32, 67, 104, 97, 114, 115, 101, 116, 61, 34, 120, 32, 121, 34]⟩ : ByteArray)] rfl am ?_; (with_reducible refine (mime_ReadType.calls (hG := by first | exact hG | exact Glob.below hG (by first | exact HB.out | (repeat (first | (with_reducible first | exact HB.out | apply below_alloc | apply pw_below_drewN | apply below_drew1 | refine below_set ?_ GE403.out) | exact HB.out))) | exact Glob.drawn hG (by repeat (first | exact Drawn0.refl _ | apply Drawn0.step))) k (⟨#[84, 101, 120, 116, 47, 80, 108, 97, 105, 110, 59, 32, 67, 104, 97, 114, 115, 101, 116, 61, 34, 120, 32, 121, 34]⟩ : ByteArray) t398 t399 t402 _ A1.out).mono ?_); rintro e w13 ⟨v400, rfl, ho0, hb⟩; refine ⟨_, rfl, ?_⟩; have n0_ := Aside0.mk (Kd.R_lower ho0 (below_size bw)); have n1_ := Aside0.mk (below_step bw hb); clear HB; have HO401 := n0_; have HB := n1_; clear n0_ n1_; (try clear hb); (try clear hb2); (try clear hk); (try clear hi); (try clear ho0)) | ((with_reducible refine gate_dst (N := 1) rfl ?_); (try (refine gate_guard (by rfl) ?_; dsimp only)); refine box_event ?hg (N := 1) ?hd (cs := #[.string (⟨#[]⟩ : ByteArray), .slice none 0 0]) (t := 51) ?hr ?_; (case hd => rfl); (case hg => rfl); (case hr => first | (go_simp; done) | (go_simp; rfl)); intro gb403 hg w14 hbox hb; have n0_ := Aside0.mk (Kd.R_below (by (with_reducible repeat (first | apply Kd.R_alloc | apply Kd.R_drewN | apply Kd.R_drew)); exact HO401.out) hb); have n1_ := Aside0.mk (below_step bw hb); have n2_ := Aside0.mk (hbox); have n3_ := Aside0.mk ((by rw [hg]; exact (below_size bw) : w.heap.size ≤ gb403)); have n4_ := Aside0.mk ((by rw [hg]; exact (below_size bw) : w.heap.size ≤ gb403)); clear HO401; clear HB; have HO401 := n0_; have HB := n1_; have BK403 := n2_; have GW403 := n3_; have GE403 := n4_; clear n0_ n1_ n2_ n3_ n4_; clear hb hbox hg; have hcz15_0 : w14.cell? ⟨gb403, 0, none⟩ = some (.string (⟨#[]⟩ : ByteArray)) := (blk_cell BK403.out 0).trans rfl; have hcz15_1 : w14.cell? ⟨gb403, 1, none⟩ = some (.slice none 0 0) := (blk_cell BK403.out 1).trans rfl; have hfz15_0 := blk_frozen BK403.out 0; have hfz15_1 := blk_frozen BK403.out 1; obtain ⟨Ao16, co16, eo16⟩ := Kd.R_slice HO401.out; subst eo16) | ((with_reducible refine gate_callee (f := 31) rfl ?_); refine goesL_ (some 13) rfl rfl Tryd.func31 (by kernel_rfl) rfl #[.agg #[.string t398, .slice Ao16 t399.length co16], .string (⟨#[67, 72, 65, 82, 83, 69, 84]⟩ : ByteArray)] rfl am ?_; (with_reducible refine (mime_Type_Value.calls k t398 _ _ t399 (⟨#[67, 72, 65, 82, 83, 69, 84]⟩ : ByteArray) t404 true _ ?side1 ?side2 A2.out).mono ?_); (case side1 => refine (Kd.R_reads' (e := 104) (base := w.heap.size) (ok := fun k_ => True) (n := t399.length) (c := co16) ?_).2.2; exact (by (with_reducible repeat (first | apply Kd.R_alloc | apply Kd.R_drewN | apply Kd.R_drew)); exact (Kd.R_mono (Kd.R_far (p := ⟨gb403, 1, none⟩) (Kd.R_far (p := ⟨gb403, 0, none⟩) (Kd.R_types HO401.out BK403.out (by decide)) (fun _ hk => hk.2) (.string t398)) (fun _ hk => hk.2) (.slice Ao16 t399.length co16)) (fun _ h_ => h_.1)))); (case side2 => exact (Kd.R_reads' HO401.out).2.1); rintro e w17 ⟨rfl, hb⟩; refine ⟨_, rfl, ?_⟩; have n0_ := Aside0.mk (Kd.R_below (by (with_reducible repeat (first | apply Kd.R_alloc | apply Kd.R_drewN | apply Kd.R_drew)); exact (Kd.R_mono (Kd.R_far (p := ⟨gb403, 1, none⟩) (Kd.R_far (p := ⟨gb403, 0, none⟩) (Kd.R_types HO401.out BK403.out (by decide)) (fun _ hk => hk.2) (.string t398)) (fun _ hk => hk.2) (.slice Ao16 t399.length co16)) (fun _ h_ => h_.1))) hb); have n1_ := Aside0.mk (blk_below (g := gb403) (o := .cells #[.string t398, .slice Ao16 t399.length co16] 51 (0, 0)) (by (with_reducible repeat (first | refine blk_drewN ?_ _ | refine blk_drew ?_ | refine blk_alloc ?_ _)); refine blk_put (cs := #[.string t398, .slice none 0 0]) ?_ 1 _ rfl; (with_reducible repeat (first | refine blk_drewN ?_ _ | refine blk_drew ?_ | refine blk_alloc ?_ _)); refine blk_put (cs := #[.string (⟨#[]⟩ : ByteArray), .slice none 0 0]) ?_ 0 _ rfl; (with_reducible repeat (first | refine blk_drewN ?_ _ | refine blk_drew ?_ | refine blk_alloc ?_ _)); exact BK403.out) hb); have n2_ := Aside0.mk (below_step bwS hb); clear HO401; clear BK403; clear HB; have HO401 := n0_; have BK403 := n1_; have HB := n2_; clear n0_ n1_ n2_; (try clear hb); (try clear hb2); (try clear hk); (try clear hi)) | ((with_reducible refine gate_callee (f := 38) rfl ?_); refine goesL_ (some 17) rfl rfl Tryd.func38 (by kernel_rfl) rfl #[.string (⟨#[45, 45, 98, 13, 10, 120, 13, 10, 45, 45, 98, 45, 45, 13, 10]⟩ : ByteArray), .string (⟨#[98]⟩ : ByteArray)] rfl am ?_; (with_reducible refine (mime_Split.calls (hG := by first | exact hG | exact Glob.below hG (by first | exact HB.out | (repeat (first | (with_reducible first | exact HB.out | apply below_alloc | apply pw_below_drewN | apply below_drew1 | refine below_set ?_ GE403.out) | exact HB.out))) | exact Glob.drawn hG (by repeat (first | exact Drawn0.refl _ | apply Drawn0.step))) (⟨#[45, 45, 98, 13, 10, 120, 13, 10, 45, 45, 98, 45, 45, 13, 10]⟩ : ByteArray) (⟨#[98]⟩ : ByteArray) t406 t407 _ A3.out).mono ?_); rintro e w18 ⟨v408, rfl, ho0, hb⟩; refine ⟨_, rfl, ?_⟩; have n0_ := Aside0.mk (Kd.R_below (by (with_reducible repeat (first | apply Kd.R_alloc | apply Kd.R_drewN | apply Kd.R_drew)); exact HO401.out) hb); have n1_ := Aside0.mk (Kd.R_lower ho0 (below_size bwS)); have n2_ := Aside0.mk (blk_below (g := gb403) (o := .cells #[.string t398, .slice Ao16 t399.length co16] 51 (0, 0)) bk hb); have n3_ := Aside0.mk (below_step bwS hb); clear HO401; clear BK403; clear HB; have HO401 := n0_; have HO409 := n1_; have BK403 := n2_; have HB := n3_; clear n0_ n1_ n2_ n3_; (try clear hb); (try clear hb2); (try clear hk); (try clear hi); (try clear ho0); have hcz19_0 : w18.cell? ⟨gb403, 0, none⟩ = some (.string t398) := (blk_cell BK403.out 0).trans rfl; have hcz19_1 : w18.cell? ⟨gb403, 1, none⟩ = some (.slice Ao16 t399.length co16) := (blk_cell BK403.out 1).trans rfl; have hfz19_0 := blk_frozen BK403.out 0; have hfz19_1 := blk_frozen BK403.out 1) | (go_at_call 33; (with_reducible refine (mime_Type_Text.calls (hG := by first | exact hG | exact Glob.below hG (by first | exact HB.out | (repeat (first | (with_reducible first | exact HB.out | apply below_alloc | apply pw_below_drewN | apply below_drew1 | refine below_set ?_ GE403.out) | exact HB.out))) | exact Glob.drawn hG (by repeat (first | exact Drawn0.refl _ | apply Drawn0.step))) k t398 _ _ t399 t410 _ ?side1 ?side2 A8.out).mono ?_); (case side1 => repeat (first | exact (Kd.R_reads' HO401.out).2.2 | (with_reducible refine Kd.C_alloc ?_ _) | (with_reducible refine Kd.C_drewN ?_ _) | (with_reducible refine Kd.C_drew ?_))); (case side2 => exact (Kd.R_reads' HO401.out).2.1); rintro e w20 ⟨rfl, hb⟩; have n0_ := Aside0.mk (Kd.R_below (by (with_reducible repeat (first | apply Kd.R_alloc | apply Kd.R_drewN | apply Kd.R_drew)); exact HO401.out) hb); have n1_ := Aside0.mk (Kd.R_below (by (with_reducible repeat (first | apply Kd.R_alloc | apply Kd.R_drewN | apply Kd.R_drew)); exact HO409.out) hb); have n2_ := Aside0.mk (blk_below (g := gb403) (o := .cells #[.string t398, .slice Ao16 t399.length co16] 51 (0, 0)) bk hb); have n3_ := Aside0.mk (below_step bwS hb); clear HO401; clear HO409; clear BK403; clear HB; have HO401 := n0_; have HO409 := n1_; have BK403 := n2_; have HB := n3_; clear n0_ n1_ n2_ n3_; (try clear hb); (try clear hb2); (try clear hk); (try clear hi); obtain ⟨Ao21, co21, eo21⟩ := Kd.R_slice HO409.out; subst eo21; have p411 : 0 ≤ (0 : Int) := (by omega); have q411 : 0 < (t406.length : Int) := od; obtain ⟨ad411, e411, hx411_0⟩ := Kd.at_string (Kd.R_reads' HO409.out).2.2 0 p411 q411; cases e411; have qi411 : (0 < t406.length) = True := eq_true (by omega); (try rw [show ((0 : Int)).toNat = 0 from rfl] at hx411_0); (try rw [Addr.add_zero'] at hx411_0); replace p411 := eq_true p411; replace q411 := eq_true q411))
         go_ret
         exact ⟨by first | rfl | (simp [errW_none, errW_some] <;> rfl) | (simp [*, errW_none, errW_some] <;> rfl), bwS⟩
        ·rw [if_neg c12] at H
         exact absurd H (by simp)
       ·rw [if_neg c11] at H
        have c11b0 : ((t406.length : Int) == 1) = false := beq_eq_false_iff_ne.mpr c11
        have c11b1 : ((t406.length : Int) != 1) = true := bne_iff_ne.mpr c11
        obtain rfl := Option.some.inj H
        go_enter Tryd.func26, Tryd.ntmps26
        go_wp2_with (first | ((with_reducible refine gate_callee (f := 27) rfl ?_); refine goesL_ (some 8) rfl rfl Tryd.func27 (by kernel_rfl) rfl #[.string (⟨#[84, 101, 120, 116, 47, 80, 108, 97, 105, 110, 59, 32, 67, 104, 97, 114, 115, 101, 116, 61, 34, 120, 32, 121, 34]⟩ : ByteArray)] rfl am ?_; (with_reducible refine (mime_ReadType.calls (hG := by first | exact hG | exact Glob.below hG (by first | exact HB.out | (repeat (first | (with_reducible first | exact HB.out | apply below_alloc | apply pw_below_drewN | apply below_drew1 | refine below_set ?_ GE403.out) | exact HB.out))) | exact Glob.drawn hG (by repeat (first | exact Drawn0.refl _ | apply Drawn0.step))) k (⟨#[84, 101, 120, 116, 47, 80, 108, 97, 105, 110, 59, 32, 67, 104, 97, 114, 115, 101, 116, 61, 34, 120, 32, 121, 34]⟩ : ByteArray) t398 t399 t402 _ A1.out).mono ?_); rintro e w22 ⟨v400, rfl, ho0, hb⟩; refine ⟨_, rfl, ?_⟩; have n0_ := Aside0.mk (Kd.R_lower ho0 (below_size bw)); have n1_ := Aside0.mk (below_step bw hb); clear HB; have HO401 := n0_; have HB := n1_; clear n0_ n1_; (try clear hb); (try clear hb2); (try clear hk); (try clear hi); (try clear ho0)) | ((with_reducible refine gate_dst (N := 1) rfl ?_); (try (refine gate_guard (by rfl) ?_; dsimp only)); refine box_event ?hg (N := 1) ?hd (cs := #[.string (⟨#[]⟩ : ByteArray), .slice none 0 0]) (t := 51) ?hr ?_; (case hd => rfl); (case hg => rfl); (case hr => first | (go_simp; done) | (go_simp; rfl)); intro gb403 hg w23 hbox hb; have n0_ := Aside0.mk (Kd.R_below (by (with_reducible repeat (first | apply Kd.R_alloc | apply Kd.R_drewN | apply Kd.R_drew)); exact HO401.out) hb); have n1_ := Aside0.mk (below_step bw hb); have n2_ := Aside0.mk (hbox); have n3_ := Aside0.mk ((by rw [hg]; exact (below_size bw) : w.heap.size ≤ gb403)); have n4_ := Aside0.mk ((by rw [hg]; exact (below_size bw) : w.heap.size ≤ gb403)); clear HO401; clear HB; have HO401 := n0_; have HB := n1_; have BK403 := n2_; have GW403 := n3_; have GE403 := n4_; clear n0_ n1_ n2_ n3_ n4_; clear hb hbox hg; have hcz24_0 : w23.cell? ⟨gb403, 0, none⟩ = some (.string (⟨#[]⟩ : ByteArray)) := (blk_cell BK403.out 0).trans rfl; have hcz24_1 : w23.cell? ⟨gb403, 1, none⟩ = some (.slice none 0 0) := (blk_cell BK403.out 1).trans rfl; have hfz24_0 := blk_frozen BK403.out 0; have hfz24_1 := blk_frozen BK403.out 1; obtain ⟨Ao25, co25, eo25⟩ := Kd.R_slice HO401.out; subst eo25) | ((with_reducible refine gate_callee (f := 31) rfl ?_); refine goesL_ (some 13) rfl rfl Tryd.func31 (by kernel_rfl) rfl #[.agg #[.string t398, .slice Ao25 t399.length co25], .string (⟨#[67, 72, 65, 82, 83, 69, 84]⟩ : ByteArray)] rfl am ?_; (with_reducible refine (mime_Type_Value.calls k t398 _ _ t399 (⟨#[67, 72, 65, 82, 83, 69, 84]⟩ : ByteArray) t404 true _ ?side1 ?side2 A2.out).mono ?_); (case side1 => refine (Kd.R_reads' (e := 104) (base := w.heap.size) (ok := fun k_ => True) (n := t399.length) (c := co25) ?_).2.2; exact (by (with_reducible repeat (first | apply Kd.R_alloc | apply Kd.R_drewN | apply Kd.R_drew)); exact (Kd.R_mono (Kd.R_far (p := ⟨gb403, 1, none⟩) (Kd.R_far (p := ⟨gb403, 0, none⟩) (Kd.R_types HO401.out BK403.out (by decide)) (fun _ hk => hk.2) (.string t398)) (fun _ hk => hk.2) (.slice Ao25 t399.length co25)) (fun _ h_ => h_.1)))); (case side2 => exact (Kd.R_reads' HO401.out).2.1); rintro e w26 ⟨rfl, hb⟩; refine ⟨_, rfl, ?_⟩; have n0_ := Aside0.mk (Kd.R_below (by (with_reducible repeat (first | apply Kd.R_alloc | apply Kd.R_drewN | apply Kd.R_drew)); exact (Kd.R_mono (Kd.R_far (p := ⟨gb403, 1, none⟩) (Kd.R_far (p := ⟨gb403, 0, none⟩) (Kd.R_types HO401.out BK403.out (by decide)) (fun _ hk => hk.2) (.string t398)) (fun _ hk => hk.2) (.slice Ao25 t399.length co25)) (fun _ h_ => h_.1))) hb); have n1_ := Aside0.mk (blk_below (g := gb403) (o := .cells #[.string t398, .slice Ao25 t399.length co25] 51 (0, 0)) (by (with_reducible repeat (first | refine blk_drewN ?_ _ | refine blk_drew ?_ | refine blk_alloc ?_ _)); refine blk_put (cs := #[.string t398, .slice none 0 0]) ?_ 1 _ rfl; (with_reducible repeat (first | refine blk_drewN ?_ _ | refine blk_drew ?_ | refine blk_alloc ?_ _)); refine blk_put (cs := #[.string (⟨#[]⟩ : ByteArray), .slice none 0 0]) ?_ 0 _ rfl; (with_reducible repeat (first | refine blk_drewN ?_ _ | refine blk_drew ?_ | refine blk_alloc ?_ _)); exact BK403.out) hb); have n2_ := Aside0.mk (below_step bwS hb); clear HO401; clear BK403; clear HB; have HO401 := n0_; have BK403 := n1_; have HB := n2_; clear n0_ n1_ n2_; (try clear hb); (try clear hb2); (try clear hk); (try clear hi)) | ((with_reducible refine gate_callee (f := 38) rfl ?_); refine goesL_ (some 17) rfl rfl Tryd.func38 (by kernel_rfl) rfl #[.string (⟨#[45, 45, 98, 13, 10, 120, 13, 10, 45, 45, 98, 45, 45, 13, 10]⟩ : ByteArray), .string (⟨#[98]⟩ : ByteArray)] rfl am ?_; (with_reducible refine (mime_Split.calls (hG := by first | exact hG | exact Glob.below hG (by first | exact HB.out | (repeat (first | (with_reducible first | exact HB.out | apply below_alloc | apply pw_below_drewN | apply below_drew1 | refine below_set ?_ GE403.out) | exact HB.out))) | exact Glob.drawn hG (by repeat (first | exact Drawn0.refl _ | apply Drawn0.step))) (⟨#[45, 45, 98, 13, 10, 120, 13, 10, 45, 45, 98, 45, 45, 13, 10]⟩ : ByteArray) (⟨#[98]⟩ : ByteArray) t406 t407 _ A3.out).mono ?_); rintro e w27 ⟨v408, rfl, ho0, hb⟩; refine ⟨_, rfl, ?_⟩; have n0_ := Aside0.mk (Kd.R_below (by (with_reducible repeat (first | apply Kd.R_alloc | apply Kd.R_drewN | apply Kd.R_drew)); exact HO401.out) hb); have n1_ := Aside0.mk (Kd.R_lower ho0 (below_size bwS)); have n2_ := Aside0.mk (blk_below (g := gb403) (o := .cells #[.string t398, .slice Ao25 t399.length co25] 51 (0, 0)) bk hb); have n3_ := Aside0.mk (below_step bwS hb); clear HO401; clear BK403; clear HB; have HO401 := n0_; have HO409 := n1_; have BK403 := n2_; have HB := n3_; clear n0_ n1_ n2_ n3_; (try clear hb); (try clear hb2); (try clear hk); (try clear hi); (try clear ho0); have hcz28_0 : w27.cell? ⟨gb403, 0, none⟩ = some (.string t398) := (blk_cell BK403.out 0).trans rfl; have hcz28_1 : w27.cell? ⟨gb403, 1, none⟩ = some (.slice Ao25 t399.length co25) := (blk_cell BK403.out 1).trans rfl; have hfz28_0 := blk_frozen BK403.out 0; have hfz28_1 := blk_frozen BK403.out 1) | (go_at_call 33; (with_reducible refine (mime_Type_Text.calls (hG := by first | exact hG | exact Glob.below hG (by first | exact HB.out | (repeat (first | (with_reducible first | exact HB.out | apply below_alloc | apply pw_below_drewN | apply below_drew1 | refine below_set ?_ GE403.out) | exact HB.out))) | exact Glob.drawn hG (by repeat (first | exact Drawn0.refl _ | apply Drawn0.step))) k t398 _ _ t399 t410 _ ?side1 ?side2 A8.out).mono ?_); (case side1 => repeat (first | exact (Kd.R_reads' HO401.out).2.2 | (with_reducible refine Kd.C_alloc ?_ _) | (with_reducible refine Kd.C_drewN ?_ _) | (with_reducible refine Kd.C_drew ?_))); (case side2 => exact (Kd.R_reads' HO401.out).2.1); rintro e w29 ⟨rfl, hb⟩; have n0_ := Aside0.mk (Kd.R_below (by (with_reducible repeat (first | apply Kd.R_alloc | apply Kd.R_drewN | apply Kd.R_drew)); exact HO401.out) hb); have n1_ := Aside0.mk (Kd.R_below (by (with_reducible repeat (first | apply Kd.R_alloc | apply Kd.R_drewN | apply Kd.R_drew)); exact HO409.out) hb); have n2_ := Aside0.mk (blk_below (g := gb403) (o := .cells #[.string t398, .slice Ao25 t399.length co25] 51 (0, 0)) bk hb); have n3_ := Aside0.mk (below_step bwS hb); clear HO401; clear HO409; clear BK403; clear HB; have HO401 := n0_; have HO409 := n1_; have BK403 := n2_; have HB := n3_; clear n0_ n1_ n2_ n3_; (try clear hb); (try clear hb2); (try clear hk); (try clear hi); obtain ⟨Ao30, co30, eo30⟩ := Kd.R_slice HO409.out; subst eo30))
        go_ret
        exact ⟨by first | rfl | (simp [errW_none, errW_some] <;> rfl) | (simp [*, errW_none, errW_some] <;> rfl), bwS⟩
      ·rw [if_neg c10] at H
       have c10b0 : (t407 == 0) = false := beq_eq_false_iff_ne.mpr c10
       have c10b1 : (t407 != 0) = true := bne_iff_ne.mpr c10
       obtain rfl := Option.some.inj H
       go_enter Tryd.func26, Tryd.ntmps26
       go_wp2_with (first | ((with_reducible refine gate_callee (f := 27) rfl ?_); refine goesL_ (some 8) rfl rfl Tryd.func27 (by kernel_rfl) rfl #[.string (⟨#[84, 101, 120, 116, 47, 80, 108, 97, 105, 110, 59, 32, 67, 104, 97, 114, 115, 101, 116, 61, 34, 120, 32, 121, 34]⟩ : ByteArray)] rfl am ?_; (with_reducible refine (mime_ReadType.calls (hG := by first | exact hG | exact Glob.below hG (by first | exact HB.out | (repeat (first | (with_reducible first | exact HB.out | apply below_alloc | apply pw_below_drewN | apply below_drew1 | refine below_set ?_ GE403.out) | exact HB.out))) | exact Glob.drawn hG (by repeat (first | exact Drawn0.refl _ | apply Drawn0.step))) k (⟨#[84, 101, 120, 116, 47, 80, 108, 97, 105, 110, 59, 32, 67, 104, 97, 114, 115, 101, 116, 61, 34, 120, 32, 121, 34]⟩ : ByteArray) t398 t399 t402 _ A1.out).mono ?_); rintro e w31 ⟨v400, rfl, ho0, hb⟩; refine ⟨_, rfl, ?_⟩; have n0_ := Aside0.mk (Kd.R_lower ho0 (below_size bw)); have n1_ := Aside0.mk (below_step bw hb); clear HB; have HO401 := n0_; have HB := n1_; clear n0_ n1_; (try clear hb); (try clear hb2); (try clear hk); (try clear hi); (try clear ho0)) | ((with_reducible refine gate_dst (N := 1) rfl ?_); (try (refine gate_guard (by rfl) ?_; dsimp only)); refine box_event ?hg (N := 1) ?hd (cs := #[.string (⟨#[]⟩ : ByteArray), .slice none 0 0]) (t := 51) ?hr ?_; (case hd => rfl); (case hg => rfl); (case hr => first | (go_simp; done) | (go_simp; rfl)); intro gb403 hg w32 hbox hb; have n0_ := Aside0.mk (Kd.R_below (by (with_reducible repeat (first | apply Kd.R_alloc | apply Kd.R_drewN | apply Kd.R_drew)); exact HO401.out) hb); have n1_ := Aside0.mk (below_step bw hb); have n2_ := Aside0.mk (hbox); have n3_ := Aside0.mk ((by rw [hg]; exact (below_size bw) : w.heap.size ≤ gb403)); have n4_ := Aside0.mk ((by rw [hg]; exact (below_size bw) : w.heap.size ≤ gb403)); clear HO401; clear HB; have HO401 := n0_; have HB := n1_; have BK403 := n2_; have GW403 := n3_; have GE403 := n4_; clear n0_ n1_ n2_ n3_ n4_; clear hb hbox hg; have hcz33_0 : w32.cell? ⟨gb403, 0, none⟩ = some (.string (⟨#[]⟩ : ByteArray)) := (blk_cell BK403.out 0).trans rfl; have hcz33_1 : w32.cell? ⟨gb403, 1, none⟩ = some (.slice none 0 0) := (blk_cell BK403.out 1).trans rfl; have hfz33_0 := blk_frozen BK403.out 0; have hfz33_1 := blk_frozen BK403.out 1; obtain ⟨Ao34, co34, eo34⟩ := Kd.R_slice HO401.out; subst eo34) | ((with_reducible refine gate_callee (f := 31) rfl ?_); refine goesL_ (some 13) rfl rfl Tryd.func31 (by kernel_rfl) rfl #[.agg #[.string t398, .slice Ao34 t399.length co34], .string (⟨#[67, 72, 65, 82, 83, 69, 84]⟩ : ByteArray)] rfl am ?_; (with_reducible refine (mime_Type_Value.calls k t398 _ _ t399 (⟨#[67, 72, 65, 82, 83, 69, 84]⟩ : ByteArray) t404 true _ ?side1 ?side2 A2.out).mono ?_); (case side1 => refine (Kd.R_reads' (e := 104) (base := w.heap.size) (ok := fun k_ => True) (n := t399.length) (c := co34) ?_).2.2; exact (by (with_reducible repeat (first | apply Kd.R_alloc | apply Kd.R_drewN | apply Kd.R_drew)); exact (Kd.R_mono (Kd.R_far (p := ⟨gb403, 1, none⟩) (Kd.R_far (p := ⟨gb403, 0, none⟩) (Kd.R_types HO401.out BK403.out (by decide)) (fun _ hk => hk.2) (.string t398)) (fun _ hk => hk.2) (.slice Ao34 t399.length co34)) (fun _ h_ => h_.1)))); (case side2 => exact (Kd.R_reads' HO401.out).2.1); rintro e w35 ⟨rfl, hb⟩; refine ⟨_, rfl, ?_⟩; have n0_ := Aside0.mk (Kd.R_below (by (with_reducible repeat (first | apply Kd.R_alloc | apply Kd.R_drewN | apply Kd.R_drew)); exact (Kd.R_mono (Kd.R_far (p := ⟨gb403, 1, none⟩) (Kd.R_far (p := ⟨gb403, 0, none⟩) (Kd.R_types HO401.out BK403.out (by decide)) (fun _ hk => hk.2) (.string t398)) (fun _ hk => hk.2) (.slice Ao34 t399.length co34)) (fun _ h_ => h_.1))) hb); have n1_ := Aside0.mk (blk_below (g := gb403) (o := .cells #[.string t398, .slice Ao34 t399.length co34] 51 (0, 0)) (by (with_reducible repeat (first | refine blk_drewN ?_ _ | refine blk_drew ?_ | refine blk_alloc ?_ _)); refine blk_put (cs := #[.string t398, .slice none 0 0]) ?_ 1 _ rfl; (with_reducible repeat (first | refine blk_drewN ?_ _ | refine blk_drew ?_ | refine blk_alloc ?_ _)); refine blk_put (cs := #[.string (⟨#[]⟩ : ByteArray), .slice none 0 0]) ?_ 0 _ rfl; (with_reducible repeat (first | refine blk_drewN ?_ _ | refine blk_drew ?_ | refine blk_alloc ?_ _)); exact BK403.out) hb); have n2_ := Aside0.mk (below_step bwS hb); clear HO401; clear BK403; clear HB; have HO401 := n0_; have BK403 := n1_; have HB := n2_; clear n0_ n1_ n2_; (try clear hb); (try clear hb2); (try clear hk); (try clear hi)) | ((with_reducible refine gate_callee (f := 38) rfl ?_); refine goesL_ (some 17) rfl rfl Tryd.func38 (by kernel_rfl) rfl #[.string (⟨#[45, 45, 98, 13, 10, 120, 13, 10, 45, 45, 98, 45, 45, 13, 10]⟩ : ByteArray), .string (⟨#[98]⟩ : ByteArray)] rfl am ?_; (with_reducible refine (mime_Split.calls (hG := by first | exact hG | exact Glob.below hG (by first | exact HB.out | (repeat (first | (with_reducible first | exact HB.out | apply below_alloc | apply pw_below_drewN | apply below_drew1 | refine below_set ?_ GE403.out) | exact HB.out))) | exact Glob.drawn hG (by repeat (first | exact Drawn0.refl _ | apply Drawn0.step))) (⟨#[45, 45, 98, 13, 10, 120, 13, 10, 45, 45, 98, 45, 45, 13, 10]⟩ : ByteArray) (⟨#[98]⟩ : ByteArray) t406 t407 _ A3.out).mono ?_); rintro e w36 ⟨v408, rfl, ho0, hb⟩; refine ⟨_, rfl, ?_⟩; have n0_ := Aside0.mk (Kd.R_below (by (with_reducible repeat (first | apply Kd.R_alloc | apply Kd.R_drewN | apply Kd.R_drew)); exact HO401.out) hb); have n1_ := Aside0.mk (Kd.R_lower ho0 (below_size bwS)); have n2_ := Aside0.mk (blk_below (g := gb403) (o := .cells #[.string t398, .slice Ao34 t399.length co34] 51 (0, 0)) bk hb); have n3_ := Aside0.mk (below_step bwS hb); clear HO401; clear BK403; clear HB; have HO401 := n0_; have HO409 := n1_; have BK403 := n2_; have HB := n3_; clear n0_ n1_ n2_ n3_; (try clear hb); (try clear hb2); (try clear hk); (try clear hi); (try clear ho0); have hcz37_0 : w36.cell? ⟨gb403, 0, none⟩ = some (.string t398) := (blk_cell BK403.out 0).trans rfl; have hcz37_1 : w36.cell? ⟨gb403, 1, none⟩ = some (.slice Ao34 t399.length co34) := (blk_cell BK403.out 1).trans rfl; have hfz37_0 := blk_frozen BK403.out 0; have hfz37_1 := blk_frozen BK403.out 1) | (go_at_call 33; (with_reducible refine (mime_Type_Text.calls (hG := by first | exact hG | exact Glob.below hG (by first | exact HB.out | (repeat (first | (with_reducible first | exact HB.out | apply below_alloc | apply pw_below_drewN | apply below_drew1 | refine below_set ?_ GE403.out) | exact HB.out))) | exact Glob.drawn hG (by repeat (first | exact Drawn0.refl _ | apply Drawn0.step))) k t398 _ _ t399 t410 _ ?side1 ?side2 A8.out).mono ?_); (case side1 => repeat (first | exact (Kd.R_reads' HO401.out).2.2 | (with_reducible refine Kd.C_alloc ?_ _) | (with_reducible refine Kd.C_drewN ?_ _) | (with_reducible refine Kd.C_drew ?_))); (case side2 => exact (Kd.R_reads' HO401.out).2.1); rintro e w38 ⟨rfl, hb⟩; have n0_ := Aside0.mk (Kd.R_below (by (with_reducible repeat (first | apply Kd.R_alloc | apply Kd.R_drewN | apply Kd.R_drew)); exact HO401.out) hb); have n1_ := Aside0.mk (Kd.R_below (by (with_reducible repeat (first | apply Kd.R_alloc | apply Kd.R_drewN | apply Kd.R_drew)); exact HO409.out) hb); have n2_ := Aside0.mk (blk_below (g := gb403) (o := .cells #[.string t398, .slice Ao34 t399.length co34] 51 (0, 0)) bk hb); have n3_ := Aside0.mk (below_step bwS hb); clear HO401; clear HO409; clear BK403; clear HB; have HO401 := n0_; have HO409 := n1_; have BK403 := n2_; have HB := n3_; clear n0_ n1_ n2_ n3_; (try clear hb); (try clear hb2); (try clear hk); (try clear hi)))
       go_ret
       exact ⟨by first | rfl | (simp [errW_none, errW_some] <;> rfl) | (simp [*, errW_none, errW_some] <;> rfl), bwS⟩
     ·rw [if_neg c9] at H
      have c9b0 : (t410.toList == ([116, 101, 120, 116, 47, 112, 108, 97, 105, 110, 59, 32, 99, 104, 97, 114, 115, 101, 116, 61, 34, 120, 32, 121, 34] : List UInt8)) = false := beq_eq_false_iff_ne.mpr c9
      have c9b1 : (t410.toList != ([116, 101, 120, 116, 47, 112, 108, 97, 105, 110, 59, 32, 99, 104, 97, 114, 115, 101, 116, 61, 34, 120, 32, 121, 34] : List UInt8)) = true := bne_iff_ne.mpr c9
      obtain rfl := Option.some.inj H
      go_enter Tryd.func26, Tryd.ntmps26
      go_wp2_with (first | ((with_reducible refine gate_callee (f := 27) rfl ?_); refine goesL_ (some 8) rfl rfl Tryd.func27 (by kernel_rfl) rfl #[.string (⟨#[84, 101, 120, 116, 47, 80, 108, 97, 105, 110, 59, 32, 67, 104, 97, 114, 115, 101, 116, 61, 34, 120, 32, 121, 34]⟩ : ByteArray)] rfl am ?_; (with_reducible refine (mime_ReadType.calls (hG := by first | exact hG | exact Glob.below hG (by first | exact HB.out | (repeat (first | (with_reducible first | exact HB.out | apply below_alloc | apply pw_below_drewN | apply below_drew1 | refine below_set ?_ GE403.out) | exact HB.out))) | exact Glob.drawn hG (by repeat (first | exact Drawn0.refl _ | apply Drawn0.step))) k (⟨#[84, 101, 120, 116, 47, 80, 108, 97, 105, 110, 59, 32, 67, 104, 97, 114, 115, 101, 116, 61, 34, 120, 32, 121, 34]⟩ : ByteArray) t398 t399 t402 _ A1.out).mono ?_); rintro e w39 ⟨v400, rfl, ho0, hb⟩; refine ⟨_, rfl, ?_⟩; have n0_ := Aside0.mk (Kd.R_lower ho0 (below_size bw)); have n1_ := Aside0.mk (below_step bw hb); clear HB; have HO401 := n0_; have HB := n1_; clear n0_ n1_; (try clear hb); (try clear hb2); (try clear hk); (try clear hi); (try clear ho0)) | ((with_reducible refine gate_dst (N := 1) rfl ?_); (try (refine gate_guard (by rfl) ?_; dsimp only)); refine box_event ?hg (N := 1) ?hd (cs := #[.string (⟨#[]⟩ : ByteArray), .slice none 0 0]) (t := 51) ?hr ?_; (case hd => rfl); (case hg => rfl); (case hr => first | (go_simp; done) | (go_simp; rfl)); intro gb403 hg w40 hbox hb; have n0_ := Aside0.mk (Kd.R_below (by (with_reducible repeat (first | apply Kd.R_alloc | apply Kd.R_drewN | apply Kd.R_drew)); exact HO401.out) hb); have n1_ := Aside0.mk (below_step bw hb); have n2_ := Aside0.mk (hbox); have n3_ := Aside0.mk ((by rw [hg]; exact (below_size bw) : w.heap.size ≤ gb403)); have n4_ := Aside0.mk ((by rw [hg]; exact (below_size bw) : w.heap.size ≤ gb403)); clear HO401; clear HB; have HO401 := n0_; have HB := n1_; have BK403 := n2_; have GW403 := n3_; have GE403 := n4_; clear n0_ n1_ n2_ n3_ n4_; clear hb hbox hg; have hcz41_0 : w40.cell? ⟨gb403, 0, none⟩ = some (.string (⟨#[]⟩ : ByteArray)) := (blk_cell BK403.out 0).trans rfl; have hcz41_1 : w40.cell? ⟨gb403, 1, none⟩ = some (.slice none 0 0) := (blk_cell BK403.out 1).trans rfl; have hfz41_0 := blk_frozen BK403.out 0; have hfz41_1 := blk_frozen BK403.out 1; obtain ⟨Ao42, co42, eo42⟩ := Kd.R_slice HO401.out; subst eo42) | ((with_reducible refine gate_callee (f := 31) rfl ?_); refine goesL_ (some 13) rfl rfl Tryd.func31 (by kernel_rfl) rfl #[.agg #[.string t398, .slice Ao42 t399.length co42], .string (⟨#[67, 72, 65, 82, 83, 69, 84]⟩ : ByteArray)] rfl am ?_; (with_reducible refine (mime_Type_Value.calls k t398 _ _ t399 (⟨#[67, 72, 65, 82, 83, 69, 84]⟩ : ByteArray) t404 true _ ?side1 ?side2 A2.out).mono ?_); (case side1 => refine (Kd.R_reads' (e := 104) (base := w.heap.size) (ok := fun k_ => True) (n := t399.length) (c := co42) ?_).2.2; exact (by (with_reducible repeat (first | apply Kd.R_alloc | apply Kd.R_drewN | apply Kd.R_drew)); exact (Kd.R_mono (Kd.R_far (p := ⟨gb403, 1, none⟩) (Kd.R_far (p := ⟨gb403, 0, none⟩) (Kd.R_types HO401.out BK403.out (by decide)) (fun _ hk => hk.2) (.string t398)) (fun _ hk => hk.2) (.slice Ao42 t399.length co42)) (fun _ h_ => h_.1)))); (case side2 => exact (Kd.R_reads' HO401.out).2.1); rintro e w43 ⟨rfl, hb⟩; refine ⟨_, rfl, ?_⟩; have n0_ := Aside0.mk (Kd.R_below (by (with_reducible repeat (first | apply Kd.R_alloc | apply Kd.R_drewN | apply Kd.R_drew)); exact (Kd.R_mono (Kd.R_far (p := ⟨gb403, 1, none⟩) (Kd.R_far (p := ⟨gb403, 0, none⟩) (Kd.R_types HO401.out BK403.out (by decide)) (fun _ hk => hk.2) (.string t398)) (fun _ hk => hk.2) (.slice Ao42 t399.length co42)) (fun _ h_ => h_.1))) hb); have n1_ := Aside0.mk (blk_below (g := gb403) (o := .cells #[.string t398, .slice Ao42 t399.length co42] 51 (0, 0)) (by (with_reducible repeat (first | refine blk_drewN ?_ _ | refine blk_drew ?_ | refine blk_alloc ?_ _)); refine blk_put (cs := #[.string t398, .slice none 0 0]) ?_ 1 _ rfl; (with_reducible repeat (first | refine blk_drewN ?_ _ | refine blk_drew ?_ | refine blk_alloc ?_ _)); refine blk_put (cs := #[.string (⟨#[]⟩ : ByteArray), .slice none 0 0]) ?_ 0 _ rfl; (with_reducible repeat (first | refine blk_drewN ?_ _ | refine blk_drew ?_ | refine blk_alloc ?_ _)); exact BK403.out) hb); have n2_ := Aside0.mk (below_step bwS hb); clear HO401; clear BK403; clear HB; have HO401 := n0_; have BK403 := n1_; have HB := n2_; clear n0_ n1_ n2_; (try clear hb); (try clear hb2); (try clear hk); (try clear hi)) | ((with_reducible refine gate_callee (f := 38) rfl ?_); refine goesL_ (some 17) rfl rfl Tryd.func38 (by kernel_rfl) rfl #[.string (⟨#[45, 45, 98, 13, 10, 120, 13, 10, 45, 45, 98, 45, 45, 13, 10]⟩ : ByteArray), .string (⟨#[98]⟩ : ByteArray)] rfl am ?_; (with_reducible refine (mime_Split.calls (hG := by first | exact hG | exact Glob.below hG (by first | exact HB.out | (repeat (first | (with_reducible first | exact HB.out | apply below_alloc | apply pw_below_drewN | apply below_drew1 | refine below_set ?_ GE403.out) | exact HB.out))) | exact Glob.drawn hG (by repeat (first | exact Drawn0.refl _ | apply Drawn0.step))) (⟨#[45, 45, 98, 13, 10, 120, 13, 10, 45, 45, 98, 45, 45, 13, 10]⟩ : ByteArray) (⟨#[98]⟩ : ByteArray) t406 t407 _ A3.out).mono ?_); rintro e w44 ⟨v408, rfl, ho0, hb⟩; refine ⟨_, rfl, ?_⟩; have n0_ := Aside0.mk (Kd.R_below (by (with_reducible repeat (first | apply Kd.R_alloc | apply Kd.R_drewN | apply Kd.R_drew)); exact HO401.out) hb); have n1_ := Aside0.mk (Kd.R_lower ho0 (below_size bwS)); have n2_ := Aside0.mk (blk_below (g := gb403) (o := .cells #[.string t398, .slice Ao42 t399.length co42] 51 (0, 0)) bk hb); have n3_ := Aside0.mk (below_step bwS hb); clear HO401; clear BK403; clear HB; have HO401 := n0_; have HO409 := n1_; have BK403 := n2_; have HB := n3_; clear n0_ n1_ n2_ n3_; (try clear hb); (try clear hb2); (try clear hk); (try clear hi); (try clear ho0); have hcz45_0 : w44.cell? ⟨gb403, 0, none⟩ = some (.string t398) := (blk_cell BK403.out 0).trans rfl; have hcz45_1 : w44.cell? ⟨gb403, 1, none⟩ = some (.slice Ao42 t399.length co42) := (blk_cell BK403.out 1).trans rfl; have hfz45_0 := blk_frozen BK403.out 0; have hfz45_1 := blk_frozen BK403.out 1) | (go_at_call 33; (with_reducible refine (mime_Type_Text.calls (hG := by first | exact hG | exact Glob.below hG (by first | exact HB.out | (repeat (first | (with_reducible first | exact HB.out | apply below_alloc | apply pw_below_drewN | apply below_drew1 | refine below_set ?_ GE403.out) | exact HB.out))) | exact Glob.drawn hG (by repeat (first | exact Drawn0.refl _ | apply Drawn0.step))) k t398 _ _ t399 t410 _ ?side1 ?side2 A8.out).mono ?_); (case side1 => repeat (first | exact (Kd.R_reads' HO401.out).2.2 | (with_reducible refine Kd.C_alloc ?_ _) | (with_reducible refine Kd.C_drewN ?_ _) | (with_reducible refine Kd.C_drew ?_))); (case side2 => exact (Kd.R_reads' HO401.out).2.1); rintro e w46 ⟨rfl, hb⟩; have n0_ := Aside0.mk (Kd.R_below (by (with_reducible repeat (first | apply Kd.R_alloc | apply Kd.R_drewN | apply Kd.R_drew)); exact HO401.out) hb); have n1_ := Aside0.mk (Kd.R_below (by (with_reducible repeat (first | apply Kd.R_alloc | apply Kd.R_drewN | apply Kd.R_drew)); exact HO409.out) hb); have n2_ := Aside0.mk (blk_below (g := gb403) (o := .cells #[.string t398, .slice Ao42 t399.length co42] 51 (0, 0)) bk hb); have n3_ := Aside0.mk (below_step bwS hb); clear HO401; clear HO409; clear BK403; clear HB; have HO401 := n0_; have HO409 := n1_; have BK403 := n2_; have HB := n3_; clear n0_ n1_ n2_ n3_; (try clear hb); (try clear hb2); (try clear hk); (try clear hi)))
      go_ret
      exact ⟨by first | rfl | (simp [errW_none, errW_some] <;> rfl) | (simp [*, errW_none, errW_some] <;> rfl), bwS⟩
    ·replace c7 := Bool.eq_false_iff.mpr c7
     subst c7
     have H1 : (some false) = some r := by rw [if_neg (show ¬ (false = true) by decide)] at H; exact H
     clear H
     have H := H1
     clear H1
     obtain rfl := Option.some.inj H
     go_enter Tryd.func26, Tryd.ntmps26
     go_wp2_with (first | ((with_reducible refine gate_callee (f := 27) rfl ?_); refine goesL_ (some 8) rfl rfl Tryd.func27 (by kernel_rfl) rfl #[.string (⟨#[84, 101, 120, 116, 47, 80, 108, 97, 105, 110, 59, 32, 67, 104, 97, 114, 115, 101, 116, 61, 34, 120, 32, 121, 34]⟩ : ByteArray)] rfl am ?_; (with_reducible refine (mime_ReadType.calls (hG := by first | exact hG | exact Glob.below hG (by first | exact HB.out | (repeat (first | (with_reducible first | exact HB.out | apply below_alloc | apply pw_below_drewN | apply below_drew1 | refine below_set ?_ GE403.out) | exact HB.out))) | exact Glob.drawn hG (by repeat (first | exact Drawn0.refl _ | apply Drawn0.step))) k (⟨#[84, 101, 120, 116, 47, 80, 108, 97, 105, 110, 59, 32, 67, 104, 97, 114, 115, 101, 116, 61, 34, 120, 32, 121, 34]⟩ : ByteArray) t398 t399 t402 _ A1.out).mono ?_); rintro e w47 ⟨v400, rfl, ho0, hb⟩; refine ⟨_, rfl, ?_⟩; have n0_ := Aside0.mk (Kd.R_lower ho0 (below_size bw)); have n1_ := Aside0.mk (below_step bw hb); clear HB; have HO401 := n0_; have HB := n1_; clear n0_ n1_; (try clear hb); (try clear hb2); (try clear hk); (try clear hi); (try clear ho0)) | ((with_reducible refine gate_dst (N := 1) rfl ?_); (try (refine gate_guard (by rfl) ?_; dsimp only)); refine box_event ?hg (N := 1) ?hd (cs := #[.string (⟨#[]⟩ : ByteArray), .slice none 0 0]) (t := 51) ?hr ?_; (case hd => rfl); (case hg => rfl); (case hr => first | (go_simp; done) | (go_simp; rfl)); intro gb403 hg w48 hbox hb; have n0_ := Aside0.mk (Kd.R_below (by (with_reducible repeat (first | apply Kd.R_alloc | apply Kd.R_drewN | apply Kd.R_drew)); exact HO401.out) hb); have n1_ := Aside0.mk (below_step bw hb); have n2_ := Aside0.mk (hbox); have n3_ := Aside0.mk ((by rw [hg]; exact (below_size bw) : w.heap.size ≤ gb403)); have n4_ := Aside0.mk ((by rw [hg]; exact (below_size bw) : w.heap.size ≤ gb403)); clear HO401; clear HB; have HO401 := n0_; have HB := n1_; have BK403 := n2_; have GW403 := n3_; have GE403 := n4_; clear n0_ n1_ n2_ n3_ n4_; clear hb hbox hg; have hcz49_0 : w48.cell? ⟨gb403, 0, none⟩ = some (.string (⟨#[]⟩ : ByteArray)) := (blk_cell BK403.out 0).trans rfl; have hcz49_1 : w48.cell? ⟨gb403, 1, none⟩ = some (.slice none 0 0) := (blk_cell BK403.out 1).trans rfl; have hfz49_0 := blk_frozen BK403.out 0; have hfz49_1 := blk_frozen BK403.out 1; obtain ⟨Ao50, co50, eo50⟩ := Kd.R_slice HO401.out; subst eo50) | ((with_reducible refine gate_callee (f := 31) rfl ?_); refine goesL_ (some 13) rfl rfl Tryd.func31 (by kernel_rfl) rfl #[.agg #[.string t398, .slice Ao50 t399.length co50], .string (⟨#[67, 72, 65, 82, 83, 69, 84]⟩ : ByteArray)] rfl am ?_; (with_reducible refine (mime_Type_Value.calls k t398 _ _ t399 (⟨#[67, 72, 65, 82, 83, 69, 84]⟩ : ByteArray) t404 false _ ?side1 ?side2 A2.out).mono ?_); (case side1 => refine (Kd.R_reads' (e := 104) (base := w.heap.size) (ok := fun k_ => True) (n := t399.length) (c := co50) ?_).2.2; exact (by (with_reducible repeat (first | apply Kd.R_alloc | apply Kd.R_drewN | apply Kd.R_drew)); exact (Kd.R_mono (Kd.R_far (p := ⟨gb403, 1, none⟩) (Kd.R_far (p := ⟨gb403, 0, none⟩) (Kd.R_types HO401.out BK403.out (by decide)) (fun _ hk => hk.2) (.string t398)) (fun _ hk => hk.2) (.slice Ao50 t399.length co50)) (fun _ h_ => h_.1)))); (case side2 => exact (Kd.R_reads' HO401.out).2.1); rintro e w51 ⟨rfl, hb⟩; refine ⟨_, rfl, ?_⟩; have n0_ := Aside0.mk (Kd.R_below (by (with_reducible repeat (first | apply Kd.R_alloc | apply Kd.R_drewN | apply Kd.R_drew)); exact (Kd.R_mono (Kd.R_far (p := ⟨gb403, 1, none⟩) (Kd.R_far (p := ⟨gb403, 0, none⟩) (Kd.R_types HO401.out BK403.out (by decide)) (fun _ hk => hk.2) (.string t398)) (fun _ hk => hk.2) (.slice Ao50 t399.length co50)) (fun _ h_ => h_.1))) hb); have n1_ := Aside0.mk (blk_below (g := gb403) (o := .cells #[.string t398, .slice Ao50 t399.length co50] 51 (0, 0)) (by (with_reducible repeat (first | refine blk_drewN ?_ _ | refine blk_drew ?_ | refine blk_alloc ?_ _)); refine blk_put (cs := #[.string t398, .slice none 0 0]) ?_ 1 _ rfl; (with_reducible repeat (first | refine blk_drewN ?_ _ | refine blk_drew ?_ | refine blk_alloc ?_ _)); refine blk_put (cs := #[.string (⟨#[]⟩ : ByteArray), .slice none 0 0]) ?_ 0 _ rfl; (with_reducible repeat (first | refine blk_drewN ?_ _ | refine blk_drew ?_ | refine blk_alloc ?_ _)); exact BK403.out) hb); have n2_ := Aside0.mk (below_step bwS hb); clear HO401; clear BK403; clear HB; have HO401 := n0_; have BK403 := n1_; have HB := n2_; clear n0_ n1_ n2_; (try clear hb); (try clear hb2); (try clear hk); (try clear hi)) | ((with_reducible refine gate_callee (f := 38) rfl ?_); refine goesL_ (some 17) rfl rfl Tryd.func38 (by kernel_rfl) rfl #[.string (⟨#[45, 45, 98, 13, 10, 120, 13, 10, 45, 45, 98, 45, 45, 13, 10]⟩ : ByteArray), .string (⟨#[98]⟩ : ByteArray)] rfl am ?_; (with_reducible refine (mime_Split.calls (hG := by first | exact hG | exact Glob.below hG (by first | exact HB.out | (repeat (first | (with_reducible first | exact HB.out | apply below_alloc | apply pw_below_drewN | apply below_drew1 | refine below_set ?_ GE403.out) | exact HB.out))) | exact Glob.drawn hG (by repeat (first | exact Drawn0.refl _ | apply Drawn0.step))) (⟨#[45, 45, 98, 13, 10, 120, 13, 10, 45, 45, 98, 45, 45, 13, 10]⟩ : ByteArray) (⟨#[98]⟩ : ByteArray) t406 t407 _ A3.out).mono ?_); rintro e w52 ⟨v408, rfl, ho0, hb⟩; refine ⟨_, rfl, ?_⟩; have n0_ := Aside0.mk (Kd.R_below (by (with_reducible repeat (first | apply Kd.R_alloc | apply Kd.R_drewN | apply Kd.R_drew)); exact HO401.out) hb); have n1_ := Aside0.mk (Kd.R_lower ho0 (below_size bwS)); have n2_ := Aside0.mk (blk_below (g := gb403) (o := .cells #[.string t398, .slice Ao50 t399.length co50] 51 (0, 0)) bk hb); have n3_ := Aside0.mk (below_step bwS hb); clear HO401; clear BK403; clear HB; have HO401 := n0_; have HO409 := n1_; have BK403 := n2_; have HB := n3_; clear n0_ n1_ n2_ n3_; (try clear hb); (try clear hb2); (try clear hk); (try clear hi); (try clear ho0); have hcz53_0 : w52.cell? ⟨gb403, 0, none⟩ = some (.string t398) := (blk_cell BK403.out 0).trans rfl; have hcz53_1 : w52.cell? ⟨gb403, 1, none⟩ = some (.slice Ao50 t399.length co50) := (blk_cell BK403.out 1).trans rfl; have hfz53_0 := blk_frozen BK403.out 0; have hfz53_1 := blk_frozen BK403.out 1))
     go_ret
     exact ⟨by first | rfl | (simp [errW_none, errW_some] <;> rfl) | (simp [*, errW_none, errW_some] <;> rfl), bwS⟩
   ·rw [if_neg c6] at H
    have c6b0 : (t404.toList == ([120, 32, 121] : List UInt8)) = false := beq_eq_false_iff_ne.mpr c6
    have c6b1 : (t404.toList != ([120, 32, 121] : List UInt8)) = true := bne_iff_ne.mpr c6
    obtain rfl := Option.some.inj H
    go_enter Tryd.func26, Tryd.ntmps26
    go_wp2_with (first | ((with_reducible refine gate_callee (f := 27) rfl ?_); refine goesL_ (some 8) rfl rfl Tryd.func27 (by kernel_rfl) rfl #[.string (⟨#[84, 101, 120, 116, 47, 80, 108, 97, 105, 110, 59, 32, 67, 104, 97, 114, 115, 101, 116, 61, 34, 120, 32, 121, 34]⟩ : ByteArray)] rfl am ?_; (with_reducible refine (mime_ReadType.calls (hG := by first | exact hG | exact Glob.below hG (by first | exact HB.out | (repeat (first | (with_reducible first | exact HB.out | apply below_alloc | apply pw_below_drewN | apply below_drew1 | refine below_set ?_ GE403.out) | exact HB.out))) | exact Glob.drawn hG (by repeat (first | exact Drawn0.refl _ | apply Drawn0.step))) k (⟨#[84, 101, 120, 116, 47, 80, 108, 97, 105, 110, 59, 32, 67, 104, 97, 114, 115, 101, 116, 61, 34, 120, 32, 121, 34]⟩ : ByteArray) t398 t399 t402 _ A1.out).mono ?_); rintro e w54 ⟨v400, rfl, ho0, hb⟩; refine ⟨_, rfl, ?_⟩; have n0_ := Aside0.mk (Kd.R_lower ho0 (below_size bw)); have n1_ := Aside0.mk (below_step bw hb); clear HB; have HO401 := n0_; have HB := n1_; clear n0_ n1_; (try clear hb); (try clear hb2); (try clear hk); (try clear hi); (try clear ho0)) | ((with_reducible refine gate_dst (N := 1) rfl ?_); (try (refine gate_guard (by rfl) ?_; dsimp only)); refine box_event ?hg (N := 1) ?hd (cs := #[.string (⟨#[]⟩ : ByteArray), .slice none 0 0]) (t := 51) ?hr ?_; (case hd => rfl); (case hg => rfl); (case hr => first | (go_simp; done) | (go_simp; rfl)); intro gb403 hg w55 hbox hb; have n0_ := Aside0.mk (Kd.R_below (by (with_reducible repeat (first | apply Kd.R_alloc | apply Kd.R_drewN | apply Kd.R_drew)); exact HO401.out) hb); have n1_ := Aside0.mk (below_step bw hb); have n2_ := Aside0.mk (hbox); have n3_ := Aside0.mk ((by rw [hg]; exact (below_size bw) : w.heap.size ≤ gb403)); have n4_ := Aside0.mk ((by rw [hg]; exact (below_size bw) : w.heap.size ≤ gb403)); clear HO401; clear HB; have HO401 := n0_; have HB := n1_; have BK403 := n2_; have GW403 := n3_; have GE403 := n4_; clear n0_ n1_ n2_ n3_ n4_; clear hb hbox hg; have hcz56_0 : w55.cell? ⟨gb403, 0, none⟩ = some (.string (⟨#[]⟩ : ByteArray)) := (blk_cell BK403.out 0).trans rfl; have hcz56_1 : w55.cell? ⟨gb403, 1, none⟩ = some (.slice none 0 0) := (blk_cell BK403.out 1).trans rfl; have hfz56_0 := blk_frozen BK403.out 0; have hfz56_1 := blk_frozen BK403.out 1; obtain ⟨Ao57, co57, eo57⟩ := Kd.R_slice HO401.out; subst eo57) | ((with_reducible refine gate_callee (f := 31) rfl ?_); refine goesL_ (some 13) rfl rfl Tryd.func31 (by kernel_rfl) rfl #[.agg #[.string t398, .slice Ao57 t399.length co57], .string (⟨#[67, 72, 65, 82, 83, 69, 84]⟩ : ByteArray)] rfl am ?_; (with_reducible refine (mime_Type_Value.calls k t398 _ _ t399 (⟨#[67, 72, 65, 82, 83, 69, 84]⟩ : ByteArray) t404 t405 _ ?side1 ?side2 A2.out).mono ?_); (case side1 => refine (Kd.R_reads' (e := 104) (base := w.heap.size) (ok := fun k_ => True) (n := t399.length) (c := co57) ?_).2.2; exact (by (with_reducible repeat (first | apply Kd.R_alloc | apply Kd.R_drewN | apply Kd.R_drew)); exact (Kd.R_mono (Kd.R_far (p := ⟨gb403, 1, none⟩) (Kd.R_far (p := ⟨gb403, 0, none⟩) (Kd.R_types HO401.out BK403.out (by decide)) (fun _ hk => hk.2) (.string t398)) (fun _ hk => hk.2) (.slice Ao57 t399.length co57)) (fun _ h_ => h_.1)))); (case side2 => exact (Kd.R_reads' HO401.out).2.1); rintro e w58 ⟨rfl, hb⟩; refine ⟨_, rfl, ?_⟩; have n0_ := Aside0.mk (Kd.R_below (by (with_reducible repeat (first | apply Kd.R_alloc | apply Kd.R_drewN | apply Kd.R_drew)); exact (Kd.R_mono (Kd.R_far (p := ⟨gb403, 1, none⟩) (Kd.R_far (p := ⟨gb403, 0, none⟩) (Kd.R_types HO401.out BK403.out (by decide)) (fun _ hk => hk.2) (.string t398)) (fun _ hk => hk.2) (.slice Ao57 t399.length co57)) (fun _ h_ => h_.1))) hb); have n1_ := Aside0.mk (blk_below (g := gb403) (o := .cells #[.string t398, .slice Ao57 t399.length co57] 51 (0, 0)) (by (with_reducible repeat (first | refine blk_drewN ?_ _ | refine blk_drew ?_ | refine blk_alloc ?_ _)); refine blk_put (cs := #[.string t398, .slice none 0 0]) ?_ 1 _ rfl; (with_reducible repeat (first | refine blk_drewN ?_ _ | refine blk_drew ?_ | refine blk_alloc ?_ _)); refine blk_put (cs := #[.string (⟨#[]⟩ : ByteArray), .slice none 0 0]) ?_ 0 _ rfl; (with_reducible repeat (first | refine blk_drewN ?_ _ | refine blk_drew ?_ | refine blk_alloc ?_ _)); exact BK403.out) hb); have n2_ := Aside0.mk (below_step bwS hb); clear HO401; clear BK403; clear HB; have HO401 := n0_; have BK403 := n1_; have HB := n2_; clear n0_ n1_ n2_; (try clear hb); (try clear hb2); (try clear hk); (try clear hi)) | ((with_reducible refine gate_callee (f := 38) rfl ?_); refine goesL_ (some 17) rfl rfl Tryd.func38 (by kernel_rfl) rfl #[.string (⟨#[45, 45, 98, 13, 10, 120, 13, 10, 45, 45, 98, 45, 45, 13, 10]⟩ : ByteArray), .string (⟨#[98]⟩ : ByteArray)] rfl am ?_; (with_reducible refine (mime_Split.calls (hG := by first | exact hG | exact Glob.below hG (by first | exact HB.out | (repeat (first | (with_reducible first | exact HB.out | apply below_alloc | apply pw_below_drewN | apply below_drew1 | refine below_set ?_ GE403.out) | exact HB.out))) | exact Glob.drawn hG (by repeat (first | exact Drawn0.refl _ | apply Drawn0.step))) (⟨#[45, 45, 98, 13, 10, 120, 13, 10, 45, 45, 98, 45, 45, 13, 10]⟩ : ByteArray) (⟨#[98]⟩ : ByteArray) t406 t407 _ A3.out).mono ?_); rintro e w59 ⟨v408, rfl, ho0, hb⟩; refine ⟨_, rfl, ?_⟩; have n0_ := Aside0.mk (Kd.R_below (by (with_reducible repeat (first | apply Kd.R_alloc | apply Kd.R_drewN | apply Kd.R_drew)); exact HO401.out) hb); have n1_ := Aside0.mk (Kd.R_lower ho0 (below_size bwS)); have n2_ := Aside0.mk (blk_below (g := gb403) (o := .cells #[.string t398, .slice Ao57 t399.length co57] 51 (0, 0)) bk hb); have n3_ := Aside0.mk (below_step bwS hb); clear HO401; clear BK403; clear HB; have HO401 := n0_; have HO409 := n1_; have BK403 := n2_; have HB := n3_; clear n0_ n1_ n2_ n3_; (try clear hb); (try clear hb2); (try clear hk); (try clear hi); (try clear ho0); have hcz60_0 : w59.cell? ⟨gb403, 0, none⟩ = some (.string t398) := (blk_cell BK403.out 0).trans rfl; have hcz60_1 : w59.cell? ⟨gb403, 1, none⟩ = some (.slice Ao57 t399.length co57) := (blk_cell BK403.out 1).trans rfl; have hfz60_0 := blk_frozen BK403.out 0; have hfz60_1 := blk_frozen BK403.out 1))
    go_ret
    exact ⟨by first | rfl | (simp [errW_none, errW_some] <;> rfl) | (simp [*, errW_none, errW_some] <;> rfl), bwS⟩
  ·rw [if_neg c5] at H
   have c5b0 : (t398.toList == ([116, 101, 120, 116, 47, 112, 108, 97, 105, 110] : List UInt8)) = false := beq_eq_false_iff_ne.mpr c5
   have c5b1 : (t398.toList != ([116, 101, 120, 116, 47, 112, 108, 97, 105, 110] : List UInt8)) = true := bne_iff_ne.mpr c5
   obtain rfl := Option.some.inj H
   go_enter Tryd.func26, Tryd.ntmps26
   go_wp2_with (first | ((with_reducible refine gate_callee (f := 27) rfl ?_); refine goesL_ (some 8) rfl rfl Tryd.func27 (by kernel_rfl) rfl #[.string (⟨#[84, 101, 120, 116, 47, 80, 108, 97, 105, 110, 59, 32, 67, 104, 97, 114, 115, 101, 116, 61, 34, 120, 32, 121, 34]⟩ : ByteArray)] rfl am ?_; (with_reducible refine (mime_ReadType.calls (hG := by first | exact hG | exact Glob.below hG (by first | exact HB.out | (repeat (first | (with_reducible first | exact HB.out | apply below_alloc | apply pw_below_drewN | apply below_drew1 | refine below_set ?_ GE403.out) | exact HB.out))) | exact Glob.drawn hG (by repeat (first | exact Drawn0.refl _ | apply Drawn0.step))) k (⟨#[84, 101, 120, 116, 47, 80, 108, 97, 105, 110, 59, 32, 67, 104, 97, 114, 115, 101, 116, 61, 34, 120, 32, 121, 34]⟩ : ByteArray) t398 t399 t402 _ A1.out).mono ?_); rintro e w61 ⟨v400, rfl, ho0, hb⟩; refine ⟨_, rfl, ?_⟩; have n0_ := Aside0.mk (Kd.R_lower ho0 (below_size bw)); have n1_ := Aside0.mk (below_step bw hb); clear HB; have HO401 := n0_; have HB := n1_; clear n0_ n1_; (try clear hb); (try clear hb2); (try clear hk); (try clear hi); (try clear ho0)) | ((with_reducible refine gate_dst (N := 1) rfl ?_); (try (refine gate_guard (by rfl) ?_; dsimp only)); refine box_event ?hg (N := 1) ?hd (cs := #[.string (⟨#[]⟩ : ByteArray), .slice none 0 0]) (t := 51) ?hr ?_; (case hd => rfl); (case hg => rfl); (case hr => first | (go_simp; done) | (go_simp; rfl)); intro gb403 hg w62 hbox hb; have n0_ := Aside0.mk (Kd.R_below (by (with_reducible repeat (first | apply Kd.R_alloc | apply Kd.R_drewN | apply Kd.R_drew)); exact HO401.out) hb); have n1_ := Aside0.mk (below_step bw hb); have n2_ := Aside0.mk (hbox); have n3_ := Aside0.mk ((by rw [hg]; exact (below_size bw) : w.heap.size ≤ gb403)); have n4_ := Aside0.mk ((by rw [hg]; exact (below_size bw) : w.heap.size ≤ gb403)); clear HO401; clear HB; have HO401 := n0_; have HB := n1_; have BK403 := n2_; have GW403 := n3_; have GE403 := n4_; clear n0_ n1_ n2_ n3_ n4_; clear hb hbox hg; have hcz63_0 : w62.cell? ⟨gb403, 0, none⟩ = some (.string (⟨#[]⟩ : ByteArray)) := (blk_cell BK403.out 0).trans rfl; have hcz63_1 : w62.cell? ⟨gb403, 1, none⟩ = some (.slice none 0 0) := (blk_cell BK403.out 1).trans rfl; have hfz63_0 := blk_frozen BK403.out 0; have hfz63_1 := blk_frozen BK403.out 1; obtain ⟨Ao64, co64, eo64⟩ := Kd.R_slice HO401.out; subst eo64) | ((with_reducible refine gate_callee (f := 31) rfl ?_); refine goesL_ (some 13) rfl rfl Tryd.func31 (by kernel_rfl) rfl #[.agg #[.string t398, .slice Ao64 t399.length co64], .string (⟨#[67, 72, 65, 82, 83, 69, 84]⟩ : ByteArray)] rfl am ?_; (with_reducible refine (mime_Type_Value.calls k t398 _ _ t399 (⟨#[67, 72, 65, 82, 83, 69, 84]⟩ : ByteArray) t404 t405 _ ?side1 ?side2 A2.out).mono ?_); (case side1 => refine (Kd.R_reads' (e := 104) (base := w.heap.size) (ok := fun k_ => True) (n := t399.length) (c := co64) ?_).2.2; exact (by (with_reducible repeat (first | apply Kd.R_alloc | apply Kd.R_drewN | apply Kd.R_drew)); exact (Kd.R_mono (Kd.R_far (p := ⟨gb403, 1, none⟩) (Kd.R_far (p := ⟨gb403, 0, none⟩) (Kd.R_types HO401.out BK403.out (by decide)) (fun _ hk => hk.2) (.string t398)) (fun _ hk => hk.2) (.slice Ao64 t399.length co64)) (fun _ h_ => h_.1)))); (case side2 => exact (Kd.R_reads' HO401.out).2.1); rintro e w65 ⟨rfl, hb⟩; refine ⟨_, rfl, ?_⟩; have n0_ := Aside0.mk (Kd.R_below (by (with_reducible repeat (first | apply Kd.R_alloc | apply Kd.R_drewN | apply Kd.R_drew)); exact (Kd.R_mono (Kd.R_far (p := ⟨gb403, 1, none⟩) (Kd.R_far (p := ⟨gb403, 0, none⟩) (Kd.R_types HO401.out BK403.out (by decide)) (fun _ hk => hk.2) (.string t398)) (fun _ hk => hk.2) (.slice Ao64 t399.length co64)) (fun _ h_ => h_.1))) hb); have n1_ := Aside0.mk (blk_below (g := gb403) (o := .cells #[.string t398, .slice Ao64 t399.length co64] 51 (0, 0)) (by (with_reducible repeat (first | refine blk_drewN ?_ _ | refine blk_drew ?_ | refine blk_alloc ?_ _)); refine blk_put (cs := #[.string t398, .slice none 0 0]) ?_ 1 _ rfl; (with_reducible repeat (first | refine blk_drewN ?_ _ | refine blk_drew ?_ | refine blk_alloc ?_ _)); refine blk_put (cs := #[.string (⟨#[]⟩ : ByteArray), .slice none 0 0]) ?_ 0 _ rfl; (with_reducible repeat (first | refine blk_drewN ?_ _ | refine blk_drew ?_ | refine blk_alloc ?_ _)); exact BK403.out) hb); have n2_ := Aside0.mk (below_step bwS hb); clear HO401; clear BK403; clear HB; have HO401 := n0_; have BK403 := n1_; have HB := n2_; clear n0_ n1_ n2_; (try clear hb); (try clear hb2); (try clear hk); (try clear hi)) | ((with_reducible refine gate_callee (f := 38) rfl ?_); refine goesL_ (some 17) rfl rfl Tryd.func38 (by kernel_rfl) rfl #[.string (⟨#[45, 45, 98, 13, 10, 120, 13, 10, 45, 45, 98, 45, 45, 13, 10]⟩ : ByteArray), .string (⟨#[98]⟩ : ByteArray)] rfl am ?_; (with_reducible refine (mime_Split.calls (hG := by first | exact hG | exact Glob.below hG (by first | exact HB.out | (repeat (first | (with_reducible first | exact HB.out | apply below_alloc | apply pw_below_drewN | apply below_drew1 | refine below_set ?_ GE403.out) | exact HB.out))) | exact Glob.drawn hG (by repeat (first | exact Drawn0.refl _ | apply Drawn0.step))) (⟨#[45, 45, 98, 13, 10, 120, 13, 10, 45, 45, 98, 45, 45, 13, 10]⟩ : ByteArray) (⟨#[98]⟩ : ByteArray) t406 t407 _ A3.out).mono ?_); rintro e w66 ⟨v408, rfl, ho0, hb⟩; refine ⟨_, rfl, ?_⟩; have n0_ := Aside0.mk (Kd.R_below (by (with_reducible repeat (first | apply Kd.R_alloc | apply Kd.R_drewN | apply Kd.R_drew)); exact HO401.out) hb); have n1_ := Aside0.mk (Kd.R_lower ho0 (below_size bwS)); have n2_ := Aside0.mk (blk_below (g := gb403) (o := .cells #[.string t398, .slice Ao64 t399.length co64] 51 (0, 0)) bk hb); have n3_ := Aside0.mk (below_step bwS hb); clear HO401; clear BK403; clear HB; have HO401 := n0_; have HO409 := n1_; have BK403 := n2_; have HB := n3_; clear n0_ n1_ n2_ n3_; (try clear hb); (try clear hb2); (try clear hk); (try clear hi); (try clear ho0); have hcz67_0 : w66.cell? ⟨gb403, 0, none⟩ = some (.string t398) := (blk_cell BK403.out 0).trans rfl; have hcz67_1 : w66.cell? ⟨gb403, 1, none⟩ = some (.slice Ao64 t399.length co64) := (blk_cell BK403.out 1).trans rfl; have hfz67_0 := blk_frozen BK403.out 0; have hfz67_1 := blk_frozen BK403.out 1))
   go_ret
   exact ⟨by first | rfl | (simp [errW_none, errW_some] <;> rfl) | (simp [*, errW_none, errW_some] <;> rfl), bwS⟩
 ·rw [if_neg c4] at H
  have c4b0 : (t402 == 0) = false := beq_eq_false_iff_ne.mpr c4
  have c4b1 : (t402 != 0) = true := bne_iff_ne.mpr c4
  obtain rfl := Option.some.inj H
  go_enter Tryd.func26, Tryd.ntmps26
  go_wp2_with (first | ((with_reducible refine gate_callee (f := 27) rfl ?_); refine goesL_ (some 8) rfl rfl Tryd.func27 (by kernel_rfl) rfl #[.string (⟨#[84, 101, 120, 116, 47, 80, 108, 97, 105, 110, 59, 32, 67, 104, 97, 114, 115, 101, 116, 61, 34, 120, 32, 121, 34]⟩ : ByteArray)] rfl am ?_; (with_reducible refine (mime_ReadType.calls (hG := by first | exact hG | exact Glob.below hG (by first | exact HB.out | (repeat (first | (with_reducible first | exact HB.out | apply below_alloc | apply pw_below_drewN | apply below_drew1 | refine below_set ?_ GE403.out) | exact HB.out))) | exact Glob.drawn hG (by repeat (first | exact Drawn0.refl _ | apply Drawn0.step))) k (⟨#[84, 101, 120, 116, 47, 80, 108, 97, 105, 110, 59, 32, 67, 104, 97, 114, 115, 101, 116, 61, 34, 120, 32, 121, 34]⟩ : ByteArray) t398 t399 t402 _ A1.out).mono ?_); rintro e w68 ⟨v400, rfl, ho0, hb⟩; refine ⟨_, rfl, ?_⟩; have n0_ := Aside0.mk (Kd.R_lower ho0 (below_size bw)); have n1_ := Aside0.mk (below_step bw hb); clear HB; have HO401 := n0_; have HB := n1_; clear n0_ n1_; (try clear hb); (try clear hb2); (try clear hk); (try clear hi); (try clear ho0)) | ((with_reducible refine gate_dst (N := 1) rfl ?_); (try (refine gate_guard (by rfl) ?_; dsimp only)); refine box_event ?hg (N := 1) ?hd (cs := #[.string (⟨#[]⟩ : ByteArray), .slice none 0 0]) (t := 51) ?hr ?_; (case hd => rfl); (case hg => rfl); (case hr => first | (go_simp; done) | (go_simp; rfl)); intro gb403 hg w69 hbox hb; have n0_ := Aside0.mk (Kd.R_below (by (with_reducible repeat (first | apply Kd.R_alloc | apply Kd.R_drewN | apply Kd.R_drew)); exact HO401.out) hb); have n1_ := Aside0.mk (below_step bw hb); have n2_ := Aside0.mk (hbox); have n3_ := Aside0.mk ((by rw [hg]; exact (below_size bw) : w.heap.size ≤ gb403)); have n4_ := Aside0.mk ((by rw [hg]; exact (below_size bw) : w.heap.size ≤ gb403)); clear HO401; clear HB; have HO401 := n0_; have HB := n1_; have BK403 := n2_; have GW403 := n3_; have GE403 := n4_; clear n0_ n1_ n2_ n3_ n4_; clear hb hbox hg; have hcz70_0 : w69.cell? ⟨gb403, 0, none⟩ = some (.string (⟨#[]⟩ : ByteArray)) := (blk_cell BK403.out 0).trans rfl; have hcz70_1 : w69.cell? ⟨gb403, 1, none⟩ = some (.slice none 0 0) := (blk_cell BK403.out 1).trans rfl; have hfz70_0 := blk_frozen BK403.out 0; have hfz70_1 := blk_frozen BK403.out 1; obtain ⟨Ao71, co71, eo71⟩ := Kd.R_slice HO401.out; subst eo71) | ((with_reducible refine gate_callee (f := 31) rfl ?_); refine goesL_ (some 13) rfl rfl Tryd.func31 (by kernel_rfl) rfl #[.agg #[.string t398, .slice Ao71 t399.length co71], .string (⟨#[67, 72, 65, 82, 83, 69, 84]⟩ : ByteArray)] rfl am ?_; (with_reducible refine (mime_Type_Value.calls k t398 _ _ t399 (⟨#[67, 72, 65, 82, 83, 69, 84]⟩ : ByteArray) t404 t405 _ ?side1 ?side2 A2.out).mono ?_); (case side1 => refine (Kd.R_reads' (e := 104) (base := w.heap.size) (ok := fun k_ => True) (n := t399.length) (c := co71) ?_).2.2; exact (by (with_reducible repeat (first | apply Kd.R_alloc | apply Kd.R_drewN | apply Kd.R_drew)); exact (Kd.R_mono (Kd.R_far (p := ⟨gb403, 1, none⟩) (Kd.R_far (p := ⟨gb403, 0, none⟩) (Kd.R_types HO401.out BK403.out (by decide)) (fun _ hk => hk.2) (.string t398)) (fun _ hk => hk.2) (.slice Ao71 t399.length co71)) (fun _ h_ => h_.1)))); (case side2 => exact (Kd.R_reads' HO401.out).2.1); rintro e w72 ⟨rfl, hb⟩; refine ⟨_, rfl, ?_⟩; have n0_ := Aside0.mk (Kd.R_below (by (with_reducible repeat (first | apply Kd.R_alloc | apply Kd.R_drewN | apply Kd.R_drew)); exact (Kd.R_mono (Kd.R_far (p := ⟨gb403, 1, none⟩) (Kd.R_far (p := ⟨gb403, 0, none⟩) (Kd.R_types HO401.out BK403.out (by decide)) (fun _ hk => hk.2) (.string t398)) (fun _ hk => hk.2) (.slice Ao71 t399.length co71)) (fun _ h_ => h_.1))) hb); have n1_ := Aside0.mk (blk_below (g := gb403) (o := .cells #[.string t398, .slice Ao71 t399.length co71] 51 (0, 0)) (by (with_reducible repeat (first | refine blk_drewN ?_ _ | refine blk_drew ?_ | refine blk_alloc ?_ _)); refine blk_put (cs := #[.string t398, .slice none 0 0]) ?_ 1 _ rfl; (with_reducible repeat (first | refine blk_drewN ?_ _ | refine blk_drew ?_ | refine blk_alloc ?_ _)); refine blk_put (cs := #[.string (⟨#[]⟩ : ByteArray), .slice none 0 0]) ?_ 0 _ rfl; (with_reducible repeat (first | refine blk_drewN ?_ _ | refine blk_drew ?_ | refine blk_alloc ?_ _)); exact BK403.out) hb); have n2_ := Aside0.mk (below_step bwS hb); clear HO401; clear BK403; clear HB; have HO401 := n0_; have BK403 := n1_; have HB := n2_; clear n0_ n1_ n2_; (try clear hb); (try clear hb2); (try clear hk); (try clear hi)) | ((with_reducible refine gate_callee (f := 38) rfl ?_); refine goesL_ (some 17) rfl rfl Tryd.func38 (by kernel_rfl) rfl #[.string (⟨#[45, 45, 98, 13, 10, 120, 13, 10, 45, 45, 98, 45, 45, 13, 10]⟩ : ByteArray), .string (⟨#[98]⟩ : ByteArray)] rfl am ?_; (with_reducible refine (mime_Split.calls (hG := by first | exact hG | exact Glob.below hG (by first | exact HB.out | (repeat (first | (with_reducible first | exact HB.out | apply below_alloc | apply pw_below_drewN | apply below_drew1 | refine below_set ?_ GE403.out) | exact HB.out))) | exact Glob.drawn hG (by repeat (first | exact Drawn0.refl _ | apply Drawn0.step))) (⟨#[45, 45, 98, 13, 10, 120, 13, 10, 45, 45, 98, 45, 45, 13, 10]⟩ : ByteArray) (⟨#[98]⟩ : ByteArray) t406 t407 _ A3.out).mono ?_); rintro e w73 ⟨v408, rfl, ho0, hb⟩; refine ⟨_, rfl, ?_⟩; have n0_ := Aside0.mk (Kd.R_below (by (with_reducible repeat (first | apply Kd.R_alloc | apply Kd.R_drewN | apply Kd.R_drew)); exact HO401.out) hb); have n1_ := Aside0.mk (Kd.R_lower ho0 (below_size bwS)); have n2_ := Aside0.mk (blk_below (g := gb403) (o := .cells #[.string t398, .slice Ao71 t399.length co71] 51 (0, 0)) bk hb); have n3_ := Aside0.mk (below_step bwS hb); clear HO401; clear BK403; clear HB; have HO401 := n0_; have HO409 := n1_; have BK403 := n2_; have HB := n3_; clear n0_ n1_ n2_ n3_; (try clear hb); (try clear hb2); (try clear hk); (try clear hi); (try clear ho0)))
  go_ret
  exact ⟨by first | rfl | (simp [errW_none, errW_some] <;> rfl) | (simp [*, errW_none, errW_some] <;> rfl), bwS⟩

end Go.Proofs.YtoikneogdbdplaaDoor.Fn
namespace Go.Proofs.YtoikneogdbdplaaDoor.Fn
open Go.RowKit Go.Proofs.YtoikneogdbdplaaDoorW.PrintWords Go.Proofs.YtoikneogdbdplaaDoorW.PrintLast Go.Proofs.YtoikneogdbdplaaDoorW.PrintMore
attribute [local go_sem] max2_int min2_int max_two min_two max_three min_three max_four min_four
set_option linter.unusedVariables false
set_option linter.unusedSimpArgs false

/-! ### bulletinref01_Digits: function 95 -/
def bulletinref01_Digits.l0 : Nat → Int → ByteArray → Int → Option (ByteArray)
 | 0, _, _, _ => none
 | k + 1, x0, x3, x4 => if x4 = 0 then ((some (([(wrap64 (48 + (Int.tmod x0 10))) % 256] : List Int) : List Int)).bind fun y818 => (if (strOfNums y818).size + x3.size ≤ 9223372036854775807 then (bulletinref01_Digits.l0 k (wrap64 (Int.tdiv x0 10)) ((strOfNums y818) ++ x3) (wrap64 (x4 + 1))) else (none))) else (if x0 > 0 then (if x4 < 20 then ((some (([(wrap64 (48 + (Int.tmod x0 10))) % 256] : List Int) : List Int)).bind fun y821 => (if (strOfNums y821).size + x3.size ≤ 9223372036854775807 then (bulletinref01_Digits.l0 k (wrap64 (Int.tdiv x0 10)) ((strOfNums y821) ++ x3) (wrap64 (x4 + 1))) else (none))) else (some x3)) else (some x3))
def bulletinref01_Digits.f (k : Nat) (a0 : Int) : Option (ByteArray) := bulletinref01_Digits.l0 k a0 (⟨#[]⟩ : ByteArray) 0
set_option maxHeartbeats 8000000 in
set_option maxRecDepth 100000 in
theorem bulletinref01_Digits.calls (k : Nat) (a0 : Int) (r : ByteArray) (w : World) (h : bulletinref01_Digits.f k a0 = some r) :
  Calls Tryd.prog 95 #[.int .i64 a0] w fun e w' => e = .returned (.string r) ∧ Below w.heap.size w w' := by
 have HB := Aside0.mk (Below.refl w.heap.size w)
 have H : (bulletinref01_Digits.l0 k a0 (⟨#[]⟩ : ByteArray) 0) = some r := h
 clear h
 have H' := Aside0.mk H
 clear H
 go_enter Tryd.func95, Tryd.ntmps95
 go_wp2
 go_loopg [0, 3, 4] k (fun kq v0 v3 v4 w' => ∃ (x0_1 : Int) (x3_1 : ByteArray) (x4_1 : Int), v0 = .int .i64 x0_1 ∧ v3 = .string x3_1 ∧ v4 = .int .i64 x4_1 ∧ Aside0 (bulletinref01_Digits.l0 kq x0_1 x3_1 x4_1 = some r) ∧ Aside0 (kq ≤ k) ∧ Aside0 (Below w.heap.size w w'))
 case atStart => exact ⟨(a0), ((⟨#[]⟩ : ByteArray)), (0), cl, cl, cl, H', ⟨Nat.le_refl _⟩, ⟨bw⟩⟩
 case round =>
  clear H'
  obtain ⟨x0_1, x3_1, x4_1, rfl, rfl, rfl, HA, HK1, HB⟩ := hrel
  cases gk with
  | zero => exact absurd HA.out (by simp [bulletinref01_Digits.l0])
  | succ k1 =>
   have H := HA.out
   clear HA
   simp only [bulletinref01_Digits.l0] at H
   by_cases c2 : x4_1 = 0
   ·rw [if_pos c2] at H
    have c2b0 : (x4_1 == 0) = true := beq_iff_eq.mpr c2
    have c2b1 : (x4_1 != 0) = false := bne_eq_false_iff_eq.mpr c2
    clear c2
    obtain ⟨y818, hy818⟩ : ∃ y_ : List Int, y_ = (([(wrap64 (48 + (Int.tmod x0_1 10))) % 256] : List Int)) := ⟨_, rfl⟩
    replace H : (if (strOfNums y818).size + x3_1.size ≤ 9223372036854775807 then (bulletinref01_Digits.l0 k1 (wrap64 (Int.tdiv x0_1 10)) ((strOfNums y818) ++ x3_1) (wrap64 (x4_1 + 1))) else (none)) = some r := by first | (rw [hy818]; with_reducible exact H) | (have H2_ := (Option.bind_some _ _).symm.trans H; rw [hy818]; with_reducible exact H2_) | (have H2_ := (Option.bind_some _ _).symm.trans H; with_reducible exact H2_) | with_reducible exact H | (rw [hy818]; exact H) | exact H
    have Ny818 := Aside0.mk hy818
    clear hy818
    by_cases c3 : (strOfNums y818).size + x3_1.size ≤ 9223372036854775807
    ·rw [if_pos c3] at H
     have c3b0 := eq_true c3
     have c3b1 : decide ((strOfNums y818).size + x3_1.size ≤ 9223372036854775807) = true := decide_eq_true c3
     try have c3b2 : (9223372036854775807 < (strOfNums y818).size + x3_1.size) = False := eq_false (Nat.not_lt.2 c3)
     have H' := Aside0.mk H
     clear H
     go_wp2_with (first | ((with_reducible refine gate_dst (N := 21) rfl ?_); refine Kd.R_lit (Kd.int .u8) _ 5 ?hg (N := 21) ?hd (xs := ([(wrap64 (48 + (Int.tmod x0_1 10))) % 256] : List Int)) (inner := [.int .u8 ((wrap64 (48 + (Int.tmod x0_1 10))) % 256)]) (ok := fun _ => True) (okp := fun _ => True) ?hr ?hp (fun _ hk => hk) trivial (Below.refl _ _) (Nat.le_refl _) (by simp) ?_; (case hd => rfl); (case hg => rfl); (case hr => first | (go_simp; done) | (go_simp; rfl)); (case hp => exact (Reps.one (show Kd.M (Kd.int .u8) _ _ _ ((wrap64 (48 + (Int.tmod x0_1 10))) % 256) [.int .u8 ((wrap64 (48 + (Int.tmod x0_1 10))) % 256)] from rfl) (Reps.none _ _))); intro v819 w4 ho5 hb hg_ hnew_; clear hg_ hnew_; (first | rw [← Ny818.out] at ho5 | (simp only [Int.reduceToNat] at ho5; rw [← Ny818.out] at ho5)); have n0_ := Aside0.mk (Kd.R_lower ho5 (below_size bw)); have n1_ := Aside0.mk (below_step bw hb); clear HB; have HO820 := n0_; have HB := n1_; clear n0_ n1_; clear hb ho5; have hcv6 := own_string (P := Tryd.prog) Tryd.underlying116 Tryd.underlying5 Tryd.underlying9 (Kd.own_of_R HO820.out)))
     go_roundg k1
     case measure => have := HK1.out; omega
     case rel => exact ⟨(wrap64 (Int.tdiv x0_1 10)), ((strOfNums y818) ++ x3_1), (wrap64 (x4_1 + 1)), cl, cl, cl, H', ⟨by have := HK1.out; omega⟩, ⟨bw⟩⟩
    ·rw [if_neg c3] at H
     exact absurd H (by simp)
   ·rw [if_neg c2] at H
    have c2b0 : (x4_1 == 0) = false := beq_eq_false_iff_ne.mpr c2
    have c2b1 : (x4_1 != 0) = true := bne_iff_ne.mpr c2
    by_cases c7 : x0_1 > 0
    ·rw [if_pos c7] at H
     have c7b0 : decide (0 < x0_1) = true := decide_eq_true c7
     clear c7
     by_cases c8 : x4_1 < 20
     ·rw [if_pos c8] at H
      have c8b0 : decide (x4_1 < 20) = true := decide_eq_true c8
      clear c8
      obtain ⟨y821, hy821⟩ : ∃ y_ : List Int, y_ = (([(wrap64 (48 + (Int.tmod x0_1 10))) % 256] : List Int)) := ⟨_, rfl⟩
      replace H : (if (strOfNums y821).size + x3_1.size ≤ 9223372036854775807 then (bulletinref01_Digits.l0 k1 (wrap64 (Int.tdiv x0_1 10)) ((strOfNums y821) ++ x3_1) (wrap64 (x4_1 + 1))) else (none)) = some r := by first | (rw [hy821]; with_reducible exact H) | (have H2_ := (Option.bind_some _ _).symm.trans H; rw [hy821]; with_reducible exact H2_) | (have H2_ := (Option.bind_some _ _).symm.trans H; with_reducible exact H2_) | with_reducible exact H | (rw [hy821]; exact H) | exact H
      have Ny821 := Aside0.mk hy821
      clear hy821
      by_cases c9 : (strOfNums y821).size + x3_1.size ≤ 9223372036854775807
      ·rw [if_pos c9] at H
       have c9b0 := eq_true c9
       have c9b1 : decide ((strOfNums y821).size + x3_1.size ≤ 9223372036854775807) = true := decide_eq_true c9
       try have c9b2 : (9223372036854775807 < (strOfNums y821).size + x3_1.size) = False := eq_false (Nat.not_lt.2 c9)
       have H' := Aside0.mk H
       clear H
       go_wp2_with (first | ((with_reducible refine gate_dst (N := 21) rfl ?_); refine Kd.R_lit (Kd.int .u8) _ 5 ?hg (N := 21) ?hd (xs := ([(wrap64 (48 + (Int.tmod x0_1 10))) % 256] : List Int)) (inner := [.int .u8 ((wrap64 (48 + (Int.tmod x0_1 10))) % 256)]) (ok := fun _ => True) (okp := fun _ => True) ?hr ?hp (fun _ hk => hk) trivial (Below.refl _ _) (Nat.le_refl _) (by simp) ?_; (case hd => rfl); (case hg => rfl); (case hr => first | (go_simp; done) | (go_simp; rfl)); (case hp => exact (Reps.one (show Kd.M (Kd.int .u8) _ _ _ ((wrap64 (48 + (Int.tmod x0_1 10))) % 256) [.int .u8 ((wrap64 (48 + (Int.tmod x0_1 10))) % 256)] from rfl) (Reps.none _ _))); intro v822 w10 ho11 hb hg_ hnew_; clear hg_ hnew_; (first | rw [← Ny821.out] at ho11 | (simp only [Int.reduceToNat] at ho11; rw [← Ny821.out] at ho11)); have n0_ := Aside0.mk (Kd.R_lower ho11 (below_size bw)); have n1_ := Aside0.mk (below_step bw hb); clear HB; have HO823 := n0_; have HB := n1_; clear n0_ n1_; clear hb ho11; have hcv12 := own_string (P := Tryd.prog) Tryd.underlying116 Tryd.underlying5 Tryd.underlying9 (Kd.own_of_R HO823.out)))
       go_roundg k1
       case measure => have := HK1.out; omega
       case rel => exact ⟨(wrap64 (Int.tdiv x0_1 10)), ((strOfNums y821) ++ x3_1), (wrap64 (x4_1 + 1)), cl, cl, cl, H', ⟨by have := HK1.out; omega⟩, ⟨bw⟩⟩
      ·rw [if_neg c9] at H
       exact absurd H (by simp)
     ·rw [if_neg c8] at H
      have c8b0 : decide (x4_1 < 20) = false := decide_eq_false c8
      clear c8
      obtain rfl := Option.some.inj H
      go_wp2
      go_ret
      exact ⟨by first | rfl | (simp [errW_none, errW_some] <;> rfl) | (simp [*, errW_none, errW_some] <;> rfl), bw⟩
    ·rw [if_neg c7] at H
     have c7b0 : decide (0 < x0_1) = false := decide_eq_false c7
     clear c7
     obtain rfl := Option.some.inj H
     go_wp2
     go_ret
     exact ⟨by first | rfl | (simp [errW_none, errW_some] <;> rfl) | (simp [*, errW_none, errW_some] <;> rfl), bw⟩

end Go.Proofs.YtoikneogdbdplaaDoor.Fn
namespace Go.Proofs.YtoikneogdbdplaaDoor.Fn
open Go.RowKit Go.Proofs.YtoikneogdbdplaaDoorW.PrintWords Go.Proofs.YtoikneogdbdplaaDoorW.PrintLast Go.Proofs.YtoikneogdbdplaaDoorW.PrintMore
attribute [local go_sem] max2_int min2_int max_two min_two max_three min_three max_four min_four
set_option linter.unusedVariables false
set_option linter.unusedSimpArgs false

/-! ### bulletinref17_Lines: function 93 -/
def bulletinref17_Lines.l0 : Nat → ByteArray → List ByteArray → ByteArray → Int → Option (List ByteArray)
 | 0, _, _, _, _ => none
 | k + 1, x0, x3, x4, x5 => if x5 < (x0.size : Int) then (if 0 ≤ x5 then (if (bt x0 x5) = 13 then (if (wrap64 (x5 + 1)) < (x0.size : Int) then (if 0 ≤ (wrap64 (x5 + 1)) then (if (bt x0 (wrap64 (x5 + 1))) = 10 then (if x3.length < 8796093022208 then (bulletinref17_Lines.l0 k x0 (x3 ++ [x4]) (⟨#[]⟩ : ByteArray) (wrap64 ((wrap64 (x5 + 1)) + 1))) else (none)) else (if x5 ≤ (wrap64 (x5 + 1)) then (if (wrap64 (x5 + 1)) ≤ (x0.size : Int) then (if x4.size + (x0.extract (x5 : Int).toNat ((wrap64 (x5 + 1)) : Int).toNat).size ≤ 9223372036854775807 then (bulletinref17_Lines.l0 k x0 x3 (x4 ++ (x0.extract (x5 : Int).toNat ((wrap64 (x5 + 1)) : Int).toNat)) (wrap64 (x5 + 1))) else (none)) else (none)) else (none))) else (none)) else (if x5 ≤ (wrap64 (x5 + 1)) then (if (wrap64 (x5 + 1)) ≤ (x0.size : Int) then (if x4.size + (x0.extract (x5 : Int).toNat ((wrap64 (x5 + 1)) : Int).toNat).size ≤ 9223372036854775807 then (bulletinref17_Lines.l0 k x0 x3 (x4 ++ (x0.extract (x5 : Int).toNat ((wrap64 (x5 + 1)) : Int).toNat)) (wrap64 (x5 + 1))) else (none)) else (none)) else (none))) else (if x5 ≤ (wrap64 (x5 + 1)) then (if (wrap64 (x5 + 1)) ≤ (x0.size : Int) then (if x4.size + (x0.extract (x5 : Int).toNat ((wrap64 (x5 + 1)) : Int).toNat).size ≤ 9223372036854775807 then (bulletinref17_Lines.l0 k x0 x3 (x4 ++ (x0.extract (x5 : Int).toNat ((wrap64 (x5 + 1)) : Int).toNat)) (wrap64 (x5 + 1))) else (none)) else (none)) else (none))) else (none)) else (if x3.length < 8796093022208 then (some (x3 ++ [x4])) else (none))
def bulletinref17_Lines.f (k : Nat) (a0 : ByteArray) : Option (List ByteArray) := bulletinref17_Lines.l0 k a0 ([] : List ByteArray) (⟨#[]⟩ : ByteArray) 0
set_option maxHeartbeats 8000000 in
set_option maxRecDepth 100000 in
theorem bulletinref17_Lines.calls (k : Nat) (a0 : ByteArray) (r : List ByteArray) (w : World) (h : bulletinref17_Lines.f k a0 = some r) :
  Calls Tryd.prog 93 #[.string a0] w fun e w' => ∃ v0_ : Value, e = .returned (v0_) ∧ Kd.R Kd.string 9 w' w.heap.size (fun _ => True) v0_ r ∧ Below w.heap.size w w' := by
 have HB := Aside0.mk (Below.refl w.heap.size w)
 have H : (bulletinref17_Lines.l0 k a0 ([] : List ByteArray) (⟨#[]⟩ : ByteArray) 0) = some r := h
 clear h
 have H' := Aside0.mk H
 clear H
 go_enter Tryd.func93, Tryd.ntmps93
 go_wp2
 go_loopg [3, 4, 5] k (fun kq v3 v4 v5 w' => ∃ (x3_1 : List ByteArray) (x4_1 : ByteArray) (x5_1 : Int), v4 = .string x4_1 ∧ v5 = .int .i64 x5_1 ∧ Aside0 (bulletinref17_Lines.l0 kq a0 x3_1 x4_1 x5_1 = some r) ∧ Aside0 (kq ≤ k) ∧ Aside0 (Kd.R Kd.string 9 w' w.heap.size (fun _ => True) v3 x3_1) ∧ Aside0 (Below w.heap.size w w'))
 case atStart => exact ⟨(([] : List ByteArray)), ((⟨#[]⟩ : ByteArray)), (0), cl, cl, H', ⟨Nat.le_refl _⟩, ⟨by first | exact Kd.R_nil _ _ _ _ _ | exact Kd.N_nil _ _ _ _ _ | exact Kd.V_nil _ _ _ _ _ | exact Kd.Q_nil _ _ _ _ _ | exact Kd.S_nil _ _ _ _ _⟩, ⟨bw⟩⟩
 case round =>
  clear H'
  obtain ⟨x3_1, x4_1, x5_1, rfl, rfl, HA, HK1, HO_3, HB⟩ := hrel
  cases gk with
  | zero => exact absurd HA.out (by simp [bulletinref17_Lines.l0])
  | succ k1 =>
   have H := HA.out
   clear HA
   simp only [bulletinref17_Lines.l0] at H
   by_cases c2 : x5_1 < (a0.size : Int)
   ·rw [if_pos c2] at H
    have c2b0 : decide (x5_1 < (a0.size : Int)) = true := decide_eq_true c2
    clear c2
    by_cases c3 : 0 ≤ x5_1
    ·rw [if_pos c3] at H
     have c3b0 : decide (0 ≤ x5_1) = true := decide_eq_true c3
     clear c3
     by_cases c5 : (bt a0 x5_1) = 13
     ·rw [if_pos c5] at H
      have c5b0 : ((bt a0 x5_1) == 13) = true := beq_iff_eq.mpr c5
      have c5b1 : ((bt a0 x5_1) != 13) = false := bne_eq_false_iff_eq.mpr c5
      clear c5
      by_cases c6 : (wrap64 (x5_1 + 1)) < (a0.size : Int)
      ·rw [if_pos c6] at H
       have c6b0 : decide ((wrap64 (x5_1 + 1)) < (a0.size : Int)) = true := decide_eq_true c6
       clear c6
       obtain ⟨ji7, hji7⟩ : ∃ j_ : Int, (wrap64 (x5_1 + 1)) = j_ := ⟨_, rfl⟩
       replace H : (if 0 ≤ (ji7) then (if (bt a0 (ji7)) = 10 then (if x3_1.length < 8796093022208 then (bulletinref17_Lines.l0 k1 a0 (x3_1 ++ [x4_1]) (⟨#[]⟩ : ByteArray) (wrap64 ((ji7) + 1))) else (none)) else (if x5_1 ≤ (ji7) then (if (ji7) ≤ (a0.size : Int) then (if x4_1.size + (a0.extract (x5_1 : Int).toNat ((ji7) : Int).toNat).size ≤ 9223372036854775807 then (bulletinref17_Lines.l0 k1 a0 x3_1 (x4_1 ++ (a0.extract (x5_1 : Int).toNat ((ji7) : Int).toNat)) ji7) else (none)) else (none)) else (none))) else (none)) = some r := by first | (rw [hji7] at H; exact H) | (simp only [hji7] at H ⊢; exact H)
       (try rw [hji7] at c6b0)
       have hji7w : (IntKind.i64.wrap (x5_1 + 1)) = ji7 := (i64_w _).trans hji7
       by_cases c8 : 0 ≤ (ji7)
       ·rw [if_pos c8] at H
        have c8b0 : decide (0 ≤ (ji7)) = true := decide_eq_true c8
        clear c8
        by_cases c10 : (bt a0 (ji7)) = 10
        ·rw [if_pos c10] at H
         have c10b0 : ((bt a0 (ji7)) == 10) = true := beq_iff_eq.mpr c10
         have c10b1 : ((bt a0 (ji7)) != 10) = false := bne_eq_false_iff_eq.mpr c10
         clear c10
         by_cases c11 : x3_1.length < 8796093022208
         ·rw [if_pos c11] at H
          have LMc11 := Aside0.mk c11
          clear c11
          obtain ⟨y804, hy804⟩ : ∃ y_ : List ByteArray, y_ = (x3_1 ++ [x4_1]) := ⟨_, rfl⟩
          replace H : (bulletinref17_Lines.l0 k1 a0 y804 (⟨#[]⟩ : ByteArray) (wrap64 ((ji7) + 1))) = some r := by first | (rw [hy804]; with_reducible exact H) | (have H2_ := (Option.bind_some _ _).symm.trans H; rw [hy804]; with_reducible exact H2_) | (have H2_ := (Option.bind_some _ _).symm.trans H; with_reducible exact H2_) | with_reducible exact H | (rw [hy804]; exact H) | exact H
          have Ny804 := Aside0.mk hy804
          clear hy804
          have H' := Aside0.mk H
          clear H
          have p4 : 0 ≤ (x5_1 : Int) := od
          have q4 : x5_1 < (a0.size : Int) := od
          have hx4 := bt_at a0 x5_1
          replace p4 := eq_true p4
          replace q4 := eq_true q4
          have p9 : 0 ≤ ((ji7) : Int) := od
          have q9 : (ji7) < (a0.size : Int) := od
          have hx9 := bt_at a0 (ji7)
          replace p9 := eq_true p9
          replace q9 := eq_true q9
          go_wp2_with (first | ((with_reducible refine gate_builtin (b := .append) (xs := #[.tmp 30, .tmp 32]) rfl ?_); (try (refine gate_guard (by rfl) ?_; dsimp only)); at_builtin; refine Kd.R_append Kd.string (w0 := w) w.heap.size rfl (.tmp 30) (.tmp 32) 32 9 (.string ⟨#[]⟩) 16 rfl Tryd.underlying32 info9 rfl (by decide) (by omega) u3 x3_1 x4_1 [.string x4_1] (fun _ => True) (fun _ => False) rfl rfl ?aP (fun _ hk => hk.elim) ?aF ?aO ?aB ?aS ?aL ?_; (case aP => exact rfl); (case aB => exact bw); (case aF => exact (fun _ _ => trivial)); (case aO => exact (by (with_reducible repeat (first | apply Kd.R_alloc | apply Kd.R_drewN | apply Kd.R_drew)); exact HO_3.out)); (case aS => exact (below_size bw)); (case aL => have := LMc11.out; omega); intro v805 w12 ho hb hg hat; rw [← Ny804.out] at ho; have n0_ := Aside0.mk (hb); have n1_ := Aside0.mk (ho); clear HB; clear HO_3; have HB := n0_; have HO806 := n1_; clear n0_ n1_; clear ho hb hg hat))
          go_roundg k1
          case measure => have := HK1.out; omega
          case rel => exact ⟨(y804), ((⟨#[]⟩ : ByteArray)), (wrap64 ((ji7) + 1)), cl, (by first | rfl | (simp; done) | (simp only [← hji7] <;> (first | rfl | simp)) | (simp [*]; done) | (simp [nil_ne]; done)), H', ⟨by have := HK1.out; omega⟩, ⟨by (with_reducible repeat (first | apply Kd.R_alloc | apply Kd.R_drewN | apply Kd.R_drew)); exact HO806.out⟩, ⟨bw⟩⟩
         ·rw [if_neg c11] at H
          exact absurd H (by simp)
        ·rw [if_neg c10] at H
         have c10b0 : ((bt a0 (ji7)) == 10) = false := beq_eq_false_iff_ne.mpr c10
         have c10b1 : ((bt a0 (ji7)) != 10) = true := bne_iff_ne.mpr c10
         have c13b0 := eq_true (od : 0 ≤ x5_1)
         by_cases c14 : x5_1 ≤ (ji7)
         ·rw [if_pos c14] at H
          have c14b0 := eq_true c14
          have c14b1 : decide (x5_1 ≤ (ji7)) = true := decide_eq_true c14
          clear c14
          by_cases c15 : (ji7) ≤ (a0.size : Int)
          ·rw [if_pos c15] at H
           have c15b0 := eq_true c15
           have c15b1 : decide ((ji7) ≤ (a0.size : Int)) = true := decide_eq_true c15
           clear c15
           by_cases c16 : x4_1.size + (a0.extract (x5_1 : Int).toNat ((ji7) : Int).toNat).size ≤ 9223372036854775807
           ·rw [if_pos c16] at H
            have c16b0 := eq_true c16
            have c16b1 : decide (x4_1.size + (a0.extract (x5_1 : Int).toNat ((ji7) : Int).toNat).size ≤ 9223372036854775807) = true := decide_eq_true c16
            try have c16b2 : (9223372036854775807 < x4_1.size + (a0.extract (x5_1 : Int).toNat ((ji7) : Int).toNat).size) = False := eq_false (Nat.not_lt.2 c16)
            try (have c16b3 := c16; simp only [ByteArray.size_append, size_lit, ByteArray.size_extract, List.size_toArray, List.length_cons, List.length_nil, Nat.zero_add, Nat.reduceAdd] at c16b3; have c16b4 := eq_false (Nat.not_lt.2 c16b3))
            have H' := Aside0.mk H
            clear H
            have p4 : 0 ≤ (x5_1 : Int) := od
            have q4 : x5_1 < (a0.size : Int) := od
            have hx4 := bt_at a0 x5_1
            replace p4 := eq_true p4
            replace q4 := eq_true q4
            have p9 : 0 ≤ ((ji7) : Int) := od
            have q9 : (ji7) < (a0.size : Int) := od
            have hx9 := bt_at a0 (ji7)
            replace p9 := eq_true p9
            replace q9 := eq_true q9
            go_wp2
            go_roundg k1
            case measure => have := HK1.out; omega
            case rel => exact ⟨(x3_1), (x4_1 ++ (a0.extract (x5_1 : Int).toNat ((ji7) : Int).toNat)), (ji7), (by first | rfl | (simp; done) | (simp only [← hji7] <;> (first | rfl | simp)) | (simp [*]; done) | (simp [nil_ne]; done)), (by first | rfl | (simp; done) | (simp only [← hji7] <;> (first | rfl | simp)) | (simp [*]; done) | (simp [nil_ne]; done)), H', ⟨by have := HK1.out; omega⟩, ⟨by (with_reducible repeat (first | apply Kd.R_alloc | apply Kd.R_drewN | apply Kd.R_drew)); exact HO_3.out⟩, ⟨bw⟩⟩
           ·rw [if_neg c16] at H
            exact absurd H (by simp)
          ·rw [if_neg c15] at H
           exact absurd H (by simp)
         ·rw [if_neg c14] at H
          exact absurd H (by simp)
       ·rw [if_neg c8] at H
        exact absurd H (by simp)
      ·rw [if_neg c6] at H
       have c6b0 : decide ((wrap64 (x5_1 + 1)) < (a0.size : Int)) = false := decide_eq_false c6
       clear c6
       have c17b0 := eq_true (od : 0 ≤ x5_1)
       by_cases c18 : x5_1 ≤ (wrap64 (x5_1 + 1))
       ·rw [if_pos c18] at H
        have c18b0 := eq_true c18
        have c18b1 : decide (x5_1 ≤ (wrap64 (x5_1 + 1))) = true := decide_eq_true c18
        by_cases c19 : (wrap64 (x5_1 + 1)) ≤ (a0.size : Int)
        ·rw [if_pos c19] at H
         have c19b0 := eq_true c19
         have c19b1 : decide ((wrap64 (x5_1 + 1)) ≤ (a0.size : Int)) = true := decide_eq_true c19
         by_cases c20 : x4_1.size + (a0.extract (x5_1 : Int).toNat ((wrap64 (x5_1 + 1)) : Int).toNat).size ≤ 9223372036854775807
         ·rw [if_pos c20] at H
          have c20b0 := eq_true c20
          have c20b1 : decide (x4_1.size + (a0.extract (x5_1 : Int).toNat ((wrap64 (x5_1 + 1)) : Int).toNat).size ≤ 9223372036854775807) = true := decide_eq_true c20
          try have c20b2 : (9223372036854775807 < x4_1.size + (a0.extract (x5_1 : Int).toNat ((wrap64 (x5_1 + 1)) : Int).toNat).size) = False := eq_false (Nat.not_lt.2 c20)
          try (have c20b3 := c20; simp only [ByteArray.size_append, size_lit, ByteArray.size_extract, List.size_toArray, List.length_cons, List.length_nil, Nat.zero_add, Nat.reduceAdd] at c20b3; have c20b4 := eq_false (Nat.not_lt.2 c20b3))
          have H' := Aside0.mk H
          clear H
          have p4 : 0 ≤ (x5_1 : Int) := od
          have q4 : x5_1 < (a0.size : Int) := od
          have hx4 := bt_at a0 x5_1
          replace p4 := eq_true p4
          replace q4 := eq_true q4
          go_wp2
          go_roundg k1
          case measure => have := HK1.out; omega
          case rel => exact ⟨(x3_1), (x4_1 ++ (a0.extract (x5_1 : Int).toNat ((wrap64 (x5_1 + 1)) : Int).toNat)), (wrap64 (x5_1 + 1)), cl, cl, H', ⟨by have := HK1.out; omega⟩, ⟨by (with_reducible repeat (first | apply Kd.R_alloc | apply Kd.R_drewN | apply Kd.R_drew)); exact HO_3.out⟩, ⟨bw⟩⟩
         ·rw [if_neg c20] at H
          exact absurd H (by simp)
        ·rw [if_neg c19] at H
         exact absurd H (by simp)
       ·rw [if_neg c18] at H
        exact absurd H (by simp)
     ·rw [if_neg c5] at H
      have c5b0 : ((bt a0 x5_1) == 13) = false := beq_eq_false_iff_ne.mpr c5
      have c5b1 : ((bt a0 x5_1) != 13) = true := bne_iff_ne.mpr c5
      have c21b0 := eq_true (od : 0 ≤ x5_1)
      by_cases c22 : x5_1 ≤ (wrap64 (x5_1 + 1))
      ·rw [if_pos c22] at H
       have c22b0 := eq_true c22
       have c22b1 : decide (x5_1 ≤ (wrap64 (x5_1 + 1))) = true := decide_eq_true c22
       by_cases c23 : (wrap64 (x5_1 + 1)) ≤ (a0.size : Int)
       ·rw [if_pos c23] at H
        have c23b0 := eq_true c23
        have c23b1 : decide ((wrap64 (x5_1 + 1)) ≤ (a0.size : Int)) = true := decide_eq_true c23
        by_cases c24 : x4_1.size + (a0.extract (x5_1 : Int).toNat ((wrap64 (x5_1 + 1)) : Int).toNat).size ≤ 9223372036854775807
        ·rw [if_pos c24] at H
         have c24b0 := eq_true c24
         have c24b1 : decide (x4_1.size + (a0.extract (x5_1 : Int).toNat ((wrap64 (x5_1 + 1)) : Int).toNat).size ≤ 9223372036854775807) = true := decide_eq_true c24
         try have c24b2 : (9223372036854775807 < x4_1.size + (a0.extract (x5_1 : Int).toNat ((wrap64 (x5_1 + 1)) : Int).toNat).size) = False := eq_false (Nat.not_lt.2 c24)
         try (have c24b3 := c24; simp only [ByteArray.size_append, size_lit, ByteArray.size_extract, List.size_toArray, List.length_cons, List.length_nil, Nat.zero_add, Nat.reduceAdd] at c24b3; have c24b4 := eq_false (Nat.not_lt.2 c24b3))
         have H' := Aside0.mk H
         clear H
         have p4 : 0 ≤ (x5_1 : Int) := od
         have q4 : x5_1 < (a0.size : Int) := od
         have hx4 := bt_at a0 x5_1
         replace p4 := eq_true p4
         replace q4 := eq_true q4
         go_wp2
         go_roundg k1
         case measure => have := HK1.out; omega
         case rel => exact ⟨(x3_1), (x4_1 ++ (a0.extract (x5_1 : Int).toNat ((wrap64 (x5_1 + 1)) : Int).toNat)), (wrap64 (x5_1 + 1)), cl, cl, H', ⟨by have := HK1.out; omega⟩, ⟨by (with_reducible repeat (first | apply Kd.R_alloc | apply Kd.R_drewN | apply Kd.R_drew)); exact HO_3.out⟩, ⟨bw⟩⟩
        ·rw [if_neg c24] at H
         exact absurd H (by simp)
       ·rw [if_neg c23] at H
        exact absurd H (by simp)
      ·rw [if_neg c22] at H
       exact absurd H (by simp)
    ·rw [if_neg c3] at H
     exact absurd H (by simp)
   ·rw [if_neg c2] at H
    have c2b0 : decide (x5_1 < (a0.size : Int)) = false := decide_eq_false c2
    clear c2
    by_cases c25 : x3_1.length < 8796093022208
    ·rw [if_pos c25] at H
     have LMc25 := Aside0.mk c25
     clear c25
     obtain ⟨y807, hy807⟩ : ∃ y_ : List ByteArray, y_ = (x3_1 ++ [x4_1]) := ⟨_, rfl⟩
     replace H : (some y807) = some r := by first | (rw [hy807]; with_reducible exact H) | (have H2_ := (Option.bind_some _ _).symm.trans H; rw [hy807]; with_reducible exact H2_) | (have H2_ := (Option.bind_some _ _).symm.trans H; with_reducible exact H2_) | with_reducible exact H | (rw [hy807]; exact H) | exact H
     have Ny807 := Aside0.mk hy807
     clear hy807
     obtain rfl := Option.some.inj H
     go_wp2_with (first | ((with_reducible refine gate_builtin (b := .append) (xs := #[.tmp 43, .tmp 45]) rfl ?_); (try (refine gate_guard (by rfl) ?_; dsimp only)); at_builtin; refine Kd.R_append Kd.string (w0 := w) w.heap.size rfl (.tmp 43) (.tmp 45) 32 9 (.string ⟨#[]⟩) 16 rfl Tryd.underlying32 info9 rfl (by decide) (by omega) u3 x3_1 x4_1 [.string x4_1] (fun _ => True) (fun _ => False) rfl rfl ?aP (fun _ hk => hk.elim) ?aF ?aO ?aB ?aS ?aL ?_; (case aP => exact rfl); (case aB => exact bw); (case aF => exact (fun _ _ => trivial)); (case aO => exact (by (with_reducible repeat (first | apply Kd.R_alloc | apply Kd.R_drewN | apply Kd.R_drew)); exact HO_3.out)); (case aS => exact (below_size bw)); (case aL => have := LMc25.out; omega); intro v808 w26 ho hb hg hat; rw [← Ny807.out] at ho; have n0_ := Aside0.mk (hb); have n1_ := Aside0.mk (ho); clear HB; clear HO_3; have HB := n0_; have HO809 := n1_; clear n0_ n1_; clear ho hb hg hat))
     go_ret
     exact ⟨_, by first | rfl | (simp [errW_none, errW_some] <;> rfl) | (simp [*, errW_none, errW_some] <;> rfl), by (with_reducible repeat (first | apply Kd.R_alloc | apply Kd.R_drewN | apply Kd.R_drew)); exact HO809.out, bw⟩
    ·rw [if_neg c25] at H
     exact absurd H (by simp)

end Go.Proofs.YtoikneogdbdplaaDoor.Fn
namespace Go.Proofs.YtoikneogdbdplaaDoor.Fn
open Go.RowKit Go.Proofs.YtoikneogdbdplaaDoorW.PrintWords Go.Proofs.YtoikneogdbdplaaDoorW.PrintLast Go.Proofs.YtoikneogdbdplaaDoorW.PrintMore
attribute [local go_sem] max2_int min2_int max_two min_two max_three min_three max_four min_four
set_option linter.unusedVariables false
set_option linter.unusedSimpArgs false

/-! ### bulletinref20_What: function 94 -/
mutual
def bulletinref20_What.j1 : Nat → ByteArray → ByteArray → Option (Int)
 | 0, _, _ => none
 | k + 1, x1, x5 => if 2 + x1.size ≤ 9223372036854775807 then (if x5.toList = ((⟨#[45, 45]⟩ : ByteArray) ++ x1).toList then (some 1) else (if ((⟨#[45, 45]⟩ : ByteArray) ++ x1).size + 2 ≤ 9223372036854775807 then (if x5.toList = (((⟨#[45, 45]⟩ : ByteArray) ++ x1) ++ (⟨#[45, 45]⟩ : ByteArray)).toList then (some 2) else (some 0)) else (none))) else (none)
def bulletinref20_What.l0 : Nat → ByteArray → ByteArray → Option (Int)
 | 0, _, _ => none
 | k + 1, x1, x5 => if (x5.size : Int) > 0 then (if 0 ≤ (wrap64 ((x5.size : Int) - 1)) then (if (wrap64 ((x5.size : Int) - 1)) < (x5.size : Int) then (if (bt x5 (wrap64 ((x5.size : Int) - 1))) = 32 then (if (wrap64 ((x5.size : Int) - 1)) ≤ (x5.size : Int) then (bulletinref20_What.l0 k x1 (x5.extract 0 ((wrap64 ((x5.size : Int) - 1)) : Int).toNat)) else (none)) else (if (bt x5 (wrap64 ((x5.size : Int) - 1))) = 9 then (if (wrap64 ((x5.size : Int) - 1)) ≤ (x5.size : Int) then (bulletinref20_What.l0 k x1 (x5.extract 0 ((wrap64 ((x5.size : Int) - 1)) : Int).toNat)) else (none)) else (bulletinref20_What.j1 k x1 x5))) else (none)) else (none)) else (bulletinref20_What.j1 k x1 x5)
end
def bulletinref20_What.f (k : Nat) (a0 : ByteArray) (a1 : ByteArray) : Option (Int) := bulletinref20_What.l0 k a1 a0
set_option maxHeartbeats 8000000 in
set_option maxRecDepth 100000 in
theorem bulletinref20_What.calls (k : Nat) (a0 : ByteArray) (a1 : ByteArray) (r : Int) (w : World) (h : bulletinref20_What.f k a0 a1 = some r) :
  Calls Tryd.prog 94 #[.string a0, .string a1] w fun e w' => e = .returned (.int .i64 r) ∧ Drawn0 w w' := by
 have H : (bulletinref20_What.l0 k a1 a0) = some r := h
 clear h
 have HC3 := Aside0.mk H
 clear H
 go_enter Tryd.func94, Tryd.ntmps94
 go_upto_block 0 with (fail)
 go_cut [5] (fun v5 wc => ∃ (kq : Nat) (x5_2 : ByteArray), v5 = .string x5_2 ∧ Aside0 (bulletinref20_What.j1 kq a1 x5_2 = some r) ∧ Aside0 (kq ≤ k) ∧ Drawn0 w wc)
 case first =>
  have H := HC3.out
  clear HC3
  have H' := Aside0.mk H
  clear H
  go_wp2
  go_loopg [5] k (fun kq v5 w' => ∃ (x5_1 : ByteArray), v5 = .string x5_1 ∧ Aside0 (bulletinref20_What.l0 kq a1 x5_1 = some r) ∧ Aside0 (kq ≤ k) ∧ Drawn0 w w')
  case atStart => exact ⟨(a0), cl, H', ⟨Nat.le_refl _⟩, by repeat (first | exact Drawn0.refl _ | apply Drawn0.step)⟩
  case round =>
   clear H'
   try clear p2
   obtain ⟨x5_1, rfl, HA, HK1, ⟨m1, rfl⟩⟩ := hrel
   cases gk with
   | zero => exact absurd HA.out (by simp [bulletinref20_What.l0])
   | succ k1 =>
    have H := HA.out
    clear HA
    simp only [bulletinref20_What.l0] at H
    by_cases c4 : (x5_1.size : Int) > 0
    ·rw [if_pos c4] at H
     have c4b0 : decide (0 < (x5_1.size : Int)) = true := decide_eq_true c4
     have c4b1 : decide (0 < x5_1.size) = true := decide_eq_true (by omega)
     clear c4
     (first | rw [c4b0] | (simp only [i64_w, i32_w]; rw [c4b0]) | skip)
     obtain ⟨ji5, hji5⟩ : ∃ j_ : Int, (wrap64 ((x5_1.size : Int) - 1)) = j_ := ⟨_, rfl⟩
     replace H : (if 0 ≤ (ji5) then (if (ji5) < (x5_1.size : Int) then (if (bt x5_1 (ji5)) = 32 then (if (ji5) ≤ (x5_1.size : Int) then (bulletinref20_What.l0 k1 a1 (x5_1.extract 0 ((ji5) : Int).toNat)) else (none)) else (if (bt x5_1 (ji5)) = 9 then (if (ji5) ≤ (x5_1.size : Int) then (bulletinref20_What.l0 k1 a1 (x5_1.extract 0 ((ji5) : Int).toNat)) else (none)) else (bulletinref20_What.j1 k1 a1 x5_1))) else (none)) else (none)) = some r := by first | (rw [hji5] at H; exact H) | (simp only [hji5] at H ⊢; exact H)
     have hji5w : (IntKind.i64.wrap ((x5_1.size : Int) - 1)) = ji5 := (i64_w _).trans hji5
     by_cases c6 : 0 ≤ (ji5)
     ·rw [if_pos c6] at H
      have c6b0 : decide (0 ≤ (ji5)) = true := decide_eq_true c6
      clear c6
      by_cases c7 : (ji5) < (x5_1.size : Int)
      ·rw [if_pos c7] at H
       have c7b0 : decide ((ji5) < (x5_1.size : Int)) = true := decide_eq_true c7
       clear c7
       by_cases c9 : (bt x5_1 (ji5)) = 32
       ·rw [if_pos c9] at H
        have c9b0 : ((bt x5_1 (ji5)) == 32) = true := beq_iff_eq.mpr c9
        have c9b1 : ((bt x5_1 (ji5)) != 32) = false := bne_eq_false_iff_eq.mpr c9
        clear c9
        have c10b0 := eq_true (od : 0 ≤ (ji5))
        by_cases c11 : (ji5) ≤ (x5_1.size : Int)
        ·rw [if_pos c11] at H
         have c11b0 := eq_true c11
         have c11b1 : decide ((ji5) ≤ (x5_1.size : Int)) = true := decide_eq_true c11
         clear c11
         have H' := Aside0.mk H
         clear H
         have p8 : 0 ≤ ((ji5) : Int) := od
         have q8 : (ji5) < (x5_1.size : Int) := od
         have hx8 := bt_at x5_1 (ji5)
         replace p8 := eq_true p8
         replace q8 := eq_true q8
         go_wp2
         go_roundg k1
         case measure => have := HK1.out; omega
         case rel => exact ⟨(x5_1.extract 0 ((ji5) : Int).toNat), (by first | rfl | (simp; done) | (simp only [← hji5] <;> (first | rfl | simp)) | (simp [*]; done) | (simp [nil_ne]; done)), H', ⟨by have := HK1.out; omega⟩, by repeat (first | exact Drawn0.refl _ | apply Drawn0.step)⟩
        ·rw [if_neg c11] at H
         exact absurd H (by simp)
       ·rw [if_neg c9] at H
        have c9b0 : ((bt x5_1 (ji5)) == 32) = false := beq_eq_false_iff_ne.mpr c9
        have c9b1 : ((bt x5_1 (ji5)) != 32) = true := bne_iff_ne.mpr c9
        by_cases c13 : (bt x5_1 (ji5)) = 9
        ·rw [if_pos c13] at H
         have c13b0 : ((bt x5_1 (ji5)) == 9) = true := beq_iff_eq.mpr c13
         have c13b1 : ((bt x5_1 (ji5)) != 9) = false := bne_eq_false_iff_eq.mpr c13
         clear c13
         have c14b0 := eq_true (od : 0 ≤ (ji5))
         by_cases c15 : (ji5) ≤ (x5_1.size : Int)
         ·rw [if_pos c15] at H
          have c15b0 := eq_true c15
          have c15b1 : decide ((ji5) ≤ (x5_1.size : Int)) = true := decide_eq_true c15
          clear c15
          have H' := Aside0.mk H
          clear H
          have p8 : 0 ≤ ((ji5) : Int) := od
          have q8 : (ji5) < (x5_1.size : Int) := od
          have hx8 := bt_at x5_1 (ji5)
          replace p8 := eq_true p8
          replace q8 := eq_true q8
          have p12 : 0 ≤ ((ji5) : Int) := od
          have q12 : (ji5) < (x5_1.size : Int) := od
          have hx12 := bt_at x5_1 (ji5)
          replace p12 := eq_true p12
          replace q12 := eq_true q12
          go_wp2
          go_roundg k1
          case measure => have := HK1.out; omega
          case rel => exact ⟨(x5_1.extract 0 ((ji5) : Int).toNat), (by first | rfl | (simp; done) | (simp only [← hji5] <;> (first | rfl | simp)) | (simp [*]; done) | (simp [nil_ne]; done)), H', ⟨by have := HK1.out; omega⟩, by repeat (first | exact Drawn0.refl _ | apply Drawn0.step)⟩
         ·rw [if_neg c15] at H
          exact absurd H (by simp)
        ·rw [if_neg c13] at H
         have c13b0 : ((bt x5_1 (ji5)) == 9) = false := beq_eq_false_iff_ne.mpr c13
         have c13b1 : ((bt x5_1 (ji5)) != 9) = true := bne_iff_ne.mpr c13
         have H' := Aside0.mk H
         clear H
         have p8 : 0 ≤ ((ji5) : Int) := od
         have q8 : (ji5) < (x5_1.size : Int) := od
         have hx8 := bt_at x5_1 (ji5)
         replace p8 := eq_true p8
         replace q8 := eq_true q8
         have p12 : 0 ≤ ((ji5) : Int) := od
         have q12 : (ji5) < (x5_1.size : Int) := od
         have hx12 := bt_at x5_1 (ji5)
         replace p12 := eq_true p12
         replace q12 := eq_true q12
         go_wp2
         go_meet
         case rel => exact ⟨_, (x5_1), cl, H', ⟨by have := HK1.out; first | omega | exact Nat.le_refl _⟩, by repeat (first | exact Drawn0.refl _ | apply Drawn0.step)⟩
      ·rw [if_neg c7] at H
       exact absurd H (by simp)
     ·rw [if_neg c6] at H
      exact absurd H (by simp)
    ·rw [if_neg c4] at H
     have c4b0 : decide (0 < (x5_1.size : Int)) = false := decide_eq_false c4
     have c4b1 : decide (0 < x5_1.size) = false := decide_eq_false (by omega)
     clear c4
     (first | rw [c4b0] | (simp only [i64_w, i32_w]; rw [c4b0]) | skip)
     have H' := Aside0.mk H
     clear H
     go_wp2
     go_meet
     case rel => exact ⟨_, (x5_1), cl, H', ⟨by have := HK1.out; first | omega | exact Nat.le_refl _⟩, by repeat (first | exact Drawn0.refl _ | apply Drawn0.step)⟩
 case rest =>
  clear HC3
  try clear c1
  try clear p1
  try clear q1
  try clear hx1
  try clear p2
  try clear c4
  try clear c4b0
  try clear c4b1
  try clear c6
  try clear c6b0
  try clear p6
  try clear c7
  try clear c7b0
  try clear p8
  try clear q8
  try clear hx8
  try clear c9
  try clear c9b0
  try clear c9b1
  try clear c10
  try clear c10b0
  try clear c11
  try clear c11b0
  try clear c11b1
  try clear p12
  try clear q12
  try clear hx12
  try clear c13
  try clear c13b0
  try clear c13b1
  try clear c14
  try clear c14b0
  try clear c15
  try clear c15b0
  try clear c15b1
  try clear p12
  try clear p2
  try clear p8
  try clear q12
  try clear q8
  obtain ⟨kq, x5_2, rfl, HA, HJ2, ⟨mc2, rfl⟩⟩ := hcut
  cases kq with
  | zero => exact absurd HA.out (by simp [bulletinref20_What.j1])
  | succ kj2 =>
   have H := HA.out
   clear HA
   simp only [bulletinref20_What.j1] at H
   by_cases c16 : 2 + a1.size ≤ 9223372036854775807
   ·rw [if_pos c16] at H
    have c16b0 := eq_true c16
    have c16b1 : decide (2 + a1.size ≤ 9223372036854775807) = true := decide_eq_true c16
    try have c16b2 : (9223372036854775807 < 2 + a1.size) = False := eq_false (Nat.not_lt.2 c16)
    by_cases c17 : x5_2.toList = ((⟨#[45, 45]⟩ : ByteArray) ++ a1).toList
    ·rw [if_pos c17] at H
     have c17b0 : (x5_2.toList == ((⟨#[45, 45]⟩ : ByteArray) ++ a1).toList) = true := beq_iff_eq.mpr c17
     have c17b1 : (x5_2.toList != ((⟨#[45, 45]⟩ : ByteArray) ++ a1).toList) = false := bne_eq_false_iff_eq.mpr c17
     clear c17
     obtain rfl := Option.some.inj H
     go_wp2
     go_ret
     exact ⟨by first | rfl | (simp; done) | (simp [*]; done) | (simp [nil_ne]; done), by repeat (first | exact Drawn0.refl _ | apply Drawn0.step)⟩
    ·rw [if_neg c17] at H
     have c17b0 : (x5_2.toList == ((⟨#[45, 45]⟩ : ByteArray) ++ a1).toList) = false := beq_eq_false_iff_ne.mpr c17
     have c17b1 : (x5_2.toList != ((⟨#[45, 45]⟩ : ByteArray) ++ a1).toList) = true := bne_iff_ne.mpr c17
     by_cases c18 : ((⟨#[45, 45]⟩ : ByteArray) ++ a1).size + 2 ≤ 9223372036854775807
     ·rw [if_pos c18] at H
      have c18b0 := eq_true c18
      have c18b1 : decide (((⟨#[45, 45]⟩ : ByteArray) ++ a1).size + 2 ≤ 9223372036854775807) = true := decide_eq_true c18
      try have c18b2 : (9223372036854775807 < ((⟨#[45, 45]⟩ : ByteArray) ++ a1).size + 2) = False := eq_false (Nat.not_lt.2 c18)
      try (have c18b3 := c18; simp only [ByteArray.size_append, size_lit, ByteArray.size_extract, List.size_toArray, List.length_cons, List.length_nil, Nat.zero_add, Nat.reduceAdd] at c18b3; have c18b4 := eq_false (Nat.not_lt.2 c18b3))
      by_cases c19 : x5_2.toList = (((⟨#[45, 45]⟩ : ByteArray) ++ a1) ++ (⟨#[45, 45]⟩ : ByteArray)).toList
      ·rw [if_pos c19] at H
       have c19b0 : (x5_2.toList == (((⟨#[45, 45]⟩ : ByteArray) ++ a1) ++ (⟨#[45, 45]⟩ : ByteArray)).toList) = true := beq_iff_eq.mpr c19
       have c19b1 : (x5_2.toList != (((⟨#[45, 45]⟩ : ByteArray) ++ a1) ++ (⟨#[45, 45]⟩ : ByteArray)).toList) = false := bne_eq_false_iff_eq.mpr c19
       clear c19
       obtain rfl := Option.some.inj H
       go_wp2
       go_ret
       exact ⟨by first | rfl | (simp; done) | (simp [*]; done) | (simp [nil_ne]; done), by repeat (first | exact Drawn0.refl _ | apply Drawn0.step)⟩
      ·rw [if_neg c19] at H
       have c19b0 : (x5_2.toList == (((⟨#[45, 45]⟩ : ByteArray) ++ a1) ++ (⟨#[45, 45]⟩ : ByteArray)).toList) = false := beq_eq_false_iff_ne.mpr c19
       have c19b1 : (x5_2.toList != (((⟨#[45, 45]⟩ : ByteArray) ++ a1) ++ (⟨#[45, 45]⟩ : ByteArray)).toList) = true := bne_iff_ne.mpr c19
       obtain rfl := Option.some.inj H
       go_wp2
       go_ret
       exact ⟨by first | rfl | (simp; done) | (simp [*]; done) | (simp [nil_ne]; done), by repeat (first | exact Drawn0.refl _ | apply Drawn0.step)⟩
     ·rw [if_neg c18] at H
      exact absurd H (by simp)
   ·rw [if_neg c16] at H
    exact absurd H (by simp)

end Go.Proofs.YtoikneogdbdplaaDoor.Fn
namespace Go.Proofs.YtoikneogdbdplaaDoor.Fn
open Go.RowKit Go.Proofs.YtoikneogdbdplaaDoorW.PrintWords Go.Proofs.YtoikneogdbdplaaDoorW.PrintLast Go.Proofs.YtoikneogdbdplaaDoorW.PrintMore
attribute [local go_sem] max2_int min2_int max_two min_two max_three min_three max_four min_four
set_option linter.unusedVariables false
set_option linter.unusedSimpArgs false

/-! ### bulletinref20_Free: function 49 -/
mutual
def bulletinref20_Free.l0 : Nat → List ByteArray → ByteArray → Int → Option (Bool)
 | 0, _, _, _ => none
 | k + 1, x0, x1, x5 => if x5 < (x0.length : Int) then (if 0 ≤ x5 then ((bulletinref17_Lines.f k (rdOf ByteArray.empty x0 x5)).bind fun t811 => (bulletinref20_Free.l1 k x0 x1 x5 t811 0)) else (none)) else (some true)
def bulletinref20_Free.l1 : Nat → List ByteArray → ByteArray → Int → List ByteArray → Int → Option (Bool)
 | 0, _, _, _, _, _ => none
 | k + 1, x0, x1, x5, x6, x7 => if x7 < (x6.length : Int) then (if 0 ≤ x7 then ((bulletinref20_What.f k (rdOf ByteArray.empty x6 x7) x1).bind fun t815 => (if t815 = 0 then (bulletinref20_Free.l1 k x0 x1 x5 x6 (wrap64 (x7 + 1))) else (some false))) else (none)) else (bulletinref20_Free.l0 k x0 x1 (wrap64 (x5 + 1)))
end
def bulletinref20_Free.f (k : Nat) (l0 : List ByteArray) (a1 : ByteArray) : Option (Bool) := bulletinref20_Free.l0 k l0 a1 0
set_option maxHeartbeats 8000000 in
set_option maxRecDepth 100000 in
theorem bulletinref20_Free.calls (k : Nat) (A0 : Option Addr) (c0 : Nat) (l0 : List ByteArray) (a1 : ByteArray) (r : Bool) (w : World) (hr0 : Kd.C Kd.string w A0 l0.length l0) (hc0 : l0.length ≤ c0) (h : bulletinref20_Free.f k l0 a1 = some r) :
  Calls Tryd.prog 49 #[.slice A0 l0.length c0, .string a1] w fun e w' => e = .returned (.bool r) ∧ Below w.heap.size w w' := by
 have HR0 := Aside0.mk hr0
 have HC0 := Aside0.mk hc0
 clear hr0 hc0
 have HB := Aside0.mk (Below.refl w.heap.size w)
 have H : (bulletinref20_Free.l0 k l0 a1 0) = some r := h
 clear h
 have H' := Aside0.mk H
 clear H
 go_enter Tryd.func49, Tryd.ntmps49
 go_wp2
 go_loopg [5] k (fun kq v5 w' => ∃ (x5_1 : Int), v5 = .int .i64 x5_1 ∧ Aside0 (bulletinref20_Free.l0 kq l0 a1 x5_1 = some r) ∧ Aside0 (kq ≤ k) ∧ Aside0 (Below w.heap.size w w'))
 case atStart => exact ⟨(0), cl, H', ⟨Nat.le_refl _⟩, ⟨bw⟩⟩
 case round =>
  clear H'
  try clear p2
  obtain ⟨x5_1, rfl, HA, HK1, HB⟩ := hrel
  cases gk with
  | zero => exact absurd HA.out (by simp [bulletinref20_Free.l0])
  | succ k1 =>
   have H := HA.out
   clear HA
   simp only [bulletinref20_Free.l0] at H
   by_cases c3 : x5_1 < (l0.length : Int)
   ·rw [if_pos c3] at H
    have c3b0 : decide (x5_1 < (l0.length : Int)) = true := decide_eq_true c3
    clear c3
    by_cases c4 : 0 ≤ x5_1
    ·rw [if_pos c4] at H
     have c4b0 : decide (0 ≤ x5_1) = true := decide_eq_true c4
     clear c4
     replace H := Option.bind_eq_some_iff.mp H
     obtain ⟨t811, A50, H⟩ := H
     replace H : (bulletinref20_Free.l1 k1 l0 a1 x5_1 t811 0) = some r := H
     have A5 := Aside0.mk A50
     clear A50
     have H' := Aside0.mk H
     clear H
     have p810 : 0 ≤ (x5_1 : Int) := od
     have q810 : x5_1 < (l0.length : Int) := od
     obtain ⟨ad810, e810, hx810_0⟩ := Kd.at_string HR0.out x5_1 p810 q810
     cases e810
     replace hx810_0 := (HB.out.cell (World.block_lt_of_cell? w _ hx810_0)).trans hx810_0
     replace p810 := eq_true p810
     replace q810 := eq_true q810
     go_wp2_with (first | ((with_reducible refine gate_callee (f := 93) rfl ?_); refine goesL_ (some 18) rfl rfl Tryd.func93 (by kernel_rfl) rfl #[.string (rdOf ByteArray.empty l0 x5_1)] rfl am ?_; (with_reducible refine (bulletinref17_Lines.calls k1 (rdOf ByteArray.empty l0 x5_1) t811 _ A5.out).mono ?_); rintro e w6 ⟨v812, rfl, ho0, hb⟩; refine ⟨_, rfl, ?_⟩; have n0_ := Aside0.mk (Kd.R_lower ho0 (below_size bw)); have n1_ := Aside0.mk (below_step bw hb); clear HB; have HO813 := n0_; have HB := n1_; clear n0_ n1_; (try clear hb); (try clear hb2); (try clear hk); (try clear hi); (try clear ho0)))
     go_loopg [7] k1 (fun kq v7 w' => ∃ (x7_2 : Int), v7 = .int .i64 x7_2 ∧ Aside0 (bulletinref20_Free.l1 kq l0 a1 x5_1 t811 x7_2 = some r) ∧ Aside0 (kq ≤ k1) ∧ Aside0 (Kd.R Kd.string 9 w' w.heap.size (fun _ => True) v812 t811) ∧ Aside0 (Below w.heap.size w w'))
     case atStart => exact ⟨(0), cl, H', ⟨Nat.le_refl _⟩, ⟨by (with_reducible repeat (first | apply Kd.R_alloc | apply Kd.R_drewN | apply Kd.R_drew)); exact HO813.out⟩, ⟨bw⟩⟩
     case round =>
      clear H'
      try clear p2
      try clear c3
      try clear c3b0
      try clear c4
      try clear c4b0
      try clear hx810_0
      try clear p2
      try clear p810
      try clear q810
      obtain ⟨x7_2, rfl, HA, HK2, HO_6, HB⟩ := hrel
      cases gk with
      | zero => exact absurd HA.out (by simp [bulletinref20_Free.l1])
      | succ k2 =>
       have H := HA.out
       clear HA
       simp only [bulletinref20_Free.l1] at H
       by_cases c7 : x7_2 < (t811.length : Int)
       ·rw [if_pos c7] at H
        have c7b0 : decide (x7_2 < (t811.length : Int)) = true := decide_eq_true c7
        clear c7
        by_cases c8 : 0 ≤ x7_2
        ·rw [if_pos c8] at H
         have c8b0 : decide (0 ≤ x7_2) = true := decide_eq_true c8
         clear c8
         replace H := Option.bind_eq_some_iff.mp H
         obtain ⟨t815, A90, H⟩ := H
         replace H : (if t815 = 0 then (bulletinref20_Free.l1 k2 l0 a1 x5_1 t811 (wrap64 (x7_2 + 1))) else (some false)) = some r := H
         have A9 := Aside0.mk A90
         clear A90
         by_cases c10 : t815 = 0
         ·rw [if_pos c10] at H
          have c10b0 : (t815 == 0) = true := beq_iff_eq.mpr c10
          have c10b1 : (t815 != 0) = false := bne_eq_false_iff_eq.mpr c10
          clear c10
          have H' := Aside0.mk H
          clear H
          obtain ⟨Ao11, co11, eo11⟩ := Kd.R_slice HO_6.out
          subst eo11
          have p814 : 0 ≤ (x7_2 : Int) := od
          have q814 : x7_2 < (t811.length : Int) := od
          obtain ⟨ad814, e814, hx814_0⟩ := Kd.at_string (Kd.R_reads' HO_6.out).2.2 x7_2 p814 q814
          cases e814
          replace p814 := eq_true p814
          replace q814 := eq_true q814
          go_wp2_with (first | ((with_reducible refine gate_callee (f := 94) rfl ?_); refine goesL_ (some 30) rfl rfl Tryd.func94 (by kernel_rfl) rfl #[.string (rdOf ByteArray.empty t811 x7_2), .string a1] rfl am ?_; (with_reducible refine (bulletinref20_What.calls k2 (rdOf ByteArray.empty t811 x7_2) a1 t815 _ A9.out).mono ?_); rintro e w' ⟨rfl, ⟨nd, rfl⟩⟩; refine ⟨_, rfl, ?_⟩))
          go_roundg k2
          case measure => have := HK1.out; have := HK2.out; omega
          case rel => exact ⟨(wrap64 (x7_2 + 1)), cl, H', ⟨by have := HK1.out; have := HK2.out; omega⟩, ⟨by (with_reducible repeat (first | apply Kd.R_alloc | apply Kd.R_drewN | apply Kd.R_drew)); exact HO_6.out⟩, ⟨bw⟩⟩
         ·rw [if_neg c10] at H
          have c10b0 : (t815 == 0) = false := beq_eq_false_iff_ne.mpr c10
          have c10b1 : (t815 != 0) = true := bne_iff_ne.mpr c10
          obtain rfl := Option.some.inj H
          obtain ⟨Ao12, co12, eo12⟩ := Kd.R_slice HO_6.out
          subst eo12
          have p814 : 0 ≤ (x7_2 : Int) := od
          have q814 : x7_2 < (t811.length : Int) := od
          obtain ⟨ad814, e814, hx814_0⟩ := Kd.at_string (Kd.R_reads' HO_6.out).2.2 x7_2 p814 q814
          cases e814
          replace p814 := eq_true p814
          replace q814 := eq_true q814
          go_wp2_with (first | ((with_reducible refine gate_callee (f := 94) rfl ?_); refine goesL_ (some 30) rfl rfl Tryd.func94 (by kernel_rfl) rfl #[.string (rdOf ByteArray.empty t811 x7_2), .string a1] rfl am ?_; (with_reducible refine (bulletinref20_What.calls k2 (rdOf ByteArray.empty t811 x7_2) a1 t815 _ A9.out).mono ?_); rintro e w' ⟨rfl, ⟨nd, rfl⟩⟩; refine ⟨_, rfl, ?_⟩))
          go_ret
          exact ⟨by first | rfl | (simp [errW_none, errW_some] <;> rfl) | (simp [*, errW_none, errW_some] <;> rfl), bw⟩
        ·rw [if_neg c8] at H
         exact absurd H (by simp)
       ·rw [if_neg c7] at H
        have c7b0 : decide (x7_2 < (t811.length : Int)) = false := decide_eq_false c7
        clear c7
        have H' := Aside0.mk H
        clear H
        obtain ⟨Ao13, co13, eo13⟩ := Kd.R_slice HO_6.out
        subst eo13
        go_wp2
        go_roundg k2
        case measure => have := HK1.out; have := HK2.out; omega
        case rel => exact ⟨(wrap64 (x5_1 + 1)), cl, H', ⟨by have := HK1.out; have := HK2.out; omega⟩, ⟨bw⟩⟩
    ·rw [if_neg c4] at H
     exact absurd H (by simp)
   ·rw [if_neg c3] at H
    have c3b0 : decide (x5_1 < (l0.length : Int)) = false := decide_eq_false c3
    clear c3
    obtain rfl := Option.some.inj H
    go_wp2
    go_ret
    exact ⟨by first | rfl | (simp [errW_none, errW_some] <;> rfl) | (simp [*, errW_none, errW_some] <;> rfl), bw⟩

end Go.Proofs.YtoikneogdbdplaaDoor.Fn
namespace Go.Proofs.YtoikneogdbdplaaDoor.Fn
open Go.RowKit Go.Proofs.YtoikneogdbdplaaDoorW.PrintWords Go.Proofs.YtoikneogdbdplaaDoorW.PrintLast Go.Proofs.YtoikneogdbdplaaDoorW.PrintMore
attribute [local go_sem] max2_int min2_int max_two min_two max_three min_three max_four min_four
set_option linter.unusedVariables false
set_option linter.unusedSimpArgs false

/-! ### bulletinref20_Boundary: function 51 -/
mutual
def bulletinref20_Boundary.l0 : Nat → List ByteArray → Int → Int → Option (ByteArray)
 | 0, _, _, _ => none
 | k + 1, x0, x3, x4 => if x4 < (x0.length : Int) then (if 0 ≤ x4 then ((bulletinref17_Lines.f k (rdOf ByteArray.empty x0 x4)).bind fun t825 => (bulletinref20_Boundary.l0 k x0 (wrap64 (x3 + (t825.length : Int))) (wrap64 (x4 + 1)))) else (none)) else (bulletinref20_Boundary.l1 k x0 x3 0)
def bulletinref20_Boundary.l1 : Nat → List ByteArray → Int → Int → Option (ByteArray)
 | 0, _, _, _ => none
 | k + 1, x0, x3, x5 => if x5 ≤ x3 then ((bulletinref01_Digits.f k x5).bind fun t828 => (if 2 + t828.size ≤ 9223372036854775807 then ((bulletinref20_Free.f k x0 ((⟨#[61, 95]⟩ : ByteArray) ++ t828)).bind fun t829 => (if t829 = true then (some ((⟨#[61, 95]⟩ : ByteArray) ++ t828)) else (bulletinref20_Boundary.l1 k x0 x3 (wrap64 (x5 + 1))))) else (none))) else (some (⟨#[]⟩ : ByteArray))
end
def bulletinref20_Boundary.f (k : Nat) (l0 : List ByteArray) : Option (ByteArray) := bulletinref20_Boundary.l0 k l0 1 0
set_option maxHeartbeats 8000000 in
set_option maxRecDepth 100000 in
theorem bulletinref20_Boundary.calls (k : Nat) (A0 : Option Addr) (c0 : Nat) (l0 : List ByteArray) (r : ByteArray) (w : World) (hr0 : Kd.C Kd.string w A0 l0.length l0) (hc0 : l0.length ≤ c0) (h : bulletinref20_Boundary.f k l0 = some r) :
  Calls Tryd.prog 51 #[.slice A0 l0.length c0] w fun e w' => e = .returned (.string r) ∧ Below w.heap.size w w' := by
 have HR0 := Aside0.mk hr0
 have HC0 := Aside0.mk hc0
 clear hr0 hc0
 have HB := Aside0.mk (Below.refl w.heap.size w)
 have H : (bulletinref20_Boundary.l0 k l0 1 0) = some r := h
 clear h
 have H' := Aside0.mk H
 clear H
 go_enter Tryd.func51, Tryd.ntmps51
 go_wp2
 go_loopg [3, 4] k (fun kq v3 v4 w' => ∃ (x3_1 : Int) (x4_1 : Int), v3 = .int .i64 x3_1 ∧ v4 = .int .i64 x4_1 ∧ Aside0 (bulletinref20_Boundary.l0 kq l0 x3_1 x4_1 = some r) ∧ Aside0 (kq ≤ k) ∧ Aside0 (Below w.heap.size w w'))
 case atStart => exact ⟨(1), (0), cl, cl, H', ⟨Nat.le_refl _⟩, ⟨bw⟩⟩
 case round =>
  clear H'
  obtain ⟨x3_1, x4_1, rfl, rfl, HA, HK1, HB⟩ := hrel
  cases gk with
  | zero => exact absurd HA.out (by simp [bulletinref20_Boundary.l0])
  | succ k1 =>
   have H := HA.out
   clear HA
   simp only [bulletinref20_Boundary.l0] at H
   by_cases c2 : x4_1 < (l0.length : Int)
   ·rw [if_pos c2] at H
    have c2b0 : decide (x4_1 < (l0.length : Int)) = true := decide_eq_true c2
    clear c2
    by_cases c3 : 0 ≤ x4_1
    ·rw [if_pos c3] at H
     have c3b0 : decide (0 ≤ x4_1) = true := decide_eq_true c3
     clear c3
     replace H := Option.bind_eq_some_iff.mp H
     obtain ⟨t825, A40, H⟩ := H
     replace H : (bulletinref20_Boundary.l0 k1 l0 (wrap64 (x3_1 + (t825.length : Int))) (wrap64 (x4_1 + 1))) = some r := H
     have A4 := Aside0.mk A40
     clear A40
     have H' := Aside0.mk H
     clear H
     have p824 : 0 ≤ (x4_1 : Int) := od
     have q824 : x4_1 < (l0.length : Int) := od
     obtain ⟨ad824, e824, hx824_0⟩ := Kd.at_string HR0.out x4_1 p824 q824
     cases e824
     replace hx824_0 := (HB.out.cell (World.block_lt_of_cell? w _ hx824_0)).trans hx824_0
     replace p824 := eq_true p824
     replace q824 := eq_true q824
     go_wp2_with (first | ((with_reducible refine gate_callee (f := 93) rfl ?_); refine goesL_ (some 18) rfl rfl Tryd.func93 (by kernel_rfl) rfl #[.string (rdOf ByteArray.empty l0 x4_1)] rfl am ?_; (with_reducible refine (bulletinref17_Lines.calls k1 (rdOf ByteArray.empty l0 x4_1) t825 _ A4.out).mono ?_); rintro e w5 ⟨v826, rfl, ho0, hb⟩; refine ⟨_, rfl, ?_⟩; have n0_ := Aside0.mk (Kd.R_lower ho0 (below_size bw)); have n1_ := Aside0.mk (below_step bw hb); clear HB; have HO827 := n0_; have HB := n1_; clear n0_ n1_; (try clear hb); (try clear hb2); (try clear hk); (try clear hi); (try clear ho0); obtain ⟨Ao6, co6, eo6⟩ := Kd.R_slice HO827.out; subst eo6))
     go_roundg k1
     case measure => have := HK1.out; omega
     case rel => exact ⟨(wrap64 (x3_1 + (t825.length : Int))), (wrap64 (x4_1 + 1)), cl, cl, H', ⟨by have := HK1.out; omega⟩, ⟨bw⟩⟩
    ·rw [if_neg c3] at H
     exact absurd H (by simp)
   ·rw [if_neg c2] at H
    have c2b0 : decide (x4_1 < (l0.length : Int)) = false := decide_eq_false c2
    clear c2
    have H' := Aside0.mk H
    clear H
    go_wp2
    go_loopg [5] k1 (fun kq v5 w' => ∃ (x5_2 : Int), v5 = .int .i64 x5_2 ∧ Aside0 (bulletinref20_Boundary.l1 kq l0 x3_1 x5_2 = some r) ∧ Aside0 (kq ≤ k1) ∧ Aside0 (Below w.heap.size w w'))
    case atStart => exact ⟨(0), cl, H', ⟨Nat.le_refl _⟩, ⟨bw⟩⟩
    case round =>
     clear H'
     try clear c2
     try clear c2b0
     try clear p2
     try clear c3
     try clear c3b0
     try clear c5
     try clear p6
     try clear hx824_0
     try clear p824
     try clear q824
     obtain ⟨x5_2, rfl, HA, HK2, HB⟩ := hrel
     cases gk with
     | zero => exact absurd HA.out (by simp [bulletinref20_Boundary.l1])
     | succ k2 =>
      have H := HA.out
      clear HA
      simp only [bulletinref20_Boundary.l1] at H
      by_cases c7 : x5_2 ≤ x3_1
      ·rw [if_pos c7] at H
       have c7b0 : decide (x5_2 ≤ x3_1) = true := decide_eq_true c7
       clear c7
       replace H := Option.bind_eq_some_iff.mp H
       obtain ⟨t828, A80, H⟩ := H
       replace H : (if 2 + t828.size ≤ 9223372036854775807 then ((bulletinref20_Free.f k2 l0 ((⟨#[61, 95]⟩ : ByteArray) ++ t828)).bind fun t829 => (if t829 = true then (some ((⟨#[61, 95]⟩ : ByteArray) ++ t828)) else (bulletinref20_Boundary.l1 k2 l0 x3_1 (wrap64 (x5_2 + 1))))) else (none)) = some r := H
       have A8 := Aside0.mk A80
       clear A80
       by_cases c9 : 2 + t828.size ≤ 9223372036854775807
       ·rw [if_pos c9] at H
        have c9b0 := eq_true c9
        have c9b1 : decide (2 + t828.size ≤ 9223372036854775807) = true := decide_eq_true c9
        try have c9b2 : (9223372036854775807 < 2 + t828.size) = False := eq_false (Nat.not_lt.2 c9)
        replace H := Option.bind_eq_some_iff.mp H
        obtain ⟨t829, A100, H⟩ := H
        replace H : (if t829 = true then (some ((⟨#[61, 95]⟩ : ByteArray) ++ t828)) else (bulletinref20_Boundary.l1 k2 l0 x3_1 (wrap64 (x5_2 + 1)))) = some r := H
        have A10 := Aside0.mk A100
        clear A100
        by_cases c11 : t829 = true
        ·subst c11
         have H1 : (some ((⟨#[61, 95]⟩ : ByteArray) ++ t828)) = some r := by rw [if_pos rfl] at H; exact H
         clear H
         have H := H1
         clear H1
         obtain rfl := Option.some.inj H
         go_wp2_with (first | ((with_reducible refine gate_callee (f := 95) rfl ?_); refine goesL_ (some 27) rfl rfl Tryd.func95 (by kernel_rfl) rfl #[.int .i64 x5_2] rfl am ?_; (with_reducible refine (bulletinref01_Digits.calls k2 x5_2 t828 _ A8.out).mono ?_); rintro e w12 ⟨rfl, hb⟩; refine ⟨_, rfl, ?_⟩; have n0_ := Aside0.mk (below_step bw hb); clear HB; have HB := n0_; clear n0_; (try clear hb); (try clear hb2); (try clear hk); (try clear hi)) | ((with_reducible refine gate_callee (f := 49) rfl ?_); refine goesL_ (some 31) rfl rfl Tryd.func49 (by kernel_rfl) rfl #[.slice A0 l0.length c0, .string ((⟨#[61, 95]⟩ : ByteArray) ++ t828)] rfl am ?_; (with_reducible refine (bulletinref20_Free.calls k2 _ _ l0 ((⟨#[61, 95]⟩ : ByteArray) ++ t828) true _ ?side1 ?side2 A10.out).mono ?_); (case side1 => repeat (first | exact (Kd.C_below HR0.out HB.out) | (with_reducible refine Kd.C_alloc ?_ _) | (with_reducible refine Kd.C_drewN ?_ _) | (with_reducible refine Kd.C_drew ?_))); (case side2 => exact HC0.out); rintro e w13 ⟨rfl, hb⟩; refine ⟨_, rfl, ?_⟩; have n0_ := Aside0.mk (below_step bw hb); clear HB; have HB := n0_; clear n0_; (try clear hb); (try clear hb2); (try clear hk); (try clear hi)))
         go_ret
         exact ⟨by first | rfl | (simp [errW_none, errW_some] <;> rfl) | (simp [*, errW_none, errW_some] <;> rfl), bw⟩
        ·replace c11 := Bool.eq_false_iff.mpr c11
         subst c11
         have H1 : (bulletinref20_Boundary.l1 k2 l0 x3_1 (wrap64 (x5_2 + 1))) = some r := by rw [if_neg (show ¬ (false = true) by decide)] at H; exact H
         clear H
         have H := H1
         clear H1
         have H' := Aside0.mk H
         clear H
         go_wp2_with (first | ((with_reducible refine gate_callee (f := 95) rfl ?_); refine goesL_ (some 27) rfl rfl Tryd.func95 (by kernel_rfl) rfl #[.int .i64 x5_2] rfl am ?_; (with_reducible refine (bulletinref01_Digits.calls k2 x5_2 t828 _ A8.out).mono ?_); rintro e w14 ⟨rfl, hb⟩; refine ⟨_, rfl, ?_⟩; have n0_ := Aside0.mk (below_step bw hb); clear HB; have HB := n0_; clear n0_; (try clear hb); (try clear hb2); (try clear hk); (try clear hi)) | ((with_reducible refine gate_callee (f := 49) rfl ?_); refine goesL_ (some 31) rfl rfl Tryd.func49 (by kernel_rfl) rfl #[.slice A0 l0.length c0, .string ((⟨#[61, 95]⟩ : ByteArray) ++ t828)] rfl am ?_; (with_reducible refine (bulletinref20_Free.calls k2 _ _ l0 ((⟨#[61, 95]⟩ : ByteArray) ++ t828) false _ ?side1 ?side2 A10.out).mono ?_); (case side1 => repeat (first | exact (Kd.C_below HR0.out HB.out) | (with_reducible refine Kd.C_alloc ?_ _) | (with_reducible refine Kd.C_drewN ?_ _) | (with_reducible refine Kd.C_drew ?_))); (case side2 => exact HC0.out); rintro e w15 ⟨rfl, hb⟩; refine ⟨_, rfl, ?_⟩; have n0_ := Aside0.mk (below_step bw hb); clear HB; have HB := n0_; clear n0_; (try clear hb); (try clear hb2); (try clear hk); (try clear hi)))
         go_roundg k2
         case measure => have := HK1.out; have := HK2.out; omega
         case rel => exact ⟨(wrap64 (x5_2 + 1)), cl, H', ⟨by have := HK1.out; have := HK2.out; omega⟩, ⟨bw⟩⟩
       ·rw [if_neg c9] at H
        exact absurd H (by simp)
      ·rw [if_neg c7] at H
       have c7b0 : decide (x5_2 ≤ x3_1) = false := decide_eq_false c7
       clear c7
       obtain rfl := Option.some.inj H
       go_wp2
       go_ret
       exact ⟨by first | rfl | (simp [errW_none, errW_some] <;> rfl) | (simp [*, errW_none, errW_some] <;> rfl), bw⟩

end Go.Proofs.YtoikneogdbdplaaDoor.Fn
namespace Go.Proofs.YtoikneogdbdplaaDoor.Fn
open Go.RowKit Go.Proofs.YtoikneogdbdplaaDoorW.PrintWords Go.Proofs.YtoikneogdbdplaaDoorW.PrintLast Go.Proofs.YtoikneogdbdplaaDoorW.PrintMore
attribute [local go_sem] max2_int min2_int max_two min_two max_three min_three max_four min_four
set_option linter.unusedVariables false
set_option linter.unusedSimpArgs false

/-! ### bulletinref20_Join: function 48 -/
def bulletinref20_Join.l0 : Nat → List ByteArray → ByteArray → ByteArray → Int → Option (ByteArray)
 | 0, _, _, _, _ => none
 | k + 1, x0, x1, x5, x6 => if x6 < (x0.length : Int) then (if x5.size + 2 ≤ 9223372036854775807 then (if (x5 ++ (⟨#[45, 45]⟩ : ByteArray)).size + x1.size ≤ 9223372036854775807 then (if ((x5 ++ (⟨#[45, 45]⟩ : ByteArray)) ++ x1).size + 2 ≤ 9223372036854775807 then (if 0 ≤ x6 then (if (((x5 ++ (⟨#[45, 45]⟩ : ByteArray)) ++ x1) ++ (⟨#[13, 10]⟩ : ByteArray)).size + (rdOf ByteArray.empty x0 x6).size ≤ 9223372036854775807 then (if ((((x5 ++ (⟨#[45, 45]⟩ : ByteArray)) ++ x1) ++ (⟨#[13, 10]⟩ : ByteArray)) ++ (rdOf ByteArray.empty x0 x6)).size + 2 ≤ 9223372036854775807 then (bulletinref20_Join.l0 k x0 x1 (((((x5 ++ (⟨#[45, 45]⟩ : ByteArray)) ++ x1) ++ (⟨#[13, 10]⟩ : ByteArray)) ++ (rdOf ByteArray.empty x0 x6)) ++ (⟨#[13, 10]⟩ : ByteArray)) (wrap64 (x6 + 1))) else (none)) else (none)) else (none)) else (none)) else (none)) else (none)) else (if x5.size + 2 ≤ 9223372036854775807 then (if (x5 ++ (⟨#[45, 45]⟩ : ByteArray)).size + x1.size ≤ 9223372036854775807 then (if ((x5 ++ (⟨#[45, 45]⟩ : ByteArray)) ++ x1).size + 4 ≤ 9223372036854775807 then (some (((x5 ++ (⟨#[45, 45]⟩ : ByteArray)) ++ x1) ++ (⟨#[45, 45, 13, 10]⟩ : ByteArray))) else (none)) else (none)) else (none))
def bulletinref20_Join.f (k : Nat) (l0 : List ByteArray) (a1 : ByteArray) : Option (ByteArray) := bulletinref20_Join.l0 k l0 a1 (⟨#[]⟩ : ByteArray) 0
set_option maxHeartbeats 8000000 in
set_option maxRecDepth 100000 in
theorem bulletinref20_Join.calls (k : Nat) (A0 : Option Addr) (c0 : Nat) (l0 : List ByteArray) (a1 : ByteArray) (r : ByteArray) (w : World) (hr0 : Kd.C Kd.string w A0 l0.length l0) (hc0 : l0.length ≤ c0) (h : bulletinref20_Join.f k l0 a1 = some r) :
  Calls Tryd.prog 48 #[.slice A0 l0.length c0, .string a1] w fun e w' => e = .returned (.string r) ∧ Drawn0 w w' := by
 have HR0 := Aside0.mk hr0
 have HC0 := Aside0.mk hc0
 clear hr0 hc0
 have H : (bulletinref20_Join.l0 k l0 a1 (⟨#[]⟩ : ByteArray) 0) = some r := h
 clear h
 have H' := Aside0.mk H
 clear H
 go_enter Tryd.func48, Tryd.ntmps48
 go_wp2
 go_loopg [5, 6] k (fun kq v5 v6 w' => ∃ (x5_1 : ByteArray) (x6_1 : Int), v5 = .string x5_1 ∧ v6 = .int .i64 x6_1 ∧ Aside0 (bulletinref20_Join.l0 kq l0 a1 x5_1 x6_1 = some r) ∧ Aside0 (kq ≤ k) ∧ Drawn0 w w')
 case atStart => exact ⟨((⟨#[]⟩ : ByteArray)), (0), cl, cl, H', ⟨Nat.le_refl _⟩, by repeat (first | exact Drawn0.refl _ | apply Drawn0.step)⟩
 case round =>
  clear H'
  try clear p2
  obtain ⟨x5_1, x6_1, rfl, rfl, HA, HK1, ⟨m1, rfl⟩⟩ := hrel
  cases gk with
  | zero => exact absurd HA.out (by simp [bulletinref20_Join.l0])
  | succ k1 =>
   have H := HA.out
   clear HA
   simp only [bulletinref20_Join.l0] at H
   by_cases c3 : x6_1 < (l0.length : Int)
   ·rw [if_pos c3] at H
    have c3b0 : decide (x6_1 < (l0.length : Int)) = true := decide_eq_true c3
    clear c3
    by_cases c4 : x5_1.size + 2 ≤ 9223372036854775807
    ·rw [if_pos c4] at H
     have c4b0 := eq_true c4
     have c4b1 : decide (x5_1.size + 2 ≤ 9223372036854775807) = true := decide_eq_true c4
     try have c4b2 : (9223372036854775807 < x5_1.size + 2) = False := eq_false (Nat.not_lt.2 c4)
     by_cases c5 : (x5_1 ++ (⟨#[45, 45]⟩ : ByteArray)).size + a1.size ≤ 9223372036854775807
     ·rw [if_pos c5] at H
      have c5b0 := eq_true c5
      have c5b1 : decide ((x5_1 ++ (⟨#[45, 45]⟩ : ByteArray)).size + a1.size ≤ 9223372036854775807) = true := decide_eq_true c5
      try have c5b2 : (9223372036854775807 < (x5_1 ++ (⟨#[45, 45]⟩ : ByteArray)).size + a1.size) = False := eq_false (Nat.not_lt.2 c5)
      try (have c5b3 := c5; simp only [ByteArray.size_append, size_lit, ByteArray.size_extract, List.size_toArray, List.length_cons, List.length_nil, Nat.zero_add, Nat.reduceAdd] at c5b3; have c5b4 := eq_false (Nat.not_lt.2 c5b3))
      by_cases c6 : ((x5_1 ++ (⟨#[45, 45]⟩ : ByteArray)) ++ a1).size + 2 ≤ 9223372036854775807
      ·rw [if_pos c6] at H
       have c6b0 := eq_true c6
       have c6b1 : decide (((x5_1 ++ (⟨#[45, 45]⟩ : ByteArray)) ++ a1).size + 2 ≤ 9223372036854775807) = true := decide_eq_true c6
       try have c6b2 : (9223372036854775807 < ((x5_1 ++ (⟨#[45, 45]⟩ : ByteArray)) ++ a1).size + 2) = False := eq_false (Nat.not_lt.2 c6)
       try (have c6b3 := c6; simp only [ByteArray.size_append, size_lit, ByteArray.size_extract, List.size_toArray, List.length_cons, List.length_nil, Nat.zero_add, Nat.reduceAdd] at c6b3; have c6b4 := eq_false (Nat.not_lt.2 c6b3))
       by_cases c7 : 0 ≤ x6_1
       ·rw [if_pos c7] at H
        have c7b0 : decide (0 ≤ x6_1) = true := decide_eq_true c7
        clear c7
        by_cases c8 : (((x5_1 ++ (⟨#[45, 45]⟩ : ByteArray)) ++ a1) ++ (⟨#[13, 10]⟩ : ByteArray)).size + (rdOf ByteArray.empty l0 x6_1).size ≤ 9223372036854775807
        ·rw [if_pos c8] at H
         have c8b0 := eq_true c8
         have c8b1 : decide ((((x5_1 ++ (⟨#[45, 45]⟩ : ByteArray)) ++ a1) ++ (⟨#[13, 10]⟩ : ByteArray)).size + (rdOf ByteArray.empty l0 x6_1).size ≤ 9223372036854775807) = true := decide_eq_true c8
         try have c8b2 : (9223372036854775807 < (((x5_1 ++ (⟨#[45, 45]⟩ : ByteArray)) ++ a1) ++ (⟨#[13, 10]⟩ : ByteArray)).size + (rdOf ByteArray.empty l0 x6_1).size) = False := eq_false (Nat.not_lt.2 c8)
         try (have c8b3 := c8; simp only [ByteArray.size_append, size_lit, ByteArray.size_extract, List.size_toArray, List.length_cons, List.length_nil, Nat.zero_add, Nat.reduceAdd] at c8b3; have c8b4 := eq_false (Nat.not_lt.2 c8b3))
         by_cases c9 : ((((x5_1 ++ (⟨#[45, 45]⟩ : ByteArray)) ++ a1) ++ (⟨#[13, 10]⟩ : ByteArray)) ++ (rdOf ByteArray.empty l0 x6_1)).size + 2 ≤ 9223372036854775807
         ·rw [if_pos c9] at H
          have c9b0 := eq_true c9
          have c9b1 : decide (((((x5_1 ++ (⟨#[45, 45]⟩ : ByteArray)) ++ a1) ++ (⟨#[13, 10]⟩ : ByteArray)) ++ (rdOf ByteArray.empty l0 x6_1)).size + 2 ≤ 9223372036854775807) = true := decide_eq_true c9
          try have c9b2 : (9223372036854775807 < ((((x5_1 ++ (⟨#[45, 45]⟩ : ByteArray)) ++ a1) ++ (⟨#[13, 10]⟩ : ByteArray)) ++ (rdOf ByteArray.empty l0 x6_1)).size + 2) = False := eq_false (Nat.not_lt.2 c9)
          try (have c9b3 := c9; simp only [ByteArray.size_append, size_lit, ByteArray.size_extract, List.size_toArray, List.length_cons, List.length_nil, Nat.zero_add, Nat.reduceAdd] at c9b3; have c9b4 := eq_false (Nat.not_lt.2 c9b3))
          have H' := Aside0.mk H
          clear H
          have p803 : 0 ≤ (x6_1 : Int) := od
          have q803 : x6_1 < (l0.length : Int) := od
          obtain ⟨ad803, e803, hx803_0⟩ := Kd.at_string HR0.out x6_1 p803 q803
          cases e803
          replace p803 := eq_true p803
          replace q803 := eq_true q803
          go_wp2
          go_roundg k1
          case measure => have := HK1.out; omega
          case rel => exact ⟨(((((x5_1 ++ (⟨#[45, 45]⟩ : ByteArray)) ++ a1) ++ (⟨#[13, 10]⟩ : ByteArray)) ++ (rdOf ByteArray.empty l0 x6_1)) ++ (⟨#[13, 10]⟩ : ByteArray)), (wrap64 (x6_1 + 1)), cl, cl, H', ⟨by have := HK1.out; omega⟩, by repeat (first | exact Drawn0.refl _ | apply Drawn0.step)⟩
         ·rw [if_neg c9] at H
          exact absurd H (by simp)
        ·rw [if_neg c8] at H
         exact absurd H (by simp)
       ·rw [if_neg c7] at H
        exact absurd H (by simp)
      ·rw [if_neg c6] at H
       exact absurd H (by simp)
     ·rw [if_neg c5] at H
      exact absurd H (by simp)
    ·rw [if_neg c4] at H
     exact absurd H (by simp)
   ·rw [if_neg c3] at H
    have c3b0 : decide (x6_1 < (l0.length : Int)) = false := decide_eq_false c3
    clear c3
    by_cases c10 : x5_1.size + 2 ≤ 9223372036854775807
    ·rw [if_pos c10] at H
     have c10b0 := eq_true c10
     have c10b1 : decide (x5_1.size + 2 ≤ 9223372036854775807) = true := decide_eq_true c10
     try have c10b2 : (9223372036854775807 < x5_1.size + 2) = False := eq_false (Nat.not_lt.2 c10)
     by_cases c11 : (x5_1 ++ (⟨#[45, 45]⟩ : ByteArray)).size + a1.size ≤ 9223372036854775807
     ·rw [if_pos c11] at H
      have c11b0 := eq_true c11
      have c11b1 : decide ((x5_1 ++ (⟨#[45, 45]⟩ : ByteArray)).size + a1.size ≤ 9223372036854775807) = true := decide_eq_true c11
      try have c11b2 : (9223372036854775807 < (x5_1 ++ (⟨#[45, 45]⟩ : ByteArray)).size + a1.size) = False := eq_false (Nat.not_lt.2 c11)
      try (have c11b3 := c11; simp only [ByteArray.size_append, size_lit, ByteArray.size_extract, List.size_toArray, List.length_cons, List.length_nil, Nat.zero_add, Nat.reduceAdd] at c11b3; have c11b4 := eq_false (Nat.not_lt.2 c11b3))
      by_cases c12 : ((x5_1 ++ (⟨#[45, 45]⟩ : ByteArray)) ++ a1).size + 4 ≤ 9223372036854775807
      ·rw [if_pos c12] at H
       have c12b0 := eq_true c12
       have c12b1 : decide (((x5_1 ++ (⟨#[45, 45]⟩ : ByteArray)) ++ a1).size + 4 ≤ 9223372036854775807) = true := decide_eq_true c12
       try have c12b2 : (9223372036854775807 < ((x5_1 ++ (⟨#[45, 45]⟩ : ByteArray)) ++ a1).size + 4) = False := eq_false (Nat.not_lt.2 c12)
       try (have c12b3 := c12; simp only [ByteArray.size_append, size_lit, ByteArray.size_extract, List.size_toArray, List.length_cons, List.length_nil, Nat.zero_add, Nat.reduceAdd] at c12b3; have c12b4 := eq_false (Nat.not_lt.2 c12b3))
       obtain rfl := Option.some.inj H
       go_wp2
       go_ret
       exact ⟨by first | rfl | (simp; done) | (simp [*]; done) | (simp [nil_ne]; done), by repeat (first | exact Drawn0.refl _ | apply Drawn0.step)⟩
      ·rw [if_neg c12] at H
       exact absurd H (by simp)
     ·rw [if_neg c11] at H
      exact absurd H (by simp)
    ·rw [if_neg c10] at H
     exact absurd H (by simp)

end Go.Proofs.YtoikneogdbdplaaDoor.Fn
set_option linter.unusedVariables false
set_option linter.unusedSimpArgs false
namespace Go.Proofs.YtoikneogdbdplaaDoor.Pl
open Go.RowKit Go.Proofs.YtoikneogdbdplaaDoorW.PrintWords Go.Proofs.YtoikneogdbdplaaDoor.Fn
def freeX (b x : ByteArray) : Bool := !(whatP x b || whatC x b)
def freeP (b p : ByteArray) : Bool := (linesL p).all (freeX b)
def freeL (b : ByteArray) (l : List ByteArray) : Bool := l.all (freeP b)
end Go.Proofs.YtoikneogdbdplaaDoor.Pl
namespace Go.Proofs.YtoikneogdbdplaaDoor.Fn
open Go.RowKit Go.Shelf Go.Proofs.YtoikneogdbdplaaDoorW.PrintWords

def mime_Free.f (l0 : List ByteArray) (a1 : ByteArray) : Option Bool := if l0.length ≤ 1000000 then (if a1.size ≤ 1000000 then (if l0.all (fun x => decide (x.size ≤ 1000000)) = true then some (Pl.freeL a1 l0) else none) else none) else none

structure BelowBut (Z b : Nat) (A W : World) : Prop where
  os : W.os = A.os
  tape : W.tape = A.tape
  output : W.output = A.output
  size : A.heap.size ≤ W.heap.size
  block : ∀ k, k < Z → k ≠ b → W.heap[k]? = A.heap[k]?
theorem BelowBut.of {Z b : Nat} {A W : World} (h : Below Z A W) (u : Value) : BelowBut Z b A (W.setCell ⟨b, 0, none⟩ u) :=
  ⟨h.os, h.tape, h.output, by simp [World.setCell]; exact h.size, fun k hk hn => by rw [Below.heap_setCell _ _ _ _ hn]; exact h.block k hk⟩
theorem BelowBut.grown {Z b : Nat} {A W W' : World} {row : Option Nat} (h : BelowBut Z b A W) (hg : W.grownBy W' row) (hZ : Z ≤ W.heap.size) (hr : ∀ k, row = some k → Z ≤ k) : BelowBut Z b A W' :=
  ⟨hg.os.trans h.os, hg.tape.trans h.tape, hg.output.trans h.output, Nat.le_trans h.size hg.size, fun k hk hn => (hg.block k (by omega) (fun e => by have := hr k e.symm; omega)).trans (h.block k hk hn)⟩
theorem ownFrom_but {β : Type} {Z b B : Nat} {A : World} (hZ : Z ≤ A.heap.size) (hB : Z ≤ B) : OwnFrom B (fun (_ : β) W => BelowBut Z b A W) := fun s W W' row hs hg hr =>
  hs.grown hg (Nat.le_trans hZ hs.size) (fun k hk => Nat.le_trans hB (hr k hk).1)
theorem BelowBut.to {Z b B : Nat} {A W : World} (h : BelowBut Z b A W) (hb : B ≤ b) (hZ : B ≤ Z) : Below B A W := ⟨h.os, h.tape, h.output, h.size, fun k hk => h.block k (by omega) (by omega)⟩
theorem belowK_m {B : Nat} {A W : World} {d : Nat} (h : Below B A W) (hB : B ≤ d) (ho : W.heap[d]? = some (.deferred (some []))) : Below B A (W.putObj d (.deferred none)) :=
  h.trans ⟨rfl, rfl, rfl, by simp, fun k hk => World.putObj_heap_other (by omega)⟩
def markD (d : Nat) : Deferred := { target := .collected d, args := #[] }
def openM (W : World) (d : Nat) : Prop := W.heap[d]? = some (.deferred (some []))
theorem leaves_marks {P : Program} {F : Fence} {n : Nat} {fn : Func} {tmps : Array Value} {R : Ending → World → Prop} {u : FrameMode} (hu : u ≠ .run) (K : World → Prop) (L : Nat) (hK : ∀ W d, K W → L ≤ d → openM W d → K (W.putObj d (.deferred none)))
    (hend : ∀ W, K W → LeavesIn F n P fn tmps R [] u W) : ∀ (ds : List Nat) (W : World), ds.Nodup → (∀ d ∈ ds, L ≤ d ∧ openM W d) → K W → LeavesInM F n P fn tmps R (ds.map markD) u W
  | [], W, _, _, h => hend W h
  | d :: ds, W, hn, hd, h => by
    obtain ⟨h1, h2⟩ := hd d (by simp)
    refine ⟨hu, .inl ⟨d, _, rfl, run_takeDeferred h2, ?_⟩⟩
    rw [List.nodup_cons] at hn
    refine leaves_marks hu K L hK hend ds _ hn.2 (fun e he => ?_) (hK W d h h1 h2)
    obtain ⟨h3, h4⟩ := hd e (by simp [he])
    have hne : e ≠ d := fun q => hn.1 (q ▸ he)
    exact ⟨h3, (World.putObj_heap_other hne).trans h4⟩

structure FI (b0 b1 : Nat) (a1 : ByteArray) (w : World) (ds : List Nat) (W : World) : Prop where
  ord : b0 < b1
  c0 : W.cell? ⟨b0, 0, none⟩ = some (.string a1)
  c1 : W.cell? ⟨b1, 0, none⟩ = some (.bool false)
  f1 : W.frozen? ⟨b1, 0, none⟩ = false
  bel : Below w.heap.size w W
  marks : ∀ d ∈ ds, b1 < d ∧ openM W d
  nodup : ds.Nodup
theorem openM_lt {W : World} {d : Nat} (h : openM W d) : d < W.heap.size := (Array.getElem?_eq_some_iff.1 h).1
theorem FI.below {b0 b1 : Nat} {a1 : ByteArray} {w W W' : World} {ds : List Nat} (h : FI b0 b1 a1 w ds W) (hw : w.heap.size ≤ b0) (hb : Below W.heap.size W W') : FI b0 b1 a1 w ds W' :=
  ⟨h.ord, (hb.cell (cell_inside h.c0)).trans h.c0, (hb.cell (cell_inside h.c1)).trans h.c1, (hb.frozen (cell_inside h.c1)).trans h.f1, h.bel.trans (hb.mono h.bel.size), fun d hd => ⟨(h.marks d hd).1, (hb.block d (openM_lt (h.marks d hd).2)).trans (h.marks d hd).2⟩, h.nodup⟩

attribute [local go_sem] Oper.semAt_some
set_option maxHeartbeats 4000000 in
set_option maxRecDepth 100000 in
theorem mime_Free.calls (A0 : Option Addr) (c0 : Nat) (l0 : List ByteArray) (a1 : ByteArray) (r : Bool) (w : World) (hG : Glob w) (hr0 : Kd.C Kd.string w A0 l0.length l0) (hc0 : l0.length ≤ c0) (h : mime_Free.f l0 a1 = some r) :
    Calls Tryd.prog 37 #[.slice A0 l0.length c0, .string a1] w fun e w' => e = .returned (.bool r) ∧ Below w.heap.size w w' := by
  unfold mime_Free.f at h
  by_cases hs : l0.length ≤ 1000000
  case neg => rw [if_neg hs] at h; exact absurd h (by simp)
  rw [if_pos hs] at h
  by_cases hs1 : a1.size ≤ 1000000
  case neg => rw [if_neg hs1] at h; exact absurd h (by simp)
  rw [if_pos hs1] at h
  by_cases hs2 : l0.all (fun x => decide (x.size ≤ 1000000)) = true
  case neg => rw [if_neg hs2] at h; exact absurd h (by simp)
  rw [if_pos hs2] at h
  have HR := Aside0.mk (Option.some.inj h)
  have HO := Aside0.mk hs2
  have HG := Aside0.mk hG
  have HC := Aside0.mk hr0
  clear h hs2 hG hr0
  have h1 : 1 ≤ 3 := by decide
  have k0 := box_cell w (.string a1) 9
  have k1 := box_cell (w.alloc (.cells #[.string a1] 9)) (.bool false) 4
  rw [World.size_alloc] at k1
  obtain ⟨w0, hw0⟩ : ∃ w0, (w.alloc (.cells #[.string a1] 9)).alloc (.cells #[.bool false] 4) = w0 := ⟨_, rfl⟩
  have F0 : FI w.heap.size (w.heap.size + 1) a1 w [] w0 := by
    rw [← hw0]
    exact ⟨by omega, cell_on _ k0.1, k1.1, k1.2, ((Below.refl _ w).alloc (Nat.le_refl _) _).alloc (by simp) _, fun d hd => (by cases hd), List.nodup_nil⟩
  clear k0 k1
  obtain ⟨b1, e1⟩ : ∃ b, w.heap.size + 1 = b := ⟨_, rfl⟩
  have hgl : 0 < w.heap.size := by
    obtain ⟨m, hm⟩ := HG.out.max
    exact cell_inside hm
  refine (callsIn_wide (n := 3)).1 ?_
  refine callsIn_of_wp_marks Tryd.func37 rfl trivial ?_ rfl
  simp only [Tryd.ntmps37, List.size_toArray, List.length_cons, List.length_nil, Nat.reduceAdd, Nat.reduceSub, Array.replicate_succ, Array.replicate_zero, List.push_toArray, List.append_toArray, List.nil_append, List.cons_append]
  gi_wp2
  refine wpIn_loop (fun a' W => ∃ (i : Nat) (ds : List Nat) (u6 u7 u11 u12 u13 u14 u15 u16 u17 u18 u19 u20 u21 u22 u23 u24 u25 : Value), i ≤ l0.length ∧ (l0.take i).all (Pl.freeP a1) = true ∧ Aside0 (FI w.heap.size b1 a1 w ds W) ∧
    a' = { tmps := #[.slice A0 l0.length c0, .string a1, undef, .pointer (some ⟨w.heap.size, 0, none⟩), .pointer (some ⟨b1, 0, none⟩), undef, u6, u7, .slice A0 l0.length c0, .int .i64 (l0.length : Int), .int .i64 (i : Int), u11, u12, u13, u14, u15, u16, u17, u18, u19, u20, u21, u22, u23, u24, u25], defers := ds.map markD })
    (fun a' _ => l0.length - (intOf (a'.tmps.getD 10 undef)).toNat) ?start ?round
  case start => exact ⟨0, [], _, _, _, _, _, _, _, _, _, _, _, _, _, _, _, _, _, Nat.zero_le _, rfl, ⟨by rw [← e1]; exact F0⟩, by rw [← e1]; rfl⟩
  case round =>
    rintro a' wr ⟨i, ds, u6, u7, u11, u12, u13, u14, u15, u16, u17, u18, u19, u20, u21, u22, u23, u24, u25, hi, hall, hFI, rfl⟩
    have f1 := hFI.out.c1
    have ff1 := hFI.out.f1
    by_cases hlt : i < l0.length
    · have hx := of_decide_eq_true (List.all_eq_true.1 HO.out (l0[i]'hlt) (List.getElem_mem hlt))
      have htk := List.take_succ_eq_append_getElem hlt
      obtain ⟨bk, o, e0, hbk, hcells⟩ := strings_at HC.out (by omega)
      subst e0
      have hx0 := hcells i (l0[i]'hlt) (List.getElem?_eq_getElem hlt)
      replace hx0 := (hFI.out.bel.cell (World.block_lt_of_cell? w _ hx0)).trans hx0
      have hmem : (Pl.freeL a1 l0 = false ∨ Pl.freeP a1 (l0[i]'hlt) = true) := by
        cases hq : Pl.freeP a1 (l0[i]'hlt) with
        | true => exact .inr rfl
        | false => exact .inl (by
            unfold Pl.freeL
            rw [List.all_eq_false]
            exact ⟨_, List.getElem_mem hlt, by rw [hq]; decide⟩)
      have HTK := Aside0.mk htk
      clear htk hcells
      generalize l0[i]'hlt = p at *
      have c1 : ((0 : Int) ≤ (i : Int)) = True := eq_true (by omega)
      have c2 : ((i : Int) < (l0.length : Int)) = True := eq_true (by omega)
      have c3 : decide ((i : Int) < (l0.length : Int)) = true := decide_eq_true (by omega)
      gi_wp2_with (refine ⟨trivial, ?_⟩; gi_at_call 73; refine (callsIn_wide.2 (SplitSeq_calls _ _ _)).mono ?_; rintro e W2 ⟨rfl, hbx, hz, hB2⟩)
      obtain ⟨BS, hBS⟩ : ∃ BS, wr.heap.size = BS := ⟨_, rfl⟩
      have hwr := hFI.out.bel.size
      have F2 := hFI.out.below (Nat.le_refl _) hB2
      have hb1 : b1 < BS := by rw [← hBS]; exact cell_inside hFI.out.c1
      have hmk : ∀ d ∈ ds, d < BS := fun d hd => by rw [← hBS]; exact openM_lt (hFI.out.marks d hd).2
      rw [hBS] at hbx hz hB2
      have hG2 := HG.out.below F2.bel
      refine split_range (bs := BS) (D := fun b => b = 0 ∨ (BS ≤ b ∧ b ≤ BS + 2)) (xs := Pl.linesL p) h1 (by simp [Act.eval, hBS])
        (split_gives_crlf 2 (by decide) BS p (by omega) W2 hG2 (by omega) (by omega) hbx) (fun b hb => by rcases hb with rfl | hb <;> omega)
        (fun pre W => (pre.all (Pl.freeX a1) = true) ∧ Below BS W2 W)
        (fun c pre W => (c = .ret ∧ pre.all (Pl.freeX a1) = false ∧ W.cell? ⟨b1, 0, none⟩ = some (.bool false)) ∧ BelowBut BS b1 W2 W)
        (OwnFrom.and (Own.from (fun s A B row hs hg hr => hs) _) (ownFrom_below (by omega) (by omega)))
        (fun c => OwnFrom.and (Own.from (fun s A B row hs hg hr => ⟨hs.1, hs.2.1, cell_kept hs.2.2 hg hr⟩) _) (ownFrom_but (by omega) (by omega)))
        (fun s A v hs => ⟨hs.1, hs.2.setCell (p := ⟨BS, 0, none⟩) (Nat.le_refl _) _⟩)
        ⟨rfl, Below.refl _ W2⟩
        (fun x => { tmps := #[.slice (some ⟨bk, o, none⟩) l0.length c0, .string a1, undef, .pointer (some ⟨w.heap.size, 0, none⟩), .pointer (some ⟨b1, 0, none⟩), undef, .string p, .string x, .slice (some ⟨bk, o, none⟩) l0.length c0, .int .i64 (l0.length : Int), .int .i64 (i : Int), .bool true, .pointer (some ⟨bk, o + i, none⟩), .string p, .string p, .func (.func 133) #[] #[.pointer (some ⟨BS + 1, 0, none⟩), .pointer (some ⟨BS, 0, none⟩), .pointer (some ⟨BS + 2, 0, none⟩)], .string x, u17, u18, u19, u20, u21, u22, u23, u24, u25], defers := [] }) ?assign ?body ?done ?stop
      case assign =>
        intro l x W K hK
        gi_wp2
        exact hK
      case body =>
        rintro l pre x W ⟨hp, hBW⟩ hpx
        have h11 : 1 ≤ 3 - 1 - 1 := by decide
        have hwz : BS + 3 ≤ W.heap.size := by have := hBW.size; omega
        have hxs : x.size ≤ 1000000 := Nat.le_trans (cuts_size (mem_of_prefix hpx)) (by omega)
        have hP := Pl.mimeparts_is x a1 (by omega) (by omega)
        have hC := Pl.mimecloses_is x a1 (by omega) (by omega)
        have g0 : W.cell? ⟨w.heap.size, 0, none⟩ = some (.string a1) := (hBW.cell (p := ⟨w.heap.size, 0, none⟩) (by show w.heap.size < BS; have := F2.ord; omega)).trans F2.c0
        have g1 : W.cell? ⟨b1, 0, none⟩ = some (.bool false) := (hBW.cell (p := ⟨b1, 0, none⟩) hb1).trans F2.c1
        have k1 : W.frozen? ⟨b1, 0, none⟩ = false := (hBW.frozen (p := ⟨b1, 0, none⟩) hb1).trans F2.f1
        have hfx : Pl.freeX a1 x = !(Pl.whatP x a1 || Pl.whatC x a1) := rfl
        obtain ⟨PV, hPe⟩ : ∃ P, Pl.whatP x a1 = P := ⟨_, rfl⟩
        obtain ⟨CV, hCe⟩ : ∃ C, Pl.whatC x a1 = C := ⟨_, rfl⟩
        rw [hPe] at hP hfx
        rw [hCe] at hC hfx
        have HY : Hid (∀ (W' W'' : World), Below W.heap.size W W' → Below W'.heap.size W' W'' → Aside0 (W''.cell? ⟨w.heap.size, 0, none⟩ = some (.string a1) ∧ W''.cell? ⟨b1, 0, none⟩ = some (.bool false) ∧ W''.frozen? ⟨b1, 0, none⟩ = false ∧ Below W.heap.size W W'')) := fun W' W'' q1 q2 => by
          have q3 : Below W.heap.size W W'' := q1.trans (q2.mono q1.size)
          exact ⟨(q3.cell (cell_inside g0)).trans g0, (q3.cell (cell_inside g1)).trans g1, (q3.frozen (cell_inside g1)).trans k1, q3⟩
        have hBz := hBW.size
        cases PV with
        | true =>
          gi_wp2_with (refine ⟨trivial, ?_⟩; gi_at_call 74; refine (CallsIn.inRound l (callsIn_wide.2 (mime_parts.calls x a1 true _ hP))).mono ?_; rintro e W4 ⟨rfl, hB4⟩; obtain ⟨c4, d4, k4, hB5⟩ := (HY.out W W4 (Below.refl _ _) hB4).out)
          refine ⟨trivial, ?_⟩
          gi_wp2
          exact ⟨(KeepsOthers.of_below hB5).trans (KeepsOthers.setCell _ _ _), ⟨rfl, by rw [List.all_append]; simp [hfx], World.cell?_setCell_same' _ _ _ (by rw [d4]; rfl)⟩, BelowBut.of (hBW.trans (hB5.mono (by omega))) _⟩
        | false =>
          cases CV with
          | true =>
            gi_wp2_with (first
              | (refine ⟨trivial, ?_⟩; gi_at_call 74; refine (CallsIn.inRound l (callsIn_wide.2 (mime_parts.calls x a1 false _ hP))).mono ?_; rintro e W4 ⟨rfl, hB4⟩; obtain ⟨c4, d4, k4, hB5⟩ := (HY.out W W4 (Below.refl _ _) hB4).out)
              | (refine ⟨trivial, ?_⟩; gi_at_call 75; refine (CallsIn.inRound l (callsIn_wide.2 (mime_closes.calls x a1 true _ hC))).mono ?_; rintro e W6 ⟨rfl, hB6⟩; obtain ⟨c6, d6, k6, hB7⟩ := (HY.out W4 W6 hB5 hB6).out))
            exact ⟨(KeepsOthers.of_below hB7).trans (KeepsOthers.setCell _ _ _), ⟨rfl, by rw [List.all_append]; simp [hfx], World.cell?_setCell_same' _ _ _ (by rw [d6]; rfl)⟩, BelowBut.of (hBW.trans (hB7.mono (by omega))) _⟩
          | false =>
            gi_wp2_with (first
              | (refine ⟨trivial, ?_⟩; gi_at_call 74; refine (CallsIn.inRound l (callsIn_wide.2 (mime_parts.calls x a1 false _ hP))).mono ?_; rintro e W4 ⟨rfl, hB4⟩; obtain ⟨c4, d4, k4, hB5⟩ := (HY.out W W4 (Below.refl _ _) hB4).out)
              | (refine ⟨trivial, ?_⟩; gi_at_call 75; refine (CallsIn.inRound l (callsIn_wide.2 (mime_closes.calls x a1 false _ hC))).mono ?_; rintro e W6 ⟨rfl, hB6⟩; obtain ⟨c6, d6, k6, hB7⟩ := (HY.out W4 W6 hB5 hB6).out))
            exact ⟨KeepsOthers.of_below hB7, fun b hb => hB7.block b (by rcases hb with rfl | hb <;> omega), ⟨by rw [List.all_append, hp]; simp [hfx], hBW.trans (hB7.mono (by omega))⟩⟩
      case done =>
        rintro d W hd ⟨hp, hBW⟩ hK
        have hBB : Below wr.heap.size wr W := by rw [hBS]; exact hB2.trans hBW
        have FW := hFI.out.below (Nat.le_refl _) hBB
        have hdb : BS ≤ d := by have := hBW.size; omega
        gi_wp2
        refine ⟨⟨i + 1, d :: ds, _, _, _, _, _, _, _, _, _, _, _, _, _, _, _, _, _, by omega, ?_, ⟨⟨FW.ord, FW.c0, FW.c1, FW.f1, FW.bel, ?_, ?_⟩⟩, rfl⟩, ?_⟩
        · have hfp : Pl.freeP a1 p = true := hp
          rw [HTK.out, List.all_append, hall]
          simp [hfp]
        · intro e he
          rcases List.mem_cons.1 he with rfl | he
          · exact ⟨by omega, hK⟩
          · exact FW.marks e he
        · exact List.nodup_cons.2 ⟨fun hm => by have := hmk d hm; omega, FW.nodup⟩
        · simp [intOf]; omega
      case stop =>
        rintro d c pre W hd hpre ⟨⟨rfl, hp, hc⟩, hBW⟩ hK
        have hall2 : Pl.freeP a1 p = false := by
          unfold Pl.freeP
          rw [List.all_eq_false] at hp ⊢
          obtain ⟨y, hy, hn⟩ := hp
          exact ⟨y, hpre.subset hy, hn⟩
        have hfr : Pl.freeL a1 l0 = false := hmem.resolve_right (by rw [hall2]; decide)
        have hbel : Below w.heap.size w W := F2.bel.trans (hBW.to (by omega) (by omega))
        have hdb : BS ≤ d := by have := hBW.size; omega
        gi_wp2
        show LeavesInM Fence.wide 3 Tryd.prog Tryd.f37 _ _ ((d :: ds).map markD) .returning W
        refine leaves_marks (fun q => by cases q) (fun W' => W'.cell? ⟨b1, 0, none⟩ = some (.bool false) ∧ Below w.heap.size w W') (b1 + 1) (fun A d' hA h1 h2 => ⟨cell_kept hA.1 (grownBy_putObj' _ d' (.deferred none)) (fun r e => by cases e; exact ⟨_, h2, rfl⟩), belowK_m hA.2 (by omega) h2⟩) (fun A hA => ?_) (d :: ds) W ?_ ?_ ⟨hc, hbel⟩
        · refine ⟨.bool false, ?_, by rw [← HR.out, hfr], hA.2⟩
          simp [results, Tryd.f37, go_sem, hA.1]
        · exact List.nodup_cons.2 ⟨fun hm => by have := hmk d hm; omega, hFI.out.nodup⟩
        · intro e he
          rcases List.mem_cons.1 he with rfl | he
          · exact ⟨by omega, hK⟩
          · exact ⟨(hFI.out.marks e he).1, (hBW.block e (hmk e he) (by have := (hFI.out.marks e he).1; omega)).trans ((hB2.block e (hmk e he)).trans (hFI.out.marks e he).2)⟩
    · have c3 : decide ((i : Int) < (l0.length : Int)) = false := decide_eq_false (by omega)
      have hend : l0.take i = l0 := List.take_of_length_le (by omega)
      rw [hend] at hall
      have hall : Pl.freeL a1 l0 = true := hall
      have hbel := hFI.out.bel
      gi_wp2
      show LeavesInM Fence.wide 3 Tryd.prog Tryd.f37 _ _ (ds.map markD) .returning _
      refine leaves_marks (fun q => by cases q) (fun W' => W'.cell? ⟨b1, 0, none⟩ = some (.bool true) ∧ Below w.heap.size w W') (b1 + 1) (fun A d' hA h1 h2 => ⟨cell_kept hA.1 (grownBy_putObj' _ d' (.deferred none)) (fun r e => by cases e; exact ⟨_, h2, rfl⟩), belowK_m hA.2 (by omega) h2⟩) (fun A hA => ?_) ds _ hFI.out.nodup (fun e he => ?_) ⟨World.cell?_setCell_same' _ _ _ (by rw [f1]; rfl), hbel.setCell (p := ⟨b1, 0, none⟩) (by show w.heap.size ≤ b1; omega) _⟩
      · refine ⟨.bool true, ?_, by rw [← HR.out, hall], hA.2⟩
        simp [results, Tryd.f37, go_sem, hA.1]
      · exact ⟨(hFI.out.marks e he).1, (Below.heap_setCell _ _ _ _ (by show e ≠ b1; have := (hFI.out.marks e he).1; omega)).trans (hFI.out.marks e he).2⟩
end Go.Proofs.YtoikneogdbdplaaDoor.Fn
set_option linter.unusedVariables false
namespace Go.Proofs.YtoikneogdbdplaaDoor
open Go.ChangeShapes Go.WideShapes Go.ChangeAt Go.RowKit

/-! What the rows share whose condition lists the tables of strconv and math/bits too. -/
def listedT : List (String × DataW Unit) := [("math/bits.deBruijn32tab", Rows.laid_math_bits_deBruijn32tab), ("math/bits.deBruijn64tab", Rows.laid_math_bits_deBruijn64tab), ("internal/strconv.uint64pow10", Rows.laid_internal_strconv_uint64pow10), ("unicode/utf8.acceptRanges", Rows.laid_unicode_utf8_acceptRanges), ("unicode/utf8.first", Rows.laid_unicode_utf8_first)]
def datCells : DataW Unit → Array Value
  | .agg l => (l.map fun d => match d with
    | .lit (.int k z) => Value.int k z
    | _ => .bool false).toArray
  | _ => #[]
noncomputable def laidWorldT (os : Os) : World :=
  let w1 := laidWorld os
  let put (h : Array Obj) (g : Nat) (cs : Array Value) : Array Obj := h.modify g fun
    | .cells _ t frozen => .cells cs t frozen
    | o => o
  { w1 with heap := put (put (put w1.heap 4 (datCells Rows.laid_math_bits_deBruijn32tab)) 5 (datCells Rows.laid_math_bits_deBruijn64tab)) 3 (datCells Rows.laid_internal_strconv_uint64pow10) }
set_option maxRecDepth 100000 in
theorem laid_metT (os : Os) (args : Array Value) : laidMetH Tryd.prog listedT ((laidWorldT os).forCall (fun _ _ => 0) ⟨#[], args, []⟩).memory :=
  laidMetH_of_parts (laidMet_of_run' 8 (by kernel_rfl) (by kernel_rfl)) (by kernel_rfl)
end Go.Proofs.YtoikneogdbdplaaDoor
set_option linter.unusedVariables false
namespace Go.Proofs.YtoikneogdbdplaaDoor.Fn
open Go.RowKit Go.Proofs.YtoikneogdbdplaaDoorW.PrintWords

/-! The package variables that the walks read, the table of powers of ten among them. -/
structure GlobT (w : World) : Prop extends Glob w where
  tab : Lib.TabIs Tryd.prog w "internal/strconv.uint64pow10" .u64 Lib.pow10Tab
theorem tab_below {P : Program} {w W : World} {n : String} {k : IntKind} {zs : List Int} (h : Lib.TabIs P w n k zs) (hb : Below w.heap.size w W) : Lib.TabIs P W n k zs := by
  unfold Lib.TabIs World.var? at h ⊢
  cases hg : P.globalNamed n with
  | none => rw [hg] at h; cases h
  | some g =>
    rw [hg] at h
    simp only [Option.bind_some] at h ⊢
    cases ho : w.heap[g]? with
    | none => rw [ho] at h; cases h
    | some o =>
      have hlt := (Array.getElem?_eq_some_iff.1 ho).1
      rw [hb.block g hlt]
      exact h
theorem GlobT.below {w W : World} (h : GlobT w) (hb : Below w.heap.size w W) : GlobT W := ⟨h.toGlob.below hb, tab_below h.tab hb⟩
theorem GlobT.drawn {w W : World} (h : GlobT w) (hd : Drawn0 w W) : GlobT W := h.below hd.below
theorem tab_of_reads {P : Program} {W : World} {name : String} {k : IntKind} {zs : List Int} {g : Nat} {t e : TypeId} {n : Nat}
    (hg : P.globalNamed name = some g) (hty : (P.globals[g]?).map (·.type) = some t) (ht : P.underlying t = some (.array n e)) (he : P.underlying e = some (.int k)) (hce : P.cellsOf e = 1) (hct : P.cellsOf t = n)
    (h : Lib.VarReads P W name (Lib.tabData k zs)) : Lib.TabIs P W name k zs := by
  obtain ⟨g', t', cs, fuel, p, hg', ht', hvar, hd⟩ := h
  obtain rfl := Option.some.inj (hg.symm.trans hg')
  obtain rfl := Option.some.inj (hty.symm.trans ht')
  unfold Lib.TabIs
  rw [hvar, ← Lib.cells_of_tab ht he hce hct hd]
set_option maxRecDepth 100000 in
theorem globT_of {W : World} (hL : laidMetH Tryd.prog listedT W) (hS : W.ShapedOpen Tryd.prog) : GlobT W := by
  have hL' : laidMet Tryd.prog listedT W := hL
  have h1 : Lib.VarReads Tryd.prog W "unicode/utf8.first" Lib.firstData := by
    have := Lib.laidMet.reads hL' (n := "unicode/utf8.first") (d := Rows.laid_unicode_utf8_first) (.tail _ (.tail _ (.tail _ (.tail _ (.head _)))))
    rw [show Rows.laid_unicode_utf8_first = Lib.firstData from Pinned.utf8First_eq] at this
    exact this
  have h2 : Lib.VarReads Tryd.prog W "unicode/utf8.acceptRanges" Lib.acceptData := Lib.laidMet.reads hL' (.tail _ (.tail _ (.tail _ (.head _))))
  have h3 : Lib.VarReads Tryd.prog W "internal/strconv.uint64pow10" (Lib.tabData .u64 Lib.pow10Tab) := by
    have := Lib.laidMet.reads hL' (n := "internal/strconv.uint64pow10") (d := Rows.laid_internal_strconv_uint64pow10) (.tail _ (.tail _ (.head _)))
    rw [show (Rows.laid_internal_strconv_uint64pow10 : DataW Unit) = Lib.tabData .u64 Lib.pow10Tab by kernel_rfl] at this
    exact this
  refine ⟨⟨utf8Tabs_of_reads (ρ := Tryd.lays260_ren) Tryd.lays260 ⟨by kernel_rfl, by kernel_rfl, by kernel_rfl, by kernel_rfl, by kernel_rfl, by kernel_rfl, by kernel_rfl⟩ h1 h2, ?_⟩, ?_⟩
  · exact cell_of_shapedOpen_int (P := Tryd.prog) (g := 0) (t := 3) (zero := #[.int .i64 0]) hS (of_decide_eq_true (by kernel_rfl)) (by kernel_rfl) rfl (by kernel_rfl) (by kernel_rfl) Tryd.underlying3
  · exact tab_of_reads (g := 3) (n := 20) (e := 177) (by kernel_rfl) rfl (by kernel_rfl) (by kernel_rfl) (by kernel_rfl) (by kernel_rfl) h3
end Go.Proofs.YtoikneogdbdplaaDoor.Fn
set_option linter.unusedVariables false
namespace Go.Proofs.YtoikneogdbdplaaDoor.Pl
open Go.Proofs.YtoikneogdbdplaaDoorW.PrintWords
/-! Decimal digits: by steps that the kernel can reckon. -/
def dig : Nat → Nat → Bytes
  | 0, n => [UInt8.ofNat (48 + n % 10)]
  | k + 1, n => if n < 10 then [UInt8.ofNat (48 + n)] else dig k (n / 10) ++ [UInt8.ofNat (48 + n % 10)]
def digL (n : Nat) : Bytes := dig 20 n
def itoL (n : Int) : Bytes := if n < 0 then 45 :: digL n.natAbs else digL n.toNat
theorem dig_dec : ∀ (k n : Nat), n < 10 ^ (k + 1) → dig k n = Lib.decDigits n
  | 0, n, h => by
    have h : n < 10 := by simpa using h
    rw [Lib.decDigits, dif_pos h, dig, Nat.mod_eq_of_lt h]
  | k + 1, n, h => by
    rw [dig, Lib.decDigits]
    by_cases h1 : n < 10
    · rw [if_pos h1, dif_pos h1]
    · rw [if_neg h1, dif_neg h1, dig_dec k (n / 10) (by rw [Nat.pow_succ] at h; omega)]
theorem digL_dec (n : Nat) (h : n < 1000000000000000000000) : digL n = Lib.decDigits n := dig_dec 20 n h
theorem itoL_itoa (n : Int) (h0 : -9223372036854775808 ≤ n) (h1 : n ≤ 9223372036854775807) : itoL n = Lib.itoa n := by
  unfold itoL Lib.itoa
  split
  · rw [digL_dec _ (by omega)]
  · rw [digL_dec _ (by omega)]
theorem dig_len : ∀ (k n : Nat), (dig k n).length ≤ k + 1
  | 0, n => by simp [dig]
  | k + 1, n => by
    rw [dig]
    have := dig_len k (n / 10)
    split
    · simp
    · rw [List.length_append]; simp; omega
theorem digL_len (n : Nat) : (digL n).length ≤ 21 := dig_len 20 n
end Go.Proofs.YtoikneogdbdplaaDoor.Pl
set_option linter.unusedVariables false
namespace Go.Proofs.YtoikneogdbdplaaDoor.Fn
open Go.RowKit Go.Proofs.YtoikneogdbdplaaDoorW.PrintWords
theorem below_grown (B : Nat) (a w : World) (os : Array Obj) (h : Below B a w) (hB : B ≤ w.heap.size) : Below B a (Go.Sort.grow w os) :=
  h.trans ⟨rfl, rfl, rfl, by simp, fun k hk => by
    show (w.heap ++ os)[k]? = w.heap[k]?
    rw [Array.getElem?_append_left (by omega)]⟩
def strconv_Itoa.f (a0 : Int) : Option ByteArray := if -9223372036854775808 ≤ a0 then (if a0 ≤ 9223372036854775807 then some (Pl.str (Pl.itoL a0)) else none) else none
theorem strconv_Itoa.calls (a0 : Int) (r : ByteArray) (w : World) (hG : GlobT w) (h : strconv_Itoa.f a0 = some r) :
    Calls Tryd.prog 90 #[.int .i64 a0] w fun e w' => e = .returned (.string r) ∧ Below w.heap.size w w' := by
  unfold strconv_Itoa.f at h
  by_cases h0 : -9223372036854775808 ≤ a0
  · rw [if_pos h0] at h
    by_cases h1 : a0 ≤ 9223372036854775807
    · rw [if_pos h1] at h
      cases Option.some.inj h
      refine (Tryd.strconv_Itoa a0 h0 h1 w hG.tab).mono ?_
      rintro e w' ⟨rfl, k, os, rfl⟩
      refine ⟨?_, below_grown _ _ _ os (pw_below_drewN (Below.refl _ w) k) (Nat.le_refl _)⟩
      rw [Pl.itoL_itoa a0 h0 h1]
      rfl
    · rw [if_neg h1] at h; exact absurd h (by simp)
  · rw [if_neg h0] at h; exact absurd h (by simp)
end Go.Proofs.YtoikneogdbdplaaDoor.Fn
namespace Go.Proofs.YtoikneogdbdplaaDoor.Fn
open Go.RowKit Go.Proofs.YtoikneogdbdplaaDoorW.PrintWords Go.Proofs.YtoikneogdbdplaaDoorW.PrintLast Go.Proofs.YtoikneogdbdplaaDoorW.PrintMore
attribute [local go_sem] max2_int min2_int max_two min_two max_three min_three max_four min_four
set_option linter.unusedVariables false
set_option linter.unusedSimpArgs false

/-! ### mime_Boundary: function 50 -/
def mime_Boundary.l0 : Nat → List ByteArray → Int → Option (ByteArray)
 | 0, _, _ => none
 | k + 1, x0, x3 => (strconv_Itoa.f x3).bind fun t816 => (if 2 + t816.size ≤ 9223372036854775807 then ((mime_Free.f x0 ((⟨#[61, 95]⟩ : ByteArray) ++ t816)).bind fun t817 => (if t817 = true then (some ((⟨#[61, 95]⟩ : ByteArray) ++ t816)) else (mime_Boundary.l0 k x0 (wrap64 (x3 + 1))))) else (none))
def mime_Boundary.f (k : Nat) (l0 : List ByteArray) : Option (ByteArray) := mime_Boundary.l0 k l0 0
set_option maxHeartbeats 8000000 in
set_option maxRecDepth 100000 in
theorem mime_Boundary.calls (k : Nat) (A0 : Option Addr) (c0 : Nat) (l0 : List ByteArray) (r : ByteArray) (w : World) (hG : GlobT w) (hr0 : Kd.C Kd.string w A0 l0.length l0) (hc0 : l0.length ≤ c0) (h : mime_Boundary.f k l0 = some r) :
  Calls Tryd.prog 50 #[.slice A0 l0.length c0] w fun e w' => e = .returned (.string r) ∧ Below w.heap.size w w' := by
 have HR0 := Aside0.mk hr0
 have HC0 := Aside0.mk hc0
 clear hr0 hc0
 have HB := Aside0.mk (Below.refl w.heap.size w)
 have H : (mime_Boundary.l0 k l0 0) = some r := h
 clear h
 have H' := Aside0.mk H
 clear H
 go_enter Tryd.func50, Tryd.ntmps50
 go_wp2
 go_loopg [3] k (fun kq v3 w' => ∃ (x3_1 : Int), v3 = .int .i64 x3_1 ∧ Aside0 (mime_Boundary.l0 kq l0 x3_1 = some r) ∧ Aside0 (kq ≤ k) ∧ Aside0 (Below w.heap.size w w'))
 case atStart => exact ⟨(0), cl, H', ⟨Nat.le_refl _⟩, ⟨bw⟩⟩
 case round =>
  clear H'
  obtain ⟨x3_1, rfl, HA, HK1, HB⟩ := hrel
  cases gk with
  | zero => exact absurd HA.out (by simp [mime_Boundary.l0])
  | succ k1 =>
   have H := HA.out
   clear HA
   simp only [mime_Boundary.l0] at H
   replace H := Option.bind_eq_some_iff.mp H
   obtain ⟨t816, A20, H⟩ := H
   replace H : (if 2 + t816.size ≤ 9223372036854775807 then ((mime_Free.f l0 ((⟨#[61, 95]⟩ : ByteArray) ++ t816)).bind fun t817 => (if t817 = true then (some ((⟨#[61, 95]⟩ : ByteArray) ++ t816)) else (mime_Boundary.l0 k1 l0 (wrap64 (x3_1 + 1))))) else (none)) = some r := H
   have A2 := Aside0.mk A20
   clear A20
   by_cases c3 : 2 + t816.size ≤ 9223372036854775807
   ·rw [if_pos c3] at H
    have c3b0 := eq_true c3
    have c3b1 : decide (2 + t816.size ≤ 9223372036854775807) = true := decide_eq_true c3
    try have c3b2 : (9223372036854775807 < 2 + t816.size) = False := eq_false (Nat.not_lt.2 c3)
    replace H := Option.bind_eq_some_iff.mp H
    obtain ⟨t817, A40, H⟩ := H
    replace H : (if t817 = true then (some ((⟨#[61, 95]⟩ : ByteArray) ++ t816)) else (mime_Boundary.l0 k1 l0 (wrap64 (x3_1 + 1)))) = some r := H
    have A4 := Aside0.mk A40
    clear A40
    by_cases c5 : t817 = true
    ·subst c5
     have H1 : (some ((⟨#[61, 95]⟩ : ByteArray) ++ t816)) = some r := by rw [if_pos rfl] at H; exact H
     clear H
     have H := H1
     clear H1
     obtain rfl := Option.some.inj H
     go_wp2_with (first | ((with_reducible refine gate_callee (f := 90) rfl ?_); refine goesL_ (some 8) rfl rfl Tryd.func90 (by kernel_rfl) rfl #[.int .i64 x3_1] rfl am ?_; (with_reducible refine (strconv_Itoa.calls (hG := by first | exact hG | exact GlobT.below hG (by first | exact HB.out | (repeat (first | (with_reducible first | exact HB.out | apply below_alloc | apply pw_below_drewN | apply below_drew1) | exact HB.out))) | exact GlobT.drawn hG (by repeat (first | exact Drawn0.refl _ | apply Drawn0.step))) x3_1 t816 _ A2.out).mono ?_); rintro e w6 ⟨rfl, hb⟩; refine ⟨_, rfl, ?_⟩; have n0_ := Aside0.mk (below_step bw hb); clear HB; have HB := n0_; clear n0_; (try clear hb); (try clear hb2); (try clear hk); (try clear hi)) | ((with_reducible refine gate_callee (f := 37) rfl ?_); refine goesL_ (some 12) rfl rfl Tryd.func37 (by kernel_rfl) rfl #[.slice A0 l0.length c0, .string ((⟨#[61, 95]⟩ : ByteArray) ++ t816)] rfl am ?_; (with_reducible refine (mime_Free.calls (hG := by first | exact hG.toGlob | exact Glob.below hG.toGlob (by first | exact HB.out | (repeat (first | (with_reducible first | exact HB.out | apply below_alloc | apply pw_below_drewN | apply below_drew1) | exact HB.out))) | exact Glob.drawn hG.toGlob (by repeat (first | exact Drawn0.refl _ | apply Drawn0.step))) _ _ l0 ((⟨#[61, 95]⟩ : ByteArray) ++ t816) true _ ?side1 ?side2 A4.out).mono ?_); (case side1 => repeat (first | exact (Kd.C_below HR0.out HB.out) | (with_reducible refine Kd.C_alloc ?_ _) | (with_reducible refine Kd.C_drewN ?_ _) | (with_reducible refine Kd.C_drew ?_))); (case side2 => exact HC0.out); rintro e w7 ⟨rfl, hb⟩; refine ⟨_, rfl, ?_⟩; have n0_ := Aside0.mk (below_step bw hb); clear HB; have HB := n0_; clear n0_; (try clear hb); (try clear hb2); (try clear hk); (try clear hi)))
     go_ret
     exact ⟨by first | rfl | (simp [errW_none, errW_some] <;> rfl) | (simp [*, errW_none, errW_some] <;> rfl), bw⟩
    ·replace c5 := Bool.eq_false_iff.mpr c5
     subst c5
     have H1 : (mime_Boundary.l0 k1 l0 (wrap64 (x3_1 + 1))) = some r := by rw [if_neg (show ¬ (false = true) by decide)] at H; exact H
     clear H
     have H := H1
     clear H1
     have H' := Aside0.mk H
     clear H
     go_wp2_with (first | ((with_reducible refine gate_callee (f := 90) rfl ?_); refine goesL_ (some 8) rfl rfl Tryd.func90 (by kernel_rfl) rfl #[.int .i64 x3_1] rfl am ?_; (with_reducible refine (strconv_Itoa.calls (hG := by first | exact hG | exact GlobT.below hG (by first | exact HB.out | (repeat (first | (with_reducible first | exact HB.out | apply below_alloc | apply pw_below_drewN | apply below_drew1) | exact HB.out))) | exact GlobT.drawn hG (by repeat (first | exact Drawn0.refl _ | apply Drawn0.step))) x3_1 t816 _ A2.out).mono ?_); rintro e w8 ⟨rfl, hb⟩; refine ⟨_, rfl, ?_⟩; have n0_ := Aside0.mk (below_step bw hb); clear HB; have HB := n0_; clear n0_; (try clear hb); (try clear hb2); (try clear hk); (try clear hi)) | ((with_reducible refine gate_callee (f := 37) rfl ?_); refine goesL_ (some 12) rfl rfl Tryd.func37 (by kernel_rfl) rfl #[.slice A0 l0.length c0, .string ((⟨#[61, 95]⟩ : ByteArray) ++ t816)] rfl am ?_; (with_reducible refine (mime_Free.calls (hG := by first | exact hG.toGlob | exact Glob.below hG.toGlob (by first | exact HB.out | (repeat (first | (with_reducible first | exact HB.out | apply below_alloc | apply pw_below_drewN | apply below_drew1) | exact HB.out))) | exact Glob.drawn hG.toGlob (by repeat (first | exact Drawn0.refl _ | apply Drawn0.step))) _ _ l0 ((⟨#[61, 95]⟩ : ByteArray) ++ t816) false _ ?side1 ?side2 A4.out).mono ?_); (case side1 => repeat (first | exact (Kd.C_below HR0.out HB.out) | (with_reducible refine Kd.C_alloc ?_ _) | (with_reducible refine Kd.C_drewN ?_ _) | (with_reducible refine Kd.C_drew ?_))); (case side2 => exact HC0.out); rintro e w9 ⟨rfl, hb⟩; refine ⟨_, rfl, ?_⟩; have n0_ := Aside0.mk (below_step bw hb); clear HB; have HB := n0_; clear n0_; (try clear hb); (try clear hb2); (try clear hk); (try clear hi)))
     go_roundg k1
     case measure => have := HK1.out; omega
     case rel => exact ⟨(wrap64 (x3_1 + 1)), cl, H', ⟨by have := HK1.out; omega⟩, ⟨bw⟩⟩
   ·rw [if_neg c3] at H
    exact absurd H (by simp)

end Go.Proofs.YtoikneogdbdplaaDoor.Fn
set_option linter.unusedVariables false
set_option linter.unusedSimpArgs false
namespace Go.Proofs.YtoikneogdbdplaaDoor.Pl
def partL (b p : Bytes) : Bytes := 45 :: 45 :: (b ++ (13 :: 10 :: (p ++ [13, 10])))
def partsL (b : Bytes) (l : List Bytes) : Bytes := l.flatMap (partL b)
def joinL (b : Bytes) (l : List Bytes) : Bytes := partsL b l ++ (45 :: 45 :: (b ++ [45, 45, 13, 10]))
theorem partL_length (b p : Bytes) : (partL b p).length = b.length + p.length + 6 := by
  unfold partL
  simp only [List.length_cons, List.length_append, List.length_nil]
  omega
theorem partsL_take (b : Bytes) (l : List Bytes) (i : Nat) (h : i < l.length) : partsL b (l.take (i + 1)) = partsL b (l.take i) ++ partL b l[i] := by
  rw [List.take_succ_eq_append_getElem h]
  unfold partsL
  rw [List.flatMap_append]
  simp
theorem partsL_le (b : Bytes) (m : Nat) : ∀ l : List Bytes, (∀ x ∈ l, x.length ≤ m) → (partsL b l).length ≤ l.length * (b.length + m + 6)
  | [], _ => by simp [partsL]
  | x :: l, h => by
    have ih := partsL_le b m l (fun y hy => h y (by simp [hy]))
    have hx := h x (by simp)
    have e : partsL b (x :: l) = partL b x ++ partsL b l := rfl
    rw [e, List.length_append, partL_length, List.length_cons, Nat.add_mul, Nat.one_mul]
    omega
end Go.Proofs.YtoikneogdbdplaaDoor.Pl
namespace Go.Proofs.YtoikneogdbdplaaDoor.Fn
open Go.RowKit Go.Proofs.YtoikneogdbdplaaDoorW.PrintWords

def mime_Join.f (l0 : List ByteArray) (a1 : ByteArray) : Option ByteArray :=
  if l0.length ≤ 1000000 then (if a1.size ≤ 1000000 then (if l0.all (fun x => decide (x.size ≤ 1000000)) = true then some (Pl.str (Pl.joinL (Pl.bs a1) (l0.map Pl.bs))) else none) else none) else none

set_option maxHeartbeats 8000000 in
set_option maxRecDepth 100000 in
theorem mime_Join.calls (A0 : Option Addr) (c0 : Nat) (l0 : List ByteArray) (a1 : ByteArray) (r : ByteArray) (w : World) (hr0 : Kd.C Kd.string w A0 l0.length l0) (hc0 : l0.length ≤ c0) (h : mime_Join.f l0 a1 = some r) :
    Calls Tryd.prog 39 #[.slice A0 l0.length c0, .string a1] w fun e w' => e = .returned (.string r) ∧ Below w.heap.size w w' := by
  unfold mime_Join.f at h
  by_cases hs : l0.length ≤ 1000000
  case neg => rw [if_neg hs] at h; exact absurd h (by simp)
  rw [if_pos hs] at h
  by_cases hs1 : a1.size ≤ 1000000
  case neg => rw [if_neg hs1] at h; exact absurd h (by simp)
  rw [if_pos hs1] at h
  by_cases hs2 : l0.all (fun x => decide (x.size ≤ 1000000)) = true
  case neg => rw [if_neg hs2] at h; exact absurd h (by simp)
  rw [if_pos hs2] at h
  have HR := hid (Option.some.inj h)
  have HO := hid hs2
  clear h hs2
  have HC := hid hr0
  clear hr0
  have hz := Pl.bs_length a1
  go_enter Tryd.func39, Tryd.ntmps39
  go_wp2
  go_loopw [10] (fun v10 wr => ∃ i : Nat, i ≤ l0.length ∧ v10 = .int .i64 i ∧ isBd w.heap.size w.heap.size (Lib.byteCells (Pl.partsL (Pl.bs a1) ((l0.map Pl.bs).take i))) wr ∧ Below w.heap.size w wr) (fun v10 _ => l0.length - (intOf v10).toNat)
  case atStart => exact ⟨0, Nat.zero_le _, rfl, by rw [List.take_zero]; exact Lib.IsBuilderF.of (Lib.fresh_isBuilder _ _ w), (Below.refl _ w).alloc (Nat.le_refl _) _⟩
  case round =>
    obtain ⟨i, hi, rfl, hI, hbw⟩ := hrel
    have hwsz := hbw.size
    have hlen := Pl.partsL_le (Pl.bs a1) 1000000 ((l0.map Pl.bs).take i) (fun x hx => by
      obtain ⟨y, hy, rfl⟩ := List.mem_map.1 (List.mem_of_mem_take hx)
      rw [Pl.bs_length]
      exact of_decide_eq_true (List.all_eq_true.1 HO.out y hy))
    have hlen2 : ((l0.map Pl.bs).take i).length * ((Pl.bs a1).length + 1000000 + 6) ≤ 1000000 * 2000006 := Nat.mul_le_mul (by rw [List.length_take, List.length_map]; omega) (by omega)
    by_cases hlt : i < l0.length
    · have hall := of_decide_eq_true (List.all_eq_true.1 HO.out (l0[i]'hlt) (List.getElem_mem hlt))
      have hpt := hid (Pl.partsL_take (Pl.bs a1) (l0.map Pl.bs) i (by rw [List.length_map]; exact hlt))
      rw [List.getElem_map] at hpt
      obtain ⟨bk, o, e0, hbk, hcells⟩ := strings_at HC.out (by omega)
      subst e0
      have hx0 := hcells i (l0[i]'hlt) (List.getElem?_eq_getElem hlt)
      replace hx0 := (hbw.cell (World.block_lt_of_cell? w _ hx0)).trans hx0
      generalize l0[i]'hlt = x at *
      have hzx := Pl.bs_length x
      have hzs : ((⟨#[45, 45]⟩ : ByteArray) ++ a1 ++ (⟨#[13, 10]⟩ : ByteArray) ++ x ++ (⟨#[13, 10]⟩ : ByteArray)).size = a1.size + x.size + 6 := by
        rw [ByteArray.size_append, ByteArray.size_append, ByteArray.size_append, ByteArray.size_append]
        show 2 + a1.size + 2 + x.size + 2 = _
        omega
      have hbytes : Lib.strCells ((⟨#[45, 45]⟩ : ByteArray) ++ a1 ++ (⟨#[13, 10]⟩ : ByteArray) ++ x ++ (⟨#[13, 10]⟩ : ByteArray)) = Lib.byteCells (Pl.partL (Pl.bs a1) (Pl.bs x)) := by
        show Lib.byteCells (Pl.bs _) = _
        rw [Pl.bs_app, Pl.bs_app, Pl.bs_app, Pl.bs_app]
        unfold Pl.partL
        congr 1
        show [45, 45] ++ Pl.bs a1 ++ [13, 10] ++ Pl.bs x ++ [13, 10] = _
        simp
      have HB_ := hid hbytes
      clear hbytes
      have c1 : ((0 : Int) ≤ (i : Int)) = True := eq_true (by omega)
      have c2 : ((i : Int) < (l0.length : Int)) = True := eq_true (by omega)
      have c3 : decide ((i : Int) < (l0.length : Int)) = true := decide_eq_true (by omega)
      go_wp2_with (go_at_call 78; refine (bd_string w.heap.size w.heap.size _ ((⟨#[45, 45]⟩ : ByteArray) ++ a1 ++ (⟨#[13, 10]⟩ : ByteArray) ++ x ++ (⟨#[13, 10]⟩ : ByteArray)) _ hI (by rw [Lib.byteCells_length, hzs]; omega) (by omega)).mono ?_; rintro e W2 ⟨rfl, h2, b2, k2⟩)
      go_roundw
      case rel =>
        refine ⟨i + 1, by omega, by go_num, ?_, hbw.trans b2⟩
        rw [hpt.out, Lib.byteCells_append, ← HB_.out]
        exact h2.is
      case measure => simp [intOf]; omega
    · have c3 : decide ((i : Int) < (l0.length : Int)) = false := decide_eq_false (by omega)
      have hend : (l0.map Pl.bs).take i = l0.map Pl.bs := List.take_of_length_le (by rw [List.length_map]; omega)
      rw [hend] at hI hlen hlen2
      have hzs : ((⟨#[45, 45]⟩ : ByteArray) ++ a1 ++ (⟨#[45, 45]⟩ : ByteArray) ++ (⟨#[13, 10]⟩ : ByteArray)).size = a1.size + 6 := by
        rw [ByteArray.size_append, ByteArray.size_append, ByteArray.size_append]
        show 2 + a1.size + 2 + 2 = _
        omega
      have hbytes : Lib.strCells ((⟨#[45, 45]⟩ : ByteArray) ++ a1 ++ (⟨#[45, 45]⟩ : ByteArray) ++ (⟨#[13, 10]⟩ : ByteArray)) = Lib.byteCells (45 :: 45 :: (Pl.bs a1 ++ [45, 45, 13, 10])) := by
        show Lib.byteCells (Pl.bs _) = _
        rw [Pl.bs_app, Pl.bs_app, Pl.bs_app]
        congr 1
        show [45, 45] ++ Pl.bs a1 ++ [45, 45] ++ [13, 10] = _
        simp
      have HB_ := hid hbytes
      clear hbytes
      go_wp2_with (first
        | (go_at_call 78; refine (bd_string w.heap.size w.heap.size _ ((⟨#[45, 45]⟩ : ByteArray) ++ a1 ++ (⟨#[45, 45]⟩ : ByteArray) ++ (⟨#[13, 10]⟩ : ByteArray)) _ hI (by rw [Lib.byteCells_length, hzs]; omega) (by omega)).mono ?_; rintro e W2 ⟨rfl, h2, b2, k2⟩; have h3 : isBd w.heap.size w.heap.size (Lib.byteCells (Pl.partsL (Pl.bs a1) (l0.map Pl.bs) ++ (45 :: 45 :: (Pl.bs a1 ++ [45, 45, 13, 10])))) W2 := (by rw [Lib.byteCells_append, ← HB_.out]; exact h2.is))
        | (go_at_call 79; go_loud (refine (Tryd.Builder_String_any_k w.heap.size w.heap.size _ _ h3 (by have := b2.size; omega)).mono ?_; rintro e W1 ⟨rfl, _, b1, _⟩)))
      go_ret
      refine ⟨?_, hbw.trans (b2.trans b1)⟩
      rw [← HR.out]
      rfl
end Go.Proofs.YtoikneogdbdplaaDoor.Fn
namespace Go.Proofs.YtoikneogdbdplaaDoor.Fn
open Go.RowKit Go.Proofs.YtoikneogdbdplaaDoorW.PrintWords Go.Proofs.YtoikneogdbdplaaDoorW.PrintLast Go.Proofs.YtoikneogdbdplaaDoorW.PrintMore
attribute [local go_sem] max2_int min2_int max_two min_two max_three min_three max_four min_four
set_option linter.unusedVariables false
set_option linter.unusedSimpArgs false

/-! ### bulletinlaw20_MimeJoins: function 9 -/
def bulletinlaw20_MimeJoins.j0 : Nat → List ByteArray → ByteArray → Bool → Option (Bool)
 | 0, _, _, _ => none
 | k + 1, x0, x1, x12 => if x12 = true then ((bulletinlaw20_works.f k).bind fun t831 => (some t831)) else ((mime_Join.f x0 x1).bind fun t832 => ((bulletinref20_Join.f k x0 x1).bind fun t833 => (if t832.toList = t833.toList then ((mime_Free.f x0 x1).bind fun t834 => ((bulletinref20_Free.f k x0 x1).bind fun t835 => (if (t834 == t835) = true then ((mime_Boundary.f k x0).bind fun t836 => ((bulletinref20_Boundary.f k x0).bind fun t837 => (if t836.toList = t837.toList then ((bulletinlaw20_works.f k).bind fun t838 => (some t838)) else (some false)))) else (some false)))) else (some false))))
def bulletinlaw20_MimeJoins.f (k : Nat) (l0 : List ByteArray) (a1 : ByteArray) : Option (Bool) := (bulletinbook_Light.f k l0 10 500).bind fun t830 => (if t830 = true then (bulletinlaw20_MimeJoins.j0 k l0 a1 (decide ((a1.size : Int) > 200))) else (bulletinlaw20_MimeJoins.j0 k l0 a1 true))
set_option maxHeartbeats 8000000 in
set_option maxRecDepth 100000 in
theorem bulletinlaw20_MimeJoins.calls (k : Nat) (A0 : Option Addr) (c0 : Nat) (l0 : List ByteArray) (a1 : ByteArray) (r : Bool) (w : World) (hG : GlobT w) (hr0 : Kd.C Kd.string w A0 l0.length l0) (hc0 : l0.length ≤ c0) (h : bulletinlaw20_MimeJoins.f k l0 a1 = some r) :
  Calls Tryd.prog 9 #[.slice A0 l0.length c0, .string a1] w fun e w' => e = .returned (.bool r) ∧ Below w.heap.size w w' := by
 have HR0 := Aside0.mk hr0
 have HC0 := Aside0.mk hc0
 clear hr0 hc0
 have HB := Aside0.mk (Below.refl w.heap.size w)
 have H : ((bulletinbook_Light.f k l0 10 500).bind fun t830 => (if t830 = true then (bulletinlaw20_MimeJoins.j0 k l0 a1 (decide ((a1.size : Int) > 200))) else (bulletinlaw20_MimeJoins.j0 k l0 a1 true))) = some r := h
 clear h
 have HC3 := Aside0.mk H
 clear H
 go_enter Tryd.func9, Tryd.ntmps9
 go_upto_region 1 with (fail)
 go_cut [12] (fun v12 wc => ∃ (kq : Nat) (x12_2 : Bool), v12 = .bool x12_2 ∧ Aside0 (bulletinlaw20_MimeJoins.j0 kq l0 a1 x12_2 = some r) ∧ Aside0 (kq ≤ k) ∧ Aside0 (Below w.heap.size w wc))
 case first =>
  have H := HC3.out
  clear HC3
  replace H := Option.bind_eq_some_iff.mp H
  obtain ⟨t830, A40, H⟩ := H
  replace H : (if t830 = true then (bulletinlaw20_MimeJoins.j0 k l0 a1 (decide ((a1.size : Int) > 200))) else (bulletinlaw20_MimeJoins.j0 k l0 a1 true)) = some r := H
  have A4 := Aside0.mk A40
  clear A40
  by_cases c5 : t830 = true
  ·subst c5
   have H1 : (bulletinlaw20_MimeJoins.j0 k l0 a1 (decide ((a1.size : Int) > 200))) = some r := by rw [if_pos rfl] at H; exact H
   clear H
   have H := H1
   clear H1
   have H' := Aside0.mk H
   clear H
   go_wp2_with (first | ((with_reducible refine gate_callee (f := 35) rfl ?_); refine goesL_ (some 6) rfl rfl Tryd.func35 (by kernel_rfl) rfl #[.slice A0 l0.length c0, .int .i64 10, .int .i64 500] rfl am ?_; (with_reducible refine (bulletinbook_Light.calls k _ _ l0 10 500 true _ ?side1 ?side2 A4.out).mono ?_); (case side1 => repeat (first | exact (Kd.C_below HR0.out HB.out) | (with_reducible refine Kd.C_alloc ?_ _) | (with_reducible refine Kd.C_drewN ?_ _) | (with_reducible refine Kd.C_drew ?_))); (case side2 => exact HC0.out); rintro e w' ⟨rfl, ⟨nd, rfl⟩⟩; refine ⟨_, rfl, ?_⟩))
   go_meet
   case rel => exact ⟨_, (decide ((a1.size : Int) > 200)), cl, H', ⟨by first | omega | exact Nat.le_refl _⟩, ⟨bw⟩⟩
  ·replace c5 := Bool.eq_false_iff.mpr c5
   subst c5
   have H1 : (bulletinlaw20_MimeJoins.j0 k l0 a1 true) = some r := by rw [if_neg (show ¬ (false = true) by decide)] at H; exact H
   clear H
   have H := H1
   clear H1
   have H' := Aside0.mk H
   clear H
   go_wp2_with (first | ((with_reducible refine gate_callee (f := 35) rfl ?_); refine goesL_ (some 6) rfl rfl Tryd.func35 (by kernel_rfl) rfl #[.slice A0 l0.length c0, .int .i64 10, .int .i64 500] rfl am ?_; (with_reducible refine (bulletinbook_Light.calls k _ _ l0 10 500 false _ ?side1 ?side2 A4.out).mono ?_); (case side1 => repeat (first | exact (Kd.C_below HR0.out HB.out) | (with_reducible refine Kd.C_alloc ?_ _) | (with_reducible refine Kd.C_drewN ?_ _) | (with_reducible refine Kd.C_drew ?_))); (case side2 => exact HC0.out); rintro e w' ⟨rfl, ⟨nd, rfl⟩⟩; refine ⟨_, rfl, ?_⟩))
   go_meet
   case rel => exact ⟨_, (true), cl, H', ⟨by first | omega | exact Nat.le_refl _⟩, ⟨bw⟩⟩
 case rest =>
  clear HC3
  try clear p2
  try clear c3
  try clear c5
  obtain ⟨kq, x12_2, rfl, HA, HJ2, HB⟩ := hcut
  cases kq with
  | zero => exact absurd HA.out (by simp [bulletinlaw20_MimeJoins.j0])
  | succ kj2 =>
   have H := HA.out
   clear HA
   simp only [bulletinlaw20_MimeJoins.j0] at H
   by_cases c6 : x12_2 = true
   ·subst c6
    have H1 : ((bulletinlaw20_works.f kj2).bind fun t831 => (some t831)) = some r := by rw [if_pos rfl] at H; exact H
    clear H
    have H := H1
    clear H1
    replace H := Option.bind_eq_some_iff.mp H
    obtain ⟨t831, A70, H⟩ := H
    replace H : (some t831) = some r := H
    have A7 := Aside0.mk A70
    clear A70
    obtain rfl := Option.some.inj H
    go_wp2_with (first | ((with_reducible refine gate_callee (f := 26) rfl ?_); refine goesL_ (some 13) rfl rfl Tryd.func26 (by kernel_rfl) rfl #[] rfl am ?_; (with_reducible refine (bulletinlaw20_works.calls (hG := by first | exact hG.toGlob | exact Glob.below hG.toGlob (by first | exact HB.out | (repeat (first | (with_reducible first | exact HB.out | apply below_alloc | apply pw_below_drewN | apply below_drew1) | exact HB.out))) | exact Glob.drawn hG.toGlob (by repeat (first | exact Drawn0.refl _ | apply Drawn0.step))) kj2  t831 _ A7.out).mono ?_); rintro e w8 ⟨rfl, hb⟩; refine ⟨_, rfl, ?_⟩; have n0_ := Aside0.mk (below_step bw hb); clear HB; have HB := n0_; clear n0_; (try clear hb); (try clear hb2); (try clear hk); (try clear hi)))
    go_ret
    exact ⟨by first | rfl | (simp [errW_none, errW_some] <;> rfl) | (simp [*, errW_none, errW_some] <;> rfl), bw⟩
   ·replace c6 := Bool.eq_false_iff.mpr c6
    subst c6
    have H1 : ((mime_Join.f l0 a1).bind fun t832 => ((bulletinref20_Join.f kj2 l0 a1).bind fun t833 => (if t832.toList = t833.toList then ((mime_Free.f l0 a1).bind fun t834 => ((bulletinref20_Free.f kj2 l0 a1).bind fun t835 => (if (t834 == t835) = true then ((mime_Boundary.f kj2 l0).bind fun t836 => ((bulletinref20_Boundary.f kj2 l0).bind fun t837 => (if t836.toList = t837.toList then ((bulletinlaw20_works.f kj2).bind fun t838 => (some t838)) else (some false)))) else (some false)))) else (some false)))) = some r := by rw [if_neg (show ¬ (false = true) by decide)] at H; exact H
    clear H
    have H := H1
    clear H1
    replace H := Option.bind_eq_some_iff.mp H
    obtain ⟨t832, A90, H⟩ := H
    replace H : ((bulletinref20_Join.f kj2 l0 a1).bind fun t833 => (if t832.toList = t833.toList then ((mime_Free.f l0 a1).bind fun t834 => ((bulletinref20_Free.f kj2 l0 a1).bind fun t835 => (if (t834 == t835) = true then ((mime_Boundary.f kj2 l0).bind fun t836 => ((bulletinref20_Boundary.f kj2 l0).bind fun t837 => (if t836.toList = t837.toList then ((bulletinlaw20_works.f kj2).bind fun t838 => (some t838)) else (some false)))) else (some false)))) else (some false))) = some r := H
    have A9 := Aside0.mk A90
    clear A90
    replace H := Option.bind_eq_some_iff.mp H
    obtain ⟨t833, A100, H⟩ := H
    replace H : (if t832.toList = t833.toList then ((mime_Free.f l0 a1).bind fun t834 => ((bulletinref20_Free.f kj2 l0 a1).bind fun t835 => (if (t834 == t835) = true then ((mime_Boundary.f kj2 l0).bind fun t836 => ((bulletinref20_Boundary.f kj2 l0).bind fun t837 => (if t836.toList = t837.toList then ((bulletinlaw20_works.f kj2).bind fun t838 => (some t838)) else (some false)))) else (some false)))) else (some false)) = some r := H
    have A10 := Aside0.mk A100
    clear A100
    by_cases c11 : t832.toList = t833.toList
    ·rw [if_pos c11] at H
     have c11b0 : (t832.toList == t833.toList) = true := beq_iff_eq.mpr c11
     have c11b1 : (t832.toList != t833.toList) = false := bne_eq_false_iff_eq.mpr c11
     clear c11
     replace H := Option.bind_eq_some_iff.mp H
     obtain ⟨t834, A120, H⟩ := H
     replace H : ((bulletinref20_Free.f kj2 l0 a1).bind fun t835 => (if (t834 == t835) = true then ((mime_Boundary.f kj2 l0).bind fun t836 => ((bulletinref20_Boundary.f kj2 l0).bind fun t837 => (if t836.toList = t837.toList then ((bulletinlaw20_works.f kj2).bind fun t838 => (some t838)) else (some false)))) else (some false))) = some r := H
     have A12 := Aside0.mk A120
     clear A120
     replace H := Option.bind_eq_some_iff.mp H
     obtain ⟨t835, A130, H⟩ := H
     replace H : (if (t834 == t835) = true then ((mime_Boundary.f kj2 l0).bind fun t836 => ((bulletinref20_Boundary.f kj2 l0).bind fun t837 => (if t836.toList = t837.toList then ((bulletinlaw20_works.f kj2).bind fun t838 => (some t838)) else (some false)))) else (some false)) = some r := H
     have A13 := Aside0.mk A130
     clear A130
     by_cases c14 : (t834 == t835) = true
     ·rw [if_pos c14] at H
      have c14b0 : (t834 == t835) = true := c14
      (try (have c14b1 : decide (t834 = t835) = true := by simpa using c14))
      (try (have c14b2 : (t834 == t835) = true := by simpa using c14))
      clear c14
      replace H := Option.bind_eq_some_iff.mp H
      obtain ⟨t836, A150, H⟩ := H
      replace H : ((bulletinref20_Boundary.f kj2 l0).bind fun t837 => (if t836.toList = t837.toList then ((bulletinlaw20_works.f kj2).bind fun t838 => (some t838)) else (some false))) = some r := H
      have A15 := Aside0.mk A150
      clear A150
      replace H := Option.bind_eq_some_iff.mp H
      obtain ⟨t837, A160, H⟩ := H
      replace H : (if t836.toList = t837.toList then ((bulletinlaw20_works.f kj2).bind fun t838 => (some t838)) else (some false)) = some r := H
      have A16 := Aside0.mk A160
      clear A160
      by_cases c17 : t836.toList = t837.toList
      ·rw [if_pos c17] at H
       have c17b0 : (t836.toList == t837.toList) = true := beq_iff_eq.mpr c17
       have c17b1 : (t836.toList != t837.toList) = false := bne_eq_false_iff_eq.mpr c17
       clear c17
       replace H := Option.bind_eq_some_iff.mp H
       obtain ⟨t838, A180, H⟩ := H
       replace H : (some t838) = some r := H
       have A18 := Aside0.mk A180
       clear A180
       obtain rfl := Option.some.inj H
       go_wp2_with (first | ((with_reducible refine gate_callee (f := 39) rfl ?_); refine goesL_ (some 16) rfl rfl Tryd.func39 (by kernel_rfl) rfl #[.slice A0 l0.length c0, .string a1] rfl am ?_; (with_reducible refine (mime_Join.calls _ _ l0 a1 t832 _ ?side1 ?side2 A9.out).mono ?_); (case side1 => repeat (first | exact (Kd.C_below HR0.out HB.out) | (with_reducible refine Kd.C_alloc ?_ _) | (with_reducible refine Kd.C_drewN ?_ _) | (with_reducible refine Kd.C_drew ?_))); (case side2 => exact HC0.out); rintro e w19 ⟨rfl, hb⟩; refine ⟨_, rfl, ?_⟩; have n0_ := Aside0.mk (below_step bw hb); clear HB; have HB := n0_; clear n0_; (try clear hb); (try clear hb2); (try clear hk); (try clear hi)) | ((with_reducible refine gate_callee (f := 48) rfl ?_); refine goesL_ (some 19) rfl rfl Tryd.func48 (by kernel_rfl) rfl #[.slice A0 l0.length c0, .string a1] rfl am ?_; (with_reducible refine (bulletinref20_Join.calls kj2 _ _ l0 a1 t833 _ ?side1 ?side2 A10.out).mono ?_); (case side1 => repeat (first | exact (Kd.C_below HR0.out HB.out) | (with_reducible refine Kd.C_alloc ?_ _) | (with_reducible refine Kd.C_drewN ?_ _) | (with_reducible refine Kd.C_drew ?_))); (case side2 => exact HC0.out); rintro e w' ⟨rfl, ⟨nd, rfl⟩⟩; refine ⟨_, rfl, ?_⟩) | (go_at_call 37; (with_reducible refine (mime_Free.calls (hG := by first | exact hG.toGlob | exact Glob.below hG.toGlob (by first | exact HB.out | (repeat (first | (with_reducible first | exact HB.out | apply below_alloc | apply pw_below_drewN | apply below_drew1) | exact HB.out))) | exact Glob.drawn hG.toGlob (by repeat (first | exact Drawn0.refl _ | apply Drawn0.step))) _ _ l0 a1 t834 _ ?side1 ?side2 A12.out).mono ?_); (case side1 => repeat (first | exact (Kd.C_below HR0.out bw) | (with_reducible refine Kd.C_alloc ?_ _) | (with_reducible refine Kd.C_drewN ?_ _) | (with_reducible refine Kd.C_drew ?_))); (case side2 => exact HC0.out); rintro e w20 ⟨rfl, hb⟩; have n0_ := Aside0.mk (below_step bw hb); clear HB; have HB := n0_; clear n0_; (try clear hb); (try clear hb2); (try clear hk); (try clear hi)) | (go_at_call 49; (with_reducible refine (bulletinref20_Free.calls kj2 _ _ l0 a1 t835 _ ?side1 ?side2 A13.out).mono ?_); (case side1 => repeat (first | exact (Kd.C_below HR0.out HB.out) | (with_reducible refine Kd.C_alloc ?_ _) | (with_reducible refine Kd.C_drewN ?_ _) | (with_reducible refine Kd.C_drew ?_))); (case side2 => exact HC0.out); rintro e w21 ⟨rfl, hb⟩; have n0_ := Aside0.mk (below_step bw hb); clear HB; have HB := n0_; clear n0_; (try clear hb); (try clear hb2); (try clear hk); (try clear hi)) | (go_at_call 50; (with_reducible refine (mime_Boundary.calls (hG := by first | exact hG | exact GlobT.below hG (by first | exact HB.out | (repeat (first | (with_reducible first | exact HB.out | apply below_alloc | apply pw_below_drewN | apply below_drew1) | exact HB.out))) | exact GlobT.drawn hG (by repeat (first | exact Drawn0.refl _ | apply Drawn0.step))) kj2 _ _ l0 t836 _ ?side1 ?side2 A15.out).mono ?_); (case side1 => repeat (first | exact (Kd.C_below HR0.out HB.out) | (with_reducible refine Kd.C_alloc ?_ _) | (with_reducible refine Kd.C_drewN ?_ _) | (with_reducible refine Kd.C_drew ?_))); (case side2 => exact HC0.out); rintro e w22 ⟨rfl, hb⟩; have n0_ := Aside0.mk (below_step bw hb); clear HB; have HB := n0_; clear n0_; (try clear hb); (try clear hb2); (try clear hk); (try clear hi)) | (go_at_call 51; (with_reducible refine (bulletinref20_Boundary.calls kj2 _ _ l0 t837 _ ?side1 ?side2 A16.out).mono ?_); (case side1 => repeat (first | exact (Kd.C_below HR0.out HB.out) | (with_reducible refine Kd.C_alloc ?_ _) | (with_reducible refine Kd.C_drewN ?_ _) | (with_reducible refine Kd.C_drew ?_))); (case side2 => exact HC0.out); rintro e w23 ⟨rfl, hb⟩; have n0_ := Aside0.mk (below_step bw hb); clear HB; have HB := n0_; clear n0_; (try clear hb); (try clear hb2); (try clear hk); (try clear hi)) | (go_at_call 26; (with_reducible refine (bulletinlaw20_works.calls (hG := by first | exact hG.toGlob | exact Glob.below hG.toGlob (by first | exact HB.out | (repeat (first | (with_reducible first | exact HB.out | apply below_alloc | apply pw_below_drewN | apply below_drew1) | exact HB.out))) | exact Glob.drawn hG.toGlob (by repeat (first | exact Drawn0.refl _ | apply Drawn0.step))) kj2  t838 _ A18.out).mono ?_); rintro e w24 ⟨rfl, hb⟩; have n0_ := Aside0.mk (below_step bw hb); clear HB; have HB := n0_; clear n0_; (try clear hb); (try clear hb2); (try clear hk); (try clear hi)))
       go_ret
       exact ⟨by first | rfl | (simp [errW_none, errW_some] <;> rfl) | (simp [*, errW_none, errW_some] <;> rfl), bw⟩
      ·rw [if_neg c17] at H
       have c17b0 : (t836.toList == t837.toList) = false := beq_eq_false_iff_ne.mpr c17
       have c17b1 : (t836.toList != t837.toList) = true := bne_iff_ne.mpr c17
       obtain rfl := Option.some.inj H
       go_wp2_with (first | ((with_reducible refine gate_callee (f := 39) rfl ?_); refine goesL_ (some 16) rfl rfl Tryd.func39 (by kernel_rfl) rfl #[.slice A0 l0.length c0, .string a1] rfl am ?_; (with_reducible refine (mime_Join.calls _ _ l0 a1 t832 _ ?side1 ?side2 A9.out).mono ?_); (case side1 => repeat (first | exact (Kd.C_below HR0.out HB.out) | (with_reducible refine Kd.C_alloc ?_ _) | (with_reducible refine Kd.C_drewN ?_ _) | (with_reducible refine Kd.C_drew ?_))); (case side2 => exact HC0.out); rintro e w25 ⟨rfl, hb⟩; refine ⟨_, rfl, ?_⟩; have n0_ := Aside0.mk (below_step bw hb); clear HB; have HB := n0_; clear n0_; (try clear hb); (try clear hb2); (try clear hk); (try clear hi)) | ((with_reducible refine gate_callee (f := 48) rfl ?_); refine goesL_ (some 19) rfl rfl Tryd.func48 (by kernel_rfl) rfl #[.slice A0 l0.length c0, .string a1] rfl am ?_; (with_reducible refine (bulletinref20_Join.calls kj2 _ _ l0 a1 t833 _ ?side1 ?side2 A10.out).mono ?_); (case side1 => repeat (first | exact (Kd.C_below HR0.out HB.out) | (with_reducible refine Kd.C_alloc ?_ _) | (with_reducible refine Kd.C_drewN ?_ _) | (with_reducible refine Kd.C_drew ?_))); (case side2 => exact HC0.out); rintro e w' ⟨rfl, ⟨nd, rfl⟩⟩; refine ⟨_, rfl, ?_⟩) | (go_at_call 37; (with_reducible refine (mime_Free.calls (hG := by first | exact hG.toGlob | exact Glob.below hG.toGlob (by first | exact HB.out | (repeat (first | (with_reducible first | exact HB.out | apply below_alloc | apply pw_below_drewN | apply below_drew1) | exact HB.out))) | exact Glob.drawn hG.toGlob (by repeat (first | exact Drawn0.refl _ | apply Drawn0.step))) _ _ l0 a1 t834 _ ?side1 ?side2 A12.out).mono ?_); (case side1 => repeat (first | exact (Kd.C_below HR0.out bw) | (with_reducible refine Kd.C_alloc ?_ _) | (with_reducible refine Kd.C_drewN ?_ _) | (with_reducible refine Kd.C_drew ?_))); (case side2 => exact HC0.out); rintro e w26 ⟨rfl, hb⟩; have n0_ := Aside0.mk (below_step bw hb); clear HB; have HB := n0_; clear n0_; (try clear hb); (try clear hb2); (try clear hk); (try clear hi)) | (go_at_call 49; (with_reducible refine (bulletinref20_Free.calls kj2 _ _ l0 a1 t835 _ ?side1 ?side2 A13.out).mono ?_); (case side1 => repeat (first | exact (Kd.C_below HR0.out HB.out) | (with_reducible refine Kd.C_alloc ?_ _) | (with_reducible refine Kd.C_drewN ?_ _) | (with_reducible refine Kd.C_drew ?_))); (case side2 => exact HC0.out); rintro e w27 ⟨rfl, hb⟩; have n0_ := Aside0.mk (below_step bw hb); clear HB; have HB := n0_; clear n0_; (try clear hb); (try clear hb2); (try clear hk); (try clear hi)) | (go_at_call 50; (with_reducible refine (mime_Boundary.calls (hG := by first | exact hG | exact GlobT.below hG (by first | exact HB.out | (repeat (first | (with_reducible first | exact HB.out | apply below_alloc | apply pw_below_drewN | apply below_drew1) | exact HB.out))) | exact GlobT.drawn hG (by repeat (first | exact Drawn0.refl _ | apply Drawn0.step))) kj2 _ _ l0 t836 _ ?side1 ?side2 A15.out).mono ?_); (case side1 => repeat (first | exact (Kd.C_below HR0.out HB.out) | (with_reducible refine Kd.C_alloc ?_ _) | (with_reducible refine Kd.C_drewN ?_ _) | (with_reducible refine Kd.C_drew ?_))); (case side2 => exact HC0.out); rintro e w28 ⟨rfl, hb⟩; have n0_ := Aside0.mk (below_step bw hb); clear HB; have HB := n0_; clear n0_; (try clear hb); (try clear hb2); (try clear hk); (try clear hi)) | (go_at_call 51; (with_reducible refine (bulletinref20_Boundary.calls kj2 _ _ l0 t837 _ ?side1 ?side2 A16.out).mono ?_); (case side1 => repeat (first | exact (Kd.C_below HR0.out HB.out) | (with_reducible refine Kd.C_alloc ?_ _) | (with_reducible refine Kd.C_drewN ?_ _) | (with_reducible refine Kd.C_drew ?_))); (case side2 => exact HC0.out); rintro e w29 ⟨rfl, hb⟩; have n0_ := Aside0.mk (below_step bw hb); clear HB; have HB := n0_; clear n0_; (try clear hb); (try clear hb2); (try clear hk); (try clear hi)))
       go_ret
       exact ⟨by first | rfl | (simp [errW_none, errW_some] <;> rfl) | (simp [*, errW_none, errW_some] <;> rfl), bw⟩
     ·rw [if_neg c14] at H
      have c14b0 : (t834 == t835) = false := by simpa using c14
      (try (have c14b1 : decide (t834 = t835) = false := by simpa using c14))
      (try (have c14b2 : (t834 == t835) = false := by simpa using c14))
      (try (have c14b3 : ¬ (t834 = t835) := by simpa using c14))
      clear c14
      obtain rfl := Option.some.inj H
      go_wp2_with (first | ((with_reducible refine gate_callee (f := 39) rfl ?_); refine goesL_ (some 16) rfl rfl Tryd.func39 (by kernel_rfl) rfl #[.slice A0 l0.length c0, .string a1] rfl am ?_; (with_reducible refine (mime_Join.calls _ _ l0 a1 t832 _ ?side1 ?side2 A9.out).mono ?_); (case side1 => repeat (first | exact (Kd.C_below HR0.out HB.out) | (with_reducible refine Kd.C_alloc ?_ _) | (with_reducible refine Kd.C_drewN ?_ _) | (with_reducible refine Kd.C_drew ?_))); (case side2 => exact HC0.out); rintro e w30 ⟨rfl, hb⟩; refine ⟨_, rfl, ?_⟩; have n0_ := Aside0.mk (below_step bw hb); clear HB; have HB := n0_; clear n0_; (try clear hb); (try clear hb2); (try clear hk); (try clear hi)) | ((with_reducible refine gate_callee (f := 48) rfl ?_); refine goesL_ (some 19) rfl rfl Tryd.func48 (by kernel_rfl) rfl #[.slice A0 l0.length c0, .string a1] rfl am ?_; (with_reducible refine (bulletinref20_Join.calls kj2 _ _ l0 a1 t833 _ ?side1 ?side2 A10.out).mono ?_); (case side1 => repeat (first | exact (Kd.C_below HR0.out HB.out) | (with_reducible refine Kd.C_alloc ?_ _) | (with_reducible refine Kd.C_drewN ?_ _) | (with_reducible refine Kd.C_drew ?_))); (case side2 => exact HC0.out); rintro e w' ⟨rfl, ⟨nd, rfl⟩⟩; refine ⟨_, rfl, ?_⟩) | (go_at_call 37; (with_reducible refine (mime_Free.calls (hG := by first | exact hG.toGlob | exact Glob.below hG.toGlob (by first | exact HB.out | (repeat (first | (with_reducible first | exact HB.out | apply below_alloc | apply pw_below_drewN | apply below_drew1) | exact HB.out))) | exact Glob.drawn hG.toGlob (by repeat (first | exact Drawn0.refl _ | apply Drawn0.step))) _ _ l0 a1 t834 _ ?side1 ?side2 A12.out).mono ?_); (case side1 => repeat (first | exact (Kd.C_below HR0.out bw) | (with_reducible refine Kd.C_alloc ?_ _) | (with_reducible refine Kd.C_drewN ?_ _) | (with_reducible refine Kd.C_drew ?_))); (case side2 => exact HC0.out); rintro e w31 ⟨rfl, hb⟩; have n0_ := Aside0.mk (below_step bw hb); clear HB; have HB := n0_; clear n0_; (try clear hb); (try clear hb2); (try clear hk); (try clear hi)) | (go_at_call 49; (with_reducible refine (bulletinref20_Free.calls kj2 _ _ l0 a1 t835 _ ?side1 ?side2 A13.out).mono ?_); (case side1 => repeat (first | exact (Kd.C_below HR0.out HB.out) | (with_reducible refine Kd.C_alloc ?_ _) | (with_reducible refine Kd.C_drewN ?_ _) | (with_reducible refine Kd.C_drew ?_))); (case side2 => exact HC0.out); rintro e w32 ⟨rfl, hb⟩; have n0_ := Aside0.mk (below_step bw hb); clear HB; have HB := n0_; clear n0_; (try clear hb); (try clear hb2); (try clear hk); (try clear hi)))
      go_ret
      exact ⟨by first | rfl | (simp [errW_none, errW_some] <;> rfl) | (simp [*, errW_none, errW_some] <;> rfl), bw⟩
    ·rw [if_neg c11] at H
     have c11b0 : (t832.toList == t833.toList) = false := beq_eq_false_iff_ne.mpr c11
     have c11b1 : (t832.toList != t833.toList) = true := bne_iff_ne.mpr c11
     obtain rfl := Option.some.inj H
     go_wp2_with (first | ((with_reducible refine gate_callee (f := 39) rfl ?_); refine goesL_ (some 16) rfl rfl Tryd.func39 (by kernel_rfl) rfl #[.slice A0 l0.length c0, .string a1] rfl am ?_; (with_reducible refine (mime_Join.calls _ _ l0 a1 t832 _ ?side1 ?side2 A9.out).mono ?_); (case side1 => repeat (first | exact (Kd.C_below HR0.out HB.out) | (with_reducible refine Kd.C_alloc ?_ _) | (with_reducible refine Kd.C_drewN ?_ _) | (with_reducible refine Kd.C_drew ?_))); (case side2 => exact HC0.out); rintro e w33 ⟨rfl, hb⟩; refine ⟨_, rfl, ?_⟩; have n0_ := Aside0.mk (below_step bw hb); clear HB; have HB := n0_; clear n0_; (try clear hb); (try clear hb2); (try clear hk); (try clear hi)) | ((with_reducible refine gate_callee (f := 48) rfl ?_); refine goesL_ (some 19) rfl rfl Tryd.func48 (by kernel_rfl) rfl #[.slice A0 l0.length c0, .string a1] rfl am ?_; (with_reducible refine (bulletinref20_Join.calls kj2 _ _ l0 a1 t833 _ ?side1 ?side2 A10.out).mono ?_); (case side1 => repeat (first | exact (Kd.C_below HR0.out HB.out) | (with_reducible refine Kd.C_alloc ?_ _) | (with_reducible refine Kd.C_drewN ?_ _) | (with_reducible refine Kd.C_drew ?_))); (case side2 => exact HC0.out); rintro e w' ⟨rfl, ⟨nd, rfl⟩⟩; refine ⟨_, rfl, ?_⟩))
     go_ret
     exact ⟨by first | rfl | (simp [errW_none, errW_some] <;> rfl) | (simp [*, errW_none, errW_some] <;> rfl), bw⟩

end Go.Proofs.YtoikneogdbdplaaDoor.Fn
namespace Go.Proofs.YtoikneogdbdplaaDoor.Fn
open Go.RowKit Go.Proofs.YtoikneogdbdplaaDoorW.PrintWords Go.Proofs.YtoikneogdbdplaaDoorW.PrintLast Go.Proofs.YtoikneogdbdplaaDoorW.PrintMore
attribute [local go_sem] max2_int min2_int max_two min_two max_three min_three max_four min_four
set_option linter.unusedVariables false
set_option linter.unusedSimpArgs false

/-! ### bulletinref20_RightBoundary: function 36 -/
end Go.Proofs.YtoikneogdbdplaaDoor.Fn
namespace Go.Proofs.YtoikneogdbdplaaDoor.Fn
open Go.RowKit Go.Proofs.YtoikneogdbdplaaDoorW.PrintWords Go.Proofs.YtoikneogdbdplaaDoorW.PrintLast Go.Proofs.YtoikneogdbdplaaDoorW.PrintMore
attribute [local go_sem] max2_int min2_int max_two min_two max_three min_three max_four min_four
set_option linter.unusedVariables false
set_option linter.unusedSimpArgs false

/-! ### head_named: function 120 -/
def head_named.l0 : Nat → ByteArray → Int → Int → Option (Bool)
 | 0, _, _, _ => none
 | k + 1, x0, x6, x7 => if x7 < x6 then (if 0 ≤ x7 then (if x7 < (x0.size : Int) then (if (bt x0 x7) ≤ 32 then (some false) else (if (bt x0 x7) > 126 then (some false) else (if (bt x0 x7) = 58 then (some false) else (head_named.l0 k x0 x6 (wrap64 (x7 + 1)))))) else (none)) else (none)) else (if x0.toList = ([] : List UInt8) then (some false) else (some (decide ((x0.size : Int) ≤ 76))))
def head_named.f (k : Nat) (a0 : ByteArray) : Option (Bool) := head_named.l0 k a0 (a0.size : Int) 0
end Go.Proofs.YtoikneogdbdplaaDoor.Fn
namespace Go.Proofs.YtoikneogdbdplaaDoor.Fn
open Go.RowKit Go.Proofs.YtoikneogdbdplaaDoorW.PrintWords Go.Proofs.YtoikneogdbdplaaDoorW.PrintLast Go.Proofs.YtoikneogdbdplaaDoorW.PrintMore
attribute [local go_sem] max2_int min2_int max_two min_two max_three min_three max_four min_four
set_option linter.unusedVariables false
set_option linter.unusedSimpArgs false

/-! ### head_text: function 118 -/
def head_text.l0 : Nat → ByteArray → Int → Int → Option (Bool)
 | 0, _, _, _ => none
 | k + 1, x0, x6, x7 => if x7 < x6 then (if 0 ≤ x7 then (if x7 < (x0.size : Int) then (if (bt x0 x7) < 32 then (if (bt x0 x7) = 9 then (if (bt x0 x7) = 127 then (some false) else (head_text.l0 k x0 x6 (wrap64 (x7 + 1)))) else (some false)) else (if (bt x0 x7) = 127 then (some false) else (head_text.l0 k x0 x6 (wrap64 (x7 + 1))))) else (none)) else (none)) else (some true)
def head_text.f (k : Nat) (a0 : ByteArray) : Option (Bool) := head_text.l0 k a0 (a0.size : Int) 0
end Go.Proofs.YtoikneogdbdplaaDoor.Fn
namespace Go.Proofs.YtoikneogdbdplaaDoor.Fn
open Go.RowKit Go.Proofs.YtoikneogdbdplaaDoorW.PrintWords Go.Proofs.YtoikneogdbdplaaDoorW.PrintLast Go.Proofs.YtoikneogdbdplaaDoorW.PrintMore
attribute [local go_sem] max2_int min2_int max_two min_two max_three min_three max_four min_four
set_option linter.unusedVariables false
set_option linter.unusedSimpArgs false

/-! ### head_white: function 119 -/
def head_white.f (a0 : ByteArray) : Option (Bool) := if a0.toList = ([] : List UInt8) then (some false) else (if 0 < (a0.size : Int) then (if (bt a0 0) = 32 then (some true) else (some ((bt a0 0) == 9))) else (none))
end Go.Proofs.YtoikneogdbdplaaDoor.Fn
namespace Go.Proofs.YtoikneogdbdplaaDoor.Fn
open Go.RowKit Go.Proofs.YtoikneogdbdplaaDoorW.PrintWords Go.Proofs.YtoikneogdbdplaaDoorW.PrintLast Go.Proofs.YtoikneogdbdplaaDoorW.PrintMore
attribute [local go_sem] max2_int min2_int max_two min_two max_three min_three max_four min_four
set_option linter.unusedVariables false
set_option linter.unusedSimpArgs false

/-! ### head_grow: function 96 -/
mutual
def head_grow.j0 : Nat → List (S30) → ByteArray → Bool → Option ((List (S30)) × Int)
 | 0, _, _, _ => none
 | k + 1, x0, x1, x13 => if x13 = true then (some (([] : List (S30)), 150)) else ((head_white.f x1).bind fun t144 => (if t144 = true then (if 0 ≤ (wrap64 ((x0.length : Int) - 1)) then (if (wrap64 ((x0.length : Int) - 1)) < (x0.length : Int) then (if ((rd_T30 x0 (wrap64 ((x0.length : Int) - 1))).f1).size + x1.size ≤ 9223372036854775807 then (some ((x0.set ((wrap64 ((x0.length : Int) - 1)) : Int).toNat (⟨(rd_T30 x0 (wrap64 ((x0.length : Int) - 1))).f0, ((rd_T30 x0 (wrap64 ((x0.length : Int) - 1))).f1) ++ x1⟩ : S30)), 0)) else (none)) else (none)) else (none)) else ((strings_Cut.f x1 (⟨#[58]⟩ : ByteArray)).bind fun bt147 => (if bt147.2.2 = true then ((head_named.f k bt147.1).bind fun t150 => (head_grow.j1 k x0 bt147.1 bt147.2.1 (!t150))) else (head_grow.j1 k x0 bt147.1 bt147.2.1 true)))))
def head_grow.j1 : Nat → List (S30) → ByteArray → ByteArray → Bool → Option ((List (S30)) × Int)
 | 0, _, _, _, _ => none
 | k + 1, x0, x6, x7, x47 => if x47 = true then (some (([] : List (S30)), 150)) else (if (x0.length : Int) = 100 then (some (([] : List (S30)), 8)) else (if x0.length < 4398046511104 then (some ((x0 ++ [(⟨x6, x7⟩ : S30)]), 0)) else (none)))
end
def head_grow.f (k : Nat) (l0 : List (S30)) (a1 : ByteArray) : Option ((List (S30)) × Int) := if (a1.size : Int) > 998 then (some (([] : List (S30)), 2)) else ((head_text.f k a1).bind fun t142 => (if t142 = true then ((head_white.f a1).bind fun t143 => (if t143 = true then (head_grow.j0 k l0 a1 ((l0.length : Int) == 0)) else (head_grow.j0 k l0 a1 false))) else (head_grow.j0 k l0 a1 true)))
end Go.Proofs.YtoikneogdbdplaaDoor.Fn
set_option linter.unusedVariables false
namespace Go.Proofs.YtoikneogdbdplaaDoor.Fn
open Go.RowKit Go.Proofs.YtoikneogdbdplaaDoorW.PrintWords

def strings_Trim.f (a0 a1 : ByteArray) : Option ByteArray :=
  if a0.size ≤ 140737488355328 then (if a1.size ≤ 1000 then (if a1.data.toList.all (fun b => decide (b.toNat < 128)) = true then some (Pl.str (Lib.trimS a0.data.toList a1.data.toList)) else none) else none) else none
end Go.Proofs.YtoikneogdbdplaaDoor.Fn
namespace Go.Proofs.YtoikneogdbdplaaDoor.Fn
open Go.RowKit Go.Proofs.YtoikneogdbdplaaDoorW.PrintWords Go.Proofs.YtoikneogdbdplaaDoorW.PrintLast Go.Proofs.YtoikneogdbdplaaDoorW.PrintMore
attribute [local go_sem] max2_int min2_int max_two min_two max_three min_three max_four min_four
set_option linter.unusedVariables false
set_option linter.unusedSimpArgs false

/-! ### head_trim: function 97 -/
def head_trim.f (a0 : ByteArray) : Option (ByteArray) := (strings_Trim.f a0 (⟨#[32, 9]⟩ : ByteArray)).bind fun t156 => (some t156)
end Go.Proofs.YtoikneogdbdplaaDoor.Fn
namespace Go.Proofs.YtoikneogdbdplaaDoor.Fn
open Go.RowKit Go.Proofs.YtoikneogdbdplaaDoorW.PrintWords Go.Proofs.YtoikneogdbdplaaDoorW.PrintLast Go.Proofs.YtoikneogdbdplaaDoorW.PrintMore
attribute [local go_sem] max2_int min2_int max_two min_two max_three min_three max_four min_four
set_option linter.unusedVariables false
set_option linter.unusedSimpArgs false

/-! ### head_Parse: function 52 -/
mutual
def head_Parse.j1 : Nat → List (S30) → ByteArray → Option ((List (S30)) × ByteArray × Int)
 | 0, _, _ => none
 | k + 1, x2, x3 => head_Parse.l1 k x2 x3 (x2.length : Int) 0
def head_Parse.l1 : Nat → List (S30) → ByteArray → Int → Int → Option ((List (S30)) × ByteArray × Int)
 | 0, _, _, _, _ => none
 | k + 1, x2, x3, x33, x34 => if x34 < x33 then (if 0 ≤ x34 then (if x34 < (x2.length : Int) then ((head_trim.f ((rd_T30 x2 x34).f1)).bind fun t165 => (head_Parse.l1 k (x2.set (x34 : Int).toNat (⟨(rd_T30 x2 x34).f0, t165⟩ : S30)) x3 x33 (wrap64 (x34 + 1)))) else (none)) else (none)) else (some (x2, x3, 0))
def head_Parse.l0 : Nat → ByteArray → List (S30) → ByteArray → Option ((List (S30)) × ByteArray × Int)
 | 0, _, _, _ => none
 | k + 1, x0, x2, x3 => if x0.toList = ([] : List UInt8) then (head_Parse.j1 k x2 x3) else ((strings_Cut.f x0 (⟨#[13, 10]⟩ : ByteArray)).bind fun bt157 => (if bt157.2.2 = true then (if bt157.1.toList = ([] : List UInt8) then (head_Parse.j1 k x2 bt157.2.1) else ((head_grow.f k x2 bt157.1).bind fun bt160 => (if bt160.2 = 0 then (head_Parse.l0 k bt157.2.1 bt160.1 x3) else (some (([] : List (S30)), (⟨#[]⟩ : ByteArray), bt160.2))))) else (some (([] : List (S30)), (⟨#[]⟩ : ByteArray), 9))))
end
end Go.Proofs.YtoikneogdbdplaaDoor.Fn
set_option linter.unusedVariables false
namespace Go.Proofs.YtoikneogdbdplaaDoor.Fn
open Go.RowKit Go.Proofs.YtoikneogdbdplaaDoorW.PrintWords

/-! strings.IndexRune of a blank text at a sign beyond ASCII: -1. -/
end Go.Proofs.YtoikneogdbdplaaDoor.Fn
set_option linter.unusedVariables false
namespace Go.Proofs.YtoikneogdbdplaaDoor.Fn
open Go.RowKit Go.Proofs.YtoikneogdbdplaaDoorW.PrintWords

end Go.Proofs.YtoikneogdbdplaaDoor.Fn
set_option linter.unusedVariables false
namespace Go.Proofs.YtoikneogdbdplaaDoor.Fn
open Go.RowKit Go.Proofs.YtoikneogdbdplaaDoorW.PrintWords

end Go.Proofs.YtoikneogdbdplaaDoor.Fn
namespace Go.Proofs.YtoikneogdbdplaaDoor.Fn
open Go.RowKit Go.Proofs.YtoikneogdbdplaaDoorW.PrintWords Go.Proofs.YtoikneogdbdplaaDoorW.PrintLast Go.Proofs.YtoikneogdbdplaaDoorW.PrintMore
attribute [local go_sem] max2_int min2_int max_two min_two max_three min_three max_four min_four
set_option linter.unusedVariables false
set_option linter.unusedSimpArgs false

/-! ### head_piece: function 98 -/
end Go.Proofs.YtoikneogdbdplaaDoor.Fn
set_option linter.unusedVariables false
set_option linter.unusedSimpArgs false
namespace Go.Proofs.YtoikneogdbdplaaDoor.Pl
open Go.RowKit Go.Proofs.YtoikneogdbdplaaDoorW.PrintWords Go.Proofs.YtoikneogdbdplaaDoor.Fn

/-! head: how a field is written, in pieces. -/
def wb (c : UInt8) : Bool := ([32, 9] : List UInt8).contains c
def lead (s : Bytes) : Nat := (s.takeWhile wb).length
def word (s : Bytes) : Nat := (s.takeWhile (fun c => !wb c)).length
end Go.Proofs.YtoikneogdbdplaaDoor.Pl
set_option linter.unusedVariables false
set_option linter.unusedSimpArgs false
namespace Go.Proofs.YtoikneogdbdplaaDoor.Pl
open Go.RowKit Go.Proofs.YtoikneogdbdplaaDoorW.PrintWords Go.Proofs.YtoikneogdbdplaaDoor.Fn

/-! head.Parse as a machine over lists of bytes. -/
def nameB (c : UInt8) : Bool := !decide (c.toNat < 33) && (!decide (126 < c.toNat) && !decide (c.toNat = 58))
def named (s : Bytes) : Bool := s.all nameB && (!decide (s = []) && decide (s.length ≤ 76))
def crlf : Bytes → Option Nat
  | [] => none
  | c :: r => if c = 13 ∧ r.head? = some 10 then some 0 else (crlf r).map (· + 1)
def upto (c : UInt8) : Bytes → Nat
  | [] => 0
  | d :: r => if d = c then 0 else upto c r + 1
theorem crlf_room : ∀ {s : Bytes} {i : Nat}, crlf s = some i → i + 2 ≤ s.length
  | [], i, h => by simp [crlf] at h
  | c :: r, i, h => by
    unfold crlf at h
    split at h
    · rename_i hc
      injection h with h
      subst h
      cases r with
      | nil => simp at hc
      | cons d r => simp
    · rw [Option.map_eq_some_iff] at h
      obtain ⟨j, hj, rfl⟩ := h
      have := crlf_room hj
      simp only [List.length_cons]; omega
theorem index_crlf : ∀ (s : Bytes), Lib.index s [13, 10] = (match crlf s with | some i => (i : Int) | none => -1)
  | [] => rfl
  | c :: r => by
    have ih := index_crlf r
    rw [Lib.index, crlf]
    by_cases h : c = 13 ∧ r.head? = some 10
    · rw [if_pos h]
      obtain ⟨rfl, h2⟩ := h
      cases r with
      | nil => simp at h2
      | cons d r =>
        simp at h2
        subst h2
        rw [if_pos (by simp [List.isPrefixOf])]
        rfl
    · rw [if_neg h]
      have hp : ([13, 10] : Bytes).isPrefixOf (c :: r) = false := by
        cases r with
        | nil => simp [List.isPrefixOf]
        | cons d r =>
          simp only [List.head?_cons, Option.some.injEq] at h
          simp [List.isPrefixOf]
          intro h1 h2
          exact h ⟨h1.symm, h2.symm⟩
      rw [hp, if_neg (by decide), ih]
      cases crlf r with
      | none => rfl
      | some i =>
        simp only [Option.map_some]
        rw [if_neg (by first | (simp; done) | (simp; omega))]
        show (i : Int) + 1 = ((i + 1 : Nat) : Int)
        omega
end Go.Proofs.YtoikneogdbdplaaDoor.Pl
namespace Go.Proofs.YtoikneogdbdplaaDoor.Fn
open Go.RowKit Go.Proofs.YtoikneogdbdplaaDoorW.PrintWords Go.Proofs.YtoikneogdbdplaaDoorW.PrintLast Go.Proofs.YtoikneogdbdplaaDoorW.PrintMore
attribute [local go_sem] max2_int min2_int max_two min_two max_three min_three max_four min_four
set_option linter.unusedVariables false
set_option linter.unusedSimpArgs false

/-! ### bulletinref12_among: function 106 -/
end Go.Proofs.YtoikneogdbdplaaDoor.Fn
namespace Go.Proofs.YtoikneogdbdplaaDoor.Fn
open Go.RowKit Go.Proofs.YtoikneogdbdplaaDoorW.PrintWords Go.Proofs.YtoikneogdbdplaaDoorW.PrintLast Go.Proofs.YtoikneogdbdplaaDoorW.PrintMore
attribute [local go_sem] max2_int min2_int max_two min_two max_three min_three max_four min_four
set_option linter.unusedVariables false
set_option linter.unusedSimpArgs false

/-! ### bulletinref12_atomic: function 105 -/
end Go.Proofs.YtoikneogdbdplaaDoor.Fn
namespace Go.Proofs.YtoikneogdbdplaaDoor.Fn
open Go.RowKit Go.Proofs.YtoikneogdbdplaaDoorW.PrintWords Go.Proofs.YtoikneogdbdplaaDoorW.PrintLast Go.Proofs.YtoikneogdbdplaaDoorW.PrintMore
attribute [local go_sem] max2_int min2_int max_two min_two max_three min_three max_four min_four
set_option linter.unusedVariables false
set_option linter.unusedSimpArgs false

/-! ### bulletinref12_IsAtom: function 68 -/
end Go.Proofs.YtoikneogdbdplaaDoor.Fn
set_option linter.unusedVariables false
namespace Go.Proofs.YtoikneogdbdplaaDoor.Pl
open Go.RowKit Go.Proofs.YtoikneogdbdplaaDoorW.PrintWords Go.Proofs.YtoikneogdbdplaaDoor.Fn

/-! Layer 12, the program's and the document's: which bytes are atomic; atoms. -/
def atomic (c : UInt8) : Bool := (lex_atomic.f (c.toNat : Int)).getD false
end Go.Proofs.YtoikneogdbdplaaDoor.Pl
namespace Go.Proofs.YtoikneogdbdplaaDoor.Fn
open Go.RowKit Go.Proofs.YtoikneogdbdplaaDoorW.PrintWords Go.Proofs.YtoikneogdbdplaaDoorW.PrintLast Go.Proofs.YtoikneogdbdplaaDoorW.PrintMore
attribute [local go_sem] max2_int min2_int max_two min_two max_three min_three max_four min_four
set_option linter.unusedVariables false
set_option linter.unusedSimpArgs false

/-! ### addr_labelled: function 180 -/
def addr_labelled.f (a0 : Int) : Option (Bool) := if a0 ≥ 97 then (if a0 ≤ 122 then (some true) else (if a0 ≥ 65 then (if a0 ≤ 90 then (some true) else (if a0 ≥ 48 then (if a0 ≤ 57 then (some true) else (some (a0 == 45))) else (some (a0 == 45)))) else (if a0 ≥ 48 then (if a0 ≤ 57 then (some true) else (some (a0 == 45))) else (some (a0 == 45))))) else (if a0 ≥ 65 then (if a0 ≤ 90 then (some true) else (if a0 ≥ 48 then (if a0 ≤ 57 then (some true) else (some (a0 == 45))) else (some (a0 == 45)))) else (if a0 ≥ 48 then (if a0 ≤ 57 then (some true) else (some (a0 == 45))) else (some (a0 == 45))))
end Go.Proofs.YtoikneogdbdplaaDoor.Fn
namespace Go.Proofs.YtoikneogdbdplaaDoor.Fn
open Go.RowKit Go.Proofs.YtoikneogdbdplaaDoorW.PrintWords Go.Proofs.YtoikneogdbdplaaDoorW.PrintLast Go.Proofs.YtoikneogdbdplaaDoorW.PrintMore
attribute [local go_sem] max2_int min2_int max_two min_two max_three min_three max_four min_four
set_option linter.unusedVariables false
set_option linter.unusedSimpArgs false

/-! ### addr_label: function 168 -/
end Go.Proofs.YtoikneogdbdplaaDoor.Fn
set_option linter.unusedVariables false
namespace Go.Proofs.YtoikneogdbdplaaDoor.Pl
open Go.RowKit Go.Proofs.YtoikneogdbdplaaDoorW.PrintWords Go.Proofs.YtoikneogdbdplaaDoor.Fn

/-! Layer 13, the program's: labels. -/
def labelled (c : UInt8) : Bool := (addr_labelled.f (c.toNat : Int)).getD false
def labelL (l : Bytes) : Bool := l.all labelled && (match l.head?, l.getLast? with | some a, some b => a != 45 && b != 45 | _, _ => false)
def label (s : ByteArray) : Bool := labelL (bs s)
end Go.Proofs.YtoikneogdbdplaaDoor.Pl
set_option linter.unusedVariables false
namespace Go.Proofs.YtoikneogdbdplaaDoor.Pl
def dots (s : ByteArray) : List ByteArray := Fn.cuts (Fn.findOne 46) 1 s
end Go.Proofs.YtoikneogdbdplaaDoor.Pl
namespace Go.Proofs.YtoikneogdbdplaaDoor.Fn
open Go.RowKit Go.Shelf Go.Proofs.YtoikneogdbdplaaDoorW.PrintWords

attribute [local go_sem] Oper.semAt_some

end Go.Proofs.YtoikneogdbdplaaDoor.Fn
set_option linter.unusedVariables false
namespace Go.Proofs.YtoikneogdbdplaaDoor.Pl
def domLong (s : ByteArray) (l : List ByteArray) : Bool := decide (253 < (s.size : Int)) || l.any (fun x => decide (63 < (x.size : Int)))
def domain (s : ByteArray) : Int := if (dots s).all label = true then (if domLong s (dots s) = true then 2 else 0) else 130
end Go.Proofs.YtoikneogdbdplaaDoor.Pl
namespace Go.Proofs.YtoikneogdbdplaaDoor.Fn
open Go.RowKit Go.Shelf Go.Proofs.YtoikneogdbdplaaDoorW.PrintWords

attribute [local go_sem] Oper.semAt_some

end Go.Proofs.YtoikneogdbdplaaDoor.Fn
namespace Go.Proofs.YtoikneogdbdplaaDoor.Fn
open Go.RowKit Go.Proofs.YtoikneogdbdplaaDoorW.PrintWords Go.Proofs.YtoikneogdbdplaaDoorW.PrintLast Go.Proofs.YtoikneogdbdplaaDoorW.PrintMore
attribute [local go_sem] max2_int min2_int max_two min_two max_three min_three max_four min_four
set_option linter.unusedVariables false
set_option linter.unusedSimpArgs false

/-! ### glyph_plain: function 169 -/
end Go.Proofs.YtoikneogdbdplaaDoor.Fn
set_option linter.unusedVariables false
namespace Go.Proofs.YtoikneogdbdplaaDoor.Pl
def plainR (r : Nat) : Bool := decide (32 ≤ r) && decide (r ≤ 126)
def plainFrom (s : ByteArray) : Nat → Nat → Bool
  | 0, _ => true
  | f + 1, pos => if pos < s.size then (if plainR (Utf8.decode s pos).1 = true then plainFrom s f (pos + (Utf8.decode s pos).2) else false) else true
def plain (s : ByteArray) : Bool := plainFrom s s.size 0
end Go.Proofs.YtoikneogdbdplaaDoor.Pl
namespace Go.Proofs.YtoikneogdbdplaaDoor.Fn
open Go.RowKit Go.Proofs.YtoikneogdbdplaaDoorW.PrintWords

end Go.Proofs.YtoikneogdbdplaaDoor.Fn
namespace Go.Proofs.YtoikneogdbdplaaDoor.Fn
open Go.RowKit Go.Proofs.YtoikneogdbdplaaDoorW.PrintWords Go.Proofs.YtoikneogdbdplaaDoorW.PrintLast Go.Proofs.YtoikneogdbdplaaDoorW.PrintMore
attribute [local go_sem] max2_int min2_int max_two min_two max_three min_three max_four min_four
set_option linter.unusedVariables false
set_option linter.unusedSimpArgs false

/-! ### addr_Addr_Text: function 87 -/
end Go.Proofs.YtoikneogdbdplaaDoor.Fn
-- written by xprint.py of this session over the kit's printer; not trusted: Lean checks it
namespace Go.Proofs.YtoikneogdbdplaaDoor.Fn
open Go.RowKit Go.Proofs.YtoikneogdbdplaaDoorW.PrintWords Go.Proofs.YtoikneogdbdplaaDoorW.PrintLast Go.Proofs.YtoikneogdbdplaaDoorW.PrintMore
attribute [local go_sem] max2_int min2_int max_two min_two max_three min_three max_four min_four   -- for this text's walks alone
set_option linter.unusedVariables false
set_option linter.unusedSimpArgs false

theorem eqA75 (d : Nat) (w : World) (x0 y0 : ByteArray) (x1 y1 : ByteArray) :
    (Op.equalIn (d + 2) 75 (.agg #[.string x0, .string x1]) (.agg #[.string y0, .string y1])).run Tryd.prog w = .ok (x0.toList == y0.toList && (x1.toList == y1.toList)) w := by
  refine eqA_of Tryd.underlying75 (by kernel_rfl) ?_
  refine eqf_cons (by rfl) (by go_simp; rfl) (by go_simp; rfl) (by go_simp) ?_
  exact eqf_last (by rfl) (by go_simp; rfl) (by go_simp; rfl) (by go_simp)
end Go.Proofs.YtoikneogdbdplaaDoor.Fn
namespace Go.Proofs.YtoikneogdbdplaaDoor.Fn
open Go.RowKit Go.Proofs.YtoikneogdbdplaaDoorW.PrintWords Go.Proofs.YtoikneogdbdplaaDoorW.PrintLast Go.Proofs.YtoikneogdbdplaaDoorW.PrintMore
attribute [local go_sem] max2_int min2_int max_two min_two max_three min_three max_four min_four
set_option linter.unusedVariables false
set_option linter.unusedSimpArgs false

/-! ### addr_why: function 117 -/
end Go.Proofs.YtoikneogdbdplaaDoor.Fn
namespace Go.Proofs.YtoikneogdbdplaaDoor.Fn
open Go.RowKit Go.Proofs.YtoikneogdbdplaaDoorW.PrintWords Go.Proofs.YtoikneogdbdplaaDoorW.PrintLast Go.Proofs.YtoikneogdbdplaaDoorW.PrintMore
attribute [local go_sem] max2_int min2_int max_two min_two max_three min_three max_four min_four
set_option linter.unusedVariables false
set_option linter.unusedSimpArgs false

attribute [local go_sem high] eqA75
/-! ### addr_Addr_Right: function 91 -/
end Go.Proofs.YtoikneogdbdplaaDoor.Fn
set_option linter.unusedVariables false
namespace Go.Proofs.YtoikneogdbdplaaDoor.Pl
open Go.RowKit Go.Proofs.YtoikneogdbdplaaDoorW.PrintWords Go.Proofs.YtoikneogdbdplaaDoor.Fn

/-! Layer 13, the program's, over lists of bytes. -/
theorem mono_up {α : Type} {f : Nat → Option α} (h : ∀ k, LeO (f k) (f (k + 1))) {r : α} {k : Nat} (hr : f k = some r) : ∀ (k' : Nat), k ≤ k' → f k' = some r := by
  intro k' hk
  obtain ⟨d, rfl⟩ : ∃ d, k' = k + d := ⟨k' - k, by omega⟩
  clear hk
  induction d with
  | zero => exact hr
  | succ d ih => exact h (k + d) r ih

def splitL (c : UInt8) : Bytes → List Bytes
  | [] => [[]]
  | x :: l => if x = c then [] :: splitL c l else match splitL c l with
    | [] => [[x]]
    | w :: r => (x :: w) :: r
def atomL (w : Bytes) : Bool := w.all atomic && !w.isEmpty
def dottedL (l : Bytes) : Bool := (splitL 46 l).all atomL
/-! Quote -/
def text (c : UInt8) : Bool := (lex_text.f (c.toNat : Int)).getD false
def qB (c : UInt8) : Bytes := if c = 34 ∨ c = 92 then [92, c] else if text c = true then [c] else [32]
def quote (l : Bytes) : Bytes := 34 :: (l.flatMap qB ++ [34])
theorem byte_eq (c : UInt8) (n : Nat) (h : n < 256) : ((c.toNat : Int) = (n : Int)) = (c = UInt8.ofNat n) := by
  apply propext
  constructor
  · intro q
    apply UInt8.toNat_inj.1
    simp
    omega
  · intro q
    rw [q]
    simp
    omega
/-! Text, Key, why, Right -/
def localL (a : Bytes) : Bytes := if dottedL a = true then a else quote a
def textL (a b : Bytes) : Bytes := localL a ++ 64 :: b
def why (a b : ByteArray) : Int :=
  if domain b = 130 ∨ bs a = [] ∨ plain a = false then 130
  else if domain b ≠ 0 ∨ 64 < a.size ∨ 254 < (textL (bs a) (bs b)).length then 2 else 0
end Go.Proofs.YtoikneogdbdplaaDoor.Pl
set_option linter.unusedVariables false
set_option linter.unusedSimpArgs false
namespace Go.Proofs.YtoikneogdbdplaaDoor.Pl
open Go.RowKit Go.Proofs.YtoikneogdbdplaaDoorW.PrintWords Go.Proofs.YtoikneogdbdplaaDoor.Fn

/-! Layer 20, the document's: the parts of a body. -/
def consHead (c : UInt8) : List Bytes → List Bytes
  | [] => [[c]]
  | w :: r => (c :: w) :: r
def linesB : Bytes → List Bytes
  | [] => [[]]
  | [c] => [[c]]
  | c :: d :: l => if c = 13 ∧ d = 10 then [] :: linesB l else consHead c (linesB (d :: l))
theorem linesB_ne (l : Bytes) : linesB l ≠ [] := by
  unfold linesB
  split
  · simp
  · simp
  · split
    · simp
    · unfold consHead
      split <;> simp
theorem linesB_none : ∀ l : Bytes, crlf l = none → linesB l = [l]
  | [], _ => rfl
  | [c], _ => rfl
  | c :: d :: l, h => by
    rw [crlf] at h
    by_cases hc : c = 13 ∧ d = 10
    · rw [if_pos ⟨hc.1, by simp [hc.2]⟩] at h; cases h
    · rw [if_neg (by simpa using hc)] at h
      have h2 : crlf (d :: l) = none := by
        cases hq : crlf (d :: l) with
        | none => rfl
        | some i => rw [hq] at h; cases h
      rw [linesB, if_neg hc, linesB_none (d :: l) h2]
      rfl
theorem linesB_some : ∀ (l : Bytes) (i : Nat), crlf l = some i → linesB l = l.take i :: linesB (l.drop (i + 2))
  | [], i, h => by cases h
  | [c], i, h => by simp [crlf] at h
  | c :: d :: l, i, h => by
    rw [crlf] at h
    by_cases hc : c = 13 ∧ d = 10
    · rw [if_pos ⟨hc.1, by simp [hc.2]⟩] at h
      injection h with h
      subst h
      rw [linesB, if_pos hc]
      rfl
    · rw [if_neg (by simpa using hc), Option.map_eq_some_iff] at h
      obtain ⟨j, hj, rfl⟩ := h
      rw [linesB, if_neg hc, linesB_some (d :: l) j hj]
      rfl
theorem cuts_crlf : ∀ (n : Nat) (s : ByteArray), s.size ≤ n → (Fn.cuts findCrlf 2 s).map bs = linesB (bs s)
  | n, s, hn => by
    have hi := index_crlf (bs s)
    have hf : findCrlf s = Lib.index (bs s) [13, 10] := rfl
    cases hc : crlf (bs s) with
    | none =>
      rw [hc] at hi
      rw [cuts_last finds_crlf s (by rw [hf, hi]; decide), linesB_none _ hc]
      rfl
    | some i =>
      rw [hc] at hi
      have hr := crlf_room hc
      rw [bs_length] at hr
      have h0 : findCrlf s = (i : Int) := by rw [hf, hi]
      have ht : (bs s).take s.size = bs s := List.take_of_length_le (by rw [bs_length]; exact Nat.le_refl _)
      rw [cuts_more finds_crlf s (by omega), linesB_some _ i hc, h0, List.map_cons, Int.toNat_natCast]
      cases n with
      | zero => omega
      | succ n =>
        have hz : (s.extract (i + 2) s.size).size ≤ n := by simp only [ByteArray.size_extract]; omega
        rw [cuts_crlf n _ hz, bs_extract, bs_extract, List.drop_zero, ht]
theorem linesL_is (s : ByteArray) : linesL s = (linesB (bs s)).map str := by
  have h := cuts_crlf s.size s (Nat.le_refl _)
  unfold linesL
  rw [← h, List.map_map, show str ∘ bs = id from funext str_bs, List.map_id]
def headApp (w : Bytes) : List Bytes → List Bytes
  | [] => [w]
  | h :: t => (w ++ h) :: t
theorem refLines_l0 (s : ByteArray) (hs : s.size ≤ 1000000) : ∀ (n k i : Nat) (l w : Bytes) (out : List ByteArray), l.length ≤ n → n < k → (bs s).drop i = l → i ≤ (bs s).length → out.length + w.length ≤ 2 * i →
    bulletinref17_Lines.l0 k s out (str w) (i : Int) = some (out ++ (headApp w (linesB l)).map str)
  | n, k, i, [], w, out, hn, hk, hd, hi, ho => by
    obtain ⟨k, rfl⟩ : ∃ j, k = j + 1 := ⟨k - 1, by omega⟩
    have := drop_nil hd
    rw [bs_length] at this hi
    rw [bulletinref17_Lines.l0, if_neg (by omega), if_pos (by omega)]
    simp [linesB, headApp]
  | 0, k, i, c :: l, w, out, hn, hk, hd, hi, ho => by simp at hn
  | n + 1, k, i, c :: l, w, out, hn, hk, hd, hi, ho => by
    obtain ⟨k, rfl⟩ : ∃ j, k = j + 1 := ⟨k - 1, by omega⟩
    obtain ⟨h1, h2, h3, h4⟩ := drop_cons hd
    have h5 : i < s.size := by rw [bs_length] at h1; exact h1
    simp only [List.length_cons] at hn
    have hx : str w ++ s.extract i (i + 1) = str (w ++ [c]) := by rw [extract_one hd, str_app]
    have hz : (s.extract i (i + 1)).size = 1 := by rw [extract_one hd, str_size]; rfl
    have e13 : ((c.toNat : Int) = 13) = (c = 13) := byte_eq c 13 (by decide)
    have step : linesB (c :: l) = consHead c (linesB l) → bulletinref17_Lines.l0 k s out (str (w ++ [c])) ((i + 1 : Nat) : Int) = some (out ++ (headApp w (linesB (c :: l))).map str) := by
      intro he
      rw [refLines_l0 s hs n k (i + 1) l (w ++ [c]) out (by omega) (by omega) h3 (by omega) (by rw [List.length_append]; simp only [List.length_cons, List.length_nil]; omega), he]
      cases hl : linesB l with
      | nil => exact absurd hl (linesB_ne l)
      | cons a r => simp [consHead, headApp]
    have push : linesB (c :: l) = consHead c (linesB l) → (if (i : Int) ≤ wrap64 ((i : Int) + 1) then (if wrap64 ((i : Int) + 1) ≤ (s.size : Int) then (if (str w).size + (s.extract (i : Int).toNat (wrap64 ((i : Int) + 1)).toNat).size ≤ 9223372036854775807 then (bulletinref17_Lines.l0 k s out (str w ++ s.extract (i : Int).toNat (wrap64 ((i : Int) + 1)).toNat) (wrap64 ((i : Int) + 1))) else none) else none) else none) = some (out ++ (headApp w (linesB (c :: l))).map str) := by
      intro he
      rw [wrap_succ i (by omega), if_pos (by omega), if_pos (by omega), Int.toNat_natCast, Int.toNat_natCast, if_pos (by rw [hz, str_size]; rw [bs_length] at hi; omega), hx]
      exact step he
    rw [bulletinref17_Lines.l0, if_pos (by omega), if_pos (by omega), bt_drop hd]
    by_cases c13 : c = 13
    · rw [if_pos (by rw [e13]; exact c13)]
      cases l with
      | nil =>
        have hq := drop_nil h3
        rw [bs_length] at hq
        rw [if_neg (by rw [wrap_succ i (by omega)]; omega)]
        exact push rfl
      | cons d r =>
        obtain ⟨g1, g2, g3, g4⟩ := drop_cons h3
        rw [bs_length] at g1
        have e10 : ((d.toNat : Int) = 10) = (d = 10) := byte_eq d 10 (by decide)
        rw [if_pos (by rw [wrap_succ i (by omega)]; omega), if_pos (by rw [wrap_succ i (by omega)]; omega)]
        rw [show bt s (wrap64 ((i : Int) + 1)) = (d.toNat : Int) from by rw [wrap_succ i (by omega)]; exact bt_drop h3]
        simp only [List.length_cons] at hn
        by_cases d10 : d = 10
        · obtain ⟨n, rfl⟩ : ∃ j, n = j + 1 := ⟨n - 1, by omega⟩
          rw [if_pos (by rw [e10]; exact d10), if_pos (by rw [bs_length] at hi; omega), wrap_succ i (by omega), wrap_succ (i + 1) (by omega)]
          rw [show (⟨#[]⟩ : ByteArray) = str [] from rfl, refLines_l0 s hs n k (i + 1 + 1) r [] (out ++ [str w]) (by omega) (by omega) g3 (by rw [bs_length]; omega) (by rw [List.length_append]; simp only [List.length_cons, List.length_nil]; omega)]
          rw [linesB, if_pos ⟨c13, d10⟩]
          cases hl : linesB r with
          | nil => exact absurd hl (linesB_ne r)
          | cons a t => simp [headApp]
        · rw [if_neg (by rw [e10]; exact d10)]
          exact push (by rw [linesB, if_neg (fun h => d10 h.2)])
    · rw [if_neg (by rw [e13]; exact c13)]
      refine push ?_
      cases l with
      | nil => rfl
      | cons d r => rw [linesB, if_neg (fun h => c13 h.1)]
theorem refLines_is (s : ByteArray) (hs : s.size ≤ 1000000) (k : Nat) (hk : s.size < k) : bulletinref17_Lines.f k s = some ((linesB (bs s)).map str) := by
  unfold bulletinref17_Lines.f
  have := refLines_l0 s hs (bs s).length k 0 (bs s) [] [] (Nat.le_refl _) (by rw [bs_length]; exact hk) rfl (Nat.zero_le _) (by simp)
  rw [show (0 : Int) = ((0 : Nat) : Int) from rfl, show (⟨#[]⟩ : ByteArray) = str [] from rfl, this]
  cases hl : linesB (bs s) with
  | nil => exact absurd hl (linesB_ne _)
  | cons a t => simp [headApp]

/-! what a line does -/
theorem trim_snoc (l : Bytes) (c : UInt8) : Lib.trimRightS (l ++ [c]) [32, 9] = if c = 32 ∨ c = 9 then Lib.trimRightS l [32, 9] else l ++ [c] := by
  unfold Lib.trimRightS
  rw [List.reverse_append, List.reverse_cons, List.reverse_nil, List.nil_append, List.singleton_append, List.dropWhile_cons]
  by_cases h : c = 32 ∨ c = 9
  · rw [if_pos h, if_pos (by rcases h with rfl | rfl <;> decide)]
  · rw [if_neg h, if_neg (by simp; exact not_or.1 h)]
    simp
def whatN (x b : Bytes) : Int := if x = 45 :: 45 :: b then 1 else if x = 45 :: 45 :: (b ++ [45, 45]) then 2 else 0
theorem refWhat_j1 (b x : ByteArray) (hb : b.size ≤ 1000000) (k : Nat) (hk : 1 ≤ k) : bulletinref20_What.j1 k b x = some (whatN (bs x) (bs b)) := by
  obtain ⟨k, rfl⟩ : ∃ j, k = j + 1 := ⟨k - 1, by omega⟩
  have e1 : ((⟨#[45, 45]⟩ : ByteArray) ++ b).toList = 45 :: 45 :: bs b := by rw [toList_bs, bs_app]; rfl
  have e2 : (((⟨#[45, 45]⟩ : ByteArray) ++ b) ++ (⟨#[45, 45]⟩ : ByteArray)).toList = 45 :: 45 :: (bs b ++ [45, 45]) := by rw [toList_bs, bs_app, bs_app]; rfl
  have z1 : (⟨#[45, 45]⟩ : ByteArray).size = 2 := rfl
  rw [bulletinref20_What.j1, if_pos (by omega), e1, e2, toList_bs]
  unfold whatN
  by_cases h1 : bs x = 45 :: 45 :: bs b
  · rw [if_pos h1, if_pos h1]
  · rw [if_neg h1, if_neg h1, if_pos (by rw [ByteArray.size_append, z1]; omega)]
    by_cases h2 : bs x = 45 :: 45 :: (bs b ++ [45, 45])
    · rw [if_pos h2, if_pos h2]
    · rw [if_neg h2, if_neg h2]
theorem refWhat_l0 (b : ByteArray) (hb : b.size ≤ 1000000) : ∀ (n : Nat) (x : ByteArray) (k : Nat), x.size ≤ n → n + 1 < k → x.size ≤ 1000000 → bulletinref20_What.l0 k b x = some (whatN (Lib.trimRightS (bs x) [32, 9]) (bs b))
  | n, x, k, hn, hk, hx => by
    obtain ⟨k, rfl⟩ : ∃ j, k = j + 1 := ⟨k - 1, by omega⟩
    rw [bulletinref20_What.l0]
    rcases List.eq_nil_or_concat (bs x) with h | ⟨l, c, h⟩
    · have hz : x.size = 0 := by rw [← bs_length, h]; rfl
      rw [if_neg (by omega), refWhat_j1 b x hb k (by omega), h]
      rfl
    · rw [List.concat_eq_append] at h
      have hz : x.size = l.length + 1 := by rw [← bs_length, h]; simp
      have hw : wrap64 ((x.size : Int) - 1) = ((l.length : Nat) : Int) := by rw [hz, wrap_id (by omega) (by omega)]; omega
      have hd : (bs x).drop l.length = [c] := by rw [h]; simp
      rw [if_pos (by omega), hw, if_pos (by omega), if_pos (by omega), bt_drop hd]
      have e32 : ((c.toNat : Int) = 32) = (c = 32) := byte_eq c 32 (by decide)
      have e9 : ((c.toNat : Int) = 9) = (c = 9) := byte_eq c 9 (by decide)
      have hex : x.extract 0 ((l.length : Nat) : Int).toNat = str l := by
        apply bs_inj
        rw [Int.toNat_natCast, bs_extract, bs_str, h]
        simp
      rw [hex, h, trim_snoc]
      by_cases c32 : c = 32
      · cases n with
        | zero => omega
        | succ n =>
          rw [if_pos (by rw [e32]; exact c32), if_pos (by omega), refWhat_l0 b hb n (str l) k (by rw [str_size]; omega) (by omega) (by rw [str_size]; omega), bs_str, if_pos (.inl c32)]
      · rw [if_neg (by rw [e32]; exact c32)]
        by_cases c9 : c = 9
        · cases n with
          | zero => omega
          | succ n =>
            rw [if_pos (by rw [e9]; exact c9), if_pos (by omega), refWhat_l0 b hb n (str l) k (by rw [str_size]; omega) (by omega) (by rw [str_size]; omega), bs_str, if_pos (.inr c9)]
        · rw [if_neg (by rw [e9]; exact c9), if_neg (by rintro (q | q); exact c32 q; exact c9 q), refWhat_j1 b x hb k (by omega), h]
theorem refWhat_is (x b : ByteArray) (hx : x.size ≤ 1000000) (hb : b.size ≤ 1000000) (k : Nat) (hk : x.size + 1 < k) : bulletinref20_What.f k x b = some (whatN (trimR x) (bs b)) := by
  unfold bulletinref20_What.f
  exact refWhat_l0 b hb x.size x k (Nat.le_refl _) hk hx
theorem what_P (x b : ByteArray) : (whatN (trimR x) (bs b) = 1) = (whatP x b = true) := by
  unfold whatN whatP
  rw [beq_iff_eq]
  apply propext
  by_cases h : trimR x = 45 :: 45 :: bs b
  · rw [if_pos h]; simp [h]
  · rw [if_neg h]
    constructor
    · intro q; split at q <;> cases q
    · intro q; exact absurd q h
theorem what_C (x b : ByteArray) : (whatN (trimR x) (bs b) = 2) = (whatC x b = true) := by
  unfold whatN whatC
  rw [beq_iff_eq]
  apply propext
  by_cases h : trimR x = 45 :: 45 :: bs b
  · rw [if_pos h]
    constructor
    · intro q; cases q
    · intro q
      rw [h] at q
      have := congrArg List.length q
      simp at this
  · rw [if_neg h]
    by_cases h2 : trimR x = 45 :: 45 :: (bs b ++ [45, 45])
    · rw [if_pos h2]; simp [h2]
    · rw [if_neg h2]; simp [h2]
theorem what_3 (x b : ByteArray) : whatN (trimR x) (bs b) = 0 ∨ whatN (trimR x) (bs b) = 1 ∨ whatN (trimR x) (bs b) = 2 := by
  unfold whatN
  repeat' split
  all_goals simp
/-! the document's Split -/
theorem join_one (x : ByteArray) : join [x] crlfB = x := by
  unfold join
  simp only [List.map_cons, List.map_nil]
  rw [Lib.join_one]
  exact str_toList x
theorem rdOf_nat (L : List ByteArray) (i : Nat) (h : i < L.length) : rdOf ByteArray.empty L (i : Int) = L[i] := by
  unfold rdOf
  rw [Int.toNat_natCast, List.getD_eq_getElem?_getD, List.getElem?_eq_getElem h]
  rfl
end Go.Proofs.YtoikneogdbdplaaDoor.Pl
set_option linter.unusedVariables false
set_option linter.unusedSimpArgs false
namespace Go.Proofs.YtoikneogdbdplaaDoor.Pl
open Go.RowKit Go.Proofs.YtoikneogdbdplaaDoorW.PrintWords Go.Proofs.YtoikneogdbdplaaDoor.Fn

/-! Layer 20: joined and cut. -/
end Go.Proofs.YtoikneogdbdplaaDoor.Pl
set_option linter.unusedVariables false
set_option linter.unusedSimpArgs false
namespace Go.Proofs.YtoikneogdbdplaaDoor.Pl
open Go.RowKit Go.Proofs.YtoikneogdbdplaaDoorW.PrintWords Go.Proofs.YtoikneogdbdplaaDoor.Fn

/-! Layer 20: there is always a boundary that is free. -/
def valD (l : Bytes) : Nat := l.foldl (fun a c => 10 * a + (c.toNat - 48)) 0
theorem valD_snoc (l : Bytes) (c : UInt8) : valD (l ++ [c]) = 10 * valD l + (c.toNat - 48) := by
  unfold valD
  rw [List.foldl_append]
  rfl
theorem dig_byte {n : Nat} (h : n < 10) : (UInt8.ofNat (48 + n)).toNat = 48 + n := by
  rw [UInt8.toNat_ofNat']
  omega
theorem dig_val : ∀ (k n : Nat), n < 10 ^ (k + 1) → valD (dig k n) = n
  | 0, n, h => by
    have h : n < 10 := by simpa using h
    rw [dig, ← List.nil_append [_], valD_snoc, dig_byte (by omega)]
    show 10 * 0 + _ = _
    omega
  | k + 1, n, h => by
    rw [dig]
    by_cases h1 : n < 10
    · rw [if_pos h1, ← List.nil_append [_], valD_snoc, dig_byte h1]
      show 10 * 0 + _ = _
      omega
    · rw [if_neg h1, valD_snoc, dig_val k (n / 10) (by rw [Nat.pow_succ] at h; omega), dig_byte (by omega)]
      omega
theorem dig_signs : ∀ (k n : Nat), ∀ c ∈ dig k n, 48 ≤ c.toNat ∧ c.toNat ≤ 57
  | 0, n, c, h => by
    rw [dig, List.mem_singleton] at h
    rw [h, dig_byte (by omega)]
    omega
  | k + 1, n, c, h => by
    rw [dig] at h
    by_cases h1 : n < 10
    · rw [if_pos h1, List.mem_singleton] at h
      rw [h, dig_byte h1]
      omega
    · rw [if_neg h1, List.mem_append, List.mem_singleton] at h
      rcases h with h | h
      · exact dig_signs k _ c h
      · rw [h, dig_byte (by omega)]
        omega
theorem digL_inj {n m : Nat} (hn : n < 1000000000000000000000) (hm : m < 1000000000000000000000) (h : digL n = digL m) : n = m := by
  rw [← dig_val 20 n hn, ← dig_val 20 m hm]
  exact congrArg valD h
def bndL (n : Nat) : Bytes := 61 :: 95 :: digL n
def bndS (n : Nat) : ByteArray := str (bndL n)
def bars (x : ByteArray) (n : Nat) : Bool := whatP x (bndS n) || whatC x (bndS n)
theorem bars_is {x : ByteArray} {n : Nat} (h : bars x n = true) : trimR x = 45 :: 45 :: 61 :: 95 :: digL n ∨ trimR x = 45 :: 45 :: 61 :: 95 :: (digL n ++ [45, 45]) := by
  unfold bars whatP whatC bndS at h
  rw [bs_str, Bool.or_eq_true, beq_iff_eq, beq_iff_eq] at h
  exact h
theorem dash_no {n m : Nat} (h : digL n = digL m ++ [45, 45]) : False := by
  have h1 : (45 : UInt8) ∈ digL n := by rw [h]; simp
  have := (dig_signs 20 n 45 h1).1
  exact absurd this (by decide)
theorem bars_one {x : ByteArray} {n m : Nat} (hn : n < 1000000000000000000000) (hm : m < 1000000000000000000000) (h1 : bars x n = true) (h2 : bars x m = true) : n = m := by
  have h1 := bars_is h1
  have h2 := bars_is h2
  rcases h1 with h1 | h1 <;> rcases h2 with h2 | h2 <;> rw [h1] at h2 <;> simp only [List.cons.injEq, true_and] at h2
  · exact digL_inj hn hm h2
  · exact (dash_no h2).elim
  · exact (dash_no h2.symm).elim
  · exact digL_inj hn hm (List.append_cancel_right h2)
theorem holes (X : List ByteArray) : ∀ ns : List Nat, ns.Nodup → (∀ n ∈ ns, n < 1000000000000000000000) → (∀ n ∈ ns, ∃ x ∈ X, bars x n = true) → ns.length ≤ X.length := by
  induction X with
  | nil =>
    intro ns _ _ h
    cases ns with
    | nil => exact Nat.le_refl _
    | cons n ns =>
      obtain ⟨x, hx, _⟩ := h n (by simp)
      cases hx
  | cons x X ih =>
    intro ns hd hb h
    by_cases hx : ∃ n ∈ ns, bars x n = true
    · obtain ⟨n, hn, hxn⟩ := hx
      have h1 := ih (ns.erase n) (hd.erase n) (fun m hm => hb m (List.mem_of_mem_erase hm)) (fun m hm => by
        have hm1 := List.mem_of_mem_erase hm
        have hne : m ≠ n := fun e => by
          rw [e] at hm
          exact (hd.not_mem_erase) hm
        obtain ⟨y, hy, hym⟩ := h m hm1
        rcases List.mem_cons.1 hy with rfl | hy
        · exact absurd (bars_one (hb m hm1) (hb n hn) hym hxn) hne
        · exact ⟨y, hy, hym⟩)
      rw [List.length_erase_of_mem hn] at h1
      simp only [List.length_cons]
      omega
    · have h1 := ih ns hd hb (fun m hm => by
        obtain ⟨y, hy, hym⟩ := h m hm
        rcases List.mem_cons.1 hy with rfl | hy
        · exact absurd ⟨m, hm, hym⟩ hx
        · exact ⟨y, hy, hym⟩)
      simp only [List.length_cons]
      omega
def allLines (l : List ByteArray) : List ByteArray := l.flatMap linesL
theorem free_all (b : ByteArray) (l : List ByteArray) : freeL b l = (allLines l).all (freeX b) := by
  unfold freeL allLines freeP
  rw [List.all_flatMap]
theorem free_exists (l : List ByteArray) (hl : (allLines l).length < 1000000000) : ∃ n, n ≤ (allLines l).length ∧ freeL (bndS n) l = true := by
  by_cases h : ∃ n, n ≤ (allLines l).length ∧ freeL (bndS n) l = true
  · exact h
  · have := holes (allLines l) (List.range ((allLines l).length + 1)) List.nodup_range (fun n hn => by have := List.mem_range.1 hn; omega) (fun n hn => by
      have hn := List.mem_range.1 hn
      have hf : freeL (bndS n) l ≠ true := fun q => h ⟨n, by omega, q⟩
      rw [free_all, ne_eq, Bool.not_eq_true, List.all_eq_false] at hf
      obtain ⟨x, hx, hq⟩ := hf
      refine ⟨x, hx, ?_⟩
      unfold freeX at hq
      unfold bars
      cases h1 : whatP x (bndS n) with
      | true => rfl
      | false => simpa [h1] using hq)
    rw [List.length_range] at this
    omega
def firstF (l : List ByteArray) : Nat → Nat → Nat
  | n, 0 => n
  | n, d + 1 => if freeL (bndS n) l = true then n else firstF l (n + 1) d
theorem firstF_free (l : List ByteArray) : ∀ d n, freeL (bndS (n + d)) l = true → freeL (bndS (firstF l n d)) l = true ∧ firstF l n d ≤ n + d
  | 0, n, h => ⟨h, Nat.le_refl _⟩
  | d + 1, n, h => by
    rw [firstF]
    by_cases h1 : freeL (bndS n) l = true
    · rw [if_pos h1]
      exact ⟨h1, by omega⟩
    · rw [if_neg h1]
      have := firstF_free l d (n + 1) (by rw [show n + 1 + d = n + (d + 1) by omega]; exact h)
      exact ⟨this.1, by omega⟩
end Go.Proofs.YtoikneogdbdplaaDoor.Pl
namespace Go.Proofs.YtoikneogdbdplaaDoor.Fn
open Go.RowKit Go.Proofs.YtoikneogdbdplaaDoorW.PrintWords Go.Proofs.YtoikneogdbdplaaDoorW.PrintLast Go.Proofs.YtoikneogdbdplaaDoorW.PrintMore
attribute [local go_sem] max2_int min2_int max_two min_two max_three min_three max_four min_four
set_option linter.unusedVariables false
set_option linter.unusedSimpArgs false

/-! ### bulletinbook_SameTexts: function 20 -/
end Go.Proofs.YtoikneogdbdplaaDoor.Fn
set_option linter.unusedVariables false
namespace Go.Proofs.YtoikneogdbdplaaDoor.Pl
open Go.RowKit Go.Proofs.YtoikneogdbdplaaDoorW.PrintWords Go.Proofs.YtoikneogdbdplaaDoor.Fn
set_option maxRecDepth 100000 in
theorem works20_at : bulletinlaw20_works.f 300 = some true := by decide +kernel
theorem works20 (k : Nat) (hk : 300 ≤ k) : bulletinlaw20_works.f k = some true := mono_up bulletinlaw20_works.mono works20_at k hk
end Go.Proofs.YtoikneogdbdplaaDoor.Pl
set_option linter.unusedVariables false
namespace Go.Proofs.YtoikneogdbdplaaDoor.Pl
open Go.RowKit Go.Proofs.YtoikneogdbdplaaDoorW.PrintWords Go.Proofs.YtoikneogdbdplaaDoor.Fn

end Go.Proofs.YtoikneogdbdplaaDoor.Pl
set_option linter.unusedVariables false
namespace Go.Proofs.YtoikneogdbdplaaDoor.Pl
open Go.RowKit Go.Proofs.YtoikneogdbdplaaDoorW.PrintWords Go.Proofs.YtoikneogdbdplaaDoor.Fn

theorem partsL_size (b : Bytes) (l : List Bytes) (m : Nat) (h : ∀ x ∈ l, x.length ≤ m) (i : Nat) : (partsL b (l.take i)).length ≤ l.length * (b.length + m + 6) := by
  refine Nat.le_trans (partsL_le b m _ fun x hx => h x (List.mem_of_mem_take hx)) (Nat.mul_le_mul_right _ ?_)
  rw [List.length_take]; omega
theorem refJoin_l0 (l : List ByteArray) (b : ByteArray) (hl : l.length ≤ 1000000) (hb : b.size ≤ 1000000) (hx : ∀ x ∈ l, x.size ≤ 1000000) : ∀ (n i k : Nat), i + n = l.length → n < k →
    bulletinref20_Join.l0 k l b (str (partsL (bs b) ((l.map bs).take i))) (i : Int) = some (str (joinL (bs b) (l.map bs)))
  | n, i, 0, _, hk => by omega
  | n, i, k + 1, hi, hk => by
    have hs := partsL_size (bs b) (l.map bs) 1000000 (fun y hy => by
      obtain ⟨x, h1, rfl⟩ := List.mem_map.1 hy
      rw [bs_length]; exact hx x h1) i
    have hs2 : (l.map bs).length * ((bs b).length + 1000000 + 6) ≤ 1000000 * 2000006 := Nat.mul_le_mul (by rw [List.length_map]; omega) (by rw [bs_length]; omega)
    have e1 : (⟨#[45, 45]⟩ : ByteArray) = str [45, 45] := rfl
    have e2 : (⟨#[13, 10]⟩ : ByteArray) = str [13, 10] := rfl
    have e3 : (⟨#[45, 45, 13, 10]⟩ : ByteArray) = str [45, 45, 13, 10] := rfl
    have eb : b = str (bs b) := (str_bs b).symm
    have hbl := bs_length b
    rw [bulletinref20_Join.l0]
    by_cases hlt : i < l.length
    · have hr : rdOf ByteArray.empty l (i : Int) = l[i] := by
        unfold rdOf
        rw [Int.toNat_natCast, List.getD_eq_getElem?_getD, List.getElem?_eq_getElem hlt]; rfl
      have hp := partsL_take (bs b) (l.map bs) i (by rw [List.length_map]; exact hlt)
      rw [List.getElem_map] at hp
      have hxi := hx _ (List.getElem_mem hlt)
      rw [hr]
      generalize l[i] = x at hp hxi
      have hxl := bs_length x
      have ex : x = str (bs x) := (str_bs x).symm
      have sz : ∀ q : Bytes, (str q).size = q.length := str_size
      have z2 : (⟨#[45, 45]⟩ : ByteArray).size = 2 := rfl
      have z3 : (⟨#[13, 10]⟩ : ByteArray).size = 2 := rfl
      rw [if_pos (by omega)]
      have key : str (partsL (bs b) ((l.map bs).take i)) ++ (⟨#[45, 45]⟩ : ByteArray) ++ b ++ (⟨#[13, 10]⟩ : ByteArray) ++ x ++ (⟨#[13, 10]⟩ : ByteArray) = str (partsL (bs b) ((l.map bs).take (i + 1))) := by
        rw [hp, e1, e2]
        apply bs_inj
        simp only [bs_app, bs_str]
        unfold partL
        simp
      rw [key, wrap_succ i (by omega)]
      have hS : ∀ P, P = partsL (bs b) ((l.map bs).take i) → (str P).size + b.size + x.size + 10 ≤ 9223372036854775807 := by
        rintro P rfl
        rw [sz]; omega
      have hS := hS _ rfl
      generalize str (partsL (bs b) ((l.map bs).take i)) = S at hS
      have g1 : S.size + 2 ≤ 9223372036854775807 := by omega
      have g2 : (S ++ (⟨#[45, 45]⟩ : ByteArray)).size + b.size ≤ 9223372036854775807 := by simp only [ByteArray.size_append, z2]; omega
      have g3 : ((S ++ (⟨#[45, 45]⟩ : ByteArray)) ++ b).size + 2 ≤ 9223372036854775807 := by simp only [ByteArray.size_append, z2]; omega
      have g4 : (((S ++ (⟨#[45, 45]⟩ : ByteArray)) ++ b) ++ (⟨#[13, 10]⟩ : ByteArray)).size + x.size ≤ 9223372036854775807 := by simp only [ByteArray.size_append, z2, z3]; omega
      have g5 : ((((S ++ (⟨#[45, 45]⟩ : ByteArray)) ++ b) ++ (⟨#[13, 10]⟩ : ByteArray)) ++ x).size + 2 ≤ 9223372036854775807 := by simp only [ByteArray.size_append, z2, z3]; omega
      rw [if_pos g1, if_pos g2, if_pos g3, if_pos (by omega), if_pos g4, if_pos g5]
      cases n with
      | zero => omega
      | succ n => exact refJoin_l0 l b hl hb hx n (i + 1) k (by omega) (by omega)
    · have hend : (l.map bs).take i = l.map bs := List.take_of_length_le (by rw [List.length_map]; omega)
      rw [hend] at hs ⊢
      have sz : ∀ q : Bytes, (str q).size = q.length := str_size
      have z2 : (⟨#[45, 45]⟩ : ByteArray).size = 2 := rfl
      have hS : (str (partsL (bs b) (l.map bs))).size + b.size + 10 ≤ 9223372036854775807 := by rw [sz]; omega
      have hE : str (partsL (bs b) (l.map bs)) ++ (⟨#[45, 45]⟩ : ByteArray) ++ b ++ (⟨#[45, 45, 13, 10]⟩ : ByteArray) = str (joinL (bs b) (l.map bs)) := by
        rw [e1, e3]
        apply bs_inj
        simp only [bs_app, bs_str]
        unfold joinL
        simp
      rw [← hE]
      generalize str (partsL (bs b) (l.map bs)) = S at hS
      have g1 : S.size + 2 ≤ 9223372036854775807 := by omega
      have g2 : (S ++ (⟨#[45, 45]⟩ : ByteArray)).size + b.size ≤ 9223372036854775807 := by simp only [ByteArray.size_append, z2]; omega
      have g3 : ((S ++ (⟨#[45, 45]⟩ : ByteArray)) ++ b).size + 4 ≤ 9223372036854775807 := by simp only [ByteArray.size_append, z2]; omega
      rw [if_neg (by omega), if_pos g1, if_pos g2, if_pos g3]
theorem refJoin_is (l : List ByteArray) (b : ByteArray) (hl : l.length ≤ 1000000) (hb : b.size ≤ 1000000) (hx : ∀ x ∈ l, x.size ≤ 1000000) (k : Nat) (hk : l.length < k) : bulletinref20_Join.f k l b = some (str (joinL (bs b) (l.map bs))) :=
  refJoin_l0 l b hl hb hx l.length 0 k (by omega) hk
theorem mimeJoin_is (l : List ByteArray) (b : ByteArray) (hl : l.length ≤ 1000000) (hb : b.size ≤ 1000000) (hx : ∀ x ∈ l, x.size ≤ 1000000) : mime_Join.f l b = some (str (joinL (bs b) (l.map bs))) := by
  unfold mime_Join.f
  rw [if_pos hl, if_pos hb, if_pos (List.all_eq_true.2 fun x h => decide_eq_true (hx x h))]
end Go.Proofs.YtoikneogdbdplaaDoor.Pl
set_option linter.unusedVariables false
set_option linter.unusedSimpArgs false
namespace Go.Proofs.YtoikneogdbdplaaDoor.Pl
open Go.RowKit Go.Proofs.YtoikneogdbdplaaDoorW.PrintWords Go.Proofs.YtoikneogdbdplaaDoor.Fn

/-! bulletinbook.Light -/
def lightB (l : List ByteArray) (m e : Nat) : Bool := decide (l.length ≤ m) && l.all (fun x => decide (x.size ≤ e))
theorem light_l0 (l : List ByteArray) (m e : Nat) (hm : m ≤ 1000000) : ∀ (d i k : Nat), i + d = m + 1 → 2 * d + 1 < k → (∀ x ∈ l.take i, x.size ≤ e) → bulletinbook_Light.l0 k l (m : Int) (e : Int) (i : Int) = some (lightB l m e) := by
  intro d
  induction d with
  | zero =>
    intro i k hi hk h
    obtain ⟨k, rfl⟩ : ∃ j, k = j + 1 + 1 := ⟨k - 2, by omega⟩
    rw [bulletinbook_Light.l0]
    have hj : ∀ b, b = false → bulletinbook_Light.j1 (k + 1) l (m : Int) (e : Int) (i : Int) b = some (lightB l m e) := by
      rintro b rfl
      rw [bulletinbook_Light.j1, if_neg (by decide)]
      unfold lightB
      congr 1
      by_cases hl : l.length ≤ m
      · have : l.take i = l := List.take_of_length_le (by omega)
        rw [this] at h
        rw [decide_eq_true (by omega), decide_eq_true hl, List.all_eq_true.2 (fun x hx => decide_eq_true (h x hx))]
        rfl
      · rw [decide_eq_false (by omega), decide_eq_false hl]
        rfl
    by_cases hl : (i : Int) < (l.length : Int)
    · rw [if_pos hl, hj _ (decide_eq_false (by omega))]
    · rw [if_neg hl, hj _ rfl]
  | succ d ih =>
    intro i k hi hk h
    obtain ⟨k, rfl⟩ : ∃ j, k = j + 1 + 1 := ⟨k - 2, by omega⟩
    rw [bulletinbook_Light.l0]
    by_cases hl : i < l.length
    · rw [if_pos (by omega), decide_eq_true (show (i : Int) ≤ (m : Int) by omega), bulletinbook_Light.j1, if_pos rfl, if_pos (by omega), if_pos (by omega)]
      have hr : rdOf ByteArray.empty l (i : Int) = l[i] := by
        unfold rdOf
        rw [Int.toNat_natCast, List.getD_eq_getElem?_getD, List.getElem?_eq_getElem hl]; rfl
      rw [hr]
      by_cases hs : l[i].size ≤ e
      · rw [if_neg (by omega), wrap_succ i (by omega)]
        refine ih (i + 1) k (by omega) (by omega) fun x hx => ?_
        rw [List.take_succ_eq_append_getElem hl, List.mem_append, List.mem_singleton] at hx
        rcases hx with hx | rfl
        · exact h x hx
        · exact hs
      · rw [if_pos (by omega)]
        have : l.all (fun x => decide (x.size ≤ e)) = false := by
          rw [List.all_eq_false]
          exact ⟨l[i], List.getElem_mem hl, by simpa using hs⟩
        unfold lightB
        rw [this, Bool.and_false]
    · rw [if_neg (by omega), bulletinbook_Light.j1, if_neg (by decide)]
      have : l.take i = l := List.take_of_length_le (by omega)
      rw [this] at h
      unfold lightB
      rw [List.all_eq_true.2 (fun x hx => decide_eq_true (h x hx)), Bool.and_true]
      congr 1
      rw [decide_eq_decide]
      omega
theorem light_is (l : List ByteArray) (m e : Nat) (hm : m ≤ 1000000) (k : Nat) (hk : 2 * m + 4 ≤ k) : bulletinbook_Light.f k l (m : Int) (e : Int) = some (lightB l m e) :=
  light_l0 l m e hm (m + 1) 0 k (by omega) (by omega) (fun x hx => by simp at hx)
theorem lightB_true {l : List ByteArray} {m e : Nat} (h : lightB l m e = true) : l.length ≤ m ∧ ∀ x ∈ l, x.size ≤ e := by
  unfold lightB at h
  rw [Bool.and_eq_true, decide_eq_true_iff] at h
  exact ⟨h.1, fun x hx => of_decide_eq_true (List.all_eq_true.1 h.2 x hx)⟩
end Go.Proofs.YtoikneogdbdplaaDoor.Pl
namespace Go.Proofs.YtoikneogdbdplaaDoor.Fn
open Go.RowKit Go.Proofs.YtoikneogdbdplaaDoorW.PrintWords Go.Proofs.YtoikneogdbdplaaDoorW.PrintLast Go.Proofs.YtoikneogdbdplaaDoorW.PrintMore
attribute [local go_sem] max2_int min2_int max_two min_two max_three min_three max_four min_four
set_option linter.unusedVariables false
set_option linter.unusedSimpArgs false

/-! ### bulletinlaw20_MimeBack: function 6 -/
end Go.Proofs.YtoikneogdbdplaaDoor.Fn
set_option linter.unusedVariables false
set_option linter.unusedSimpArgs false
namespace Go.Proofs.YtoikneogdbdplaaDoor.Pl
open Go.RowKit Go.Proofs.YtoikneogdbdplaaDoorW.PrintWords Go.Proofs.YtoikneogdbdplaaDoor.Fn

theorem mimeFree_is (l : List ByteArray) (b : ByteArray) (hl : l.length ≤ 1000000) (hb : b.size ≤ 1000000) (hx : ∀ x ∈ l, x.size ≤ 1000000) : mime_Free.f l b = some (freeL b l) := by
  unfold mime_Free.f
  rw [if_pos hl, if_pos hb, if_pos (List.all_eq_true.2 fun x h => decide_eq_true (hx x h))]
end Go.Proofs.YtoikneogdbdplaaDoor.Pl
namespace Go.Proofs.YtoikneogdbdplaaDoor.Fn
open Go.RowKit Go.Proofs.YtoikneogdbdplaaDoorW.PrintWords Go.Proofs.YtoikneogdbdplaaDoorW.PrintLast Go.Proofs.YtoikneogdbdplaaDoorW.PrintMore
attribute [local go_sem] max2_int min2_int max_two min_two max_three min_three max_four min_four
set_option linter.unusedVariables false
set_option linter.unusedSimpArgs false

/-! ### nets_digits: function 144 -/
end Go.Proofs.YtoikneogdbdplaaDoor.Fn
namespace Go.Proofs.YtoikneogdbdplaaDoor.Fn
open Go.RowKit Go.Proofs.YtoikneogdbdplaaDoorW.PrintWords Go.Proofs.YtoikneogdbdplaaDoorW.PrintLast Go.Proofs.YtoikneogdbdplaaDoorW.PrintMore
attribute [local go_sem] max2_int min2_int max_two min_two max_three min_three max_four min_four
set_option linter.unusedVariables false
set_option linter.unusedSimpArgs false

/-! ### nets_Put: function 114 -/
end Go.Proofs.YtoikneogdbdplaaDoor.Fn
set_option linter.unusedVariables false
set_option linter.unusedSimpArgs false
namespace Go.Proofs.YtoikneogdbdplaaDoor.Pl
open Go.RowKit Go.Proofs.YtoikneogdbdplaaDoorW.PrintWords Go.Proofs.YtoikneogdbdplaaDoor.Fn

/-! Layer 1: digits and nets, the program's. -/
theorem wrap_nat (n : Nat) (h : n ≤ 9223372036854775807) : wrap64 ((n : Nat) : Int) = (n : Int) := wrap_id (by omega) (by omega)
theorem digit_byte (n : Nat) (h : n < 10) : strOfNums ([(wrap64 (48 + (n : Int))) % 256] : List Int) = str [UInt8.ofNat (48 + n)] := by
  rw [nums_one, show (48 : Int) + (n : Int) = ((48 + n : Nat) : Int) by omega, wrap_nat _ (by omega), show ((48 + n : Nat) : Int) % 256 = ((48 + n : Nat) : Int) by omega, Int.toNat_natCast]
end Go.Proofs.YtoikneogdbdplaaDoor.Pl
set_option linter.unusedVariables false
set_option linter.unusedSimpArgs false
namespace Go.Proofs.YtoikneogdbdplaaDoor.Pl
open Go.RowKit Go.Proofs.YtoikneogdbdplaaDoorW.PrintWords Go.Proofs.YtoikneogdbdplaaDoor.Fn

/-! Layer 20, the document's and the program's: free, and the boundary that is found. -/
theorem refDigits_end (k i : Nat) (acc : ByteArray) (hi : 0 < i) : bulletinref01_Digits.l0 (k + 1) 0 acc (i : Int) = some acc := by
  rw [bulletinref01_Digits.l0, if_neg (by omega), if_neg (by decide)]
theorem refDigits_l0 : ∀ (j n i k : Nat) (acc : Bytes), n < 10 ^ (j + 1) → n ≤ 1000000000000000000 → i + j < 20 → j + 2 ≤ k → acc.length ≤ i → (i = 0 ∨ 0 < n) → bulletinref01_Digits.l0 k (n : Int) (str acc) (i : Int) = some (str (dig j n ++ acc)) := by
  have step : ∀ (n i k : Nat) (acc : Bytes), n ≤ 1000000000000000000 → i < 20 → acc.length ≤ i → (i = 0 ∨ 0 < n) → bulletinref01_Digits.l0 (k + 1) (n : Int) (str acc) (i : Int) = bulletinref01_Digits.l0 k ((n / 10 : Nat) : Int) (str (UInt8.ofNat (48 + n % 10) :: acc)) ((i + 1 : Nat) : Int) := by
    intro n i k acc hn hi ha hz
    have e1 : Int.tdiv (n : Int) 10 = ((n / 10 : Nat) : Int) := rfl
    have e2 : Int.tmod (n : Int) 10 = ((n % 10 : Nat) : Int) := rfl
    have hs : (strOfNums ([(wrap64 (48 + ((n % 10 : Nat) : Int))) % 256] : List Int)).size + (str acc).size ≤ 9223372036854775807 := by
      rw [digit_byte (n % 10) (by omega), str_size, str_size]
      simp only [List.length_cons, List.length_nil]
      omega
    have he : strOfNums ([(wrap64 (48 + ((n % 10 : Nat) : Int))) % 256] : List Int) ++ str acc = str (UInt8.ofNat (48 + n % 10) :: acc) := by
      rw [digit_byte (n % 10) (by omega), str_app]
      rfl
    rw [bulletinref01_Digits.l0, e1, e2, wrap_nat (n / 10) (by omega), wrap_succ i (by omega), Option.bind_some, if_pos hs, he]
    by_cases h0 : i = 0
    · rw [if_pos (by omega)]
    · rw [if_neg (by omega), if_pos (by omega), if_pos (by omega)]
  intro j
  induction j with
  | zero =>
    intro n i k acc hn hb hij hk ha hz
    obtain ⟨k, rfl⟩ : ∃ q, k = q + 1 + 1 := ⟨k - 2, by omega⟩
    have hn : n < 10 := by simpa using hn
    rw [step n i (k + 1) acc hb (by omega) ha hz, show n / 10 = 0 by omega]
    exact refDigits_end k (i + 1) _ (by omega)
  | succ j ih =>
    intro n i k acc hn hb hij hk ha hz
    obtain ⟨k, rfl⟩ : ∃ q, k = q + 1 + 1 := ⟨k - 2, by omega⟩
    rw [step n i (k + 1) acc hb (by omega) ha hz]
    by_cases h : n < 10
    · rw [show n / 10 = 0 by omega, dig, if_pos h, Nat.mod_eq_of_lt h]
      exact refDigits_end k (i + 1) _ (by omega)
    · rw [ih (n / 10) (i + 1) (k + 1) _ (by rw [Nat.pow_succ] at hn; omega) (by omega) (by omega) (by omega) (by simp only [List.length_cons]; omega) (.inr (by omega)), dig, if_neg h]
      simp
theorem dig_zero (n : Nat) : dig 0 n = [UInt8.ofNat (48 + n % 10)] := by rw [dig]
theorem dig_succ (k n : Nat) : dig (k + 1) n = if n < 10 then [UInt8.ofNat (48 + n)] else dig k (n / 10) ++ [UInt8.ofNat (48 + n % 10)] := by rw [dig]
theorem dig_less : ∀ (j n : Nat), n < 10 ^ (j + 1) → dig (j + 1) n = dig j n
  | 0, n, h => by
    have h : n < 10 := by simpa using h
    rw [dig_succ, if_pos h, dig_zero, Nat.mod_eq_of_lt h]
  | j + 1, n, h => by
    rw [dig_succ (j + 1) n, dig_succ j n]
    by_cases h1 : n < 10
    · rw [if_pos h1, if_pos h1]
    · rw [if_neg h1, if_neg h1, dig_less j (n / 10) (by rw [Nat.pow_succ] at h; omega)]
theorem refDigits_is (n : Nat) (hn : n ≤ 1000000000000000000) (k : Nat) (hk : 30 ≤ k) : bulletinref01_Digits.f k (n : Int) = some (str (digL n)) := by
  unfold bulletinref01_Digits.f digL
  have h18 : n < 10 ^ (18 + 1) := by omega
  have h := refDigits_l0 18 n 0 k [] h18 hn (by omega) (by omega) (Nat.le_refl _) (.inl rfl)
  rw [List.append_nil] at h
  rw [dig_less 19 n (by omega), dig_less 18 n h18]
  exact h
theorem what_free (b x : ByteArray) : (whatN (trimR x) (bs b) = 0) = (freeX b x = true) := by
  have h1 := what_P x b
  have h2 := what_C x b
  have h3 := what_3 x b
  unfold freeX
  rw [Bool.not_eq_true', Bool.or_eq_false_iff, eq_iff_iff]
  constructor
  · intro h
    rw [h] at h1 h2
    exact ⟨by cases hp : whatP x b with | false => rfl | true => exact absurd (h1.symm ▸ hp : (0 : Int) = 1) (by decide), by cases hc : whatC x b with | false => rfl | true => exact absurd (h2.symm ▸ hc : (0 : Int) = 2) (by decide)⟩
  · rintro ⟨hp, hc⟩
    rcases h3 with h | h | h
    · exact h
    · rw [h1] at h
      rw [h] at hp
      cases hp
    · rw [h2] at h
      rw [h] at hc
      cases hc
theorem refFree_l1 (l : List ByteArray) (b : ByteArray) (hb : b.size ≤ 1000000) (i : Int) (L : List ByteArray) (hL : L.length ≤ 1000001) (hz : ∀ y ∈ L, y.size ≤ 1000000) (q : Nat) (hq : 2000000 ≤ q) : ∀ (d j : Nat), j + d = L.length →
    bulletinref20_Free.l1 (q + d + 1) l b i L (j : Int) = if (L.drop j).all (freeX b) = true then bulletinref20_Free.l0 q l b (wrap64 (i + 1)) else some false := by
  intro d
  induction d with
  | zero =>
    intro j hj
    rw [bulletinref20_Free.l1, if_neg (by omega), List.drop_of_length_le (by omega)]
    rfl
  | succ d ih =>
    intro j hj
    have hlt : j < L.length := by omega
    have hd : L.drop j = L[j] :: L.drop (j + 1) := List.drop_eq_getElem_cons hlt
    have hw := refWhat_is L[j] b (hz _ (List.getElem_mem hlt)) hb (q + (d + 1)) (by have := hz _ (List.getElem_mem hlt); omega)
    rw [bulletinref20_Free.l1, if_pos (by omega), if_pos (by omega), rdOf_nat L j hlt, hw, Option.bind_some, hd, List.all_cons]
    have hwf := what_free b L[j]
    cases hf : freeX b L[j] with
    | true =>
      have h0 : whatN (trimR L[j]) (bs b) = 0 := by rw [hwf]; exact hf
      rw [if_pos h0, wrap_succ j (by omega), Bool.true_and]
      exact ih (j + 1) (by omega)
    | false =>
      have h0 : ¬ whatN (trimR L[j]) (bs b) = 0 := fun h => by rw [hwf, hf] at h; cases h
      rw [if_neg h0]
      rfl
theorem linesL_len (s : ByteArray) : (linesL s).length ≤ s.size + 1 := cutsN_len _ _ _ _
theorem linesL_size {s x : ByteArray} (h : x ∈ linesL s) : x.size ≤ s.size := cuts_size h
theorem refFree_l0 (F : Nat) (hF : 4000000 ≤ F) (l : List ByteArray) (b : ByteArray) (hl : l.length ≤ 1000000) (hb : b.size ≤ 1000000) (hx : ∀ x ∈ l, x.size ≤ 1000000) : ∀ (d i k : Nat), i + d = l.length → (d + 1) * F ≤ k → bulletinref20_Free.l0 k l b (i : Int) = some ((l.drop i).all (freeP b)) := by
  intro d
  induction d with
  | zero =>
    intro i k hi hk
    rw [Nat.zero_add, Nat.one_mul] at hk
    obtain ⟨k, rfl⟩ : ∃ j, k = j + 1 := ⟨k - 1, by omega⟩
    rw [bulletinref20_Free.l0, if_neg (by omega), List.drop_of_length_le (by omega)]
    rfl
  | succ d ih =>
    intro i k hi hk
    have hlt : i < l.length := by omega
    rw [Nat.succ_mul] at hk
    obtain ⟨D, hD⟩ : ∃ D, (d + 1) * F = D := ⟨_, rfl⟩
    rw [hD] at hk
    obtain ⟨k, rfl⟩ : ∃ j, k = j + 1 := ⟨k - 1, by omega⟩
    have hs := hx _ (List.getElem_mem hlt)
    have hd : l.drop i = l[i] :: l.drop (i + 1) := List.drop_eq_getElem_cons hlt
    have hn := linesL_len l[i]
    rw [bulletinref20_Free.l0, if_pos (by omega), if_pos (by omega), rdOf_nat l i hlt, refLines_is l[i] hs k (by omega), Option.bind_some, ← linesL_is, hd, List.all_cons]
    obtain ⟨q, hq⟩ : ∃ q, k = q + (linesL l[i]).length + 1 := ⟨k - (linesL l[i]).length - 1, by omega⟩
    have h1 := refFree_l1 l b hb (i : Int) (linesL l[i]) (by omega) (fun y hy => Nat.le_trans (linesL_size hy) hs) q (by omega) (linesL l[i]).length 0 (by omega)
    rw [hq]
    rw [List.drop_zero] at h1
    rw [show ((0 : Nat) : Int) = 0 from rfl] at h1
    rw [h1]
    show (if freeP b l[i] = true then _ else _) = _
    cases hf : freeP b l[i] with
    | true => rw [if_pos rfl, wrap_succ i (by omega), Bool.true_and]; exact ih (i + 1) q (by omega) (by rw [hD]; omega)
    | false => rw [if_neg (by decide)]; rfl
theorem refFree_is (l : List ByteArray) (b : ByteArray) (hl : l.length ≤ 1000000) (hb : b.size ≤ 1000000) (hx : ∀ x ∈ l, x.size ≤ 1000000) (k : Nat) (hk : (l.length + 1) * 4000000 ≤ k) : bulletinref20_Free.f k l b = some (freeL b l) := by
  unfold bulletinref20_Free.f
  exact refFree_l0 4000000 (Nat.le_refl _) l b hl hb hx l.length 0 k (by omega) hk
theorem bndS_app (n : Nat) : (⟨#[61, 95]⟩ : ByteArray) ++ str (digL n) = bndS n := by
  apply bs_inj
  rw [bs_app, bs_str]
  unfold bndS
  rw [bs_str]
  rfl
theorem bndS_size (n : Nat) : (bndS n).size ≤ 23 := by
  unfold bndS bndL
  rw [str_size]
  have := digL_len n
  simp only [List.length_cons]
  omega
theorem boundary_l0 (l : List ByteArray) (hl : l.length ≤ 1000000) (hx : ∀ x ∈ l, x.size ≤ 1000000) : ∀ (d n k : Nat), d < k → n + d ≤ 1000000000 → freeL (bndS (n + d)) l = true → mime_Boundary.l0 k l (n : Int) = some (bndS (firstF l n d)) := by
  intro d
  induction d with
  | zero =>
    intro n k hk hn hf
    obtain ⟨k, rfl⟩ : ∃ j, k = j + 1 := ⟨k - 1, by omega⟩
    have hi : strconv_Itoa.f (n : Int) = some (str (digL n)) := by
      unfold strconv_Itoa.f itoL
      rw [if_pos (by omega), if_pos (by omega), if_neg (by omega), Int.toNat_natCast]
    have hd := digL_len n
    rw [Nat.add_zero] at hf
    rw [mime_Boundary.l0, hi, Option.bind_some, if_pos (by rw [str_size]; omega), bndS_app, mimeFree_is l _ hl (by have := bndS_size n; omega) hx, Option.bind_some, if_pos hf]
    rfl
  | succ d ih =>
    intro n k hk hn hf
    obtain ⟨k, rfl⟩ : ∃ j, k = j + 1 := ⟨k - 1, by omega⟩
    have hi : strconv_Itoa.f (n : Int) = some (str (digL n)) := by
      unfold strconv_Itoa.f itoL
      rw [if_pos (by omega), if_pos (by omega), if_neg (by omega), Int.toNat_natCast]
    have hd := digL_len n
    rw [mime_Boundary.l0, hi, Option.bind_some, if_pos (by rw [str_size]; omega), bndS_app, mimeFree_is l _ hl (by have := bndS_size n; omega) hx, Option.bind_some, firstF]
    by_cases h1 : freeL (bndS n) l = true
    · rw [if_pos h1, if_pos h1]
    · rw [if_neg h1, if_neg h1, wrap_succ n (by omega)]
      exact ih (n + 1) k (by omega) (by omega) (by rw [show n + 1 + d = n + (d + 1) by omega]; exact hf)
theorem refBoundary_l1 (l : List ByteArray) (hl : l.length ≤ 1000000) (hx : ∀ x ∈ l, x.size ≤ 1000000) (N : Nat) (F : Nat) (hF : 30 ≤ F) (hfr : ∀ k n, F ≤ k → bulletinref20_Free.f k l (bndS n) = some (freeL (bndS n) l)) : ∀ (d n k : Nat), d + F < k → n + d ≤ N → N ≤ 1000000000 → freeL (bndS (n + d)) l = true → bulletinref20_Boundary.l1 k l (N : Int) (n : Int) = some (bndS (firstF l n d)) := by
  intro d
  induction d with
  | zero =>
    intro n k hk hn hN hf
    obtain ⟨k, rfl⟩ : ∃ j, k = j + 1 := ⟨k - 1, by omega⟩
    rw [Nat.add_zero] at hf
    have hd := digL_len n
    rw [bulletinref20_Boundary.l1, if_pos (by omega), refDigits_is n (by omega) k (by omega), Option.bind_some, if_pos (by rw [str_size]; omega), bndS_app, hfr k n (by omega), Option.bind_some, if_pos hf]
    rfl
  | succ d ih =>
    intro n k hk hn hN hf
    obtain ⟨k, rfl⟩ : ∃ j, k = j + 1 := ⟨k - 1, by omega⟩
    have hd := digL_len n
    rw [bulletinref20_Boundary.l1, if_pos (by omega), refDigits_is n (by omega) k (by omega), Option.bind_some, if_pos (by rw [str_size]; omega), bndS_app, hfr k n (by omega), Option.bind_some, firstF]
    by_cases h1 : freeL (bndS n) l = true
    · rw [if_pos h1, if_pos h1]
    · rw [if_neg h1, if_neg h1, wrap_succ n (by omega)]
      exact ih (n + 1) k (by omega) (by omega) hN (by rw [show n + 1 + d = n + (d + 1) by omega]; exact hf)
theorem allLines_len (l : List ByteArray) (m : Nat) (hx : ∀ x ∈ l, x.size ≤ m) : (allLines l).length ≤ l.length * (m + 1) := by
  induction l with
  | nil => simp [allLines]
  | cons x l ih =>
    have h1 := ih (fun y hy => hx y (by simp [hy]))
    have h2 := linesL_len x
    have h3 := hx x (by simp)
    have e : allLines (x :: l) = linesL x ++ allLines l := rfl
    rw [e, List.length_append, List.length_cons, Nat.add_mul, Nat.one_mul]
    omega
theorem refBoundary_l0 (l : List ByteArray) (hl : l.length ≤ 20) (hx : ∀ x ∈ l, x.size ≤ 500) : ∀ (d i k F : Nat), i + d = l.length → 2000 ≤ F → bulletinref20_Boundary.l0 (F + d + 1) l ((1 + (allLines (l.take i)).length : Nat) : Int) (i : Int) = bulletinref20_Boundary.l1 F l ((1 + (allLines l).length : Nat) : Int) 0 := by
  intro d
  induction d with
  | zero =>
    intro i k F hi hF
    rw [bulletinref20_Boundary.l0, if_neg (by omega), List.take_of_length_le (by omega)]
  | succ d ih =>
    intro i k F hi hF
    have hlt : i < l.length := by omega
    have hs := hx _ (List.getElem_mem hlt)
    have hn := linesL_len l[i]
    have ha := allLines_len (l.take i) 500 (fun x h => hx x (List.mem_of_mem_take h))
    have ha2 : (l.take i).length * (500 + 1) ≤ 20 * 501 := Nat.mul_le_mul (by rw [List.length_take]; omega) (by omega)
    have e : allLines (l.take (i + 1)) = allLines (l.take i) ++ linesL l[i] := by
      rw [List.take_succ_eq_append_getElem hlt]
      unfold allLines
      rw [List.flatMap_append]
      simp
    have hw : wrap64 (((1 + (allLines (l.take i)).length : Nat) : Int) + (((linesL l[i]).length : Nat) : Int)) = ((1 + (allLines (l.take (i + 1))).length : Nat) : Int) := by
      rw [e, List.length_append, show ((1 + (allLines (l.take i)).length : Nat) : Int) + (((linesL l[i]).length : Nat) : Int) = ((1 + ((allLines (l.take i)).length + (linesL l[i]).length) : Nat) : Int) by omega, wrap_nat _ (by omega)]
    rw [bulletinref20_Boundary.l0, if_pos (by omega), if_pos (by omega), rdOf_nat l i hlt, refLines_is l[i] (by omega) (F + (d + 1)) (by omega), Option.bind_some, ← linesL_is, hw, wrap_succ i (by omega)]
    exact ih (i + 1) k F (by omega) hF
theorem boundary_both (l : List ByteArray) (hl : l.length ≤ 20) (hx : ∀ x ∈ l, x.size ≤ 500) : ∃ n, freeL (bndS n) l = true ∧ (∀ k, 200000000 ≤ k → mime_Boundary.f k l = some (bndS n) ∧ bulletinref20_Boundary.f k l = some (bndS n)) := by
  have ha := allLines_len l 500 hx
  have ha2 : l.length * (500 + 1) ≤ 20 * 501 := Nat.mul_le_mul hl (by omega)
  obtain ⟨N, hN, hf⟩ := free_exists l (by omega)
  have hf0 : freeL (bndS (0 + N)) l = true := by rw [Nat.zero_add]; exact hf
  have hff := firstF_free l N 0 hf0
  have hx2 : ∀ x ∈ l, x.size ≤ 1000000 := fun x h => by have := hx x h; omega
  refine ⟨firstF l 0 N, hff.1, fun k hk => ⟨?_, ?_⟩⟩
  · unfold mime_Boundary.f
    exact boundary_l0 l (by omega) hx2 N 0 k (by omega) (by omega) hf0
  · unfold bulletinref20_Boundary.f
    obtain ⟨F, hF⟩ : ∃ F, k = F + l.length + 1 := ⟨k - l.length - 1, by omega⟩
    have h0 := refBoundary_l0 l hl hx l.length 0 k F (by omega) (by omega)
    rw [hF]
    rw [show ((1 + (allLines (l.take 0)).length : Nat) : Int) = 1 from rfl, show ((0 : Nat) : Int) = 0 from rfl] at h0
    rw [h0]
    exact refBoundary_l1 l (by omega) hx2 (1 + (allLines l).length) 100000000 (by omega) (fun k n hk => refFree_is l _ (by omega) (by have := bndS_size n; omega) hx2 k (Nat.le_trans (Nat.mul_le_mul_right _ (show l.length + 1 ≤ 21 by omega)) (Nat.le_trans (by decide) hk))) N 0 F (by omega) (by omega) (by omega) hf0
end Go.Proofs.YtoikneogdbdplaaDoor.Pl
set_option linter.unusedVariables false
set_option linter.unusedSimpArgs false
namespace Go.Proofs.YtoikneogdbdplaaDoor.Pl
open Go.RowKit Go.Proofs.YtoikneogdbdplaaDoorW.PrintWords Go.Proofs.YtoikneogdbdplaaDoor.Fn

theorem MimeJoins (a0 : List ByteArray) (a1 : ByteArray) : ∃ k, bulletinlaw20_MimeJoins.f k a0 a1 = some true := by
  refine ⟨300000000 + 1, ?_⟩
  generalize hk : (300000000 : Nat) = k
  have hw := works20 k (by omega)
  have yes : bulletinlaw20_MimeJoins.j0 (k + 1) a0 a1 true = some true := by rw [bulletinlaw20_MimeJoins.j0, if_pos rfl, hw]; rfl
  have hlt := light_is a0 10 500 (by omega) (k + 1) (by omega)
  rw [show ((10 : Nat) : Int) = 10 from rfl, show ((500 : Nat) : Int) = 500 from rfl] at hlt
  unfold bulletinlaw20_MimeJoins.f
  rw [hlt, Option.bind_some]
  cases hB : lightB a0 10 500 with
  | false => rw [if_neg (by decide), yes]
  | true =>
    obtain ⟨hl, hx⟩ := lightB_true hB
    have hx2 : ∀ x ∈ a0, x.size ≤ 1000000 := fun x h => by have := hx x h; omega
    rw [if_pos rfl]
    by_cases h2 : (a1.size : Int) > 200
    · rw [decide_eq_true h2, yes]
    · obtain ⟨n, hf, hbb⟩ := boundary_both a0 (by omega) hx
      obtain ⟨hb1, hb2⟩ := hbb k (by omega)
      rw [decide_eq_false h2, bulletinlaw20_MimeJoins.j0, if_neg (by decide), mimeJoin_is a0 a1 (by omega) (by omega) hx2, Option.bind_some, refJoin_is a0 a1 (by omega) (by omega) hx2 k (by omega), Option.bind_some, if_pos rfl,
        mimeFree_is a0 a1 (by omega) (by omega) hx2, Option.bind_some,
        refFree_is a0 a1 (by omega) (by omega) hx2 k (Nat.le_trans (Nat.mul_le_mul_right _ (show a0.length + 1 ≤ 11 by omega)) (by rw [← hk]; decide)), Option.bind_some, if_pos (beq_self_eq_true _), hb1, Option.bind_some, hb2, Option.bind_some, if_pos rfl, hw]
      rfl
end Go.Proofs.YtoikneogdbdplaaDoor.Pl
set_option linter.unusedVariables false
namespace Go.Proofs.YtoikneogdbdplaaDoor.Fn
open Go.RowKit Go.ChangeShapes Go.WideShapes Go.Proofs.YtoikneogdbdplaaDoorW.PrintWords

/-! A slice of texts that came in. -/
set_option maxRecDepth 100000 in
theorem open_texts {H : Type} {enc : TypeId × Value → H} {w W : World} {base base' : Nat} {spare : Nat → Bool} {held : Bool} {re : Reach} {v : Value} {d : DataW H} {ps : List MemPlace}
    (hv : Value.okWide Tryd.prog W re base' 32 v) (h : DataW.Trod enc Tryd.prog w base spare held 32 v d ps) :
    ∃ (A : Option Addr) (c : Nat) (l : List ByteArray), v = .slice A l.length c ∧ l.length ≤ c ∧ c ≤ maxLen ∧ Kd.C Kd.string w A l.length l := by
  obtain ⟨a, len, cap, rfl⟩ := okWide_slice Tryd.underlying32 hv
  obtain ⟨fuel, h⟩ := h
  have h' : DataW.trod enc Tryd.prog w base spare held fuel 32 [Value.slice a len cap] = some (d, ps) := h
  rcases open_strings Tryd.underlying32 Tryd.underlying9 (by kernel_rfl) h' with ⟨h0, _⟩ | ⟨a', len', cap', ss, h0, _, hl, hm, hlen, _, hc, _⟩
  · refine ⟨none, 0, [], ?_, Nat.le_refl _, Nat.zero_le _, ?_⟩
    · simpa using h0
    · exact ⟨rfl, by simp, fun h => absurd h (by simp)⟩
  · have hll : len' ≤ ss.length := by rw [hlen]; split <;> omega
    have hlt : (ss.take len').length = len' := by rw [List.length_take]; omega
    refine ⟨some a', cap', ss.take len', ?_, by rw [hlt]; exact hl, hm, ?_⟩
    · rw [hlt]; simpa using h0
    · rw [hlt]
      refine ⟨hlt, by unfold maxLen at hm; omega, fun _ => ⟨a', rfl, fun j p hp => ?_⟩⟩
      have hj : j < len' := by
        have := (List.getElem?_eq_some_iff.1 hp).1
        rwa [hlt] at this
      have hp' : p = ss.getD j ByteArray.empty := by
        rw [List.getElem?_take_of_lt hj] at hp
        rw [List.getD_eq_getElem?_getD, hp]
        rfl
      subst hp'
      refine ⟨[.string (ss.getD j ByteArray.empty)], rfl, rfl, fun i u hu => ?_⟩
      match i, hu with
      | 0, hu => obtain rfl := Option.some.inj hu; have hz : Kd.string.sz = 1 := rfl; simpa [Addr.add, hz] using hc j (by omega)
      | i + 1, hu => simp at hu
end Go.Proofs.YtoikneogdbdplaaDoor.Fn
